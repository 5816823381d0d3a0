/- A record read: the program's. -/
import Derived.Test.YtlhcmgjkhkcgcaaDoorRecord
namespace Go.Proofs.YtlhcmgjkhkcgcaaDoor.record
open Go.RowKit
open Go.Proofs.YtlhcmgjkhkcgcaaDoor.stepkit Go.Proofs.YtlhcmgjkhkcgcaaDoor.obj Go.Proofs.YtlhcmgjkhkcgcaaDoor.row Go.Proofs.YtlhcmgjkhkcgcaaDoor.mix Go.Proofs.YtlhcmgjkhkcgcaaDoor.idkit Go.Proofs.YtlhcmgjkhkcgcaaDoor.bytes Go.Proofs.YtlhcmgjkhkcgcaaDoor.octet

def Rd (w : World) (p : Nat) (s : ByteArray) (k : Nat) (bad : Int) : Prop := RdAt p s k bad (fun i => i = p) w
theorem rd_step {w w' : World} {p : Nat} {s : ByteArray} {k : Nat} {bad : Int} (h : Step (fun i => i = p) (RdAt p s k bad) w w') : Rd w' p s k bad ∧ Turns (fun i => i = p) w w' := by
  obtain ⟨F', ha, ht, _⟩ := h
  have hF := ha.2
  subst hF
  exact ⟨ha, ht⟩
theorem Rd.turns {w w' : World} {p : Nat} {s : ByteArray} {k : Nat} {bad : Int} {G : Nat → Prop} (h : Rd w p s k bad) (ht : Turns G w w') (hn : ¬ G p) : Rd w' p s k bad := (local_rd p s k bad).keep h ht (fun i hi hg => hn (hi ▸ hg))
/-- What a number's reading does. -/
def NumR (s : ByteArray) (k : Nat) (bad : Int) (j : Nat) (v : Int) (k' : Nat) (bad' : Int) : Prop :=
  (bad = 0 ∧ k + j ≤ s.size ∧ v = (val ((s.data.toList.drop k).take j) : Int) ∧ k' = k + j ∧ bad' = 0) ∨ ((bad = 2 ∨ s.size < k + j) ∧ v = 0 ∧ bad' = 2)
def RawR (s : ByteArray) (k : Nat) (bad : Int) (n : Nat) (v : ByteArray) (k' : Nat) (bad' : Int) : Prop :=
  (bad = 0 ∧ k + n ≤ s.size ∧ v = s.extract k (k + n) ∧ k' = k + n ∧ bad' = 0) ∨ ((bad = 2 ∨ s.size < k + n) ∧ v = nil ∧ bad' = 2)
theorem num_st (p : Nat) (s : ByteArray) (k : Nat) (bad : Int) (j : Nat) (w : World) (h : Rd w p s k bad) (hb : bad = 0 ∨ bad = 2) (hj : j = 1 ∨ j = 4) (hs : s.size ≤ 16777216) (hk : k ≤ s.size) :
    Calls Tryd.prog 100 #[.pointer (some ⟨p, 0, none⟩), .int .i64 j] w fun e w' => ∃ v k' bad', e = .returned (.int .i64 v) ∧ Rd w' p s k' bad' ∧ Turns (fun i => i = p) w w' ∧ k' ≤ s.size ∧ (bad' = 0 ∨ bad' = 2) ∧ NumR s k bad j v k' bad' := by
  rcases hb with rfl | rfl
  · by_cases hl : k + j ≤ s.size
    · refine (num_ok p s k j _ w h hj hs hl).mono fun e w' ⟨he, hst⟩ => ?_
      obtain ⟨h1, h2⟩ := rd_step hst
      exact ⟨_, _, _, he, h1, h2, hl, Or.inl rfl, Or.inl ⟨rfl, hl, rfl, rfl, rfl⟩⟩
    · refine (num_short p s k j _ w h hj hs hk (by omega)).mono fun e w' ⟨he, hst⟩ => ?_
      obtain ⟨h1, h2⟩ := rd_step hst
      exact ⟨_, _, _, he, h1, h2, hk, Or.inr rfl, Or.inr ⟨Or.inr (by omega), rfl, rfl⟩⟩
  · refine (num_stuck p s k j _ w h).mono fun e w' ⟨he, hst⟩ => ?_
    subst hst
    exact ⟨_, _, _, he, h, Turns.refl _ _, hk, Or.inr rfl, Or.inr ⟨Or.inl rfl, rfl, rfl⟩⟩
theorem raw_st (p : Nat) (s : ByteArray) (k : Nat) (bad : Int) (n : Nat) (w : World) (h : Rd w p s k bad) (hb : bad = 0 ∨ bad = 2) (hs : s.size ≤ 16777216) (hk : k ≤ s.size) :
    Calls Tryd.prog 102 #[.pointer (some ⟨p, 0, none⟩), .int .i64 n] w fun e w' => ∃ v k' bad', e = .returned (.string v) ∧ Rd w' p s k' bad' ∧ Turns (fun i => i = p) w w' ∧ k' ≤ s.size ∧ (bad' = 0 ∨ bad' = 2) ∧ RawR s k bad n v k' bad' := by
  rcases hb with rfl | rfl
  · by_cases hl : k + n ≤ s.size
    · refine (raw_ok p s k n _ w h hs hl).mono fun e w' ⟨he, hst⟩ => ?_
      obtain ⟨h1, h2⟩ := rd_step hst
      exact ⟨_, _, _, he, h1, h2, hl, Or.inl rfl, Or.inl ⟨rfl, hl, rfl, rfl, rfl⟩⟩
    · refine (raw_short p s k n _ w h hs hk (by omega)).mono fun e w' ⟨he, hst⟩ => ?_
      obtain ⟨h1, h2⟩ := rd_step hst
      exact ⟨_, _, _, he, h1, h2, hk, Or.inr rfl, Or.inr ⟨Or.inr (by omega), rfl, rfl⟩⟩
  · refine (raw_stuck p s k n _ w h).mono fun e w' ⟨he, hst⟩ => ?_
    subst hst
    exact ⟨_, _, _, he, h, Turns.refl _ _, hk, Or.inr rfl, Or.inr ⟨Or.inl rfl, rfl, rfl⟩⟩
/-- The reader and the result's cell. -/
structure RS (w : World) (H p : Nat) (s : ByteArray) (k : Nat) (bad : Int) (W : World) : Prop where
  rd : Rd W p s k bad
  cell : W.heap[H]? = some (.cells #[.int .i64 0, .string nil] 23 (0, 0))
  t : Turns nobody w W
  le : k ≤ s.size
  ok : bad = 0 ∨ bad = 2
  new : w.heap.size ≤ p ∧ H ≠ p
theorem RS.step {w W W' : World} {H p : Nat} {s : ByteArray} {k k' : Nat} {bad bad' : Int} (h : RS w H p s k bad W) (h1 : Rd W' p s k' bad') (h2 : Turns (fun i => i = p) W W') (h3 : k' ≤ s.size) (h4 : bad' = 0 ∨ bad' = 2) : RS w H p s k' bad' W' :=
  ⟨h1, heap_newer h.cell h2 h.new.2, h.t.trans h2 (fun i hi => Or.inr (hi ▸ h.new.1)), h3, h4, h.new⟩
theorem RS.num {w W : World} {H p : Nat} {s : ByteArray} {k : Nat} {bad : Int} (h : RS w H p s k bad W) (j : Nat) (hj : j = 1 ∨ j = 4) (hs : s.size ≤ 16777216) :
    Calls Tryd.prog 100 #[.pointer (some ⟨p, 0, none⟩), .int .i64 j] W fun e w' => ∃ v k' bad', e = .returned (.int .i64 v) ∧ RS w H p s k' bad' w' ∧ NumR s k bad j v k' bad' := by
  refine (num_st p s k bad j W h.rd h.ok hj hs h.le).mono ?_
  rintro e w' ⟨v, k', bad', he, h1, h2, h3, h4, h5⟩
  exact ⟨v, k', bad', he, h.step h1 h2 h3 h4, h5⟩
theorem RS.raw {w W : World} {H p : Nat} {s : ByteArray} {k : Nat} {bad : Int} (h : RS w H p s k bad W) (n : Nat) (hs : s.size ≤ 16777216) :
    Calls Tryd.prog 102 #[.pointer (some ⟨p, 0, none⟩), .int .i64 n] W fun e w' => ∃ v k' bad', e = .returned (.string v) ∧ RS w H p s k' bad' w' ∧ RawR s k bad n v k' bad' := by
  refine (raw_st p s k bad n W h.rd h.ok hs h.le).mono ?_
  rintro e w' ⟨v, k', bad', he, h1, h2, h3, h4, h5⟩
  exact ⟨v, k', bad', he, h.step h1 h2 h3 h4, h5⟩
theorem RS.err {w W : World} {H p : Nat} {s : ByteArray} {k : Nat} {bad : Int} (h : RS w H p s k bad W) :
    Calls Tryd.prog 101 #[.pointer (some ⟨p, 0, none⟩)] W fun e w' => e = .returned (.int .i64 bad) ∧ W = w' := err_any p s k bad _ W h.rd
theorem RS.still {w W W' : World} {H p : Nat} {s : ByteArray} {k : Nat} {bad : Int} (h : RS w H p s k bad W) (ht : Turns nobody W W') : RS w H p s k bad W' :=
  ⟨h.rd.turns ht (fun h => h), heap_newer h.cell ht (fun h => h), h.t.trans ht (fun _ h => h.elim), h.le, h.ok, h.new⟩
theorem build_rec (W : World) : (Instr.build 23 #[]).run Tryd.prog W = .ok (.agg #[.int .i64 0, .string nil]) W := by kernel_rfl
theorem build_rec2 (K : Int) (B : ByteArray) (W : World) : (Instr.build 23 #[(0, .int .i64 K), (1, .string B)]).run Tryd.prog W = .ok (.agg #[.int .i64 K, .string B]) W := by kernel_rfl

theorem infoRec : (Tryd.prog.info? 23).map (·.size) = some 2 := by kernel_rfl
theorem results_rec {fn : Func} {s u : Tmp} (h : fn.results = #[.cell s 23, .tmp u]) (tmps : Array Value) (w : World) {b : Nat} {K : Int} {B : ByteArray} {x : Value} (hs : tmps.getD s undef = .pointer (some ⟨b, 0, none⟩)) (hu : tmps.getD u undef = x)
    (hb : w.heap[b]? = some (.cells #[.int .i64 K, .string B] 23 (0, 0))) : (results fn tmps).run Tryd.prog w = .ok (.tuple #[recV K B, x]) w := by
  have hload := run_loadVar_mid (P := Tryd.prog) w b 0 23 [.int .i64 K, .string B] _ (range_of hb) Tryd.underlying23 rfl infoRec
  have hs' : tmps[s]?.getD undef = .pointer (some ⟨b, 0, none⟩) := by rw [← hs]; simp
  have hu' : tmps[u]?.getD undef = x := by rw [← hu]; simp
  simp [results, h, hs', hu', hload, asAddr, recV]
/-- A record goes into its cell. -/
theorem put_rec {w W : World} {H : Nat} {K0 K : Int} {B0 B : ByteArray} (h : W.heap[H]? = some (.cells #[.int .i64 K0, .string B0] 23 (0, 0))) (ht : Turns nobody w W) (hH : w.heap.size ≤ H) :
    ((W.setCell ⟨H, 0, none⟩ (.int .i64 K)).setCell ⟨H, 1, none⟩ (.string B)).heap[H]? = some (.cells #[.int .i64 K, .string B] 23 (0, 0)) ∧ Turns nobody w ((W.setCell ⟨H, 0, none⟩ (.int .i64 K)).setCell ⟨H, 1, none⟩ (.string B)) :=
  ⟨heap_setCell_at (heap_setCell_at h 0 _) 1 _, (ht.setCell H 0 _ (Or.inr hH)).setCell H 1 _ (Or.inr hH)⟩

theorem fits_any' (s : ByteArray) (c : Int) (w : World) (hs : s.size ≤ maxLen) (ht : crc.TabAt w) :
    Calls Tryd.prog 103 #[.string s, .int .u32 c] w fun e w' => e = .returned (.bool (((crc.add 0#32 s.data.toList).toNat : Int) == c)) ∧ Turns nobody w w' :=
  (crc.fits_any s c w hs ht).mono fun e w' ⟨h1, h2⟩ => ⟨h1, Turns.drawn h2⟩
set_option maxRecDepth 10000 in
set_option maxHeartbeats 1000000 in
theorem read_any (s : ByteArray) (w : World) (hs : s.size ≤ 16777216) (ht : crc.TabAt w) :
    Calls Tryd.prog 72 #[.string s] w fun e w' => e = .returned (.tuple #[recV (recK s) (recB s), .int .i64 (errOf s)]) ∧ Turns nobody w w' := by
  obtain ⟨H, hH⟩ : ∃ H, w.heap.size = H := ⟨_, rfl⟩
  obtain ⟨wa, hwa⟩ : ∃ wa, wa = w.alloc (.cells #[.int .i64 0, .string nil] 23) := ⟨_, rfl⟩
  obtain ⟨wb, hwb⟩ : ∃ wb, wb = wa.alloc (.cells (rcs s 0 0) 168) := ⟨_, rfl⟩
  have ta : Turns nobody w wa := by rw [hwa]; exact (Turns.refl _ _).alloc _
  have za : wa.heap.size = H + 1 := by rw [hwa, ← hH]; simp
  have h0 : RS w H (H + 1) s 0 0 wb := by
    obtain ⟨hr, hb⟩ := open_at hwb
    rw [za] at hr
    refine ⟨hr, heap_newer (by rw [hwa, ← hH]; exact heap_alloc_new w _) hb (fun h => h), ta.trans hb (fun _ h => h.elim), Nat.zero_le _, Or.inl rfl, by omega, by omega⟩
  have hopen := open_any s wa
  rw [za, ← hwb] at hopen
  have hb0 := build_rec
  have hb2 := build_rec2
  have HWA := Lib.hid hwa
  have H0 := Lib.hid h0
  have HTB := Lib.hid ht
  have hgl : 0 < H := by rw [← hH]; exact Tab.lt ht
  clear hwa hwb ta h0 ht
  go_enter Tryd.func72, Tryd.ntmps72
  go_upto_region 1 with fail
  rw [show (⟨#[]⟩ : ByteArray) = nil from rfl, ← HWA.out]
  go_upto_region 3 with first
    | (go_at_call 99; refine hopen.mono ?_; rintro e w' ⟨rfl, rfl⟩)
    | (go_at_call 100; refine (H0.out.num 4 (Or.inr rfl) hs).mono ?_; rintro e w1 ⟨v1, k1, b1, rfl, h1, r1⟩; have H1 := Lib.hid h1; have R1 := Lib.hid r1; clear h1 r1)
  rcases R1.out with ⟨_, hl4, rfl, rfl, rfl⟩ | ⟨hl4, rfl, rfl⟩
  rotate_left
  · have hE : errOf s = 2 := by
      unfold errOf
      rcases hl4 with h | h
      · cases h
      · rw [if_pos (by omega)]
    have c0 := cells_of H1.out.cell 0 _ rfl
    have c1 := cells_of H1.out.cell 1 _ rfl
    have f0 := free_of H1.out.cell 0
    have f1 := free_of H1.out.cell 1
    clear R1
    go_wp2_with (go_at_call 101; refine H1.out.err.mono ?_; rintro e w' ⟨rfl, rfl⟩)
    have hp := put_rec (K := 0) (B := nil) H1.out.cell H1.out.t (by omega)
    refine bodyPost_ret (results_rec rfl _ _ rfl rfl hp.1) rfl ⟨?_, hp.2⟩
    unfold recK recB; rw [hE]; rfl
  · have hn4 : (val ((s.data.toList.drop 0).take 4) : Int) = (n4 s : Int) := rfl
    rw [hn4]
    obtain ⟨n, hn⟩ : ∃ n, n4 s = n := ⟨_, rfl⟩
    rw [hn]
    by_cases hbig : 1048576 < n
    · have hE : errOf s = 3 := by unfold errOf; rw [if_neg (by omega), if_pos (by omega)]
      have c0 := cells_of H1.out.cell 0 _ rfl
      have c1 := cells_of H1.out.cell 1 _ rfl
      have f0 := free_of H1.out.cell 0
      have f1 := free_of H1.out.cell 1
      have hbi : (1048576 : Int) < (n : Int) := by omega
      clear R1
      go_wp2_with (go_at_call 101; refine H1.out.err.mono ?_; rintro e w' ⟨rfl, rfl⟩)
      have hp := put_rec (K := 0) (B := nil) H1.out.cell H1.out.t (by omega)
      refine bodyPost_ret (results_rec rfl _ _ rfl rfl hp.1) rfl ⟨?_, hp.2⟩
      unfold recK recB; rw [hE]; rfl
    · have hbi : ¬ (1048576 : Int) < (n : Int) := by omega
      have HN := Lib.hid hn
      clear R1 hn4 hn
      go_upto_region 8 with first
        | (go_at_call 101; refine H1.out.err.mono ?_; rintro e w' ⟨rfl, rfl⟩)
        | (go_at_call 100; refine (H1.out.num 1 (Or.inl rfl) hs).mono ?_; rintro e w2 ⟨v2, k2, b2, rfl, h2, r2⟩; have H2 := Lib.hid h2; have R2 := Lib.hid r2; clear h2 r2)
        | (go_at_call 102; refine (H2.out.raw n hs).mono ?_; rintro e w3 ⟨v3, k3, b3, rfl, h3, r3⟩; have H3 := Lib.hid h3; have R3 := Lib.hid r3; clear h3 r3)
      obtain ⟨V, hV⟩ : ∃ V, w3.heap.size = V := ⟨_, rfl⟩
      obtain ⟨w4, hw4⟩ : ∃ w4, w4 = (w3.alloc (.cells #[.int .i64 v2, .string v3] 23)) := ⟨_, rfl⟩
      rw [← hw4, hV]
      have t4 : Turns nobody w3 w4 := by rw [hw4]; exact (Turns.refl _ _).alloc _
      have hc4 : w4.heap[V]? = some (.cells #[.int .i64 v2, .string v3] 23 (0, 0)) := by rw [hw4, ← hV]; exact heap_alloc_new w3 _
      have hVH : H + 1 < V := by rw [← hV]; exact (local_rd _ _ _ _ _ _ H3.out.rd).1 _ rfl
      have H4 := Lib.hid (H3.out.still t4)
      have HC4 := Lib.hid hc4
      clear hw4 hV t4 hc4
      go_upto_region 9 with (go_at_call 100; refine (num_st _ _ _ _ 4 _ H4.out.rd H4.out.ok (Or.inr rfl) hs H4.out.le).mono ?_; rintro e w5 ⟨v5, k5, b5, rfl, h5, t5, l5, o5, r5⟩; have H5 := Lib.hid (H4.out.step h5 t5 l5 o5); have HC5 := Lib.hid (heap_newer HC4.out t5 (by omega)); have R5 := Lib.hid r5; clear h5 t5 r5 l5 o5)
      rcases R5.out with ⟨rfl, hl9, rfl, rfl, rfl⟩ | ⟨hl9, rfl, rfl⟩
      rotate_left
      · have hE : errOf s = 2 := by
          have h9 : s.size < n + 9 := by
            rcases hl9 with rfl | hl9
            · rcases R3.out with ⟨_, _, _, _, h⟩ | ⟨h, _, _⟩
              · cases h
              · rcases h with rfl | h
                · rcases R2.out with ⟨_, _, _, _, h⟩ | ⟨h, _, _⟩
                  · cases h
                  · rcases h with h | h
                    · cases h
                    · omega
                · rcases R2.out with ⟨_, _, _, h', _⟩ | ⟨h', _, _⟩
                  · omega
                  · rcases h' with h' | h'
                    · cases h'
                    · omega
            · rcases R3.out with ⟨_, _, _, h, _⟩ | ⟨h, _, h3⟩
              · rcases R2.out with ⟨_, _, _, h', _⟩ | ⟨h', _, h3⟩
                · omega
                · rcases h' with h' | h'
                  · cases h'
                  · omega
              · rcases h with h | h
                · rcases R2.out with ⟨_, _, _, _, h'⟩ | ⟨h', _, _⟩
                  · omega
                  · rcases h' with h' | h'
                    · cases h'
                    · omega
                · rcases R2.out with ⟨_, _, _, h', _⟩ | ⟨h', _, _⟩
                  · omega
                  · rcases h' with h' | h'
                    · cases h'
                    · omega
          unfold errOf
          rw [HN.out, if_neg (by omega), if_neg (by omega), if_pos h9]
        have c0 := cells_of H5.out.cell 0 _ rfl
        have c1 := cells_of H5.out.cell 1 _ rfl
        have f0 := free_of H5.out.cell 0
        have f1 := free_of H5.out.cell 1
        clear R2 R3 R5 hl9
        go_wp2_with (go_at_call 101; refine H5.out.err.mono ?_; rintro e w' ⟨rfl, rfl⟩)
        have hp := put_rec (K := 0) (B := nil) H5.out.cell H5.out.t (by omega)
        refine bodyPost_ret (results_rec rfl _ _ rfl rfl hp.1) rfl ⟨?_, hp.2⟩
        unfold recK recB; rw [hE]; rfl
      · rcases R3.out with ⟨rfl, hl5, hv3, hk3, _⟩ | ⟨_, _, h⟩
        rotate_left
        · cases h
        rcases R2.out with ⟨_, _, hv2, hk2, _⟩ | ⟨_, _, h⟩
        rotate_left
        · cases h
        have e2 : v2 = (kOf s : Int) := by rw [hv2]; rfl
        have e3 : v3 = bodyOf s := by rw [hv3, hk2]; unfold bodyOf; rw [HN.out]
        have e5 : (val ((s.data.toList.drop k3).take 4) : Int) = (sumOf s : Int) := by rw [hk3, hk2]; unfold sumOf; rw [HN.out]
        rw [e5]
        subst e2 e3
        have h9 : n + 9 ≤ s.size := by omega
        have hbs : (bodyOf s).size ≤ 16777216 := by unfold bodyOf; rw [ByteArray.size_extract]; omega
        clear R2 R3 R5 hv2 hv3 hk2 hk3 e5 hl5 hl9
        have d0 := cells_of HC5.out 0 _ rfl
        have d1 := cells_of HC5.out 1 _ rfl
        by_cases hk : 1 ≤ kOf s ∧ kOf s ≤ 3
        · have hkn := fun W => known_any (kOf s) W
          rw [decide_eq_true (p := 1 ≤ (kOf s : Int) ∧ (kOf s : Int) ≤ 3) (by omega)] at hkn
          have hin := fun W => inner_any (kOf s) (bodyOf s) hk.2 hbs W
          have hisz := inner_size (kOf s) (bodyOf s)
          have hcc : (((crc.add 0#32 (innerB (kOf s) (bodyOf s)).data.toList).toNat : Int) == (sumOf s : Int)) = decide (crcOf (kOf s) (bodyOf s) = sumOf s) := by
            unfold crcOf
            rw [Bool.eq_iff_iff]
            simp
            omega
          have hft := fun W hW => fits_any' (innerB (kOf s) (bodyOf s)) (sumOf s) W (by rw [hisz]; unfold maxLen; omega) hW
          rw [hcc] at hft
          have hsm : (sumOf s : Int) % 4294967296 = (sumOf s : Int) := by have := sum_lt s; omega
          have hK := Lib.hid hk
          have HKN := Lib.hid hkn
          have HIN := Lib.hid hin
          have HFT := Lib.hid hft
          unfold recV at HIN
          by_cases hcrc : crcOf (kOf s) (bodyOf s) = sumOf s
          · have hE : errOf s = 0 := by
              unfold errOf
              rw [HN.out, if_neg (by omega), if_neg (by omega), if_neg (by omega), if_neg (by simpa using hk), if_neg (by simpa using hcrc)]
            rw [decide_eq_true hcrc] at HFT
            have HE := Lib.hid hE
            clear hE hcrc hcc hft hin hkn hisz hk
            generalize innerB (kOf s) (bodyOf s) = I at *
            have hrec : Hid (recK s = kOf s ∧ recB s = bodyOf s) := Lib.hid (by unfold recK recB; rw [HE.out]; exact ⟨rfl, rfl⟩)
            generalize kOf s = K at *
            generalize bodyOf s = B at *
            generalize sumOf s = S at *
            go_wp2_with first
              | (go_at_call 101; refine H5.out.err.mono ?_; rintro e w' ⟨rfl, rfl⟩)
              | (go_at_call 62; refine (HKN.out _).mono ?_; rintro e w' ⟨rfl, rfl⟩)
              | (go_at_call 63; refine (HIN.out _).mono ?_; rintro e w6 ⟨rfl, t6⟩; have H6 := Lib.hid (H5.out.still t6); have HC6 := Lib.hid (heap_newer HC5.out t6 (fun h => h)); clear t6)
              | (go_at_call 103; refine (HFT.out _ (Tab.turns HTB.out H6.out.t (fun h => h))).mono ?_; rintro e w7 ⟨rfl, t7⟩; have H7 := Lib.hid (H6.out.still t7); have d0 := cells_of (heap_newer HC6.out t7 (fun h => h)) 0 _ rfl; have d1 := cells_of (heap_newer HC6.out t7 (fun h => h)) 1 _ rfl; have c0 := cells_of H7.out.cell 0 _ rfl; have c1 := cells_of H7.out.cell 1 _ rfl; have f0 := free_of H7.out.cell 0; have f1 := free_of H7.out.cell 1; clear t7)
            have hp := put_rec (K := K) (B := B) H7.out.cell H7.out.t (by omega)
            refine bodyPost_ret (results_rec rfl _ _ rfl rfl hp.1) rfl ⟨?_, hp.2⟩
            rw [hrec.out.1, hrec.out.2, HE.out]; rfl
          · have hE : errOf s = 13 := by
              unfold errOf
              rw [HN.out, if_neg (by omega), if_neg (by omega), if_neg (by omega), if_neg (by simpa using hk), if_pos (by simpa using hcrc)]
            rw [decide_eq_false hcrc] at HFT
            have HE := Lib.hid hE
            clear hE hcrc hcc hft hin hkn hisz hk
            generalize innerB (kOf s) (bodyOf s) = I at *
            have hrec : Hid (recK s = 0 ∧ recB s = nil) := Lib.hid (by unfold recK recB; rw [HE.out]; exact ⟨rfl, rfl⟩)
            generalize kOf s = K at *
            generalize bodyOf s = B at *
            generalize sumOf s = S at *
            go_wp2_with first
              | (go_at_call 101; refine H5.out.err.mono ?_; rintro e w' ⟨rfl, rfl⟩)
              | (go_at_call 62; refine (HKN.out _).mono ?_; rintro e w' ⟨rfl, rfl⟩)
              | (go_at_call 63; refine (HIN.out _).mono ?_; rintro e w6 ⟨rfl, t6⟩; have H6 := Lib.hid (H5.out.still t6); have HC6 := Lib.hid (heap_newer HC5.out t6 (fun h => h)); clear t6)
              | (go_at_call 103; refine (HFT.out _ (Tab.turns HTB.out H6.out.t (fun h => h))).mono ?_; rintro e w7 ⟨rfl, t7⟩; have H7 := Lib.hid (H6.out.still t7); have d0 := cells_of (heap_newer HC6.out t7 (fun h => h)) 0 _ rfl; have d1 := cells_of (heap_newer HC6.out t7 (fun h => h)) 1 _ rfl; have c0 := cells_of H7.out.cell 0 _ rfl; have c1 := cells_of H7.out.cell 1 _ rfl; have f0 := free_of H7.out.cell 0; have f1 := free_of H7.out.cell 1; clear t7)
            have hp := put_rec (K := 0) (B := nil) H7.out.cell H7.out.t (by omega)
            refine bodyPost_ret (results_rec rfl _ _ rfl rfl hp.1) rfl ⟨?_, hp.2⟩
            rw [hrec.out.1, hrec.out.2, HE.out]; rfl
        · have hE : errOf s = 10 := by
            unfold errOf
            rw [HN.out, if_neg (by omega), if_neg (by omega), if_neg (by omega), if_pos hk]
          have c0 := cells_of H5.out.cell 0 _ rfl
          have c1 := cells_of H5.out.cell 1 _ rfl
          have f0 := free_of H5.out.cell 0
          have f1 := free_of H5.out.cell 1
          have hkn := fun W => known_any (kOf s) W
          rw [decide_eq_false (p := 1 ≤ (kOf s : Int) ∧ (kOf s : Int) ≤ 3) (by omega)] at hkn
          have HKN := Lib.hid hkn
          clear hk hkn
          go_wp2_with first
            | (go_at_call 101; refine H5.out.err.mono ?_; rintro e w' ⟨rfl, rfl⟩)
            | (go_at_call 62; refine (HKN.out _).mono ?_; rintro e w' ⟨rfl, rfl⟩)
          have hp := put_rec (K := 0) (B := nil) H5.out.cell H5.out.t (by omega)
          refine bodyPost_ret (results_rec rfl _ _ rfl rfl hp.1) rfl ⟨?_, hp.2⟩
          unfold recK recB; rw [hE]; rfl
end Go.Proofs.YtlhcmgjkhkcgcaaDoor.record
