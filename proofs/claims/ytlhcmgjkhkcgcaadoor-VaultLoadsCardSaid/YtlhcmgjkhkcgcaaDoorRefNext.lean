/- The reference's record at a place. -/
import Derived.Test.YtlhcmgjkhkcgcaaDoorRefPut
namespace Go.Proofs.YtlhcmgjkhkcgcaaDoor.record
open Go.RowKit
open Go.Proofs.YtlhcmgjkhkcgcaaDoor.stepkit Go.Proofs.YtlhcmgjkhkcgcaaDoor.obj Go.Proofs.YtlhcmgjkhkcgcaaDoor.row Go.Proofs.YtlhcmgjkhkcgcaaDoor.mix Go.Proofs.YtlhcmgjkhkcgcaaDoor.idkit Go.Proofs.YtlhcmgjkhkcgcaaDoor.bytes Go.Proofs.YtlhcmgjkhkcgcaaDoor.octet

theorem from_zero (t : ByteArray) : from_ t 0 = t := by
  unfold from_
  apply ByteArray.ext
  apply Array.ext'
  simp
/-- The reference's reader and the result's cell. -/
structure QS (w : World) (H p : Nat) (s : ByteArray) (k : Nat) (bad : Int) (W : World) : Prop where
  rd : RR W p s k bad
  cell : W.heap[H]? = some (.cells #[.int .i64 0, .string nil] 23 (0, 0))
  t : Turns nobody w W
  le : k ≤ s.size
  ok : bad = 0 ∨ bad = 2
  new : w.heap.size ≤ p ∧ H ≠ p
theorem QS.step {w W W' : World} {H p : Nat} {s : ByteArray} {k k' : Nat} {bad bad' : Int} (h : QS w H p s k bad W) (h1 : RR W' p s k' bad') (h2 : Turns (fun i => i = p) W W') (h3 : k' ≤ s.size) (h4 : bad' = 0 ∨ bad' = 2) : QS w H p s k' bad' W' :=
  ⟨h1, heap_newer h.cell h2 h.new.2, h.t.trans h2 (fun i hi => Or.inr (hi ▸ h.new.1)), h3, h4, h.new⟩
theorem QS.num {w W : World} {H p : Nat} {s : ByteArray} {k : Nat} {bad : Int} (h : QS w H p s k bad W) (j : Nat) (hj : j = 1 ∨ j = 4) (hs : s.size ≤ 16777216) :
    Calls Tryd.prog 73 #[.pointer (some ⟨p, 0, none⟩), .int .i64 j] W fun e w' => ∃ v k' bad', e = .returned (.int .i64 v) ∧ QS w H p s k' bad' w' ∧ Turns (fun i => i = p) W w' ∧ NumR s k bad j v k' bad' := by
  refine (refnum_st p s k bad j W h.rd h.ok hj hs h.le).mono ?_
  rintro e w' ⟨v, k', bad', he, h1, h2, h3, h4, h5⟩
  exact ⟨v, k', bad', he, h.step h1 h2 h3 h4, h2, h5⟩
theorem QS.raw {w W : World} {H p : Nat} {s : ByteArray} {k : Nat} {bad : Int} (h : QS w H p s k bad W) (n : Nat) (hs : s.size ≤ 16777216) :
    Calls Tryd.prog 74 #[.pointer (some ⟨p, 0, none⟩), .int .i64 n] W fun e w' => ∃ v k' bad', e = .returned (.string v) ∧ QS w H p s k' bad' w' ∧ Turns (fun i => i = p) W w' ∧ RawR s k bad n v k' bad' := by
  refine (refraw_st p s k bad n W h.rd h.ok hs h.le).mono ?_
  rintro e w' ⟨v, k', bad', he, h1, h2, h3, h4, h5⟩
  exact ⟨v, k', bad', he, h.step h1 h2 h3 h4, h2, h5⟩
theorem QS.still {w W W' : World} {H p : Nat} {s : ByteArray} {k : Nat} {bad : Int} {G : Nat → Prop} (h : QS w H p s k bad W) (ht : Turns G W W') (hG : ∀ i, G i → H < i ∧ p < i) (hH : w.heap.size ≤ H) : QS w H p s k bad W' :=
  ⟨heap_newer h.rd ht (fun hg => by have := (hG _ hg).2; omega), heap_newer h.cell ht (fun hg => by have := (hG _ hg).1; omega), h.t.trans ht (fun i hi => Or.inr (by have := (hG _ hi).1; omega)), h.le, h.ok, h.new⟩
theorem build_rd (t : ByteArray) (W : World) : (Instr.build 133 #[(0, .string t)]).run Tryd.prog W = .ok (.agg #[.string t, .int .i64 0]) W := by kernel_rfl
theorem build_rec1 (K : Int) (W : World) : (Instr.build 23 #[(0, .int .i64 K)]).run Tryd.prog W = .ok (.agg #[.int .i64 K, .string nil]) W := by kernel_rfl

set_option maxRecDepth 10000 in
set_option maxHeartbeats 2000000 in
theorem refnext_any (s : ByteArray) (k : Int) (w : World) (hs : s.size ≤ 16777216) :
    Calls Tryd.prog 20 #[.string s, .int .i64 k] w fun e w' => e = .returned (.tuple #[recV (nxK s k) (nxB s k), .int .i64 (nxN s k), .int .i64 (nxE s k)]) ∧ Turns nobody w w' := by
  obtain ⟨H, hH⟩ : ∃ H, w.heap.size = H := ⟨_, rfl⟩
  obtain ⟨wa, hwa⟩ : ∃ wa, wa = w.alloc (.cells #[.int .i64 0, .string nil] 23) := ⟨_, rfl⟩
  have ta : Turns nobody w wa := by rw [hwa]; exact (Turns.refl _ _).alloc _
  have za : wa.heap.size = H + 1 := by rw [hwa, ← hH]; simp
  have hca : wa.heap[H]? = some (.cells #[.int .i64 0, .string nil] 23 (0, 0)) := by rw [hwa, ← hH]; exact heap_alloc_new w _
  have hb0 := build_rec
  have HWA := Lib.hid hwa
  have HTA := Lib.hid ta
  have HCA := Lib.hid hca
  clear hwa ta hca
  by_cases hk : k < 0 ∨ (s.size : Int) < k
  · have hE : nxE s k = 5 := by unfold nxE; rw [if_pos hk]
    have hR : Hid (nxK s k = 0 ∧ nxB s k = nil ∧ nxN s k = 0 ∧ nxE s k = 5) := Lib.hid (by unfold nxK nxB nxN; rw [hE]; exact ⟨rfl, rfl, rfl, rfl⟩)
    have c0 := cells_of HCA.out 0 _ rfl
    have c1 := cells_of HCA.out 1 _ rfl
    have f0 := free_of HCA.out 0
    have f1 := free_of HCA.out 1
    have hk' : k < 0 ∨ (¬ k < 0 ∧ (s.size : Int) < k) := by omega
    clear hE hk
    rcases hk' with hk | ⟨hk1, hk2⟩
    all_goals
      go_enter Tryd.func20, Tryd.ntmps20
      go_upto_region 1 with fail
      rw [show (⟨#[]⟩ : ByteArray) = nil from rfl, ← HWA.out]
      go_wp2
      have hp := put_rec (K := 0) (B := nil) HCA.out HTA.out (by omega)
      refine bodyPost_ret (results_rec3 rfl _ _ rfl rfl rfl hp.1) rfl ⟨?_, hp.2⟩
      rw [hR.out.1, hR.out.2.1, hR.out.2.2.1, hR.out.2.2.2]; rfl
  · obtain ⟨q, rfl⟩ : ∃ q : Nat, k = (q : Int) := ⟨k.toNat, by omega⟩
    have hqn : q ≤ s.size := by omega
    have hE : nxE s q = errOf (from_ s q) := by unfold nxE; rw [if_neg hk]; rfl
    have hNX : nxK s q = recK (from_ s q) ∧ nxB s q = recB (from_ s q) ∧ nxN s q = if errOf (from_ s q) = 0 then (q : Int) + n4 (from_ s q) + 9 else 0 := by
      unfold nxK nxB nxN recK recB
      rw [hE, Int.toNat_natCast]
      exact ⟨rfl, rfl, rfl⟩
    obtain ⟨t, htt⟩ : ∃ t, s.extract q s.size = t := ⟨_, rfl⟩
    have hft : from_ s q = t := htt
    have htsz : t.size ≤ 16777216 := by rw [← hft, from_size]; omega
    rw [hft] at hE hNX
    have HE := Lib.hid hE
    have HNX := Lib.hid hNX
    have hneg : ¬ (q : Int) < 0 := by omega
    have hbig : ¬ (s.size : Int) < (q : Int) := by omega
    obtain ⟨wb, hwb⟩ : ∃ wb, wb = wa.alloc (.cells #[.string t, .int .i64 0] 133) := ⟨_, rfl⟩
    have tb : Turns nobody wa wb := by rw [hwb]; exact (Turns.refl _ _).alloc _
    have h0 : QS w H (H + 1) t 0 0 wb := by
      refine ⟨?_, heap_newer HCA.out tb (fun h => h), HTA.out.trans tb (fun _ h => h.elim), Nat.zero_le _, Or.inl rfl, by omega, by omega⟩
      unfold RR
      rw [from_zero, hwb, ← za]
      exact heap_alloc_new wa _
    have hbr := build_rd
    have hb1 := build_rec1
    have H0 := Lib.hid h0
    have HWB := Lib.hid hwb
    clear hE hNX hft hk tb h0 hwb
    go_enter Tryd.func20, Tryd.ntmps20
    go_upto_region 1 with fail
    rw [show (⟨#[]⟩ : ByteArray) = nil from rfl, ← HWA.out]
    go_upto_region 4 with fail
    rw [← HWB.out]
    go_upto_region 5 with (go_at_call 73; refine (H0.out.num 4 (Or.inr rfl) htsz).mono ?_; rintro e w1 ⟨v1, k1, b1, rfl, h1, _, r1⟩; have H1 := Lib.hid h1; have R1 := Lib.hid r1; clear h1 r1)
    rcases R1.out with ⟨_, hl4, rfl, rfl, rfl⟩ | ⟨hl4, rfl, rfl⟩
    rotate_left
    · have hE : errOf t = 2 := by
        unfold errOf
        rcases hl4 with h | h
        · cases h
        · rw [if_pos (by omega)]
      have HR : Hid (nxK s q = 0 ∧ nxB s q = nil ∧ nxN s q = 0 ∧ nxE s q = 2) := Lib.hid (by
        rw [HNX.out.1, HNX.out.2.1, HNX.out.2.2, HE.out]; unfold recK recB; rw [hE]; exact ⟨rfl, rfl, rfl, rfl⟩)
      have e1 := cells_of H1.out.rd 1 _ rfl
      have c0 := cells_of H1.out.cell 0 _ rfl
      have c1 := cells_of H1.out.cell 1 _ rfl
      have f0 := free_of H1.out.cell 0
      have f1 := free_of H1.out.cell 1
      have HZ := H1
      clear R1 hE hl4
      go_wp2
      have hp := put_rec (K := 0) (B := nil) HZ.out.cell HZ.out.t (by omega)
      refine bodyPost_ret (results_rec3 rfl _ _ rfl rfl rfl hp.1) rfl ⟨?_, hp.2⟩
      rw [HR.out.1, HR.out.2.1, HR.out.2.2.1, HR.out.2.2.2]; rfl
    · have hn4 : (val ((t.data.toList.drop 0).take 4) : Int) = (n4 t : Int) := rfl
      rw [hn4]
      obtain ⟨n, hn⟩ : ∃ n, n4 t = n := ⟨_, rfl⟩
      rw [hn]
      have e1 := cells_of H1.out.rd 1 _ rfl
      have HN := Lib.hid hn
      by_cases hbg : 1048576 < n
      · have hE : errOf t = 3 := by unfold errOf; rw [if_neg (by omega), if_pos (by omega)]
        have HR : Hid (nxK s q = 0 ∧ nxB s q = nil ∧ nxN s q = 0 ∧ nxE s q = 3) := Lib.hid (by
          rw [HNX.out.1, HNX.out.2.1, HNX.out.2.2, HE.out]; unfold recK recB; rw [hE]; exact ⟨rfl, rfl, rfl, rfl⟩)
        have c0 := cells_of H1.out.cell 0 _ rfl
        have c1 := cells_of H1.out.cell 1 _ rfl
        have f0 := free_of H1.out.cell 0
        have f1 := free_of H1.out.cell 1
        have hbi : (1048576 : Int) < (n : Int) := by omega
        have HZ := H1
        clear R1 hE hl4 hn4 hn hbg
        go_wp2
        have hp := put_rec (K := 0) (B := nil) HZ.out.cell HZ.out.t (by omega)
        refine bodyPost_ret (results_rec3 rfl _ _ rfl rfl rfl hp.1) rfl ⟨?_, hp.2⟩
        rw [HR.out.1, HR.out.2.1, HR.out.2.2.1, HR.out.2.2.2]; rfl
      · have hbi : ¬ (1048576 : Int) < (n : Int) := by omega
        clear R1 hn4 hn
        go_upto_region 10 with (go_at_call 73; refine (H1.out.num 1 (Or.inl rfl) htsz).mono ?_; rintro e w2 ⟨v2, k2, b2, rfl, h2, _, r2⟩; have H2 := Lib.hid h2; have R2 := Lib.hid r2; clear h2 r2)
        obtain ⟨V, hV⟩ : ∃ V, w2.heap.size = V := ⟨_, rfl⟩
        obtain ⟨w3, hw3⟩ : ∃ w3, w3 = w2.alloc (.cells #[.int .i64 v2, .string nil] 23) := ⟨_, rfl⟩
        rw [show (⟨#[]⟩ : ByteArray) = nil from rfl, ← hw3, hV]
        have t3 : Turns nobody w2 w3 := by rw [hw3]; exact (Turns.refl _ _).alloc _
        have hc3 : w3.heap[V]? = some (.cells #[.int .i64 v2, .string nil] 23 (0, 0)) := by rw [hw3, ← hV]; exact heap_alloc_new w2 _
        have hVH : H + 1 < V := by rw [← hV]; exact lt_of_block H2.out.rd
        have H3 := Lib.hid (H2.out.still t3 (fun _ h => h.elim) (by omega))
        have HC3 := Lib.hid hc3
        clear hw3 hV t3 hc3 e1
        go_upto_region 11 with (go_at_call 74; refine (H3.out.raw n htsz).mono ?_; rintro e w4 ⟨v3, k3, b3, rfl, h4, t4, r3⟩; have H4 := Lib.hid h4; have R3 := Lib.hid r3; have HC4 := Lib.hid (heap_newer HC3.out t4 (by omega)); have g1 := cells_of HC4.out 1 _ rfl; have gf := free_of HC4.out 1; clear h4 t4 r3)
        obtain ⟨w5, hw5⟩ : ∃ w5, w5 = w4.setCell ⟨V, 1, none⟩ (.string v3) := ⟨_, rfl⟩
        rw [← hw5]
        have hc5 : w5.heap[V]? = some (.cells #[.int .i64 v2, .string v3] 23 (0, 0)) := by rw [hw5]; exact heap_setCell_at HC4.out 1 _
        have t5 : Turns (fun i => i = V) w4 w5 := by rw [hw5]; exact Turns.set w4 V 1 _
        have H5 := Lib.hid (H4.out.still t5 (fun i hi => by omega) (by omega))
        clear t5
        have HC5 := Lib.hid hc5
        clear hw5 hc5 g1 gf
        go_upto_region 12 with (go_at_call 73; refine (H5.out.num 4 (Or.inr rfl) htsz).mono ?_; rintro e w6 ⟨v5, k5, b5, rfl, h6, t6, r5⟩; have H6 := Lib.hid h6; have R5 := Lib.hid r5; have HC6 := Lib.hid (heap_newer HC5.out t6 (by omega)); clear h6 t6 r5)
        have e1 := cells_of H6.out.rd 1 _ rfl
        have c0 := cells_of H6.out.cell 0 _ rfl
        have c1 := cells_of H6.out.cell 1 _ rfl
        have f0 := free_of H6.out.cell 0
        have f1 := free_of H6.out.cell 1
        rcases R5.out with ⟨rfl, hl9, rfl, rfl, rfl⟩ | ⟨hl9, rfl, rfl⟩
        rotate_left
        · have hE : errOf t = 2 := by
            have h9 : t.size < n + 9 := by
              rcases hl9 with rfl | hl9
              · rcases R3.out with ⟨_, _, _, _, h⟩ | ⟨h, _, _⟩
                · cases h
                · rcases h with rfl | h
                  · rcases R2.out with ⟨_, _, _, _, h⟩ | ⟨h, _, _⟩
                    · cases h
                    · rcases h with h | h
                      · cases h
                      · omega
                  · rcases R2.out with ⟨_, _, _, h', _⟩ | ⟨h', _, _⟩
                    · omega
                    · rcases h' with h' | h'
                      · cases h'
                      · omega
              · rcases R3.out with ⟨_, _, _, h, _⟩ | ⟨h, _, h3⟩
                · rcases R2.out with ⟨_, _, _, h', _⟩ | ⟨h', _, h3⟩
                  · omega
                  · rcases h' with h' | h'
                    · cases h'
                    · omega
                · rcases h with h | h
                  · rcases R2.out with ⟨_, _, _, _, h'⟩ | ⟨h', _, _⟩
                    · omega
                    · rcases h' with h' | h'
                      · cases h'
                      · omega
                  · rcases R2.out with ⟨_, _, _, h', _⟩ | ⟨h', _, _⟩
                    · omega
                    · rcases h' with h' | h'
                      · cases h'
                      · omega
            unfold errOf
            rw [HN.out, if_neg (by omega), if_neg (by omega), if_pos h9]
          have HR : Hid (nxK s q = 0 ∧ nxB s q = nil ∧ nxN s q = 0 ∧ nxE s q = 2) := Lib.hid (by
            rw [HNX.out.1, HNX.out.2.1, HNX.out.2.2, HE.out]; unfold recK recB; rw [hE]; exact ⟨rfl, rfl, rfl, rfl⟩)
          have HZ := H6
          clear R2 R3 R5 hl9 hE hbg hl4
          go_wp2
          have hp := put_rec (K := 0) (B := nil) HZ.out.cell HZ.out.t (by omega)
          refine bodyPost_ret (results_rec3 rfl _ _ rfl rfl rfl hp.1) rfl ⟨?_, hp.2⟩
          rw [HR.out.1, HR.out.2.1, HR.out.2.2.1, HR.out.2.2.2]; rfl
        · rcases R3.out with ⟨rfl, hl5, hv3, hk3, _⟩ | ⟨_, _, h⟩
          rotate_left
          · cases h
          rcases R2.out with ⟨_, _, hv2, hk2, _⟩ | ⟨_, _, h⟩
          rotate_left
          · cases h
          have e2 : v2 = (kOf t : Int) := by rw [hv2]; rfl
          have e3 : v3 = bodyOf t := by rw [hv3, hk2]; unfold bodyOf; rw [HN.out]
          have e5 : (val ((t.data.toList.drop k3).take 4) : Int) = (sumOf t : Int) := by rw [hk3, hk2]; unfold sumOf; rw [HN.out]
          rw [e5]
          subst e2 e3
          have h9 : n + 9 ≤ t.size := by omega
          have hbs : (bodyOf t).size ≤ 16777216 := by unfold bodyOf; rw [ByteArray.size_extract]; omega
          clear R2 R3 R5 hv2 hv3 hk2 hk3 e5 hl5 hl9
          have d0 := cells_of HC6.out 0 _ rfl
          have d1 := cells_of HC6.out 1 _ rfl
          by_cases hk : 1 ≤ kOf t ∧ kOf t ≤ 3
          · have hk1 : ¬ (kOf t : Int) < 1 := by omega
            have hk3 : ¬ (3 : Int) < (kOf t : Int) := by omega
            have hin := fun W => refinner_any (kOf t) (bodyOf t) hk.2 hbs W
            have hisz := inner_size (kOf t) (bodyOf t)
            have hsm := fun W => crc.refAdd_any 0#32 0 (innerB (kOf t) (bodyOf t)) W rfl (by rw [hisz]; unfold maxLen; omega)
            rw [show ((crc.add 0#32 (innerB (kOf t) (bodyOf t)).data.toList).toNat : Int) = (crcOf (kOf t) (bodyOf t) : Int) from rfl] at hsm
            have hcw : IntKind.i64.wrap (crcOf (kOf t) (bodyOf t) : Int) = (crcOf (kOf t) (bodyOf t) : Int) := by have := crc_lt (kOf t) (bodyOf t); exact IntWalk.i64_in _ (by omega)
            have HIN := Lib.hid hin
            have HSM := Lib.hid hsm
            unfold recV at HIN
            by_cases hcrc : crcOf (kOf t) (bodyOf t) = sumOf t
            · have hE : errOf t = 0 := by
                unfold errOf
                rw [HN.out, if_neg (by omega), if_neg (by omega), if_neg (by omega), if_neg (by simpa using hk), if_neg (by simpa using hcrc)]
              have hR : Hid (nxK s q = kOf t ∧ nxB s q = bodyOf t ∧ nxN s q = (q : Int) + n + 9 ∧ nxE s q = 0) := Lib.hid (by
                rw [HNX.out.1, HNX.out.2.1, HNX.out.2.2, HE.out]; unfold recK recB; rw [hE, HN.out]; exact ⟨rfl, rfl, rfl, rfl⟩)
              rw [hcrc] at HSM hcw
              have hqw : IntKind.i64.wrap ((q : Int) + (n : Int)) = (q : Int) + n := IntWalk.i64_in _ (by omega)
              have hqw9 : IntKind.i64.wrap ((q : Int) + (n : Int) + 9) = (q : Int) + n + 9 := IntWalk.i64_in _ (by omega)
              clear hin hsm hisz hE hcrc hk h9 hbg hl4
              generalize kOf t = K at *
              generalize bodyOf t = B at *
              generalize sumOf t = S at *
              generalize innerB K B = I at *
              have C0 := Lib.hid c0
              have C1 := Lib.hid c1
              have F0 := Lib.hid f0
              have F1 := Lib.hid f1
              clear c0 c1 f0 f1
              go_wp2_with first
                | (go_at_call 69; refine (HIN.out _).mono ?_; rintro e w7 ⟨rfl, t7⟩; have H7 := Lib.hid (H6.out.still t7 (fun _ h => h.elim) (by omega)); have d0 := cells_of (heap_newer HC6.out t7 (fun h => h)) 0 _ rfl; have d1 := cells_of (heap_newer HC6.out t7 (fun h => h)) 1 _ rfl; have c0 := cells_of H7.out.cell 0 _ rfl; have c1 := cells_of H7.out.cell 1 _ rfl; have f0 := free_of H7.out.cell 0; have f1 := free_of H7.out.cell 1; clear t7)
                | (go_at_call 71; refine (HSM.out _).mono ?_; rintro e w' ⟨rfl, rfl⟩)
              have hp := put_rec (K := K) (B := B) H7.out.cell H7.out.t (by omega)
              refine bodyPost_ret (results_rec3 rfl _ _ rfl rfl rfl hp.1) rfl ⟨?_, hp.2⟩
              rw [hR.out.1, hR.out.2.1, hR.out.2.2.1, hR.out.2.2.2]; rfl
            · have hE : errOf t = 13 := by
                unfold errOf
                rw [HN.out, if_neg (by omega), if_neg (by omega), if_neg (by omega), if_neg (by simpa using hk), if_pos (by simpa using hcrc)]
              have HR : Hid (nxK s q = 0 ∧ nxB s q = nil ∧ nxN s q = 0 ∧ nxE s q = 13) := Lib.hid (by
                rw [HNX.out.1, HNX.out.2.1, HNX.out.2.2, HE.out]; unfold recK recB; rw [hE]; exact ⟨rfl, rfl, rfl, rfl⟩)
              have hne : ((crcOf (kOf t) (bodyOf t) : Int) != (sumOf t : Int)) = true := by simp; omega
              clear hin hsm hisz hE hcrc hk h9 hbg hl4
              generalize kOf t = K at *
              generalize bodyOf t = B at *
              generalize sumOf t = S at *
              generalize crcOf K B = C at *
              generalize innerB K B = I at *
              clear c0 c1 f0 f1
              go_wp2_with first
                | (go_at_call 69; refine (HIN.out _).mono ?_; rintro e w7 ⟨rfl, t7⟩; have HZ := Lib.hid (H6.out.still t7 (fun _ h => h.elim) (by omega)); have d0 := cells_of (heap_newer HC6.out t7 (fun h => h)) 0 _ rfl; have d1 := cells_of (heap_newer HC6.out t7 (fun h => h)) 1 _ rfl; have c0 := cells_of HZ.out.cell 0 _ rfl; have c1 := cells_of HZ.out.cell 1 _ rfl; have f0 := free_of HZ.out.cell 0; have f1 := free_of HZ.out.cell 1; clear t7)
                | (go_at_call 71; refine (HSM.out _).mono ?_; rintro e w' ⟨rfl, rfl⟩)
              have hp := put_rec (K := 0) (B := nil) HZ.out.cell HZ.out.t (by omega)
              refine bodyPost_ret (results_rec3 rfl _ _ rfl rfl rfl hp.1) rfl ⟨?_, hp.2⟩
              rw [HR.out.1, HR.out.2.1, HR.out.2.2.1, HR.out.2.2.2]; rfl
          · have hE : errOf t = 10 := by
              unfold errOf
              rw [HN.out, if_neg (by omega), if_neg (by omega), if_neg (by omega), if_pos hk]
            have HR : Hid (nxK s q = 0 ∧ nxB s q = nil ∧ nxN s q = 0 ∧ nxE s q = 10) := Lib.hid (by
              rw [HNX.out.1, HNX.out.2.1, HNX.out.2.2, HE.out]; unfold recK recB; rw [hE]; exact ⟨rfl, rfl, rfl, rfl⟩)
            have hk' : (kOf t : Int) < 1 ∨ (¬ (kOf t : Int) < 1 ∧ (3 : Int) < (kOf t : Int)) := by omega
            have HZ := H6
            clear hk hE h9 hbg hl4
            rcases hk' with hk | ⟨hk1, hk2⟩
            · go_wp2
              have hp := put_rec (K := 0) (B := nil) HZ.out.cell HZ.out.t (by omega)
              refine bodyPost_ret (results_rec3 rfl _ _ rfl rfl rfl hp.1) rfl ⟨?_, hp.2⟩
              rw [HR.out.1, HR.out.2.1, HR.out.2.2.1, HR.out.2.2.2]; rfl
            · go_wp2
              have hp := put_rec (K := 0) (B := nil) HZ.out.cell HZ.out.t (by omega)
              refine bodyPost_ret (results_rec3 rfl _ _ rfl rfl rfl hp.1) rfl ⟨?_, hp.2⟩
              rw [HR.out.1, HR.out.2.1, HR.out.2.2.1, HR.out.2.2.2]; rfl
end Go.Proofs.YtlhcmgjkhkcgcaaDoor.record
