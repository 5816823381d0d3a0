/- Package journal: a file of records. -/
import Derived.Test.YtlhcmgjkhkcgcaaDoorRecAllLaw0
import Derived.Test.YtlhcmgjkhkcgcaaDoorBlockRef
namespace Go.Proofs.YtlhcmgjkhkcgcaaDoor.journal
open Go.RowKit
open Go.Proofs.YtlhcmgjkhkcgcaaDoor.stepkit Go.Proofs.YtlhcmgjkhkcgcaaDoor.obj Go.Proofs.YtlhcmgjkhkcgcaaDoor.row Go.Proofs.YtlhcmgjkhkcgcaaDoor.mix Go.Proofs.YtlhcmgjkhkcgcaaDoor.idkit Go.Proofs.YtlhcmgjkhkcgcaaDoor.bytes Go.Proofs.YtlhcmgjkhkcgcaaDoor.octet Go.Proofs.YtlhcmgjkhkcgcaaDoor.eqkit Go.Proofs.YtlhcmgjkhkcgcaaDoor.record
open Go.Proofs.YtlhcmgjkhkcgcaaDoor.block (BlockAt keepOf keepOf_le keepOf_ge)

/-- None of these blocks holds bytes. -/
def NoBytes (w : World) (F : Nat → Prop) : Prop := ∀ i, F i → ∀ cur, w.heap[i]? ≠ some (.cells cur 5 (0, 0))
theorem NoBytes.none (w : World) : NoBytes w nobody := fun _ h => h.elim
theorem block_keep {w w' : World} {F : Nat → Prop} {q : Nat} {l : List UInt8} {sb : Nat} (h : BlockAt w q l sb) (ht : Turns F w w') (hq : ¬ F q) (hn : NoBytes w F) : BlockAt w' q l sb := by
  obtain ⟨h1, v, h2, h3⟩ := h
  refine ⟨h1, v, heap_newer h2 ht hq, h3.of_heap fun g hg => ht.block g (h3.lt g hg) (fun hf => ?_)⟩
  obtain ⟨cur, hc⟩ := h3.elem g hg
  exact hn g hf cur hc
theorem block_still {w w' : World} {q : Nat} {l : List UInt8} {sb : Nat} (h : BlockAt w q l sb) (ht : Turns nobody w w') : BlockAt w' q l sb := block_keep h ht (fun h => h) (NoBytes.none w)
theorem block_lt {w : World} {q : Nat} {l : List UInt8} {sb : Nat} (h : BlockAt w q l sb) : q < w.heap.size := by
  obtain ⟨_, v, h2, _⟩ := h
  exact lt_of_block h2
theorem turns_one {w w' : World} {q : Nat} (h : w.grownBy w' (some q)) : Turns (fun i => i = q) w w' := Turns.of_grown h (fun i e => by cases e; exact Or.inl rfl)

/-- A journal at block p, its file at block q. -/
structure JAt (w : World) (p q : Nat) (l : List UInt8) (sb n sn : Nat) : Prop where
  h : w.heap[p]? = some (.cells #[.pointer (some ⟨q, 0, none⟩), .int .i64 (n : Int), .int .i64 (sn : Int)] 77 (0, 0))
  b : BlockAt w q l sb
theorem JAt.ne {w : World} {p q : Nat} {l : List UInt8} {sb n sn : Nat} (h : JAt w p q l sb n sn) : p ≠ q := by
  rintro rfl
  obtain ⟨h1, _, v, h2, _⟩ := h
  rw [h1] at h2
  simp at h2
theorem JAt.keep {w w' : World} {F : Nat → Prop} {p q : Nat} {l : List UInt8} {sb n sn : Nat} (h : JAt w p q l sb n sn) (ht : Turns F w w') (hp : ¬ F p) (hq : ¬ F q) (hn : NoBytes w F) : JAt w' p q l sb n sn := ⟨heap_newer h.h ht hp, block_keep h.b ht hq hn⟩
theorem JAt.still {w w' : World} {p q : Nat} {l : List UInt8} {sb n sn : Nat} (h : JAt w p q l sb n sn) (ht : Turns nobody w w') : JAt w' p q l sb n sn := h.keep ht (fun h => h) (fun h => h) (NoBytes.none w)
def two (p q : Nat) : Nat → Prop := fun i => i = p ∨ i = q
theorem JAt.nobytes {w : World} {p q : Nat} {l : List UInt8} {sb n sn : Nat} (h : JAt w p q l sb n sn) : NoBytes w (two p q) := by
  rintro i (rfl | rfl) cur hc
  · rw [h.h] at hc; simp at hc
  · obtain ⟨_, _, v, h2, _⟩ := h
    rw [h2] at hc
    simp at hc

theorem pos_le {s : ByteArray} {k : Nat} (h : Ok s k) : pos s k ≤ s.size := by
  cases k with
  | zero => exact Nat.zero_le _
  | succ j =>
    obtain ⟨h1, h2⟩ := h j (by omega)
    show (nxN s (pos s j : Nat)).toNat ≤ _
    have h3 := h2
    unfold nxE at h3
    rw [if_neg (by omega), Int.toNat_natCast] at h3
    have h4 := (err_room h3).1
    rw [from_size] at h4
    unfold nxN
    rw [if_pos h2, Int.toNat_natCast]
    omega
theorem none_no (p q : Nat) (w : World) (h : w.cell? ⟨p, 0, none⟩ = some (.pointer (some ⟨q, 0, none⟩))) :
    Calls Tryd.prog 77 #[.pointer (some ⟨p, 0, none⟩)] w fun e w' => e = .returned (.bool false) ∧ w = w' := by
  go_enter Tryd.func77, Tryd.ntmps77
  go_wp2
  go_ret
  exact ⟨rfl, rfl⟩
theorem none_zero (p : Nat) (w : World) (h : w.cell? ⟨p, 0, none⟩ = some (.pointer none)) :
    Calls Tryd.prog 77 #[.pointer (some ⟨p, 0, none⟩)] w fun e w' => e = .returned (.bool true) ∧ w = w' := by
  go_enter Tryd.func77, Tryd.ntmps77
  go_wp2
  go_ret
  exact ⟨rfl, rfl⟩
theorem none_nil (w : World) :
    Calls Tryd.prog 77 #[.pointer none] w fun e w' => e = .returned (.bool true) ∧ w = w' := by
  go_enter Tryd.func77, Tryd.ntmps77
  go_wp2
  go_ret
  exact ⟨rfl, rfl⟩

theorem len_any (p q n sn : Nat) (w : World) (h : w.heap[p]? = some (.cells #[.pointer (some ⟨q, 0, none⟩), .int .i64 (n : Int), .int .i64 (sn : Int)] 77 (0, 0))) :
    Calls Tryd.prog 38 #[.pointer (some ⟨p, 0, none⟩)] w fun e w' => e = .returned (.int .i64 n) ∧ w = w' := by
  have c0 := cells_of h 0 _ rfl
  have c1 := cells_of h 1 _ rfl
  clear h
  go_enter Tryd.func38, Tryd.ntmps38
  go_wp2_with (go_at_call 77; refine (none_no _ _ _ c0).mono ?_; rintro e w' ⟨rfl, rfl⟩)
  go_ret
  exact ⟨rfl, rfl⟩
theorem safe_any (p q n sn : Nat) (w : World) (h : w.heap[p]? = some (.cells #[.pointer (some ⟨q, 0, none⟩), .int .i64 (n : Int), .int .i64 (sn : Int)] 77 (0, 0))) :
    Calls Tryd.prog 30 #[.pointer (some ⟨p, 0, none⟩)] w fun e w' => e = .returned (.int .i64 sn) ∧ w = w' := by
  have c0 := cells_of h 0 _ rfl
  have c2 := cells_of h 2 _ rfl
  clear h
  go_enter Tryd.func30, Tryd.ntmps30
  go_wp2_with (go_at_call 77; refine (none_no _ _ _ c0).mono ?_; rintro e w' ⟨rfl, rfl⟩)
  go_ret
  exact ⟨rfl, rfl⟩
theorem size_any (p q : Nat) (l : List UInt8) (sb n sn : Nat) (w : World) (h : JAt w p q l sb n sn) :
    Calls Tryd.prog 39 #[.pointer (some ⟨p, 0, none⟩)] w fun e w' => e = .returned (.int .i64 l.length) ∧ w = w' := by
  have c0 := cells_of h.h 0 _ rfl
  have hs := block.size_any q l sb w h.b
  clear h
  go_enter Tryd.func39, Tryd.ntmps39
  go_wp2_with first
    | (go_at_call 77; refine (none_no _ _ _ c0).mono ?_; rintro e w' ⟨rfl, rfl⟩)
    | (go_at_call 82; refine hs.mono ?_; rintro e w' ⟨rfl, rfl⟩)
  go_ret
  exact ⟨rfl, rfl⟩

theorem build_j (q : Nat) (n : Int) (W : World) : (Instr.build 77 #[(0, .pointer (some ⟨q, 0, none⟩)), (1, .int .i64 n), (2, .int .i64 n)]).run Tryd.prog W = .ok (.agg #[.pointer (some ⟨q, 0, none⟩), .int .i64 n, .int .i64 n]) W := by kernel_rfl
set_option maxRecDepth 10000 in
set_option maxHeartbeats 1000000 in
theorem open_any (q : Nat) (l : List UInt8) (sb : Nat) (w : World) (h : BlockAt w q l sb) (hl : l.length ≤ 16777216) (ht : crc.TabAt w) :
    Calls Tryd.prog 26 #[.pointer (some ⟨q, 0, none⟩)] w fun e w' => ∃ k E v P, Done ⟨l.toArray⟩ k E ∧ e = .returned (.tuple #[.pointer (some ⟨P, 0, none⟩), v]) ∧ JAt w' P q (l.take (pos ⟨l.toArray⟩ k)) (pos ⟨l.toArray⟩ k) k k ∧ RSl w' v (recs ⟨l.toArray⟩ k) ∧ w.heap.size ≤ P ∧ (∀ i, blk v i → w.heap.size ≤ i) ∧ Turns (fun i => i = q) w w' := by
  have hw := block.write_any q l sb ⟨#[]⟩ w h (by show l.length + 0 ≤ _; omega)
  have hll : (⟨l.toArray⟩ : ByteArray).size = l.length := by show l.toArray.size = _; simp
  obtain ⟨s, hs⟩ : ∃ s : ByteArray, ⟨l.toArray⟩ = s := ⟨_, rfl⟩
  rw [hs] at hll ⊢
  rw [show l ++ (⟨#[]⟩ : ByteArray).data.toList = l from by simp] at hw
  have hall := fun W hW => all_any s W (by omega) hW
  have HALL := Lib.hid hall
  have HTB := Lib.hid ht
  have HQ := Lib.hid (block_lt h)
  have HLL := Lib.hid hll
  have htq : 0 ≠ q := fun e => by
    subst e
    obtain ⟨_, v, h2, _⟩ := h
    have h0 := cells_of h2 0 _ rfl
    have h1 := cells_of h2 1 _ rfl
    have h3 := ht 0 (by decide)
    have h4 := ht 1 (by decide)
    have h5 := ht 2 (by decide)
    have h6 := cells_of h2 2 _ rfl
    rw [h5] at h6
    cases h6
  have HTQ := Lib.hid htq
  have hdt := fun W hW => block.data_any q l sb W hW
  rw [hs] at hdt
  have HDT := Lib.hid hdt
  clear hall ht h hll hs htq hdt
  go_enter Tryd.func26, Tryd.ntmps26
  go_upto_region 4 with first
    | (go_at_call 33; refine hw.mono ?_; rintro e w1 ⟨rfl, b1, g1⟩; have HB1 := Lib.hid b1; have HT1 := Lib.hid (turns_one g1); clear b1 g1)
    | (go_at_call 40; refine (HDT.out _ HB1.out).mono ?_; rintro e w' ⟨rfl, rfl⟩)
    | (go_at_call 22; refine (HALL.out _ (Tab.turns HTB.out HT1.out HTQ.out)).mono ?_; rintro e w2 ⟨k, E, v, hD, rfl, hsl, hn, t2⟩; have HD := Lib.hid hD; have HSL := Lib.hid hsl; have HN := Lib.hid hn; have HT2 := Lib.hid t2; clear hD hsl hn t2)
  obtain ⟨P, hP⟩ : ∃ P, pos s k = P := ⟨_, rfl⟩
  have hpl : P ≤ l.length := by rw [← hP, ← HLL.out]; exact pos_le HD.out.1
  have hcut := block.cut_ok q l sb P w2 (block_still HB1.out HT2.out) hpl
  have HP := Lib.hid hP
  rw [hP]
  have hrl := recs_len s k
  obtain ⟨ao, cap, rfl, -⟩ := Sl.shape HSL.out
  rw [hrl] at HSL HN ⊢
  have HRL := Lib.hid hrl
  have HBJ := Lib.hid (build_j q)
  have hk16 : k ≤ 16777216 := by have := Ok.bound HD.out.1; have := HLL.out; omega
  clear hrl hP hpl hw
  go_upto_region 5 with (go_at_call 76; refine hcut.mono ?_; rintro e w3 ⟨rfl, b3, g3⟩; have HB3 := Lib.hid b3; have HT3 := Lib.hid (turns_one g3); clear b3 g3)
  clear hcut
  go_wp2_with (with_reducible refine wpList_exec (exec_build _ _ rfl #[(0, .pointer (some ⟨q, 0, none⟩)), (1, .int .i64 (k : Int)), (2, .int .i64 (k : Int))] (by kernel_rfl) (HBJ.out _ _)) rfl ?_)
  have ha : Turns nobody w3 (w3.alloc (.cells #[.pointer (some ⟨q, 0, none⟩), .int .i64 (k : Int), .int .i64 (k : Int)] 77)) := (Turns.refl _ _).alloc _
  have htt : Turns (fun i => i = q) w w3 := (HT1.out.trans HT2.out (fun _ h => h.elim)).trans HT3.out (fun _ h => Or.inl h)
  refine bodyPost_ret (results_tmp2 rfl _ _ _) rfl ?_
  refine ⟨k, E, _, w3.heap.size, HD.out, rfl, ⟨heap_alloc_new w3 _, ?_⟩, ?_, htt.size, fun i hi => Nat.le_trans HT1.out.size (HN.out i hi), htt.trans ha (fun _ h => h.elim)⟩
  · rw [HP.out]
    exact block_still HB3.out ha
  · have h1 : RSl w2 (.slice ao k cap) (recs s k) := HSL.out
    exact Sl.keep (Sl.keep h1 HT3.out (fun i hi e => by have := HN.out i hi; have := HT1.out.size; have := HQ.out; omega)) ha (fun _ _ h => h)

set_option maxRecDepth 10000 in
set_option maxHeartbeats 1000000 in
theorem append_bad (p q : Nat) (K : Int) (b : ByteArray) (w : World) (c0 : w.cell? ⟨p, 0, none⟩ = some (.pointer (some ⟨q, 0, none⟩))) (hb : b.size ≤ 9223372036854775807) (ht : crc.TabAt w) (he : putE K b ≠ 0) :
    Calls Tryd.prog 28 #[.pointer (some ⟨p, 0, none⟩), recV K b] w fun e w' => e = .returned (.int .i64 (putE K b)) ∧ Turns nobody w w' := by
  obtain ⟨wa, hwa⟩ : ∃ wa, wa = w.alloc (.cells #[.int .i64 K, .string b] 23) := ⟨_, rfl⟩
  have ta : Turns nobody w wa := by rw [hwa]; exact (Turns.refl _ _).alloc _
  obtain ⟨H, hH⟩ : ∃ H, w.heap.size = H := ⟨_, rfl⟩
  have hca : wa.heap[H]? = some (.cells #[.int .i64 K, .string b] 23 (0, 0)) := by rw [hwa, ← hH]; exact heap_alloc_new w _
  have d0 := cells_of hca 0 _ rfl
  have d1 := cells_of hca 1 _ rfl
  have c0 := (ta.cell (p := ⟨p, 0, none⟩) (lt_of_cell' c0) (fun h => h)).trans c0
  have hput := put_any K b wa (Tab.turns ht ta (fun h => h)) hb
  have HTA := Lib.hid ta
  have HWA := Lib.hid hwa
  have hez : ((putE K b : Int) != 0) = true := by simpa using he
  unfold recV at hput ⊢
  generalize putE K b = E at *
  generalize putS K b = S at *
  clear ta hwa hca ht he
  go_enter Tryd.func28, Tryd.ntmps28
  go_upto_region 1 with fail
  rw [← HWA.out]
  go_wp2_with first
    | (go_at_call 77; refine (none_no _ _ _ c0).mono ?_; rintro e w' ⟨rfl, rfl⟩)
    | (go_at_call 17; refine hput.mono ?_; rintro e w1 ⟨rfl, t1⟩; have HT1 := Lib.hid (HTA.out.trans t1 (fun _ h => h.elim)); clear t1)
  go_ret
  exact ⟨rfl, HT1.out⟩
set_option maxRecDepth 10000 in
set_option maxHeartbeats 1000000 in
theorem append_ok (p q : Nat) (l : List UInt8) (sb n sn : Nat) (K : Int) (b : ByteArray) (w : World) (h : JAt w p q l sb n sn) (hn : n ≤ 1000000000) (hl : l.length ≤ 16777216) (hb : b.size ≤ 9223372036854775807) (ht : crc.TabAt w) (he : putE K b = 0) :
    Calls Tryd.prog 28 #[.pointer (some ⟨p, 0, none⟩), recV K b] w fun e w' => e = .returned (.int .i64 0) ∧ JAt w' p q (l ++ (putS K b).data.toList) sb (n + 1) sn ∧ Turns (two p q) w w' := by
  obtain ⟨wa, hwa⟩ : ∃ wa, wa = w.alloc (.cells #[.int .i64 K, .string b] 23) := ⟨_, rfl⟩
  have ta : Turns nobody w wa := by rw [hwa]; exact (Turns.refl _ _).alloc _
  obtain ⟨H, hH⟩ : ∃ H, w.heap.size = H := ⟨_, rfl⟩
  have hca : wa.heap[H]? = some (.cells #[.int .i64 K, .string b] 23 (0, 0)) := by rw [hwa, ← hH]; exact heap_alloc_new w _
  have d0 := cells_of hca 0 _ rfl
  have d1 := cells_of hca 1 _ rfl
  have ha := h.still ta
  have c0 := cells_of ha.h 0 _ rfl
  have hput := put_any K b wa (Tab.turns ht ta (fun h => h)) hb
  have hps : (putS K b).size ≤ 2000000 := by
    have h1 := he
    unfold putE at h1
    split at h1
    · omega
    · split at h1
      · omega
      · unfold putS
        rw [if_pos he]
        show (putL K.toNat b).toArray.size ≤ _
        rw [List.size_toArray, putL_len]
        omega
  have HTA := Lib.hid ta
  have HWA := Lib.hid hwa
  have HA := Lib.hid ha
  rw [he] at hput
  unfold recV at hput ⊢
  generalize putS K b = S at *
  have HPS := Lib.hid hps
  have HLB := Lib.hid hl
  clear ta hwa hca ht he h ha hps hl
  go_enter Tryd.func28, Tryd.ntmps28
  go_upto_region 1 with fail
  rw [← HWA.out]
  go_upto_region 4 with first
    | (go_at_call 77; refine (none_no _ _ _ c0).mono ?_; rintro e w' ⟨rfl, rfl⟩)
    | (go_at_call 17; refine hput.mono ?_; rintro e w1 ⟨rfl, t1⟩; have HT1 := Lib.hid (HTA.out.trans t1 (fun _ h => h.elim)); have HJ1 := Lib.hid (HA.out.still t1); clear t1)
  clear c0 d0 d1 hput
  have c0 := cells_of HJ1.out.h 0 _ rfl
  have c1 := cells_of HJ1.out.h 1 _ rfl
  have f1 := free_of HJ1.out.h 1
  obtain ⟨w2, hw2⟩ : ∃ w2, w2 = w1.setCell ⟨p, 1, none⟩ (.int .i64 ((n : Int) + 1)) := ⟨_, rfl⟩
  have t2 : Turns (fun i => i = p) w1 w2 := by rw [hw2]; exact Turns.set _ _ _ _
  have h2 : w2.heap[p]? = some (.cells #[.pointer (some ⟨q, 0, none⟩), .int .i64 ((n + 1 : Nat) : Int), .int .i64 (sn : Int)] 77 (0, 0)) := by rw [hw2]; exact heap_setCell_at HJ1.out.h 1 _
  have b2 := block_keep HJ1.out.b t2 (fun e => HJ1.out.ne e.symm) (fun i hi cur hc => by subst hi; rw [HJ1.out.h] at hc; simp at hc)
  have hw := block.write_any q l sb S w2 b2 (by have := HPS.out; have := HLB.out; omega)
  have d0 := cells_of h2 0 _ rfl
  have HW2 := Lib.hid hw2
  have HH2 := Lib.hid h2
  have HT2 := Lib.hid (HT1.out.trans2 (F := nobody) (Turns.refl _ _) (fun _ h => h.elim))
  have HTT2 := Lib.hid ((HT1.out.mono (G := two p q) (fun _ h => h.elim)).trans t2 (fun i hi => Or.inl (Or.inl hi)))
  have HNE := Lib.hid HJ1.out.ne
  clear hw2 t2 h2 b2
  go_upto_region 7 with fail
  rw [← HW2.out]
  clear c0 c1 f1
  go_wp2_with (go_at_call 33; refine hw.mono ?_; rintro e w3 ⟨rfl, b3, g3⟩; have HB3 := Lib.hid b3; have HT3 := Lib.hid (turns_one g3); clear b3 g3)
  go_ret
  exact ⟨rfl, ⟨heap_newer HH2.out HT3.out HNE.out, HB3.out⟩, HTT2.out.trans HT3.out (fun i hi => Or.inl (Or.inr hi))⟩

set_option maxRecDepth 10000 in
set_option maxHeartbeats 1000000 in
theorem sync_any (p q : Nat) (l : List UInt8) (sb n sn : Nat) (w : World) (h : JAt w p q l sb n sn) (hn : n ≤ 1000000000) (hsn : sn ≤ 1000000000) (hl : l.length ≤ 140737488355328) :
    Calls Tryd.prog 29 #[.pointer (some ⟨p, 0, none⟩)] w fun e w' => e = .returned (.int .i64 ((n : Int) - sn)) ∧ JAt w' p q l l.length n n ∧ Turns (two p q) w w' := by
  have c0 := cells_of h.h 0 _ rfl
  have c1 := cells_of h.h 1 _ rfl
  have c2 := cells_of h.h 2 _ rfl
  have HJ := Lib.hid h
  clear h
  have hwr : IntKind.i64.wrap ((n : Int) - (sn : Int)) = (n : Int) - sn := IntWalk.i64_in _ (by omega)
  go_enter Tryd.func29, Tryd.ntmps29
  go_upto_region 3 with (go_at_call 77; refine (none_no _ _ _ c0).mono ?_; rintro e w' ⟨rfl, rfl⟩)
  refine wp_region_mix [(0, true, true), (1, true, true), (2, true, true), (3, true, true), (4, true, true), (5, true, true), (6, true, true), (7, true, true), (8, true, true), (9, true, true)] (fun W => W.heap[p]? = some (.cells #[.pointer (some ⟨q, 0, none⟩), .int .i64 (n : Int), .int .i64 (sn : Int)] 77 (0, 0))) (by kernel_rfl) (by kernel_rfl) (HJ.out.h) ?_
  simp only [picked, List.filterMap_cons, List.filterMap_nil, List.getElem?_toArray, List.getElem?_cons_zero, List.getElem?_cons_succ, Option.map_some]
  repeat (refine mix_free (v := ?_) rfl ?_ ?_; rotate_left; (focus (intro w' hI; have e1 := cells_of hI 1 _ rfl; have e2 := cells_of hI 2 _ rfl; clear hI; go_simp; try with_reducible rfl)); simp only [Act.put, List.setIfInBounds_toArray, List.set_cons_zero, List.set_cons_succ])
  refine mix_nil ?_
  obtain ⟨w1, hw1⟩ : ∃ w1, w1 = w.drew := ⟨_, rfl⟩
  have t1 : Turns nobody w w1 := by rw [hw1]; exact (Turns.refl _ _).drew
  rw [← hw1]
  have HJ1 := Lib.hid (HJ.out.still t1)
  have HT1 := Lib.hid t1
  clear c0 c1 c2 hw1 t1
  have c0 := cells_of HJ1.out.h 0 _ rfl
  have hs := block.sync_any q l sb w1 HJ1.out.b hl
  go_upto_region 5 with (go_at_call 78; refine hs.mono ?_; rintro e w2 ⟨rfl, b2, g2⟩; have HB2 := Lib.hid b2; have HT2 := Lib.hid (turns_one g2); clear b2 g2)
  have hne := HJ1.out.ne
  have h2 := heap_newer HJ1.out.h HT2.out hne
  clear c0 hs
  have c1 := cells_of h2 1 _ rfl
  have c2 := cells_of h2 2 _ rfl
  have f2 := free_of h2 2
  obtain ⟨w3, hw3⟩ : ∃ w3, w3 = w2.setCell ⟨p, 2, none⟩ (.int .i64 (n : Int)) := ⟨_, rfl⟩
  have t3 : Turns (fun i => i = p) w2 w3 := by rw [hw3]; exact Turns.set _ _ _ _
  have h3 : w3.heap[p]? = some (.cells #[.pointer (some ⟨q, 0, none⟩), .int .i64 (n : Int), .int .i64 (n : Int)] 77 (0, 0)) := by rw [hw3]; exact heap_setCell_at h2 2 _
  have b3 := block_keep HB2.out t3 (fun e => hne e.symm) (fun i hi cur hc => by subst hi; rw [h2] at hc; simp at hc)
  have HW3 := Lib.hid hw3
  have HF := Lib.hid (show JAt w3 p q l l.length n n from ⟨h3, b3⟩)
  have HTT := Lib.hid (((HT1.out.mono (G := two p q) (fun _ h => h.elim)).trans HT2.out (fun i hi => Or.inl (Or.inr hi))).trans t3 (fun i hi => Or.inl (Or.inl hi)))
  clear hw3 t3 h3 b3 h2 hne
  go_wp2
  rw [← HW3.out]
  go_ret
  exact ⟨rfl, HF.out, HTT.out⟩
set_option maxRecDepth 10000 in
set_option maxHeartbeats 1000000 in
theorem crash_any (p q : Nat) (l : List UInt8) (sb n sn : Nat) (k : Int) (w : World) (h : JAt w p q l sb n sn) (hl : l.length ≤ 16777216) (ht : crc.TabAt w) (hk1 : -9223372036854775808 ≤ k) (hk2 : k ≤ 9223372036854775807) (m : Nat) (hm : keepOf l.length sb k = m) (s : ByteArray) (hs : ⟨(l.take m).toArray⟩ = s) :
    Calls Tryd.prog 31 #[.pointer (some ⟨p, 0, none⟩), .int .i64 k] w fun e w' => ∃ j E v, Done s j E ∧ e = .returned v ∧ JAt w' p q ((l.take m).take (pos s j)) (pos s j) j j ∧ RSl w' v (recs s j) ∧ (∀ i, blk v i → w.heap.size ≤ i) ∧ Turns (two p q) w w' := by
  have c0 := cells_of h.h 0 _ rfl
  have hcr := block.crash_any q l sb k w h.b (by omega) hk1 hk2
  rw [hm] at hcr
  have htp : 0 ≠ p := fun e => by
    subst e
    have h0 := cells_of h.h 0 _ rfl
    have h3 := ht 0 (by decide)
    rw [h3] at h0
    cases h0
  have htq : 0 ≠ q := fun e => by
    subst e
    obtain ⟨_, v, h2, _⟩ := h.b
    have h6 := cells_of h2 2 _ rfl
    have h5 := ht 2 (by decide)
    rw [h5] at h6
    cases h6
  have HJ := Lib.hid h
  have HTB := Lib.hid ht
  have HTP := Lib.hid htp
  have HTQ := Lib.hid htq
  have HLM : Hid ((l.take m).length ≤ 16777216) := Lib.hid (by rw [List.length_take]; omega)
  have HOP := fun W hW hT => open_any q (l.take m) m W hW (HLM.out) hT
  rw [hs] at HOP
  have HOP := Lib.hid HOP
  generalize l.take m = lm at *
  clear h ht htp htq hk1 hk2 hm hs hl
  go_enter Tryd.func31, Tryd.ntmps31
  go_upto_region 4 with first
    | (go_at_call 77; refine (none_no _ _ _ c0).mono ?_; rintro e w' ⟨rfl, rfl⟩)
    | (go_at_call 79; refine hcr.mono ?_; rintro e w1 ⟨rfl, b1, g1⟩; have HB1 := Lib.hid b1; have HT1 := Lib.hid (turns_one g1); clear b1 g1)
  have h1 := heap_newer HJ.out.h HT1.out HJ.out.ne
  clear c0 hcr
  have c0 := cells_of h1 0 _ rfl
  have HH1 := Lib.hid h1
  clear h1
  go_upto_region 5 with (go_at_call 26; refine (HOP.out _ HB1.out (Tab.turns HTB.out HT1.out HTQ.out)).mono ?_; rintro e w2 ⟨j, E, v, P, hD, rfl, hj, hsl, hP, hn, t2⟩; have HD := Lib.hid hD; have HJ2 := Lib.hid hj; have HSL := Lib.hid hsl; have HP := Lib.hid hP; have HN := Lib.hid hn; have HT2 := Lib.hid t2; clear hD hj hsl hP hn t2)
  have hne := HJ.out.ne
  have hpl := lt_of_block HH1.out
  have h2 := heap_newer HH1.out HT2.out hne
  have HNE := Lib.hid hne
  have HPP : Hid (P ≠ p) := Lib.hid (by have := HP.out; omega)
  have HH2 := Lib.hid h2
  clear c0 hne hpl h2
  refine wp_region_mix [(0, true, true), (1, true, true), (2, true, true), (3, true, true), (4, true, true), (5, true, true), (6, true, true), (7, true, true), (8, true, true), (9, true, true), (10, true, true), (11, true, true), (12, false, true), (13, true, true), (14, true, true), (15, false, false)] (fun W => W.heap[P]? = some (.cells #[.pointer (some ⟨q, 0, none⟩), .int .i64 (j : Int), .int .i64 (j : Int)] 77 (0, 0))) (by kernel_rfl) (by kernel_rfl) (HJ2.out.h) ?_
  simp only [picked, List.filterMap_cons, List.filterMap_nil, List.getElem?_toArray, List.getElem?_cons_zero, List.getElem?_cons_succ, Option.map_some]
  repeat (refine mix_free (v := ?_) rfl ?_ ?_; rotate_left; (focus (intro w' hI; have e1 := cells_of hI 1 _ rfl; have e2 := cells_of hI 2 _ rfl; clear hI; go_simp; try with_reducible rfl)); simp only [Act.put, List.setIfInBounds_toArray, List.set_cons_zero, List.set_cons_succ])
  obtain ⟨w3, hw3⟩ : ∃ w3, w3 = w2.drew := ⟨_, rfl⟩
  have t3 : Turns nobody w2 w3 := by rw [hw3]; exact (Turns.refl _ _).drew
  rw [← hw3]
  have HT3 := Lib.hid t3
  have h3 := heap_newer HH2.out t3 (fun h => h)
  have j3 := HJ2.out.still t3
  have f1 := free_of h3 1
  have c1 := cells_of h3 1 _ rfl
  obtain ⟨w4, hw4⟩ : ∃ w4, w4 = w3.setCell ⟨p, 1, none⟩ (.int .i64 (j : Int)) := ⟨_, rfl⟩
  have t4 : Turns (fun i => i = p) w3 w4 := by rw [hw4]; exact Turns.set _ _ _ _
  have h4 : w4.heap[p]? = some (.cells #[.pointer (some ⟨q, 0, none⟩), .int .i64 (j : Int), .int .i64 (sn : Int)] 77 (0, 0)) := by rw [hw4]; exact heap_setCell_at h3 1 _
  have hnb3 : NoBytes w3 (fun i => i = p) := fun i hi cur hc => by subst hi; rw [h3] at hc; simp at hc
  have j4 := j3.keep t4 HPP.out (fun e => HNE.out e.symm) hnb3
  have HW4 := Lib.hid hw4
  have HJ4 := Lib.hid j4
  have HT4 := Lib.hid t4
  have HH4 := Lib.hid h4
  clear hw3 t3 h3 j3 hw4 t4 h4 hnb3 j4
  refine mix_big rfl (fun K hK => ?_)
  go_wp2
  rw [← HW4.out]
  refine hK _ _ (fun _ => HJ4.out.h) ?_
  clear hK K f1 c1
  repeat (refine mix_free (v := ?_) rfl ?_ ?_; rotate_left; (focus (intro w' hI; have e1 := cells_of hI 1 _ rfl; have e2 := cells_of hI 2 _ rfl; clear hI; go_simp; try with_reducible rfl)); simp only [Act.put, List.setIfInBounds_toArray, List.set_cons_zero, List.set_cons_succ])
  have f2 := free_of HH4.out 2
  have c2 := cells_of HH4.out 2 _ rfl
  obtain ⟨w5, hw5⟩ : ∃ w5, w5 = w4.setCell ⟨p, 2, none⟩ (.int .i64 (j : Int)) := ⟨_, rfl⟩
  have t5 : Turns (fun i => i = p) w4 w5 := by rw [hw5]; exact Turns.set _ _ _ _
  have h5 : w5.heap[p]? = some (.cells #[.pointer (some ⟨q, 0, none⟩), .int .i64 (j : Int), .int .i64 (j : Int)] 77 (0, 0)) := by rw [hw5]; exact heap_setCell_at HH4.out 2 _
  have hnb4 : NoBytes w4 (fun i => i = p) := fun i hi cur hc => by subst hi; rw [HH4.out] at hc; simp at hc
  have b5 := block_keep HJ4.out.b t5 (fun e => HNE.out e.symm) hnb4
  have HW5 := Lib.hid hw5
  have HF := Lib.hid (show JAt w5 p q (lm.take (pos s j)) (pos s j) j j from ⟨h5, b5⟩)
  have HT5 := Lib.hid t5
  clear hw5 t5 h5 hnb4 b5
  refine mix_big rfl (fun K hK => ?_)
  go_wp2
  rw [← HW5.out]
  refine hK _ _ (fun hc => by cases hc) ?_
  clear hK K f2 c2
  refine mix_nil ?_
  go_wp2
  have htt : Turns (two p q) w w5 := ((((HT1.out.mono (G := two p q) (fun i hi => Or.inl (Or.inr hi))).trans HT2.out (fun i hi => Or.inl (Or.inr hi))).trans HT3.out (fun _ h => h.elim)).trans HT4.out (fun i hi => Or.inl (Or.inl hi))).trans HT5.out (fun i hi => Or.inl (Or.inl hi))
  have hpw : p < w.heap.size := lt_of_block HJ.out.h
  refine bodyPost_ret (v := v) (by simp [results, Tryd.results31, go_sem]) rfl ⟨j, E, v, HD.out, rfl, HF.out, ?_, fun i hi => Nat.le_trans HT1.out.size (HN.out i hi), htt⟩
  exact Sl.keep (Sl.keep (Sl.keep HSL.out HT3.out (fun _ _ h => h)) HT4.out (fun i hi e => by have := HN.out i hi; have := HT1.out.size; omega)) HT5.out (fun i hi e => by have := HN.out i hi; have := HT1.out.size; omega)

end Go.Proofs.YtlhcmgjkhkcgcaaDoor.journal
