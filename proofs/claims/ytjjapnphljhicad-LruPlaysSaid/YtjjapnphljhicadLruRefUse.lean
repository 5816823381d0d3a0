/- Package petrelref19: what is used. -/
import Derived.Test.YtjjapnphljhicadLruRef2
namespace Go.Proofs.Ytjjapnphljhicad.lru
open Go.RowKit
open Go.Proofs.Ytjjapnphljhicad.stepkit Go.Proofs.Ytjjapnphljhicad.eqkit Go.Proofs.Ytjjapnphljhicad.idkit Go.Proofs.Ytjjapnphljhicad.obj Go.Proofs.Ytjjapnphljhicad.row Go.Proofs.Ytjjapnphljhicad.mapkit Go.Proofs.Ytjjapnphljhicad.mix

set_option maxRecDepth 10000 in
set_option maxHeartbeats 1000000 in
theorem ref_use (a : Value) (x : List (List Int)) (hw : Wh x) (id : List Int) (hid : id.length = 32) (w : World) (ha : ISl w a x) (hl : x.length ≤ 1024) :
    Calls Try.prog 14 #[a, .agg (idc id).toArray] w fun e w' => ∃ v, e = .returned v ∧ ISl w' v (useL x id) ∧ (∀ j, blk v j → w.heap.size ≤ j) ∧ Turns nobody w w' := by
  obtain ⟨i0, hi, hz0, hz1, hz2⟩ := infoIds_parts
  obtain ⟨w0, hw0⟩ : ∃ w0, w0 = w.alloc (.cells (idc id).toArray 24) := ⟨_, rfl⟩
  have ht0 : Turns nobody w w0 := by rw [hw0]; exact (Turns.refl _ _).alloc _
  have hb0 : w0.heap[w.heap.size]? = some (.cells (idc id).toArray 24 (0, 0)) := by rw [hw0]; exact heap_alloc_new w _
  have HRI : Hid (∀ W, Turns nobody w0 W → W.rangeAt w.heap.size 0 (idc id)) := Lib.hid fun W ht => by have := range_block (heap_newer hb0 ht (fun h => h)); rwa [List.toList_toArray] at this
  have SX := Lib.hid (sizeId hid)
  have HT0 := Lib.hid ht0
  have HW0 := Lib.hid hw0
  have HA := Lib.hid ha
  have HBS := Lib.hid slice_id
  have hyl : (dropL x id).length ≤ 1024 := Nat.le_trans (dropL_len _ _) hl
  clear ha hw0 ht0 hb0
  go_enter Try.func14, Try.ntmps14
  go_wp2
  rw [← HW0.out]
  have HT := Lib.hid (show Turns nobody w0 w0.drew from (Turns.refl _ _).drew)
  refine wp_region_fork [0, 1, 3, 6] [0, 1, 3, 6, 2, 4, 5] (Plan.ofList [0, 1, 3] (.fork 2 (Plan.ofList [4, 5, 6] .done) 4 (Plan.ofList [2, 5, 6] .done))) (fun W => Turns nobody w0 W) (by kernel_rfl) (by kernel_rfl) (HT.out) ?_
  simp -failIfUnchanged only [Plan.pick, Plan.ofList, isIn, List.contains_cons, List.contains_nil, Nat.reduceBEq, Bool.or_false, Bool.false_or, Bool.or_true, Bool.true_or, cond_true, cond_false, Array.getD_eq_getD_getElem?, List.getElem?_toArray, List.getElem?_cons_zero, List.getElem?_cons_succ, Option.getD_some]
  iterate 1 (refine plan_free (v := ?_) rfl ?_ ?_; rotate_left; (focus (intro w' hI; go_simp; try with_reducible rfl)); simp only [Act.put, List.setIfInBounds_toArray, List.set_cons_zero, List.set_cons_succ])
  refine plan_free (v := .agg (idc id).toArray) rfl (fun w' hI => exec_load_mid _ _ rfl _ _ rfl (idc id) _ (HRI.out _ hI) Try.underlying24 rfl SX.out) ?_
  simp only [Act.put, List.setIfInBounds_toArray, List.set_cons_zero, List.set_cons_succ]
  refine plan_free (v := .agg (idc id).toArray) rfl (fun w' hI => exec_load_mid _ _ rfl _ _ rfl (idc id) _ (HRI.out _ hI) Try.underlying24 rfl SX.out) ?_
  simp only [Act.put, List.setIfInBounds_toArray, List.set_cons_zero, List.set_cons_succ]
  refine plan_fork ?_ ?_
  ·
    refine bigC_mk rfl (fun K hK => ?_)
    go_wp2_with (go_at_call 12; refine (ref_drop _ x hw id hid _ (Sl.keep HA.out (HT0.out.trans HT.out (fun _ h => h.elim)) (fun _ _ h => h)) hl).mono ?_; rintro e w2 ⟨v2, rfl, s2, f2, t2⟩)
    have HT2 := Lib.hid (HT.out.trans t2 (fun _ h => h.elim))
    have HF2 : Hid (∀ j, blk v2 j → w0.heap.size ≤ j) := Lib.hid fun j hj => Nat.le_trans HT.out.size (f2 j hj)
    have HS2 := Lib.hid s2
    try replace HQ := Lib.hid (HQ.out.keep t2 (fun _ _ h => h))
    clear HT
    have HT := HT2
    clear HT2 s2 f2 t2
    refine hK _ _ (fun _ => HT.out) ?_
    clear hK K
    obtain ⟨WB, hWB⟩ : ∃ WB, WB = w2 := ⟨_, rfl⟩
    rw [← hWB] at HS2 HT ⊢
    clear hWB
    refine plan_big ?_
    refine bigC_mk rfl (fun K hK => ?_)
    go_wp2_with (with_reducible refine wpList_build_run rfl _ _ _ rfl #[(0, .agg (idc id).toArray)] (by kernel_rfl) (HBS.out _ hid _) ?_)
    have HQ := Lib.hid (src_one (id := id) (heap_alloc_new WB (.cells (idc id).toArray 24)) hid)
    try replace HS2 := Lib.hid (Sl.keep HS2.out ((Turns.refl nobody WB).alloc (.cells (idc id).toArray 24)) (fun _ _ h => h))
    have HT2 := Lib.hid (HT.out.alloc (.cells (idc id).toArray 24))
    clear HT
    have HT := HT2
    clear HT2
    refine hK _ _ (fun _ => HT.out) ?_
    clear hK K
    refine plan_big (bigC_mk rfl (fun K hK => ?_))
    go_wp2_with (at_builtin; refine wpList_append_sl rfl _ _ 31 rfl Try.underlying31 hi hz0 hz1 hz2 (by rw [Value.cells]; simp [idc_len, zid_len]) (by decide) rfl rfl HS2.out HQ.out (by unfold maxLen; omega) (by omega) ?_)
    intro v5 w5 h5 t5 n5 _
    have ht5 : Turns (blk v2) _ w5 := t5
    have HE : Hid (ISl w5 v5 (useL x id) ∧ (∀ j, blk v5 j → w.heap.size ≤ j) ∧ Turns nobody w w5) := Lib.hid ⟨by
        unfold ISl useL
        rw [List.length_append, List.length_singleton, icells_append]
        exact h5, fun j hj => by
        have := HT0.out.size
        have := HT.out.size
        rcases n5 j hj with h | h
        · have := HF2.out j h; omega
        · omega, HT0.out.trans (HT.out.trans ht5 (fun j hj => Or.inr (HF2.out j hj))) (fun _ h => h.elim)⟩
    refine hK _ _ (fun _ => HT.out.trans ht5 (fun j hj => Or.inr (HF2.out j hj))) ?_
    clear hK K h5 t5 n5 ht5
    repeat (refine plan_free (v := ?_) rfl ?_ ?_; rotate_left; (focus (intro w' hI; go_simp; try with_reducible rfl)); simp only [Act.put, List.setIfInBounds_toArray, List.set_cons_zero, List.set_cons_succ])
    refine plan_done ?_
    go_wp2
    go_ret
    exact ⟨_, rfl, HE.out⟩
  ·
    obtain ⟨WB, hWB⟩ : ∃ WB, WB = w0.drew := ⟨_, rfl⟩
    rw [← hWB] at HT ⊢
    clear hWB
    refine bigC_mk rfl (fun K hK => ?_)
    go_wp2_with (with_reducible refine wpList_build_run rfl _ _ _ rfl #[(0, .agg (idc id).toArray)] (by kernel_rfl) (HBS.out _ hid _) ?_)
    have HQ := Lib.hid (src_one (id := id) (heap_alloc_new WB (.cells (idc id).toArray 24)) hid)
    try replace HS2 := Lib.hid (Sl.keep HS2.out ((Turns.refl nobody WB).alloc (.cells (idc id).toArray 24)) (fun _ _ h => h))
    have HT2 := Lib.hid (HT.out.alloc (.cells (idc id).toArray 24))
    clear HT
    have HT := HT2
    clear HT2
    refine hK _ _ (fun _ => HT.out) ?_
    clear hK K
    refine plan_big ?_
    refine bigC_mk rfl (fun K hK => ?_)
    go_wp2_with (go_at_call 12; refine (ref_drop _ x hw id hid _ (Sl.keep HA.out (HT0.out.trans HT.out (fun _ h => h.elim)) (fun _ _ h => h)) hl).mono ?_; rintro e w2 ⟨v2, rfl, s2, f2, t2⟩)
    have HT2 := Lib.hid (HT.out.trans t2 (fun _ h => h.elim))
    have HF2 : Hid (∀ j, blk v2 j → w0.heap.size ≤ j) := Lib.hid fun j hj => Nat.le_trans HT.out.size (f2 j hj)
    have HS2 := Lib.hid s2
    try replace HQ := Lib.hid (HQ.out.keep t2 (fun _ _ h => h))
    clear HT
    have HT := HT2
    clear HT2 s2 f2 t2
    refine hK _ _ (fun _ => HT.out) ?_
    clear hK K
    refine plan_big (bigC_mk rfl (fun K hK => ?_))
    go_wp2_with (at_builtin; refine wpList_append_sl rfl _ _ 31 rfl Try.underlying31 hi hz0 hz1 hz2 (by rw [Value.cells]; simp [idc_len, zid_len]) (by decide) rfl rfl HS2.out HQ.out (by unfold maxLen; omega) (by omega) ?_)
    intro v5 w5 h5 t5 n5 _
    have ht5 : Turns (blk v2) _ w5 := t5
    have HE : Hid (ISl w5 v5 (useL x id) ∧ (∀ j, blk v5 j → w.heap.size ≤ j) ∧ Turns nobody w w5) := Lib.hid ⟨by
        unfold ISl useL
        rw [List.length_append, List.length_singleton, icells_append]
        exact h5, fun j hj => by
        have := HT0.out.size
        have := HT.out.size
        rcases n5 j hj with h | h
        · have := HF2.out j h; omega
        · omega, HT0.out.trans (HT.out.trans ht5 (fun j hj => Or.inr (HF2.out j hj))) (fun _ h => h.elim)⟩
    refine hK _ _ (fun _ => HT.out.trans ht5 (fun j hj => Or.inr (HF2.out j hj))) ?_
    clear hK K h5 t5 n5 ht5
    repeat (refine plan_free (v := ?_) rfl ?_ ?_; rotate_left; (focus (intro w' hI; go_simp; try with_reducible rfl)); simp only [Act.put, List.setIfInBounds_toArray, List.set_cons_zero, List.set_cons_succ])
    refine plan_done ?_
    go_wp2
    go_ret
    exact ⟨_, rfl, HE.out⟩

end Go.Proofs.Ytjjapnphljhicad.lru
