/- Package petrelref19: what is there, what comes behind, what is used. -/
import Derived.Test.YtjjapnphljhicadLruRef
namespace Go.Proofs.Ytjjapnphljhicad.lru
open Go.RowKit
open Go.Proofs.Ytjjapnphljhicad.stepkit Go.Proofs.Ytjjapnphljhicad.eqkit Go.Proofs.Ytjjapnphljhicad.idkit Go.Proofs.Ytjjapnphljhicad.obj Go.Proofs.Ytjjapnphljhicad.row Go.Proofs.Ytjjapnphljhicad.mapkit Go.Proofs.Ytjjapnphljhicad.mix

theorem idx_eq {x : List (List Int)} {id : List Int} {k : Nat} (hk : k < x.length) (h : x.getD k [] = id) (hb : ∀ j, j < k → ¬ x.getD j [] = id) : idxX x id = k := by
  unfold idxX
  rw [List.findIdx_eq hk]
  rw [List.getD, List.getElem?_eq_getElem hk] at h
  refine ⟨by simpa using h, fun j hj => ?_⟩
  have := hb j hj
  rw [List.getD, List.getElem?_eq_getElem (by omega)] at this
  simpa using this
theorem idx_ge {x : List (List Int)} {id : List Int} {k : Nat} (hb : ∀ j, j < k → ¬ x.getD j [] = id) : k ≤ idxX x id ∨ x.length ≤ idxX x id := by
  by_cases h : idxX x id < x.length
  · refine Or.inl (Nat.le_of_not_lt fun hlt => ?_)
    unfold idxX at h hlt
    have h2 := List.findIdx_getElem (xs := x) (p := fun y => decide (y = id)) (w := h)
    have := hb _ hlt
    rw [List.getD, List.getElem?_eq_getElem h] at this
    exact this (by simpa using h2)
  · exact Or.inr (by omega)

set_option maxRecDepth 10000 in
set_option maxHeartbeats 1000000 in
theorem ref_has (a : Value) (x : List (List Int)) (hw : Wh x) (id : List Int) (hid : id.length = 32) (w : World) (ha : ISl w a x) (hl : x.length ≤ 1024) :
    Calls Try.prog 15 #[a, .agg (idc id).toArray] w fun e w' => e = .returned (.bool (decide (id ∈ x))) ∧ Turns nobody w w' := by
  obtain ⟨ao, ca, rfl, _⟩ := (show Sl _ _ _ _ _ _ from ha).shape
  have HHA := Lib.hid (ISl.reads hw ha)
  obtain ⟨w0, hw0⟩ : ∃ w0, w0 = w.alloc (.cells (idc id).toArray 24) := ⟨_, rfl⟩
  have ht0 : Turns nobody w w0 := by rw [hw0]; exact (Turns.refl _ _).alloc _
  have hb0 : w0.heap[w.heap.size]? = some (.cells (idc id).toArray 24 (0, 0)) := by rw [hw0]; exact heap_alloc_new w _
  have hz : w0.heap.size = w.heap.size + 1 := by rw [hw0]; simp
  have HRI : Hid (∀ W, Turns nobody w0 W → W.rangeAt w.heap.size 0 (idc id)) := Lib.hid fun W ht => by have := range_block (heap_newer hb0 ht (fun h => h)); rwa [List.toList_toArray] at this
  have SX := Lib.hid (sizeId hid)
  have HT0 := Lib.hid ht0
  have HW0 := Lib.hid hw0
  have HZ := Lib.hid hz
  obtain ⟨res, hres⟩ : ∃ r, decide (id ∈ x) = r := ⟨_, rfl⟩
  rw [hres]
  have HRES := Lib.hid hres
  clear ha hw0 ht0 hb0 hz hres
  go_enter Try.func15, Try.ntmps15
  go_wp2
  rw [← HW0.out]
  go_loopw [5] (fun i wr => ∃ k : Nat, k ≤ x.length ∧ i = .int .i64 k ∧ (∀ j, j < k → ¬ x.getD j [] = id) ∧ Turns nobody w0 wr) (fun i _ => x.length - (intOf i).toNat)
  case atStart => exact ⟨0, Nat.zero_le _, rfl, fun _ h => absurd h (Nat.not_lt_zero _), Turns.refl _ _⟩
  case round =>
    obtain ⟨k, hk, rfl, hb, ht⟩ := hrel
    by_cases hlt : k < x.length
    · obtain ⟨g, o, rfl, ra⟩ := HHA.out k hlt
      have hil := wh_get hw hlt
      have RA := Lib.hid (ra _ (HT0.out.trans ht.drew (fun _ h => h.elim)))
      have RI := Lib.hid (HRI.out _ ht.drew)
      have HT := Lib.hid ht.drew
      have HB := Lib.hid hb
      have hget : x[k]? = some (x.getD k []) := by rw [List.getD, List.getElem?_eq_getElem hlt]; rfl
      have HGET := Lib.hid hget
      obtain ⟨idk, hidk⟩ : ∃ idk, x.getD k [] = idk := ⟨_, rfl⟩
      have HIDK := Lib.hid hidk
      rw [hidk] at RA hil
      clear ra ht hb hget hidk
      have SK := Lib.hid (sizeId hil)
      by_cases heq : idk = id
      · have hmem : decide (id ∈ x) = true := decide_eq_true (by rw [← heq, ← HIDK.out]; exact List.mem_of_getElem? HGET.out)
        have HMEM := Lib.hid (HRES.out.symm.trans hmem)
        clear hmem
        go_wp2
        refine wp_region_mix [(0, true, true), (1, true, true), (2, true, true), (3, true, true), (4, true, true), (5, true, true)] (fun W => W = wr.drew) (by kernel_rfl) (by kernel_rfl) (rfl) ?_
        simp only [picked, List.filterMap_cons, List.filterMap_nil, List.getElem?_toArray, List.getElem?_cons_zero, List.getElem?_cons_succ, Option.map_some]
        iterate 3 (refine mix_free (v := ?_) rfl ?_ ?_; rotate_left; (focus (intro w' hI; go_simp; try with_reducible rfl)); simp only [Act.put, List.setIfInBounds_toArray, List.set_cons_zero, List.set_cons_succ])
        refine mix_free (v := .agg (idc idk).toArray) rfl (fun w' hI => by rw [hI]; exact exec_load_mid _ _ rfl _ _ rfl (idc idk) _ RA.out Try.underlying24 rfl SK.out) ?_
        simp only [Act.put, List.setIfInBounds_toArray, List.set_cons_zero, List.set_cons_succ]
        refine mix_free (v := .agg (idc id).toArray) rfl (fun w' hI => by rw [hI]; exact exec_load_mid _ _ rfl _ _ rfl (idc id) _ RI.out Try.underlying24 rfl SX.out) ?_
        simp only [Act.put, List.setIfInBounds_toArray, List.set_cons_zero, List.set_cons_succ]
        refine mix_free (v := .bool true) rfl (fun w' hI => exec_eq _ _ _ rfl idk id rfl rfl hil hid (by simp [heq])) ?_
        simp only [Act.put, List.setIfInBounds_toArray, List.set_cons_zero, List.set_cons_succ]
        refine mix_nil ?_
        clear heq
        go_wp2
        go_ret
        exact ⟨by rw [HMEM.out]; rfl, HT0.out.trans HT.out (fun _ h => h.elim)⟩
      · have HNE := Lib.hid heq
        go_wp2
        refine wp_region_mix [(0, true, true), (1, true, true), (2, true, true), (3, true, true), (4, true, true), (5, true, true)] (fun W => W = wr.drew) (by kernel_rfl) (by kernel_rfl) (rfl) ?_
        simp only [picked, List.filterMap_cons, List.filterMap_nil, List.getElem?_toArray, List.getElem?_cons_zero, List.getElem?_cons_succ, Option.map_some]
        iterate 3 (refine mix_free (v := ?_) rfl ?_ ?_; rotate_left; (focus (intro w' hI; go_simp; try with_reducible rfl)); simp only [Act.put, List.setIfInBounds_toArray, List.set_cons_zero, List.set_cons_succ])
        refine mix_free (v := .agg (idc idk).toArray) rfl (fun w' hI => by rw [hI]; exact exec_load_mid _ _ rfl _ _ rfl (idc idk) _ RA.out Try.underlying24 rfl SK.out) ?_
        simp only [Act.put, List.setIfInBounds_toArray, List.set_cons_zero, List.set_cons_succ]
        refine mix_free (v := .agg (idc id).toArray) rfl (fun w' hI => by rw [hI]; exact exec_load_mid _ _ rfl _ _ rfl (idc id) _ RI.out Try.underlying24 rfl SX.out) ?_
        simp only [Act.put, List.setIfInBounds_toArray, List.set_cons_zero, List.set_cons_succ]
        refine mix_free (v := .bool false) rfl (fun w' hI => exec_eq _ _ _ rfl idk id rfl rfl hil hid (by simp [heq])) ?_
        simp only [Act.put, List.setIfInBounds_toArray, List.set_cons_zero, List.set_cons_succ]
        refine mix_nil ?_
        clear heq
        go_wp2
        go_roundw
        case rel => exact ⟨k + 1, by omega, by go_num, fun j hj => by rcases Nat.lt_or_ge j k with h | h; exact HB.out j h; rw [show j = k by omega, HIDK.out]; exact HNE.out, HT.out⟩
        case measure => simp [intOf]; omega
    · obtain rfl : k = x.length := by omega
      have hmem : decide (id ∈ x) = false := decide_eq_false fun hm => by
        obtain ⟨j, hj, he⟩ := List.mem_iff_getElem.1 hm
        exact hb j hj (by rw [List.getD, List.getElem?_eq_getElem hj]; exact he)
      have HMEM := Lib.hid (HRES.out.symm.trans hmem)
      have HT := Lib.hid ht
      clear ht hb hmem
      go_wp2
      go_ret
      exact ⟨by rw [HMEM.out]; rfl, HT0.out.trans HT.out (fun _ h => h.elim)⟩

set_option maxRecDepth 10000 in
set_option maxHeartbeats 1000000 in
theorem ref_after (a : Value) (x : List (List Int)) (hw : Wh x) (id : List Int) (hid : id.length = 32) (w : World) (ha : ISl w a x) (hl : x.length ≤ 1024) :
    Calls Try.prog 17 #[a, .agg (idc id).toArray] w fun e w' => e = .returned (.tuple #[.agg (idc ((afterX x id).getD zid)).toArray, .bool (afterX x id).isSome]) ∧ Turns nobody w w' := by
  obtain ⟨ao, ca, rfl, _⟩ := (show Sl _ _ _ _ _ _ from ha).shape
  have HHA := Lib.hid (ISl.reads hw ha)
  obtain ⟨w0, hw0⟩ : ∃ w0, w0 = w.alloc (.cells (idc id).toArray 24) := ⟨_, rfl⟩
  have ht0 : Turns nobody w w0 := by rw [hw0]; exact (Turns.refl _ _).alloc _
  have hb0 : w0.heap[w.heap.size]? = some (.cells (idc id).toArray 24 (0, 0)) := by rw [hw0]; exact heap_alloc_new w _
  have hz : w0.heap.size = w.heap.size + 1 := by rw [hw0]; simp
  have HRI : Hid (∀ W, Turns nobody w0 W → W.rangeAt w.heap.size 0 (idc id)) := Lib.hid fun W ht => by have := range_block (heap_newer hb0 ht (fun h => h)); rwa [List.toList_toArray] at this
  have SX := Lib.hid (sizeId hid)
  have HT0 := Lib.hid ht0
  have HW0 := Lib.hid hw0
  have HZ := Lib.hid hz
  obtain ⟨w1, hw1⟩ : ∃ w1, w1 = w0.alloc (.cells #[.int .u8 0, .int .u8 0, .int .u8 0, .int .u8 0, .int .u8 0, .int .u8 0, .int .u8 0, .int .u8 0, .int .u8 0, .int .u8 0, .int .u8 0, .int .u8 0, .int .u8 0, .int .u8 0, .int .u8 0, .int .u8 0, .int .u8 0, .int .u8 0, .int .u8 0, .int .u8 0, .int .u8 0, .int .u8 0, .int .u8 0, .int .u8 0, .int .u8 0, .int .u8 0, .int .u8 0, .int .u8 0, .int .u8 0, .int .u8 0, .int .u8 0, .int .u8 0] 24) := ⟨_, rfl⟩
  have ht1 : Turns nobody w0 w1 := by rw [hw1]; exact (Turns.refl _ _).alloc _
  have HIC : Hid (∀ W, Turns nobody w1 W → ∀ cs : List Value, cs.length = 32 → W.there (w.heap.size + 1) 0 cs.toArray.size ∧ Turns nobody w0 (W.setCells (w.heap.size + 1) 0 cs) ∧ (W.setCells (w.heap.size + 1) 0 cs).rangeAt (w.heap.size + 1) 0 cs) := Lib.hid fun W ht cs hc => by
    have := idcell (w := w0) (W := W) (by rw [← hw1]; exact ht) cs hc
    rwa [hz] at this
  have HT1 := Lib.hid ht1
  have HW1 := Lib.hid hw1
  have SZ := Lib.hid (sizeId zid_len)
  have HB0 := Lib.hid build_zero
  have hzl := zid_len
  obtain ⟨A, hA⟩ : ∃ A, afterX x id = A := ⟨_, rfl⟩
  rw [hA]
  have HA := Lib.hid hA
  clear ha hw0 ht0 hb0 hz hw1 ht1 hA
  go_enter Try.func17, Try.ntmps17
  go_wp2
  rw [← HW0.out, ← HW1.out]
  go_loopw [6] (fun i wr => ∃ k : Nat, k ≤ x.length ∧ i = .int .i64 k ∧ (∀ j, j < k → ¬ x.getD j [] = id) ∧ Turns nobody w1 wr) (fun i _ => x.length - (intOf i).toNat)
  case atStart => exact ⟨0, Nat.zero_le _, rfl, fun _ h => absurd h (Nat.not_lt_zero _), Turns.refl _ _⟩
  case round =>
    obtain ⟨k, hk, rfl, hb, ht⟩ := hrel
    by_cases hlt : k + 1 < x.length
    · obtain ⟨g, o, rfl, ra⟩ := HHA.out k (by omega)
      obtain ⟨g', o', hgo, rb⟩ := HHA.out (k + 1) hlt
      cases hgo
      have hil := wh_get hw (k := k) (by omega)
      have hil2 := wh_get hw hlt
      have h01 := HT1.out.trans ht.drew (fun _ h => h.elim)
      have RA := Lib.hid (ra _ (HT0.out.trans h01 (fun _ h => h.elim)))
      have RB := Lib.hid (rb _ (HT0.out.trans h01 (fun _ h => h.elim)))
      have RI := Lib.hid (HRI.out _ h01)
      have HT := Lib.hid ht.drew
      have HB := Lib.hid hb
      obtain ⟨idk, hidk⟩ : ∃ idk, x.getD k [] = idk := ⟨_, rfl⟩
      obtain ⟨idn, hidn⟩ : ∃ idn, x.getD (k + 1) [] = idn := ⟨_, rfl⟩
      have HIDK := Lib.hid hidk
      have HIDN := Lib.hid hidn
      rw [hidk] at RA hil
      rw [hidn] at RB hil2
      clear ra rb ht hb hidk hidn h01
      have SK := Lib.hid (sizeId hil)
      have SN := Lib.hid (sizeId hil2)
      have HNL := Lib.hid (show (idc idn).length = 32 by rw [idc_len, hil2])
      have hlt' : (k : Int) + 1 < x.length := by omega
      have hk0 : k < x.length := by omega
      have hk1 : ((k : Int) + 1).toNat = k + 1 := by omega
      by_cases heq : idk = id
      · have haft : afterX x id = some idn := by
          unfold afterX
          have e := idx_eq (x := x) (id := id) (k := k) (by omega) (HIDK.out.trans heq) HB.out
          rw [e, if_pos hlt, HIDN.out]
        have HAE := Lib.hid (HA.out.symm.trans haft)
        clear haft
        go_wp2
        refine wp_region_mix [(0, true, true), (1, true, true), (2, true, true), (3, true, true), (4, true, true), (5, true, true)] (fun W => W = wr.drew) (by kernel_rfl) (by kernel_rfl) (rfl) ?_
        simp only [picked, List.filterMap_cons, List.filterMap_nil, List.getElem?_toArray, List.getElem?_cons_zero, List.getElem?_cons_succ, Option.map_some]
        iterate 3 (refine mix_free (v := ?_) rfl ?_ ?_; rotate_left; (focus (intro w' hI; go_simp; try with_reducible rfl)); simp only [Act.put, List.setIfInBounds_toArray, List.set_cons_zero, List.set_cons_succ])
        refine mix_free (v := .agg (idc idk).toArray) rfl (fun w' hI => by rw [hI]; exact exec_load_mid _ _ rfl _ _ rfl (idc idk) _ RA.out Try.underlying24 rfl SK.out) ?_
        simp only [Act.put, List.setIfInBounds_toArray, List.set_cons_zero, List.set_cons_succ]
        refine mix_free (v := .agg (idc id).toArray) rfl (fun w' hI => by rw [hI]; exact exec_load_mid _ _ rfl _ _ rfl (idc id) _ RI.out Try.underlying24 rfl SX.out) ?_
        simp only [Act.put, List.setIfInBounds_toArray, List.set_cons_zero, List.set_cons_succ]
        refine mix_free (v := .bool true) rfl (fun w' hI => exec_eq _ _ _ rfl idk id rfl rfl hil hid (by simp [heq])) ?_
        simp only [Act.put, List.setIfInBounds_toArray, List.set_cons_zero, List.set_cons_succ]
        refine mix_nil ?_
        clear heq
        go_wp2_with first
          | (with_reducible refine wpList_load_mid rfl _ _ rfl _ _ rfl _ _ RB.out Try.underlying24 rfl SN.out ?_)
          | (refine wpList_store_mid rfl _ _ _ rfl _ _ _ rfl rfl (HIC.out _ HT.out _ HNL.out).1 (by rw [List.size_toArray]; exact SN.out) (all_oneCell_toArray (idc_one _)) ?_; rw [List.toList_toArray])
        refine bodyPost_ret (results_id rfl _ _ rfl rfl (HIC.out _ HT.out _ HNL.out).2.2 hil2) rfl ?_
        exact ⟨by rw [HAE.out]; rfl, HT0.out.trans (HIC.out _ HT.out _ HNL.out).2.1 (fun _ h => h.elim)⟩
      · have HNE := Lib.hid heq
        go_wp2
        refine wp_region_mix [(0, true, true), (1, true, true), (2, true, true), (3, true, true), (4, true, true), (5, true, true)] (fun W => W = wr.drew) (by kernel_rfl) (by kernel_rfl) (rfl) ?_
        simp only [picked, List.filterMap_cons, List.filterMap_nil, List.getElem?_toArray, List.getElem?_cons_zero, List.getElem?_cons_succ, Option.map_some]
        iterate 3 (refine mix_free (v := ?_) rfl ?_ ?_; rotate_left; (focus (intro w' hI; go_simp; try with_reducible rfl)); simp only [Act.put, List.setIfInBounds_toArray, List.set_cons_zero, List.set_cons_succ])
        refine mix_free (v := .agg (idc idk).toArray) rfl (fun w' hI => by rw [hI]; exact exec_load_mid _ _ rfl _ _ rfl (idc idk) _ RA.out Try.underlying24 rfl SK.out) ?_
        simp only [Act.put, List.setIfInBounds_toArray, List.set_cons_zero, List.set_cons_succ]
        refine mix_free (v := .agg (idc id).toArray) rfl (fun w' hI => by rw [hI]; exact exec_load_mid _ _ rfl _ _ rfl (idc id) _ RI.out Try.underlying24 rfl SX.out) ?_
        simp only [Act.put, List.setIfInBounds_toArray, List.set_cons_zero, List.set_cons_succ]
        refine mix_free (v := .bool false) rfl (fun w' hI => exec_eq _ _ _ rfl idk id rfl rfl hil hid (by simp [heq])) ?_
        simp only [Act.put, List.setIfInBounds_toArray, List.set_cons_zero, List.set_cons_succ]
        refine mix_nil ?_
        clear heq
        go_wp2
        go_roundw
        case rel => exact ⟨k + 1, by omega, by go_num, fun j hj => by rcases Nat.lt_or_ge j k with h | h; exact HB.out j h; rw [show j = k by omega, HIDK.out]; exact HNE.out, HT.out⟩
        case measure => simp [intOf]; omega
    · have haft : afterX x id = none := by
        unfold afterX
        rw [if_neg]
        rcases idx_ge (x := x) (id := id) hb with h | h <;> omega
      have HAE := Lib.hid (HA.out.symm.trans haft)
      have HT := Lib.hid ht
      have HZL := Lib.hid (show (idc zid).length = 32 by rw [idc_len, zid_len])
      clear ht hb haft
      have hlt' : ¬ (k : Int) + 1 < x.length := by omega
      go_wp2_with first
        | (with_reducible refine wpList_exec (exec_build _ _ rfl #[] (by kernel_rfl) (HB0.out _)) (by first | rfl | go_simp) ?_)
        | (refine wpList_store_mid rfl _ _ _ rfl _ _ _ rfl rfl (HIC.out _ HT.out _ HZL.out).1 (by rw [List.size_toArray]; exact SZ.out) (all_oneCell_toArray (idc_one _)) ?_; rw [List.toList_toArray])
      refine bodyPost_ret (results_id rfl _ _ rfl rfl (HIC.out _ HT.out _ HZL.out).2.2 hzl) rfl ?_
      exact ⟨by rw [HAE.out]; rfl, HT0.out.trans (HIC.out _ HT.out _ HZL.out).2.1 (fun _ h => h.elim)⟩

end Go.Proofs.Ytjjapnphljhicad.lru
