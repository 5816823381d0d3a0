/- Packages petrelref06 and petrelref19: lists of ids. -/
import Derived.Test.YtjjapnphljhicadLruZero
namespace Go.Proofs.Ytjjapnphljhicad.lru
open Go.RowKit
open Go.Proofs.Ytjjapnphljhicad.stepkit Go.Proofs.Ytjjapnphljhicad.eqkit Go.Proofs.Ytjjapnphljhicad.idkit Go.Proofs.Ytjjapnphljhicad.obj Go.Proofs.Ytjjapnphljhicad.row Go.Proofs.Ytjjapnphljhicad.mapkit Go.Proofs.Ytjjapnphljhicad.mix

/-- What is read of a slice of ids, in whatever world behind it. -/
theorem ISl.reads {w : World} {ao : Option Addr} {cap : Nat} {x : List (List Int)} (hw : Wh x) (h : ISl w (.slice ao x.length cap) x) : ∀ k, k < x.length → ∃ g o, ao = some ⟨g, o, none⟩ ∧ ∀ W, Turns nobody w W → W.rangeAt g (o + k * 32) (idc (x.getD k [])) := fun k hk => by
  obtain ⟨g, o, c, hv, _⟩ := Sl.some_of_pos h (by omega)
  cases hv
  exact ⟨g, o, rfl, fun W ht j v hj => ((ht.cell (lt_of_cell' (ISl.range hw h k hk j v hj)) (fun h => h)).trans (ISl.range hw h k hk j v hj))⟩
theorem wh_get {x : List (List Int)} (h : Wh x) {k : Nat} (hk : k < x.length) : (x.getD k []).length = 32 := h _ (by rw [List.getD, List.getElem?_eq_getElem hk]; exact List.getElem_mem _)

set_option maxRecDepth 10000 in
set_option maxHeartbeats 400000 in
theorem same_any (a b : Value) (x : List (List Int)) (hw : Wh x) (w : World) (ha : ISl w a x) (hb : ISl w b x) (hl : x.length ≤ 1024) :
    Calls Try.prog 11 #[a, b] w fun e w' => e = .returned (.bool true) ∧ Turns nobody w w' := by
  obtain ⟨ao, ca, rfl, _⟩ := (show Sl _ _ _ _ _ _ from ha).shape
  obtain ⟨bo, cb, rfl, _⟩ := (show Sl _ _ _ _ _ _ from hb).shape
  have HHA := Lib.hid (ISl.reads hw ha)
  have HHB := Lib.hid (ISl.reads hw hb)
  clear ha hb
  go_enter Try.func11, Try.ntmps11
  go_wp2
  go_loopw [5] (fun i wr => ∃ k : Nat, k ≤ x.length ∧ i = .int .i64 k ∧ Turns nobody w wr) (fun i _ => x.length - (intOf i).toNat)
  case atStart => exact ⟨0, Nat.zero_le _, rfl, Turns.refl _ _⟩
  case round =>
    obtain ⟨k, hk, rfl, ht⟩ := hrel
    by_cases hlt : k < x.length
    · obtain ⟨g, o, rfl, ra⟩ := HHA.out k hlt
      obtain ⟨g', o', rfl, rb⟩ := HHB.out k hlt
      have hil := wh_get hw hlt
      have RA := Lib.hid (ra _ ht.drew)
      have RB := Lib.hid (rb _ ht.drew)
      have HT := Lib.hid ht.drew
      clear ra rb ht
      generalize x.getD k [] = idk at *
      have SX := Lib.hid (sizeId hil)
      go_wp2
      refine wp_region_mix [(0, true, true), (1, true, true), (2, true, true), (3, true, true), (4, true, true), (5, true, true), (6, true, true), (7, true, true), (8, true, true)] (fun W => W = wr.drew) (by kernel_rfl) (by kernel_rfl) (rfl) ?_
      simp only [picked, List.filterMap_cons, List.filterMap_nil, List.getElem?_toArray, List.getElem?_cons_zero, List.getElem?_cons_succ, Option.map_some]
      iterate 3 (refine mix_free (v := ?_) rfl ?_ ?_; rotate_left; (focus (intro w' hI; go_simp; try with_reducible rfl)); simp only [Act.put, List.setIfInBounds_toArray, List.set_cons_zero, List.set_cons_succ])
      refine mix_free (v := .agg (idc idk).toArray) rfl (fun w' hI => by rw [hI]; exact exec_load_mid _ _ rfl _ _ rfl (idc idk) _ RA.out Try.underlying24 rfl SX.out) ?_
      simp only [Act.put, List.setIfInBounds_toArray, List.set_cons_zero, List.set_cons_succ]
      iterate 3 (refine mix_free (v := ?_) rfl ?_ ?_; rotate_left; (focus (intro w' hI; go_simp; try with_reducible rfl)); simp only [Act.put, List.setIfInBounds_toArray, List.set_cons_zero, List.set_cons_succ])
      refine mix_free (v := .agg (idc idk).toArray) rfl (fun w' hI => by rw [hI]; exact exec_load_mid _ _ rfl _ _ rfl (idc idk) _ RB.out Try.underlying24 rfl SX.out) ?_
      simp only [Act.put, List.setIfInBounds_toArray, List.set_cons_zero, List.set_cons_succ]
      refine mix_free (v := .bool false) rfl (fun w' hI => exec_ne _ _ _ rfl idk idk rfl rfl hil hil (by simp)) ?_
      simp only [Act.put, List.setIfInBounds_toArray, List.set_cons_zero, List.set_cons_succ]
      refine mix_nil ?_
      go_wp2
      go_roundw
      case rel => exact ⟨k + 1, by omega, by go_num, HT.out⟩
      case measure => simp [intOf]; omega
    · have HT := Lib.hid ht
      clear ht
      go_wp2
      go_ret
      exact ⟨rfl, HT.out⟩

theorem dropL_next (x : List (List Int)) (id : List Int) (k : Nat) (hk : k < x.length) : dropL (x.take (k + 1)) id = dropL (x.take k) id ++ (if x.getD k [] = id then [] else [x.getD k []]) := by
  unfold dropL
  rw [List.take_add_one, List.filter_append, List.getD, List.getElem?_eq_getElem hk]
  congr 1
  by_cases h : x[k] = id
  · simp [h]
  · simp [h]
theorem dropL_len (x : List (List Int)) (id : List Int) : (dropL x id).length ≤ x.length := List.length_filter_le _ _
theorem dropL_wh {x : List (List Int)} (h : Wh x) (id : List Int) : Wh (dropL x id) := fun y hy => h y (List.mem_filter.1 hy).1
theorem useL_wh {x : List (List Int)} (h : Wh x) {id : List Int} (hid : id.length = 32) : Wh (useL x id) := fun y hy => by
  rcases List.mem_append.1 hy with hy | hy
  · exact h y (List.mem_filter.1 hy).1
  · rw [List.mem_singleton.1 hy]; exact hid


set_option maxRecDepth 10000 in
set_option maxHeartbeats 1000000 in
theorem ref_drop (a : Value) (x : List (List Int)) (hw : Wh x) (id : List Int) (hid : id.length = 32) (w : World) (ha : ISl w a x) (hl : x.length ≤ 1024) :
    Calls Try.prog 12 #[a, .agg (idc id).toArray] w fun e w' => ∃ v, e = .returned v ∧ ISl w' v (dropL x id) ∧ (∀ j, blk v j → w.heap.size ≤ j) ∧ Turns nobody w w' := by
  obtain ⟨i0, hi, hz0, hz1, hz2⟩ := infoIds_parts
  obtain ⟨ao, ca, rfl, _⟩ := (show Sl _ _ _ _ _ _ from ha).shape
  have HHA := Lib.hid (ISl.reads hw ha)
  obtain ⟨w0, hw0⟩ : ∃ w0, w0 = w.alloc (.cells (idc id).toArray 24) := ⟨_, rfl⟩
  have ht0 : Turns nobody w w0 := by rw [hw0]; exact (Turns.refl _ _).alloc _
  have hb0 : w0.heap[w.heap.size]? = some (.cells (idc id).toArray 24 (0, 0)) := by rw [hw0]; exact heap_alloc_new w _
  have hz : w0.heap.size = w.heap.size + 1 := by rw [hw0]; simp
  have HRI : Hid (∀ W, Turns nobody w0 W → W.rangeAt w.heap.size 0 (idc id)) := Lib.hid fun W ht => by have := range_block (heap_newer hb0 ht (fun h => h)); rwa [List.toList_toArray] at this
  have SX := Lib.hid (sizeId hid)
  have HT0 := Lib.hid ht0
  have HW0 := Lib.hid hw0
  have HZ := Lib.hid hz
  have HBS := Lib.hid slice_id
  clear ha hw0 ht0 hb0 hz
  go_enter Try.func12, Try.ntmps12
  go_wp2
  rw [← HW0.out]
  go_loopw [6, 5] (fun i v wr => ∃ k : Nat, k ≤ x.length ∧ i = .int .i64 k ∧ ISl wr v (dropL (x.take k) id) ∧ (∀ j, blk v j → w0.heap.size ≤ j) ∧ Turns nobody w0 wr) (fun i _ _ => x.length - (intOf i).toNat)
  case atStart => exact ⟨0, Nat.zero_le _, rfl, Sl.nil _ _ _, (fun _ h => by cases h), Turns.refl _ _⟩
  case round =>
    obtain ⟨k, hk, rfl, hs, hf, ht⟩ := hrel
    by_cases hlt : k < x.length
    · obtain ⟨g, o, rfl, ra⟩ := HHA.out k hlt
      have hil := wh_get hw hlt
      have hd := dropL_next x id k hlt
      have RA := Lib.hid (ra _ (HT0.out.trans ht.drew (fun _ h => h.elim)))
      have RI := Lib.hid (HRI.out _ ht.drew)
      obtain ⟨vao, vcap, rfl, _, hvm, _⟩ := (show Sl _ _ _ _ _ _ from hs).shape
      have hyl : (dropL (x.take k) id).length ≤ 1024 := Nat.le_trans (dropL_len _ _) (by rw [List.length_take]; omega)
      have HS := Lib.hid hs
      have HF := Lib.hid hf
      have HT := Lib.hid ht
      clear ra hs hf ht
      generalize x.getD k [] = idk at *
      have SK := Lib.hid (sizeId hil)
      by_cases heq : idk = id
      · rw [if_pos heq, List.append_nil] at hd
        have HD := Lib.hid hd
        clear hd
        go_wp2
        refine wp_region_mix [(0, true, true), (1, true, true), (2, true, true), (3, true, true), (4, true, true), (5, true, true)] (fun W => W = wr.drew) (by kernel_rfl) (by kernel_rfl) (rfl) ?_
        simp only [picked, List.filterMap_cons, List.filterMap_nil, List.getElem?_toArray, List.getElem?_cons_zero, List.getElem?_cons_succ, Option.map_some]
        iterate 3 (refine mix_free (v := ?_) rfl ?_ ?_; rotate_left; (focus (intro w' hI; go_simp; try with_reducible rfl)); simp only [Act.put, List.setIfInBounds_toArray, List.set_cons_zero, List.set_cons_succ])
        refine mix_free (v := .agg (idc idk).toArray) rfl (fun w' hI => by rw [hI]; exact exec_load_mid _ _ rfl _ _ rfl (idc idk) _ RA.out Try.underlying24 rfl SK.out) ?_
        simp only [Act.put, List.setIfInBounds_toArray, List.set_cons_zero, List.set_cons_succ]
        refine mix_free (v := .agg (idc id).toArray) rfl (fun w' hI => by rw [hI]; exact exec_load_mid _ _ rfl _ _ rfl (idc id) _ RI.out Try.underlying24 rfl SX.out) ?_
        simp only [Act.put, List.setIfInBounds_toArray, List.set_cons_zero, List.set_cons_succ]
        refine mix_free (v := .bool false) rfl (fun w' hI => exec_ne _ _ _ rfl idk id rfl rfl hil hid (by simp [heq])) ?_
        simp only [Act.put, List.setIfInBounds_toArray, List.set_cons_zero, List.set_cons_succ]
        refine mix_nil ?_
        clear heq
        go_wp2
        go_roundw
        case rel => exact ⟨k + 1, by omega, by go_num, by rw [HD.out]; exact HS.out, HF.out, HT.out.drew⟩
        case measure => simp [intOf]; omega
      · rw [if_neg heq] at hd
        have HD := Lib.hid hd
        clear hd
        generalize dropL (x.take k) id = y at *
        obtain ⟨W1, hW1⟩ : ∃ W1, W1 = (wr.drew).alloc (.cells (idc idk).toArray 24) := ⟨_, rfl⟩
        have ht1 : Turns nobody wr W1 := by rw [hW1]; exact ((Turns.refl _ _).drew).alloc _
        have HQ := Lib.hid (src_one (id := idk) (by rw [hW1]; exact heap_alloc_new wr.drew _ : W1.heap[wr.heap.size]? = _) hil)
        have HS1 := Lib.hid (Sl.keep HS.out ht1 (fun _ _ h => h))
        have HW1 := Lib.hid hW1
        have HT1 := Lib.hid (HT.out.trans ht1 (fun _ h => h.elim))
        clear hW1 ht1
        go_wp2
        refine wp_region_mix [(0, true, true), (1, true, true), (2, true, true), (3, true, true), (4, true, true), (5, true, true)] (fun W => W = wr.drew) (by kernel_rfl) (by kernel_rfl) (rfl) ?_
        simp only [picked, List.filterMap_cons, List.filterMap_nil, List.getElem?_toArray, List.getElem?_cons_zero, List.getElem?_cons_succ, Option.map_some]
        iterate 3 (refine mix_free (v := ?_) rfl ?_ ?_; rotate_left; (focus (intro w' hI; go_simp; try with_reducible rfl)); simp only [Act.put, List.setIfInBounds_toArray, List.set_cons_zero, List.set_cons_succ])
        refine mix_free (v := .agg (idc idk).toArray) rfl (fun w' hI => by rw [hI]; exact exec_load_mid _ _ rfl _ _ rfl (idc idk) _ RA.out Try.underlying24 rfl SK.out) ?_
        simp only [Act.put, List.setIfInBounds_toArray, List.set_cons_zero, List.set_cons_succ]
        refine mix_free (v := .agg (idc id).toArray) rfl (fun w' hI => by rw [hI]; exact exec_load_mid _ _ rfl _ _ rfl (idc id) _ RI.out Try.underlying24 rfl SX.out) ?_
        simp only [Act.put, List.setIfInBounds_toArray, List.set_cons_zero, List.set_cons_succ]
        refine mix_free (v := .bool true) rfl (fun w' hI => exec_ne _ _ _ rfl idk id rfl rfl hil hid (by simp [heq])) ?_
        simp only [Act.put, List.setIfInBounds_toArray, List.set_cons_zero, List.set_cons_succ]
        refine mix_nil ?_
        clear heq
        go_wp2_with first
          | (with_reducible refine wpList_load_mid rfl _ _ rfl _ _ rfl _ _ RA.out Try.underlying24 rfl SK.out ?_)
          | (with_reducible refine wpList_build_run rfl _ _ _ rfl #[(0, .agg (idc idk).toArray)] (by kernel_rfl) (HBS.out _ hil _) ?_)
          | (at_builtin; rw [← HW1.out]; refine wpList_append_sl rfl _ _ 31 rfl Try.underlying31 hi hz0 hz1 hz2 (by rw [Value.cells]; simp [idc_len, zid_len]) (by decide) rfl rfl HS1.out HQ.out (by unfold maxLen; omega) (by omega) ?_; intro v5 w5 h5 t5 n5 _; have h5' : ISl w5 v5 (y ++ [idk]) := (by unfold ISl; rw [List.length_append, List.length_singleton, icells_append]; exact h5))
        have ht5 : Turns (blk (.slice vao y.length vcap)) W1 w5 := t5
        refine ⟨⟨k + 1, by omega, by go_num, by rw [HD.out]; exact h5', fun j hj => ?_, HT1.out.trans ht5 (fun j hj => Or.inr (HF.out j hj))⟩, by simp [intOf]; omega⟩
        rcases n5 j hj with h | h
        · exact HF.out j h
        · exact Nat.le_trans HT1.out.size h
    · obtain rfl : k = x.length := by omega
      rw [List.take_length] at hs
      have HS := Lib.hid hs
      have HF := Lib.hid hf
      have HT := Lib.hid ht
      clear hs hf ht
      go_wp2
      go_ret
      exact ⟨_, rfl, HS.out, fun j hj => by have := HF.out j hj; have := HZ.out; omega, HT0.out.trans HT.out (fun _ h => h.elim)⟩

end Go.Proofs.Ytjjapnphljhicad.lru
