/- Package lru: what was used next; what is used, and dropped. -/
import Derived.Test.YtjjapnphljhicadLruUse
namespace Go.Proofs.Ytjjapnphljhicad.lru
open Go.RowKit
open Go.Proofs.Ytjjapnphljhicad.stepkit Go.Proofs.Ytjjapnphljhicad.eqkit Go.Proofs.Ytjjapnphljhicad.idkit Go.Proofs.Ytjjapnphljhicad.obj Go.Proofs.Ytjjapnphljhicad.row Go.Proofs.Ytjjapnphljhicad.mapkit Go.Proofs.Ytjjapnphljhicad.mix


set_option maxRecDepth 10000 in
set_option maxHeartbeats 400000 in
theorem after_any (p : Nat) (ns : List (List Int × Nat)) (id : List Int) (hid : id.length = 32) (F : Nat → Prop) (w : World) (h : LruAt p ns F w) :
    Calls Try.prog 16 #[.pointer (some ⟨p, 0, none⟩), .agg (idc id).toArray] w fun e w' => e = .returned (.tuple #[.agg (idc ((afterId ns id).getD zid)).toArray, .bool (afterId ns id).isSome]) ∧ Turns nobody w w' := by
  obtain ⟨w0, hw0⟩ : ∃ w0, w0 = w.alloc (.cells (idc id).toArray 24) := ⟨_, rfl⟩
  obtain ⟨W1, hW1⟩ : ∃ W1, W1 = (w0.alloc (.cells #[.int .u8 0, .int .u8 0, .int .u8 0, .int .u8 0, .int .u8 0, .int .u8 0, .int .u8 0, .int .u8 0, .int .u8 0, .int .u8 0, .int .u8 0, .int .u8 0, .int .u8 0, .int .u8 0, .int .u8 0, .int .u8 0, .int .u8 0, .int .u8 0, .int .u8 0, .int .u8 0, .int .u8 0, .int .u8 0, .int .u8 0, .int .u8 0, .int .u8 0, .int .u8 0, .int .u8 0, .int .u8 0, .int .u8 0, .int .u8 0, .int .u8 0, .int .u8 0] 24)).drew := ⟨_, rfl⟩
  have ht0 : Turns nobody w w0 := by rw [hw0]; exact (Turns.refl _ _).alloc _
  have ht01 : Turns nobody w0 W1 := by rw [hW1]; exact ((Turns.refl _ _).alloc _).drew
  have htz : Turns nobody (w0.alloc (.cells #[.int .u8 0, .int .u8 0, .int .u8 0, .int .u8 0, .int .u8 0, .int .u8 0, .int .u8 0, .int .u8 0, .int .u8 0, .int .u8 0, .int .u8 0, .int .u8 0, .int .u8 0, .int .u8 0, .int .u8 0, .int .u8 0, .int .u8 0, .int .u8 0, .int .u8 0, .int .u8 0, .int .u8 0, .int .u8 0, .int .u8 0, .int .u8 0, .int .u8 0, .int .u8 0, .int .u8 0, .int .u8 0, .int .u8 0, .int .u8 0, .int .u8 0, .int .u8 0] 24)) W1 := by rw [hW1]; exact (Turns.refl _ _).drew
  have ht1 := ht0.trans ht01 (fun _ h => h.elim)
  have hz0 : w0.heap.size = w.heap.size + 1 := by rw [hw0]; simp
  have hb0 : w0.heap[w.heap.size]? = some (.cells (idc id).toArray 24 (0, 0)) := by rw [hw0]; exact heap_alloc_new w _
  have hx : W1.rangeAt w.heap.size 0 (idc id) := by have := range_block (heap_newer hb0 ht01 (fun h => h)); rwa [List.toList_toArray] at this
  obtain ⟨r, mb, hp, hr, hm, hnd, _⟩ := (local_lru p ns).keep h ht1 (fun _ _ h => h)
  obtain ⟨r0, mb0, hp', _⟩ := (local_lru p ns).keep h (ht0.alloc (Obj.cells #[.int .u8 0, .int .u8 0, .int .u8 0, .int .u8 0, .int .u8 0, .int .u8 0, .int .u8 0, .int .u8 0, .int .u8 0, .int .u8 0, .int .u8 0, .int .u8 0, .int .u8 0, .int .u8 0, .int .u8 0, .int .u8 0, .int .u8 0, .int .u8 0, .int .u8 0, .int .u8 0, .int .u8 0, .int .u8 0, .int .u8 0, .int .u8 0, .int .u8 0, .int .u8 0, .int .u8 0, .int .u8 0, .int .u8 0, .int .u8 0, .int .u8 0, .int .u8 0] 24)) (fun _ _ h => h)
  have c0 := cells_of hp' 0 _ rfl
  have c1 : W1.cell? ⟨p, 1, none⟩ = some (.map (some mb)) := cells_of hp 1 _ rfl
  have hlk := run_lookM hm (keys_of hr hnd) id hid Try.underlying45 _ (zero_ptr W1)
  have HW0 := Lib.hid hw0
  have HW1 := Lib.hid hW1
  have HX := Lib.hid hx
  have SX := Lib.hid (sizeId hid)
  have HZ0 := Lib.hid hz0
  have HB := Lib.hid build_zero
  have HT0 := Lib.hid ht0
  by_cases hmem : id ∈ ns.map (·.1)
  · obtain ⟨hj, hje⟩ := idx_lt hmem
    have hla := look_at hnd hj
    rw [hje] at hla
    rw [hla] at hlk
    have hbh := behind_any p r ((zid, r) :: ns) W1 hr (by simp) rfl _ hp (idxOf ns id + 1) (by simp; omega)
    rw [at_cons] at hbh
    have en : nx ((zid, r) :: ns).length (idxOf ns id + 1) = if idxOf ns id + 1 = ns.length then 0 else idxOf ns id + 2 := by
      rw [List.length_cons]; unfold nx; (repeat' split) <;> omega
    have e1 : (if nx ((zid, r) :: ns).length (idxOf ns id + 1) = 0 then zid else (at' ((zid, r) :: ns) (nx ((zid, r) :: ns).length (idxOf ns id + 1))).1) = (afterId ns id).getD zid := by
      rw [en]
      unfold afterId
      by_cases hz : idxOf ns id + 1 = ns.length
      · rw [if_pos hz, if_pos rfl, if_neg (by omega)]; rfl
      · rw [if_neg hz, if_neg (by omega), if_pos (by omega)]; rfl
    have e2 : decide (nx ((zid, r) :: ns).length (idxOf ns id + 1) ≠ 0) = (afterId ns id).isSome := by
      rw [en]
      unfold afterId
      by_cases hz : idxOf ns id + 1 = ns.length
      · rw [if_pos hz, if_neg (by omega)]; rfl
      · rw [if_neg hz, if_pos (by omega)]; rfl
    rw [e1, e2] at hbh
    have hl : ((afterId ns id).getD zid).length = 32 := by
      unfold afterId
      split
      · exact hr.wh _ (List.mem_cons_of_mem _ (at_mem (by assumption)))
      · exact zid_len
    have HS := Lib.hid (sizeId hl)
    have HCL := Lib.hid (show (idc ((afterId ns id).getD zid)).length = 32 by rw [idc_len, hl])
    have HL : Hid ((Instr.lookup 45 (.map (some mb)) (.agg (idc id).toArray) true).run Try.prog W1 = .ok (.tuple #[ptr (at' ns (idxOf ns id)).2, .bool true]) W1) := Lib.hid hlk
    have HTZ := Lib.hid htz
    clear e1 e2 en hr hm hp hp' h ht0 ht01 ht1 hz0 hb0 hx hlk hw0 hW1 hla hje hj hmem hnd htz
    generalize (afterId ns id).getD zid = ida at *
    generalize (afterId ns id).isSome = oka at *
    generalize (at' ns (idxOf ns id)).2 = b at *
    unfold ptr at *
    go_enter Try.func16, Try.ntmps16
    go_wp2_with (go_at_call 20; rw [← HW0.out]; refine (none_no _ _ _ c0).mono ?_; rintro e w' ⟨rfl, rfl⟩)
    refine wp_region_mix [(0, true, true), (1, true, true), (2, true, true), (3, true, true), (4, true, true), (5, true, true), (6, true, true), (7, true, true), (8, true, true), (9, true, true), (10, true, true)] (fun W => W = W1) (by kernel_rfl) (by kernel_rfl) (HW1.out.symm) ?_
    rw [← HW1.out]
    simp only [picked, List.filterMap_cons, List.filterMap_nil, List.getElem?_toArray, List.getElem?_cons_zero, List.getElem?_cons_succ, Option.map_some]
    iterate 4 (refine mix_free (v := ?_) rfl ?_ ?_; rotate_left; (focus (intro w' hI; subst hI; go_simp; try with_reducible rfl)); simp only [Act.put, List.setIfInBounds_toArray, List.set_cons_zero, List.set_cons_succ])
    refine mix_free (v := .agg (idc id).toArray) rfl (fun w' hI => by rw [hI]; exact exec_load_mid _ _ rfl _ _ rfl (idc id) _ HX.out Try.underlying24 rfl SX.out) ?_
    simp only [Act.put, List.setIfInBounds_toArray, List.set_cons_zero, List.set_cons_succ]
    refine mix_free (v := .tuple #[.pointer (some ⟨b, 0, none⟩), .bool true]) rfl (fun w' hI => by rw [hI]; exact exec_lookup _ _ _ rfl rfl rfl HL.out) ?_
    simp only [Act.put, List.setIfInBounds_toArray, List.set_cons_zero, List.set_cons_succ]
    repeat (refine mix_free (v := ?_) rfl ?_ ?_; rotate_left; (focus (intro w' hI; go_simp; try with_reducible rfl)); simp only [Act.put, List.setIfInBounds_toArray, List.set_cons_zero, List.set_cons_succ])
    refine mix_nil ?_
    go_wp2_with first
      | (go_at_call 23; refine hbh.mono ?_; rintro e w2 ⟨rfl, ht2⟩; have hI0 := idcell (w := w0) (HTZ.out.trans ht2 (fun _ h => h.elim)) (idc ida) HCL.out; rw [HZ0.out] at hI0; have HI := Lib.hid hI0; clear hI0)
      | (refine wpList_store_mid rfl _ _ _ rfl _ _ _ rfl rfl HI.out.1 (by rw [List.size_toArray]; exact HS.out) (all_oneCell_toArray (idc_one _)) ?_; rw [List.toList_toArray])
    refine bodyPost_ret (results_id rfl _ _ rfl rfl HI.out.2.2 hl) rfl ?_
    exact ⟨rfl, HT0.out.trans HI.out.2.1 (fun _ h => h.elim)⟩
  · have hla := look_none hmem
    rw [hla] at hlk
    have HL : Hid ((Instr.lookup 45 (.map (some mb)) (.agg (idc id).toArray) true).run Try.prog W1 = .ok (.tuple #[.pointer none, .bool false]) W1) := Lib.hid hlk
    have e1 : afterId ns id = none := by unfold afterId; rw [idx_none hmem, if_neg (by omega)]
    rw [e1]
    have hI0 := idcell (w := w0) htz (idc zid) (by rw [idc_len, zid_len])
    rw [HZ0.out] at hI0
    have HI := Lib.hid hI0
    have hl := zid_len
    have HS := Lib.hid (sizeId zid_len)
    simp only [Option.getD_none, Option.isSome_none]
    clear e1 hI0 hr hm hp hp' h ht0 ht01 ht1 hz0 hb0 hx hlk hw0 hW1 hla hmem hnd htz
    generalize zid = z0 at *
    unfold ptr at *
    go_enter Try.func16, Try.ntmps16
    go_wp2_with (go_at_call 20; rw [← HW0.out]; refine (none_no _ _ _ c0).mono ?_; rintro e w' ⟨rfl, rfl⟩)
    refine wp_region_mix [(0, true, true), (1, true, true), (2, true, true), (3, true, true), (4, true, true), (5, true, true), (6, true, true), (7, true, true), (8, true, true), (9, true, true), (10, true, true)] (fun W => W = W1) (by kernel_rfl) (by kernel_rfl) (HW1.out.symm) ?_
    rw [← HW1.out]
    simp only [picked, List.filterMap_cons, List.filterMap_nil, List.getElem?_toArray, List.getElem?_cons_zero, List.getElem?_cons_succ, Option.map_some]
    iterate 4 (refine mix_free (v := ?_) rfl ?_ ?_; rotate_left; (focus (intro w' hI; subst hI; go_simp; try with_reducible rfl)); simp only [Act.put, List.setIfInBounds_toArray, List.set_cons_zero, List.set_cons_succ])
    refine mix_free (v := .agg (idc id).toArray) rfl (fun w' hI => by rw [hI]; exact exec_load_mid _ _ rfl _ _ rfl (idc id) _ HX.out Try.underlying24 rfl SX.out) ?_
    simp only [Act.put, List.setIfInBounds_toArray, List.set_cons_zero, List.set_cons_succ]
    refine mix_free (v := .tuple #[.pointer none, .bool false]) rfl (fun w' hI => by rw [hI]; exact exec_lookup _ _ _ rfl rfl rfl HL.out) ?_
    simp only [Act.put, List.setIfInBounds_toArray, List.set_cons_zero, List.set_cons_succ]
    repeat (refine mix_free (v := ?_) rfl ?_ ?_; rotate_left; (focus (intro w' hI; go_simp; try with_reducible rfl)); simp only [Act.put, List.setIfInBounds_toArray, List.set_cons_zero, List.set_cons_succ])
    refine mix_nil ?_
    go_wp2_with first
      | (with_reducible refine wpList_exec (exec_build _ _ rfl #[] (by kernel_rfl) (HB.out _)) (by first | rfl | go_simp) ?_)
      | (refine wpList_store_mid rfl _ _ _ rfl _ _ _ rfl rfl HI.out.1 (by rw [List.size_toArray]; exact HS.out) (all_oneCell_toArray (idc_one _)) ?_; rw [List.toList_toArray])
    refine bodyPost_ret (results_id rfl _ _ rfl rfl HI.out.2.2 hl) rfl ?_
    exact ⟨rfl, HT0.out.trans HI.out.2.1 (fun _ h => h.elim)⟩

end Go.Proofs.Ytjjapnphljhicad.lru
