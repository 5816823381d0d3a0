/- Package lru: what is used, and dropped. -/
import Derived.Test.YtjjapnphljhicadLruAfter
namespace Go.Proofs.Ytjjapnphljhicad.lru
open Go.RowKit
open Go.Proofs.Ytjjapnphljhicad.stepkit Go.Proofs.Ytjjapnphljhicad.eqkit Go.Proofs.Ytjjapnphljhicad.idkit Go.Proofs.Ytjjapnphljhicad.obj Go.Proofs.Ytjjapnphljhicad.row Go.Proofs.Ytjjapnphljhicad.mapkit Go.Proofs.Ytjjapnphljhicad.mix

theorem MapIs.perm {w : World} {b : Nat} {M M' : List (List Int × Value)} (h : MapIs w b M) (p : M.Perm M') : MapIs w b M' := by
  obtain ⟨es, c, N, h1, h2, h3⟩ := h
  exact ⟨es, c, N, h1, h2, h3.trans p⟩
theorem build_node (id : List Int) (hl : id.length = 32) (w : World) : (Instr.build 52 #[(0, .agg (idc id).toArray)]).run Try.prog w = .ok (.agg (nodeC id (.pointer none) (.pointer none))) w := by
  refine run_build w _ _ _ ?_
  refine thirty_two (P := fun id => Try.prog.built 52 [(0, .agg (idc id).toArray)] = some (nodeC id (.pointer none) (.pointer none))) ?_ id hl
  intro b0 b1 b2 b3 b4 b5 b6 b7 b8 b9 b10 b11 b12 b13 b14 b15 b16 b17 b18 b19 b20 b21 b22 b23 b24 b25 b26 b27 b28 b29 b30 b31
  kernel_rfl
theorem link_nil (w : World) : (binOp .neq 50 (.agg #[.pointer none, .pointer none]) (.agg #[.pointer none, .pointer none])).run Try.prog w = .ok (.bool false) w := by kernel_rfl
theorem link_ne (a b : Nat) (w : World) : (binOp .neq 50 (.agg #[.pointer (some ⟨a, 0, none⟩), .pointer (some ⟨b, 0, none⟩)]) (.agg #[.pointer none, .pointer none])).run Try.prog w = .ok (.bool true) w := by kernel_rfl

/-- Used last. -/
def useL (x : List (List Int)) (id : List Int) : List (List Int) := (x.filter fun y => decide (y ≠ id)) ++ [id]
def dropL (x : List (List Int)) (id : List Int) : List (List Int) := x.filter fun y => decide (y ≠ id)

theorem filter_ids {ns : List (List Int × Nat)} (hnd : (ns.map (·.1)).Nodup) {j : Nat} (hj : j < ns.length) : dropL (ns.map (·.1)) (at' ns j).1 = (ns.eraseIdx j).map (·.1) := by
  have h1 : (ns.map fun x => (x.1, Value.pointer none))[j]? = some ((at' ns j).1, Value.pointer none) := by
    rw [List.getElem?_map, List.getElem?_eq_getElem hj]
    unfold at'
    rw [List.getD, List.getElem?_eq_getElem hj]
    rfl
  have h2 := erase_filter _ (by rw [List.map_map]; exact hnd) j h1
  have h3 := congrArg (List.map (·.1)) h2
  unfold dropL
  rw [List.filter_map]
  have e1 : ((ns.map fun x => (x.1, Value.pointer none)).eraseIdx j).map (·.1) = (ns.eraseIdx j).map (·.1) := by
    rw [List.eraseIdx_eq_take_drop_succ, List.eraseIdx_eq_take_drop_succ, List.map_append, List.map_append, List.map_take, List.map_drop, List.map_take, List.map_drop, List.map_map]
    rfl
  rw [e1] at h3
  rw [h3, List.filter_map, List.map_map]
  rfl
theorem mapOf_erase {ns : List (List Int × Nat)} (hnd : (ns.map (·.1)).Nodup) {j : Nat} (hj : j < ns.length) : (mapOf ns).filter (fun x => decide (x.1 ≠ (at' ns j).1)) = mapOf (ns.eraseIdx j) := by
  have h1 : (mapOf ns)[j]? = some ((at' ns j).1, ptr (at' ns j).2) := by
    unfold mapOf
    rw [List.getElem?_map, List.getElem?_eq_getElem hj]
    unfold at'
    rw [List.getD, List.getElem?_eq_getElem hj]
    rfl
  rw [← erase_filter _ (by unfold mapOf; rw [List.map_map]; exact hnd) j h1]
  unfold mapOf
  rw [List.eraseIdx_eq_take_drop_succ, List.eraseIdx_eq_take_drop_succ]
  simp [List.map_take, List.map_drop]
theorem not_in_erase {L : List (List Int × Nat)} {w : World} (h : Ring L w) {k : Nat} (hk : k < L.length) : ∀ x ∈ L.eraseIdx k, x.2 ≠ (at' L k).2 := by
  intro x hx e
  rw [List.mem_eraseIdx_iff_getElem] at hx
  obtain ⟨i, hi, hne, rfl⟩ := hx
  refine hne (h.ne hi hk ?_)
  rw [← e]
  unfold at'
  rw [List.getD, List.getElem?_eq_getElem hi]
  rfl
theorem moved_perm {ns : List (List Int × Nat)} {j : Nat} (hj : j < ns.length) : (ns.eraseIdx j ++ [at' ns j]).Perm ns := by
  have e : at' ns j = ns[j] := by unfold at'; rw [List.getD, List.getElem?_eq_getElem hj]; rfl
  rw [e]
  have h1 : ns = ns.take j ++ (ns[j] :: ns.drop (j + 1)) := by rw [List.getElem_cons_drop, List.take_append_drop]
  rw [List.eraseIdx_eq_take_drop_succ, List.append_assoc]
  refine List.Perm.trans ((List.perm_append_singleton _ _).append_left _) ?_
  rw [← h1]


set_option maxRecDepth 10000 in
set_option maxHeartbeats 400000 in
theorem drop_any (p : Nat) (ns : List (List Int × Nat)) (id : List Int) (hid : id.length = 32) (F : Nat → Prop) (w : World) (h : LruAt p ns F w) :
    Calls Try.prog 9 #[.pointer (some ⟨p, 0, none⟩), .agg (idc id).toArray] w fun e w' => e = .returned (.int .i64 (if id ∈ ns.map (·.1) then 0 else 7)) ∧ ∃ ns', ns'.map (·.1) = dropL (ns.map (·.1)) id ∧ Step F (LruAt p ns') w w' := by
  obtain ⟨w0, hw0⟩ : ∃ w0, w0 = w.alloc (.cells (idc id).toArray 24) := ⟨_, rfl⟩
  obtain ⟨W1, hW1⟩ : ∃ W1, W1 = w0.drew := ⟨_, rfl⟩
  have ht0 : Turns nobody w w0 := by rw [hw0]; exact (Turns.refl _ _).alloc _
  have ht01 : Turns nobody w0 W1 := by rw [hW1]; exact (Turns.refl _ _).drew
  have ht1 := ht0.trans ht01 (fun _ h => h.elim)
  have hb0 : w0.heap[w.heap.size]? = some (.cells (idc id).toArray 24 (0, 0)) := by rw [hw0]; exact heap_alloc_new w _
  have hx : W1.rangeAt w.heap.size 0 (idc id) := by have := range_block (heap_newer hb0 ht01 (fun h => h)); rwa [List.toList_toArray] at this
  have hbx := heap_newer hb0 ht01 (fun h => h)
  obtain ⟨r0, mb0, hp', _⟩ := (local_lru p ns).keep h ht0 (fun _ _ h => h)
  have hA := (local_lru p ns).keep h ht1 (fun _ _ h => h)
  obtain ⟨r, mb, hp, hr, hm, hnd, hF⟩ := hA
  have c0 := cells_of hp' 0 _ rfl
  have c1 : W1.cell? ⟨p, 1, none⟩ = some (.map (some mb)) := cells_of hp 1 _ rfl
  have hlk := run_lookM hm (keys_of hr hnd) id hid Try.underlying45 _ (zero_ptr W1)
  have hFlt := ((local_lru p ns) F w h).1
  have HW0 := Lib.hid hw0
  have HW1 := Lib.hid hW1
  have HX := Lib.hid hx
  have SX := Lib.hid (sizeId hid)
  by_cases hmem : id ∈ ns.map (·.1)
  · rw [if_pos hmem]
    obtain ⟨hj, hje⟩ := idx_lt hmem
    have hla := look_at hnd hj
    rw [hje] at hla
    rw [hla] at hlk
    have HL : Hid ((Instr.lookup 45 (.map (some mb)) (.agg (idc id).toArray) true).run Try.prog W1 = .ok (.tuple #[ptr (at' ns (idxOf ns id)).2, .bool true]) W1) := Lib.hid hlk
    have hcut := cut_any ((zid, r) :: ns) W1 hr (idxOf ns id + 1) (by omega) (by simp; omega)
    rw [at_cons] at hcut
    have hfi := filter_ids hnd hj
    have hme := mapOf_erase hnd hj
    rw [hje] at hfi hme
    have hap := LruAt.apart hp hr hm
    have hkeys := keys_of hr hnd
    generalize hjj : idxOf ns id = j at *
    have post : ∀ w2 w3, Ring (((zid, r) :: ns).eraseIdx (j + 1)) w2 → Turns (inRing ((zid, r) :: ns)) W1 w2 → MapIs w3 mb ((mapOf ns).filter fun x => decide (x.1 ≠ id)) → Turns (fun i => i = mb) w2 w3 → ∃ ns', ns'.map (·.1) = dropL (ns.map (·.1)) id ∧ Step F (LruAt p ns') w w3 := by
      intro w2 w3 h1 h2 h3 h4
      refine ⟨ns.eraseIdx j, hfi.symm, fun i => i = p ∨ i = mb ∨ inRing ((zid, r) :: ns.eraseIdx j) i, ⟨r, mb, ?_, ?_, ?_, ?_, rfl⟩, ?_, ?_⟩
      · exact heap_newer (heap_newer hp h2 hap.2.1) h4 hap.1
      · refine h1.keep h4 (fun x hx e => ?_)
        have : x ∈ (zid, r) :: ns := List.mem_of_mem_eraseIdx hx
        exact hap.2.2 ⟨x, this, e⟩
      · rw [← hme]; exact h3
      · exact (((List.eraseIdx_sublist ..).map _).nodup hnd)
      · have e : ∀ i, inRing ((zid, r) :: ns) i → F i := fun i hi => by rw [hF]; exact Or.inr (Or.inr hi)
        have em : F mb := by rw [hF]; exact Or.inr (Or.inl rfl)
        exact ((ht1.mono (fun _ h => h.elim)).trans h2 (fun i hi => Or.inl (e i hi))).trans h4 (fun i hi => Or.inl (hi ▸ em))
      · intro i hi
        refine Or.inl ?_
        rw [hF]
        rcases hi with hi | hi | ⟨x, hx, hi⟩
        · exact Or.inl hi
        · exact Or.inr (Or.inl hi)
        · refine Or.inr (Or.inr ⟨x, ?_, hi⟩)
          rcases List.mem_cons.1 hx with hx | hx
          · exact List.mem_cons.2 (Or.inl hx)
          · exact List.mem_cons.2 (Or.inr (List.mem_of_mem_eraseIdx hx))
    have HPOST := Lib.hid post
    have HBX := Lib.hid hbx
    have HM := Lib.hid hm
    have HK := Lib.hid hkeys
    have HP := Lib.hid hp
    have hxn : ¬ inRing ((zid, r) :: ns) w.heap.size := fun hi => by have := hFlt _ (by rw [hF]; exact Or.inr (Or.inr hi)); omega
    have HXN := Lib.hid hxn
    have HAP := Lib.hid hap
    have HYES : Hid ((lookM (mapOf ns) id).isSome = true) := Lib.hid (by rw [hla]; rfl)
    clear post hap hkeys hme hfi hla hlk hm hp hp' hr hbx hx hxn ht0 ht01 ht1 hb0 hw0 hW1 hF hFlt h hje hjj hnd
    generalize (at' ns j).2 = b at *
    unfold ptr at *
    go_enter Try.func9, Try.ntmps9
    go_wp2_with (go_at_call 20; rw [← HW0.out]; refine (none_no _ _ _ c0).mono ?_; rintro e w' ⟨rfl, rfl⟩)
    refine wp_region_mix [(0, true, true), (1, true, true), (2, true, true), (3, true, true), (4, true, true), (5, true, true), (6, true, true), (7, true, true), (8, true, true), (9, true, true), (10, true, true)] (fun W => W = W1) (by kernel_rfl) (by kernel_rfl) (HW1.out.symm) ?_
    rw [← HW1.out]
    simp only [picked, List.filterMap_cons, List.filterMap_nil, List.getElem?_toArray, List.getElem?_cons_zero, List.getElem?_cons_succ, Option.map_some]
    iterate 4 (refine mix_free (v := ?_) rfl ?_ ?_; rotate_left; (focus (intro w' hI; subst hI; go_simp; try with_reducible rfl)); simp only [Act.put, List.setIfInBounds_toArray, List.set_cons_zero, List.set_cons_succ])
    refine mix_free (v := .agg (idc id).toArray) rfl (fun w' hI => by rw [hI]; exact exec_load_mid _ _ rfl _ _ rfl (idc id) _ HX.out Try.underlying24 rfl SX.out) ?_
    simp only [Act.put, List.setIfInBounds_toArray, List.set_cons_zero, List.set_cons_succ]
    refine mix_free (v := .tuple #[.pointer (some ⟨b, 0, none⟩), .bool true]) rfl (fun w' hI => by rw [hI]; exact exec_lookup _ _ _ rfl rfl rfl HL.out) ?_
    simp only [Act.put, List.setIfInBounds_toArray, List.set_cons_zero, List.set_cons_succ]
    repeat (refine mix_free (v := ?_) rfl ?_ ?_; rotate_left; (focus (intro w' hI; go_simp; try with_reducible rfl)); simp only [Act.put, List.setIfInBounds_toArray, List.set_cons_zero, List.set_cons_succ])
    refine mix_nil ?_
    go_wp2_with (go_at_call 21; refine hcut.mono ?_; rintro e w2 ⟨rfl, hr2, _, ht2⟩)
    obtain ⟨W2, hW2⟩ : ∃ W2, W2 = w2.drew := ⟨_, rfl⟩
    have hd2 : Turns nobody w2 W2 := by rw [hW2]; exact (Turns.refl _ _).drew
    have hr2' := hr2.keep hd2 (fun _ _ h => h)
    have ht2' := ht2.trans hd2 (fun _ h => h.elim)
    have HR2 := Lib.hid hr2'
    have HT2 := Lib.hid ht2'
    have HX2 : Hid (W2.rangeAt w.heap.size 0 (idc id)) := by have := range_block (heap_newer HBX.out ht2' HXN.out); rw [List.toList_toArray] at this; exact Lib.hid this
    have HM2 := Lib.hid (HM.out.keep ht2' HAP.out.2.2)
    have d1 : W2.cell? ⟨p, 1, none⟩ = some (.map (some mb)) := cells_of (heap_newer HP.out ht2' HAP.out.2.1) 1 _ rfl
    have HW2 := Lib.hid hW2
    clear hW2 hd2 hr2' ht2' hr2 ht2 c0 c1
    refine wp_region_mix [(0, true, true), (1, true, true), (2, true, true), (3, true, true), (4, true, true), (5, false, false)] (fun W => W = W2) (by kernel_rfl) (by kernel_rfl) (HW2.out.symm) ?_
    rw [← HW2.out]
    simp only [picked, List.filterMap_cons, List.filterMap_nil, List.getElem?_toArray, List.getElem?_cons_zero, List.getElem?_cons_succ, Option.map_some]
    iterate 4 (refine mix_free (v := ?_) rfl ?_ ?_; rotate_left; (focus (intro w' hI; subst hI; go_simp; try with_reducible rfl)); simp only [Act.put, List.setIfInBounds_toArray, List.set_cons_zero, List.set_cons_succ])
    refine mix_free (v := .agg (idc id).toArray) rfl (fun w' hI => by rw [hI]; exact exec_load_mid _ _ rfl _ _ rfl (idc id) _ HX2.out Try.underlying24 rfl SX.out) ?_
    simp only [Act.put, List.setIfInBounds_toArray, List.set_cons_zero, List.set_cons_succ]
    refine mix_big rfl (fun K hK => ?_)
    refine wpList_delete rfl _ _ _ rfl Try.underlying45 id rfl rfl HM2.out HK.out hid HYES.out (fun w3 h3 h4 => ?_)
    have HE := Lib.hid (HPOST.out W2 w3 HR2.out HT2.out h3 h4)
    clear h3 h4
    go_wp2
    refine hK _ _ (fun h => by cases h) ?_
    clear hK K
    refine mix_nil ?_
    go_wp2
    go_ret
    exact ⟨rfl, HE.out⟩
  · rw [if_neg hmem]
    have hla := look_none hmem
    rw [hla] at hlk
    have HL : Hid ((Instr.lookup 45 (.map (some mb)) (.agg (idc id).toArray) true).run Try.prog W1 = .ok (.tuple #[.pointer none, .bool false]) W1) := Lib.hid hlk
    have HE : Hid (∃ ns', ns'.map (·.1) = dropL (ns.map (·.1)) id ∧ Step F (LruAt p ns') w W1) := Lib.hid ⟨ns, by
      unfold dropL
      rw [List.filter_eq_self.2]
      intro x hx
      simp only [ne_eq, decide_eq_true_eq]
      exact fun e => hmem (e ▸ hx), Step.same ⟨r, mb, hp, hr, hm, hnd, hF⟩ (ht1.mono (fun _ h => h.elim))⟩
    clear hla hlk hm hp hp' hr hbx hx ht0 ht01 ht1 hb0 hw0 hW1 hF hFlt h hnd hmem
    unfold ptr at *
    go_enter Try.func9, Try.ntmps9
    go_wp2_with (go_at_call 20; rw [← HW0.out]; refine (none_no _ _ _ c0).mono ?_; rintro e w' ⟨rfl, rfl⟩)
    refine wp_region_mix [(0, true, true), (1, true, true), (2, true, true), (3, true, true), (4, true, true), (5, true, true), (6, true, true), (7, true, true), (8, true, true), (9, true, true), (10, true, true)] (fun W => W = W1) (by kernel_rfl) (by kernel_rfl) (HW1.out.symm) ?_
    rw [← HW1.out]
    simp only [picked, List.filterMap_cons, List.filterMap_nil, List.getElem?_toArray, List.getElem?_cons_zero, List.getElem?_cons_succ, Option.map_some]
    iterate 4 (refine mix_free (v := ?_) rfl ?_ ?_; rotate_left; (focus (intro w' hI; subst hI; go_simp; try with_reducible rfl)); simp only [Act.put, List.setIfInBounds_toArray, List.set_cons_zero, List.set_cons_succ])
    refine mix_free (v := .agg (idc id).toArray) rfl (fun w' hI => by rw [hI]; exact exec_load_mid _ _ rfl _ _ rfl (idc id) _ HX.out Try.underlying24 rfl SX.out) ?_
    simp only [Act.put, List.setIfInBounds_toArray, List.set_cons_zero, List.set_cons_succ]
    refine mix_free (v := .tuple #[.pointer none, .bool false]) rfl (fun w' hI => by rw [hI]; exact exec_lookup _ _ _ rfl rfl rfl HL.out) ?_
    simp only [Act.put, List.setIfInBounds_toArray, List.set_cons_zero, List.set_cons_succ]
    repeat (refine mix_free (v := ?_) rfl ?_ ?_; rotate_left; (focus (intro w' hI; go_simp; try with_reducible rfl)); simp only [Act.put, List.setIfInBounds_toArray, List.set_cons_zero, List.set_cons_succ])
    refine mix_nil ?_
    go_wp2
    go_ret
    exact ⟨rfl, HE.out⟩

end Go.Proofs.Ytjjapnphljhicad.lru
