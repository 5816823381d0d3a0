/- Package lru: what is used. -/
import Derived.Test.YtjjapnphljhicadLruDo
namespace Go.Proofs.Ytjjapnphljhicad.lru
open Go.RowKit
open Go.Proofs.Ytjjapnphljhicad.stepkit Go.Proofs.Ytjjapnphljhicad.eqkit Go.Proofs.Ytjjapnphljhicad.idkit Go.Proofs.Ytjjapnphljhicad.obj Go.Proofs.Ytjjapnphljhicad.row Go.Proofs.Ytjjapnphljhicad.mapkit Go.Proofs.Ytjjapnphljhicad.mix


theorem ring_erase {r j : Nat} {ns : List (List Int × Nat)} : ((zid, r) :: ns).eraseIdx (j + 1) = (zid, r) :: ns.eraseIdx j := rfl
theorem in_mono {L M : List (List Int × Nat)} (h : ∀ x ∈ L, x ∈ M) {i : Nat} (hi : inRing L i) : inRing M i := by obtain ⟨x, hx, e⟩ := hi; exact ⟨x, h x hx, e⟩

set_option maxRecDepth 10000 in
set_option maxHeartbeats 400000 in
theorem use_old (p : Nat) (ns : List (List Int × Nat)) (id : List Int) (hid : id.length = 32) (F : Nat → Prop) (w : World) (h : LruAt p ns F w) (hmem : id ∈ ns.map (·.1)) :
    Calls Try.prog 8 #[.pointer (some ⟨p, 0, none⟩), .agg (idc id).toArray] w fun e w' => e = .returned (.int .i64 0) ∧ ∃ ns', ns'.map (·.1) = useL (ns.map (·.1)) id ∧ Step F (LruAt p ns') w w' := by
  obtain ⟨w0, hw0⟩ : ∃ w0, w0 = w.alloc (.cells (idc id).toArray 24) := ⟨_, rfl⟩
  obtain ⟨W1, hW1⟩ : ∃ W1, W1 = w0.drew := ⟨_, rfl⟩
  have ht0 : Turns nobody w w0 := by rw [hw0]; exact (Turns.refl _ _).alloc _
  have ht01 : Turns nobody w0 W1 := by rw [hW1]; exact (Turns.refl _ _).drew
  have ht1 := ht0.trans ht01 (fun _ h => h.elim)
  have hb0 : w0.heap[w.heap.size]? = some (.cells (idc id).toArray 24 (0, 0)) := by rw [hw0]; exact heap_alloc_new w _
  have hx : W1.rangeAt w.heap.size 0 (idc id) := by have := range_block (heap_newer hb0 ht01 (fun h => h)); rwa [List.toList_toArray] at this
  obtain ⟨r0, mb0, hp', _⟩ := (local_lru p ns).keep h ht0 (fun _ _ h => h)
  have hA := (local_lru p ns).keep h ht1 (fun _ _ h => h)
  obtain ⟨r, mb, hp, hr, hm, hnd, hF⟩ := hA
  have c0 := cells_of hp' 0 _ rfl
  have c1 : W1.cell? ⟨p, 1, none⟩ = some (.map (some mb)) := cells_of hp 1 _ rfl
  have hlk := run_lookM hm (keys_of hr hnd) id hid Try.underlying45 _ (zero_ptr W1)
  have HW0 := Lib.hid hw0
  have HW1 := Lib.hid hW1
  have HX := Lib.hid hx
  have SX := Lib.hid (sizeId hid)
  obtain ⟨hj, hje⟩ := idx_lt hmem
  have hla := look_at hnd hj
  rw [hje] at hla
  rw [hla] at hlk
  have HL : Hid ((Instr.lookup 45 (.map (some mb)) (.agg (idc id).toArray) true).run Try.prog W1 = .ok (.tuple #[ptr (at' ns (idxOf ns id)).2, .bool true]) W1) := Lib.hid hlk
  have hjL : idxOf ns id + 1 < ((zid, r) :: ns).length := by simp; omega
  have hcut := cut_any ((zid, r) :: ns) W1 hr (idxOf ns id + 1) (by omega) hjL
  have hnb := not_in_erase hr hjL
  have nk := hr.nd _ hjL
  rw [at_cons] at hcut hnb nk
  rw [hje] at hcut nk
  obtain ⟨_, k32, k33⟩ := nk.cells hid
  have hfi := filter_ids hnd hj
  rw [hje] at hfi
  have hap := LruAt.apart hp hr hm
  have hat : at' ns (idxOf ns id) = (id, (at' ns (idxOf ns id)).2) := Prod.ext hje rfl
  have hpm := moved_perm hj
  rw [hat] at hpm
  generalize idxOf ns id = j at *
  generalize hbb : (at' ns j).2 = b at *
  have hinb : inRing ((zid, r) :: ns) b := ⟨at' ns j, List.mem_cons_of_mem _ (at_mem hj), hbb⟩
  have post : ∀ w2, Ring ((zid, r) :: ns.eraseIdx j) w2 → Nd w2 b id (.pointer none) (.pointer none) → Turns (inRing ((zid, r) :: ns)) W1 w2 →
      Calls Try.prog 22 #[.pointer (some ⟨p, 0, none⟩), .pointer (some ⟨b, 0, none⟩)] w2 fun e w3 => e = .returned (.tuple #[]) ∧ ∃ ns', ns'.map (·.1) = useL (ns.map (·.1)) id ∧ Step F (LruAt p ns') w w3 := by
    intro w2 h1 hn2 h2
    refine (hang_any p r mb _ w2 h1 (by simp) rfl (heap_newer hp h2 hap.2.1) b id hn2 hid hnb).mono fun e w3 ⟨he, h3, h4⟩ => ⟨he, ns.eraseIdx j ++ [(id, b)], ?_, ?_⟩
    · rw [List.map_append, ← hfi]; rfl
    · have hsub : ∀ i, (i = b ∨ inRing ((zid, r) :: ns.eraseIdx j) i) → inRing ((zid, r) :: ns) i := by
        rintro i (rfl | hi)
        · exact hinb
        · exact in_mono (fun x hx => by rcases List.mem_cons.1 hx with hx | hx; exact List.mem_cons.2 (Or.inl hx); exact List.mem_cons.2 (Or.inr (List.mem_of_mem_eraseIdx hx))) hi
      have h24 : Turns (inRing ((zid, r) :: ns)) W1 w3 := h2.trans h4 (fun i hi => Or.inl (hsub i hi))
      have hsame : ∀ i, inRing ((zid, r) :: (ns.eraseIdx j ++ [(id, b)])) i → inRing ((zid, r) :: ns) i := fun i hi => in_mono (fun x hx => by rcases List.mem_cons.1 hx with hx | hx; exact List.mem_cons.2 (Or.inl hx); exact List.mem_cons.2 (Or.inr (hpm.mem_iff.1 hx))) hi
      refine ⟨fun i => i = p ∨ i = mb ∨ inRing ((zid, r) :: (ns.eraseIdx j ++ [(id, b)])) i, ⟨r, mb, heap_newer hp h24 hap.2.1, h3, ?_, ?_, rfl⟩, ?_, ?_⟩
      · exact MapIs.perm (hm.keep h24 hap.2.2) ((hpm.map _).symm)
      · exact ((hpm.map (·.1)).nodup_iff).2 hnd
      · exact (ht1.mono (fun _ h => h.elim)).trans h24 (fun i hi => Or.inl (by rw [hF]; exact Or.inr (Or.inr hi)))
      · intro i hi
        refine Or.inl ?_
        rw [hF]
        rcases hi with hi | hi | hi
        · exact Or.inl hi
        · exact Or.inr (Or.inl hi)
        · exact Or.inr (Or.inr (hsame i hi))
  have HPOST := Lib.hid post
  have hne := fun (a b : Nat) (w : World) => link_ne a b w
  clear post hap hfi hla hlk hm hp hp' hr hx ht0 ht01 ht1 hb0 hw0 hW1 hF h hje hnd hat hpm hinb hnb hjL hbb nk
  unfold ptr at *
  generalize (at' ((zid, r) :: ns) (pv ((zid, r) :: ns).length (j + 1))).2 = P at *
  generalize (at' ((zid, r) :: ns) (nx ((zid, r) :: ns).length (j + 1))).2 = N at *
  go_enter Try.func8, Try.ntmps8
  go_wp2_with (go_at_call 20; rw [← HW0.out]; refine (none_no _ _ _ c0).mono ?_; rintro e w' ⟨rfl, rfl⟩)
  refine wp_region_mix [(0, true, true), (1, true, true), (2, true, true), (3, true, true), (4, true, true), (5, true, true), (6, true, true), (7, true, true), (8, true, true), (9, true, true), (10, true, true)] (fun W => W = W1) (by kernel_rfl) (by kernel_rfl) (HW1.out.symm) ?_
  rw [← HW1.out]
  simp only [picked, List.filterMap_cons, List.filterMap_nil, List.getElem?_toArray, List.getElem?_cons_zero, List.getElem?_cons_succ, Option.map_some]
  iterate 4 (refine mix_free (v := ?_) rfl ?_ ?_; rotate_left; (focus (intro w' hI; subst hI; go_simp; try with_reducible rfl)); simp only [Act.put, List.setIfInBounds_toArray, List.set_cons_zero, List.set_cons_succ])
  refine mix_free (v := .agg (idc id).toArray) rfl (fun w' hI => by rw [hI]; exact exec_load_mid _ _ rfl _ _ rfl (idc id) _ HX.out Try.underlying24 rfl SX.out) ?_
  simp only [Act.put, List.setIfInBounds_toArray, List.set_cons_zero, List.set_cons_succ]
  refine mix_free (v := .tuple #[.pointer (some ⟨b, 0, none⟩), .bool true]) rfl (fun w' hI => by rw [hI]; exact exec_lookup _ _ _ rfl rfl rfl HL.out) ?_
  simp only [Act.put, List.setIfInBounds_toArray, List.set_cons_zero, List.set_cons_succ]
  repeat (refine mix_free (v := ?_) rfl ?_ ?_; rotate_left; (focus (intro w' hI; go_simp; try with_reducible rfl)); simp only [Act.put, List.setIfInBounds_toArray, List.set_cons_zero, List.set_cons_succ])
  refine mix_nil ?_
  go_wp2_with first
    | (go_at_call 21; refine hcut.mono ?_; rintro e w2 ⟨rfl, hr2, hn2, ht2⟩; have hh := HPOST.out w2 hr2 hn2 ht2; clear hr2 hn2 ht2)
    | (go_at_call 22; refine hh.mono ?_; rintro e w3 ⟨rfl, hE⟩; have HE := Lib.hid hE; clear hE)
  go_ret
  exact ⟨rfl, HE.out⟩

set_option maxRecDepth 10000 in
set_option maxHeartbeats 400000 in
theorem use_new (p : Nat) (ns : List (List Int × Nat)) (id : List Int) (hid : id.length = 32) (F : Nat → Prop) (w : World) (h : LruAt p ns F w) (hmem : id ∉ ns.map (·.1)) :
    Calls Try.prog 8 #[.pointer (some ⟨p, 0, none⟩), .agg (idc id).toArray] w fun e w' => e = .returned (.int .i64 0) ∧ ∃ ns', ns'.map (·.1) = useL (ns.map (·.1)) id ∧ Step F (LruAt p ns') w w' := by
  obtain ⟨w0, hw0⟩ : ∃ w0, w0 = w.alloc (.cells (idc id).toArray 24) := ⟨_, rfl⟩
  obtain ⟨W1, hW1⟩ : ∃ W1, W1 = w0.drew := ⟨_, rfl⟩
  have ht0 : Turns nobody w w0 := by rw [hw0]; exact (Turns.refl _ _).alloc _
  have ht01 : Turns nobody w0 W1 := by rw [hW1]; exact (Turns.refl _ _).drew
  have ht1 := ht0.trans ht01 (fun _ h => h.elim)
  have hb0 : w0.heap[w.heap.size]? = some (.cells (idc id).toArray 24 (0, 0)) := by rw [hw0]; exact heap_alloc_new w _
  have hbx := heap_newer hb0 ht01 (fun h => h)
  have hx : W1.rangeAt w.heap.size 0 (idc id) := by have := range_block hbx; rwa [List.toList_toArray] at this
  obtain ⟨r0, mb0, hp', _⟩ := (local_lru p ns).keep h ht0 (fun _ _ h => h)
  have hA := (local_lru p ns).keep h ht1 (fun _ _ h => h)
  have hlt := ((local_lru p ns) _ _ hA).1
  obtain ⟨r, mb, hp, hr, hm, hnd, hF⟩ := hA
  have c0 := cells_of hp' 0 _ rfl
  have c1 : W1.cell? ⟨p, 1, none⟩ = some (.map (some mb)) := cells_of hp 1 _ rfl
  have hkeys := keys_of hr hnd
  have hla := look_none hmem
  have hlk := run_lookM hm hkeys id hid Try.underlying45 _ (zero_ptr W1)
  rw [hla] at hlk
  have HW0 := Lib.hid hw0
  have HW1 := Lib.hid hW1
  have HX := Lib.hid hx
  have SX := Lib.hid (sizeId hid)
  have HL : Hid ((Instr.lookup 45 (.map (some mb)) (.agg (idc id).toArray) true).run Try.prog W1 = .ok (.tuple #[.pointer none, .bool false]) W1) := Lib.hid hlk
  have hap := LruAt.apart hp hr hm
  have hpl := lt_of_block hp
  have hml := hm.lt
  have hwl := lt_of_block hbx
  obtain ⟨W2, hW2⟩ : ∃ W2, W2 = W1.alloc (.cells (nodeC id (.pointer none) (.pointer none)) 52) := ⟨_, rfl⟩
  obtain ⟨W3, hW3⟩ : ∃ W3, W3 = W2.drew := ⟨_, rfl⟩
  have ht13 : Turns nobody W1 W3 := by rw [hW3, hW2]; exact ((Turns.refl _ _).alloc _).drew
  have hb3 : Nd W3 W1.heap.size id (.pointer none) (.pointer none) := by rw [hW3, hW2]; exact heap_alloc_new W1 _
  have hm3 := hm.keep ht13 (fun h => h)
  have hx3 : W3.rangeAt w.heap.size 0 (idc id) := by have := range_block (heap_newer hbx ht13 (fun h => h)); rwa [List.toList_toArray] at this
  have e1 : W3.cell? ⟨p, 1, none⟩ = some (.map (some mb)) := cells_of (heap_newer hp ht13 (fun h => h)) 1 _ rfl
  have hins : ∀ w4, MapIs w4 mb (mapOf ns ++ [(id, ptr W1.heap.size)]) → Turns (fun i => i = mb) W3 w4 → (w4.cell? ⟨W1.heap.size, 32, none⟩ = some (.pointer none) ∧ w4.cell? ⟨W1.heap.size, 33, none⟩ = some (.pointer none)) ∧
      Calls Try.prog 22 #[.pointer (some ⟨p, 0, none⟩), .pointer (some ⟨W1.heap.size, 0, none⟩)] w4 fun e w5 => e = .returned (.tuple #[]) ∧ ∃ ns', ns'.map (·.1) = useL (ns.map (·.1)) id ∧ Step F (LruAt p ns') w w5 := by
    intro w4 h4 t4
    have n4 : Nd w4 W1.heap.size id (.pointer none) (.pointer none) := hb3.keep t4 (by omega)
    refine ⟨(n4.cells hid).2, ?_⟩
    have r4 : Ring ((zid, r) :: ns) w4 := (hr.keep ht13 (fun _ _ h => h)).keep t4 (fun x hx e => hap.2.2 ⟨x, hx, e⟩)
    have hp4 := heap_newer (heap_newer hp ht13 (fun h => h)) t4 hap.1
    have hnb : ∀ x ∈ (zid, r) :: ns, x.2 ≠ W1.heap.size := fun x hx e => by have := ring_lt hr ⟨x, hx, e⟩; omega
    have hpn : ¬ inRing ((zid, r) :: ns) p := hap.2.1
    refine (hang_any p r mb _ w4 r4 (by simp) rfl hp4 _ id n4 hid hnb).mono fun e w5 ⟨he, h5, t5⟩ => ⟨he, ns ++ [(id, W1.heap.size)], ?_, ?_⟩
    · rw [List.map_append]
      unfold useL
      rw [List.filter_eq_self.2 (fun y hy => by simp only [ne_eq, decide_eq_true_eq]; exact fun e => hmem (e ▸ hy))]
      rfl
    · refine ⟨fun i => i = p ∨ i = mb ∨ inRing ((zid, r) :: (ns ++ [(id, W1.heap.size)])) i, ⟨r, mb, ?_, h5, ?_, ?_, rfl⟩, ?_, ?_⟩
      · exact heap_newer hp4 t5 (fun hh => by rcases hh with hh | hh; omega; exact hpn hh)
      · have := h4.keep t5 (fun hh => by rcases hh with hh | hh; omega; exact hap.2.2 hh)
        unfold mapOf at this ⊢
        rw [List.map_append]
        exact this
      · rw [List.map_append, List.nodup_append]
        refine ⟨hnd, by simp, fun a ha c hc => ?_⟩
        simp only [List.map_cons, List.map_nil, List.mem_singleton] at hc
        rw [hc]
        exact fun e => hmem (e ▸ ha)
      · have hw1 := ht1.size
        exact (((ht1.mono (G := F) (fun _ h => h.elim)).trans (ht13.mono (G := F) (fun _ h => h.elim)) (fun _ h => Or.inl h)).trans t4 (fun i hi => Or.inl (by rw [hF]; exact Or.inr (Or.inl hi)))).trans t5 (fun i hi => by
          rcases hi with hi | hi
          · exact Or.inr (by omega)
          · exact Or.inl (by rw [hF]; exact Or.inr (Or.inr hi)))
      · intro i hi
        have hw1 := ht1.size
        rcases hi with hi | hi | ⟨x, hx, hi⟩
        · exact Or.inl (by rw [hF]; exact Or.inl hi)
        · exact Or.inl (by rw [hF]; exact Or.inr (Or.inl hi))
        · rw [← List.cons_append] at hx
          rcases List.mem_append.1 hx with hx | hx
          · exact Or.inl (by rw [hF]; exact Or.inr (Or.inr ⟨x, hx, hi⟩))
          · rw [List.mem_singleton.1 hx] at hi
            exact Or.inr (by simp only at hi; omega)
  have HINS := Lib.hid hins
  have HW2 := Lib.hid hW2
  have HW3 := Lib.hid hW3
  have HX3 := Lib.hid hx3
  have HM3 := Lib.hid hm3
  have HK := Lib.hid hkeys
  have HLA := Lib.hid hla
  have HBN := Lib.hid (build_node id hid)
  have hlk0 := link_nil
  clear hins hap hla hlk hm hp hp' hr hx hbx ht0 ht01 ht1 hb0 hw0 hW1 hF h hnd hkeys hpl hml hwl hW2 hW3 ht13 hb3 hm3 hx3 hlt hmem
  unfold ptr at *
  go_enter Try.func8, Try.ntmps8
  go_wp2_with (go_at_call 20; rw [← HW0.out]; refine (none_no _ _ _ c0).mono ?_; rintro e w' ⟨rfl, rfl⟩)
  refine wp_region_mix [(0, true, true), (1, true, true), (2, true, true), (3, true, true), (4, true, true), (5, true, true), (6, true, true), (7, true, true), (8, true, true), (9, true, true), (10, true, true)] (fun W => W = W1) (by kernel_rfl) (by kernel_rfl) (HW1.out.symm) ?_
  rw [← HW1.out]
  simp only [picked, List.filterMap_cons, List.filterMap_nil, List.getElem?_toArray, List.getElem?_cons_zero, List.getElem?_cons_succ, Option.map_some]
  iterate 4 (refine mix_free (v := ?_) rfl ?_ ?_; rotate_left; (focus (intro w' hI; subst hI; go_simp; try with_reducible rfl)); simp only [Act.put, List.setIfInBounds_toArray, List.set_cons_zero, List.set_cons_succ])
  refine mix_free (v := .agg (idc id).toArray) rfl (fun w' hI => by rw [hI]; exact exec_load_mid _ _ rfl _ _ rfl (idc id) _ HX.out Try.underlying24 rfl SX.out) ?_
  simp only [Act.put, List.setIfInBounds_toArray, List.set_cons_zero, List.set_cons_succ]
  refine mix_free (v := .tuple #[.pointer none, .bool false]) rfl (fun w' hI => by rw [hI]; exact exec_lookup _ _ _ rfl rfl rfl HL.out) ?_
  simp only [Act.put, List.setIfInBounds_toArray, List.set_cons_zero, List.set_cons_succ]
  repeat (refine mix_free (v := ?_) rfl ?_ ?_; rotate_left; (focus (intro w' hI; go_simp; try with_reducible rfl)); simp only [Act.put, List.setIfInBounds_toArray, List.set_cons_zero, List.set_cons_succ])
  refine mix_nil ?_
  go_wp2_with first
    | (with_reducible refine wpList_load_mid rfl _ _ rfl _ _ rfl _ _ HX.out Try.underlying24 rfl SX.out ?_)
    | (with_reducible refine wpList_exec (exec_build _ _ rfl #[(0, .agg (idc id).toArray)] (by kernel_rfl) (HBN.out _)) (by first | rfl | go_simp) ?_)
  rw [← HW2.out]
  refine wp_region_mix [(0, true, true), (1, true, true), (2, true, true), (3, true, true), (4, true, true), (5, true, true), (6, false, false)] (fun W => W = W3) (by kernel_rfl) (by kernel_rfl) (HW3.out.symm) ?_
  rw [← HW3.out]
  simp only [picked, List.filterMap_cons, List.filterMap_nil, List.getElem?_toArray, List.getElem?_cons_zero, List.getElem?_cons_succ, Option.map_some]
  iterate 4 (refine mix_free (v := ?_) rfl ?_ ?_; rotate_left; (focus (intro w' hI; subst hI; go_simp; try with_reducible rfl)); simp only [Act.put, List.setIfInBounds_toArray, List.set_cons_zero, List.set_cons_succ])
  refine mix_free (v := .agg (idc id).toArray) rfl (fun w' hI => by rw [hI]; exact exec_load_mid _ _ rfl _ _ rfl (idc id) _ HX3.out Try.underlying24 rfl SX.out) ?_
  simp only [Act.put, List.setIfInBounds_toArray, List.set_cons_zero, List.set_cons_succ]
  iterate 1 (refine mix_free (v := ?_) rfl ?_ ?_; rotate_left; (focus (intro w' hI; subst hI; go_simp; try with_reducible rfl)); simp only [Act.put, List.setIfInBounds_toArray, List.set_cons_zero, List.set_cons_succ])
  refine mix_big rfl (fun K hK => ?_)
  refine wpList_insert rfl _ _ _ rfl Try.underlying45 id _ rfl rfl rfl HM3.out HK.out hid HLA.out (fun w4 h4 t4 => ?_)
  obtain ⟨⟨g32, g33⟩, hh⟩ := HINS.out w4 h4 t4
  clear h4 t4
  go_wp2
  refine hK _ _ (fun h => by cases h) ?_
  clear hK K
  refine mix_nil ?_
  clear c0 c1 e1
  go_wp2_with (go_at_call 22; refine hh.mono ?_; rintro e w5 ⟨rfl, hE⟩; have HE := Lib.hid hE; clear hE)
  go_ret
  exact ⟨rfl, HE.out⟩

theorem use_any (p : Nat) (ns : List (List Int × Nat)) (id : List Int) (hid : id.length = 32) (F : Nat → Prop) (w : World) (h : LruAt p ns F w) :
    Calls Try.prog 8 #[.pointer (some ⟨p, 0, none⟩), .agg (idc id).toArray] w fun e w' => e = .returned (.int .i64 0) ∧ ∃ ns', ns'.map (·.1) = useL (ns.map (·.1)) id ∧ Step F (LruAt p ns') w w' := by
  by_cases hm : id ∈ ns.map (·.1)
  · exact use_old p ns id hid F w h hm
  · exact use_new p ns id hid F w h hm

end Go.Proofs.Ytjjapnphljhicad.lru
