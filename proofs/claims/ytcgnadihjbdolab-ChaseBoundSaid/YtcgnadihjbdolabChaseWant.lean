/- Package chase: Want. -/
import Derived.Test.YtcgnadihjbdolabChaseBuild
namespace Go.Proofs.Ytcgnadihjbdolab.chase
open Go.RowKit
open Go.Proofs.Ytcgnadihjbdolab.stepkit Go.Proofs.Ytcgnadihjbdolab.row Go.Proofs.Ytcgnadihjbdolab.mix Go.Proofs.Ytcgnadihjbdolab.obj Go.Proofs.Ytcgnadihjbdolab.eqkit Go.Proofs.Ytcgnadihjbdolab.idkit

/-- Does one ask now? -/
def wantOk (l : List Ch) (id : List Int) (t : Int) : Bool := match findAt l id with
  | none => decide (l.length < 32)
  | some k => decide ((l.getD k ch0).due ≤ t)
def wantNew (l : List Ch) (id : List Int) (peer t : Int) : List Ch := if wantOk l id t then dropAt l (findAt l id) ++ [⟨id, peer, t + 4⟩] else l

theorem step_andThen {F F' : Nat → Prop} {A : (Nat → Prop) → World → Prop} {w w1 w2 : World} (hT : Turns F w w1) (hF : ∀ i, F' i → F i ∨ w.heap.size ≤ i) (h : Step F' A w1 w2) : Step F A w w2 := by
  obtain ⟨F2, a, t, k⟩ := h
  exact ⟨F2, a, hT.trans t hF, fun i hi => by rcases k i hi with h | h; exact hF i h; exact Or.inr (Nat.le_trans hT.size h)⟩

theorem range_id {w : World} {b : Nat} {id : List Int} (h : w.heap[b]? = some (.cells (idc id).toArray 26 (0, 0))) : w.rangeAt b 0 (idc id) := by
  have := range_block h
  rwa [List.toList_toArray] at this

theorem src_one {w : World} {b : Nat} {c : Ch} (h : w.heap[b]? = some (.cells c.cs.toArray 34 (0, 0))) (hl : c.id.length = 32) : Go.Proofs.Ytcgnadihjbdolab.obj.Src w 34 (.slice (some ⟨b, 0, none⟩) 1 1) 1 (ccells [c]) := by
  have hw : Whole [c] := fun x hx => by rw [List.mem_singleton.1 hx]; exact hl
  have he : ccells [c] = c.cs := by simp [ccells]
  refine Src.of_row (by rw [ccells_len hw]; rfl) (ccells_one [c]) (fun j u hj => ?_)
  rw [he] at hj
  rw [Addr.add_lit]
  have := range_block h
  rw [List.toList_toArray] at this
  exact this j u hj


set_option maxRecDepth 10000 in
set_option maxHeartbeats 1000000 in
theorem want_any (p : Nat) (l : List Ch) (id : List Int) (peer now : Int) (F : Nat → Prop) (w : World) (h : ChAt p l F w) (hw : Whole l) (hid : id.length = 32) (hl2 : l.length ≤ 32) :
    Calls Try.prog 8 #[.pointer (some ⟨p, 0, none⟩), idv id, .int .i64 peer, .int .i64 now] w fun e w' => e = .returned (.bool (wantOk l id (clk now))) ∧ Step F (ChAt p (wantNew l id peer (clk now))) w w' := by
  obtain ⟨i0, z0, hi, hz0, hz1, hz2, hz3⟩ := infoChs_parts
  have hlo := clk_lo now
  have hhi := clk_hi now
  unfold wantNew wantOk
  have ht := (Turns.refl nobody w).alloc (.cells (idc id).toArray 26)
  obtain ⟨w1, hw1⟩ : ∃ w1, w1 = w.alloc (.cells (idc id).toArray 26) := ⟨_, rfl⟩
  rw [← hw1] at ht
  have h1 := (local_ch p l).keep h ht (fun _ _ h => h)
  have hf := find_any p l id F w1 h1 hw hid (by omega)
  have h1' := h1
  obtain ⟨v, hp, hs, hne, hF⟩ := h1'
  have c1 := cells_of hp 1 _ rfl
  obtain ⟨ao, cap, rfl, _⟩ := hs.shape
  have C0 : Hid (∀ W, Turns nobody w1 W → W.cell? ⟨p, 0, none⟩ = some (.slice ao l.length cap)) := Lib.hid fun W hW => cells_of (heap_newer hp hW (fun h => h)) 0 _ rfl
  have hb1 : w1.heap[w.heap.size]? = some (.cells (idc id).toArray 26 (0, 0)) := by rw [hw1]; exact heap_alloc_new w _
  have HX := Lib.hid (range_id hb1)
  have S1 := Lib.hid (show (Try.prog.info? 26).map (·.size) = some (idc id).length by rw [infoId, idc_len, hid])
  have HW := Lib.hid hw1
  have HH := Lib.hid h
  have HS := Lib.hid hs
  have hFl : ∀ i, F i → i < w.heap.size := fun i hi => ((local_ch p l) F w h).1 i hi
  clear hw1 h hs hp hne hF
  cases hfa : findAt l id with
  | none =>
    rw [hfa] at hf
    clear hfa
    unfold idv at *
    dsimp only
    by_cases hlt : l.length < 32
    · rw [decide_eq_true hlt, if_pos rfl]
      have hlt' : ¬ (32 : Int) ≤ l.length := by omega
      generalize ht' : clk now = t at *
      have htw : IntKind.i64.wrap (t + 4) = t + 4 := IntWalk.i64_in _ (by omega)
      go_enter Try.func8, Try.ntmps8
      go_wp2_with fail
      rw [← HW.out]
      go_wp2_with first
        | (go_at_call 13; refine (none_no _ _ c1).mono ?_; rintro e w' ⟨rfl, rfl⟩)
        | (with_reducible refine wpList_load_mid rfl _ _ rfl _ _ rfl _ _ HX.out Try.underlying26 rfl S1.out ?_)
        | (go_at_call 16; refine (clock_any _ _).mono ?_; rintro e w' ⟨rfl, rfl⟩; try rw [ht'])
        | (go_at_call 14; refine hf.mono ?_; rintro e w2 ⟨rfl, g1⟩; simp only [placeOf]; have d0 := C0.out w2 g1)
      have HO : Hid (ChAt p l F w2) := Lib.hid ((local_ch p l).keep h1 g1 (fun _ _ h => h))
      have HT : Hid (Turns F w w2) := Lib.hid ((ht.trans g1 (fun _ h => False.elim h)).mono (fun _ h => False.elim h))
      have HFF : Hid (∀ i, F i → F i ∨ w.heap.size ≤ i) := Lib.hid (fun i h => Or.inl h)
      have HNB : Hid (¬ F w.heap.size) := Lib.hid (fun h => Nat.lt_irrefl _ (hFl _ h))
      have hbm := heap_newer hb1 g1 (fun h => h)
      obtain ⟨m, hm⟩ : ∃ m, m = l := ⟨_, rfl⟩
      have hml : m.length < 32 := by rw [hm]; exact hlt
      have HM : Hid (dropAt l none = m) := Lib.hid hm.symm
      rw [← hm] at HO ⊢
      clear hm d0 g1 hf h1 ht hlt hlt' C0 hb1 c1 HH HS
      obtain ⟨vm, hpm, hsm, hnem, hFm⟩ := HO.out
      obtain ⟨am, capm, rfl, _⟩ := hsm.shape
      have hplm := lt_of_block hpm
      have HSM := Lib.hid hsm
      have HFM := Lib.hid hFm
      have HNE := Lib.hid hnem
      have HB := Lib.hid (build_ch id hid peer (t + 4))
      have HL := Lib.hid (slice_ch ⟨id, peer, t + 4⟩ hid)
      clear hsm hFm hnem
      refine wp_region_mix [(0, true, true), (1, true, true), (2, true, true), (3, true, true), (4, true, true), (5, true, true), (6, true, true), (7, true, true), (8, true, true), (9, true, true), (10, false, true), (11, false, true), (12, true, true), (13, true, true), (14, false, false)] (fun w' => w'.heap[p]? = some (.cells #[.slice am m.length capm, .bool true] 42 (0, 0)) ∧ w'.heap[w.heap.size]? = some (.cells (idc id).toArray 26 (0, 0))) (by kernel_rfl) (by kernel_rfl) (⟨hpm, hbm⟩) ?_
      simp only [picked, List.filterMap_cons, List.filterMap_nil, List.getElem?_toArray, List.getElem?_cons_zero, List.getElem?_cons_succ, Option.map_some]
      repeat (refine mix_free (v := ?_) rfl ?_ ?_; rotate_left; (focus (intro w' hI; have d0 := cells_of hI.1 0 _ rfl; clear hI; go_simp; try with_reducible rfl)); simp only [Act.put, List.setIfInBounds_toArray, List.set_cons_zero, List.set_cons_succ])
      refine mix_free (v := .agg (idc id).toArray) rfl (fun w' hI => exec_load_mid _ _ rfl _ _ rfl (idc id) _ (range_id hI.2) Try.underlying26 rfl S1.out) ?_
      simp only [Act.put, List.setIfInBounds_toArray, List.set_cons_zero, List.set_cons_succ]
      repeat (refine mix_free (v := ?_) rfl ?_ ?_; rotate_left; (focus (intro w' hI; have n1 := htw; clear hI; go_simp; try with_reducible rfl)); simp only [Act.put, List.setIfInBounds_toArray, List.set_cons_zero, List.set_cons_succ])
      refine mix_free (v := .agg (Ch.cs ⟨id, peer, t + 4⟩).toArray) rfl (fun w' hI => exec_build _ _ rfl #[(0, .agg (idc id).toArray), (1, .int .i64 peer), (2, .int .i64 (t + 4))] (by kernel_rfl) (HB.out w')) ?_
      simp only [Act.put, List.setIfInBounds_toArray, List.set_cons_zero, List.set_cons_succ]
      refine mix_big rfl (fun K hK => ?_)
      go_wp2_with (with_reducible refine wpList_build_run rfl _ _ _ rfl #[(0, .agg (Ch.cs ⟨id, peer, t + 4⟩).toArray)] (by kernel_rfl) (HL.out _) ?_)
      obtain ⟨w3, hw3⟩ : ∃ w3, w3 = (w2.alloc (.cells (Ch.cs ⟨id, peer, t + 4⟩).toArray 34)).drew := ⟨_, rfl⟩
      have ht3 : Turns nobody w2 w3 := by rw [hw3]; exact ((Turns.refl _ _).alloc _).drew
      have hp3 := heap_newer hpm ht3 (fun h => h)
      have hb3 := heap_newer hbm ht3 (fun h => h)
      have hn3 : w3.heap[w2.heap.size]? = some (.cells (Ch.cs ⟨id, peer, t + 4⟩).toArray 34 (0, 0)) := by rw [hw3]; exact heap_alloc_new w2 _
      have HS3 := Lib.hid (HSM.out.keep ht3 (fun _ _ h => h))
      have HSRC := Lib.hid (src_one hn3 hid)
      rw [← hw3]
      clear hw3
      refine hK _ _ (fun _ => ⟨hp3, hb3⟩) ?_
      clear hK K
      refine mix_big rfl (fun K hK => ?_)
      go_wp2_with (at_builtin; refine wpList_append_sl rfl _ _ 31 rfl Try.underlying31 hi hz0 hz1 hz2 hz3 (by decide) rfl rfl HS3.out HSRC.out (by unfold maxLen; omega) (by omega) ?_)
      intro v' w4 hsl4 ht4 hnew4 _
      obtain ⟨ao', cap', rfl, _⟩ := hsl4.shape
      have hp4 : w4.heap[p]? = some (.cells #[.slice am m.length capm, .bool true] 42 (0, 0)) := by rw [ht4.block p (lt_of_block hp3) HNE.out]; exact hp3
      have hb4 := heap_newer hb3 ht4 (fun h => HNB.out (by rw [HFM.out]; exact Or.inr h))
      have HE := Lib.hid (show Step F (ChAt p (m ++ [⟨id, peer, t + 4⟩])) w (w4.setCell ⟨p, 0, none⟩ (.slice ao' (m.length + 1) cap')) from by
        refine step_andThen HT.out HFF.out ?_
        have e1 : (m ++ [(⟨id, peer, t + 4⟩ : Ch)]).length = m.length + 1 := by simp
        unfold ChAt
        rw [e1, ccells_append]
        exact Box1.put HO.out ((ht3.mono (fun _ h => False.elim h)).trans ht4 (fun k hk => Or.inl (by rw [HFM.out]; exact Or.inr hk))) hp4 hsl4 (fun k hk => by
          rcases hnew4 k hk with h | h
          · exact Or.inl ⟨by rw [HFM.out]; exact Or.inr h, fun e => HNE.out (e ▸ h)⟩
          · exact Or.inr (Nat.le_trans ht3.size h)) 0 rfl)
      have d0 := cells_of hp4 0 _ rfl
      have df := free_of hp4 0
      refine hK _ _ (fun _ => ⟨hp4, hb4⟩) ?_
      clear hK K hsl4 ht4 hnew4 hp3 hb3 hn3 ht3 hp4 hb4 hpm hbm
      repeat (refine mix_free (v := ?_) rfl ?_ ?_; rotate_left; (focus (intro w' hI; go_simp; try with_reducible rfl)); simp only [Act.put, List.setIfInBounds_toArray, List.set_cons_zero, List.set_cons_succ])
      refine mix_big rfl (fun K hK => ?_)
      go_wp2
      refine hK _ _ (fun h => by cases h) ?_
      clear hK K
      refine mix_nil ?_
      go_wp2
      go_ret
      exact ⟨rfl, by rw [HM.out]; exact HE.out⟩
    · rw [decide_eq_false hlt, if_neg (by simp)]
      have hlt' : (32 : Int) ≤ l.length := by omega
      go_enter Try.func8, Try.ntmps8
      go_wp2_with fail
      rw [← HW.out]
      go_wp2_with first
        | (go_at_call 13; refine (none_no _ _ c1).mono ?_; rintro e w' ⟨rfl, rfl⟩)
        | (with_reducible refine wpList_load_mid rfl _ _ rfl _ _ rfl _ _ HX.out Try.underlying26 rfl S1.out ?_)
        | (go_at_call 16; refine (clock_any _ _).mono ?_; rintro e w' ⟨rfl, rfl⟩; try rw [ht'])
        | (go_at_call 14; refine hf.mono ?_; rintro e w2 ⟨rfl, g1⟩; simp only [placeOf]; have d0 := C0.out w2 g1)
      go_ret
      exact ⟨rfl, (Step.same HH.out (Turns.refl _ _)).still (local_ch _ _) (ht.trans g1 (fun _ h => False.elim h))⟩
  | some k =>
    have hk := (findAt_lt hfa).1
    rw [hfa] at hf
    clear hfa
    obtain ⟨g, o, cap', hv, hgl⟩ := HS.out.some_of_pos (by omega)
    cases hv
    have hcut : ∀ W, Turns nobody w1 W → Calls Try.prog 15 #[.pointer (some ⟨p, 0, none⟩), .int .i64 k] W fun e w' => e = .returned (.tuple #[]) ∧ Step F (ChAt p (l.take k ++ l.drop (k + 1))) W w' := fun W hW => cut_any p l k F W ((local_ch p l).keep h1 hW (fun _ _ h => h)) hw hk (by omega)
    have HD : Hid (∀ W, Turns nobody w1 W → W.cell? ⟨g, o + k * 34 + 33, none⟩ = some (.int .i64 (l.getD k ch0).due)) := Lib.hid fun W hW => range_turns (CSl.range hw HS.out k hk) hW 33 _ (by
      have hc : (l.getD k ch0).id.length = 32 := hw _ (by rw [List.getD, List.getElem?_eq_getElem hk]; exact List.getElem_mem _)
      unfold Ch.cs
      rw [List.getElem?_append_right (by rw [idc_len, hc]; omega), idc_len, hc]
      rfl)
    unfold idv at *
    dsimp only
    obtain ⟨due, hdue⟩ : ∃ d, (l.getD k ch0).due = d := ⟨_, rfl⟩
    rw [hdue] at HD
    simp only [hdue]
    clear hdue
    obtain ⟨t, ht'⟩ : ∃ t, clk now = t := ⟨_, rfl⟩
    rw [ht'] at hlo hhi
    simp only [ht']
    by_cases hlt : due ≤ t
    · rw [decide_eq_true hlt, if_pos rfl]
      have htw : IntKind.i64.wrap (t + 4) = t + 4 := IntWalk.i64_in _ (by omega)
      go_enter Try.func8, Try.ntmps8
      go_wp2_with fail
      rw [← HW.out]
      go_wp2_with first
        | (go_at_call 13; refine (none_no _ _ c1).mono ?_; rintro e w' ⟨rfl, rfl⟩)
        | (with_reducible refine wpList_load_mid rfl _ _ rfl _ _ rfl _ _ HX.out Try.underlying26 rfl S1.out ?_)
        | (go_at_call 16; refine (clock_any _ _).mono ?_; rintro e w' ⟨rfl, rfl⟩; try rw [ht'])
        | (go_at_call 14; refine hf.mono ?_; rintro e w5 ⟨rfl, g1⟩; simp only [placeOf]; have d0 := C0.out w5 g1; have d1 := HD.out w5 g1)
        | (go_at_call 15; refine (hcut w5 g1).mono ?_; rintro e w2 ⟨rfl, g3⟩)
      obtain ⟨F', ha, hta, hFa⟩ := g3
      have HO : Hid (ChAt p (l.take k ++ l.drop (k + 1)) F' w2) := Lib.hid ha
      have ht5 := ht.trans g1 (fun _ h => False.elim h)
      have HT : Hid (Turns F w w2) := Lib.hid ((ht5.mono (fun _ h => False.elim h)).trans hta (fun i h => Or.inl h))
      have HFF : Hid (∀ i, F' i → F i ∨ w.heap.size ≤ i) := Lib.hid (fun i h => by
        rcases hFa i h with h | h
        · exact Or.inl h
        · exact Or.inr (Nat.le_trans ht5.size h))
      have hb5 := heap_newer hb1 g1 (fun h => h)
      have HNB : Hid (¬ F' w.heap.size) := Lib.hid (fun h => by
        rcases hFa _ h with h | h
        · exact Nat.lt_irrefl _ (hFl _ h)
        · exact absurd (lt_of_block hb5) (by omega))
      have hbm := heap_newer hb5 hta (fun h => Nat.lt_irrefl _ (hFl _ h))
      obtain ⟨m, hm⟩ : ∃ m, m = l.take k ++ l.drop (k + 1) := ⟨_, rfl⟩
      have hml : m.length < 32 := by rw [hm, List.length_append, List.length_take, List.length_drop]; omega
      have HM : Hid (dropAt l (some k) = m) := Lib.hid hm.symm
      rw [← hm] at HO
      clear hm g1 hf h1 ht hlt C0 hb1 c1 HH HS hcut ha hta hFa HD ht5 hb5
      try clear d0
      try clear d1
      obtain ⟨vm, hpm, hsm, hnem, hFm⟩ := HO.out
      obtain ⟨am, capm, rfl, _⟩ := hsm.shape
      have hplm := lt_of_block hpm
      have HSM := Lib.hid hsm
      have HFM := Lib.hid hFm
      have HNE := Lib.hid hnem
      have HB := Lib.hid (build_ch id hid peer (t + 4))
      have HL := Lib.hid (slice_ch ⟨id, peer, t + 4⟩ hid)
      clear hsm hFm hnem
      refine wp_region_mix [(0, true, true), (1, true, true), (2, true, true), (3, true, true), (4, true, true), (5, true, true), (6, true, true), (7, true, true), (8, true, true), (9, true, true), (10, false, true), (11, false, true), (12, true, true), (13, true, true), (14, false, false)] (fun w' => w'.heap[p]? = some (.cells #[.slice am m.length capm, .bool true] 42 (0, 0)) ∧ w'.heap[w.heap.size]? = some (.cells (idc id).toArray 26 (0, 0))) (by kernel_rfl) (by kernel_rfl) (⟨hpm, hbm⟩) ?_
      simp only [picked, List.filterMap_cons, List.filterMap_nil, List.getElem?_toArray, List.getElem?_cons_zero, List.getElem?_cons_succ, Option.map_some]
      repeat (refine mix_free (v := ?_) rfl ?_ ?_; rotate_left; (focus (intro w' hI; have d0 := cells_of hI.1 0 _ rfl; clear hI; go_simp; try with_reducible rfl)); simp only [Act.put, List.setIfInBounds_toArray, List.set_cons_zero, List.set_cons_succ])
      refine mix_free (v := .agg (idc id).toArray) rfl (fun w' hI => exec_load_mid _ _ rfl _ _ rfl (idc id) _ (range_id hI.2) Try.underlying26 rfl S1.out) ?_
      simp only [Act.put, List.setIfInBounds_toArray, List.set_cons_zero, List.set_cons_succ]
      repeat (refine mix_free (v := ?_) rfl ?_ ?_; rotate_left; (focus (intro w' hI; have n1 := htw; clear hI; go_simp; try with_reducible rfl)); simp only [Act.put, List.setIfInBounds_toArray, List.set_cons_zero, List.set_cons_succ])
      refine mix_free (v := .agg (Ch.cs ⟨id, peer, t + 4⟩).toArray) rfl (fun w' hI => exec_build _ _ rfl #[(0, .agg (idc id).toArray), (1, .int .i64 peer), (2, .int .i64 (t + 4))] (by kernel_rfl) (HB.out w')) ?_
      simp only [Act.put, List.setIfInBounds_toArray, List.set_cons_zero, List.set_cons_succ]
      refine mix_big rfl (fun K hK => ?_)
      go_wp2_with (with_reducible refine wpList_build_run rfl _ _ _ rfl #[(0, .agg (Ch.cs ⟨id, peer, t + 4⟩).toArray)] (by kernel_rfl) (HL.out _) ?_)
      obtain ⟨w3, hw3⟩ : ∃ w3, w3 = (w2.alloc (.cells (Ch.cs ⟨id, peer, t + 4⟩).toArray 34)).drew := ⟨_, rfl⟩
      have ht3 : Turns nobody w2 w3 := by rw [hw3]; exact ((Turns.refl _ _).alloc _).drew
      have hp3 := heap_newer hpm ht3 (fun h => h)
      have hb3 := heap_newer hbm ht3 (fun h => h)
      have hn3 : w3.heap[w2.heap.size]? = some (.cells (Ch.cs ⟨id, peer, t + 4⟩).toArray 34 (0, 0)) := by rw [hw3]; exact heap_alloc_new w2 _
      have HS3 := Lib.hid (HSM.out.keep ht3 (fun _ _ h => h))
      have HSRC := Lib.hid (src_one hn3 hid)
      rw [← hw3]
      clear hw3
      refine hK _ _ (fun _ => ⟨hp3, hb3⟩) ?_
      clear hK K
      refine mix_big rfl (fun K hK => ?_)
      go_wp2_with (at_builtin; refine wpList_append_sl rfl _ _ 31 rfl Try.underlying31 hi hz0 hz1 hz2 hz3 (by decide) rfl rfl HS3.out HSRC.out (by unfold maxLen; omega) (by omega) ?_)
      intro v' w4 hsl4 ht4 hnew4 _
      obtain ⟨ao', cap', rfl, _⟩ := hsl4.shape
      have hp4 : w4.heap[p]? = some (.cells #[.slice am m.length capm, .bool true] 42 (0, 0)) := by rw [ht4.block p (lt_of_block hp3) HNE.out]; exact hp3
      have hb4 := heap_newer hb3 ht4 (fun h => HNB.out (by rw [HFM.out]; exact Or.inr h))
      have HE := Lib.hid (show Step F (ChAt p (m ++ [⟨id, peer, t + 4⟩])) w (w4.setCell ⟨p, 0, none⟩ (.slice ao' (m.length + 1) cap')) from by
        refine step_andThen HT.out HFF.out ?_
        have e1 : (m ++ [(⟨id, peer, t + 4⟩ : Ch)]).length = m.length + 1 := by simp
        unfold ChAt
        rw [e1, ccells_append]
        exact Box1.put HO.out ((ht3.mono (fun _ h => False.elim h)).trans ht4 (fun k hk => Or.inl (by rw [HFM.out]; exact Or.inr hk))) hp4 hsl4 (fun k hk => by
          rcases hnew4 k hk with h | h
          · exact Or.inl ⟨by rw [HFM.out]; exact Or.inr h, fun e => HNE.out (e ▸ h)⟩
          · exact Or.inr (Nat.le_trans ht3.size h)) 0 rfl)
      have d0 := cells_of hp4 0 _ rfl
      have df := free_of hp4 0
      refine hK _ _ (fun _ => ⟨hp4, hb4⟩) ?_
      clear hK K hsl4 ht4 hnew4 hp3 hb3 hn3 ht3 hp4 hb4 hpm hbm
      repeat (refine mix_free (v := ?_) rfl ?_ ?_; rotate_left; (focus (intro w' hI; go_simp; try with_reducible rfl)); simp only [Act.put, List.setIfInBounds_toArray, List.set_cons_zero, List.set_cons_succ])
      refine mix_big rfl (fun K hK => ?_)
      go_wp2
      refine hK _ _ (fun h => by cases h) ?_
      clear hK K
      refine mix_nil ?_
      go_wp2
      go_ret
      exact ⟨rfl, by rw [HM.out]; exact HE.out⟩
    · rw [decide_eq_false hlt, if_neg (by simp)]
      go_enter Try.func8, Try.ntmps8
      go_wp2_with fail
      rw [← HW.out]
      go_wp2_with first
        | (go_at_call 13; refine (none_no _ _ c1).mono ?_; rintro e w' ⟨rfl, rfl⟩)
        | (with_reducible refine wpList_load_mid rfl _ _ rfl _ _ rfl _ _ HX.out Try.underlying26 rfl S1.out ?_)
        | (go_at_call 16; refine (clock_any _ _).mono ?_; rintro e w' ⟨rfl, rfl⟩; try rw [ht'])
        | (go_at_call 14; refine hf.mono ?_; rintro e w5 ⟨rfl, g1⟩; simp only [placeOf]; have d0 := C0.out w5 g1; have d1 := HD.out w5 g1)
      go_ret
      exact ⟨rfl, (Step.same HH.out (Turns.refl _ _)).still (local_ch _ _) (ht.trans g1 (fun _ h => False.elim h))⟩

end Go.Proofs.Ytcgnadihjbdolab.chase
