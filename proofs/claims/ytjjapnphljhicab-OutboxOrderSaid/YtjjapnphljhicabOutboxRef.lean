/- Package petrelref29: what each call answers. -/
import Derived.Test.YtjjapnphljhicabOutboxZero
import Derived.Deep.CutRange
namespace Go.Proofs.Ytjjapnphljhicab.outbox
open Go.RowKit Go.Conc
open Go.Proofs.Ytjjapnphljhicab.stepkit Go.Proofs.Ytjjapnphljhicab.row Go.Proofs.Ytjjapnphljhicab.mix Go.Proofs.Ytjjapnphljhicab.obj Go.Proofs.Ytjjapnphljhicab.eqkit Go.Proofs.Ytjjapnphljhicab.commkit

def RefAt (p most : Nat) (l : List Ou) (lost : Int) : (Nat → Prop) → World → Prop := Box1 38 29 2 p (fun v => #[.int .i64 most, v, .int .i64 lost]) l.length (ocells l)
theorem local_ref (p most : Nat) (l : List Ou) (lost : Int) : Local (RefAt p most l lost) := local_box1 _ _ _ _ _ _ _

theorem fieldsOu : (Try.prog.fieldsOf 29).toList.map (fun f => (f.type, f.offset, f.name == "_")) = [(3, 0, false), (9, 1, false)] := by kernel_rfl
theorem eq_ou (x : Ou) (w : World) : (binOp .neq 29 x.val x.val).run Try.prog w = .ok (.bool false) w ∧ (binOp .eql 29 x.val x.val).run Try.prog w = .ok (.bool true) w := by
  unfold Ou.val
  refine run_neq_of_eql (r := true) ?_
  rw [run_equalIn_agg _ _ _ _ _ (by kernel_rfl) (by kernel_rfl)]
  have hf := fieldsOu
  generalize (Try.prog.fieldsOf 29).toList = fs at hf
  obtain ⟨f0, fs, rfl, g0, hf⟩ := List.map_eq_cons_iff.1 hf
  obtain ⟨f1, fs, rfl, g1, hf⟩ := List.map_eq_cons_iff.1 hf
  obtain rfl := List.map_eq_nil_iff.1 hf
  rw [eqFields_int (by kernel_rfl) Try.underlying3 g0 rfl, eqFields_str (by kernel_rfl) Try.underlying9 g1 rfl]
  rfl

theorem same_any (a b : Value) (l : List Ou) (w : World) (ha : OSl w a l) (hb : OSl w b l) (hl : l.length ≤ 1024) :
    Calls Try.prog 13 #[a, b] w fun e w' => e = .returned (.bool true) ∧ ∃ n, w' = w.drewN n := by
  have ha' : Sl w _ _ _ _ _ := ha
  have hb' : Sl w _ _ _ _ _ := hb
  obtain ⟨ao, ca, rfl, _, _, hao, _⟩ := ha'.shape
  obtain ⟨bo, cb, rfl, _, _, hbo, _⟩ := hb'.shape
  have HA : ∀ k, k < l.length → ∃ g o, ao = some ⟨g, o, none⟩ ∧ w.cell? ⟨g, o + k * 2, none⟩ = some (.int .i64 (l.getD k ou0).t) ∧ w.cell? ⟨g, o + k * 2 + 1, none⟩ = some (.string (l.getD k ou0).b) := fun k hk => by
    obtain ⟨g, o, c, hv, _⟩ := ha'.some_of_pos (by omega)
    cases hv
    exact ⟨g, o, rfl, OSl.cell ha k hk⟩
  have HB : ∀ k, k < l.length → ∃ g o, bo = some ⟨g, o, none⟩ ∧ w.cell? ⟨g, o + k * 2, none⟩ = some (.int .i64 (l.getD k ou0).t) ∧ w.cell? ⟨g, o + k * 2 + 1, none⟩ = some (.string (l.getD k ou0).b) := fun k hk => by
    obtain ⟨g, o, c, hv, _⟩ := hb'.some_of_pos (by omega)
    cases hv
    exact ⟨g, o, rfl, OSl.cell hb k hk⟩
  have HHA := Lib.hid HA
  have HHB := Lib.hid HB
  clear HA HB ha hb ha' hb' hao hbo
  go_enter Try.func13, Try.ntmps13
  go_wp2
  go_loopw [5] (fun i wr => ∃ k : Nat, k ≤ l.length ∧ i = .int .i64 k ∧ ∃ n, wr = w.drewN n) (fun i _ => l.length - (intOf i).toNat)
  case atStart => exact ⟨0, Nat.zero_le _, rfl, 0, rfl⟩
  case round =>
    obtain ⟨k, hk, rfl, n, rfl⟩ := hrel
    by_cases hlt : k < l.length
    · obtain ⟨g, o, rfl, x0, x1⟩ := HHA.out k hlt
      obtain ⟨g', o', rfl, y0, y1⟩ := HHB.out k hlt
      have he := fun w => (eq_ou (l.getD k ou0) w).1
      generalize l.getD k ou0 = x at *
      unfold Ou.val at he
      go_wp2
      go_quiet (fail)
      go_wp2
      exact ⟨⟨k + 1, by omega, by go_num, n + nq, rfl⟩, by simp [intOf]; omega⟩
    · go_wp2
      go_ret
      exact ⟨rfl, n, rfl⟩



set_option maxRecDepth 10000 in
set_option maxHeartbeats 400000 in
theorem ref_put_full (p most : Nat) (l : List Ou) (lost : Int) (x : Ou) (F : Nat → Prop) (w : World) (h : RefAt p most l lost F w) (hl : most ≤ l.length) (hlo : 0 ≤ lost) (hhi : lost ≤ 1000) :
    Calls Try.prog 12 #[.pointer (some ⟨p, 0, none⟩), .agg #[.int .i64 x.t, .string x.b]] w fun e w' => e = .returned (.int .i64 6) ∧ Step F (RefAt p most l (min (lost + 1) 1000)) w w' := by
  have ht1 := (Turns.refl nobody w).alloc (.cells #[.int .i64 x.t, .string x.b] 29)
  obtain ⟨w1, hw1⟩ : ∃ w1, w1 = w.alloc (.cells #[.int .i64 x.t, .string x.b] 29) := ⟨_, rfl⟩
  rw [← hw1] at ht1
  have H1 := Lib.hid ((local_ref p most l lost).keep h ht1.drew (fun _ _ h => h))
  have HT1 := Lib.hid ht1.drew
  obtain ⟨v, hp, hs, hne, hF⟩ := H1.out
  obtain ⟨ao, cap, rfl, _⟩ := hs.shape
  have hpl := lt_of_block hp
  have c0 := cells_of hp 0 _ rfl
  have c1 := cells_of hp 1 _ rfl
  have c2 := cells_of hp 2 _ rfl
  have f2 := free_of hp 2
  have HW := Lib.hid hw1
  clear hp hs hF h hw1 ht1
  go_enter Try.func12, Try.ntmps12
  go_wp2
  rw [← HW.out]
  refine wp_region_mix [(0, true, true), (1, true, true), (2, true, true), (3, true, true), (4, true, true), (5, true, true), (6, true, true), (7, true, true), (8, true, true), (9, true, true)] (fun W => W = w1.drew) (by kernel_rfl) (by kernel_rfl) (rfl) ?_
  simp only [picked, List.filterMap_cons, List.filterMap_nil, List.getElem?_toArray, List.getElem?_cons_zero, List.getElem?_cons_succ, Option.map_some]
  repeat (refine mix_free (v := ?_) rfl ?_ ?_; rotate_left; (focus (intro w' hI; subst hI; go_simp; try with_reducible rfl)); simp only [Act.put, List.setIfInBounds_toArray, List.set_cons_zero, List.set_cons_succ])
  refine mix_nil ?_
  go_wp2
  all_goals go_ret
  · exact ⟨rfl, by
      have hm : min (lost + 1) 1000 = 1000 := by omega
      rw [hm]
      exact (show Step F (RefAt p most l _) _ _ from Box1.set H1.out (Turns.refl _ _) 2 _ (fun v => rfl)).before HT1.out⟩
  · exact ⟨rfl, by
      have hm : min (lost + 1) 1000 = lost + 1 := by omega
      rw [hm]
      exact (show Step F (RefAt p most l _) _ _ from Box1.set H1.out (Turns.refl _ _) 2 _ (fun v => rfl)).before HT1.out⟩

theorem one_src' {w : World} {g : Nat} {x : Ou} (h : w.heap[g]? = some (.cells #[.int .i64 x.t, .string x.b] 29 (0, 0))) : Src w 2 (.slice (some ⟨g, 0, none⟩) 1 1) 1 (ocells [x]) := one_src h

set_option maxRecDepth 10000 in
set_option maxHeartbeats 1000000 in
theorem ref_put_ok (p most : Nat) (l : List Ou) (lost : Int) (x : Ou) (F : Nat → Prop) (w : World) (h : RefAt p most l lost F w) (hl : l.length < most) (hm : most ≤ 1024) :
    Calls Try.prog 12 #[.pointer (some ⟨p, 0, none⟩), .agg #[.int .i64 x.t, .string x.b]] w fun e w' => e = .returned (.int .i64 0) ∧ Step F (RefAt p most (l ++ [x]) lost) w w' := by
  obtain ⟨w0, hw0⟩ : ∃ w0, w0 = w.alloc (.cells #[.int .i64 x.t, .string x.b] 29) := ⟨_, rfl⟩
  obtain ⟨w1, hw1⟩ : ∃ w1, w1 = w0.drew := ⟨_, rfl⟩
  have ht1 : Turns nobody w w1 := by rw [hw1, hw0]; exact ((Turns.refl _ _).alloc _).drew
  have hx : w1.drew.heap[w.heap.size]? = some (.cells #[.int .i64 x.t, .string x.b] 29 (0, 0)) := by rw [hw1, hw0]; exact heap_alloc_new _ _
  have H1 := Lib.hid ((local_ref p most l lost).keep h ht1 (fun _ _ h => h))
  have H := Lib.hid h
  obtain ⟨v, hp, hs, hne, hF⟩ := h
  have HF := Lib.hid hF
  clear hF
  obtain ⟨ao, cap, rfl, hnc, hcm, _⟩ := hs.shape
  have hpl := lt_of_block hp
  have hp1 := heap_newer hp ht1 (fun h => h)
  have c0 := cells_of hp1 0 _ rfl
  have c1 := cells_of hp1 1 _ rfl
  have HS := Lib.hid hs
  have HP := Lib.hid hp
  obtain ⟨i0, hi, hz0, hz1, hz2⟩ := info_parts infoOu
  have hs1 := HS.out.keep ht1 (fun _ _ h => h)
  have HT1 := Lib.hid ht1
  have HPL : Hid (p < w1.heap.size) := by have := ht1.size; exact Lib.hid (by omega)
  have HX0 : Hid (w.heap.size < w1.heap.size) := Lib.hid (lt_of_block (w := w1) hx)
  have HB := Lib.hid (hs1.lt)
  have hr : RP w1 p #[.int .i64 most, .slice ao l.length cap, .int .i64 lost] 38 (.slice ao l.length cap) 2 l.length (ocells l) w1.drew := ⟨heap_newer (G := nobody) HP.out ht1.drew (fun h => h), (hs1.src (ocells_one l)).drew, (Turns.refl _ _).drew⟩
  have HW0 := Lib.hid hw0
  have HW1 := Lib.hid hw1
  clear hs1 hw1 hw0 ht1 hp hs hp1
  go_enter Try.func12, Try.ntmps12
  go_wp2
  rw [← HW0.out]
  refine wp_region_mix [(0, true, true), (1, true, true), (2, true, true), (3, true, true), (4, true, true), (5, true, true), (6, true, true), (7, true, true), (8, true, true), (9, true, true)] (fun W => W = w0.drew) (by kernel_rfl) (by kernel_rfl) (rfl) ?_
  rw [← HW1.out]
  simp only [picked, List.filterMap_cons, List.filterMap_nil, List.getElem?_toArray, List.getElem?_cons_zero, List.getElem?_cons_succ, Option.map_some]
  repeat (refine mix_free (v := ?_) rfl ?_ ?_; rotate_left; (focus (intro w' hI; subst hI; go_simp; try with_reducible rfl)); simp only [Act.put, List.setIfInBounds_toArray, List.set_cons_zero, List.set_cons_succ])
  refine mix_nil ?_
  clear c0 c1
  go_wp2
  refine wp_region_fork [0, 2, 3, 4, 5, 7, 10, 11] [0, 2, 3, 4, 5, 7, 10, 11, 1, 8, 6, 9] (Plan.ofList [0, 2, 3, 4, 5, 7] (.fork 1 (.fork 6 (Plan.ofList [8, 9, 10, 11, 12] .done) 8 (Plan.ofList [6, 9, 10, 11, 12] .done)) 8 (Plan.ofList [1, 6, 9, 10, 11, 12] .done))) (fun W => RP w1 p #[.int .i64 most, .slice ao l.length cap, .int .i64 lost] 38 (.slice ao l.length cap) 2 l.length (ocells l) W ∧ W.heap[w.heap.size]? = some (.cells #[.int .i64 x.t, .string x.b] 29 (0, 0))) (by kernel_rfl) (by kernel_rfl) (⟨hr, hx⟩) ?_
  obtain ⟨W0, hW0⟩ : ∃ W0, W0 = w1.drew := ⟨_, rfl⟩
  rw [← hW0] at hr hx ⊢
  clear hW0
  simp -failIfUnchanged only [Plan.pick, Plan.ofList, isIn, List.contains_cons, List.contains_nil, Nat.reduceBEq, Bool.or_false, Bool.false_or, Bool.or_true, Bool.true_or, cond_true, cond_false, Array.getD_eq_getD_getElem?, List.getElem?_toArray, List.getElem?_cons_zero, List.getElem?_cons_succ, Option.getD_some]
  repeat (refine plan_free (v := ?_) rfl ?_ ?_; rotate_left; (focus (intro w' hI; have d0 := cells_of hI.1.hp 1 _ rfl; have e0 := cells_of hI.2 0 _ rfl; have e1 := cells_of hI.2 1 _ rfl; clear hI; go_simp; try with_reducible rfl)); simp only [Act.put, List.setIfInBounds_toArray, List.set_cons_zero, List.set_cons_succ])
  refine plan_fork ?_ ?_
  ·
    refine bigC_mk rfl (fun K hK => ?_)
    go_wp2
    obtain ⟨_, hg1, hle1, ht⟩ := hr.alloc (.cells #[] 29)
    try simp only [World.size_alloc] at hg1 hle1
    have HL1 := Lib.hid hle1
    clear hle1
    try replace HE1 := Lib.hid (HE1.out.keep ht (fun _ _ h => h))
    try replace HG8 := Lib.hid (HG8.out.keep ht (fun _ _ h => h))
    try replace H6 := Lib.hid (H6.out.keep ht (fun _ _ h => h))
    replace hr := hr.turns ht
    replace hx := heap_newer hx ht (fun h => h)
    have HE1 := Lib.hid (Sl.empty (sz := 2) hg1 (Nat.zero_le _))
    refine hK _ _ (fun _ => ⟨hr, hx⟩) ?_
    clear hK K hg1 ht
    refine plan_fork ?_ ?_
    ·
      refine bigC_mk rfl (fun K hK => ?_)
      go_wp2_with (at_builtin; refine wpList_append_sl rfl _ _ 30 rfl Try.underlying30 hi hz0 hz1 hz2 rfl (by decide) rfl rfl HE1.out hr.src (by unfold maxLen; omega) (by omega) ?_)
      intro v6 w6 h6 _ hn6 hc6
      try simp only [Nat.zero_add, List.nil_append] at h6
      have ht := (hc6 _ rfl).1
      have HF6 : Hid (∀ k, blk v6 k → w1.heap.size ≤ k) := fun k hk => by
        have hh := HL1.out
        have hh2 := hr.turned.size
        rcases hn6 k hk with h | h
        · simp only [blk, Value.ownBlock, Option.some.injEq] at h; omega
        · omega
      try replace HE1 := Lib.hid (HE1.out.keep ht (fun _ _ h => h))
      try replace HG8 := Lib.hid (HG8.out.keep ht (fun _ _ h => h))
      try replace H6 := Lib.hid (H6.out.keep ht (fun _ _ h => h))
      replace hr := hr.turns ht
      replace hx := heap_newer hx ht (fun h => h)
      have H6 := Lib.hid h6
      refine hK _ _ (fun _ => ⟨hr, hx⟩) ?_
      clear hK K ht h6 hn6 hc6
      refine plan_big ?_
      refine bigC_mk rfl (fun K hK => ?_)
      go_wp2
      obtain ⟨_, hg8, _, ht⟩ := hr.alloc (.cells #[.int .i64 x.t, .string x.b] 29)
      try simp only [World.size_alloc] at hg8
      try replace HE1 := Lib.hid (HE1.out.keep ht (fun _ _ h => h))
      try replace HG8 := Lib.hid (HG8.out.keep ht (fun _ _ h => h))
      try replace H6 := Lib.hid (H6.out.keep ht (fun _ _ h => h))
      replace hr := hr.turns ht
      replace hx := heap_newer hx ht (fun h => h)
      have HG8 := Lib.hid (one_src hg8)
      refine hK _ _ (fun _ => ⟨hr, hx⟩) ?_
      clear hK K hg8 ht
      refine plan_big (bigC_mk rfl (fun K hK => ?_))
      go_wp2_with (at_builtin; refine wpList_append_sl rfl _ _ 30 rfl Try.underlying30 hi hz0 hz1 hz2 rfl (by decide) rfl rfl H6.out HG8.out (by unfold maxLen; omega) (by omega) ?_)
      intro v9 w9 h9 ht9 hn9 _
      obtain ⟨ao9, cap9, rfl, _⟩ := h9.shape
      have hle := hr.turned.size
      replace hr := hr.newer ht9 HF6.out HPL.out HB.out
      replace hx := heap_newer hx ht9 (fun h => by have := HF6.out _ h; have := HX0.out; omega)
      have d0 := cells_of hr.hp 1 _ rfl
      have df := free_of hr.hp 1
      have hstep : Step F (RefAt p most (l ++ [x]) lost) w1 (w9.setCell ⟨p, 1, none⟩ (.slice ao9 (l.length + 1) cap9)) := by
        have e1 : (l ++ [x]).length = l.length + 1 := by simp
        unfold RefAt
        rw [e1, ocells_append]
        exact Box1.put H1.out (hr.turned.mono (fun _ h => h.elim)) hr.hp h9 (fun k hk => Or.inr (by rcases hn9 k hk with h | h; exact HF6.out k h; omega)) 1 rfl
      have HS9 := Lib.hid hstep
      refine hK _ _ (fun _ => ⟨hr, hx⟩) ?_
      clear hK K hr hx h9 ht9 hn9 hstep
      repeat (refine plan_free (v := ?_) rfl ?_ ?_; rotate_left; (focus (intro w' hI; go_simp; try with_reducible rfl)); simp only [Act.put, List.setIfInBounds_toArray, List.set_cons_zero, List.set_cons_succ])
      refine plan_big (bigC_mk rfl (fun K hK => ?_))
      go_wp2
      refine hK _ _ (fun h => by cases h) ?_
      clear hK K
      refine plan_done ?_
      go_wp2
      go_ret
      exact ⟨rfl, HS9.out.before HT1.out⟩
    ·
      refine bigC_mk rfl (fun K hK => ?_)
      go_wp2
      obtain ⟨_, hg8, _, ht⟩ := hr.alloc (.cells #[.int .i64 x.t, .string x.b] 29)
      try simp only [World.size_alloc] at hg8
      try replace HE1 := Lib.hid (HE1.out.keep ht (fun _ _ h => h))
      try replace HG8 := Lib.hid (HG8.out.keep ht (fun _ _ h => h))
      try replace H6 := Lib.hid (H6.out.keep ht (fun _ _ h => h))
      replace hr := hr.turns ht
      replace hx := heap_newer hx ht (fun h => h)
      have HG8 := Lib.hid (one_src hg8)
      refine hK _ _ (fun _ => ⟨hr, hx⟩) ?_
      clear hK K hg8 ht
      refine plan_big ?_
      refine bigC_mk rfl (fun K hK => ?_)
      go_wp2_with (at_builtin; refine wpList_append_sl rfl _ _ 30 rfl Try.underlying30 hi hz0 hz1 hz2 rfl (by decide) rfl rfl HE1.out hr.src (by unfold maxLen; omega) (by omega) ?_)
      intro v6 w6 h6 _ hn6 hc6
      try simp only [Nat.zero_add, List.nil_append] at h6
      have ht := (hc6 _ rfl).1
      have HF6 : Hid (∀ k, blk v6 k → w1.heap.size ≤ k) := fun k hk => by
        have hh := HL1.out
        have hh2 := hr.turned.size
        rcases hn6 k hk with h | h
        · simp only [blk, Value.ownBlock, Option.some.injEq] at h; omega
        · omega
      try replace HE1 := Lib.hid (HE1.out.keep ht (fun _ _ h => h))
      try replace HG8 := Lib.hid (HG8.out.keep ht (fun _ _ h => h))
      try replace H6 := Lib.hid (H6.out.keep ht (fun _ _ h => h))
      replace hr := hr.turns ht
      replace hx := heap_newer hx ht (fun h => h)
      have H6 := Lib.hid h6
      refine hK _ _ (fun _ => ⟨hr, hx⟩) ?_
      clear hK K ht h6 hn6 hc6
      refine plan_big (bigC_mk rfl (fun K hK => ?_))
      go_wp2_with (at_builtin; refine wpList_append_sl rfl _ _ 30 rfl Try.underlying30 hi hz0 hz1 hz2 rfl (by decide) rfl rfl H6.out HG8.out (by unfold maxLen; omega) (by omega) ?_)
      intro v9 w9 h9 ht9 hn9 _
      obtain ⟨ao9, cap9, rfl, _⟩ := h9.shape
      have hle := hr.turned.size
      replace hr := hr.newer ht9 HF6.out HPL.out HB.out
      replace hx := heap_newer hx ht9 (fun h => by have := HF6.out _ h; have := HX0.out; omega)
      have d0 := cells_of hr.hp 1 _ rfl
      have df := free_of hr.hp 1
      have hstep : Step F (RefAt p most (l ++ [x]) lost) w1 (w9.setCell ⟨p, 1, none⟩ (.slice ao9 (l.length + 1) cap9)) := by
        have e1 : (l ++ [x]).length = l.length + 1 := by simp
        unfold RefAt
        rw [e1, ocells_append]
        exact Box1.put H1.out (hr.turned.mono (fun _ h => h.elim)) hr.hp h9 (fun k hk => Or.inr (by rcases hn9 k hk with h | h; exact HF6.out k h; omega)) 1 rfl
      have HS9 := Lib.hid hstep
      refine hK _ _ (fun _ => ⟨hr, hx⟩) ?_
      clear hK K hr hx h9 ht9 hn9 hstep
      repeat (refine plan_free (v := ?_) rfl ?_ ?_; rotate_left; (focus (intro w' hI; go_simp; try with_reducible rfl)); simp only [Act.put, List.setIfInBounds_toArray, List.set_cons_zero, List.set_cons_succ])
      refine plan_big (bigC_mk rfl (fun K hK => ?_))
      go_wp2
      refine hK _ _ (fun h => by cases h) ?_
      clear hK K
      refine plan_done ?_
      go_wp2
      go_ret
      exact ⟨rfl, HS9.out.before HT1.out⟩
  ·
    refine bigC_mk rfl (fun K hK => ?_)
    go_wp2
    obtain ⟨_, hg8, _, ht⟩ := hr.alloc (.cells #[.int .i64 x.t, .string x.b] 29)
    try simp only [World.size_alloc] at hg8
    try replace HE1 := Lib.hid (HE1.out.keep ht (fun _ _ h => h))
    try replace HG8 := Lib.hid (HG8.out.keep ht (fun _ _ h => h))
    try replace H6 := Lib.hid (H6.out.keep ht (fun _ _ h => h))
    replace hr := hr.turns ht
    replace hx := heap_newer hx ht (fun h => h)
    have HG8 := Lib.hid (one_src hg8)
    refine hK _ _ (fun _ => ⟨hr, hx⟩) ?_
    clear hK K hg8 ht
    refine plan_big ?_
    refine bigC_mk rfl (fun K hK => ?_)
    go_wp2
    obtain ⟨_, hg1, hle1, ht⟩ := hr.alloc (.cells #[] 29)
    try simp only [World.size_alloc] at hg1 hle1
    have HL1 := Lib.hid hle1
    clear hle1
    try replace HE1 := Lib.hid (HE1.out.keep ht (fun _ _ h => h))
    try replace HG8 := Lib.hid (HG8.out.keep ht (fun _ _ h => h))
    try replace H6 := Lib.hid (H6.out.keep ht (fun _ _ h => h))
    replace hr := hr.turns ht
    replace hx := heap_newer hx ht (fun h => h)
    have HE1 := Lib.hid (Sl.empty (sz := 2) hg1 (Nat.zero_le _))
    refine hK _ _ (fun _ => ⟨hr, hx⟩) ?_
    clear hK K hg1 ht
    refine plan_big ?_
    refine bigC_mk rfl (fun K hK => ?_)
    go_wp2_with (at_builtin; refine wpList_append_sl rfl _ _ 30 rfl Try.underlying30 hi hz0 hz1 hz2 rfl (by decide) rfl rfl HE1.out hr.src (by unfold maxLen; omega) (by omega) ?_)
    intro v6 w6 h6 _ hn6 hc6
    try simp only [Nat.zero_add, List.nil_append] at h6
    have ht := (hc6 _ rfl).1
    have HF6 : Hid (∀ k, blk v6 k → w1.heap.size ≤ k) := fun k hk => by
      have hh := HL1.out
      have hh2 := hr.turned.size
      rcases hn6 k hk with h | h
      · simp only [blk, Value.ownBlock, Option.some.injEq] at h; omega
      · omega
    try replace HE1 := Lib.hid (HE1.out.keep ht (fun _ _ h => h))
    try replace HG8 := Lib.hid (HG8.out.keep ht (fun _ _ h => h))
    try replace H6 := Lib.hid (H6.out.keep ht (fun _ _ h => h))
    replace hr := hr.turns ht
    replace hx := heap_newer hx ht (fun h => h)
    have H6 := Lib.hid h6
    refine hK _ _ (fun _ => ⟨hr, hx⟩) ?_
    clear hK K ht h6 hn6 hc6
    refine plan_big (bigC_mk rfl (fun K hK => ?_))
    go_wp2_with (at_builtin; refine wpList_append_sl rfl _ _ 30 rfl Try.underlying30 hi hz0 hz1 hz2 rfl (by decide) rfl rfl H6.out HG8.out (by unfold maxLen; omega) (by omega) ?_)
    intro v9 w9 h9 ht9 hn9 _
    obtain ⟨ao9, cap9, rfl, _⟩ := h9.shape
    have hle := hr.turned.size
    replace hr := hr.newer ht9 HF6.out HPL.out HB.out
    replace hx := heap_newer hx ht9 (fun h => by have := HF6.out _ h; have := HX0.out; omega)
    have d0 := cells_of hr.hp 1 _ rfl
    have df := free_of hr.hp 1
    have hstep : Step F (RefAt p most (l ++ [x]) lost) w1 (w9.setCell ⟨p, 1, none⟩ (.slice ao9 (l.length + 1) cap9)) := by
      have e1 : (l ++ [x]).length = l.length + 1 := by simp
      unfold RefAt
      rw [e1, ocells_append]
      exact Box1.put H1.out (hr.turned.mono (fun _ h => h.elim)) hr.hp h9 (fun k hk => Or.inr (by rcases hn9 k hk with h | h; exact HF6.out k h; omega)) 1 rfl
    have HS9 := Lib.hid hstep
    refine hK _ _ (fun _ => ⟨hr, hx⟩) ?_
    clear hK K hr hx h9 ht9 hn9 hstep
    repeat (refine plan_free (v := ?_) rfl ?_ ?_; rotate_left; (focus (intro w' hI; go_simp; try with_reducible rfl)); simp only [Act.put, List.setIfInBounds_toArray, List.set_cons_zero, List.set_cons_succ])
    refine plan_big (bigC_mk rfl (fun K hK => ?_))
    go_wp2
    refine hK _ _ (fun h => by cases h) ?_
    clear hK K
    refine plan_done ?_
    go_wp2
    go_ret
    exact ⟨rfl, HS9.out.before HT1.out⟩

end Go.Proofs.Ytjjapnphljhicab.outbox
