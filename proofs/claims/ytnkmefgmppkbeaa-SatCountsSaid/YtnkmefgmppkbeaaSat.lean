/- Package sat and its document's answer: numbers that stop. -/
import Derived.Test.YtnkmefgmppkbeaaMix
import Derived.Test.YtnkmefgmppkbeaaStepKit
import Derived.Test.YtnkmefgmppkbeaaArgKit
import Derived.Test.YtnkmefgmppkbeaaRow
namespace Go.Proofs.Ytnkmefgmppkbeaa.sat
open Go.RowKit
open Go.Proofs.Ytnkmefgmppkbeaa.stepkit Go.Proofs.Ytnkmefgmppkbeaa.mix Go.Proofs.Ytnkmefgmppkbeaa.row

def clamp (x : Int) : Int := max (-9223372036854775808) (min x 9223372036854775807)
def satAdd (n d least most : Int) : Int := max least (min (clamp (n + d)) most)

theorem ite_min1 (a b : Int) {i : Decidable (a ≤ b)} : (@ite Int (a ≤ b) i a b) = min a b := by split <;> omega
theorem ite_min2 (a b : Int) {i : Decidable (b < a)} : (@ite Int (b < a) i b a) = min a b := by split <;> omega
theorem ite_max1 (a b : Int) {i : Decidable (a ≤ b)} : (@ite Int (a ≤ b) i b a) = max a b := by split <;> omega
theorem ite_max2 (a b : Int) {i : Decidable (a < b)} : (@ite Int (a < b) i b a) = max a b := by split <;> omega

theorem sum_any (n d : Int) (w : World) (hn1 : -9223372036854775808 ≤ n) (hn2 : n ≤ 9223372036854775807) (hd1 : -9223372036854775808 ≤ d) (hd2 : d ≤ 9223372036854775807) :
    Calls Try.prog 15 #[.int .i64 n, .int .i64 d] w fun e w' => e = .returned (.int .i64 (clamp (n + d))) ∧ w = w' := by
  rcases Int.lt_trichotomy d 0 with hd | hd | hd
  · by_cases h : n < -9223372036854775808 - d
    · have hc : clamp (n + d) = -9223372036854775808 := by unfold clamp; omega
      rw [hc]
      go_enter Try.func15, Try.ntmps15
      go_wp2
      go_ret
      exact ⟨rfl, rfl⟩
    · have hc : clamp (n + d) = n + d := by unfold clamp; omega
      rw [hc]
      go_enter Try.func15, Try.ntmps15
      go_wp2
      go_ret
      exact ⟨rfl, rfl⟩
  · subst hd
    have hc : clamp (n + 0) = n + 0 := by unfold clamp; omega
    rw [hc]
    go_enter Try.func15, Try.ntmps15
    go_wp2
    go_ret
    simp
  · by_cases h : 9223372036854775807 - d < n
    · have hc : clamp (n + d) = 9223372036854775807 := by unfold clamp; omega
      rw [hc]
      go_enter Try.func15, Try.ntmps15
      go_wp2
      go_ret
      exact ⟨rfl, rfl⟩
    · have hc : clamp (n + d) = n + d := by unfold clamp; omega
      rw [hc]
      go_enter Try.func15, Try.ntmps15
      go_wp2
      go_ret
      exact ⟨rfl, rfl⟩

theorem add_any (n d least most : Int) (w : World) (hn1 : -9223372036854775808 ≤ n) (hn2 : n ≤ 9223372036854775807) (hd1 : -9223372036854775808 ≤ d) (hd2 : d ≤ 9223372036854775807) :
    Calls Try.prog 7 #[.int .i64 n, .int .i64 d, .int .i64 least, .int .i64 most] w fun e w' => e = .returned (.int .i64 (satAdd n d least most)) ∧ w = w' := by
  obtain ⟨c, hc⟩ : ∃ c, clamp (n + d) = c := ⟨_, rfl⟩
  have HC := Lib.hid hc
  have hs : satAdd n d least most = max least (min c most) := by unfold satAdd; rw [hc]
  rw [hs]
  go_enter Try.func7, Try.ntmps7
  go_wp2_with (go_at_call 15; refine (sum_any _ _ _ hn1 hn2 hd1 hd2).mono ?_; rintro e w1 ⟨rfl, rfl⟩; rw [HC.out])
  all_goals (go_ret; refine ⟨?_, rfl⟩; show Ending.returned (Value.int .i64 _) = Ending.returned (Value.int .i64 _); congr 2; simp only [ite_min2] at *; omega)

theorem up_any (n : Int) (w : World) (hn1 : -9223372036854775808 ≤ n) (hn2 : n ≤ 9223372036854775807) :
    Calls Try.prog 9 #[.int .i64 n] w fun e w' => e = .returned (.int .i64 (satAdd n 1 0 1000)) ∧ w = w' := by
  go_enter Try.func9, Try.ntmps9
  go_wp2_with (go_at_call 7; refine (add_any _ _ _ _ _ hn1 hn2 (by decide) (by decide)).mono ?_; rintro e w1 ⟨rfl, rfl⟩)
  go_ret
  exact ⟨rfl, rfl⟩

set_option maxHeartbeats 1000000 in
theorem ref_add_any (n d least most : Int) (w : World) (hn1 : -9223372036854775808 ≤ n) (hn2 : n ≤ 9223372036854775807) (hd1 : -9223372036854775808 ≤ d) (hd2 : d ≤ 9223372036854775807)
    (hm1 : -9223372036854775808 ≤ most) (hm2 : most ≤ 9223372036854775807) (hl1 : -9223372036854775808 ≤ least) (hl2 : least ≤ 9223372036854775807) :
    Calls Try.prog 8 #[.int .i64 n, .int .i64 d, .int .i64 least, .int .i64 most] w fun e w' => e = .returned (.int .i64 (satAdd n d least most)) ∧ w = w' := by
  obtain ⟨c, hc⟩ : ∃ c, satAdd n d least most = c := ⟨_, rfl⟩
  have HC := Lib.hid hc
  rw [hc]
  clear hc
  by_cases h1 : most < least
  · have hcc : c = least := by rw [← HC.out]; unfold satAdd clamp; omega
    rw [hcc]
    go_enter Try.func8, Try.ntmps8
    go_wp2
    go_ret
    exact ⟨rfl, rfl⟩
  · by_cases h2 : most ≤ n ∧ 0 ≤ d
    · have hcc : c = most := by rw [← HC.out]; unfold satAdd clamp; omega
      rw [hcc]
      obtain ⟨h2, h3⟩ := h2
      go_enter Try.func8, Try.ntmps8
      go_wp2
      go_ret
      exact ⟨rfl, rfl⟩
    · by_cases h3 : n ≤ least ∧ d ≤ 0
      · have hcc : c = least := by rw [← HC.out]; unfold satAdd clamp; omega
        rw [hcc]
        obtain ⟨h4, h5⟩ := h3
        by_cases h6 : most ≤ n
        · have h7 : ¬ 0 ≤ d := fun h => h2 ⟨h6, h⟩
          go_enter Try.func8, Try.ntmps8
          go_wp2
          go_ret
          exact ⟨rfl, rfl⟩
        · go_enter Try.func8, Try.ntmps8
          go_wp2
          go_ret
          exact ⟨rfl, rfl⟩
      · go_enter Try.func8, Try.ntmps8
        go_wp2_with fail
        all_goals (go_ret; refine ⟨?_, rfl⟩; show Ending.returned (Value.int .i64 _) = Ending.returned (Value.int .i64 _); congr 2; rw [← HC.out]; unfold satAdd clamp; clear HC; simp only [ite_min2, wrap64, IntKind.wrap_u64] at *; omega)

theorem ref_up_any (n : Int) (w : World) (hn1 : -9223372036854775808 ≤ n) (hn2 : n ≤ 9223372036854775807) :
    Calls Try.prog 10 #[.int .i64 n] w fun e w' => e = .returned (.int .i64 (satAdd n 1 0 1000)) ∧ w = w' := by
  go_enter Try.func10, Try.ntmps10
  go_wp2_with (go_at_call 8; refine (ref_add_any _ _ _ _ _ hn1 hn2 (by decide) (by decide) (by decide) (by decide) (by decide) (by decide)).mono ?_; rintro e w1 ⟨rfl, rfl⟩)
  go_ret
  exact ⟨rfl, rfl⟩

/-- Counts: seven numbers. -/
def vals (c : List Int) : List Value := c.map (Value.int .i64)
def TallyAt (w : World) (p : Nat) (c : List Int) : Prop := c.length = 7 ∧ (∀ x ∈ c, 0 ≤ x ∧ x ≤ 1000) ∧ w.heap[p]? = some (.cells (vals c).toArray 31 (0, 0))

theorem TallyAt.cell {w : World} {p : Nat} {c : List Int} (h : TallyAt w p c) {k : Nat} (hk : k < 7) : w.cell? ⟨p, k, none⟩ = some (.int .i64 (c.getD k 0)) := by
  obtain ⟨h1, _, h2⟩ := h
  simp only [World.cell?, h2, vals]
  simp [List.getD, h1, hk]
theorem TallyAt.free {w : World} {p : Nat} {c : List Int} (h : TallyAt w p c) (k : Nat) : w.frozen? ⟨p, k, none⟩ = false := by
  obtain ⟨h1, _, h2⟩ := h
  simp [World.frozen?, h2]
theorem TallyAt.bounds {w : World} {p : Nat} {c : List Int} (h : TallyAt w p c) {k : Nat} (hk : k < 7) : 0 ≤ c.getD k 0 ∧ c.getD k 0 ≤ 1000 := by
  obtain ⟨h1, h2, _⟩ := h
  refine h2 _ ?_
  rw [List.getD, List.getElem?_eq_getElem (by omega)]
  exact List.getElem_mem _

def upOf (n : Int) : Int := satAdd n 1 0 1000
theorem upOf_bounds {n : Int} : 0 ≤ upOf n ∧ upOf n ≤ 1000 := by unfold upOf satAdd clamp; omega
theorem upOf_eq {n : Int} (h0 : 0 ≤ n) (h1 : n ≤ 1000) : upOf n = min (n + 1) 1000 := by unfold upOf satAdd clamp; omega
def bump (c : List Int) (k : Nat) : List Int := c.set k (upOf (c.getD k 0))

theorem TallyAt.grown {w w' : World} {p : Nat} {c : List Int} (h : TallyAt w p c) {r : Option Nat} (hg : w.grownBy w' r) (hr : r ≠ some p) : TallyAt w' p c :=
  ⟨h.1, h.2.1, by rw [hg.block p (lt_of_block h.2.2) (fun e => hr e.symm)]; exact h.2.2⟩

theorem TallyAt.bump {w : World} {p : Nat} {c : List Int} (h : TallyAt w p c) (k : Nat) : TallyAt (w.setCell ⟨p, k, none⟩ (.int .i64 (upOf (c.getD k 0)))) p (bump c k) := by
  obtain ⟨h1, h2, h3⟩ := h
  refine ⟨by simp [sat.bump, h1], ?_, ?_⟩
  · intro x hx
    rcases List.mem_or_eq_of_mem_set hx with hx | rfl
    · exact h2 x hx
    · exact upOf_bounds
  · rw [heap_setCell_at h3]
    simp [vals, sat.bump, List.map_set]
set_option maxHeartbeats 400000 in
theorem counter_any (p : Nat) (c : List Int) (k f : Nat) (w : World) (h : TallyAt w p c) (hk : k < 7)
    (hf : ∀ W : World, Calls Try.prog f #[.pointer (some ⟨p, 0, none⟩)] W fun e w' => e = .returned (.pointer (some ⟨p, k, none⟩)) ∧ W = w')
    (hcf : ∀ (a : Array Value) (W : World), (callFunc f a).run Try.prog W = .ok (.enter f a) W) :
    Calls Try.prog 24 #[.agg #[.func (.func f) #[] #[]], .pointer (some ⟨p, 0, none⟩)] w fun e w' => e = .returned (.tuple #[]) ∧ TallyAt w' p (bump c k) ∧ w.grownBy w' (some p) := by
  have hc := h.cell hk
  have hb := h.bounds hk
  go_enter Try.func24, Try.ntmps24
  go_wp2_with fail
  have cl : ∀ W : World, (∃ n, W = (w.alloc (.cells #[.func (.func f) #[] #[]] 45)).drewN n) → W.cell? ⟨w.heap.size, 0, none⟩ = some (.func (.func f) #[] #[]) := by
    rintro W ⟨n, rfl⟩
    show (w.alloc (.cells #[.func (.func f) #[] #[]] 45)).cell? _ = _
    simp only [World.cell?, heap_alloc_new]; rfl
  have CL := Lib.hid cl
  clear cl
  refine wp_region_mix [(0, true, true), (1, true, true), (2, true, true), (3, true, true), (4, true, true), (5, false, true), (6, true, true)] (fun w' => ∃ n, w' = (w.alloc (.cells #[.func (.func f) #[] #[]] 45)).drewN n) (by kernel_rfl) (by kernel_rfl) (⟨1, rfl⟩) ?_
  simp only [picked, List.filterMap_cons, List.filterMap_nil, List.getElem?_toArray, List.getElem?_cons_zero, List.getElem?_cons_succ, Option.map_some]
  repeat (refine mix_free (v := ?_) rfl ?_ ?_; rotate_left; (focus (intro w' hI; have d0 := CL.out _ hI; go_simp; try with_reducible rfl)); simp only [Act.put, List.setIfInBounds_toArray, List.set_cons_zero, List.set_cons_succ])
  refine mix_big rfl (fun K hK => ?_)
  go_wp2_with first | rw [hcf] | (refine (hf _).mono ?_; rintro e w1 ⟨rfl, rfl⟩)
  refine hK _ _ (fun _ => ⟨1, rfl⟩) ?_
  clear hK K CL
  repeat (refine mix_free (v := ?_) rfl ?_ ?_; rotate_left; (focus (intro w' hI; go_simp; try with_reducible rfl)); simp only [Act.put, List.setIfInBounds_toArray, List.set_cons_zero, List.set_cons_succ])
  refine mix_nil ?_
  obtain ⟨w2, hw2⟩ : ∃ w2, w2 = (w.alloc (.cells #[.func (.func f) #[] #[]] 45)).drew := ⟨_, rfl⟩
  have hg2 : w.grownBy w2 none := by rw [hw2]; exact grownBy_trans (World.grownBy_alloc _ _ _) (grownBy_drewN _ 1 _)
  rw [← hw2]
  clear hw2
  have h2 := h.grown hg2 (by simp)
  have c2 := h2.cell hk
  have f2 := h2.free k
  have hbump := h2.bump k
  obtain ⟨v, hv⟩ : ∃ v, c.getD k 0 = v := ⟨_, rfl⟩
  rw [hv] at c2 hb hbump
  clear hc hv
  go_wp2_with (go_at_call 9; refine (up_any _ _ (by omega) (by omega)).mono ?_; rintro e w3 ⟨rfl, rfl⟩)
  go_end0
  exact ⟨rfl, hbump, grownBy_trans (grownBy_none hg2 _) (grownBy_setCell _ _ _ _)⟩


theorem pick_malformed (p : Nat) (w : World) :
    Calls Try.prog 25 #[.pointer (some ⟨p, 0, none⟩)] w fun e w' => e = .returned (.pointer (some ⟨p, 0, none⟩)) ∧ w = w' := by
  go_enter Try.func25, Try.ntmps25
  go_wp2
  go_ret
  exact ⟨rfl, rfl⟩

theorem pick_oversized (p : Nat) (w : World) :
    Calls Try.prog 26 #[.pointer (some ⟨p, 0, none⟩)] w fun e w' => e = .returned (.pointer (some ⟨p, 1, none⟩)) ∧ w = w' := by
  go_enter Try.func26, Try.ntmps26
  go_wp2
  go_ret
  exact ⟨rfl, rfl⟩

theorem pick_refused (p : Nat) (w : World) :
    Calls Try.prog 27 #[.pointer (some ⟨p, 0, none⟩)] w fun e w' => e = .returned (.pointer (some ⟨p, 2, none⟩)) ∧ w = w' := by
  go_enter Try.func27, Try.ntmps27
  go_wp2
  go_ret
  exact ⟨rfl, rfl⟩

theorem pick_mismatch (p : Nat) (w : World) :
    Calls Try.prog 28 #[.pointer (some ⟨p, 0, none⟩)] w fun e w' => e = .returned (.pointer (some ⟨p, 3, none⟩)) ∧ w = w' := by
  go_enter Try.func28, Try.ntmps28
  go_wp2
  go_ret
  exact ⟨rfl, rfl⟩

theorem pick_stray (p : Nat) (w : World) :
    Calls Try.prog 23 #[.pointer (some ⟨p, 0, none⟩)] w fun e w' => e = .returned (.pointer (some ⟨p, 4, none⟩)) ∧ w = w' := by
  go_enter Try.func23, Try.ntmps23
  go_wp2
  go_ret
  exact ⟨rfl, rfl⟩

theorem pick_dropped (p : Nat) (w : World) :
    Calls Try.prog 29 #[.pointer (some ⟨p, 0, none⟩)] w fun e w' => e = .returned (.pointer (some ⟨p, 5, none⟩)) ∧ w = w' := by
  go_enter Try.func29, Try.ntmps29
  go_wp2
  go_ret
  exact ⟨rfl, rfl⟩

theorem pick_quota (p : Nat) (w : World) :
    Calls Try.prog 30 #[.pointer (some ⟨p, 0, none⟩)] w fun e w' => e = .returned (.pointer (some ⟨p, 6, none⟩)) ∧ w = w' := by
  go_enter Try.func30, Try.ntmps30
  go_wp2
  go_ret
  exact ⟨rfl, rfl⟩

theorem counter_nil (f : Nat) (w : World) :
    Calls Try.prog 24 #[.agg #[.func (.func f) #[] #[]], .pointer none] w fun e w' => e = .returned (.tuple #[]) ∧ w.grownBy w' none := by
  go_enter Try.func24, Try.ntmps24
  go_wp2
  refine bodyPost_ret (results_none rfl _ _ _) rfl ?_
  exact ⟨rfl, World.grownBy_alloc _ _ _⟩

theorem tally_malformed (p : Nat) (c : List Int) (w : World) (h : TallyAt w p c) :
    Calls Try.prog 17 #[.pointer (some ⟨p, 0, none⟩)] w fun e w' => e = .returned (.tuple #[]) ∧ TallyAt w' p (bump c 0) ∧ w.grownBy w' (some p) := by
  go_enter Try.func17, Try.ntmps17
  go_wp2_with (go_at_call 24; refine (counter_any p c 0 25 _ h (by decide) (pick_malformed p) (fun _ _ => rfl)).mono ?_; rintro e w1 ⟨rfl, h1, h2⟩)
  go_end0
  exact ⟨rfl, h1, h2⟩

theorem tally_malformed_nil (w : World) :
    Calls Try.prog 17 #[.pointer none] w fun e w' => e = .returned (.tuple #[]) ∧ w.grownBy w' none := by
  go_enter Try.func17, Try.ntmps17
  go_wp2_with (go_at_call 24; refine (counter_nil 25 _).mono ?_; rintro e w1 ⟨rfl, h1⟩)
  go_end0
  exact ⟨rfl, h1⟩

theorem tally_oversized (p : Nat) (c : List Int) (w : World) (h : TallyAt w p c) :
    Calls Try.prog 18 #[.pointer (some ⟨p, 0, none⟩)] w fun e w' => e = .returned (.tuple #[]) ∧ TallyAt w' p (bump c 1) ∧ w.grownBy w' (some p) := by
  go_enter Try.func18, Try.ntmps18
  go_wp2_with (go_at_call 24; refine (counter_any p c 1 26 _ h (by decide) (pick_oversized p) (fun _ _ => rfl)).mono ?_; rintro e w1 ⟨rfl, h1, h2⟩)
  go_end0
  exact ⟨rfl, h1, h2⟩

theorem tally_oversized_nil (w : World) :
    Calls Try.prog 18 #[.pointer none] w fun e w' => e = .returned (.tuple #[]) ∧ w.grownBy w' none := by
  go_enter Try.func18, Try.ntmps18
  go_wp2_with (go_at_call 24; refine (counter_nil 26 _).mono ?_; rintro e w1 ⟨rfl, h1⟩)
  go_end0
  exact ⟨rfl, h1⟩

theorem tally_refused (p : Nat) (c : List Int) (w : World) (h : TallyAt w p c) :
    Calls Try.prog 19 #[.pointer (some ⟨p, 0, none⟩)] w fun e w' => e = .returned (.tuple #[]) ∧ TallyAt w' p (bump c 2) ∧ w.grownBy w' (some p) := by
  go_enter Try.func19, Try.ntmps19
  go_wp2_with (go_at_call 24; refine (counter_any p c 2 27 _ h (by decide) (pick_refused p) (fun _ _ => rfl)).mono ?_; rintro e w1 ⟨rfl, h1, h2⟩)
  go_end0
  exact ⟨rfl, h1, h2⟩

theorem tally_refused_nil (w : World) :
    Calls Try.prog 19 #[.pointer none] w fun e w' => e = .returned (.tuple #[]) ∧ w.grownBy w' none := by
  go_enter Try.func19, Try.ntmps19
  go_wp2_with (go_at_call 24; refine (counter_nil 27 _).mono ?_; rintro e w1 ⟨rfl, h1⟩)
  go_end0
  exact ⟨rfl, h1⟩

theorem tally_mismatch (p : Nat) (c : List Int) (w : World) (h : TallyAt w p c) :
    Calls Try.prog 20 #[.pointer (some ⟨p, 0, none⟩)] w fun e w' => e = .returned (.tuple #[]) ∧ TallyAt w' p (bump c 3) ∧ w.grownBy w' (some p) := by
  go_enter Try.func20, Try.ntmps20
  go_wp2_with (go_at_call 24; refine (counter_any p c 3 28 _ h (by decide) (pick_mismatch p) (fun _ _ => rfl)).mono ?_; rintro e w1 ⟨rfl, h1, h2⟩)
  go_end0
  exact ⟨rfl, h1, h2⟩

theorem tally_mismatch_nil (w : World) :
    Calls Try.prog 20 #[.pointer none] w fun e w' => e = .returned (.tuple #[]) ∧ w.grownBy w' none := by
  go_enter Try.func20, Try.ntmps20
  go_wp2_with (go_at_call 24; refine (counter_nil 28 _).mono ?_; rintro e w1 ⟨rfl, h1⟩)
  go_end0
  exact ⟨rfl, h1⟩

theorem tally_stray (p : Nat) (c : List Int) (w : World) (h : TallyAt w p c) :
    Calls Try.prog 16 #[.pointer (some ⟨p, 0, none⟩)] w fun e w' => e = .returned (.tuple #[]) ∧ TallyAt w' p (bump c 4) ∧ w.grownBy w' (some p) := by
  go_enter Try.func16, Try.ntmps16
  go_wp2_with (go_at_call 24; refine (counter_any p c 4 23 _ h (by decide) (pick_stray p) (fun _ _ => rfl)).mono ?_; rintro e w1 ⟨rfl, h1, h2⟩)
  go_end0
  exact ⟨rfl, h1, h2⟩

theorem tally_stray_nil (w : World) :
    Calls Try.prog 16 #[.pointer none] w fun e w' => e = .returned (.tuple #[]) ∧ w.grownBy w' none := by
  go_enter Try.func16, Try.ntmps16
  go_wp2_with (go_at_call 24; refine (counter_nil 23 _).mono ?_; rintro e w1 ⟨rfl, h1⟩)
  go_end0
  exact ⟨rfl, h1⟩

theorem tally_dropped (p : Nat) (c : List Int) (w : World) (h : TallyAt w p c) :
    Calls Try.prog 21 #[.pointer (some ⟨p, 0, none⟩)] w fun e w' => e = .returned (.tuple #[]) ∧ TallyAt w' p (bump c 5) ∧ w.grownBy w' (some p) := by
  go_enter Try.func21, Try.ntmps21
  go_wp2_with (go_at_call 24; refine (counter_any p c 5 29 _ h (by decide) (pick_dropped p) (fun _ _ => rfl)).mono ?_; rintro e w1 ⟨rfl, h1, h2⟩)
  go_end0
  exact ⟨rfl, h1, h2⟩

theorem tally_dropped_nil (w : World) :
    Calls Try.prog 21 #[.pointer none] w fun e w' => e = .returned (.tuple #[]) ∧ w.grownBy w' none := by
  go_enter Try.func21, Try.ntmps21
  go_wp2_with (go_at_call 24; refine (counter_nil 29 _).mono ?_; rintro e w1 ⟨rfl, h1⟩)
  go_end0
  exact ⟨rfl, h1⟩

theorem tally_quota (p : Nat) (c : List Int) (w : World) (h : TallyAt w p c) :
    Calls Try.prog 22 #[.pointer (some ⟨p, 0, none⟩)] w fun e w' => e = .returned (.tuple #[]) ∧ TallyAt w' p (bump c 6) ∧ w.grownBy w' (some p) := by
  go_enter Try.func22, Try.ntmps22
  go_wp2_with (go_at_call 24; refine (counter_any p c 6 30 _ h (by decide) (pick_quota p) (fun _ _ => rfl)).mono ?_; rintro e w1 ⟨rfl, h1, h2⟩)
  go_end0
  exact ⟨rfl, h1, h2⟩

theorem tally_quota_nil (w : World) :
    Calls Try.prog 22 #[.pointer none] w fun e w' => e = .returned (.tuple #[]) ∧ w.grownBy w' none := by
  go_enter Try.func22, Try.ntmps22
  go_wp2_with (go_at_call 24; refine (counter_nil 30 _).mono ?_; rintro e w1 ⟨rfl, h1⟩)
  go_end0
  exact ⟨rfl, h1⟩


end Go.Proofs.Ytnkmefgmppkbeaa.sat
