/- All counts as a struct. -/
import Derived.Test.YtnkmefgmppkbeaaSat
namespace Go.Proofs.Ytnkmefgmppkbeaa.sat
open Go.RowKit
open Go.Proofs.Ytnkmefgmppkbeaa.stepkit Go.Proofs.Ytnkmefgmppkbeaa.mix Go.Proofs.Ytnkmefgmppkbeaa.row

theorem seven {c : List Int} (h : c.length = 7) : ∃ a0 a1 a2 a3 a4 a5 a6, c = [a0, a1, a2, a3, a4, a5, a6] := by
  match c, h with
  | [a0, a1, a2, a3, a4, a5, a6], _ => exact ⟨a0, a1, a2, a3, a4, a5, a6, rfl⟩

/-- Seven numbers at block p, of whatever type. -/
def SevenAt (w : World) (p t : Nat) (c : List Int) : Prop := c.length = 7 ∧ w.heap[p]? = some (.cells (vals c).toArray t (0, 0))
def agg (c : List Int) : Value := .agg (vals c).toArray

theorem all_any (p : Nat) (c : List Int) (w : World) (h : TallyAt w p c) :
    Calls Try.prog 14 #[.pointer (some ⟨p, 0, none⟩)] w fun e w' => e = .returned (agg c) ∧ w.grownBy w' none := by
  have h0 := h.grown (World.grownBy_alloc w (.cells #[.int .i64 0, .int .i64 0, .int .i64 0, .int .i64 0, .int .i64 0, .int .i64 0, .int .i64 0] 29) none) (by simp)
  obtain ⟨a0, a1, a2, a3, a4, a5, a6, rfl⟩ := seven h.1
  have c0 := h0.cell (k := 0) (by decide)
  have c1 := h0.cell (k := 1) (by decide)
  have c2 := h0.cell (k := 2) (by decide)
  have c3 := h0.cell (k := 3) (by decide)
  have c4 := h0.cell (k := 4) (by decide)
  have c5 := h0.cell (k := 5) (by decide)
  have c6 := h0.cell (k := 6) (by decide)
  simp only [List.getD, List.getElem?_cons_zero, List.getElem?_cons_succ, Option.getD_some] at c0 c1 c2 c3 c4 c5 c6
  go_enter Try.func14, Try.ntmps14
  go_wp2
  refine bodyPost_ret (results_cell_row rfl _ _ w.heap.size 29 _ (0, 0) _ rfl (heap_alloc_new _ _) Try.underlying29 rfl (by kernel_rfl)) rfl ⟨rfl, World.grownBy_alloc _ _ _⟩

theorem all_nil (w : World) :
    Calls Try.prog 14 #[.pointer none] w fun e w' => e = .returned (agg [0, 0, 0, 0, 0, 0, 0]) ∧ w.grownBy w' none := by
  go_enter Try.func14, Try.ntmps14
  go_wp2
  refine bodyPost_ret (results_cell_row rfl _ _ w.heap.size 29 _ (0, 0) _ rfl (heap_alloc_new _ _) Try.underlying29 rfl (by kernel_rfl)) rfl ⟨rfl, World.grownBy_alloc _ _ _⟩

/-- No k or the k-th is one more. -/
def counted (c : List Int) (k : Int) : List Int := if k < 7 then bump c k.toNat else c

theorem counted_at {w : World} {p : Nat} {c : List Int} {k : Nat} (h : TallyAt w p (bump c k)) (hk : k < 7) : TallyAt w p (counted c (k : Int)) := by
  unfold counted
  rw [if_pos (by omega)]
  exact h

theorem count_any (p : Nat) (c : List Int) (k : Int) (w : World) (h : TallyAt w p c) (h0 : 0 ≤ k) :
    Calls Try.prog 12 #[.pointer (some ⟨p, 0, none⟩), .int .i64 k] w fun e w' => e = .returned (.tuple #[]) ∧ TallyAt w' p (counted c k) ∧ w.grownBy w' (some p) := by
  by_cases hk : k < 7
  · obtain rfl | rfl | rfl | rfl | rfl | rfl | rfl : k = 0 ∨ k = 1 ∨ k = 2 ∨ k = 3 ∨ k = 4 ∨ k = 5 ∨ k = 6 := by omega
    all_goals (
      go_enter Try.func12, Try.ntmps12
      go_wp2_with first
        | (go_at_call 17; refine (tally_malformed _ _ _ h).mono ?_; rintro e w1 ⟨rfl, h1, h2⟩)
        | (go_at_call 18; refine (tally_oversized _ _ _ h).mono ?_; rintro e w1 ⟨rfl, h1, h2⟩)
        | (go_at_call 19; refine (tally_refused _ _ _ h).mono ?_; rintro e w1 ⟨rfl, h1, h2⟩)
        | (go_at_call 20; refine (tally_mismatch _ _ _ h).mono ?_; rintro e w1 ⟨rfl, h1, h2⟩)
        | (go_at_call 16; refine (tally_stray _ _ _ h).mono ?_; rintro e w1 ⟨rfl, h1, h2⟩)
        | (go_at_call 21; refine (tally_dropped _ _ _ h).mono ?_; rintro e w1 ⟨rfl, h1, h2⟩)
        | (go_at_call 22; refine (tally_quota _ _ _ h).mono ?_; rintro e w1 ⟨rfl, h1, h2⟩)
      go_end0
      exact ⟨rfl, counted_at h1 (by decide), h2⟩)
  · have hc : counted c k = c := if_neg hk
    have n0 : ¬ k = 0 := by omega
    have n1 : ¬ k = 1 := by omega
    have n2 : ¬ k = 2 := by omega
    have n3 : ¬ k = 3 := by omega
    have n4 : ¬ k = 4 := by omega
    have n5 : ¬ k = 5 := by omega
    have n6 : ¬ k = 6 := by omega
    go_enter Try.func12, Try.ntmps12
    go_wp2
    go_end0
    exact ⟨rfl, by first | (rw [hc]; exact h) | exact h, grownBy_drewN w 0 _⟩

theorem count_nil (k : Int) (w : World) (h0 : 0 ≤ k) :
    Calls Try.prog 12 #[.pointer none, .int .i64 k] w fun e w' => e = .returned (.tuple #[]) ∧ w.grownBy w' none := by
  by_cases hk : k < 7
  · obtain rfl | rfl | rfl | rfl | rfl | rfl | rfl : k = 0 ∨ k = 1 ∨ k = 2 ∨ k = 3 ∨ k = 4 ∨ k = 5 ∨ k = 6 := by omega
    all_goals (
      go_enter Try.func12, Try.ntmps12
      go_wp2_with first
        | (go_at_call 17; refine (tally_malformed_nil _).mono ?_; rintro e w1 ⟨rfl, h2⟩)
        | (go_at_call 18; refine (tally_oversized_nil _).mono ?_; rintro e w1 ⟨rfl, h2⟩)
        | (go_at_call 19; refine (tally_refused_nil _).mono ?_; rintro e w1 ⟨rfl, h2⟩)
        | (go_at_call 20; refine (tally_mismatch_nil _).mono ?_; rintro e w1 ⟨rfl, h2⟩)
        | (go_at_call 16; refine (tally_stray_nil _).mono ?_; rintro e w1 ⟨rfl, h2⟩)
        | (go_at_call 21; refine (tally_dropped_nil _).mono ?_; rintro e w1 ⟨rfl, h2⟩)
        | (go_at_call 22; refine (tally_quota_nil _).mono ?_; rintro e w1 ⟨rfl, h2⟩)
      go_end0
      exact ⟨rfl, h2⟩)
  · have n0 : ¬ k = 0 := by omega
    have n1 : ¬ k = 1 := by omega
    have n2 : ¬ k = 2 := by omega
    have n3 : ¬ k = 3 := by omega
    have n4 : ¬ k = 4 := by omega
    have n5 : ¬ k = 5 := by omega
    have n6 : ¬ k = 6 := by omega
    go_enter Try.func12, Try.ntmps12
    go_wp2
    go_end0
    exact ⟨rfl, grownBy_drewN w 0 _⟩

theorem awake_any (w : World) :
    Calls Try.prog 11 #[] w fun e w' => e = .returned (.bool true) ∧ Below w.heap.size w w' := by
  have h0 : TallyAt (w.alloc (.cells #[.int .i64 0, .int .i64 0, .int .i64 0, .int .i64 0, .int .i64 0, .int .i64 0, .int .i64 0] 31)) w.heap.size [0, 0, 0, 0, 0, 0, 0] := ⟨rfl, by simp, heap_alloc_new _ _⟩
  have hb0 : Below w.heap.size w (w.alloc (.cells #[.int .i64 0, .int .i64 0, .int .i64 0, .int .i64 0, .int .i64 0, .int .i64 0, .int .i64 0] 31)) := (Below.refl _ _).alloc (Nat.le_refl _) _
  have hsz : w.heap.size ≤ (w.alloc (.cells #[.int .i64 0, .int .i64 0, .int .i64 0, .int .i64 0, .int .i64 0, .int .i64 0, .int .i64 0] 31)).heap.size := by simp
  have hfd : ∀ w : World, (Instr.field 29 (.agg #[.int .i64 0, .int .i64 0, .int .i64 0, .int .i64 0, .int .i64 1, .int .i64 0, .int .i64 0]) 4).run Try.prog w = .ok (.int .i64 1) w := fun _ => by kernel_rfl
  go_enter Try.func11, Try.ntmps11
  go_wp2_with first
    | (go_at_call 16; refine (tally_stray _ _ _ h0).mono ?_; rintro e w1 ⟨rfl, h1, h2⟩)
    | (go_at_call 7; refine (add_any _ _ _ _ _ (by decide) (by decide) (by decide) (by decide)).mono ?_; rintro e w2 ⟨rfl, rfl⟩; rw [show satAdd 250 10 0 255 = 255 by decide])
    | (go_at_call 9; refine (up_any _ _ (by decide) (by decide)).mono ?_; rintro e w2 ⟨rfl, rfl⟩; rw [show satAdd 3 1 0 1000 = 4 by decide])
    | (go_at_call 14; (refine (all_any _ _ _ h1).mono ?_; rintro e w2 ⟨rfl, h3⟩; rw [show agg (bump [0, 0, 0, 0, 0, 0, 0] 4) = .agg #[.int .i64 0, .int .i64 0, .int .i64 0, .int .i64 0, .int .i64 1, .int .i64 0, .int .i64 0] by kernel_rfl]))
  go_ret
  exact ⟨rfl, ((hb0.grown h2 hsz (fun k hk => by cases hk; exact Nat.le_refl _)).grown h3 (Nat.le_trans hsz h2.size) (fun k hk => by cases hk))⟩

theorem adds_any (n d least most : Int) (w : World) (hn1 : -9223372036854775808 ≤ n) (hn2 : n ≤ 9223372036854775807) (hd1 : -9223372036854775808 ≤ d) (hd2 : d ≤ 9223372036854775807)
    (hm1 : -9223372036854775808 ≤ most) (hm2 : most ≤ 9223372036854775807) (hl1 : -9223372036854775808 ≤ least) (hl2 : least ≤ 9223372036854775807) :
    Calls Try.prog 3 #[.int .i64 n, .int .i64 d, .int .i64 least, .int .i64 most] w fun e w' => e = .returned (.bool true) ∧ Below w.heap.size w w' := by
  go_enter Try.func3, Try.ntmps3
  go_wp2_with first
    | (go_at_call 7; refine (add_any _ _ _ _ _ hn1 hn2 hd1 hd2).mono ?_; rintro e w2 ⟨rfl, rfl⟩)
    | (go_at_call 8; refine (ref_add_any _ _ _ _ _ hn1 hn2 hd1 hd2 hm1 hm2 hl1 hl2).mono ?_; rintro e w2 ⟨rfl, rfl⟩)
    | (go_at_call 9; refine (up_any _ _ hn1 hn2).mono ?_; rintro e w2 ⟨rfl, rfl⟩)
    | (go_at_call 10; refine (ref_up_any _ _ hn1 hn2).mono ?_; rintro e w2 ⟨rfl, rfl⟩)
    | (go_at_call 11; refine (awake_any _).mono ?_; rintro e w2 ⟨rfl, h2⟩)
  go_ret
  exact ⟨rfl, h2⟩

end Go.Proofs.Ytnkmefgmppkbeaa.sat
