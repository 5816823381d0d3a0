/- Package score: what each call answers, and what it does to the scores. -/
import Derived.Test.YtcgnadihjbdolaaSatAdd
import Derived.Test.YtcgnadihjbdolaaObj
import Derived.Lib.SmallJoins
import Derived.WalkSmall
import Derived.Deep.QuietTactic
import Derived.BigQuiet
namespace Go.Proofs.Ytcgnadihjbdolaa.score
open Go.RowKit
open Go.Proofs.Ytcgnadihjbdolaa.stepkit Go.Proofs.Ytcgnadihjbdolaa.row Go.Proofs.Ytcgnadihjbdolaa.mix Go.Proofs.Ytcgnadihjbdolaa.obj Go.Proofs.Ytcgnadihjbdolaa.sat

/-- The scores as cells. -/
def ints (s : List Int) : List Value := s.map (Value.int .i64)
def board (s : List Int) (self : Nat) : Array Value := (ints s ++ [Value.int .i64 (self : Int), Value.bool true]).toArray
/-- Scores within the limits. -/
def OkS (s : List Int) : Prop := s.length = 6 ∧ ∀ k, -100 ≤ s.getD k 0 ∧ s.getD k 0 ≤ 100

def BoardAt (p : Nat) (s : List Int) (self : Nat) : (Nat → Prop) → World → Prop := BoxAt p (board s self) 45
theorem local_board (p : Nat) (s : List Int) (self : Nat) : Local (BoardAt p s self) := local_box _ _ _

theorem board_cells {p : Nat} {s : List Int} {self : Nat} {F : Nat → Prop} {w : World} (h : BoardAt p s self F w) (hs : s.length = 6) :
    (∀ k, k < 6 → w.cell? ⟨p, k, none⟩ = some (.int .i64 (s.getD k 0))) ∧ w.cell? ⟨p, 6, none⟩ = some (.int .i64 (self : Int)) ∧ w.cell? ⟨p, 7, none⟩ = some (.bool true) := by
  obtain ⟨h, _⟩ := h
  obtain ⟨a, b, c, d, e, f, rfl⟩ : ∃ a b c d e f, s = [a, b, c, d, e, f] := by
    match s, hs with
    | [a, b, c, d, e, f], _ => exact ⟨a, b, c, d, e, f, rfl⟩
  refine ⟨fun k hk => ?_, ?_, ?_⟩
  · obtain rfl | rfl | rfl | rfl | rfl | rfl : k = 0 ∨ k = 1 ∨ k = 2 ∨ k = 3 ∨ k = 4 ∨ k = 5 := by omega
    all_goals simp [World.cell?, h, board, ints]
  · simp [World.cell?, h, board, ints]
  · simp [World.cell?, h, board, ints]
theorem board_free {p : Nat} {s : List Int} {self : Nat} {F : Nat → Prop} {w : World} (h : BoardAt p s self F w) (k : Nat) : w.frozen? ⟨p, k, none⟩ = false := by
  obtain ⟨h, _⟩ := h
  simp [World.frozen?, h]
theorem board_set (s : List Int) (self k : Nat) (v : Int) (hs : s.length = 6) (hk : k < 6) : (board s self).setIfInBounds k (.int .i64 v) = board (s.set k v) self := by
  obtain ⟨a, b, c, d, e, f, rfl⟩ : ∃ a b c d e f, s = [a, b, c, d, e, f] := by
    match s, hs with
    | [a, b, c, d, e, f], _ => exact ⟨a, b, c, d, e, f, rfl⟩
  obtain rfl | rfl | rfl | rfl | rfl | rfl : k = 0 ∨ k = 1 ∨ k = 2 ∨ k = 3 ∨ k = 4 ∨ k = 5 := by omega
  all_goals rfl

theorem none_no (p : Nat) (w : World) (h : w.cell? ⟨p, 7, none⟩ = some (.bool true)) :
    Calls Try.prog 16 #[.pointer (some ⟨p, 0, none⟩)] w fun e w' => e = .returned (.bool false) ∧ w = w' := by
  go_enter Try.func16, Try.ntmps16
  go_wp2
  go_ret
  exact ⟨rfl, rfl⟩
theorem none_zero (p : Nat) (w : World) (h : w.cell? ⟨p, 7, none⟩ = some (.bool false)) :
    Calls Try.prog 16 #[.pointer (some ⟨p, 0, none⟩)] w fun e w' => e = .returned (.bool true) ∧ w = w' := by
  go_enter Try.func16, Try.ntmps16
  go_wp2
  go_ret
  exact ⟨rfl, rfl⟩
theorem none_nil (w : World) :
    Calls Try.prog 16 #[.pointer none] w fun e w' => e = .returned (.bool true) ∧ w = w' := by
  go_enter Try.func16, Try.ntmps16
  go_wp2
  go_ret
  exact ⟨rfl, rfl⟩

/-- Is it a peer? -/
def isB (self : Nat) (p : Int) : Bool := decide (0 ≤ p ∧ p < 6 ∧ p ≠ (self : Int))
theorem isB_iff {self : Nat} {p : Int} : isB self p = true ↔ 0 ≤ p ∧ p < 6 ∧ p ≠ (self : Int) := by simp [isB]
theorem isB_no {self : Nat} {p : Int} : isB self p = false ↔ ¬ (0 ≤ p ∧ p < 6 ∧ p ≠ (self : Int)) := by simp [isB]
attribute [irreducible] isB

theorem is_any (p : Nat) (s : List Int) (self : Nat) (hs : s.length = 6) (x : Int) (F : Nat → Prop) (w : World) (h : BoardAt p s self F w) :
    Calls Try.prog 10 #[.pointer (some ⟨p, 0, none⟩), .int .i64 x] w fun e w' => e = .returned (.bool (isB self x)) ∧ w = w' := by
  obtain ⟨_, c6, c7⟩ := board_cells h hs
  clear h
  by_cases h0 : 0 ≤ x
  · by_cases h1 : x < 6
    · by_cases h2 : x = (self : Int)
      · have hb : isB self x = false := isB_no.2 (fun h => h.2.2 h2)
        rw [hb]
        subst h2
        go_enter Try.func10, Try.ntmps10
        go_wp2_with (go_at_call 16; refine (none_no _ _ c7).mono ?_; rintro e w' ⟨rfl, rfl⟩)
        go_ret
        exact ⟨rfl, rfl⟩
      · have hb : isB self x = true := isB_iff.2 ⟨h0, h1, h2⟩
        rw [hb]
        have h3 : (x != (self : Int)) = true := by simpa using h2
        go_enter Try.func10, Try.ntmps10
        go_wp2_with (go_at_call 16; refine (none_no _ _ c7).mono ?_; rintro e w' ⟨rfl, rfl⟩)
        go_ret
        exact ⟨rfl, rfl⟩
    · have hb : isB self x = false := isB_no.2 (fun h => h1 h.2.1)
      rw [hb]
      have h3 : decide (x < 6) = false := by simpa using h1
      go_enter Try.func10, Try.ntmps10
      go_wp2_with (go_at_call 16; refine (none_no _ _ c7).mono ?_; rintro e w' ⟨rfl, rfl⟩)
      go_ret
      exact ⟨rfl, rfl⟩
  · have hb : isB self x = false := isB_no.2 (fun h => h0 h.1)
    rw [hb]
    have h3 : decide (0 ≤ x) = false := by simpa using h0
    go_enter Try.func10, Try.ntmps10
    go_wp2_with (go_at_call 16; refine (none_no _ _ c7).mono ?_; rintro e w' ⟨rfl, rfl⟩)
    go_ret
    exact ⟨rfl, rfl⟩

theorem ref_is (self : Nat) (x : Int) (w : World) :
    Calls Try.prog 9 #[.int .i64 (self : Int), .int .i64 x] w fun e w' => e = .returned (.bool (isB self x)) ∧ w = w' := by
  by_cases h0 : 0 ≤ x
  · by_cases h1 : x < 6
    · by_cases h2 : x = (self : Int)
      · have hb : isB self x = false := isB_no.2 (fun h => h.2.2 h2)
        rw [hb]
        subst h2
        go_enter Try.func9, Try.ntmps9
        go_wp2
        go_ret
        exact ⟨rfl, rfl⟩
      · have hb : isB self x = true := isB_iff.2 ⟨h0, h1, h2⟩
        rw [hb]
        have h3 : (x != (self : Int)) = true := by simpa using h2
        go_enter Try.func9, Try.ntmps9
        go_wp2
        go_ret
        exact ⟨rfl, rfl⟩
    · have hb : isB self x = false := isB_no.2 (fun h => h1 h.2.1)
      rw [hb]
      have h3 : decide (x < 6) = false := by simpa using h1
      go_enter Try.func9, Try.ntmps9
      go_wp2
      go_ret
      exact ⟨rfl, rfl⟩
  · have hb : isB self x = false := isB_no.2 (fun h => h0 h.1)
    rw [hb]
    have h3 : decide (0 ≤ x) = false := by simpa using h0
    go_enter Try.func9, Try.ntmps9
    go_wp2
    go_ret
    exact ⟨rfl, rfl⟩

theorem new_bad (self : Int) (w : World) (h : self < 0 ∨ 6 ≤ self) :
    Calls Try.prog 6 #[.int .i64 self] w fun e w' => e = .returned (.tuple #[.pointer none, .int .i64 1]) ∧ w = w' := by
  rcases h with h | h
  · have h1 : decide (self < 0) = true := by simpa using h
    go_enter Try.func6, Try.ntmps6
    go_wp2
    go_ret2
    exact ⟨rfl, rfl⟩
  · have h1 : decide (self < 0) = false := by simp; omega
    have h2 : decide (6 ≤ self) = true := by simpa using h
    go_enter Try.func6, Try.ntmps6
    go_wp2
    go_ret2
    exact ⟨rfl, rfl⟩

def nought : List Int := [0, 0, 0, 0, 0, 0]
theorem nought_ok : OkS nought := ⟨rfl, fun k => by
  rcases Nat.lt_or_ge k 6 with h | h
  · obtain rfl | rfl | rfl | rfl | rfl | rfl : k = 0 ∨ k = 1 ∨ k = 2 ∨ k = 3 ∨ k = 4 ∨ k = 5 := by omega
    all_goals simp [nought]
  · simp [nought, List.getD, h]⟩

theorem new_ok (self : Nat) (w : World) (h : self < 6) :
    Calls Try.prog 6 #[.int .i64 (self : Int)] w fun e w' => e = .returned (.tuple #[.pointer (some ⟨w.heap.size, 0, none⟩), .int .i64 0]) ∧ w' = w.alloc (.cells (board nought self) 45) := by
  have h1 : decide ((self : Int) < 0) = false := by simp
  have h2 : decide (6 ≤ (self : Int)) = false := by simp; omega
  go_enter Try.func6, Try.ntmps6
  go_wp2
  go_ret2
  exact ⟨rfl, rfl⟩

theorem score_any (p : Nat) (s : List Int) (self : Nat) (hs : s.length = 6) (x : Int) (F : Nat → Prop) (w : World) (h : BoardAt p s self F w) :
    Calls Try.prog 14 #[.pointer (some ⟨p, 0, none⟩), .int .i64 x] w fun e w' => e = .returned (.int .i64 (bif isB self x then s.getD x.toNat 0 else 0)) ∧ w = w' := by
  have hi := is_any p s self hs x F w h
  obtain ⟨hc, _, _⟩ := board_cells h hs
  clear h
  cases hb : isB self x with
  | false =>
    rw [hb] at hi
    clear hb hc
    go_enter Try.func14, Try.ntmps14
    go_wp2_with (go_at_call 10; refine hi.mono ?_; rintro e w' ⟨rfl, rfl⟩)
    go_ret
    exact ⟨rfl, rfl⟩
  | true =>
    rw [hb] at hi
    obtain ⟨h0, h1, _⟩ := isB_iff.1 hb
    obtain ⟨k, rfl⟩ : ∃ k : Nat, x = k := ⟨x.toNat, by omega⟩
    have hk := hc k (by omega)
    clear hb hc
    go_enter Try.func14, Try.ntmps14
    go_wp2_with (go_at_call 10; refine hi.mono ?_; rintro e w' ⟨rfl, rfl⟩)
    go_ret
    exact ⟨rfl, rfl⟩

end Go.Proofs.Ytcgnadihjbdolaa.score
