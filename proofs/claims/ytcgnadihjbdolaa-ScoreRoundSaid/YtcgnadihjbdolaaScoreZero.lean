/- ScoreZero: what one answers that nobody made; awake. -/
import Derived.Test.YtcgnadihjbdolaaScorePick
namespace Go.Proofs.Ytcgnadihjbdolaa.score
open Go.RowKit
open Go.Proofs.Ytcgnadihjbdolaa.stepkit Go.Proofs.Ytcgnadihjbdolaa.row Go.Proofs.Ytcgnadihjbdolaa.mix Go.Proofs.Ytcgnadihjbdolaa.obj Go.Proofs.Ytcgnadihjbdolaa.sat

def five : List Int := [0, 0, 5, 0, 0, 0]
theorem turned_five : nought.set 2 (satAdd (nought.getD 2 0) 5 (-100) 100) = five := by decide +kernel
theorem pick_five : pick five 0 (peersN 0 6) = some 2 := by decide +kernel
theorem pick_five4 : pick five 4 (peersN 0 6) = some 1 := by decide +kernel
theorem is_two : isB 0 ((2 : Nat) : Int) = true := by decide +kernel

theorem board_new {self : Nat} {w w1 : World} (h : w1 = w.alloc (.cells (board nought self) 45)) : ∃ F, Duo w.heap.size w (BoardAt w.heap.size nought self) nothing F nobody w1 := by
  refine ⟨fun i => i = w.heap.size, ⟨by rw [h]; exact heap_alloc_new _ _, rfl⟩, rfl, fun _ _ h => h, fun i hi => by rw [hi]; exact Nat.le_refl _, fun i hi => hi.elim, ?_, by rw [h]; simp⟩
  rw [h]; exact (Below.refl _ _).alloc (Nat.le_refl _) _

theorem turn_lit (p : Nat) (F : Nat → Prop) (w : World) (h : BoardAt p nought 0 F w) :
    Calls Try.prog 8 #[.pointer (some ⟨p, 0, none⟩), .int .i64 2, .int .i64 5] w fun e w' => e = .returned (.int .i64 0) ∧ Step F (BoardAt p five 0) w w' := by
  have := turn_ok p nought 0 nought_ok 2 5 F w h is_two (by omega) (by omega)
  rw [turned_five] at this
  exact this
theorem new_lit (w : World) :
    Calls Try.prog 6 #[.int .i64 0] w fun e w' => e = .returned (.tuple #[.pointer (some ⟨w.heap.size, 0, none⟩), .int .i64 0]) ∧ w' = w.alloc (.cells (board nought 0) 45) := new_ok 0 w (by omega)
theorem five_ok : OkS five := by
  have := OkS.set nought_ok 2 (v := 5) (by omega) (by omega)
  exact this
theorem best_lit0 (p : Nat) (F : Nat → Prop) (w : World) (h : BoardAt p five 0 F w) :
    Calls Try.prog 12 #[.pointer (some ⟨p, 0, none⟩), .int .i64 0] w fun e w' => e = .returned (.tuple #[.int .i64 2, .bool true]) ∧ Turns nobody w w' := by
  have := best_any p five 0 five_ok 0 F w h
  rw [pick_five] at this
  exact this
theorem best_lit4 (p : Nat) (F : Nat → Prop) (w : World) (h : BoardAt p five 0 F w) :
    Calls Try.prog 12 #[.pointer (some ⟨p, 0, none⟩), .int .i64 4] w fun e w' => e = .returned (.tuple #[.int .i64 1, .bool true]) ∧ Turns nobody w w' := by
  have := best_any p five 0 five_ok 4 F w h
  rw [pick_five4] at this
  exact this

theorem awake_any (w : World) :
    Calls Try.prog 7 #[] w fun e w' => e = .returned (.bool true) ∧ Below w.heap.size w w' := by
  obtain ⟨B, hB⟩ : ∃ B, w.heap.size = B := ⟨_, rfl⟩
  rw [hB]
  go_enter Try.func7, Try.ntmps7
  go_wp2_with (go_at_call 6; refine (new_lit _).mono ?_; rintro e w1 ⟨rfl, hw1⟩; obtain ⟨F, hd⟩ := board_new hw1; rw [hB] at hd ⊢; clear hw1 hB)
  refine (turn_lit B F w1 hd.a).mono ?_
  rintro e w2 ⟨rfl, hs⟩
  obtain ⟨F2, hd2⟩ := hd.left local_nothing hs
  clear hs hd
  go_wp2_with fail
  refine (best_lit0 B F2 w2 hd2.a).mono ?_
  rintro e w3 ⟨rfl, ht⟩
  have hd3 := hd2.still (local_board _ _ _) local_nothing ht
  clear ht hd2
  go_wp2_with fail
  refine (best_lit4 B F2 w3 hd3.a).mono ?_
  rintro e w4 ⟨rfl, ht⟩
  have hd4 := hd3.still (local_board _ _ _) local_nothing ht
  clear ht hd3
  go_wp2_with fail
  go_ret
  exact ⟨rfl, hd4.below⟩

/-- Nobody made it. -/
def ZeroAt (v : Value) (w : World) : Prop := v = .pointer none ∨ ∃ b, v = .pointer (some ⟨b, 0, none⟩) ∧ w.heap[b]? = some (.cells #[.int .i64 0, .int .i64 0, .int .i64 0, .int .i64 0, .int .i64 0, .int .i64 0, .int .i64 0, .bool false] 45 (0, 0))

theorem ZeroAt.turns {v : Value} {w w' : World} (h : ZeroAt v w) (ht : Turns nobody w w') : ZeroAt v w' := by
  rcases h with h | ⟨b, h1, h2⟩
  · exact Or.inl h
  · exact Or.inr ⟨b, h1, heap_newer h2 ht (fun h => h)⟩

theorem none_at {v : Value} {w : World} (h : ZeroAt v w) : Calls Try.prog 16 #[v] w fun e w' => e = .returned (.bool true) ∧ w = w' := by
  rcases h with rfl | ⟨b, rfl, h2⟩
  · exact none_nil w
  · exact none_zero b w (by simp [World.cell?, h2])

theorem zero_is {v : Value} {w : World} (x : Int) (h : ZeroAt v w) : Calls Try.prog 10 #[v, .int .i64 x] w fun e w' => e = .returned (.bool false) ∧ w = w' := by
  have hn := none_at h
  clear h
  go_enter Try.func10, Try.ntmps10
  go_wp2_with (go_at_call 16; refine hn.mono ?_; rintro e w' ⟨rfl, rfl⟩)
  go_ret
  exact ⟨rfl, rfl⟩
theorem zero_turn {v : Value} {w : World} (x d : Int) (h : ZeroAt v w) : Calls Try.prog 8 #[v, .int .i64 x, .int .i64 d] w fun e w' => e = .returned (.int .i64 8) ∧ w = w' := by
  have hn := none_at h
  clear h
  go_enter Try.func8, Try.ntmps8
  go_wp2_with (go_at_call 16; refine hn.mono ?_; rintro e w' ⟨rfl, rfl⟩)
  go_ret
  exact ⟨rfl, rfl⟩
theorem zero_score {v : Value} {w : World} (x : Int) (h : ZeroAt v w) : Calls Try.prog 14 #[v, .int .i64 x] w fun e w' => e = .returned (.int .i64 0) ∧ w = w' := by
  have hn := zero_is x h
  clear h
  go_enter Try.func14, Try.ntmps14
  go_wp2_with (go_at_call 10; refine hn.mono ?_; rintro e w' ⟨rfl, rfl⟩)
  go_ret
  exact ⟨rfl, rfl⟩
theorem zero_peers {v : Value} {w : World} (h : ZeroAt v w) : Calls Try.prog 15 #[v] w fun e w' => e = .returned (.slice none 0 0) ∧ w = w' := by
  have hn := fun x => zero_is x h
  clear h
  go_enter Try.func15, Try.ntmps15
  go_wp2
  go_loop [5, 3] (fun i o => ∃ k : Nat, k ≤ 6 ∧ i = .int .i64 k ∧ o = .slice none 0 0) (fun i _ => 6 - (intOf i).toNat)
  case atStart => exact ⟨0, by omega, rfl, rfl⟩
  case round =>
    obtain ⟨k, hk, rfl, rfl⟩ := hrel
    by_cases hlt : k < 6
    · go_wp2_with (go_at_call 10; refine (hn _).mono ?_; rintro e w' ⟨rfl, rfl⟩)
      go_round
      case rel => exact ⟨k + 1, by omega, by go_num, rfl⟩
      case measure => simp [intOf]; omega
    · obtain rfl : k = 6 := by omega
      go_wp2
      go_ret
      exact ⟨rfl, rfl⟩
theorem zero_best {v : Value} {w : World} (h : ZeroAt v w) : Calls Try.prog 12 #[v, .int .i64 0] w fun e w' => e = .returned (.tuple #[.int .i64 0, .bool false]) ∧ w = w' := by
  have hn := zero_peers h
  clear h
  go_enter Try.func12, Try.ntmps12
  go_wp2_with (go_at_call 15; refine hn.mono ?_; rintro e w' ⟨rfl, rfl⟩)
  refine wp_loop_rounds 1 ?_
  rw [rounds_succ]
  go_wp2
  go_ret2
  exact ⟨rfl, rfl⟩

set_option maxRecDepth 10000 in
set_option maxHeartbeats 1000000 in
theorem zero_any (x d : Int) (w : World) :
    Calls Try.prog 5 #[.int .i64 x, .int .i64 d] w fun e w' => e = .returned (.bool true) ∧ Below w.heap.size w w' := by
  have hz : ZeroAt (.pointer (some ⟨w.heap.size, 0, none⟩)) (w.alloc (.cells #[.int .i64 0, .int .i64 0, .int .i64 0, .int .i64 0, .int .i64 0, .int .i64 0, .int .i64 0, .bool false] 45)) := Or.inr ⟨_, rfl, heap_alloc_new _ _⟩
  have ht := (Turns.refl nobody w).alloc (.cells #[.int .i64 0, .int .i64 0, .int .i64 0, .int .i64 0, .int .i64 0, .int .i64 0, .int .i64 0, .bool false] 45)
  go_enter Try.func5, Try.ntmps5
  go_wp2_with first
    | (go_at_call 12; (first | with_reducible refine (zero_best hz).mono ?_ | refine (zero_best (Or.inl rfl)).mono ?_); rintro e w' ⟨rfl, rfl⟩)
    | (go_at_call 8; (first | with_reducible refine (zero_turn x d hz).mono ?_ | refine (zero_turn x d (Or.inl rfl)).mono ?_); rintro e w' ⟨rfl, rfl⟩)
    | (go_at_call 10; (first | with_reducible refine (zero_is x hz).mono ?_ | refine (zero_is x (Or.inl rfl)).mono ?_); rintro e w' ⟨rfl, rfl⟩)
    | (go_at_call 14; (first | with_reducible refine (zero_score x hz).mono ?_ | refine (zero_score x (Or.inl rfl)).mono ?_); rintro e w' ⟨rfl, rfl⟩)
    | (go_at_call 15; (first | with_reducible refine (zero_peers hz).mono ?_ | refine (zero_peers (Or.inl rfl)).mono ?_); rintro e w' ⟨rfl, rfl⟩)
    | (go_at_call 7; refine (awake_any _).mono ?_; rintro e w6 ⟨rfl, hw6⟩)
  go_ret
  exact ⟨rfl, (ht.below (Nat.le_refl _) (fun _ h => h.elim)).trans (hw6.mono ht.size)⟩

end Go.Proofs.Ytcgnadihjbdolaa.score
