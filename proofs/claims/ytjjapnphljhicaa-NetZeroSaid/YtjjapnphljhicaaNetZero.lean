/- NetZero: what one answers that nobody made. -/
import Derived.Test.YtjjapnphljhicaaNetBoth
namespace Go.Proofs.Ytjjapnphljhicaa.net
open Go.RowKit
open Go.Proofs.Ytjjapnphljhicaa.stepkit Go.Proofs.Ytjjapnphljhicaa.row Go.Proofs.Ytjjapnphljhicaa.mix Go.Proofs.Ytjjapnphljhicaa.obj Go.Proofs.Ytjjapnphljhicaa.eqkit

/-- Nobody made it. -/
def ZeroAt (v : Value) (w : World) : Prop := v = .pointer none ∨ ∃ b, v = .pointer (some ⟨b, 0, none⟩) ∧ w.heap[b]? = some (.cells #[.slice none 0 0, .int .i64 0, .bool false] 52 (0, 0))

theorem ZeroAt.turns {v : Value} {w w' : World} (h : ZeroAt v w) (ht : Turns nobody w w') : ZeroAt v w' := by
  rcases h with h | ⟨b, h1, h2⟩
  · exact Or.inl h
  · exact Or.inr ⟨b, h1, heap_newer h2 ht (fun h => h)⟩

theorem none_at {v : Value} {w : World} (h : ZeroAt v w) : Calls Try.prog 19 #[v] w fun e w' => e = .returned (.bool true) ∧ w = w' := by
  rcases h with rfl | ⟨b, rfl, h2⟩
  · exact none_nil w
  · exact none_zero b w (cells_of h2 2 _ rfl)

theorem zero_place {v : Value} {w : World} (k : Int) (h : ZeroAt v w) : Calls Try.prog 20 #[v, .int .i64 k] w fun e w' => e = .returned (.tuple #[.int .i64 0, .int .i64 8]) ∧ w = w' := by
  have hn := none_at h
  clear h
  go_enter Try.func20, Try.ntmps20
  go_wp2_with (go_at_call 19; refine hn.mono ?_; rintro e w' ⟨rfl, rfl⟩)
  go_ret2
  exact ⟨rfl, rfl⟩
theorem zero_deliver {v : Value} {w : World} (k : Int) (h : ZeroAt v w) : Calls Try.prog 10 #[v, .int .i64 k] w fun e w' => e = .returned (.tuple #[.agg #[.int .i64 0, .int .i64 0, .string ⟨#[]⟩], .int .i64 8]) ∧ Turns nobody w w' :=
  deliver_bad 0 v k 8 w (by decide) fun w' ht => zero_place k (h.turns ht)
theorem zero_double {v : Value} {w : World} (k : Int) (h : ZeroAt v w) : Calls Try.prog 13 #[v, .int .i64 k] w fun e w' => e = .returned (.int .i64 8) ∧ w = w' :=
  double_bad 0 v k 8 w (by decide) (zero_place k h)
theorem zero_put {v : Value} {w : World} (f t : Int) (b : ByteArray) (h : ZeroAt v w) : Calls Try.prog 9 #[v, .agg #[.int .i64 f, .int .i64 t, .string b]] w fun e w' => e = .returned (.int .i64 8) ∧ Turns nobody w w' := by
  have hn := none_at (h.turns ((Turns.refl nobody w).alloc (.cells #[.int .i64 f, .int .i64 t, .string b] 30)))
  clear h
  go_enter Try.func9, Try.ntmps9
  go_wp2_with (go_at_call 19; refine hn.mono ?_; rintro e w' ⟨rfl, rfl⟩)
  go_ret
  exact ⟨rfl, (Turns.refl _ _).alloc _⟩
theorem zero_len {v : Value} {w : World} (h : ZeroAt v w) : Calls Try.prog 11 #[v] w fun e w' => e = .returned (.int .i64 0) ∧ w = w' := by
  have hn := none_at h
  clear h
  go_enter Try.func11, Try.ntmps11
  go_wp2_with (go_at_call 19; refine hn.mono ?_; rintro e w' ⟨rfl, rfl⟩)
  go_ret
  exact ⟨rfl, rfl⟩
theorem zero_lost {v : Value} {w : World} (h : ZeroAt v w) : Calls Try.prog 12 #[v] w fun e w' => e = .returned (.int .i64 0) ∧ w = w' := by
  have hn := none_at h
  clear h
  go_enter Try.func12, Try.ntmps12
  go_wp2_with (go_at_call 19; refine hn.mono ?_; rintro e w' ⟨rfl, rfl⟩)
  go_ret
  exact ⟨rfl, rfl⟩
theorem zero_all {v : Value} {w : World} (h : ZeroAt v w) : Calls Try.prog 18 #[v] w fun e w' => e = .returned (.slice none 0 0) ∧ w = w' := by
  have hn := none_at h
  clear h
  go_enter Try.func18, Try.ntmps18
  go_wp2_with (go_at_call 19; refine hn.mono ?_; rintro e w' ⟨rfl, rfl⟩)
  go_ret
  exact ⟨rfl, rfl⟩

set_option maxRecDepth 10000 in
set_option maxHeartbeats 1000000 in
theorem zero_any (f t : Int) (b : ByteArray) (i : Int) (w : World) :
    Calls Try.prog 6 #[.agg #[.int .i64 f, .int .i64 t, .string b], .int .i64 i] w fun e w' => e = .returned (.bool true) ∧ Below w.heap.size w w' := by
  go_enter Try.func6, Try.ntmps6
  go_wp2_with fail
  obtain ⟨w1, hw1⟩ : ∃ w1, w1 = (w.alloc (.cells #[.int .i64 f, .int .i64 t, .string b] 30)).alloc (.cells #[.slice none 0 0, .int .i64 0, .bool false] 52) := ⟨_, rfl⟩
  have ht : Turns nobody w w1 := by rw [hw1]; exact ((Turns.refl _ _).alloc _).alloc _
  have hz : ZeroAt (.pointer (some ⟨w.heap.size + 1, 0, none⟩)) w1 := Or.inr ⟨_, rfl, by rw [hw1]; exact heap_alloc2_new _ _ _⟩
  have hx : w1.heap[w.heap.size]? = some (.cells #[.int .i64 f, .int .i64 t, .string b] 30 (0, 0)) := by rw [hw1]; exact heap_alloc2_old _ _ _
  rw [← hw1]
  clear hw1
  refine (zero_deliver i (Or.inl rfl)).mono ?_
  rintro e w2 ⟨rfl, h2⟩
  replace h2 := h2.alloc (.cells #[.int .i64 0, .int .i64 0, .string ⟨#[]⟩] 30)
  replace hz := hz.turns h2
  replace hx := heap_newer hx h2 (fun h => h)
  replace ht := ht.trans h2 (fun _ h => h.elim)
  clear h2
  go_wp2_with fail
  refine (zero_deliver i hz).mono ?_
  rintro e w3 ⟨rfl, h2⟩
  replace h2 := h2.alloc (.cells #[.int .i64 0, .int .i64 0, .string ⟨#[]⟩] 30)
  replace hz := hz.turns h2
  replace hx := heap_newer hx h2 (fun h => h)
  replace ht := ht.trans h2 (fun _ h => h.elim)
  clear h2
  have x0 := cells_of hx 0 _ rfl
  have x1 := cells_of hx 1 _ rfl
  have x2 := cells_of hx 2 _ rfl
  go_wp2_with fail
  refine (zero_put f t b (Or.inl rfl)).mono ?_
  rintro e w4 ⟨rfl, h2⟩
  replace hz := hz.turns h2
  replace hx := heap_newer hx h2 (fun h => h)
  replace ht := ht.trans h2 (fun _ h => h.elim)
  clear h2 x0 x1 x2
  have x0 := cells_of hx 0 _ rfl
  have x1 := cells_of hx 1 _ rfl
  have x2 := cells_of hx 2 _ rfl
  go_wp2_with fail
  refine (zero_put f t b hz).mono ?_
  rintro e w5 ⟨rfl, h2⟩
  replace hz := hz.turns h2
  replace ht := ht.trans h2 (fun _ h => h.elim)
  clear h2 x0 x1 x2 hx
  go_wp2_with first
    | (go_at_call 13; (first | with_reducible refine (zero_double i hz).mono ?_ | refine (zero_double i (Or.inl rfl)).mono ?_); rintro e w' ⟨rfl, rfl⟩)
    | (go_at_call 11; (first | with_reducible refine (zero_len hz).mono ?_ | refine (zero_len (Or.inl rfl)).mono ?_); rintro e w' ⟨rfl, rfl⟩)
    | (go_at_call 12; (first | with_reducible refine (zero_lost hz).mono ?_ | refine (zero_lost (Or.inl rfl)).mono ?_); rintro e w' ⟨rfl, rfl⟩)
    | (go_at_call 18; (first | with_reducible refine (zero_all hz).mono ?_ | refine (zero_all (Or.inl rfl)).mono ?_); rintro e w' ⟨rfl, rfl⟩)
    | (go_at_call 8; refine (awake_any _).mono ?_; rintro e w6 ⟨rfl, hw6⟩)
  go_ret
  exact ⟨rfl, (ht.below (Nat.le_refl _) (fun _ h => h.elim)).trans (hw6.mono ht.size)⟩

end Go.Proofs.Ytjjapnphljhicaa.net
