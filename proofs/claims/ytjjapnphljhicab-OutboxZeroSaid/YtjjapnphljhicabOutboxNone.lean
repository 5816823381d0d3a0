/- OutboxZero: the walk. -/
import Derived.Test.YtjjapnphljhicabOutboxZero
import Derived.Deep.CutRange
namespace Go.Proofs.Ytjjapnphljhicab.outbox
open Go.RowKit Go.Conc
open Go.Proofs.Ytjjapnphljhicab.stepkit Go.Proofs.Ytjjapnphljhicab.row Go.Proofs.Ytjjapnphljhicab.mix Go.Proofs.Ytjjapnphljhicab.obj Go.Proofs.Ytjjapnphljhicab.eqkit Go.Proofs.Ytjjapnphljhicab.commkit

theorem put_nil (t : Int) (b : ByteArray) (w : World) : Calls Try.prog 8 #[.pointer none, .agg #[.int .i64 t, .string b]] w fun e w' => e = .returned (.int .i64 8) ∧ Turns nobody w w' := by
  go_enter Try.func8, Try.ntmps8
  go_wp2_with (go_at_call 16; refine (none_nil _).mono ?_; rintro e w' ⟨rfl, rfl⟩)
  go_ret
  exact ⟨rfl, (Turns.refl _ _).alloc _⟩
theorem put_unmade (p : Nat) (t : Int) (b : ByteArray) (w : World) (h : w.heap[p]? = some (.cells #[.chan none, .int .i64 0] 47 (0, 0))) : Calls Try.prog 8 #[.pointer (some ⟨p, 0, none⟩), .agg #[.int .i64 t, .string b]] w fun e w' => e = .returned (.int .i64 8) ∧ Turns nobody w w' := by
  have ht : Turns nobody w _ := (Turns.refl nobody w).alloc (.cells #[.int .i64 t, .string b] 29)
  have c1 := cells_of (heap_newer h ht (fun h => h)) 0 (.chan none) rfl
  clear h
  go_enter Try.func8, Try.ntmps8
  go_wp2_with (go_at_call 16; refine (none_zero _ _ c1).mono ?_; rintro e w' ⟨rfl, rfl⟩)
  go_ret
  exact ⟨rfl, ht⟩

theorem take_nil (n : Int) (w : World) : Calls Try.prog 9 #[.pointer none, .int .i64 n] w fun e w' => e = .returned (.slice none 0 0) ∧ Turns nobody w w' := by
  go_enter Try.func9, Try.ntmps9
  go_wp2_with (go_at_call 16; refine (none_nil _).mono ?_; rintro e w' ⟨rfl, rfl⟩)
  go_ret
  exact ⟨rfl, Turns.refl _ _⟩
theorem take_unmade (p : Nat) (n : Int) (w : World) (h : w.heap[p]? = some (.cells #[.chan none, .int .i64 0] 47 (0, 0))) : Calls Try.prog 9 #[.pointer (some ⟨p, 0, none⟩), .int .i64 n] w fun e w' => e = .returned (.slice none 0 0) ∧ Turns nobody w w' := by
  have ht : Turns nobody w _ := Turns.refl _ _
  have c1 := cells_of (heap_newer h ht (fun h => h)) 0 (.chan none) rfl
  clear h
  go_enter Try.func9, Try.ntmps9
  go_wp2_with (go_at_call 16; refine (none_zero _ _ c1).mono ?_; rintro e w' ⟨rfl, rfl⟩)
  go_ret
  exact ⟨rfl, ht⟩

theorem len_nil (w : World) : Calls Try.prog 15 #[.pointer none] w fun e w' => e = .returned (.int .i64 0) ∧ Turns nobody w w' := by
  go_enter Try.func15, Try.ntmps15
  go_wp2_with (go_at_call 16; refine (none_nil _).mono ?_; rintro e w' ⟨rfl, rfl⟩)
  go_ret
  exact ⟨rfl, Turns.refl _ _⟩
theorem len_unmade (p : Nat) (w : World) (h : w.heap[p]? = some (.cells #[.chan none, .int .i64 0] 47 (0, 0))) : Calls Try.prog 15 #[.pointer (some ⟨p, 0, none⟩)] w fun e w' => e = .returned (.int .i64 0) ∧ Turns nobody w w' := by
  have ht : Turns nobody w _ := Turns.refl _ _
  have c1 := cells_of (heap_newer h ht (fun h => h)) 0 (.chan none) rfl
  clear h
  go_enter Try.func15, Try.ntmps15
  go_wp2_with (go_at_call 16; refine (none_zero _ _ c1).mono ?_; rintro e w' ⟨rfl, rfl⟩)
  go_ret
  exact ⟨rfl, ht⟩

theorem lost_nil (w : World) : Calls Try.prog 10 #[.pointer none] w fun e w' => e = .returned (.int .i64 0) ∧ Turns nobody w w' := by
  go_enter Try.func10, Try.ntmps10
  go_wp2_with (go_at_call 16; refine (none_nil _).mono ?_; rintro e w' ⟨rfl, rfl⟩)
  go_ret
  exact ⟨rfl, Turns.refl _ _⟩
theorem lost_unmade (p : Nat) (w : World) (h : w.heap[p]? = some (.cells #[.chan none, .int .i64 0] 47 (0, 0))) : Calls Try.prog 10 #[.pointer (some ⟨p, 0, none⟩)] w fun e w' => e = .returned (.int .i64 0) ∧ Turns nobody w w' := by
  have ht : Turns nobody w _ := Turns.refl _ _
  have c1 := cells_of (heap_newer h ht (fun h => h)) 0 (.chan none) rfl
  clear h
  go_enter Try.func10, Try.ntmps10
  go_wp2_with (go_at_call 16; refine (none_zero _ _ c1).mono ?_; rintro e w' ⟨rfl, rfl⟩)
  go_ret
  exact ⟨rfl, ht⟩

set_option maxRecDepth 10000 in
set_option maxHeartbeats 1000000 in
theorem zero_any (t : Int) (b : ByteArray) (n : Int) (w : World) : Calls Try.prog 6 #[.agg #[.int .i64 t, .string b], .int .i64 n] w fun e w' => e = .returned (.bool true) ∧ Below w.heap.size w w' := by
  obtain ⟨w1, hw1⟩ : ∃ w1, w1 = w.alloc (.cells #[.int .i64 t, .string b] 29) := ⟨_, rfl⟩
  have ht1 : Turns nobody w w1 := by rw [hw1]; exact (Turns.refl _ _).alloc _
  have hb1 : w1.heap[w.heap.size]? = some (.cells #[.int .i64 t, .string b] 29 (0, 0)) := by rw [hw1]; exact heap_alloc_new w _
  obtain ⟨w2, hw2⟩ : ∃ w2, w2 = w1.alloc (.cells #[.chan none, .int .i64 0] 47) := ⟨_, rfl⟩
  have ht2 : Turns nobody w1 w2 := by rw [hw2]; exact (Turns.refl _ _).alloc _
  have e1 : w1.heap.size = w.heap.size + 1 := by rw [hw1]; simp
  have hb2 := heap_newer hb1 ht2 (fun h => h)
  have hz2 : w2.heap[w1.heap.size]? = some (.cells #[.chan none, .int .i64 0] 47 (0, 0)) := by rw [hw2]; exact heap_alloc_new w1 _
  rw [e1] at hz2
  have HX : Hid (∀ W, Turns nobody w2 W → W.cell? ⟨w.heap.size, 0, none⟩ = some (.int .i64 t) ∧ W.cell? ⟨w.heap.size, 1, none⟩ = some (.string b)) := Lib.hid fun W h => by
    have hh := heap_newer hb2 h (fun h => h)
    exact ⟨cells_of hh 0 _ rfl, cells_of hh 1 _ rfl⟩
  have HZ : Hid (∀ W, Turns nobody w2 W → W.heap[w.heap.size + 1]? = some (.cells #[.chan none, .int .i64 0] 47 (0, 0))) := Lib.hid fun W h => heap_newer hz2 h (fun h => h)
  have H0 := Lib.hid (ht1.trans ht2 (fun _ h => False.elim h))
  have W1 := Lib.hid hw1
  have W2 := Lib.hid hw2
  have hT := Turns.refl nobody w2
  have fin : ∀ W, Turns nobody w2 W → Below w.heap.size w W := fun W h => (H0.out.trans h (fun _ h => False.elim h)).below (Nat.le_refl _) (fun _ h => False.elim h)
  obtain ⟨x0, x1⟩ := HX.out _ hT
  clear e1 hw1 hw2 ht1 ht2 hb1 hb2 hz2
  go_enter Try.func6, Try.ntmps6
  go_upto_region 3 with fail
  rw [← W1.out, ← W2.out]
  go_wp2_with first
    | (go_at_call 8; (with_reducible refine (put_nil _ _ _).mono ?_); rintro e w' ⟨rfl, g⟩; replace hT := hT.trans g (fun _ h => False.elim h); clear x0 x1; obtain ⟨x0, x1⟩ := HX.out _ hT; clear g)
    | (go_at_call 8; (with_reducible refine (put_unmade _ _ _ _ (HZ.out _ hT)).mono ?_); rintro e w' ⟨rfl, g⟩; replace hT := hT.trans g (fun _ h => False.elim h); clear x0 x1; obtain ⟨x0, x1⟩ := HX.out _ hT; clear g)
    | (go_at_call 9; (with_reducible refine (take_nil _ _).mono ?_); rintro e w' ⟨rfl, g⟩; replace hT := hT.trans g (fun _ h => False.elim h); clear x0 x1; obtain ⟨x0, x1⟩ := HX.out _ hT; clear g)
    | (go_at_call 9; (with_reducible refine (take_unmade _ _ _ (HZ.out _ hT)).mono ?_); rintro e w' ⟨rfl, g⟩; replace hT := hT.trans g (fun _ h => False.elim h); clear x0 x1; obtain ⟨x0, x1⟩ := HX.out _ hT; clear g)
    | (go_at_call 15; (with_reducible refine (len_nil _).mono ?_); rintro e w' ⟨rfl, g⟩; replace hT := hT.trans g (fun _ h => False.elim h); clear x0 x1; obtain ⟨x0, x1⟩ := HX.out _ hT; clear g)
    | (go_at_call 15; (with_reducible refine (len_unmade _ _ (HZ.out _ hT)).mono ?_); rintro e w' ⟨rfl, g⟩; replace hT := hT.trans g (fun _ h => False.elim h); clear x0 x1; obtain ⟨x0, x1⟩ := HX.out _ hT; clear g)
    | (go_at_call 10; (with_reducible refine (lost_nil _).mono ?_); rintro e w' ⟨rfl, g⟩; replace hT := hT.trans g (fun _ h => False.elim h); clear x0 x1; obtain ⟨x0, x1⟩ := HX.out _ hT; clear g)
    | (go_at_call 10; (with_reducible refine (lost_unmade _ _ (HZ.out _ hT)).mono ?_); rintro e w' ⟨rfl, g⟩; replace hT := hT.trans g (fun _ h => False.elim h); clear x0 x1; obtain ⟨x0, x1⟩ := HX.out _ hT; clear g)
    | (go_at_call 11; refine (awake_any _).mono ?_; rintro e w' ⟨rfl, g⟩; replace hT := hT.trans g (fun _ h => False.elim h))
  go_ret
  exact ⟨rfl, fin _ hT⟩

end Go.Proofs.Ytjjapnphljhicab.outbox
