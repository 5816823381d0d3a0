/- Package net and the document's answer, call by call; awake. -/
import Derived.Test.YtjjapnphljhicaaNetRef
namespace Go.Proofs.Ytjjapnphljhicaa.net
open Go.RowKit
open Go.Proofs.Ytjjapnphljhicaa.stepkit Go.Proofs.Ytjjapnphljhicaa.row Go.Proofs.Ytjjapnphljhicaa.mix Go.Proofs.Ytjjapnphljhicaa.obj Go.Proofs.Ytjjapnphljhicaa.eqkit

/-- Within the limits. -/
def Ok (l : List Pc) (lost : Int) : Prop := l.length ≤ 256 ∧ 0 ≤ lost ∧ lost ≤ 1000

/-- What a call of both answers. -/
def Both (p q : Nat) (l : List Pc) (lost : Int) (f g : FuncId) (x : Value) (v v' : Value) : Prop :=
  ∃ l' lost', Ok l' lost' ∧ (∀ F w, NetAt p l lost F w → Calls Try.prog f #[.pointer (some ⟨p, 0, none⟩), x] w fun e w' => e = .returned v ∧ Step F (NetAt p l' lost') w w') ∧
    (∀ G w, RefAt q l lost G w → Calls Try.prog g #[.pointer (some ⟨q, 0, none⟩), x] w fun e w' => e = .returned v' ∧ Step G (RefAt q l' lost') w w')

theorem put_both (p q : Nat) (l : List Pc) (lost : Int) (h : Ok l lost) (x : Pc) : ∃ z, Both p q l lost 9 14 x.val (.int .i64 z) (.int .i64 z) := by
  obtain ⟨h1, h2, h3⟩ := h
  by_cases hl : l.length < 256
  · exact ⟨0, l ++ [x], lost, ⟨by simp; omega, h2, h3⟩, fun F w hn => put_ok p l lost x F w hn hl, fun G w hr => ref_put_ok q l lost x G w hr hl⟩
  · exact ⟨6, l, min (lost + 1) 1000, ⟨h1, by omega, by omega⟩, fun F w hn => put_full p l lost x F w hn (by omega) h2 h3, fun G w hr => ref_put_full q l lost x G w hr (by omega) h2 h3⟩

theorem double_both (p q : Nat) (l : List Pc) (lost : Int) (h : Ok l lost) (k : Int) : ∃ z, Both p q l lost 13 15 (.int .i64 k) (.int .i64 z) (.int .i64 z) := by
  by_cases hk : k < 0
  · exact ⟨1, l, lost, h, fun F w hn => (double_bad p _ k 1 w (by decide) (place_arg p l lost k F w hn hk)).mono fun e w' ⟨he, hw⟩ => ⟨he, hw ▸ Step.same hn (Turns.refl _ _)⟩,
      fun G w hr => (ref_double_bad _ k 1 w (by decide) (may_arg q l lost k G w hr hk)).mono fun e w' ⟨he, hw⟩ => ⟨he, hw ▸ Step.same hr (Turns.refl _ _)⟩⟩
  · by_cases hl : l.length = 0
    · obtain rfl : l = [] := List.eq_nil_of_length_eq_zero hl
      exact ⟨7, [], lost, h, fun F w hn => (double_bad p _ k 7 w (by decide) (place_none p lost k F w hn (by omega))).mono fun e w' ⟨he, hw⟩ => ⟨he, hw ▸ Step.same hn (Turns.refl _ _)⟩,
        fun G w hr => (ref_double_bad _ k 7 w (by decide) (may_none q lost k G w hr (by omega))).mono fun e w' ⟨he, hw⟩ => ⟨he, hw ▸ Step.same hr (Turns.refl _ _)⟩⟩
    · obtain ⟨n, rfl⟩ : ∃ n : Nat, k = n := ⟨k.toNat, by omega⟩
      obtain ⟨z, l', lost', ho, h1, h2⟩ := put_both p q l lost h (l.getD (n % l.length) pc0)
      refine ⟨z, l', lost', ho, fun F w hn => double_put p l lost n F w hn (by omega) h.1 z _ (h1 F w hn), fun G w hr => ?_⟩
      exact ref_double_put q l lost n G w hr (by omega) h.1 z _ ((h2 G w.drew ((local_ref q l lost).drawn hr ⟨1, rfl⟩)).mono fun e w' ⟨he, hs⟩ => ⟨he, hs.before (Turns.refl _ _).drew⟩)

theorem deliver_both (p q : Nat) (l : List Pc) (lost : Int) (h : Ok l lost) (k : Int) : ∃ (x : Pc) (z : Int), Both p q l lost 10 16 (.int .i64 k) (.tuple #[x.val, .int .i64 z]) (.tuple #[x.val, .int .i64 z]) := by
  by_cases hk : k < 0
  · exact ⟨pc0, 1, l, lost, h, fun F w hn => (deliver_bad p _ k 1 w (by decide) (fun w' ht => place_arg p l lost k F w' ((local_net p l lost).keep hn ht (fun _ _ h => h)) hk)).mono fun e w' ⟨he, hw⟩ => ⟨he, Step.same ((local_net p l lost).keep hn hw (fun _ _ h => h)) (hw.mono (fun _ h => h.elim))⟩,
      fun G w hr => (ref_deliver_bad _ k 1 w (by decide) (fun w' ht => may_arg q l lost k G w' ((local_ref q l lost).keep hr ht (fun _ _ h => h)) hk)).mono fun e w' ⟨he, hw⟩ => ⟨he, Step.same ((local_ref q l lost).keep hr hw (fun _ _ h => h)) (hw.mono (fun _ h => h.elim))⟩⟩
  · by_cases hl : l.length = 0
    · obtain rfl : l = [] := List.eq_nil_of_length_eq_zero hl
      exact ⟨pc0, 7, [], lost, h, fun F w hn => (deliver_bad p _ k 7 w (by decide) (fun w' ht => place_none p lost k F w' ((local_net p [] lost).keep hn ht (fun _ _ h => h)) (by omega))).mono fun e w' ⟨he, hw⟩ => ⟨he, Step.same ((local_net p [] lost).keep hn hw (fun _ _ h => h)) (hw.mono (fun _ h => h.elim))⟩,
        fun G w hr => (ref_deliver_bad _ k 7 w (by decide) (fun w' ht => may_none q lost k G w' ((local_ref q [] lost).keep hr ht (fun _ _ h => h)) (by omega))).mono fun e w' ⟨he, hw⟩ => ⟨he, Step.same ((local_ref q [] lost).keep hr hw (fun _ _ h => h)) (hw.mono (fun _ h => h.elim))⟩⟩
    · obtain ⟨n, rfl⟩ : ∃ n : Nat, k = n := ⟨k.toNat, by omega⟩
      have hil : n % l.length < l.length := Nat.mod_lt _ (by omega)
      refine ⟨_, 0, _, lost, ⟨?_, h.2⟩, fun F w hn => deliver_ok p l lost n F w hn (by omega) h.1, fun G w hr => ref_deliver_ok q l lost n G w hr (by omega) h.1⟩
      have := h.1
      rw [List.length_append, List.length_take, List.length_drop]; omega

theorem duo_new {w w1 : World} (h : w1 = w.alloc (.cells #[.slice none 0 0, .int .i64 0, .bool true] 52)) : ∃ F, Duo w.heap.size w (NetAt w.heap.size [] 0) nothing F nobody w1 := by
  have hn := new_at h
  refine ⟨_, hn, rfl, fun _ _ h => h, fun i hi => ?_, fun i hi => hi.elim, ?_, by rw [h]; simp⟩
  · rcases hi with rfl | hi
    · exact Nat.le_refl _
    · cases hi
  · rw [h]; exact (Below.refl _ _).alloc (Nat.le_refl _) _

theorem put_lit (p : Nat) (l : List Pc) (lost : Int) (f t : Int) (b : ByteArray) (F : Nat → Prop) (w : World) (h : NetAt p l lost F w) (hl : l.length < 256) :
    Calls Try.prog 9 #[.pointer (some ⟨p, 0, none⟩), .agg #[.int .i64 f, .int .i64 t, .string b]] w fun e w' => e = .returned (.int .i64 0) ∧ Step F (NetAt p (l ++ [⟨f, t, b⟩]) lost) w w' := put_ok p l lost ⟨f, t, b⟩ F w h hl

theorem deliver_lit (p : Nat) (lost : Int) (x y : Pc) (F : Nat → Prop) (w : World) (h : NetAt p [x, y] lost F w) :
    Calls Try.prog 10 #[.pointer (some ⟨p, 0, none⟩), .int .i64 3] w fun e w' => e = .returned (.tuple #[.agg #[.int .i64 y.f, .int .i64 y.t, .string y.b], .int .i64 0]) ∧ Step F (NetAt p [x] lost) w w' := by
  have h2 := deliver_ok p [x, y] lost 3 F w h (by simp) (by simp)
  rw [show 3 % [x, y].length = 1 from by simp] at h2
  exact h2

set_option maxRecDepth 10000 in
set_option maxHeartbeats 400000 in
theorem awake_any (w : World) :
    Calls Try.prog 8 #[] w fun e w' => e = .returned (.bool true) ∧ Below w.heap.size w w' := by
  obtain ⟨B, hB⟩ : ∃ B, w.heap.size = B := ⟨_, rfl⟩
  rw [hB]
  go_enter Try.func8, Try.ntmps8
  go_wp2_with (go_at_call 7; refine (new_any _).mono ?_; rintro e w1 ⟨rfl, hw1⟩; obtain ⟨F, hd⟩ := duo_new hw1; rw [hB] at hd ⊢; clear hw1 hB)
  refine (put_lit B [] 0 0 0 ⟨#[97]⟩ F w1 hd.a (by decide)).mono ?_
  rintro e w2 ⟨rfl, hs⟩
  obtain ⟨F2, hd2⟩ := hd.left local_nothing hs
  clear hs hd
  go_wp2_with fail
  refine (put_lit B _ 0 0 0 ⟨#[98]⟩ F2 w2 hd2.a (by decide)).mono ?_
  rintro e w3 ⟨rfl, hs⟩
  obtain ⟨F3, hd3⟩ := hd2.left local_nothing hs
  clear hs hd2
  go_wp2_with fail
  refine (deliver_lit B 0 _ _ F3 w3 hd3.a).mono ?_
  rintro e w4 ⟨rfl, hs⟩
  obtain ⟨F4, hd4⟩ := hd3.left local_nothing hs
  clear hs hd3
  go_wp2_with (go_at_call 11; refine (len_any _ _ _ _ _ ((local_net _ _ _).keep hd4.a ((Turns.refl nobody _).alloc _) (fun _ _ h => h))).mono ?_; rintro e w' ⟨rfl, rfl⟩)
  go_ret
  exact ⟨rfl, hd4.below.alloc hd4.size _⟩

end Go.Proofs.Ytjjapnphljhicaa.net
