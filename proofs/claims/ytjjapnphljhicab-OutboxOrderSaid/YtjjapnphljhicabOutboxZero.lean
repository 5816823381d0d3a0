/- Package outbox: one that nobody made; and that the program computes at all. -/
import Derived.Test.YtjjapnphljhicabOutboxTake
namespace Go.Proofs.Ytjjapnphljhicab.outbox
open Go.RowKit Go.Conc
open Go.Proofs.Ytjjapnphljhicab.stepkit Go.Proofs.Ytjjapnphljhicab.row Go.Proofs.Ytjjapnphljhicab.mix Go.Proofs.Ytjjapnphljhicab.obj Go.Proofs.Ytjjapnphljhicab.eqkit Go.Proofs.Ytjjapnphljhicab.commkit

/-- The object, made since w0; what was there before lies as it lay. -/
def Live (w0 : World) (p most : Nat) (l : List Ou) (lost : Int) (w : World) : Prop := ∃ F, OutAt p most l lost F w ∧ Turns nobody w0 w ∧ ∀ i, F i → w0.heap.size ≤ i

theorem Live.step {w0 w w' : World} {p most : Nat} {l' : List Ou} {lost' : Int} {F : Nat → Prop} (ht : Turns nobody w0 w) (hF : ∀ i, F i → w0.heap.size ≤ i) (h : Step F (OutAt p most l' lost') w w') : Live w0 p most l' lost' w' := by
  obtain ⟨F', ha, h1, h2⟩ := h
  exact ⟨F', ha, ht.trans h1 (fun i h => Or.inr (hF i h)), fun i hi => by rcases h2 i hi with h | h; exact hF i h; exact Nat.le_trans ht.size h⟩
theorem Live.still {w0 w w' : World} {p most : Nat} {l : List Ou} {lost : Int} (h : Live w0 p most l lost w) (ht : Turns nobody w w') : Live w0 p most l lost w' := by
  obtain ⟨F, ha, h1, h2⟩ := h
  exact ⟨F, (local_out _ _ _ _).keep ha ht (fun _ _ h => h), h1.trans ht (fun _ h => False.elim h), h2⟩
theorem Live.turns {w0 w : World} {p most : Nat} {l : List Ou} {lost : Int} (h : Live w0 p most l lost w) : Turns nobody w0 w := by obtain ⟨_, _, h, _⟩ := h; exact h

theorem new_live (m : Nat) (w : World) (h1 : 1 ≤ m) (h2 : m ≤ 256) : Calls Try.prog 7 #[.int .i64 m] w fun e w' => e = .returned (.tuple #[.pointer (some ⟨w.heap.size + 1, 0, none⟩), .int .i64 0]) ∧ Live w (w.heap.size + 1) m [] 0 w' :=
  (new_ok m w h1 h2).mono fun e w' ⟨he, hw⟩ => by
    refine ⟨he, _, ⟨w.heap.size, 0, 0, ?_, ?_, by omega, rfl⟩, ?_, fun i hi => by rcases hi with rfl | rfl <;> omega⟩
    · rw [hw]
      have := heap_alloc_new (w.alloc (.chan m #[] false 0 0 false)) (.cells #[.chan (some w.heap.size), .int .i64 0] 47)
      rwa [World.size_alloc] at this
    · rw [hw, heap_alloc_old _ _ (by simp)]
      exact heap_alloc_new w _
    · rw [hw]; exact ((Turns.refl _ _).alloc _).alloc _

/-- What one more does. -/
def putL (most : Nat) (l : List Ou) (o : Ou) : List Ou := if l.length < most then l ++ [o] else l
def putC (most : Nat) (l : List Ou) (lost : Int) : Int := if l.length < most then lost else min (lost + 1) 1000
def putR (most : Nat) (l : List Ou) : Int := if l.length < most then 0 else 6

theorem put_any (p most : Nat) (l : List Ou) (lost : Int) (o : Ou) (F : Nat → Prop) (w : World) (h : OutAt p most l lost F w) (hlo : 0 ≤ lost) (hhi : lost ≤ 1000) :
    Calls Try.prog 8 #[.pointer (some ⟨p, 0, none⟩), .agg #[.int .i64 o.t, .string o.b]] w fun e w' => e = .returned (.int .i64 (putR most l)) ∧ Step F (OutAt p most (putL most l o) (putC most l lost)) w w' := by
  unfold putL putC putR
  split
  · exact put_room p most l lost o F w h (by assumption)
  · exact put_full p most l lost o F w h (by omega) hlo hhi

theorem put_live {w0 w : World} {p most : Nat} {l l' : List Ou} {lost lost' r : Int} {t : Int} {b : ByteArray} (hL : Live w0 p most l lost w) (hlo : 0 ≤ lost) (hhi : lost ≤ 1000) (hr : putR most l = r) (hl : putL most l ⟨t, b⟩ = l') (hc : putC most l lost = lost') :
    Calls Try.prog 8 #[.pointer (some ⟨p, 0, none⟩), .agg #[.int .i64 t, .string b]] w fun e w' => e = .returned (.int .i64 r) ∧ Live w0 p most l' lost' w' := by
  obtain ⟨F, ha, h1, h2⟩ := hL
  subst hr hl hc
  exact (put_any p most l lost ⟨t, b⟩ F w ha hlo hhi).mono fun e w' h => ⟨h.1, Live.step h1 h2 h.2⟩
theorem take_live {w0 w : World} {p most : Nat} {l l1 l2 : List Ou} {lost n : Int} (hL : Live w0 p most l lost w) (hm : l.length ≤ 1024) (h1 : l.take (min n.toNat l.length) = l1) (h2 : l.drop (min n.toNat l.length) = l2) :
    Calls Try.prog 9 #[.pointer (some ⟨p, 0, none⟩), .int .i64 n] w fun e w' => (∃ ao cap, e = .returned (.slice ao l1.length cap) ∧ OSl w' (.slice ao l1.length cap) l1) ∧ Live w0 p most l2 lost w' := by
  obtain ⟨F, ha, h3, h4⟩ := hL
  subst h1 h2
  refine (take_any p most l lost n F w ha hm _ rfl).mono fun e w' h => ?_
  obtain ⟨v, rfl, hs, _, hstep⟩ := h
  obtain ⟨ao, cap, rfl, _⟩ := (show Sl _ _ _ _ _ _ from hs).shape
  exact ⟨⟨ao, cap, rfl, hs⟩, Live.step h3 h4 hstep⟩
theorem len_live {w0 w : World} {p most : Nat} {l : List Ou} {lost : Int} (hL : Live w0 p most l lost w) :
    Calls Try.prog 15 #[.pointer (some ⟨p, 0, none⟩)] w fun e w' => e = .returned (.int .i64 l.length) ∧ w = w' := by
  obtain ⟨F, ha, h1, h2⟩ := hL
  exact len_any p most l lost F w ha
theorem lost_live {w0 w : World} {p most : Nat} {l : List Ou} {lost : Int} (hL : Live w0 p most l lost w) :
    Calls Try.prog 10 #[.pointer (some ⟨p, 0, none⟩)] w fun e w' => e = .returned (.int .i64 lost) ∧ w = w' := by
  obtain ⟨F, ha, h1, h2⟩ := hL
  exact lost_any p most l lost F w ha

set_option maxRecDepth 10000 in
set_option maxHeartbeats 1000000 in
theorem awake_any (w : World) : Calls Try.prog 11 #[] w fun e w' => e = .returned (.bool true) ∧ Turns nobody w w' := by
  have N : Calls Try.prog 7 #[.int .i64 1] w _ := new_live 1 w (by omega) (by omega)
  have q1 : ∀ W, Live w (w.heap.size + 1) 1 [] 0 W → _ := fun W h => put_live (t := 3) (b := ⟨#[]⟩) (r := 0) (l' := [⟨3, ⟨#[]⟩⟩]) (lost' := 0) h (by omega) (by omega) rfl rfl rfl
  have q2 : ∀ W, Live w (w.heap.size + 1) 1 [⟨3, ⟨#[]⟩⟩] 0 W → _ := fun W h => put_live (t := 4) (b := ⟨#[]⟩) (r := 6) (l' := [⟨3, ⟨#[]⟩⟩]) (lost' := 1) h (by omega) (by omega) rfl rfl rfl
  have q3 : ∀ W, Live w (w.heap.size + 1) 1 [⟨3, ⟨#[]⟩⟩] 1 W → _ := fun W h => take_live (n := 5) (l1 := [⟨3, ⟨#[]⟩⟩]) (l2 := []) h (by simp) rfl rfl
  go_enter Try.func11, Try.ntmps11
  go_wp2_with first
    | (go_at_call 9; (with_reducible refine (q3 _ h3).mono ?_); rintro e w4 ⟨⟨ao, cap, rfl, hs⟩, h4⟩; obtain ⟨g, o, c, hv, _⟩ := Sl.some_of_pos hs (by simp); cases hv; have hc := (OSl.cell (l := [⟨3, ⟨#[]⟩⟩]) hs 0 (by simp)).1; simp only [Nat.zero_mul, Nat.add_zero, List.getD_cons_zero] at hc; have HT4 := Lib.hid h4.turns; clear hs h4)
    | (go_at_call 8; (with_reducible refine (q2 _ h2).mono ?_); rintro e w3 ⟨rfl, h3⟩)
    | (go_at_call 8; (with_reducible refine (q1 _ h1).mono ?_); rintro e w2 ⟨rfl, h2⟩)
    | (go_at_call 7; refine N.mono ?_; rintro e w1 ⟨rfl, h1⟩)
  go_ret
  exact ⟨rfl, HT4.out⟩

end Go.Proofs.Ytjjapnphljhicab.outbox
