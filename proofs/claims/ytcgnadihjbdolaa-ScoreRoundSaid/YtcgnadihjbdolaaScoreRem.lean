/- Who is left: plain laws for ScoreRound. -/
import Derived.Test.YtcgnadihjbdolaaScoreBest
namespace Go.Proofs.Ytcgnadihjbdolaa.score
open Go.RowKit

theorem pick_spec (s : List Int) (t : Int) (l : List Nat) : (pick s t l = none ∧ ∀ p ∈ l, unt t p = false) ∨ ∃ p, pick s t l = some p ∧ p ∈ l ∧ unt t p = true ∧ ∀ q ∈ l, unt t q = true → s.getD q 0 ≤ s.getD p 0 := by
  generalize hn : l.length = n
  induction n generalizing l with
  | zero =>
    obtain rfl : l = [] := List.eq_nil_of_length_eq_zero hn
    exact Or.inl ⟨rfl, fun _ h => by cases h⟩
  | succ n ih =>
    obtain ⟨l', x, rfl⟩ : ∃ l' x, l = l' ++ [x] := by
      rcases List.eq_nil_or_concat l with h | ⟨L, b, h⟩
      · rw [h] at hn; cases hn
      · exact ⟨L, b, by simpa using h⟩
    have hl : l'.length = n := by simpa using hn
    rw [pick_snoc]
    cases hu : unt t x with
    | false =>
      rw [Bool.false_and, cond_false]
      rcases ih l' hl with ⟨h1, h2⟩ | ⟨p, h1, h2, h3, h4⟩
      · refine Or.inl ⟨h1, fun p hp => ?_⟩
        rcases List.mem_append.1 hp with hp | hp
        · exact h2 p hp
        · have : p = x := by simpa using hp
          rw [this, hu]
      · refine Or.inr ⟨p, h1, List.mem_append_left _ h2, h3, fun q hq hqu => ?_⟩
        rcases List.mem_append.1 hq with hq | hq
        · exact h4 q hq hqu
        · have : q = x := by simpa using hq
          rw [this, hu] at hqu
          cases hqu
    | true =>
      rw [Bool.true_and]
      rcases ih l' hl with ⟨h1, h2⟩ | ⟨p, h1, h2, h3, h4⟩
      · rw [h1]
        simp only [better, cond_true]
        refine Or.inr ⟨x, rfl, by simp, hu, fun q hq hqu => ?_⟩
        rcases List.mem_append.1 hq with hq | hq
        · rw [h2 q hq] at hqu; cases hqu
        · have : q = x := by simpa using hq
          rw [this]; exact Int.le_refl _
      · rw [h1]
        simp only [better]
        cases hb : decide (s.getD p 0 < s.getD x 0) with
        | true =>
          have hlt := of_decide_eq_true hb
          rw [cond_true]
          refine Or.inr ⟨x, rfl, by simp, hu, fun q hq hqu => ?_⟩
          rcases List.mem_append.1 hq with hq | hq
          · have := h4 q hq hqu; omega
          · have : q = x := by simpa using hq
            rw [this]; exact Int.le_refl _
        | false =>
          have hge := of_decide_eq_false hb
          rw [cond_false]
          refine Or.inr ⟨p, rfl, List.mem_append_left _ h2, h3, fun q hq hqu => ?_⟩
          rcases List.mem_append.1 hq with hq | hq
          · exact h4 q hq hqu
          · have : q = x := by simpa using hq
            rw [this]; omega

theorem unt_nat (m k : Nat) : unt (m : Int) k = !(m.testBit k) := by
  rw [Nat.testBit_eq_decide_div_mod_eq]
  unfold unt
  rw [Bool.eq_iff_iff]
  have : ((m : Int) / 2 ^ k % 2) = ((m / 2 ^ k % 2 : Nat) : Int) := by
    simp
  rw [this]
  simp
  omega

theorem or_nat (m p : Nat) (hm : m < 64) (hp : p < 6) : bits .or .i64 (m : Int) (2 ^ p) = ((m ||| 2 ^ p : Nat) : Int) := by
  unfold bits
  show IntKind.i64.wrap (((BitVec.ofInt 64 (m : Int) ||| BitVec.ofInt 64 (2 ^ p)).toNat : Nat) : Int) = _
  have h1 : (BitVec.ofInt 64 (m : Int)).toNat = m := by rw [ofInt_nat]; omega
  have h2 : (BitVec.ofInt 64 (2 ^ p)).toNat = 2 ^ p := by
    obtain rfl | rfl | rfl | rfl | rfl | rfl : p = 0 ∨ p = 1 ∨ p = 2 ∨ p = 3 ∨ p = 4 ∨ p = 5 := by omega
    all_goals decide
  rw [BitVec.toNat_or, h1, h2]
  have h3 : m ||| 2 ^ p < 2 ^ 6 := Nat.or_lt_two_pow (by omega) (Nat.pow_lt_pow_right (by omega) hp)
  rw [IntWalk.i64_in _ (by omega)]

theorem or_lt (m p : Nat) (hm : m < 64) (hp : p < 6) : m ||| 2 ^ p < 64 :=
  Nat.or_lt_two_pow (n := 6) (by omega) (Nat.pow_lt_pow_right (by omega) hp)

theorem unt_or (m p q : Nat) : unt ((m ||| 2 ^ p : Nat) : Int) q = (unt (m : Int) q && decide (q ≠ p)) := by
  rw [unt_nat, unt_nat, Nat.testBit_or, Nat.testBit_two_pow]
  by_cases h : p = q
  · subst h; simp
  · have : q ≠ p := fun e => h e.symm
    simp [h, this]

/-- Who is left. -/
def left (self m : Nat) : List Nat := (peersN self 6).filter fun p => unt (m : Int) p

theorem nodup_peers (self : Nat) : (peersN self 6).Nodup := by
  unfold peersN
  exact List.Pairwise.filter _ List.nodup_range

theorem length_filter_ne : ∀ (l : List Nat) (p : Nat), l.Nodup → p ∈ l → (l.filter fun q => decide (q ≠ p)).length + 1 = l.length
  | [], p, _, h => by cases h
  | x :: l, p, hd, h => by
    obtain ⟨h1, h2⟩ := List.nodup_cons.1 hd
    by_cases hx : x = p
    · subst hx
      have : (l.filter fun q => decide (q ≠ x)) = l := List.filter_eq_self.2 (fun q hq => by simp; intro e; exact h1 (e ▸ hq))
      rw [List.filter_cons, if_neg (by simp), this, List.length_cons]
    · have hp : p ∈ l := by rcases List.mem_cons.1 h with h | h; exact absurd h.symm hx; exact h
      have := length_filter_ne l p h2 hp
      rw [List.filter_cons, if_pos (by simpa using hx), List.length_cons, List.length_cons]
      omega

theorem left_or (self m p : Nat) (h : p ∈ left self m) : (left self (m ||| 2 ^ p)).length + 1 = (left self m).length ∧ ∀ q ∈ left self (m ||| 2 ^ p), q ∈ left self m := by
  have e : left self (m ||| 2 ^ p) = (left self m).filter fun q => decide (q ≠ p) := by
    unfold left
    rw [List.filter_filter]
    congr 1
    funext q
    rw [unt_or, Bool.and_comm]
  rw [e]
  exact ⟨length_filter_ne _ p (List.Pairwise.filter _ (nodup_peers self)) h, fun q hq => (List.mem_filter.1 hq).1⟩

theorem left_zero (self : Nat) : left self 0 = peersN self 6 := List.filter_eq_self.2 (fun q _ => by rw [unt_nat]; simp)

theorem left_pick (s : List Int) (self m : Nat) : (pick s (m : Int) (peersN self 6) = none ∧ left self m = []) ∨ ∃ p, pick s (m : Int) (peersN self 6) = some p ∧ p ∈ left self m ∧ p < 6 ∧ isB self (p : Int) = true ∧ unt (m : Int) p = true ∧ ∀ q ∈ left self m, s.getD q 0 ≤ s.getD p 0 := by
  rcases pick_spec s m (peersN self 6) with ⟨h1, h2⟩ | ⟨p, h1, h2, h3, h4⟩
  · exact Or.inl ⟨h1, List.filter_eq_nil_iff.2 (fun q hq => by rw [h2 q hq]; simp)⟩
  · obtain ⟨g1, g2⟩ := peersN_mem h2
    exact Or.inr ⟨p, h1, List.mem_filter.2 ⟨h2, h3⟩, g1, g2, h3, fun q hq => h4 q (List.mem_filter.1 hq).1 (List.mem_filter.1 hq).2⟩

end Go.Proofs.Ytcgnadihjbdolaa.score
