/- A region that draws its order, walked ONCE: as Mix, but each free operation has a class of worlds of its own, and an operation between need keep only the classes of the free operations that may still come. No function of the program in sight. -/
import Derived.Test.YtlhcmgjkhkcgcaaDoorRound
namespace Go.Proofs.YtlhcmgjkhkcgcaaDoor.mix
open Go

section
variable {P : Program} {ops : Array Oper} {md : Region.Mode} {I : Nat → World → Prop} {fr : Nat → Bool} {kp : Nat → Nat → Bool}

def lastB3 (md : Region.Mode) (ops : Array Oper) (fr : Nat → Bool) (kp : Nat → Nat → Bool) : Bool :=
  (List.range ops.size).all fun j => fr j || ((fun l => (List.range ops.size).all fun i => !fr i || kp j i || List.contains l i) (anc md ops 2000 (preds md ops j) []))

theorem lastB3_spec {fr : Nat → Bool} {kp : Nat → Nat → Bool} (h : lastB3 md ops fr kp = true) {i j : Nat} {oj : Oper} (hoj : ops[j]? = some oj) (hi : i < ops.size) (hf : fr i = true)
    (hno : (anc md ops 2000 (preds md ops j) []).contains i = false) : fr j = true ∨ kp j i = true := by
  have hj : j < ops.size := (Array.getElem?_eq_some_iff.1 hoj).1
  have h1 := List.all_eq_true.1 h j (List.mem_range.2 hj)
  rcases Bool.or_eq_true_iff.1 h1 with h1 | h1
  · exact Or.inl h1
  · have h2 := List.all_eq_true.1 h1 i (List.mem_range.2 hi)
    rw [hf, hno] at h2
    exact Or.inr (by simpa using h2)

/-- Whatever order is picked from here on. -/
def wpAnyI3 (P : Program) (md : Region.Mode) (ops : Array Oper) (fr : Nat → Bool) (kp : Nat → Nat → Bool) (I : Nat → World → Prop) (Q : Exit → Act → World → Prop) : Nat → Array Bool → Act → World → Prop
  | 0, listed, a, w => Region.ready md ops listed = [] ∧ Q .normal a w
  | fuel + 1, listed, a, w =>
    (Region.ready md ops listed = [] → Q .normal a w) ∧
    ∀ i ∈ Region.ready md ops listed, wpOp P ops (calm Q) i (fun a' w' => ((fr i = true → w' = w) ∧ (fr i = false → ∀ x, kp i x = true → I x w')) ∧ wpAnyI3 P md ops fr kp I Q fuel (listed.setIfInBounds i true) a' w') a w

theorem wpAny_of_I3 {Q : Exit → Act → World → Prop} : ∀ (fuel : Nat) (listed : Array Bool) (a : Act) (w : World), wpAnyI3 P md ops fr kp I Q fuel listed a w → wpAny P md ops Q fuel listed a w
  | 0, _, _, _, h => h
  | fuel + 1, _, _, _, h => ⟨h.1, fun i hi => wpOp_loose (fun a' w' hk => wpAny_of_I3 fuel _ a' w' hk.2) (h.2 i hi)⟩

/-- A free operation that may come up now may be taken first. -/
theorem wpAnyI3_first {Q : Exit → Act → World → Prop} {i : Nat} {oi : Oper} {v : Value} (hlast : lastB3 md ops fr kp = true) (hfr : fr i = true) (hi : ops[i]? = some oi) (hsel : ∀ (j : Nat) (o : Oper) cs b, ops[j]? = some o → o.op ≠ .select cs b) :
    ∀ (fuel : Nat) (listed : Array Bool) (a : Act) (w : World),
      (∀ j oj, ops[j]? = some oj → j ≠ i → listed.getD j true = false → (∀ e ∈ oj.after, Region.binds md e = true → e.on ≠ i) → oi.apart ops oj = true) →
      Closed md ops listed → i ∈ Region.ready md ops listed → YieldsC P ops (I i) oi v a → I i w →
      wpAnyI3 P md ops fr kp I Q fuel (listed.setIfInBounds i true) (a.put oi.dst v) w → wpAnyI3 P md ops fr kp I Q (fuel + 1) listed a w := by
  intro fuel
  induction fuel with
  | zero =>
    intro listed a w _ _ hr hy hI H
    refine ⟨fun h => (by rw [h] at hr; cases hr), fun j hj => ?_⟩
    by_cases hji : j = i
    · subst hji; exact hy.wpOp hi hI ⟨⟨fun _ => rfl, fun h => by rw [hfr] at h; cases h⟩, H⟩
    · have := ready_mono hj hji
      rw [H.1] at this
      cases this
  | succ fuel ih =>
    intro listed a w hfree hcl hr hy hI H
    refine ⟨fun h => (by rw [h] at hr; cases hr), fun j hj => ?_⟩
    by_cases hji : j = i
    · subst hji; exact hy.wpOp hi hI ⟨⟨fun _ => rfl, fun h => by rw [hfr] at h; cases h⟩, H⟩
    · have h1 := H.2 j (ready_mono hj hji)
      obtain ⟨hjun, oj, hoj, hall⟩ := mem_ready.1 hj
      have hiun := (mem_ready.1 hr).1
      have hnot : ∀ e ∈ oj.after, Region.binds md e = true → e.on ≠ i := fun e he hb heq => by
        have h1 := hall e he hb
        rw [heq] at h1
        rcases Nat.lt_or_ge i listed.size with h' | h'
        · simp [h'] at hiun h1; rw [hiun] at h1; cases h1
        · simp [Array.getElem?_eq_none h'] at h1
      have h2 := wpOp_putC hoj (hfree j oj hoj hji hjun hnot) (fun cs b => hsel i oi cs b hi) (fun cs b => hsel j oj cs b hoj) hy h1
      have hfree' : ∀ k ok, ops[k]? = some ok → k ≠ i → (listed.setIfInBounds j true).getD k true = false →
          (∀ e ∈ ok.after, Region.binds md e = true → e.on ≠ i) → oi.apart ops ok = true := fun k ok hk hki hun hno => by
        refine hfree k ok hk hki ?_ hno
        by_cases hjk : j = k
        · subst hjk; exact hjun
        · rw [getD_set_ne true hjk] at hun; exact hun
      have hkp : fr j = true ∨ kp j i = true := lastB3_spec hlast hoj (Array.getElem?_eq_some_iff.1 hi).1 hfr (reach_false hcl (by
          rcases Nat.lt_or_ge i listed.size with h' | h'
          · simpa [h'] using hiun
          · simp [Array.getElem?_eq_none h'] at hiun) j (fun oj' ho' e he hb => by rw [hoj] at ho'; cases ho'; exact hall e he hb))
      refine wpOp_mono (fun a' w' h3 => ?_) h2
      have hI' : I i w' := by
        cases hfj : fr j with
        | true => rw [h3.2.1.1 hfj]; exact hI
        | false =>
          rcases hkp with h | h
          · rw [hfj] at h; cases h
          · exact h3.2.1.2 hfj i h
      refine ⟨h3.2.1, ih (listed.setIfInBounds j true) a' w' hfree' (hcl.list hj) (ready_mono hr (Ne.symm hji)) h3.1 hI' ?_⟩
      rw [Array.setIfInBounds_comm _ _ hji]
      exact h3.2.2

/-! ### The one order: (the operation's number, is it free?, the free ones whose classes it must keep) -/
abbrev Order3 := List (Nat × Bool × List Nat)

def free3 (l : Order3) (i : Nat) : Bool := l.any fun x => x.1 == i && x.2.1
def kept3 (l : Order3) (j i : Nat) : Bool := l.any fun x => x.1 == j && x.2.2.contains i

def orderB3 (md : Region.Mode) (ops : Array Oper) : Order3 → List Nat → Array Bool → Bool
  | [], _, listed => (Region.ready md ops listed).isEmpty
  | (k, true, _) :: rest, live, listed => live.contains k && (Region.ready md ops listed).contains k && Region.free md ops listed k && orderB3 md ops rest live (listed.setIfInBounds k true)
  | (k, false, l) :: rest, live, listed => (l.all live.contains) && (Region.ready md ops listed == [k]) && orderB3 md ops rest l (listed.setIfInBounds k true)

def flagsB3 (n : Nat) (all : Order3) : Order3 → Bool
  | [] => true
  | (k, f, l) :: rest => (free3 all k == f) && (f || (List.range n).all fun i => kept3 all k i == l.contains i) && flagsB3 n all rest

def mixB3 (md : Region.Mode) (ops : Array Oper) (order : Order3) (live : List Nat) : Bool :=
  Region.noSelect ops && lastB3 md ops (free3 order) (fun j i => decide (i < ops.size) && kept3 order j i) && flagsB3 ops.size order order && orderB3 md ops order live (Array.replicate ops.size false) && (order.length == ops.size)

/-- THE WALK, in that order. -/
def wpMix3 (P : Program) (ops : Array Oper) (I : Nat → World → Prop) (Q : Exit → Act → World → Prop) : List (Nat × Oper × Bool × List Nat) → Act → World → Prop
  | [], a, w => Q .normal a w
  | (i, o, true, _) :: rest, a, w =>
    if Region.wanted o (yielded ops a.tmps) then ∃ v, (∀ w', I i w' → (execOp a.eval o).run P w' = .ok (.value v) w') ∧ wpMix3 P ops I Q rest (a.put o.dst v) w else wpMix3 P ops I Q rest (a.put o.dst undef) w
  | (_, o, false, l) :: rest, a, w =>
    if Region.wanted o (yielded ops a.tmps) then o.wp P a w (fun a' w' => (∀ x ∈ l, I x w') ∧ wpMix3 P ops I Q rest a' w') (calm Q) ∨ (o.asks P a w ∧ LetsOut (calm Q)) else wpMix3 P ops I Q rest (a.put o.dst undef) w

def picked3 (ops : Array Oper) (order : Order3) : List (Nat × Oper × Bool × List Nat) := order.filterMap fun x => (ops[x.1]?).map fun o => (x.1, o, x.2)

theorem wpAnyI3_mix {Q : Exit → Act → World → Prop} (all : Order3) (hs : Region.noSelect ops = true) (hlast : lastB3 md ops (free3 all) (fun j i => decide (i < ops.size) && kept3 all j i) = true) : ∀ (order : Order3) (live : List Nat) (listed : Array Bool) (a : Act) (w : World),
    Closed md ops listed → flagsB3 ops.size all order = true → orderB3 md ops order live listed = true → (∀ x ∈ live, I x w) → wpMix3 P ops I Q (picked3 ops order) a w → wpAnyI3 P md ops (free3 all) (fun j i => decide (i < ops.size) && kept3 all j i) I Q order.length listed a w
  | [], live, listed, a, w, _, _, hB, _, h => ⟨by simpa [orderB3] using hB, h⟩
  | (k, true, l) :: rest, live, listed, a, w, hcl, hF, hB, hI, h => by
    simp only [flagsB3, Bool.and_eq_true, beq_iff_eq] at hF
    simp only [orderB3, Bool.and_eq_true] at hB
    obtain ⟨⟨⟨hkl, hr⟩, hf⟩, hB'⟩ := hB
    have hIw : I k w := hI k (by simpa using hkl)
    have hr' : k ∈ Region.ready md ops listed := by simpa using hr
    obtain ⟨_, o, ho, _⟩ := mem_ready.1 hr'
    have hp : picked3 ops ((k, true, l) :: rest) = (k, o, true, l) :: picked3 ops rest := by simp [picked3, ho]
    rw [hp] at h
    simp only [wpMix3] at h
    by_cases hw : Region.wanted o (yielded ops a.tmps) = true
    · rw [if_pos hw] at h
      obtain ⟨v, hv, hrest⟩ := h
      exact wpAnyI3_first hlast hF.1.1 ho (Region.noSelect_spec hs) rest.length listed a w (Region.free_spec ho hf) hcl hr' (.inl ⟨hw, hv⟩) hIw
        (wpAnyI3_mix all hs hlast rest _ _ _ _ (hcl.list hr') hF.2 hB' hI hrest)
    · rw [if_neg hw] at h
      exact wpAnyI3_first hlast hF.1.1 ho (Region.noSelect_spec hs) rest.length listed a w (Region.free_spec ho hf) hcl hr' (.inr ⟨by simpa using hw, rfl⟩) hIw
        (wpAnyI3_mix all hs hlast rest _ _ _ _ (hcl.list hr') hF.2 hB' hI h)
  | (k, false, l) :: rest, live, listed, a, w, hcl, hF, hB, hI, h => by
    simp only [flagsB3, Bool.and_eq_true, beq_iff_eq, Bool.false_or] at hF
    simp only [orderB3, Bool.and_eq_true, beq_iff_eq] at hB
    obtain ⟨⟨hlv, hr⟩, hB'⟩ := hB
    have hr' : k ∈ Region.ready md ops listed := by rw [hr]; simp
    obtain ⟨_, o, ho, _⟩ := mem_ready.1 hr'
    have hp : picked3 ops ((k, false, l) :: rest) = (k, o, false, l) :: picked3 ops rest := by simp [picked3, ho]
    rw [hp] at h
    simp only [wpMix3] at h
    refine ⟨fun h0 => (by rw [hr] at h0; cases h0), fun i hi => ?_⟩
    rw [hr] at hi
    have hik : i = k := by simpa using hi
    subst hik
    unfold wpOp
    simp only [ho]
    have hll : ∀ x, (decide (x < ops.size) && kept3 all i x) = true → x ∈ l := fun x hx => by
      simp only [Bool.and_eq_true, decide_eq_true_eq] at hx
      have := List.all_eq_true.1 hF.1.2 x (List.mem_range.2 hx.1)
      rw [hx.2] at this
      simpa using this
    have step : ∀ (a' : Act) (w' : World), (∀ x ∈ l, I x w') → wpMix3 P ops I Q (picked3 ops rest) a' w' → ((free3 all i = true → w' = w) ∧ (free3 all i = false → ∀ x, (decide (x < ops.size) && kept3 all i x) = true → I x w')) ∧ wpAnyI3 P md ops (free3 all) (fun j i => decide (i < ops.size) && kept3 all j i) I Q rest.length (listed.setIfInBounds i true) a' w' := fun a' w' h1 h2 =>
      ⟨⟨fun hf => (by rw [hF.1.1] at hf; cases hf), fun _ x hx => h1 x (hll x hx)⟩, wpAnyI3_mix all hs hlast rest l _ _ _ (hcl.list hr') hF.2 hB' h1 h2⟩
    by_cases hw : Region.wanted o (yielded ops a.tmps) = true
    · rw [if_pos hw] at h ⊢
      exact h.imp (Oper.wp_mono fun a' w' ⟨h1, h2⟩ => step a' w' h1 h2) id
    · rw [if_neg hw] at h ⊢
      have h3 := step _ _ (fun x hx => hI x (by have := List.all_eq_true.1 hlv x hx; simpa using this)) h
      exact ⟨⟨fun _ => trivial, h3.1.2⟩, h3.2⟩

/-- **ONE WALK OF ONE ORDER SERVES EVERY ORDER.** -/
theorem wp_region_mix3 {id : Nat} {Q : Exit → Act → World → Prop} {a : Act} {w : World} {l : List Oper} (order : Order3) (live : List Nat) (I : Nat → World → Prop) (hm : P.follows .mixedOrders = true) (hB : mixB3 .any l.toArray order live = true)
    (hI : ∀ x ∈ live, I x w.drew) (h : wpMix3 P l.toArray I Q (picked3 l.toArray order) a w.drew) : (Code.region id l.toArray true).wp P Q a w := by
  simp only [mixB3, Bool.and_eq_true, beq_iff_eq] at hB
  obtain ⟨⟨⟨⟨h1, h2⟩, h3⟩, h4⟩, h5⟩ := hB
  refine wp_region_any hm (wpAny_of_I3 (I := I) (fr := free3 order) (kp := fun j i => decide (i < l.toArray.size) && kept3 order j i) _ _ _ _ ?_)
  have := wpAnyI3_mix order h1 h2 order live _ _ _ (Closed.start _ _ _) h3 h4 hI h
  rwa [h5] at this
theorem _root_.Go.Proofs.YtlhcmgjkhkcgcaaDoor.round.round_mix3 {n l : Nat} {id : Nat} {Q : Exit → Act → World → Prop} {a : Act} {w : World} {ls : List Oper} (order : Order3) (live : List Nat) (I : Nat → World → Prop) (hd : Go.Proofs.YtlhcmgjkhkcgcaaDoor.round.noDefer ls.toArray = true) (hQ : ∀ a w, ¬ Q .outgrown a w) (hm : P.follows .mixedOrders = true) (hB : mixB3 .any ls.toArray order live = true)
    (hI : ∀ x ∈ live, I x w.drew) (h : wpMix3 P ls.toArray I Q (picked3 ls.toArray order) a w.drew) : (Code.region id ls.toArray true).wpIn (Fence.wide.inRound l) n P Q a w := by
  simp only [mixB3, Bool.and_eq_true, beq_iff_eq] at hB
  obtain ⟨⟨⟨⟨h1, h2⟩, h3⟩, h4⟩, h5⟩ := hB
  refine wpIn_region_any hm (Go.Proofs.YtlhcmgjkhkcgcaaDoor.round.wpAnyIn_of_wpAny hd hQ _ _ _ _ (wpAny_of_I3 (I := I) (fr := free3 order) (kp := fun j i => decide (i < ls.toArray.size) && kept3 order j i) _ _ _ _ ?_))
  have := wpAnyI3_mix order h1 h2 order live _ _ _ (Closed.start _ _ _) h3 h4 hI h
  rwa [h5] at this

/-! ### The steps of the walk -/
section
variable {l : List (Nat × Oper × Bool × List Nat)} {Q : Exit → Act → World → Prop} {a : Act} {w : World} {o : Oper} {kl : List Nat} {i : Nat}

theorem mix3_nil (h : Q .normal a w) : wpMix3 P ops I Q [] a w := h

/-- A free operation. -/
theorem mix3_free {v : Value} (hg : Region.wanted o (yielded ops a.tmps) = true) (hv : ∀ w', I i w' → (execOp a.eval o).run P w' = .ok (.value v) w') (h : wpMix3 P ops I Q l (a.put o.dst v) w) :
    wpMix3 P ops I Q ((i, o, true, kl) :: l) a w := by
  simp only [wpMix3, if_pos hg]
  exact ⟨v, hv, h⟩

/-- An operation whose guard says no. -/
theorem mix3_skip {f : Bool} (hg : Region.wanted o (yielded ops a.tmps) = false) (h : wpMix3 P ops I Q l (a.put o.dst undef) w) : wpMix3 P ops I Q ((i, o, f, kl) :: l) a w := by
  cases f <;> simp only [wpMix3, hg] <;> exact h

/-- A big operation: it is walked as a list of one. -/
theorem mix3_big (hg : Region.wanted o (yielded ops a.tmps) = true)
    (h : ∀ K : Act → World → Prop, (∀ a' w', (∀ x ∈ kl, I x w') → wpMix3 P ops I Q l a' w' → K a' w') → wpList P ops (Exit.then K (calm Q)) [o] a w) : wpMix3 P ops I Q ((i, o, false, kl) :: l) a w := by
  simp only [wpMix3, if_pos hg]
  have := h (fun a' w' => (∀ x ∈ kl, I x w') ∧ wpMix3 P ops I Q l a' w') (fun _ _ h1 h2 => ⟨h1, h2⟩)
  unfold wpList at this
  rw [if_pos hg] at this
  rcases this with this | ⟨h1, a0, w0, h2⟩
  · refine .inl ?_
    unfold Oper.wp at *
    generalize (execOp a.eval o).run P w = r at *
    cases r with
    | ok n w' =>
      cases n <;> simp only [Oper.upon] at this ⊢
      case enter f args =>
        refine Calls.mono this fun e w'' he => ?_
        cases e with
        | returned u => exact he
        | panicked c => exact he
        | outgrown => obtain ⟨a0, w0, h0⟩ := he; exact ⟨a0, w0, h0⟩
      all_goals exact this
    | halt x w' =>
      cases x <;> simp only [Oper.upon] at this ⊢
      case panic u => exact this
  · exact .inr ⟨h1, a0, w0, h2⟩
end
end
/-- Two classes: of the operations ahead of number p, of the others. -/
def by2 (p : Nat) (A B : World → Prop) : Nat → World → Prop := fun i W => if i < p then A W else B W
theorem by2_lo {p i : Nat} {A B : World → Prop} {W : World} (h : i < p) : by2 p A B i W ↔ A W := by unfold by2; rw [if_pos h]
theorem by2_hi {p i : Nat} {A B : World → Prop} {W : World} (h : ¬ i < p) : by2 p A B i W ↔ B W := by unfold by2; rw [if_neg h]
theorem by2_both {p : Nat} {A B : World → Prop} {W : World} (a : A W) (b : B W) (i : Nat) : by2 p A B i W := by unfold by2; split; exact a; exact b
theorem by2_only {p : Nat} {A B : World → Prop} {W : World} (b : B W) {l : List Nat} (h : (l.all fun i => decide (p ≤ i)) = true) : ∀ x ∈ l, by2 p A B x W := fun x hx => (by2_hi (by have := List.all_eq_true.1 h x hx; simp at this; omega)).2 b
end Go.Proofs.YtlhcmgjkhkcgcaaDoor.mix
