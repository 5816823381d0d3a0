/- A region that draws its order, where at some points one of two operations that make memory may come first: both ways are walked. No function of the program in sight. -/
import Derived.Test.YtjnplcajajdkiaaDoorMix
namespace Go.Proofs.YtjnplcajajdkiaaDoor.mix
open Go

/-- What is handed in: the operations' numbers in order, and where two ways part. -/
inductive Plan where
  | done : Plan
  | step : Nat → Plan → Plan
  | fork : Nat → Plan → Nat → Plan → Plan

def Plan.any (fr : Nat → Bool) : Plan → Bool
  | .done => false
  | .step k r => fr k || r.any fr
  | .fork k r k' r' => fr k || r.any fr || fr k' || r'.any fr

def Plan.len : Plan → Nat
  | .done => 0
  | .step _ r => r.len + 1
  | .fork _ r _ _ => r.len + 1

def Plan.ofList : List Nat → Plan → Plan
  | [], p => p
  | k :: l, p => .step k (Plan.ofList l p)

inductive PlanO where
  | done : PlanO
  | free : Oper → PlanO → PlanO
  | big : Oper → Bool → PlanO → PlanO
  | fork : Oper → Bool → PlanO → Oper → Bool → PlanO → PlanO

def Plan.pick (ops : Array Oper) (fr kp : Nat → Bool) : Plan → PlanO
  | .done => .done
  | .step k r => bif fr k then .free (ops.getD k default) (r.pick ops fr kp) else .big (ops.getD k default) (kp k) (r.pick ops fr kp)
  | .fork k r k' r' => .fork (ops.getD k default) (kp k) (r.pick ops fr kp) (ops.getD k' default) (kp k') (r'.pick ops fr kp)

def planB (md : Region.Mode) (ops : Array Oper) (fr kp : Nat → Bool) : Plan → Array Bool → Bool
  | .done, listed => (Region.ready md ops listed).isEmpty
  | .step k r, listed =>
    (bif fr k then kp k && (Region.ready md ops listed).contains k && Region.free md ops listed k else (!r.any (fun i => fr i || kp i) || kp k) && (Region.ready md ops listed == [k])) && planB md ops fr kp r (listed.setIfInBounds k true)
  | .fork k r k' r', listed =>
    !fr k && !fr k' && (!r.any (fun i => fr i || kp i) || kp k) && (!r'.any (fun i => fr i || kp i) || kp k') && (r.len == r'.len) && (Region.ready md ops listed == [k, k']) && planB md ops fr kp r (listed.setIfInBounds k true) && planB md ops fr kp r' (listed.setIfInBounds k' true)

def isIn (l : List Nat) (k : Nat) : Bool := l.contains k

def forkB (md : Region.Mode) (ops : Array Oper) (fr kp : List Nat) (p : Plan) : Bool :=
  Region.noSelect ops && lastB md ops (isIn fr) (isIn kp) && planB md ops (isIn fr) (isIn kp) p (Array.replicate ops.size false) && (p.len == ops.size)

section
variable {P : Program} {ops : Array Oper} {md : Region.Mode} {I : World → Prop} {Q : Exit → Act → World → Prop}

def bigC (P : Program) (ops : Array Oper) (I : World → Prop) (Q : Exit → Act → World → Prop) (o : Oper) (kp : Bool) (X : Act → World → Prop) (a : Act) (w : World) : Prop :=
  if Region.wanted o (yielded ops a.tmps) then o.wp P a w (fun a' w' => (kp = true → I w') ∧ X a' w') (calm Q) ∨ (o.asks P a w ∧ LetsOut (calm Q)) else X (a.put o.dst undef) w

/-- THE WALK. -/
def wpPlan (P : Program) (ops : Array Oper) (I : World → Prop) (Q : Exit → Act → World → Prop) : PlanO → Act → World → Prop
  | .done, a, w => Q .normal a w
  | .free o r, a, w =>
    if Region.wanted o (yielded ops a.tmps) then ∃ v, (∀ w', I w' → (execOp a.eval o).run P w' = .ok (.value v) w') ∧ wpPlan P ops I Q r (a.put o.dst v) w else wpPlan P ops I Q r (a.put o.dst undef) w
  | .big o kp r, a, w => bigC P ops I Q o kp (wpPlan P ops I Q r) a w
  | .fork o kp r o' kp' r', a, w => bigC P ops I Q o kp (wpPlan P ops I Q r) a w ∧ bigC P ops I Q o' kp' (wpPlan P ops I Q r') a w

theorem bigC_op {o : Oper} {kp : Bool} {X Y : Act → World → Prop} {k : Nat} {kpf : Nat → Bool} {a : Act} {w : World} (ho : ops[k]? = some o) (hk : kp = kpf k) (hX : ∀ a' w', (kpf k = true → I w') → X a' w' → Y a' w') (hI : kpf k = true → I w)
    (h : bigC P ops I Q o kp X a w) : wpOp P ops (calm Q) k (fun a' w' => (kpf k = true → I w') ∧ Y a' w') a w := by
  subst hk
  unfold wpOp
  simp only [ho]
  unfold bigC at h
  split at h
  · rename_i hw
    rw [if_pos hw]
    exact h.imp (Oper.wp_mono fun a' w' ⟨h1, h2⟩ => ⟨h1, hX _ _ h1 h2⟩) id
  · rename_i hw
    rw [if_neg hw]
    exact ⟨hI, hX _ _ hI h⟩

theorem getD_of {k : Nat} {o : Oper} (ho : ops[k]? = some o) : ops.getD k default = o := by simp [Array.getD_eq_getD_getElem?, ho]

theorem wpAnyI_plan (fr kp : Nat → Bool) (hs : Region.noSelect ops = true) (hlast : lastB md ops fr kp = true) : ∀ (p : Plan) (listed : Array Bool) (a : Act) (w : World),
    Closed md ops listed → planB md ops fr kp p listed = true → (p.any (fun i => fr i || kp i) = true → I w) → wpPlan P ops I Q (p.pick ops fr kp) a w → wpAnyI P md ops kp I Q p.len listed a w
  | .done, listed, a, w, _, hB, _, h => ⟨by simpa [planB] using hB, h⟩
  | .step k r, listed, a, w, hcl, hB, hI, h => by
    simp only [planB, Bool.and_eq_true] at hB
    obtain ⟨hB, hB'⟩ := hB
    cases hf : fr k with
    | true =>
      rw [hf, cond_true] at hB
      simp only [Bool.and_eq_true] at hB
      obtain ⟨⟨hkp, hr⟩, hfree⟩ := hB
      have hIw : I w := hI (by simp [Plan.any, hf])
      have hr' : k ∈ Region.ready md ops listed := by simpa using hr
      obtain ⟨_, o, ho, _⟩ := mem_ready.1 hr'
      simp only [Plan.pick, hf, cond_true, getD_of ho, wpPlan] at h
      by_cases hw : Region.wanted o (yielded ops a.tmps) = true
      · rw [if_pos hw] at h
        obtain ⟨v, hv, hrest⟩ := h
        exact wpAnyI_first hlast hf ho (Region.noSelect_spec hs) r.len listed a w (Region.free_spec ho hfree) hcl hr' (.inl ⟨hw, hv⟩) hIw
          (wpAnyI_plan fr kp hs hlast r _ _ _ (hcl.list hr') hB' (fun _ => hIw) hrest)
      · rw [if_neg hw] at h
        exact wpAnyI_first hlast hf ho (Region.noSelect_spec hs) r.len listed a w (Region.free_spec ho hfree) hcl hr' (.inr ⟨by simpa using hw, rfl⟩) hIw
          (wpAnyI_plan fr kp hs hlast r _ _ _ (hcl.list hr') hB' (fun _ => hIw) h)
    | false =>
      rw [hf, cond_false] at hB
      simp only [Bool.and_eq_true, beq_iff_eq] at hB
      obtain ⟨hkp, hr⟩ := hB
      have hr' : k ∈ Region.ready md ops listed := by rw [hr]; simp
      obtain ⟨_, o, ho, _⟩ := mem_ready.1 hr'
      simp only [Plan.pick, hf, cond_false, getD_of ho, wpPlan] at h
      refine ⟨fun h0 => (by rw [hr] at h0; cases h0), fun i hi => ?_⟩
      rw [hr] at hi
      obtain rfl : i = k := by simpa using hi
      exact bigC_op ho rfl (fun a' w' h1 h2 => wpAnyI_plan fr kp hs hlast r _ _ _ (hcl.list hr') hB' (fun hany => h1 (by simpa [hany] using hkp)) h2) (fun hk => hI (by simp [Plan.any, hk])) h
  | .fork k r k' r', listed, a, w, hcl, hB, hI, h => by
    simp only [planB, Bool.and_eq_true, beq_iff_eq] at hB
    obtain ⟨⟨⟨⟨⟨⟨⟨hf, hf'⟩, hkp⟩, hkp'⟩, hlen⟩, hr⟩, hB1⟩, hB2⟩ := hB
    have hr1 : k ∈ Region.ready md ops listed := by rw [hr]; simp
    have hr2 : k' ∈ Region.ready md ops listed := by rw [hr]; simp
    obtain ⟨_, o, ho, _⟩ := mem_ready.1 hr1
    obtain ⟨_, o', ho', _⟩ := mem_ready.1 hr2
    simp only [Plan.pick, getD_of ho, getD_of ho', wpPlan] at h
    refine ⟨fun h0 => (by rw [hr] at h0; cases h0), fun i hi => ?_⟩
    rw [hr] at hi
    simp only [List.mem_cons, List.not_mem_nil, or_false] at hi
    by_cases hik : i = k
    · subst hik
      exact bigC_op ho rfl (fun a' w' h1 h2 => wpAnyI_plan fr kp hs hlast r _ _ _ (hcl.list hr1) hB1 (fun hany => h1 (by simpa [hany] using hkp)) h2) (fun hk => hI (by simp [Plan.any, hk])) h.1
    · obtain rfl : i = k' := by rcases hi with hi | hi; exact absurd hi hik; exact hi
      rw [hlen]
      exact bigC_op ho' rfl (fun a' w' h1 h2 => wpAnyI_plan fr kp hs hlast r' _ _ _ (hcl.list hr2) hB2 (fun hany => h1 (by simpa [hany] using hkp')) h2) (fun hk => hI (by simp [Plan.any, hk])) h.2

/-- **BOTH WAYS WALKED SERVE EVERY ORDER.** -/
theorem wp_region_fork {id : Nat} {a : Act} {w : World} {l : List Oper} (fr kp : List Nat) (p : Plan) (I : World → Prop) (hm : P.follows .mixedOrders = true) (hB : forkB .any l.toArray fr kp p = true)
    (hI : I w.drew) (h : wpPlan P l.toArray I Q (p.pick l.toArray (isIn fr) (isIn kp)) a w.drew) : (Code.region id l.toArray true).wp P Q a w := by
  simp only [forkB, Bool.and_eq_true, beq_iff_eq] at hB
  obtain ⟨⟨⟨h1, h2⟩, h3⟩, h4⟩ := hB
  refine wp_region_any hm (wpAny_of_I (kp := isIn kp) (I := I) _ _ _ _ ?_)
  have := wpAnyI_plan (isIn fr) (isIn kp) h1 h2 p _ _ _ (Closed.start _ _ _) h3 (fun _ => hI) h
  rwa [h4] at this

theorem plan_done {a : Act} {w : World} (h : Q .normal a w) : wpPlan P ops I Q .done a w := h

theorem plan_free {a : Act} {w : World} {o : Oper} {r : PlanO} {v : Value} (hg : Region.wanted o (yielded ops a.tmps) = true) (hv : ∀ w', I w' → (execOp a.eval o).run P w' = .ok (.value v) w') (h : wpPlan P ops I Q r (a.put o.dst v) w) :
    wpPlan P ops I Q (.free o r) a w := by
  simp only [wpPlan, if_pos hg]
  exact ⟨v, hv, h⟩

theorem plan_skip {a : Act} {w : World} {o : Oper} {r : PlanO} (hg : Region.wanted o (yielded ops a.tmps) = false) (h : wpPlan P ops I Q r (a.put o.dst undef) w) : wpPlan P ops I Q (.free o r) a w := by
  simp only [wpPlan, hg]
  exact h

theorem bigC_mk {a : Act} {w : World} {o : Oper} {kp : Bool} {X : Act → World → Prop} (hg : Region.wanted o (yielded ops a.tmps) = true)
    (h : ∀ K : Act → World → Prop, (∀ a' w', (kp = true → I w') → X a' w' → K a' w') → wpList P ops (Exit.then K (calm Q)) [o] a w) : bigC P ops I Q o kp X a w := by
  unfold bigC
  rw [if_pos hg]
  have := h (fun a' w' => (kp = true → I w') ∧ X a' w') (fun _ _ h1 h2 => ⟨h1, h2⟩)
  unfold wpList at this
  rw [if_pos hg] at this
  rcases this with this | ⟨h1, a0, w0, h2⟩
  · refine .inl ?_
    unfold Oper.wp at *
    generalize (execOp a.eval o).run P w = r at *
    cases r with
    | ok n w' =>
      cases n <;> simp only [Oper.upon] at this ⊢
      case enter f args =>
        refine Calls.mono this fun e w'' he => ?_
        cases e with
        | returned u => exact he
        | panicked c => exact he
        | outgrown => obtain ⟨a0, w0, h0⟩ := he; exact ⟨a0, w0, h0⟩
      all_goals exact this
    | halt x w' =>
      cases x <;> simp only [Oper.upon] at this ⊢
      case panic u => exact this
  · exact .inr ⟨h1, a0, w0, h2⟩

theorem bigC_skip {a : Act} {w : World} {o : Oper} {kp : Bool} {X : Act → World → Prop} (hg : Region.wanted o (yielded ops a.tmps) = false) (h : X (a.put o.dst undef) w) : bigC P ops I Q o kp X a w := by
  unfold bigC
  rw [if_neg (by simp [hg])]
  exact h

theorem plan_big {a : Act} {w : World} {o : Oper} {kp : Bool} {r : PlanO} (h : bigC P ops I Q o kp (wpPlan P ops I Q r) a w) : wpPlan P ops I Q (.big o kp r) a w := h
theorem plan_fork {a : Act} {w : World} {o o' : Oper} {kp kp' : Bool} {r r' : PlanO} (h : bigC P ops I Q o kp (wpPlan P ops I Q r) a w) (h' : bigC P ops I Q o' kp' (wpPlan P ops I Q r') a w) : wpPlan P ops I Q (.fork o kp r o' kp' r') a w := ⟨h, h'⟩

end
end Go.Proofs.YtjnplcajajdkiaaDoor.mix
