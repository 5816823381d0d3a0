/- A round of a range over a function: a region in a round is walked as everywhere else (no 'defer' in it), also one that draws its order, by the one order of Mix. No program in sight. -/
import Derived.RangeFuncNested
import Derived.RangeFuncBound
import Derived.RangeFuncCalls
import Derived.RangeFuncLeaves
import Derived.OrdersIn
import Derived.TacticsIn
import Derived.Test.YtlhcmgjkhkcgcaaDoorMix
namespace Go.Proofs.YtlhcmgjkhkcgcaaDoor.round
open Go Go.Proofs.YtlhcmgjkhkcgcaaDoor.mix

section
variable {P : Program} {ops : Array Oper} {n l : Nat} {Q : Exit → Act → World → Prop} {a : Act} {w : World}

theorem opIn_of_op {o : Oper} {K : Act → World → Prop} (hd : ∀ c, o.op ≠ .defer c) (hQ : ∀ a w, ¬ Q .outgrown a w) (h : o.wp P a w K Q ∨ (o.asks P a w ∧ LetsOut Q)) : o.wpIn (Fence.wide.inRound l) n P a w K Q := by
  rcases h with h | ⟨_, a0, w0, h⟩
  case inr => exact (hQ _ _ h).elim
  refine ⟨fun _ _ => trivial, ?_⟩
  rw [Fence.inRound_round, Oper.semAt_some l a.eval o hd]
  unfold Oper.wp at h
  generalize hr : (execOp a.eval o).run P w = r at *
  cases r with
  | ok x w' =>
    cases x <;> simp only [Oper.upon, Oper.uponIn] at h ⊢
    case enter f args =>
      refine ⟨fun e => (by cases e), ?_⟩
      exact CallsIn.inRound l (callsIn_wide.2 h)
    case row row args =>
      refine ⟨fun e => (by cases e), fun c cs _ => ?_⟩
      obtain ⟨v, w2, r, s⟩ := h c cs
      exact ⟨v, w2, r, stepsIn_wide.2 s⟩
    all_goals exact h
  | halt x w' =>
    cases x <;> simp only [Oper.upon, Oper.uponIn] at h ⊢
    case panic u => exact h

def noDefer (ops : Array Oper) : Bool := ops.toList.all fun o => match o.op with | .defer _ => false | _ => true
theorem noDefer_spec (h : noDefer ops = true) {i : Nat} {o : Oper} (hi : ops[i]? = some o) : ∀ c, o.op ≠ .defer c := by
  intro c hc
  have h1 := List.all_eq_true.1 h o (by simpa using Array.mem_of_getElem? hi)
  rw [hc] at h1
  cases h1
theorem wpOpIn_of_wpOp {i : Nat} {K : Act → World → Prop} (hd : noDefer ops = true) (hQ : ∀ a w, ¬ Q .outgrown a w) (h : wpOp P ops Q i K a w) : wpOpIn (Fence.wide.inRound l) n P ops Q i K a w := by
  unfold wpOp at h
  unfold wpOpIn
  cases ho : ops[i]? with
  | none => simpa only [ho] using h
  | some o =>
    simp only [ho] at h ⊢
    split
    · rename_i hw
      rw [if_pos hw] at h
      exact opIn_of_op (noDefer_spec hd ho) hQ h
    · rename_i hw
      rw [if_neg hw] at h
      exact ⟨fun _ _ => trivial, h⟩
theorem wpAnyIn_of_wpAny {md : Region.Mode} (hd : noDefer ops = true) (hQ : ∀ a w, ¬ Q .outgrown a w) : ∀ (fuel : Nat) (listed : Array Bool) (a : Act) (w : World), wpAny P md ops Q fuel listed a w → wpAnyIn (Fence.wide.inRound l) n P md ops Q fuel listed a w
  | 0, _, _, _, h => h
  | fuel + 1, _, _, _, h => ⟨h.1, fun i hi => wpOpIn_mono (fun a w h => wpAnyIn_of_wpAny hd hQ fuel _ a w h) (wpOpIn_of_wpOp hd hQ (h.2 i hi))⟩
theorem wpOpsIn_of_wpOps (hd : noDefer ops = true) (hQ : ∀ a w, ¬ Q .outgrown a w) : ∀ (is : List Nat) (a : Act) (w : World), wpOps P ops Q is a w → wpOpsIn (Fence.wide.inRound l) n P ops Q is a w
  | [], _, _, h => h
  | i :: is, a, w, h => by
    rw [wpOps_cons] at h
    rw [wpOpsIn_cons]
    exact wpOpIn_mono (fun a w h => wpOpsIn_of_wpOps hd hQ is a w h) (wpOpIn_of_wpOp hd hQ h)

/-- A region in the text's order. -/
theorem round_region {id : Nat} {ls : List Oper} (hd : noDefer ls.toArray = true) (hQ : ∀ a w, ¬ Q .outgrown a w) (h : wpList P ls.toArray Q ls a w) : (Code.region id ls.toArray false).wpIn (Fence.wide.inRound l) n P Q a w := by
  refine wpIn_region (wpOpsIn_of_wpOps hd hQ _ _ _ ?_)
  rw [List.range_eq_range', show ls.toArray.size = ls.length by simp, wpOps_eq_wpList ls 0 (by simp)]
  exact h
/-! ### The one order, an operation that makes memory being let come ahead of a free one that does not wait for it -/
section
variable {md : Region.Mode} {I : World → Prop}
def orderB2 (md : Region.Mode) (ops : Array Oper) : Order → Array Bool → Bool
  | [], listed => (Region.ready md ops listed).isEmpty
  | (k, true, kp) :: rest, listed => kp && (Region.ready md ops listed).contains k && Region.free md ops listed k && orderB2 md ops rest (listed.setIfInBounds k true)
  | (k, false, kp) :: rest, listed => (!(rest.any fun x => x.2.1 || x.2.2) || kp) && (Region.ready md ops listed == [k]) && orderB2 md ops rest (listed.setIfInBounds k true)

def mixB2 (md : Region.Mode) (ops : Array Oper) (order : Order) : Bool :=
  Region.noSelect ops && lastB md ops (isFree order) (isKept order) && flagsB order order && orderB2 md ops order (Array.replicate ops.size false) && (order.length == ops.size)

theorem wpAnyI_mix2 {Q : Exit → Act → World → Prop} (all : Order) (hs : Region.noSelect ops = true) (hlast : lastB md ops (isFree all) (isKept all) = true) : ∀ (order : Order) (listed : Array Bool) (a : Act) (w : World),
    Closed md ops listed → flagsB all order = true → orderB2 md ops order listed = true → ((order.any fun x => x.2.1 || x.2.2) = true → I w) → wpMix P ops I Q (picked ops order) a w → wpAnyI P md ops (isKept all) I Q order.length listed a w
  | [], listed, a, w, _, _, hB, _, h => ⟨by simpa [orderB2] using hB, h⟩
  | (k, true, kp) :: rest, listed, a, w, hcl, hF, hB, hI, h => by
    simp only [flagsB, Bool.and_eq_true, beq_iff_eq] at hF
    simp only [orderB2, Bool.and_eq_true] at hB
    obtain ⟨⟨⟨hkp, hr⟩, hf⟩, hB'⟩ := hB
    have hIw : I w := hI (by simp)
    have hr' : k ∈ Region.ready md ops listed := by simpa using hr
    obtain ⟨_, o, ho, _⟩ := mem_ready.1 hr'
    have hp : picked ops ((k, true, kp) :: rest) = (o, true, kp) :: picked ops rest := by simp [picked, ho]
    rw [hp] at h
    simp only [wpMix] at h
    by_cases hw : Region.wanted o (yielded ops a.tmps) = true
    · rw [if_pos hw] at h
      obtain ⟨v, hv, hrest⟩ := h
      exact wpAnyI_first hlast hF.1.1 ho (Region.noSelect_spec hs) rest.length listed a w (Region.free_spec ho hf) hcl hr' (.inl ⟨hw, hv⟩) hIw
        (wpAnyI_mix2 all hs hlast rest _ _ _ (hcl.list hr') hF.2 hB' (fun _ => hIw) hrest)
    · rw [if_neg hw] at h
      exact wpAnyI_first hlast hF.1.1 ho (Region.noSelect_spec hs) rest.length listed a w (Region.free_spec ho hf) hcl hr' (.inr ⟨by simpa using hw, rfl⟩) hIw
        (wpAnyI_mix2 all hs hlast rest _ _ _ (hcl.list hr') hF.2 hB' (fun _ => hIw) h)
  | (k, false, kp) :: rest, listed, a, w, hcl, hF, hB, hI, h => by
    simp only [flagsB, Bool.and_eq_true, beq_iff_eq] at hF
    simp only [orderB2, Bool.and_eq_true, beq_iff_eq] at hB
    obtain ⟨⟨hkp, hr⟩, hB'⟩ := hB
    have hr' : k ∈ Region.ready md ops listed := by rw [hr]; simp
    obtain ⟨_, o, ho, _⟩ := mem_ready.1 hr'
    have hp : picked ops ((k, false, kp) :: rest) = (o, false, kp) :: picked ops rest := by simp [picked, ho]
    rw [hp] at h
    simp only [wpMix] at h
    refine ⟨fun h0 => (by rw [hr] at h0; cases h0), fun i hi => ?_⟩
    rw [hr] at hi
    have hik : i = k := by simpa using hi
    subst hik
    unfold wpOp
    simp only [ho]
    have step : ∀ (a' : Act) (w' : World), (kp = true → I w') → wpMix P ops I Q (picked ops rest) a' w' → (isKept all i = true → I w') ∧ wpAnyI P md ops (isKept all) I Q rest.length (listed.setIfInBounds i true) a' w' := fun a' w' h1 h2 =>
      ⟨fun hk => h1 (by rw [← hF.1.2]; exact hk), wpAnyI_mix2 all hs hlast rest _ _ _ (hcl.list hr') hF.2 hB' (fun hany => h1 (by rw [hany] at hkp; simpa using hkp)) h2⟩
    by_cases hw : Region.wanted o (yielded ops a.tmps) = true
    · rw [if_pos hw] at h ⊢
      exact h.imp (Oper.wp_mono fun a' w' ⟨h1, h2⟩ => step a' w' h1 h2) id
    · rw [if_neg hw] at h ⊢
      exact step _ _ (fun hk => hI (by simp [hk])) h

end
/-- A region that draws its order. -/
theorem round_mix {id : Nat} {ls : List Oper} (order : Order) (I : World → Prop) (hd : noDefer ls.toArray = true) (hQ : ∀ a w, ¬ Q .outgrown a w) (hm : P.follows .mixedOrders = true) (hB : mixB2 .any ls.toArray order = true)
    (hI : I w.drew) (h : wpMix P ls.toArray I Q (picked ls.toArray order) a w.drew) : (Code.region id ls.toArray true).wpIn (Fence.wide.inRound l) n P Q a w := by
  simp only [mixB2, Bool.and_eq_true, beq_iff_eq] at hB
  obtain ⟨⟨⟨⟨h1, h2⟩, h3⟩, h4⟩, h5⟩ := hB
  refine wpIn_region_any hm (wpAnyIn_of_wpAny hd hQ _ _ _ _ (wpAny_of_I (kp := isKept order) (I := I) _ _ _ _ ?_))
  have := wpAnyI_mix2 order h1 h2 order _ _ _ (Closed.start _ _ _) h3 h4 (fun _ => hI) h
  rwa [h5] at this
end
end Go.Proofs.YtlhcmgjkhkcgcaaDoor.round
