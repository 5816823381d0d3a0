/- A region that draws its order, walked ONCE, in one order that is handed in: operations that yield one value in every world of a class ('free') are taken as early as they may come up; the others ('big': calls, stores, whatever makes memory) come up one at a time. No function of the program in sight. -/
import Derived.Orders
import Derived.Tactics
import Derived.KernelRfl
import Derived.Laws.World
namespace Go.Proofs.YtjnplcajajdkiaaDoor.mix
open Go

section
variable {P : Program} {ops : Array Oper} {md : Region.Mode} {I : World → Prop} {fr kp : Nat → Bool}

/-- Q without its panics: no operation of the region panics. -/
def calm (Q : Exit → Act → World → Prop) : Exit → Act → World → Prop
  | .normal, a, w => Q .normal a w
  | .outgrown, a, w => Q .outgrown a w
  | _, _, _ => False

/-- Operation j waits for operation i, by an edge. -/
def waits (md : Region.Mode) (ops : Array Oper) (j i : Nat) : Bool :=
  match ops[j]? with
  | some oj => oj.after.any fun e => Region.binds md e && e.on == i
  | none => false

/-- .. by a chain of edges. -/
def reach (md : Region.Mode) (ops : Array Oper) : Nat → Nat → Nat → Bool
  | 0, _, _ => false
  | f + 1, j, i => waits md ops j i || (List.range ops.size).any fun x => waits md ops j x && reach md ops f x i

/-- The operations that operation j waits for. -/
def preds (md : Region.Mode) (ops : Array Oper) (j : Nat) : List Nat :=
  match ops[j]? with
  | some oj => (oj.after.toList.filter (fun e => Region.binds md e)).map (·.on)
  | none => []

/-- .. and all that these wait for. -/
def anc (md : Region.Mode) (ops : Array Oper) : Nat → List Nat → List Nat → List Nat
  | 0, _, seen => seen
  | _ + 1, [], seen => seen
  | f + 1, x :: todo, seen => if seen.contains x then anc md ops f todo seen else anc md ops f (preds md ops x ++ todo) (x :: seen)

/-- An operation that need not keep the class waits for every free one. -/
def lastB (md : Region.Mode) (ops : Array Oper) (fr kp : Nat → Bool) : Bool :=
  (List.range ops.size).all fun j => kp j || ((fun l => (List.range ops.size).all fun i => !fr i || List.contains l i) (anc md ops 2000 (preds md ops j) []))

theorem waits_spec {j i : Nat} (h : waits md ops j i = true) : ∃ oj, ops[j]? = some oj ∧ ∃ e ∈ oj.after, Region.binds md e = true ∧ e.on = i := by
  unfold waits at h
  cases ho : ops[j]? with
  | none => rw [ho] at h; cases h
  | some oj =>
    rw [ho] at h
    obtain ⟨e, he, hb⟩ := Array.any_eq_true'.1 h
    simp only [Bool.and_eq_true, beq_iff_eq] at hb
    exact ⟨oj, rfl, e, he, hb.1, hb.2⟩

/-- What is listed has all listed that it waits for. -/
def Closed (md : Region.Mode) (ops : Array Oper) (listed : Array Bool) : Prop :=
  ∀ (x : Nat) ox, ops[x]? = some ox → listed.getD x false = true → ∀ e ∈ ox.after, Region.binds md e = true → listed.getD e.on false = true

theorem Closed.list {listed : Array Bool} (h : Closed md ops listed) {j : Nat} (hj : j ∈ Region.ready md ops listed) : Closed md ops (listed.setIfInBounds j true) := by
  obtain ⟨_, oj, hoj, hall⟩ := mem_ready.1 hj
  intro x ox hox hx e he hb
  by_cases hjx : j = x
  · subst hjx
    rw [hoj] at hox
    cases hox
    exact getD_set_true (hall e he hb)
  · rw [getD_set_ne false hjx] at hx
    exact getD_set_true (h x ox hox hx e he hb)

theorem Closed.start (md : Region.Mode) (ops : Array Oper) (n : Nat) : Closed md ops (Array.replicate n false) := by
  intro x ox _ hx
  exfalso
  rcases Nat.lt_or_ge x n with h | h
  · simp [h] at hx
  · simp [Array.getElem?_eq_none (show (Array.replicate n false).size ≤ x by simpa using h)] at hx

theorem preds_listed {listed : Array Bool} {j : Nat} (hj : ∀ oj, ops[j]? = some oj → ∀ e ∈ oj.after, Region.binds md e = true → listed.getD e.on false = true) : ∀ x ∈ preds md ops j, listed.getD x false = true := by
  intro x hx
  unfold preds at hx
  cases ho : ops[j]? with
  | none => rw [ho] at hx; cases hx
  | some oj =>
    rw [ho] at hx
    obtain ⟨e, he, rfl⟩ := List.mem_map.1 hx
    obtain ⟨he, hb⟩ := List.mem_filter.1 he
    exact hj oj ho e (by simpa using he) hb

theorem anc_listed {listed : Array Bool} (hc : Closed md ops listed) : ∀ (f : Nat) (todo seen : List Nat), (∀ x ∈ todo, listed.getD x false = true) → (∀ x ∈ seen, listed.getD x false = true) → ∀ x ∈ anc md ops f todo seen, listed.getD x false = true
  | 0, _, _, _, hs => hs
  | _ + 1, [], _, _, hs => hs
  | f + 1, x :: todo, seen, ht, hs => by
    unfold anc
    have hx := ht x (by simp)
    split
    · exact anc_listed hc f todo seen (fun y hy => ht y (by simp [hy])) hs
    · refine anc_listed hc f _ _ (fun y hy => ?_) (fun y hy => ?_)
      · rcases List.mem_append.1 hy with hy | hy
        · exact preds_listed (fun ox hox e he hb => hc x ox hox hx e he hb) y hy
        · exact ht y (by simp [hy])
      · rcases List.mem_cons.1 hy with rfl | hy
        · exact hx
        · exact hs y hy

theorem reach_false {listed : Array Bool} (hc : Closed md ops listed) {i : Nat} (hi : listed.getD i false = false) (j : Nat) (hj : ∀ oj, ops[j]? = some oj → ∀ e ∈ oj.after, Region.binds md e = true → listed.getD e.on false = true) :
    (anc md ops 2000 (preds md ops j) []).contains i = false := by
  cases hr : (anc md ops 2000 (preds md ops j) []).contains i with
  | false => rfl
  | true =>
    have := anc_listed hc 2000 (preds md ops j) [] (preds_listed hj) (fun _ h => by cases h) i (by simpa using hr)
    rw [hi] at this
    cases this

theorem lastB_spec {fr kp : Nat → Bool} (h : lastB md ops fr kp = true) {i j : Nat} {oj : Oper} (hoj : ops[j]? = some oj) (hi : i < ops.size) (hf : fr i = true)
    (hno : (anc md ops 2000 (preds md ops j) []).contains i = false) : kp j = true := by
  have hj : j < ops.size := (Array.getElem?_eq_some_iff.1 hoj).1
  have h1 := List.all_eq_true.1 h j (List.mem_range.2 hj)
  rcases Bool.or_eq_true_iff.1 h1 with h1 | h1
  · exact h1
  · have h2 := List.all_eq_true.1 h1 i (List.mem_range.2 hi)
    rw [hf, hno] at h2
    cases h2

/-- Whatever order is picked from here on, the class being kept by each operation that must. -/
def wpAnyI (P : Program) (md : Region.Mode) (ops : Array Oper) (kp : Nat → Bool) (I : World → Prop) (Q : Exit → Act → World → Prop) : Nat → Array Bool → Act → World → Prop
  | 0, listed, a, w => Region.ready md ops listed = [] ∧ Q .normal a w
  | fuel + 1, listed, a, w =>
    (Region.ready md ops listed = [] → Q .normal a w) ∧
    ∀ i ∈ Region.ready md ops listed, wpOp P ops (calm Q) i (fun a' w' => (kp i = true → I w') ∧ wpAnyI P md ops kp I Q fuel (listed.setIfInBounds i true) a' w') a w

theorem wpOp_loose {Q : Exit → Act → World → Prop} {i : Nat} {K K' : Act → World → Prop} (h : ∀ a w, K a w → K' a w) {a : Act} {w : World} (hh : wpOp P ops (calm Q) i K a w) : wpOp P ops Q i K' a w := by
  unfold wpOp at *
  split
  · rename_i ho; simp only [ho] at hh; exact h _ _ hh
  · rename_i o ho
    simp only [ho] at hh
    split
    · rename_i hw
      simp only [hw, if_true] at hh
      rcases hh with hh | ⟨h1, a0, w0, h2⟩
      · refine .inl ?_
        unfold Oper.wp at *
        generalize (execOp a.eval o).run P w = r at *
        cases r with
        | ok n w' =>
          cases n <;> simp only [Oper.upon] at hh ⊢
          case enter f args =>
            refine Calls.mono hh fun e w'' he => ?_
            cases e with
            | returned u => exact h _ _ he
            | panicked c => exact he.elim
            | outgrown => obtain ⟨a0, w0, h0⟩ := he; exact ⟨a0, w0, h0⟩
          case row row args => exact Rows.mono hh fun u w'' he => h _ _ he
          all_goals exact h _ _ hh
        | halt x w' =>
          cases x <;> simp only [Oper.upon] at hh ⊢
          case panic u => exact hh.elim
      · exact .inr ⟨h1, a0, w0, h2⟩
    · rename_i hw
      simp only [hw] at hh
      exact h _ _ hh

theorem wpAny_of_I {Q : Exit → Act → World → Prop} : ∀ (fuel : Nat) (listed : Array Bool) (a : Act) (w : World), wpAnyI P md ops kp I Q fuel listed a w → wpAny P md ops Q fuel listed a w
  | 0, _, _, _, h => h
  | fuel + 1, _, _, _, h => ⟨h.1, fun i hi => wpOp_loose (fun a' w' hk => wpAny_of_I fuel _ a' w' hk.2) (h.2 i hi)⟩

/-- In every world of the class the operation yields v, and leaves the world alone. -/
def YieldsC (P : Program) (ops : Array Oper) (I : World → Prop) (o : Oper) (v : Value) (a : Act) : Prop :=
  (Region.wanted o (yielded ops a.tmps) = true ∧ ∀ w, I w → (execOp a.eval o).run P w = .ok (.value v) w) ∨
  (Region.wanted o (yielded ops a.tmps) = false ∧ v = undef)

theorem YieldsC.wpOp {Q : Exit → Act → World → Prop} {i : Nat} {o : Oper} {v : Value} {a : Act} (hi : ops[i]? = some o) (hy : YieldsC P ops I o v a) {K : Act → World → Prop} {w : World} (hI : I w) (h : K (a.put o.dst v) w) :
    wpOp P ops Q i K a w := by
  unfold Go.wpOp
  simp only [hi]
  rcases hy with ⟨hw, hv⟩ | ⟨hw, rfl⟩
  · simp only [hw, if_true, Oper.wp, hv w hI, Oper.upon]; exact .inl h
  · simp only [hw, Bool.false_eq_true, if_false]; exact h

theorem YieldsC.of_same {o : Oper} {v : Value} {a a' : Act} (hy : YieldsC P ops I o v a) (he : execOp a'.eval o = execOp a.eval o)
    (hw : Region.wanted o (yielded ops a'.tmps) = Region.wanted o (yielded ops a.tmps)) : YieldsC P ops I o v a' := by
  unfold YieldsC at *
  rw [he, hw]
  exact hy

theorem wpOp_putC {Q : Exit → Act → World → Prop} {j : Nat} {oi oj : Oper} {v : Value} (hj : ops[j]? = some oj) (hap : oi.apart ops oj = true)
    (hsi : ∀ cs b, oi.op ≠ .select cs b) (hsj : ∀ cs b, oj.op ≠ .select cs b) {K : Act → World → Prop} {a : Act} {w : World}
    (hy : YieldsC P ops I oi v a) (h : wpOp P ops (calm Q) j K (a.put oi.dst v) w) :
    wpOp P ops (calm Q) j (fun a' w' => YieldsC P ops I oi v a' ∧ K (a'.put oi.dst v) w') a w := by
  obtain ⟨h1, h2, h3⟩ := Oper.apart_spec hap
  have keep : ∀ (a : Act), YieldsC P ops I oi v a → ∀ u, YieldsC P ops I oi v (a.put oj.dst u) := fun a hy u =>
    hy.of_same (execOp_put oi hsi a oj.dst u h3) (wanted_put oi a oj.dst u h3)
  have keepD : ∀ d, YieldsC P ops I oi v { a with defers := d :: a.defers } := fun d => hy.of_same rfl rfl
  unfold wpOp at *
  simp only [hj] at *
  rw [wanted_put oj a oi.dst v h1] at h
  split
  · rename_i hw
    simp only [hw, if_true] at h
    rcases h with h | ⟨hasks, hlets⟩
    case inr => exact .inr ⟨by unfold Oper.asks at *; rw [execOp_put oj hsj a oi.dst v h1] at hasks; exact hasks, hlets⟩
    refine .inl ?_
    unfold Oper.wp at *
    rw [execOp_put oj hsj a oi.dst v h1] at h
    generalize (execOp a.eval oj).run P w = r at *
    cases r with
    | ok n w' =>
      cases n <;> simp only [Oper.upon] at h ⊢
      case value u => exact ⟨keep a hy u, by rw [← Act.put_comm a v u h2]; exact h⟩
      case skip => exact ⟨keep a hy _, by rw [← Act.put_comm a v undef h2]; exact h⟩
      case defer d =>
        refine ⟨keep _ (keepD d) _, ?_⟩
        rw [← Act.put_comm _ v undef h2, ← Act.put_defers]
        exact h
      case enter f args =>
        refine Calls.mono h fun e w'' he => ?_
        cases e with
        | returned u => exact ⟨keep a hy u, by rw [← Act.put_comm a v u h2]; exact he⟩
        | panicked c => exact he.elim
        | outgrown => exact he
      case row row args => exact Rows.mono h fun u w'' he => ⟨keep a hy u, by rw [← Act.put_comm a v u h2]; exact he⟩
    | halt x w' =>
      cases x <;> simp only [Oper.upon] at h ⊢
      case panic u => exact h.elim
  · rename_i hw
    simp only [hw] at h
    exact ⟨keep a hy _, by rw [← Act.put_comm a v undef h2]; exact h⟩

/-- A free operation that may come up now may be taken first. -/
theorem wpAnyI_first {Q : Exit → Act → World → Prop} {i : Nat} {oi : Oper} {v : Value} (hlast : lastB md ops fr kp = true) (hfr : fr i = true) (hi : ops[i]? = some oi) (hsel : ∀ (j : Nat) (o : Oper) cs b, ops[j]? = some o → o.op ≠ .select cs b) :
    ∀ (fuel : Nat) (listed : Array Bool) (a : Act) (w : World),
      (∀ j oj, ops[j]? = some oj → j ≠ i → listed.getD j true = false → (∀ e ∈ oj.after, Region.binds md e = true → e.on ≠ i) → oi.apart ops oj = true) →
      Closed md ops listed → i ∈ Region.ready md ops listed → YieldsC P ops I oi v a → I w →
      wpAnyI P md ops kp I Q fuel (listed.setIfInBounds i true) (a.put oi.dst v) w → wpAnyI P md ops kp I Q (fuel + 1) listed a w := by
  intro fuel
  induction fuel with
  | zero =>
    intro listed a w _ _ hr hy hI H
    refine ⟨fun h => (by rw [h] at hr; cases hr), fun j hj => ?_⟩
    by_cases hji : j = i
    · subst hji; exact hy.wpOp hi hI ⟨fun _ => hI, H⟩
    · have := ready_mono hj hji
      rw [H.1] at this
      cases this
  | succ fuel ih =>
    intro listed a w hfree hcl hr hy hI H
    refine ⟨fun h => (by rw [h] at hr; cases hr), fun j hj => ?_⟩
    by_cases hji : j = i
    · subst hji; exact hy.wpOp hi hI ⟨fun _ => hI, H⟩
    · have h1 := H.2 j (ready_mono hj hji)
      obtain ⟨hjun, oj, hoj, hall⟩ := mem_ready.1 hj
      have hiun := (mem_ready.1 hr).1
      have hnot : ∀ e ∈ oj.after, Region.binds md e = true → e.on ≠ i := fun e he hb heq => by
        have h1 := hall e he hb
        rw [heq] at h1
        rcases Nat.lt_or_ge i listed.size with h' | h'
        · simp [h'] at hiun h1; rw [hiun] at h1; cases h1
        · simp [Array.getElem?_eq_none h'] at h1
      have h2 := wpOp_putC hoj (hfree j oj hoj hji hjun hnot) (fun cs b => hsel i oi cs b hi) (fun cs b => hsel j oj cs b hoj) hy h1
      have hfree' : ∀ k ok, ops[k]? = some ok → k ≠ i → (listed.setIfInBounds j true).getD k true = false →
          (∀ e ∈ ok.after, Region.binds md e = true → e.on ≠ i) → oi.apart ops ok = true := fun k ok hk hki hun hno => by
        refine hfree k ok hk hki ?_ hno
        by_cases hjk : j = k
        · subst hjk; exact hjun
        · rw [getD_set_ne true hjk] at hun; exact hun
      have hkp : kp j = true := lastB_spec hlast hoj (Array.getElem?_eq_some_iff.1 hi).1 hfr (reach_false hcl (by
          rcases Nat.lt_or_ge i listed.size with h' | h'
          · simpa [h'] using hiun
          · simp [Array.getElem?_eq_none h'] at hiun) j (fun oj' ho' e he hb => by rw [hoj] at ho'; cases ho'; exact hall e he hb))
      refine wpOp_mono (fun a' w' h3 => ⟨fun _ => h3.2.1 hkp, ih (listed.setIfInBounds j true) a' w' hfree' (hcl.list hj) (ready_mono hr (Ne.symm hji)) h3.1 (h3.2.1 hkp) ?_⟩) h2
      rw [Array.setIfInBounds_comm _ _ hji]
      exact h3.2.2

/-! ### The one order -/

/-- The order that is handed in: (the operation's number, is it free?, must it keep the class?). -/
abbrev Order := List (Nat × Bool × Bool)

def isFree (l : Order) (i : Nat) : Bool := l.any fun x => x.1 == i && x.2.1
def isKept (l : Order) (i : Nat) : Bool := l.any fun x => x.1 == i && x.2.2

def orderB (md : Region.Mode) (ops : Array Oper) : Order → Array Bool → Bool
  | [], listed => (Region.ready md ops listed).isEmpty
  | (k, true, kp) :: rest, listed => kp && (Region.ready md ops listed).contains k && Region.free md ops listed k && orderB md ops rest (listed.setIfInBounds k true)
  | (k, false, kp) :: rest, listed => (kp == rest.any (·.2.1)) && (Region.ready md ops listed == [k]) && orderB md ops rest (listed.setIfInBounds k true)

def flagsB (all : Order) : Order → Bool
  | [] => true
  | (k, f, kp) :: rest => (isFree all k == f) && (isKept all k == kp) && flagsB all rest

def mixB (md : Region.Mode) (ops : Array Oper) (order : Order) : Bool :=
  Region.noSelect ops && lastB md ops (isFree order) (isKept order) && flagsB order order && orderB md ops order (Array.replicate ops.size false) && (order.length == ops.size)

/-- THE WALK, in that order. -/
def wpMix (P : Program) (ops : Array Oper) (I : World → Prop) (Q : Exit → Act → World → Prop) : List (Oper × Bool × Bool) → Act → World → Prop
  | [], a, w => Q .normal a w
  | (o, true, _) :: rest, a, w =>
    if Region.wanted o (yielded ops a.tmps) then ∃ v, (∀ w', I w' → (execOp a.eval o).run P w' = .ok (.value v) w') ∧ wpMix P ops I Q rest (a.put o.dst v) w else wpMix P ops I Q rest (a.put o.dst undef) w
  | (o, false, kp) :: rest, a, w =>
    if Region.wanted o (yielded ops a.tmps) then o.wp P a w (fun a' w' => (kp = true → I w') ∧ wpMix P ops I Q rest a' w') (calm Q) ∨ (o.asks P a w ∧ LetsOut (calm Q)) else wpMix P ops I Q rest (a.put o.dst undef) w

def picked (ops : Array Oper) (order : Order) : List (Oper × Bool × Bool) := order.filterMap fun x => (ops[x.1]?).map fun o => (o, x.2)

theorem wpAnyI_mix {Q : Exit → Act → World → Prop} (all : Order) (hs : Region.noSelect ops = true) (hlast : lastB md ops (isFree all) (isKept all) = true) : ∀ (order : Order) (listed : Array Bool) (a : Act) (w : World),
    Closed md ops listed → flagsB all order = true → orderB md ops order listed = true → (order.any (·.2.1) = true → I w) → wpMix P ops I Q (picked ops order) a w → wpAnyI P md ops (isKept all) I Q order.length listed a w
  | [], listed, a, w, _, _, hB, _, h => ⟨by simpa [orderB] using hB, h⟩
  | (k, true, kp) :: rest, listed, a, w, hcl, hF, hB, hI, h => by
    simp only [flagsB, Bool.and_eq_true, beq_iff_eq] at hF
    simp only [orderB, Bool.and_eq_true] at hB
    obtain ⟨⟨⟨hkp, hr⟩, hf⟩, hB'⟩ := hB
    have hIw : I w := hI (by simp)
    have hr' : k ∈ Region.ready md ops listed := by simpa using hr
    obtain ⟨_, o, ho, _⟩ := mem_ready.1 hr'
    have hp : picked ops ((k, true, kp) :: rest) = (o, true, kp) :: picked ops rest := by simp [picked, ho]
    rw [hp] at h
    simp only [wpMix] at h
    by_cases hw : Region.wanted o (yielded ops a.tmps) = true
    · rw [if_pos hw] at h
      obtain ⟨v, hv, hrest⟩ := h
      exact wpAnyI_first hlast hF.1.1 ho (Region.noSelect_spec hs) rest.length listed a w (Region.free_spec ho hf) hcl hr' (.inl ⟨hw, hv⟩) hIw
        (wpAnyI_mix all hs hlast rest _ _ _ (hcl.list hr') hF.2 hB' (fun _ => hIw) hrest)
    · rw [if_neg hw] at h
      exact wpAnyI_first hlast hF.1.1 ho (Region.noSelect_spec hs) rest.length listed a w (Region.free_spec ho hf) hcl hr' (.inr ⟨by simpa using hw, rfl⟩) hIw
        (wpAnyI_mix all hs hlast rest _ _ _ (hcl.list hr') hF.2 hB' (fun _ => hIw) h)
  | (k, false, kp) :: rest, listed, a, w, hcl, hF, hB, hI, h => by
    simp only [flagsB, Bool.and_eq_true, beq_iff_eq] at hF
    simp only [orderB, Bool.and_eq_true, beq_iff_eq] at hB
    obtain ⟨⟨hkp, hr⟩, hB'⟩ := hB
    have hr' : k ∈ Region.ready md ops listed := by rw [hr]; simp
    obtain ⟨_, o, ho, _⟩ := mem_ready.1 hr'
    have hp : picked ops ((k, false, kp) :: rest) = (o, false, kp) :: picked ops rest := by simp [picked, ho]
    rw [hp] at h
    simp only [wpMix] at h
    refine ⟨fun h0 => (by rw [hr] at h0; cases h0), fun i hi => ?_⟩
    rw [hr] at hi
    have hik : i = k := by simpa using hi
    subst hik
    unfold wpOp
    simp only [ho]
    have step : ∀ (a' : Act) (w' : World), (kp = true → I w') → wpMix P ops I Q (picked ops rest) a' w' → (isKept all i = true → I w') ∧ wpAnyI P md ops (isKept all) I Q rest.length (listed.setIfInBounds i true) a' w' := fun a' w' h1 h2 =>
      ⟨fun hk => h1 (by rw [← hF.1.2]; exact hk), wpAnyI_mix all hs hlast rest _ _ _ (hcl.list hr') hF.2 hB' (fun hany => h1 (by rw [hkp]; exact hany)) h2⟩
    by_cases hw : Region.wanted o (yielded ops a.tmps) = true
    · rw [if_pos hw] at h ⊢
      exact h.imp (Oper.wp_mono fun a' w' ⟨h1, h2⟩ => step a' w' h1 h2) id
    · rw [if_neg hw] at h ⊢
      exact step _ _ (fun hk => hI (by rw [hkp] at hk; simp [hk])) h

/-- **ONE WALK OF ONE ORDER SERVES EVERY ORDER.** -/
theorem wp_region_mix {id : Nat} {Q : Exit → Act → World → Prop} {a : Act} {w : World} {l : List Oper} (order : Order) (I : World → Prop) (hm : P.follows .mixedOrders = true) (hB : mixB .any l.toArray order = true)
    (hI : I w.drew) (h : wpMix P l.toArray I Q (picked l.toArray order) a w.drew) : (Code.region id l.toArray true).wp P Q a w := by
  simp only [mixB, Bool.and_eq_true, beq_iff_eq] at hB
  obtain ⟨⟨⟨⟨h1, h2⟩, h3⟩, h4⟩, h5⟩ := hB
  refine wp_region_any hm (wpAny_of_I (kp := isKept order) (I := I) _ _ _ _ ?_)
  have := wpAnyI_mix order h1 h2 order _ _ _ (Closed.start _ _ _) h3 h4 (fun _ => hI) h
  rwa [h5] at this

/-! ### The steps of the walk -/
section
variable {l : List (Oper × Bool × Bool)} {Q : Exit → Act → World → Prop} {a : Act} {w : World} {o : Oper} {kp : Bool}

theorem mix_nil (h : Q .normal a w) : wpMix P ops I Q [] a w := h

/-- A free operation. -/
theorem mix_free {v : Value} (hg : Region.wanted o (yielded ops a.tmps) = true) (hv : ∀ w', I w' → (execOp a.eval o).run P w' = .ok (.value v) w') (h : wpMix P ops I Q l (a.put o.dst v) w) :
    wpMix P ops I Q ((o, true, kp) :: l) a w := by
  simp only [wpMix, if_pos hg]
  exact ⟨v, hv, h⟩

/-- An operation whose guard says no. -/
theorem mix_skip {f : Bool} (hg : Region.wanted o (yielded ops a.tmps) = false) (h : wpMix P ops I Q l (a.put o.dst undef) w) : wpMix P ops I Q ((o, f, kp) :: l) a w := by
  cases f <;> simp only [wpMix, hg] <;> exact h

/-- A big operation: it is walked as a list of one. -/
theorem mix_big (hg : Region.wanted o (yielded ops a.tmps) = true)
    (h : ∀ K : Act → World → Prop, (∀ a' w', (kp = true → I w') → wpMix P ops I Q l a' w' → K a' w') → wpList P ops (Exit.then K (calm Q)) [o] a w) : wpMix P ops I Q ((o, false, kp) :: l) a w := by
  simp only [wpMix, if_pos hg]
  have := h (fun a' w' => (kp = true → I w') ∧ wpMix P ops I Q l a' w') (fun _ _ h1 h2 => ⟨h1, h2⟩)
  unfold wpList at this
  rw [if_pos hg] at this
  rcases this with this | ⟨h1, a0, w0, h2⟩
  · refine .inl ?_
    unfold Oper.wp at *
    generalize (execOp a.eval o).run P w = r at *
    cases r with
    | ok n w' =>
      cases n <;> simp only [Oper.upon] at this ⊢
      case enter f args =>
        refine Calls.mono this fun e w'' he => ?_
        cases e with
        | returned u => exact he
        | panicked c => exact he
        | outgrown => obtain ⟨a0, w0, h0⟩ := he; exact ⟨a0, w0, h0⟩
      all_goals exact this
    | halt x w' =>
      cases x <;> simp only [Oper.upon] at this ⊢
      case panic u => exact this
  · exact .inr ⟨h1, a0, w0, h2⟩
end

end
end Go.Proofs.YtjnplcajajdkiaaDoor.mix
