/- Slices among a law's arguments, read as rows of cells, nil included. No function of the program in sight. -/
import Derived.Test.YtjnplcajajdkiaaDoorLawKit
import Derived.SliceStrings
import Derived.SizedLaws
namespace Go.Proofs.YtjnplcajajdkiaaDoor.argkit
open Go.ChangeShapes Go.WideShapes Go.ChangeAt Go.RowKit

/-- A row of cells below block number B, at an address that may be missing where the row is empty. -/
def RowAt (w : World) (B : Nat) (ao : Option Addr) (vs : List Value) : Prop :=
  0 < vs.length → ∃ b o, ao = some ⟨b, o, none⟩ ∧ b < B ∧ ∀ i, i < vs.length → w.cell? ⟨b, o + i, none⟩ = some (vs.getD i undef)

theorem RowAt.below {w w' : World} {B : Nat} {ao : Option Addr} {vs : List Value} (h : RowAt w B ao vs) (hb : Below B w w') : RowAt w' B ao vs := fun h0 => by
  obtain ⟨b, o, h1, h2, h3⟩ := h h0
  exact ⟨b, o, h1, h2, fun i hi => (hb.cell (p := ⟨b, o + i, none⟩) h2).trans (h3 i hi)⟩

theorem lt_of_cell {w : World} {a : Addr} {v : Value} (h : w.cell? a = some v) : a.block < w.heap.size := by
  rcases Nat.lt_or_ge a.block w.heap.size with h' | h'
  · exact h'
  · simp [World.cell?, Array.getElem?_eq_none h'] at h

theorem rowAt_of_cells {w : World} {a : Addr} {vs : List Value} (h : ∀ i, i < vs.length → w.cell? (a.add i) = some (vs.getD i undef)) : RowAt w w.heap.size (some a) vs := by
  intro h0
  have h1 := h 0 h0
  have hs : a.spot = none := by simpa [Addr.add] using World.cell?_spot h1
  obtain ⟨b, o, sp⟩ := a
  simp only at hs
  subst hs
  refine ⟨b, o, rfl, by simpa [Addr.add] using lt_of_cell h1, fun i hi => ?_⟩
  have := h i hi
  rwa [Addr.add_lit] at this

/-- A []string that came in. -/
theorem open_strs {H : Type} {enc : TypeId × Value → H} {P : Program} {W : World} {t e : TypeId} {v : Value} {d : DataW H} {ps : List MemPlace} {base : Nat} (ht : P.underlying t = some (.slice e)) (he : P.underlying e = some .string) (hc : P.cellsOf e = 1)
    (hv : Value.okWide P W .any base t v) (h : DataW.Trod enc P W 0 (fun _ => true) true t v d ps) :
    ∃ (ao : Option Addr) (ss : List ByteArray) (cap : Nat), v = .slice ao ss.length cap ∧ ss.length ≤ cap ∧ cap ≤ maxLen ∧ RowAt W W.heap.size ao (ss.map Value.string) ∧ (∀ s ∈ ss, s.size ≤ maxLen) ∧
      ((ss = [] ∧ d = .nil) ∨ ∃ spare, d = .slice (strs ss) spare) := by
  obtain ⟨a0, len, cap, rfl⟩ := okWide_slice ht hv
  obtain ⟨fuel, hf⟩ := h
  rcases open_strings ht he hc hf with ⟨hcs, hx⟩ | ⟨a, len', cap', ss, hcs, _, hl, hm, hz, hx, hcell, hws⟩
  · simp only [Value.cells, List.cons.injEq, and_true] at hcs
    cases hcs
    simp only [Prod.mk.injEq] at hx
    exact ⟨none, [], 0, rfl, Nat.le_refl _, Nat.zero_le _, (fun h0 => by simp at h0), (fun _ h => by cases h), Or.inl ⟨rfl, hx.1⟩⟩
  · simp only [Value.cells, List.cons.injEq, and_true] at hcs
    cases hcs
    simp only [Prod.mk.injEq] at hx
    simp only [if_true] at hz
    have hlen : (ss.take len).length = len := by simp; omega
    refine ⟨some a, ss.take len, cap, by rw [hlen], by omega, hm, ?_, fun s hs => hws s (List.mem_of_mem_take hs), Or.inr ⟨_, hx.1⟩⟩
    refine rowAt_of_cells fun i hi => ?_
    have hi' : i < len := by simp at hi; omega
    rw [hcell i (by omega)]
    simp [List.getD, hi', show i < ss.length by omega]


theorem weightsAll_mem {H : Type} {P : Program} {e : TypeId} {d : DataW H} {n : Nat} : ∀ {l : List (DataW H)}, d ∈ l → n ∈ d.weights P e → n ∈ DataW.weightsAll P e l
  | [], h, _ => by cases h
  | x :: r, h, hn => by
    simp only [DataW.weightsAll, List.mem_append]
    rcases List.mem_cons.1 h with rfl | h
    · exact Or.inl hn
    · exact Or.inr (weightsAll_mem h hn)

/-- The form's reach, of each string of a []string. -/
theorem sized_strs {H : Type} {P : Program} {ts : List TypeId} {ds : List (DataW H)} (h : (DataW.weightsEach P ts ds).all (· ≤ reachBytes) = true) {j : Nat} {t e : TypeId} {ss : List ByteArray} {d : DataW H} (ht : ts[j]? = some t) (hd : ds[j]? = some d)
    (hx : (ss = [] ∧ d = .nil) ∨ ∃ spare, d = .slice (strs ss) spare) (hu : P.underlying t = some (.slice e)) : ∀ s ∈ ss, s.size ≤ 140737488351232 := by
  intro s hs
  rcases hx with ⟨rfl, _⟩ | ⟨spare, rfl⟩
  · cases hs
  · have hm : s.size ∈ (DataW.slice (strs ss) spare : DataW H).weights P t := by
      simp only [DataW.weights, hu, List.mem_cons, List.mem_append]
      refine Or.inr (Or.inl (weightsAll_mem (d := .lit (.string s.data.toList)) ?_ ?_))
      · exact List.mem_map.2 ⟨s, hs, rfl⟩
      · simp [DataW.weights]
    have := List.all_eq_true.1 h _ (DataW.weights_mem_each ht hd _ hm)
    exact of_decide_eq_true this

end Go.Proofs.YtjnplcajajdkiaaDoor.argkit
