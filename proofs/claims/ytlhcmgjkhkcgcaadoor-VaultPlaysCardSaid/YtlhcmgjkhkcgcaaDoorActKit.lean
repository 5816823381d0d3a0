/- Slices of structs among a law's arguments that hold texts' slices themselves. No function of the program in sight. -/
import Derived.Test.YtlhcmgjkhkcgcaaDoorFlatKit
namespace Go.Proofs.YtlhcmgjkhkcgcaaDoor.argkit
open Go.ChangeShapes Go.WideShapes Go.ChangeAt Go.RowKit Go.Deep

theorem strs_cell {H : Type} {enc : TypeId × Value → H} {P : Program} {W : World} {t e : TypeId} {v : Value} {fuel : Nat} {y : DataW H × List MemPlace} (ht : P.underlying t = some (.slice e)) (he : P.underlying e = some .string) (hc : P.cellsOf e = 1)
    (h : DataW.trod enc P W 0 (fun _ => true) true fuel t [v] = some y) :
    ∃ (ao : Option Addr) (ss : List ByteArray) (cap : Nat), v = .slice ao ss.length cap ∧ ss.length ≤ maxLen ∧ RowAt W W.heap.size ao (ss.map Value.string) ∧ ∀ s ∈ ss, s.size ≤ maxLen := by
  rcases open_strings ht he hc h with ⟨hcs, hx⟩ | ⟨a, len, cap, ss, hcs, _, hl, hm, hz, hx, hcell, hws⟩
  · simp only [List.cons.injEq, and_true] at hcs
    exact ⟨none, [], 0, hcs, Nat.zero_le _, (fun h0 => by simp at h0), fun _ h => by cases h⟩
  · simp only [List.cons.injEq, and_true] at hcs
    simp only [if_true] at hz
    have hlen : (ss.take len).length = len := by simp; omega
    refine ⟨some a, ss.take len, cap, by rw [hlen]; exact hcs, by rw [hlen]; omega, ?_, fun s hs => hws s (List.mem_of_mem_take hs)⟩
    refine rowAt_of_cells fun i hi => ?_
    have hi' : i < len := by simp at hi; omega
    rw [hcell i (by omega)]
    simp [List.getD, hi', show i < ss.length by omega]

/-- As open_flats; and the texts' slices in the rows can be read. -/
theorem open_flats_strs {H : Type} {enc : TypeId × Value → H} {P : Program} {W : World} {t e : TypeId} {v : Value} {d : DataW H} {ps : List MemPlace} {base : Nat} (f : Nat) (kinds : List TypeDesc) (hkn : 0 < kinds.length)
    (ht : P.underlying t = some (.slice e)) (hf : (flatB P f e).map (·.map (·.2)) = some kinds) (hk : kinds.all (fun kd => match kd with | .string | .bool | .int _ | .slice _ => true | _ => false) = true) (hc : P.cellsOf e = kinds.length)
    (hv : Value.okWide P W .any base t v) (h : DataW.Trod enc P W 0 (fun _ => true) true t v d ps) :
    ∃ (ao : Option Addr) (rows : List (List Value)) (cap : Nat), v = .slice ao rows.length cap ∧ rows.length ≤ cap ∧ cap ≤ maxLen ∧ RowsAt W W.heap.size kinds.length ao rows ∧ (∀ r ∈ rows, Fits kinds r) ∧
      ∀ r ∈ rows, ∀ (j : Nat) e2, kinds[j]? = some (.slice e2) → P.underlying e2 = some .string → P.cellsOf e2 = 1 → ∃ (ao' : Option Addr) (ss : List ByteArray) (cap' : Nat), r[j]? = some (.slice ao' ss.length cap') ∧ ss.length ≤ maxLen ∧ RowAt W W.heap.size ao' (ss.map Value.string) ∧ ∀ s ∈ ss, s.size ≤ maxLen := by
  obtain ⟨a0, len, cap, rfl⟩ := okWide_slice ht hv
  obtain ⟨fuel, hf'⟩ := h
  rcases open_slice ht hf' with ⟨hcs, hx⟩ | ⟨a, len', cap', m, n, D, Pl, hcs, _, hl, hm, hmm, hx, hel⟩
  · simp only [Value.cells, List.cons.injEq, and_true] at hcs
    cases hcs
    exact ⟨none, [], 0, rfl, Nat.le_refl _, Nat.zero_le _, (fun h0 => by simp at h0), (fun _ h => by cases h), fun _ h => by cases h⟩
  · simp only [Value.cells, List.cons.injEq, and_true] at hcs
    cases hcs
    simp only [if_true] at hmm
    subst hmm
    obtain ⟨g, hf2⟩ := choose_lt hel
    have hlen : ((List.range len).map g).length = len := by simp
    have hget : ∀ i, i < len → ((List.range len).map g).getD i [] = g i := fun i hi => by simp [List.getD, hi]
    have hcell : ∀ i, i < len → ∀ j, j < kinds.length → W.cell? ((a.add (i * kinds.length)).add j) = (g i)[j]? := fun i hi j hj => by
      have h1 := (hf2 i (by omega)).1
      rw [hc] at h1
      exact (World.cells?_some h1).2.2 j hj
    have hfl : ∀ i, i < len → (g i).length = kinds.length := fun i hi => by
      have h1 := (hf2 i (by omega)).1
      rw [hc] at h1
      exact (World.cells?_some h1).2.1
    refine ⟨some a, (List.range len).map g, m, by rw [hlen], by omega, hm, ?_, ?_, ?_⟩
    · intro h0
      rw [hlen] at h0
      have h1 := hcell 0 h0 0 hkn
      rw [List.getElem?_eq_getElem (by rw [hfl 0 h0]; exact hkn)] at h1
      have hs : a.spot = none := by simpa [Addr.add] using World.cell?_spot h1
      obtain ⟨b, o, sp⟩ := a
      simp only at hs
      subst hs
      refine ⟨b, o, rfl, by simpa [Addr.add] using lt_of_cell h1, fun i hi j hj => ?_⟩
      rw [hlen] at hi
      have h2 := hcell i hi j hj
      rw [Addr.add_lit, Addr.add_lit] at h2
      rw [h2, hget i hi, List.getD, List.getElem?_eq_getElem (by rw [hfl i hi]; exact hj)]
      rfl
    · intro r hr
      obtain ⟨i, hi, rfl⟩ := List.mem_map.1 hr
      have hi' : i < len := by simpa using hi
      exact flat_fits f kinds hf hk (hf2 i (by omega)).2
    · intro r hr j e2 hj he hc2
      obtain ⟨i, hi, rfl⟩ := List.mem_map.1 hr
      have hi' : i < len := by simpa using hi
      obtain ⟨ks, h1, rfl⟩ := Option.map_eq_some_iff.1 hf
      obtain ⟨g1, g2⟩ := flat_cells f e ks _ _ _ h1 (hf2 i (by omega)).2
      rw [List.getElem?_map] at hj
      obtain ⟨k, hk1, hk2⟩ := Option.map_eq_some_iff.1 hj
      obtain ⟨v, fuel', y, q1, q2, q3⟩ := g2 j k hk1
      rw [hk2] at q2
      obtain ⟨ao', ss, cap', e1, e2, e3, e4⟩ := strs_cell q2 he hc2 q3
      exact ⟨ao', ss, cap', by rw [q1, e1], e2, e3, e4⟩
end Go.Proofs.YtlhcmgjkhkcgcaaDoor.argkit
