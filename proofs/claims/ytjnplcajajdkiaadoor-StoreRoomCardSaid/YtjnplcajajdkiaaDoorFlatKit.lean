/- Types made of numbers, texts, truths and slices alone, through structs and arrays of any depth: each cell of such a value among a law's arguments, and slices of such values. No function of the program in sight. -/
import Derived.Test.YtjnplcajajdkiaaDoorArgKit
import Derived.Deep.Slices
import Derived.Laws.StructEq
namespace Go.Proofs.YtjnplcajajdkiaaDoor.argkit
open Go.ChangeShapes Go.WideShapes Go.ChangeAt Go.RowKit Go.Deep

/-- The cells of a type. -/
def flatB (P : Program) : Nat → TypeId → Option (List (TypeId × TypeDesc))
  | 0, _ => none
  | f + 1, t =>
    match P.underlying t with
    | some .bool => some [(t, .bool)]
    | some (.int k) => some [(t, .int k)]
    | some .string => some [(t, .string)]
    | some (.slice e) => some [(t, .slice e)]
    | some (.struct fs) => (fs.toList.foldlM (fun (acc : List (TypeId × TypeDesc)) (fl : Field) => (flatB P f fl.type).bind fun l => if fl.offset = acc.length ∧ P.cellsOf fl.type = l.length then some (acc ++ l) else none) []).bind fun r => if r.length = P.cellsOf t then some r else none
    | some (.array n e) => (flatB P f e).bind fun l => if P.cellsOf e = l.length ∧ n * l.length = P.cellsOf t then some (List.replicate n l).flatten else none
    | _ => none

theorem fold_flat {P : Program} {f : Nat} : ∀ (fls : List Field) (acc ks : List (TypeId × TypeDesc)),
    fls.foldlM (fun (acc : List (TypeId × TypeDesc)) (fl : Field) => (flatB P f fl.type).bind fun l => if fl.offset = acc.length ∧ P.cellsOf fl.type = l.length then some (acc ++ l) else none) acc = some ks →
    (∀ j, j < acc.length → ks[j]? = acc[j]?) ∧ acc.length ≤ ks.length ∧
      ∀ j, acc.length ≤ j → j < ks.length → ∃ (i : Nat) (fl : Field) (l : List (TypeId × TypeDesc)), fls[i]? = some fl ∧ flatB P f fl.type = some l ∧ fl.offset ≤ j ∧ j - fl.offset < l.length ∧ P.cellsOf fl.type = l.length ∧ ks[j]? = l[j - fl.offset]?
  | [], acc, ks, h => by
    simp only [List.foldlM_nil] at h
    cases h
    exact ⟨fun _ _ => rfl, Nat.le_refl _, fun j h1 h2 => by omega⟩
  | fl :: fls, acc, ks, h => by
    simp only [List.foldlM_cons] at h
    cases hl : flatB P f fl.type with
    | none => simp [hl] at h
    | some l =>
      rw [hl] at h
      simp only [Option.bind_some] at h
      by_cases hc : fl.offset = acc.length ∧ P.cellsOf fl.type = l.length
      · rw [if_pos hc] at h
        obtain ⟨h1, h2, h3⟩ := fold_flat fls (acc ++ l) ks h
        rw [List.length_append] at h2
        refine ⟨fun j hj => ?_, by omega, fun j hj hk => ?_⟩
        · rw [h1 j (by rw [List.length_append]; omega), List.getElem?_append_left hj]
        · by_cases hlt : j < (acc ++ l).length
          · rw [List.length_append] at hlt
            refine ⟨0, fl, l, rfl, hl, by omega, by omega, hc.2, ?_⟩
            rw [h1 j (by rw [List.length_append]; omega), List.getElem?_append_right hj, hc.1]
          · obtain ⟨i, fl', l', r⟩ := h3 j (by omega) hk
            exact ⟨i + 1, fl', l', by simpa using r⟩
      · rw [if_neg hc] at h
        cases h

theorem flatten_replicate_get {α : Type} (l : List α) : ∀ (n j : Nat), j < n * l.length → (List.replicate n l).flatten[j]? = l[j % l.length]?
  | 0, j, h => by simp at h
  | n + 1, j, h => by
    rw [List.replicate_succ, List.flatten_cons]
    by_cases hj : j < l.length
    · rw [List.getElem?_append_left hj, Nat.mod_eq_of_lt hj]
    · have hj' : l.length ≤ j := by omega
      rw [List.getElem?_append_right hj', flatten_replicate_get l n (j - l.length) (by rw [Nat.add_mul, Nat.one_mul] at h; omega)]
      rw [Nat.mod_eq_sub_mod hj']

theorem flat_cells {H : Type} {enc : TypeId × Value → H} {P : Program} {W : World} {base : Nat} {spare : Nat → Bool} {held : Bool} : ∀ (f : Nat) (t : TypeId) (ks : List (TypeId × TypeDesc)) (fuel : Nat) (cs : List Value) (x : DataW H × List MemPlace),
    flatB P f t = some ks → DataW.trod enc P W base spare held fuel t cs = some x →
    cs.length = ks.length ∧ ∀ (j : Nat) k, ks[j]? = some k → ∃ v fuel' y, cs[j]? = some v ∧ P.underlying k.1 = some k.2 ∧ DataW.trod enc P W base spare held fuel' k.1 [v] = some y
  | 0, _, _, _, _, _, h, _ => by cases h
  | f + 1, t, ks, fuel, cs, x, h, hx => by
    have one : ∀ (d : TypeDesc), P.underlying t = some d → ks = [(t, d)] → (∃ v, cs = [v]) → cs.length = ks.length ∧ ∀ (j : Nat) k, ks[j]? = some k → ∃ v fuel' y, cs[j]? = some v ∧ P.underlying k.1 = some k.2 ∧ DataW.trod enc P W base spare held fuel' k.1 [v] = some y := by
      rintro d hu rfl ⟨v, rfl⟩
      refine ⟨rfl, fun j k hk => ?_⟩
      cases j with
      | zero => cases hk; exact ⟨v, fuel, x, rfl, hu, hx⟩
      | succ j => simp at hk
    unfold flatB at h
    split at h
    · rename_i hu; obtain ⟨b, h1, _⟩ := DataW.trod_bool hu hx; exact one _ hu (by cases h; rfl) ⟨_, h1⟩
    · rename_i hu; obtain ⟨b, h1, _⟩ := DataW.trod_int hu hx; exact one _ hu (by cases h; rfl) ⟨_, h1⟩
    · rename_i hu; obtain ⟨b, h1, _⟩ := DataW.trod_string hu hx; exact one _ hu (by cases h; rfl) ⟨_, h1⟩
    · rename_i hu
      refine one _ hu (by cases h; rfl) ?_
      rcases open_slice hu hx with ⟨h1, _⟩ | ⟨a, len, cap, m, n, D, Pl, h1, _⟩
      · exact ⟨_, h1⟩
      · exact ⟨_, h1⟩
    · rename_i fs hu
      cases hr : fs.toList.foldlM (fun (acc : List (TypeId × TypeDesc)) (fl : Field) => (flatB P f fl.type).bind fun l => if fl.offset = acc.length ∧ P.cellsOf fl.type = l.length then some (acc ++ l) else none) [] with
      | none => rw [hr] at h; cases h
      | some r =>
        rw [hr] at h
        simp only [Option.bind_some] at h
        by_cases hc : r.length = P.cellsOf t
        · rw [if_pos hc] at h
          cases h
          obtain ⟨xs, n, _, _, hcl, hxl, hfd⟩ := DataW.trod_struct hu hx
          obtain ⟨_, _, h3⟩ := fold_flat fs.toList [] _ hr
          refine ⟨by omega, fun j k hk => ?_⟩
          have hj : j < ks.length := (List.getElem?_eq_some_iff.1 hk).1
          obtain ⟨i, fl, l, g1, g2, g3, g4, g5, g6⟩ := h3 j (by simp) hj
          rw [hk] at g6
          have hfx := hfd i fl (by simpa using g1)
          have hi : i < xs.length := by rw [hxl]; have := (List.getElem?_eq_some_iff.1 g1).1; simpa using this
          rw [List.getElem?_eq_getElem hi] at hfx
          obtain ⟨_, q⟩ := flat_cells f fl.type l n _ _ g2 hfx
          obtain ⟨v, fuel', y, q1, q2, q3⟩ := q _ k g6.symm
          rw [List.getElem?_take, if_pos (by omega), List.getElem?_drop] at q1
          exact ⟨v, fuel', y, by rw [← q1]; congr 1; omega, q2, q3⟩
        · rw [if_neg hc] at h; cases h
    · rename_i n e hu
      cases hl : flatB P f e with
      | none => rw [hl] at h; cases h
      | some l =>
        rw [hl] at h
        simp only [Option.bind_some] at h
        by_cases hc : P.cellsOf e = l.length ∧ n * l.length = P.cellsOf t
        · rw [if_pos hc] at h
          cases h
          obtain ⟨xs, m, _, _, hcl, hxl, hfd⟩ := DataW.trod_array hu hx
          have hfl : (List.replicate n l).flatten.length = n * l.length := by simp
          refine ⟨by omega, fun j k hk => ?_⟩
          have hj : j < n * l.length := by have := (List.getElem?_eq_some_iff.1 hk).1; omega
          rw [flatten_replicate_get l n j hj] at hk
          have hl0 : 0 < l.length := by rcases Nat.eq_zero_or_pos l.length with h0 | h0; · rw [h0] at hj; omega
                                        · exact h0
          have hi : j / l.length < n := Nat.div_lt_of_lt_mul (by rw [Nat.mul_comm]; exact hj)
          have hfx := hfd (j / l.length) hi
          rw [List.getElem?_eq_getElem (by omega)] at hfx
          obtain ⟨_, q⟩ := flat_cells f e l m _ _ hl hfx
          obtain ⟨v, fuel', y, q1, q2, q3⟩ := q _ k hk
          rw [List.getElem?_take, if_pos (by rw [hc.1]; exact Nat.mod_lt _ hl0), List.getElem?_drop, hc.1] at q1
          refine ⟨v, fuel', y, by rw [← q1]; congr 1; have := Nat.div_add_mod j l.length; rw [Nat.mul_comm] at this; omega, q2, q3⟩
        · rw [if_neg hc] at h; cases h
    · cases h

def cellOk : TypeDesc → Value → Prop
  | .int k, v => ∃ n, v = .int k n ∧ (Lit.int k n).wf = true
  | .string, v => ∃ s : ByteArray, v = .string s ∧ s.size ≤ maxLen
  | .bool, v => ∃ b : Bool, v = .bool b
  | .slice _, v => ∃ ao len cap, v = .slice ao len cap
  | _, _ => False

/-- The cells of one value. -/
def Fits (kinds : List TypeDesc) (r : List Value) : Prop := r.length = kinds.length ∧ ∀ (j : Nat) kd, kinds[j]? = some kd → ∃ v, r[j]? = some v ∧ cellOk kd v

/-- Rows of n cells each, below block number B. -/
def RowsAt (w : World) (B n : Nat) (ao : Option Addr) (rows : List (List Value)) : Prop :=
  0 < rows.length → ∃ b o, ao = some ⟨b, o, none⟩ ∧ b < B ∧ ∀ i, i < rows.length → ∀ j, j < n → w.cell? ⟨b, o + i * n + j, none⟩ = some ((rows.getD i []).getD j undef)

theorem cell_fits {H : Type} {enc : TypeId × Value → H} {P : Program} {W : World} {base : Nat} {spare : Nat → Bool} {held : Bool} {fuel : Nat} {t : TypeId} {kd : TypeDesc} {v : Value} {y : DataW H × List MemPlace} (hk : (match kd with | .string | .bool | .int _ | .slice _ => true | _ => false) = true)
    (hu : P.underlying t = some kd) (h : DataW.trod enc P W base spare held fuel t [v] = some y) : cellOk kd v := by
  split at hk
  · obtain ⟨s, h1, _, h2⟩ := DataW.trod_string hu h
    exact ⟨s, by simpa using h1, h2⟩
  · obtain ⟨b, h1, _⟩ := DataW.trod_bool hu h
    exact ⟨b, by simpa using h1⟩
  · obtain ⟨n, h1, _, h2⟩ := DataW.trod_int hu h
    exact ⟨n, by simpa using h1, h2⟩
  · rcases open_slice hu h with ⟨h1, _⟩ | ⟨a, len, cap, m, n, D, Pl, h1, _⟩
    · exact ⟨none, 0, 0, by simpa using h1⟩
    · exact ⟨some a, len, cap, by simpa using h1⟩
  · cases hk

/-- A value's cells. -/
theorem flat_fits {H : Type} {enc : TypeId × Value → H} {P : Program} {W : World} {base : Nat} {spare : Nat → Bool} {held : Bool} {fuel : Nat} {t : TypeId} {cs : List Value} {x : DataW H × List MemPlace} (f : Nat) (kinds : List TypeDesc) (hf : (flatB P f t).map (·.map (·.2)) = some kinds)
    (hk : kinds.all (fun kd => match kd with | .string | .bool | .int _ | .slice _ => true | _ => false) = true) (h : DataW.trod enc P W base spare held fuel t cs = some x) : Fits kinds cs := by
  obtain ⟨ks, h1, rfl⟩ := Option.map_eq_some_iff.1 hf
  obtain ⟨g1, g2⟩ := flat_cells f t ks fuel cs x h1 h
  refine ⟨by simpa using g1, fun j kd hj => ?_⟩
  rw [List.getElem?_map] at hj
  obtain ⟨k, hk1, rfl⟩ := Option.map_eq_some_iff.1 hj
  obtain ⟨v, fuel', y, q1, q2, q3⟩ := g2 j k hk1
  exact ⟨v, q1, cell_fits (List.all_eq_true.1 hk k.2 (List.mem_map.2 ⟨k, List.mem_of_getElem? hk1, rfl⟩)) q2 q3⟩

theorem open_flats {H : Type} {enc : TypeId × Value → H} {P : Program} {W : World} {t e : TypeId} {v : Value} {d : DataW H} {ps : List MemPlace} {base : Nat} (f : Nat) (kinds : List TypeDesc) (hkn : 0 < kinds.length)
    (ht : P.underlying t = some (.slice e)) (hf : (flatB P f e).map (·.map (·.2)) = some kinds) (hk : kinds.all (fun kd => match kd with | .string | .bool | .int _ | .slice _ => true | _ => false) = true) (hc : P.cellsOf e = kinds.length)
    (hv : Value.okWide P W .any base t v) (h : DataW.Trod enc P W 0 (fun _ => true) true t v d ps) :
    ∃ (ao : Option Addr) (rows : List (List Value)) (cap : Nat), v = .slice ao rows.length cap ∧ rows.length ≤ cap ∧ cap ≤ maxLen ∧ RowsAt W W.heap.size kinds.length ao rows ∧ (∀ r ∈ rows, Fits kinds r) ∧ (ao = none → cap = 0) := by
  obtain ⟨a0, len, cap, rfl⟩ := okWide_slice ht hv
  obtain ⟨fuel, hf'⟩ := h
  rcases open_slice ht hf' with ⟨hcs, hx⟩ | ⟨a, len', cap', m, n, D, Pl, hcs, _, hl, hm, hmm, hx, hel⟩
  · simp only [Value.cells, List.cons.injEq, and_true] at hcs
    cases hcs
    exact ⟨none, [], 0, rfl, Nat.le_refl _, Nat.zero_le _, (fun h0 => by simp at h0), (fun _ h => by cases h), fun _ => rfl⟩
  · simp only [Value.cells, List.cons.injEq, and_true] at hcs
    cases hcs
    simp only [if_true] at hmm
    subst hmm
    obtain ⟨g, hf2⟩ := choose_lt hel
    have hlen : ((List.range len).map g).length = len := by simp
    have hget : ∀ i, i < len → ((List.range len).map g).getD i [] = g i := fun i hi => by simp [List.getD, hi]
    have hcell : ∀ i, i < len → ∀ j, j < kinds.length → W.cell? ((a.add (i * kinds.length)).add j) = (g i)[j]? := fun i hi j hj => by
      have h1 := (hf2 i (by omega)).1
      rw [hc] at h1
      exact (World.cells?_some h1).2.2 j hj
    have hfl : ∀ i, i < len → (g i).length = kinds.length := fun i hi => by
      have h1 := (hf2 i (by omega)).1
      rw [hc] at h1
      exact (World.cells?_some h1).2.1
    refine ⟨some a, (List.range len).map g, m, by rw [hlen], by omega, hm, ?_, ?_, fun h => by cases h⟩
    · intro h0
      rw [hlen] at h0
      have h1 := hcell 0 h0 0 hkn
      rw [List.getElem?_eq_getElem (by rw [hfl 0 h0]; exact hkn)] at h1
      have hs : a.spot = none := by simpa [Addr.add] using World.cell?_spot h1
      obtain ⟨b, o, sp⟩ := a
      simp only at hs
      subst hs
      refine ⟨b, o, rfl, by simpa [Addr.add] using lt_of_cell h1, fun i hi j hj => ?_⟩
      rw [hlen] at hi
      have h2 := hcell i hi j hj
      rw [Addr.add_lit, Addr.add_lit] at h2
      rw [h2, hget i hi, List.getD, List.getElem?_eq_getElem (by rw [hfl i hi]; exact hj)]
      rfl
    · intro r hr
      obtain ⟨i, hi, rfl⟩ := List.mem_map.1 hr
      have hi' : i < len := by simpa using hi
      exact flat_fits f kinds hf hk (hf2 i (by omega)).2

theorem Fits.cons {k : TypeDesc} {ks : List TypeDesc} {r : List Value} (h : Fits (k :: ks) r) : ∃ v r', r = v :: r' ∧ cellOk k v ∧ Fits ks r' := by
  obtain ⟨hl, hr⟩ := h
  cases r with
  | nil => simp at hl
  | cons v r' =>
    obtain ⟨v0, h0, h1⟩ := hr 0 k rfl
    cases h0
    exact ⟨v, r', rfl, h1, by simpa using hl, fun j kd hj => hr (j + 1) kd hj⟩
theorem Fits.nil {r : List Value} (h : Fits [] r) : r = [] := List.eq_nil_of_length_eq_zero h.1

/-- A struct or an array by value. -/
theorem open_flat {H : Type} {enc : TypeId × Value → H} {P : Program} {W : World} {t : TypeId} {v : Value} {d : DataW H} {ps : List MemPlace} {base : Nat} (f : Nat) (kinds : List TypeDesc) (hs : (∃ fs, P.underlying t = some (.struct fs)) ∨ ∃ n e, P.underlying t = some (.array n e))
    (hf : (flatB P f t).map (·.map (·.2)) = some kinds) (hk : kinds.all (fun kd => match kd with | .string | .bool | .int _ | .slice _ => true | _ => false) = true) (hv : Value.okWide P W .any base t v) (h : DataW.Trod enc P W 0 (fun _ => true) true t v d ps) :
    ∃ r : List Value, v = .agg r.toArray ∧ Fits kinds r := by
  obtain ⟨fuel, hf'⟩ := h
  have hfit := flat_fits f kinds hf hk hf'
  obtain ⟨cs, rfl⟩ : ∃ cs, v = .agg cs := by
    rcases hs with ⟨fs, hs⟩ | ⟨n, e, hs⟩
    · obtain ⟨cs, h1, _⟩ := okWide_struct hs hv
      exact ⟨cs, h1⟩
    · simp only [Value.okWide, hs] at hv
      obtain ⟨cs, h1, _⟩ := hv
      exact ⟨cs, h1⟩
  exact ⟨cs.toList, by simp, by simpa [Value.cells] using hfit⟩

end Go.Proofs.YtjnplcajajdkiaaDoor.argkit
