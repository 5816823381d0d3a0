/- A slice of ids and a cell of one id beside an object; walking from the oldest one on. -/
import Derived.Test.YtjjapnphljhicadLruNew
namespace Go.Proofs.Ytjjapnphljhicad.lru
open Go.RowKit
open Go.Proofs.Ytjjapnphljhicad.stepkit Go.Proofs.Ytjjapnphljhicad.eqkit Go.Proofs.Ytjjapnphljhicad.idkit Go.Proofs.Ytjjapnphljhicad.obj Go.Proofs.Ytjjapnphljhicad.row Go.Proofs.Ytjjapnphljhicad.mapkit Go.Proofs.Ytjjapnphljhicad.mix Go.Proofs.Ytjjapnphljhicad.argkit

def IdIn (w : World) (b : Nat) (id : List Int) : Prop := w.rangeAt b 0 (idc id) ∧ w.there b 0 32 ∧ b < w.heap.size
theorem IdIn.of_heap {w w' : World} {b : Nat} {id : List Int} (h : IdIn w b id) (hb : w'.heap[b]? = w.heap[b]?) : IdIn w' b id :=
  ⟨fun j v hj => by rw [← h.1 j v hj]; exact World.cell?_of_block (w := w) hb,
   fun j hj => by rw [show w'.cell? ⟨b, 0 + j, none⟩ = w.cell? ⟨b, 0 + j, none⟩ from World.cell?_of_block (w := w) hb, show w'.frozen? ⟨b, 0 + j, none⟩ = w.frozen? ⟨b, 0 + j, none⟩ from World.frozen?_of_block (w := w) hb]; exact h.2.1 j hj,
   by
    have := h.2.2
    rw [Array.getElem?_eq_getElem this] at hb
    exact (Array.getElem?_eq_some_iff.1 hb).1⟩
theorem turns_set (b : Nat) : ∀ (vs : List Value) (o : Nat) (w : World), Turns (fun i => i = b) w (w.setCells b o vs)
  | [], _, w => Turns.refl _ _
  | v :: vs, o, w => by
    show Turns _ w ((w.setCell ⟨b, o, none⟩ v).setCells b (o + 1) vs)
    exact (Turns.set w b o v).trans (turns_set b vs (o + 1) _) (fun _ h => Or.inl h)

def SlCell (v : Value) (y : List (List Int)) (b : Nat) (id : List Int) : (Nat → Prop) → World → Prop := fun G w => ISl w v y ∧ IdIn w b id ∧ ¬ blk v b ∧ G = fun i => blk v i ∨ i = b
theorem local_cell (v : Value) (y : List (List Int)) (b : Nat) (id : List Int) : Local (SlCell v y b id) := by
  rintro G w ⟨h, h', hn, rfl⟩
  exact ⟨fun i hi => by rcases hi with hi | rfl; exact (show Sl _ _ _ _ _ _ from h).lt i hi; exact h'.2.2, fun w' _ hb => ⟨Sl.of_heap h (fun g hg => hb g (Or.inl hg)), h'.of_heap (hb b (Or.inr rfl)), hn, rfl⟩⟩

theorem SlCell.put {v : Value} {y : List (List Int)} {b : Nat} {id id' : List Int} {G : Nat → Prop} {w : World} (h : SlCell v y b id G w) (hid : id'.length = 32) : Step G (SlCell v y b id') w (w.setCells b 0 (idc id')) := by
  obtain ⟨h1, h2, h3, rfl⟩ := h
  have ht := turns_set b (idc id') 0 w
  refine ⟨_, ⟨Sl.keep h1 ht (fun i hi e => h3 (by rw [← e]; exact hi)), ⟨World.rangeAt_setCells_same w b 0 (idc id') (by rw [idc_len, hid]; exact h2.2.1), World.there_setCells h2.2.1 b 0 _, Nat.lt_of_lt_of_le h2.2.2 ht.size⟩, h3, rfl⟩, ht.mono (fun i hi => Or.inl (Or.inr hi)), fun i hi => Or.inl hi⟩
theorem SlCell.push {v v' : Value} {y y' : List (List Int)} {b : Nat} {id : List Int} {G : Nat → Prop} {w w' : World} (h : SlCell v y b id G w) (hs : ISl w' v' y') (ht : Turns (blk v) w w') (hn : ∀ i, blk v' i → blk v i ∨ w.heap.size ≤ i) : Step G (SlCell v' y' b id) w w' := by
  obtain ⟨h1, h2, h3, rfl⟩ := h
  refine ⟨_, ⟨hs, h2.of_heap (ht.block b h2.2.2 h3), fun hb => ?_, rfl⟩, ht.mono (fun i hi => Or.inl (Or.inl hi)), fun i hi => ?_⟩
  · rcases hn b hb with hb | hb
    · exact h3 hb
    · have := h2.2.2; omega
  · rcases hi with hi | rfl
    · rcases hn i hi with hi | hi
      · exact Or.inl (Or.inl hi)
      · exact Or.inr hi
    · exact Or.inl (Or.inr rfl)

theorem Duo.celled {B : Nat} {w0 w w' : World} {A : (Nat → Prop) → World → Prop} {F G : Nat → Prop} {b : Nat} {id : List Int} (h : Duo B w0 A nothing F G w) (hA : Local A) (ht : Turns nobody w w') (ha : w'.rangeAt b 0 (idc id)) (hth : w'.there b 0 32) (hb : w.heap.size ≤ b) (hb' : b < w'.heap.size) : ∃ G', Duo B w0 A (SlCell (.slice none 0 0) [] b id) F G' w' := by
  refine ⟨_, Duo.start (hA.keep h.a ht (fun _ _ h => h)) ⟨Sl.nil _ _ _, ⟨ha, hth, hb'⟩, (fun h => by cases h), rfl⟩ (fun i hi hg => ?_) h.fnew (fun i hi => ?_) (h.below.trans (ht.below h.size (fun _ h => h.elim))) (Nat.le_trans h.size ht.size)⟩
  · rcases hg with hg | rfl
    · cases hg
    · have := (hA F w h.a).1 i hi; omega
  · rcases hi with hi | rfl
    · cases hi
    · exact Nat.le_trans h.size hb

theorem idx_at {x : List (List Int)} (hn : x.Nodup) {j : Nat} (hj : j < x.length) : idxX x (x.getD j []) = j := by
  refine idx_eq hj rfl fun i hi h => ?_
  rw [List.getD, List.getD, List.getElem?_eq_getElem hj, List.getElem?_eq_getElem (by omega), Option.getD_some, Option.getD_some] at h
  exact absurd ((List.getElem_inj hn).1 h) (by omega)
theorem not_in_take {x : List (List Int)} (hn : x.Nodup) {j : Nat} (hj : j < x.length) : x.getD j [] ∉ x.take j := by
  intro h
  obtain ⟨i, hi, he⟩ := List.mem_iff_getElem.1 h
  rw [List.length_take] at hi
  rw [List.getElem_take, List.getD, List.getElem?_eq_getElem hj, Option.getD_some] at he
  exact absurd ((List.getElem_inj hn).1 he) (by omega)
/-- What the cell holds after j steps. -/
def atX (x : List (List Int)) (j : Nat) : List Int := if j < x.length then x.getD j [] else zid
theorem atX_zero (x : List (List Int)) : headX x = atX x 0 := by
  unfold headX atX
  by_cases h : x.length = 0
  · rw [if_pos h, if_neg (by omega)]
  · rw [if_neg h, if_pos (by omega)]
theorem atX_len {x : List (List Int)} (h : Wh x) (j : Nat) : (atX x j).length = 32 := by
  unfold atX
  split
  · next h1 => exact wh_get h h1
  · exact zid_len
theorem after_at {x : List (List Int)} (hn : x.Nodup) {j : Nat} (hj : j < x.length) : (afterX x (x.getD j [])).getD zid = atX x (j + 1) ∧ (afterX x (x.getD j [])).isSome = decide (j + 1 < x.length) := by
  unfold afterX atX
  rw [idx_at hn hj]
  by_cases h : j + 1 < x.length
  · rw [if_pos h, if_pos h]; exact ⟨rfl, by simp [h]⟩
  · rw [if_neg h, if_neg h]; exact ⟨rfl, by simp [h]⟩
theorem take_next {x : List (List Int)} {j : Nat} (hj : j < x.length) : x.take j ++ [x.getD j []] = x.take (j + 1) := by
  rw [List.take_add_one, List.getD, List.getElem?_eq_getElem hj]
  rfl

theorem wpList_idc {ops : Array Oper} {rest : List Oper} {op : Oper} {a : Act} {w : World} {Q : Exit → Act → World → Prop} (hgd : op.guard = none) (ty : TypeId) (x y : Operand) (ho : op.op = .store ty x y)
    (cs : List Value) (hx : a.eval x = .pointer (some ⟨w.heap.size, 0, none⟩)) (hy : a.eval y = .agg cs.toArray)
    (hz : cs.length = 32) (hi : (Try.prog.info? ty).map (·.size) = some cs.length) (h1 : ∀ v ∈ cs, v.oneCell' = true)
    (h : ∀ w', Turns nobody w w' → w'.rangeAt w.heap.size 0 cs → w'.there w.heap.size 0 32 → w.heap.size < w'.heap.size → wpList Try.prog ops Q rest (a.put op.dst undef) w') : wpList Try.prog ops Q (op :: rest) a (w.alloc (.cells #[.int .u8 0, .int .u8 0, .int .u8 0, .int .u8 0, .int .u8 0, .int .u8 0, .int .u8 0, .int .u8 0, .int .u8 0, .int .u8 0, .int .u8 0, .int .u8 0, .int .u8 0, .int .u8 0, .int .u8 0, .int .u8 0, .int .u8 0, .int .u8 0, .int .u8 0, .int .u8 0, .int .u8 0, .int .u8 0, .int .u8 0, .int .u8 0, .int .u8 0, .int .u8 0, .int .u8 0, .int .u8 0, .int .u8 0, .int .u8 0, .int .u8 0, .int .u8 0] 24)) := by
  obtain ⟨g1, g2, g3⟩ := newcell (Turns.refl nobody (w.alloc (.cells #[.int .u8 0, .int .u8 0, .int .u8 0, .int .u8 0, .int .u8 0, .int .u8 0, .int .u8 0, .int .u8 0, .int .u8 0, .int .u8 0, .int .u8 0, .int .u8 0, .int .u8 0, .int .u8 0, .int .u8 0, .int .u8 0, .int .u8 0, .int .u8 0, .int .u8 0, .int .u8 0, .int .u8 0, .int .u8 0, .int .u8 0, .int .u8 0, .int .u8 0, .int .u8 0, .int .u8 0, .int .u8 0, .int .u8 0, .int .u8 0, .int .u8 0, .int .u8 0] 24))) cs hz
  refine wpList_store_mid hgd ty x y ho _ _ _ hx hy g1 (by rw [List.size_toArray]; exact hi) (all_oneCell_toArray h1) ?_
  rw [List.toList_toArray]
  have g4 : (w.alloc (.cells #[.int .u8 0, .int .u8 0, .int .u8 0, .int .u8 0, .int .u8 0, .int .u8 0, .int .u8 0, .int .u8 0, .int .u8 0, .int .u8 0, .int .u8 0, .int .u8 0, .int .u8 0, .int .u8 0, .int .u8 0, .int .u8 0, .int .u8 0, .int .u8 0, .int .u8 0, .int .u8 0, .int .u8 0, .int .u8 0, .int .u8 0, .int .u8 0, .int .u8 0, .int .u8 0, .int .u8 0, .int .u8 0, .int .u8 0, .int .u8 0, .int .u8 0, .int .u8 0] 24)).there w.heap.size 0 32 := fun j hj => g1 j (by show j < cs.toArray.size; rw [List.size_toArray, hz]; exact hj)
  exact h _ g2 g3 (World.there_setCells g4 _ 0 _) (Nat.lt_of_lt_of_le (by simp) (turns_set _ cs 0 _).size)

end Go.Proofs.Ytjjapnphljhicad.lru
