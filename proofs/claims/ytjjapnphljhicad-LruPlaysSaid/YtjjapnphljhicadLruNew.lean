/- What stands in a new cell; a slice and a call's copy beside an object. -/
import Derived.Test.YtjjapnphljhicadLruDuo
namespace Go.Proofs.Ytjjapnphljhicad.lru
open Go.RowKit
open Go.Proofs.Ytjjapnphljhicad.stepkit Go.Proofs.Ytjjapnphljhicad.eqkit Go.Proofs.Ytjjapnphljhicad.idkit Go.Proofs.Ytjjapnphljhicad.obj Go.Proofs.Ytjjapnphljhicad.row Go.Proofs.Ytjjapnphljhicad.mapkit Go.Proofs.Ytjjapnphljhicad.mix Go.Proofs.Ytjjapnphljhicad.argkit

theorem range_keep {w w' : World} {p o : Nat} {cs : List Value} (h : w.rangeAt p o cs) (ht : Turns nobody w w') : w'.rangeAt p o cs := fun j v hj => (ht.cell (lt_of_cell' (h j v hj)) (fun h => h)).trans (h j v hj)

theorem newcell {w W : World} {z : Array Value} {t : TypeId} (ht : Turns nobody (w.alloc (.cells z t)) W) (cs : List Value) (hc : cs.length = z.size) :
    W.there w.heap.size 0 cs.toArray.size ∧ Turns nobody w (W.setCells w.heap.size 0 cs) ∧ (W.setCells w.heap.size 0 cs).rangeAt w.heap.size 0 cs := by
  have hb := heap_newer (heap_alloc_new w (.cells z t)) ht (fun h => h)
  have h1 : W.there w.heap.size 0 cs.toArray.size := there_of hb (by rw [List.size_toArray, hc]; simp)
  have ht' : Turns nobody w W := ((Turns.refl nobody w).alloc _).trans ht (fun _ h => h.elim)
  refine ⟨h1, turns_cells _ (Nat.le_refl _) cs 0 W ht', World.rangeAt_setCells_same W _ 0 cs (by rwa [List.size_toArray] at h1)⟩

/-- A whole value goes into a cell that was just made. -/
theorem wpList_new {ops : Array Oper} {rest : List Oper} {op : Oper} {a : Act} {w : World} {Q : Exit → Act → World → Prop} {t : TypeId} {z : Array Value} (hgd : op.guard = none) (ty : TypeId) (x y : Operand) (ho : op.op = .store ty x y)
    (cs : List Value) (hx : a.eval x = .pointer (some ⟨w.heap.size, 0, none⟩)) (hy : a.eval y = .agg cs.toArray)
    (hz : cs.length = z.size) (hi : (Try.prog.info? ty).map (·.size) = some cs.length) (h1 : ∀ v ∈ cs, v.oneCell' = true)
    (h : ∀ w', Turns nobody w w' → w'.rangeAt w.heap.size 0 cs → wpList Try.prog ops Q rest (a.put op.dst undef) w') : wpList Try.prog ops Q (op :: rest) a (w.alloc (.cells z t)) := by
  obtain ⟨g1, g2, g3⟩ := newcell (Turns.refl nobody (w.alloc (.cells z t))) cs hz
  refine wpList_store_mid hgd ty x y ho _ _ _ hx hy g1 (by rw [List.size_toArray]; exact hi) (all_oneCell_toArray h1) ?_
  rw [List.toList_toArray]
  exact h _ g2 g3

theorem at_alloc {ops : Array Oper} {l : List Oper} {a : Act} {w : World} {o : Obj} {Q : Exit → Act → World → Prop} (h : wpList Try.prog ops Q l a (w.alloc o)) : wpList Try.prog ops Q l a (w.alloc o) := h

/-- A call that was copied. -/
def ActIn (w : World) (b : Nat) (k : Int) (id : List Int) : Prop := w.cell? ⟨b, 0, none⟩ = some (.int .i64 k) ∧ w.rangeAt b 1 (idc id)
theorem ActIn.of_range {w : World} {b : Nat} {k : Int} {id : List Int} (h : w.rangeAt b 0 (.int .i64 k :: idc id)) : ActIn w b k id :=
  ⟨h 0 _ rfl, fun j v hj => by have := h (j + 1) v (by simpa using hj); rwa [Nat.zero_add, Nat.add_comm] at this⟩
theorem ActIn.lt {w : World} {b : Nat} {k : Int} {id : List Int} (h : ActIn w b k id) : b < w.heap.size := lt_of_cell' h.1
theorem ActIn.of_heap {w w' : World} {b : Nat} {k : Int} {id : List Int} (h : ActIn w b k id) (hb : w'.heap[b]? = w.heap[b]?) : ActIn w' b k id :=
  ⟨by rw [← h.1]; exact World.cell?_of_block (w := w) hb, fun j v hj => by rw [← h.2 j v hj]; exact World.cell?_of_block (w := w) hb⟩

def SlBox (v : Value) (y : List (List Int)) (b : Nat) (k : Int) (id : List Int) : (Nat → Prop) → World → Prop := fun G w => ISl w v y ∧ ActIn w b k id ∧ G = fun i => blk v i ∨ i = b
theorem local_box (v : Value) (y : List (List Int)) (b : Nat) (k : Int) (id : List Int) : Local (SlBox v y b k id) := by
  rintro G w ⟨h, h', rfl⟩
  exact ⟨fun i hi => by rcases hi with hi | rfl; exact (show Sl _ _ _ _ _ _ from h).lt i hi; exact h'.lt, fun w' _ hb => ⟨Sl.of_heap h (fun g hg => hb g (Or.inl hg)), h'.of_heap (hb b (Or.inr rfl)), rfl⟩⟩

section
variable {B : Nat} {w0 w w' : World} {A : (Nat → Prop) → World → Prop} {F G : Nat → Prop}
theorem Duo.boxed {v : Value} {y : List (List Int)} {b : Nat} {k : Int} {id : List Int} (h : Duo B w0 A (SlObj v y) F G w) (hA : Local A) (ht : Turns nobody w w') (ha : ActIn w' b k id) (hb : w.heap.size ≤ b) : ∃ G', Duo B w0 A (SlBox v y b k id) F G' w' := by
  obtain ⟨hc, hG⟩ := h.c
  refine ⟨fun i => blk v i ∨ i = b, Duo.start (hA.keep h.a ht (fun _ _ h => h)) ⟨Sl.keep hc ht (fun _ _ h => h), ha, rfl⟩ (fun i hi hg => ?_) h.fnew (fun i hi => ?_) (h.below.trans (ht.below h.size (fun _ h => h.elim))) (Nat.le_trans h.size ht.size)⟩
  · rcases hg with hg | rfl
    · exact h.apart i hi (by rw [hG]; exact hg)
    · have := (hA F w h.a).1 i hi; omega
  · rcases hi with hi | rfl
    · exact h.gnew i (by rw [hG]; exact hi)
    · exact Nat.le_trans h.size hb
theorem Duo.reslice {v v' : Value} {y y' : List (List Int)} {b : Nat} {k : Int} {id : List Int} (h : Duo B w0 A (SlBox v y b k id) F G w) (hA : Local A) (ht : Turns nobody w w') (hs : ISl w' v' y') (hn : ∀ i, blk v' i → w.heap.size ≤ i) : ∃ G', Duo B w0 A (SlBox v' y' b k id) F G' w' := by
  obtain ⟨hc, ha, hG⟩ := h.c
  refine ⟨fun i => blk v' i ∨ i = b, Duo.start (hA.keep h.a ht (fun _ _ h => h)) ⟨hs, ha.of_heap (ht.block b ha.lt (fun h => h)), rfl⟩ (fun i hi hg => ?_) h.fnew (fun i hi => ?_) (h.below.trans (ht.below h.size (fun _ h => h.elim))) (Nat.le_trans h.size ht.size)⟩
  · rcases hg with hg | rfl
    · have := (hA F w h.a).1 i hi; have := hn i hg; omega
    · exact h.apart i hi (by rw [hG]; exact Or.inr rfl)
  · rcases hi with hi | rfl
    · exact Nat.le_trans h.size (hn i hi)
    · exact h.gnew i (by rw [hG]; exact Or.inr rfl)
theorem Duo.unbox {v : Value} {y : List (List Int)} {b : Nat} {k : Int} {id : List Int} (h : Duo B w0 A (SlBox v y b k id) F G w) : ∃ G', Duo B w0 A (SlObj v y) F G' w := by
  obtain ⟨hc, ha, hG⟩ := h.c
  exact ⟨blk v, Duo.start h.a ⟨hc, rfl⟩ (fun i hi hg => h.apart i hi (by rw [hG]; exact Or.inl hg)) h.fnew (fun i hi => h.gnew i (by rw [hG]; exact Or.inl hi)) h.below h.size⟩
end

theorem after_len {x : List (List Int)} (h : Wh x) (id : List Int) : ((afterX x id).getD zid).length = 32 := by
  unfold afterX
  split
  · next h1 => exact wh_get h h1
  · exact zid_len
theorem head_len {x : List (List Int)} (h : Wh x) : (headX x).length = 32 := by
  unfold headX
  split
  · exact zid_len
  · next h1 => exact wh_get h (by omega)
theorem act_all {k : Int} {id : List Int} : ∀ v ∈ (.int .i64 k :: idc id : List Value), v.oneCell' = true := by
  intro v hv
  rcases List.mem_cons.1 hv with rfl | hv
  · rfl
  · exact idc_one id v hv

end Go.Proofs.Ytjjapnphljhicad.lru
