/- Package lru: the list beside slices; calls that come as rows. -/
import Derived.Test.YtjjapnphljhicadLruRefUse
import Derived.Test.YtjjapnphljhicadFlatKit
import Derived.Test.YtjjapnphljhicadIdArg
namespace Go.Proofs.Ytjjapnphljhicad.lru
open Go.RowKit
open Go.Proofs.Ytjjapnphljhicad.stepkit Go.Proofs.Ytjjapnphljhicad.eqkit Go.Proofs.Ytjjapnphljhicad.idkit Go.Proofs.Ytjjapnphljhicad.obj Go.Proofs.Ytjjapnphljhicad.row Go.Proofs.Ytjjapnphljhicad.mapkit Go.Proofs.Ytjjapnphljhicad.mix Go.Proofs.Ytjjapnphljhicad.argkit

/-- The list, by its ids. -/
def LruX (p : Nat) (x : List (List Int)) : (Nat → Prop) → World → Prop := fun F w => ∃ ns, ns.map (·.1) = x ∧ LruAt p ns F w
theorem local_lrux (p : Nat) (x : List (List Int)) : Local (LruX p x) := by
  rintro F w ⟨ns, hx, h⟩
  have := local_lru p ns F w h
  exact ⟨this.1, fun w' hs hb => ⟨ns, hx, this.2 w' hs hb⟩⟩
theorem LruX.wh {p : Nat} {x : List (List Int)} {F : Nat → Prop} {w : World} (h : LruX p x F w) : Wh x := by
  obtain ⟨ns, rfl, ⟨r, mb, _, hr, _⟩⟩ := h
  intro y hy
  obtain ⟨z, hz, rfl⟩ := List.mem_map.1 hy
  exact hr.wh z (List.mem_cons_of_mem _ hz)
theorem LruX.nodup {p : Nat} {x : List (List Int)} {F : Nat → Prop} {w : World} (h : LruX p x F w) : x.Nodup := by
  obtain ⟨ns, rfl, ⟨r, mb, _, _, _, hn, _⟩⟩ := h
  exact hn
theorem LruX.live {p : Nat} {x : List (List Int)} {F : Nat → Prop} {w : World} (h : LruX p x F w) : ∀ w0 : World, Turns nobody w0 w → (∀ i, F i → w0.heap.size ≤ i) → Live w0 p x w := fun w0 h1 h2 => by
  obtain ⟨ns, hx, ha⟩ := h
  exact ⟨ns, F, hx, ha, h1, h2⟩

/-- A slice of ids, by itself. -/
def SlObj (v : Value) (y : List (List Int)) : (Nat → Prop) → World → Prop := fun G w => ISl w v y ∧ G = blk v
theorem local_sl (v : Value) (y : List (List Int)) : Local (SlObj v y) := by
  rintro G w ⟨h, rfl⟩
  exact ⟨fun i hi => (show Sl _ _ _ _ _ _ from h).lt i hi, fun w' _ hb => ⟨Sl.of_heap h hb, rfl⟩⟩
/-- Two of them. -/
def SlTwo (v : Value) (y : List (List Int)) (u : Value) (z : List (List Int)) : (Nat → Prop) → World → Prop := fun G w => ISl w v y ∧ ISl w u z ∧ G = fun i => blk v i ∨ blk u i
theorem local_two (v : Value) (y : List (List Int)) (u : Value) (z : List (List Int)) : Local (SlTwo v y u z) := by
  rintro G w ⟨h, h', rfl⟩
  exact ⟨fun i hi => by rcases hi with hi | hi; exact (show Sl _ _ _ _ _ _ from h).lt i hi; exact (show Sl _ _ _ _ _ _ from h').lt i hi, fun w' _ hb => ⟨Sl.of_heap h (fun g hg => hb g (Or.inl hg)), Sl.of_heap h' (fun g hg => hb g (Or.inr hg)), rfl⟩⟩

section
variable {p : Nat} {x : List (List Int)} {F : Nat → Prop} {w : World}
theorem use_x (h : LruX p x F w) (id : List Int) (hid : id.length = 32) : Calls Try.prog 8 #[.pointer (some ⟨p, 0, none⟩), .agg (idc id).toArray] w fun e w' => e = .returned (.int .i64 0) ∧ Step F (LruX p (useL x id)) w w' := by
  obtain ⟨ns, rfl, ha⟩ := h
  exact (use_any p ns id hid F w ha).mono fun e w' ⟨he, ns', hn, F', h1, h2, h3⟩ => ⟨he, F', ⟨ns', hn, h1⟩, h2, h3⟩
theorem drop_x (h : LruX p x F w) (id : List Int) (hid : id.length = 32) : Calls Try.prog 9 #[.pointer (some ⟨p, 0, none⟩), .agg (idc id).toArray] w fun e w' => e = .returned (.int .i64 (if id ∈ x then 0 else 7)) ∧ Step F (LruX p (dropL x id)) w w' := by
  obtain ⟨ns, rfl, ha⟩ := h
  exact (drop_any p ns id hid F w ha).mono fun e w' ⟨he, ns', hn, F', h1, h2, h3⟩ => ⟨he, F', ⟨ns', hn, h1⟩, h2, h3⟩
theorem len_x (h : LruX p x F w) : Calls Try.prog 19 #[.pointer (some ⟨p, 0, none⟩)] w fun e w' => e = .returned (.int .i64 x.length) ∧ w = w' := by
  obtain ⟨ns, rfl, ha⟩ := h
  rw [List.length_map]
  exact len_any p ns F w ha
theorem all_x (h : LruX p x F w) (hn : x.length ≤ 1024) : Calls Try.prog 10 #[.pointer (some ⟨p, 0, none⟩)] w fun e w' => ∃ v, e = .returned v ∧ ISl w' v x ∧ (∀ j, blk v j → w.heap.size ≤ j) ∧ Turns nobody w w' := by
  obtain ⟨ns, rfl, ha⟩ := h
  exact all_any p ns F w ha (by simpa using hn)
theorem oldest_x (h : LruX p x F w) : Calls Try.prog 18 #[.pointer (some ⟨p, 0, none⟩)] w fun e w' => e = .returned (.tuple #[.agg (idc (headX x)).toArray, .bool (decide (x.length ≠ 0))]) ∧ Turns nobody w w' := by
  obtain ⟨ns, hx, ha⟩ := h
  exact oldest_live (w0 := { w with heap := #[] }) ⟨ns, F, hx, ha, ⟨rfl, rfl, rfl, Nat.zero_le _, fun k hk _ => absurd hk (Nat.not_lt_zero _)⟩, fun _ _ => Nat.zero_le _⟩
theorem after_x (h : LruX p x F w) (id : List Int) (hid : id.length = 32) : Calls Try.prog 16 #[.pointer (some ⟨p, 0, none⟩), .agg (idc id).toArray] w fun e w' => e = .returned (.tuple #[.agg (idc ((afterX x id).getD zid)).toArray, .bool (afterX x id).isSome]) ∧ Turns nobody w w' := by
  obtain ⟨ns, hx, ha⟩ := h
  exact after_live (w0 := { w with heap := #[] }) ⟨ns, F, hx, ha, ⟨rfl, rfl, rfl, Nat.zero_le _, fun k hk _ => absurd hk (Nat.not_lt_zero _)⟩, fun _ _ => Nat.zero_le _⟩ hid
end

theorem new_duo (w : World) : Calls Try.prog 7 #[] w fun e w' => e = .returned (.pointer (some ⟨w.heap.size + 2, 0, none⟩)) ∧ ∃ F, Duo w.heap.size w (LruX (w.heap.size + 2) []) nothing F nobody w' :=
  (new_any w).mono fun e w' ⟨he, F, a, b, c⟩ => ⟨he, F, Duo.start ⟨[], rfl, a⟩ rfl (fun _ _ h => h) c (fun _ h => h.elim) (b.below (Nat.le_refl _) (fun _ h => h.elim)) b.size⟩
/-- Another thing beside it. -/
theorem Duo.beside {B : Nat} {w0 w w' : World} {A C C' : (Nat → Prop) → World → Prop} {F G G' : Nat → Prop} (h : Duo B w0 A C F G w) (hA : Local A) (ht : Turns nobody w w') (hc : C' G' w') (hn : ∀ i, G' i → w.heap.size ≤ i) : Duo B w0 A C' F G' w' :=
  Duo.start (hA.keep h.a ht (fun _ _ h => h)) hc (fun i hi hg => by have := (hA F w h.a).1 i hi; have := hn i hg; omega) h.fnew (fun i hi => Nat.le_trans h.size (hn i hi)) (h.below.trans (ht.below h.size (fun _ h => h.elim))) (Nat.le_trans h.size ht.size)
theorem Duo.alone {B : Nat} {w0 w : World} {A C : (Nat → Prop) → World → Prop} {F G : Nat → Prop} (h : Duo B w0 A C F G w) : Duo B w0 A nothing F nobody w :=
  Duo.start h.a rfl (fun _ _ h => h) h.fnew (fun _ h => h.elim) h.below h.size

theorem Duo.both {B : Nat} {w0 w w' : World} {A : (Nat → Prop) → World → Prop} {F G : Nat → Prop} {v u : Value} {y z : List (List Int)} (h : Duo B w0 A (SlObj v y) F G w) (hA : Local A) (ht : Turns nobody w w') (hu : ISl w' u z) (hn : ∀ i, blk u i → w.heap.size ≤ i) : ∃ G', Duo B w0 A (SlTwo v y u z) F G' w' := by
  obtain ⟨hc, hG⟩ := h.c
  refine ⟨fun i => blk v i ∨ blk u i, Duo.start (hA.keep h.a ht (fun _ _ h => h)) ⟨Sl.keep hc ht (fun _ _ h => h), hu, rfl⟩ (fun i hi hg => ?_) h.fnew (fun i hi => ?_) (h.below.trans (ht.below h.size (fun _ h => h.elim))) (Nat.le_trans h.size ht.size)⟩
  · rcases hg with hg | hg
    · exact h.apart i hi (by rw [hG]; exact hg)
    · have := (hA F w h.a).1 i hi
      have := hn i hg
      omega
  · rcases hi with hi | hi
    · exact h.gnew i (by rw [hG]; exact hi)
    · exact Nat.le_trans h.size (hn i hi)

theorem useL_len (x : List (List Int)) (id : List Int) : (useL x id).length = (dropL x id).length + 1 := by unfold useL dropL; simp
theorem useL_take (x : List (List Int)) (id : List Int) : (useL x id).take (dropL x id).length = dropL x id := by unfold useL dropL; simp
theorem useL_last (x : List (List Int)) (id : List Int) : (useL x id).getD (dropL x id).length [] = id := by unfold useL dropL; simp [List.getD]
theorem dropL_useL (x : List (List Int)) (id : List Int) : dropL (useL x id) id = dropL x id := by unfold useL dropL; simp [List.filter_append]
theorem mem_useL (x : List (List Int)) (id : List Int) : id ∈ useL x id := by unfold useL; simp
theorem not_mem_dropL (x : List (List Int)) (id : List Int) : id ∉ dropL x id := by unfold dropL; simp

/-! ### Calls as rows -/
def actKinds : List TypeDesc := [.int .i64] ++ List.replicate 32 (.int .u8)
theorem act_row {r : List Value} (h : Fits actKinds r) : ∃ (k : Int) (id : List Int), r = .int .i64 k :: idc id ∧ id.length = 32 := by
  obtain ⟨a, b, rfl, h1, h2⟩ := idkit.Fits.split h
  obtain ⟨_, r1, rfl, ⟨k, rfl, _⟩, e1⟩ := argkit.Fits.cons h1
  obtain rfl := argkit.Fits.nil e1
  obtain ⟨id, rfl, hid⟩ := fits_bytes 32 h2
  exact ⟨k, id, rfl, hid⟩
/-- One row of an argument, where it lies. -/
theorem row_at {w W : World} {B : Nat} {rows : List (List Value)} {b o : Nat} (hb : b < B) (hc : ∀ i, i < rows.length → ∀ j, j < 33 → w.cell? ⟨b, o + i * 33 + j, none⟩ = some ((rows.getD i []).getD j undef)) (hW : Below B w W) {k : Int} {id : List Int} (i : Nat) (hi : i < rows.length) (hr : rows.getD i [] = .int .i64 k :: idc id) (hl : id.length = 32) :
    W.cell? ⟨b, o + i * 33, none⟩ = some (.int .i64 k) ∧ W.rangeAt b (o + i * 33 + 1) (idc id) := by
  have hh : ∀ j v, (Value.int .i64 k :: idc id)[j]? = some v → W.cell? ⟨b, o + i * 33 + j, none⟩ = some v := fun j v hj => by
    have hjn : j < 33 := by have := (List.getElem?_eq_some_iff.1 hj).1; rw [List.length_cons, idc_len, hl] at this; exact this
    rw [hW.cell (p := ⟨b, o + i * 33 + j, none⟩) hb, hc i hi j hjn, hr, List.getD, hj]
    rfl
  refine ⟨hh 0 _ rfl, fun j v hj => ?_⟩
  have := hh (j + 1) v (by simpa using hj)
  rw [show o + i * 33 + (j + 1) = o + i * 33 + 1 + j by omega] at this
  exact this

end Go.Proofs.Ytjjapnphljhicad.lru
