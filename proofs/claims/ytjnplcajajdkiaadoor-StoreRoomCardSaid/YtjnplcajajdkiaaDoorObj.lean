/- Objects in memory by their footprints: what a call may turn, what stays; slices at any offset of a block. No function of the program in sight. -/
import Derived.Test.YtjnplcajajdkiaaDoorRow
namespace Go.Proofs.YtjnplcajajdkiaaDoor.obj
open Go.RowKit
open Go.Proofs.YtjnplcajajdkiaaDoor.stepkit Go.Proofs.YtjnplcajajdkiaaDoor.row

/-- Of what was there only blocks of F may have turned. -/
structure Turns (F : Nat → Prop) (w w' : World) : Prop where
  os : w'.os = w.os
  tape : w'.tape = w.tape
  output : w'.output = w.output
  size : w.heap.size ≤ w'.heap.size
  block : ∀ k, k < w.heap.size → ¬ F k → w'.heap[k]? = w.heap[k]?

def nobody : Nat → Prop := fun _ => False

theorem Turns.refl (F : Nat → Prop) (w : World) : Turns F w w := ⟨rfl, rfl, rfl, Nat.le_refl _, fun _ _ _ => rfl⟩
theorem Turns.trans {F G : Nat → Prop} {a b c : World} (h : Turns F a b) (k : Turns G b c) (hG : ∀ i, G i → F i ∨ a.heap.size ≤ i) : Turns F a c :=
  ⟨k.os.trans h.os, k.tape.trans h.tape, k.output.trans h.output, Nat.le_trans h.size k.size, fun i hi hn => (k.block i (Nat.lt_of_lt_of_le hi h.size) (fun hg => by rcases hG i hg with h' | h'; exact hn h'; omega)).trans (h.block i hi hn)⟩
theorem Turns.mono {F G : Nat → Prop} {a b : World} (h : Turns F a b) (hF : ∀ i, F i → G i ∨ a.heap.size ≤ i) : Turns G a b :=
  ⟨h.os, h.tape, h.output, h.size, fun i hi hn => h.block i hi fun hf => by rcases hF i hf with h' | h'; exact hn h'; omega⟩
theorem Turns.of_grown {F : Nat → Prop} {a b : World} {row : Option Nat} (h : a.grownBy b row) (hF : ∀ i, row = some i → F i ∨ a.heap.size ≤ i) : Turns F a b :=
  ⟨h.os, h.tape, h.output, h.size, fun i hi hn => h.block i hi fun e => by rcases hF i e.symm with h' | h'; exact hn h'; omega⟩
theorem Turns.grown {F : Nat → Prop} {a b c : World} {row : Option Nat} (h : Turns F a b) (hg : b.grownBy c row) (hF : ∀ i, row = some i → F i ∨ a.heap.size ≤ i) : Turns F a c :=
  h.trans (Turns.of_grown (F := fun i => row = some i) hg (fun _ e => Or.inl e)) hF
theorem Turns.drewN {F : Nat → Prop} {a b : World} (h : Turns F a b) (n : Nat) : Turns F a (b.drewN n) := ⟨h.os, h.tape, h.output, h.size, h.block⟩
theorem Turns.drew {F : Nat → Prop} {a b : World} (h : Turns F a b) : Turns F a b.drew := ⟨h.os, h.tape, h.output, h.size, h.block⟩
theorem Turns.drawn {F : Nat → Prop} {a b : World} (h : ∃ n, b = a.drewN n) : Turns F a b := by obtain ⟨n, rfl⟩ := h; exact (Turns.refl _ _).drewN n
theorem Turns.alloc {F : Nat → Prop} {a b : World} (h : Turns F a b) (o : Obj) : Turns F a (b.alloc o) := h.grown (World.grownBy_alloc b o none) (fun _ e => by cases e)
theorem Turns.setCell {F : Nat → Prop} {a b : World} (h : Turns F a b) (p i : Nat) (v : Value) (hp : F p ∨ a.heap.size ≤ p) : Turns F a (b.setCell ⟨p, i, none⟩ v) := h.grown (grownBy_setCell b p i v) (fun _ e => by cases e; exact hp)
theorem Turns.below {F : Nat → Prop} {a b : World} (h : Turns F a b) {B : Nat} (hB : B ≤ a.heap.size) (hF : ∀ i, F i → B ≤ i) : Below B a b :=
  ⟨h.os, h.tape, h.output, h.size, fun i hi => h.block i (by omega) (fun hf => by have := hF i hf; omega)⟩
theorem Turns.cell {F : Nat → Prop} {a b : World} (h : Turns F a b) {p : Addr} (hp : p.block < a.heap.size) (hn : ¬ F p.block) : b.cell? p = a.cell? p := World.cell?_of_block (w := a) (h.block p.block hp hn)
theorem Turns.frozen {F : Nat → Prop} {a b : World} (h : Turns F a b) {p : Addr} (hp : p.block < a.heap.size) (hn : ¬ F p.block) : b.frozen? p = a.frozen? p := World.frozen?_of_block (w := a) (h.block p.block hp hn)
theorem Turns.toGrown {a b : World} {p : Nat} (h : Turns (fun i => i = p) a b) : a.grownBy b (some p) := ⟨h.os, h.tape, h.output, h.size, fun i hi hn => h.block i hi (fun e => hn (by rw [e]))⟩

/-- What a call of an object of footprint F leaves: the object, of a footprint that has grown by new blocks alone. -/
def Step (F : Nat → Prop) (A : (Nat → Prop) → World → Prop) (w w' : World) : Prop := ∃ F', A F' w' ∧ Turns F w w' ∧ ∀ i, F' i → F i ∨ w.heap.size ≤ i

theorem Step.same {F : Nat → Prop} {A : (Nat → Prop) → World → Prop} {w w' : World} (h : A F w') (ht : Turns F w w') : Step F A w w' := ⟨F, h, ht, fun _ h => Or.inl h⟩

/-- An object that lies in its footprint. -/
def Local (A : (Nat → Prop) → World → Prop) : Prop :=
  ∀ F w, A F w → (∀ i, F i → i < w.heap.size) ∧ ∀ w', w.heap.size ≤ w'.heap.size → (∀ i, F i → w'.heap[i]? = w.heap[i]?) → A F w'

theorem Local.keep {A : (Nat → Prop) → World → Prop} (h : Local A) {F G : Nat → Prop} {w w' : World} (ha : A F w) (ht : Turns G w w') (hd : ∀ i, F i → ¬ G i) : A F w' :=
  (h F w ha).2 w' ht.size fun i hi => ht.block i ((h F w ha).1 i hi) (hd i hi)
theorem Local.drawn {A : (Nat → Prop) → World → Prop} (h : Local A) {F : Nat → Prop} {w w' : World} (ha : A F w) (hw : ∃ n, w' = w.drewN n) : A F w' :=
  h.keep ha (Turns.drawn (F := nobody) hw) (fun _ _ h => h)

theorem Step.turned {F : Nat → Prop} {A : (Nat → Prop) → World → Prop} {w w' : World} (h : Step F A w w') : Turns F w w' := by obtain ⟨_, _, h, _⟩ := h; exact h
theorem Step.still {F : Nat → Prop} {A : (Nat → Prop) → World → Prop} {w w1 w2 : World} (h : Step F A w w1) (hA : Local A) (ht : Turns nobody w1 w2) : Step F A w w2 := by
  obtain ⟨F', h1, h2, h3⟩ := h
  exact ⟨F', hA.keep h1 ht (fun _ _ h => h), h2.trans ht (fun _ h => h.elim), h3⟩
theorem Step.alloc {F : Nat → Prop} {A : (Nat → Prop) → World → Prop} {w w1 : World} (h : Step F A w w1) (hA : Local A) (o : Obj) : Step F A w (w1.alloc o) := h.still hA ((Turns.refl _ _).alloc o)
theorem Step.before {F : Nat → Prop} {A : (Nat → Prop) → World → Prop} {w w1 w2 : World} (h : Step F A w1 w2) (ht : Turns nobody w w1) : Step F A w w2 := by
  obtain ⟨F', h1, h2, h3⟩ := h
  exact ⟨F', h1, (ht.mono (fun _ h => h.elim)).trans h2 (fun _ h => Or.inl h), fun i hi => by rcases h3 i hi with h | h; exact Or.inl h; exact Or.inr (Nat.le_trans ht.size h)⟩

theorem Step.aside {F G : Nat → Prop} {A : (Nat → Prop) → World → Prop} {w w2 w4 w5 : World} (h : Step F A w2 w4) (hA : Local A) (h0 : Turns nobody w w2) (h5 : Turns G w4 w5) (hG : ∀ i, G i → w.heap.size ≤ i ∧ i < w2.heap.size ∧ ¬ F i) : Step F A w w5 := by
  obtain ⟨F', h1, h2, h3⟩ := h
  refine ⟨F', hA.keep h1 h5 (fun i hi hg => ?_), ((h0.mono (fun _ h => h.elim)).trans h2 (fun _ h => Or.inl h)).trans h5 (fun i hg => Or.inr (hG i hg).1), fun i hi => ?_⟩
  · obtain ⟨_, g2, g3⟩ := hG i hg
    rcases h3 i hi with h | h
    · exact g3 h
    · omega
  · rcases h3 i hi with h | h
    · exact Or.inl h
    · exact Or.inr (Nat.le_trans h0.size h)
theorem Turns.set (w : World) (p i : Nat) (v : Value) : Turns (fun k => k = p) w (w.setCell ⟨p, i, none⟩ v) := (Turns.refl _ _).setCell p i v (Or.inl rfl)

def nothing : (Nat → Prop) → World → Prop := fun F _ => F = nobody
theorem local_nothing : Local nothing := fun F w h => ⟨fun i hi => by rw [h] at hi; exact hi.elim, fun _ _ _ => h⟩

/-- Two objects apart, both made since block number B. -/
structure Duo (B : Nat) (w0 : World) (A C : (Nat → Prop) → World → Prop) (F G : Nat → Prop) (w : World) : Prop where
  a : A F w
  c : C G w
  apart : ∀ i, F i → ¬ G i
  fnew : ∀ i, F i → B ≤ i
  gnew : ∀ i, G i → B ≤ i
  below : Below B w0 w
  size : B ≤ w.heap.size

theorem Duo.left {B : Nat} {w0 : World} {A A' C : (Nat → Prop) → World → Prop} {F G : Nat → Prop} {w w' : World} (h : Duo B w0 A C F G w) (hC : Local C) (hs : Step F A' w w') : ∃ F', Duo B w0 A' C F' G w' := by
  obtain ⟨F', ha, ht, hn⟩ := hs
  have hg := (hC G w h.c).1
  exact ⟨F', ha, hC.keep h.c ht (fun i hi hf => h.apart i hf hi), fun i hi hgi => by rcases hn i hi with h1 | h1; exact h.apart i h1 hgi; have := hg i hgi; omega,
    fun i hi => by rcases hn i hi with h1 | h1; exact h.fnew i h1; have := h.size; omega, h.gnew, h.below.trans (ht.below h.size h.fnew), Nat.le_trans h.size ht.size⟩

theorem Duo.right {B : Nat} {w0 : World} {A C C' : (Nat → Prop) → World → Prop} {F G : Nat → Prop} {w w' : World} (h : Duo B w0 A C F G w) (hA : Local A) (hs : Step G C' w w') : ∃ G', Duo B w0 A C' F G' w' := by
  obtain ⟨G', hc, ht, hn⟩ := hs
  have hf := (hA F w h.a).1
  exact ⟨G', hA.keep h.a ht h.apart, hc, fun i hi hgi => by rcases hn i hgi with h1 | h1; exact h.apart i hi h1; have := hf i hi; omega,
    h.fnew, fun i hi => by rcases hn i hi with h1 | h1; exact h.gnew i h1; have := h.size; omega, h.below.trans (ht.below h.size h.gnew), Nat.le_trans h.size ht.size⟩

/-- What turns neither. -/
theorem Duo.still {B : Nat} {w0 : World} {A C : (Nat → Prop) → World → Prop} {F G : Nat → Prop} {w w' : World} (h : Duo B w0 A C F G w) (hA : Local A) (hC : Local C) (ht : Turns nobody w w') : Duo B w0 A C F G w' :=
  ⟨hA.keep h.a ht (fun _ _ h => h), hC.keep h.c ht (fun _ _ h => h), h.apart, h.fnew, h.gnew, h.below.trans (ht.below h.size (fun _ h => h.elim)), Nat.le_trans h.size ht.size⟩

theorem Duo.start {B : Nat} {w0 w : World} {A C : (Nat → Prop) → World → Prop} {F G : Nat → Prop} (ha : A F w) (hc : C G w) (hd : ∀ i, F i → ¬ G i) (hf : ∀ i, F i → B ≤ i) (hg : ∀ i, G i → B ≤ i) (hb : Below B w0 w) (hB : B ≤ w.heap.size) : Duo B w0 A C F G w :=
  ⟨ha, hc, hd, hf, hg, hb, hB⟩

/-! ### Slices at any offset of a block -/

def Sl (w : World) (e : TypeId) (sz : Nat) (v : Value) (n : Nat) (xs : List Value) : Prop :=
  xs.length = n * sz ∧ ((v = .slice none 0 0 ∧ n = 0) ∨
    ∃ g o cap cur, v = .slice (some ⟨g, o, none⟩) n cap ∧ w.heap[g]? = some (.cells cur e (0, 0)) ∧ n ≤ cap ∧ cap ≤ maxLen ∧ o + cap * sz ≤ cur.size ∧ (cur.toList.drop o).take (n * sz) = xs)

/-- The block of a slice. -/
def blk (v : Value) : Nat → Prop := fun i => v.ownBlock = some i

theorem Sl.nil (w : World) (e : TypeId) (sz : Nat) : Sl w e sz (.slice none 0 0) 0 [] := ⟨by simp, Or.inl ⟨rfl, rfl⟩⟩

theorem Sl.of_owns {w : World} {base : Nat} {e : TypeId} {sz : Nat} {v : Value} {n : Nat} {xs : List Value} (h : w.ownsRow base e sz v n xs) : Sl w e sz v n xs := by
  obtain ⟨h1, h2 | ⟨g, cap, cur, hv, _, hg, hn, hm, hs, ht⟩⟩ := h
  · exact ⟨h1, Or.inl h2⟩
  · exact ⟨h1, Or.inr ⟨g, 0, cap, cur, hv, hg, hn, hm, by omega, by simpa using ht⟩⟩

theorem Sl.of_heap {w w' : World} {e : TypeId} {sz : Nat} {v : Value} {n : Nat} {xs : List Value} (h : Sl w e sz v n xs) (hh : ∀ g, blk v g → w'.heap[g]? = w.heap[g]?) : Sl w' e sz v n xs := by
  obtain ⟨h1, h2 | ⟨g, o, cap, cur, rfl, hg, r⟩⟩ := h
  · exact ⟨h1, Or.inl h2⟩
  · exact ⟨h1, Or.inr ⟨g, o, cap, cur, rfl, by rw [hh g rfl]; exact hg, r⟩⟩

theorem Sl.lt {w : World} {e : TypeId} {sz : Nat} {v : Value} {n : Nat} {xs : List Value} (h : Sl w e sz v n xs) : ∀ g, blk v g → g < w.heap.size := by
  intro g hg
  obtain ⟨_, ⟨rfl, _⟩ | ⟨g', o, cap, cur, rfl, hh, _⟩⟩ := h
  · cases hg
  · simp only [blk, Value.ownBlock, Option.some.injEq] at hg
    subst hg
    exact lt_of_block hh

theorem Sl.keep {w w' : World} {e : TypeId} {sz : Nat} {v : Value} {n : Nat} {xs : List Value} {F : Nat → Prop} (h : Sl w e sz v n xs) (ht : Turns F w w') (hd : ∀ i, blk v i → ¬ F i) : Sl w' e sz v n xs :=
  h.of_heap fun g hg => ht.block g (h.lt g hg) (hd g hg)

theorem Sl.drew {w : World} {e : TypeId} {sz : Nat} {v : Value} {n : Nat} {xs : List Value} (h : Sl w e sz v n xs) : Sl w.drew e sz v n xs := h
theorem Sl.drewN {w : World} {e : TypeId} {sz : Nat} {v : Value} {n : Nat} {xs : List Value} (h : Sl w e sz v n xs) (k : Nat) : Sl (w.drewN k) e sz v n xs := h

theorem Sl.shape {w : World} {e : TypeId} {sz : Nat} {v : Value} {n : Nat} {xs : List Value} (h : Sl w e sz v n xs) : ∃ ao cap, v = .slice ao n cap ∧ n ≤ cap ∧ cap ≤ maxLen ∧ (ao = none → n = 0 ∧ cap = 0) ∧ (∀ a, ao = some a → a.spot = none) := by
  obtain ⟨_, ⟨rfl, rfl⟩ | ⟨g, o, cap, cur, rfl, _, hn, hm, _⟩⟩ := h
  · exact ⟨none, 0, rfl, Nat.le_refl _, Nat.zero_le _, (fun _ => ⟨rfl, rfl⟩), (fun _ h => by cases h)⟩
  · exact ⟨_, cap, rfl, hn, hm, (fun h => by cases h), (fun _ h => by cases h; rfl)⟩

theorem Sl.len {w : World} {e : TypeId} {sz : Nat} {v : Value} {n : Nat} {xs : List Value} (h : Sl w e sz v n xs) : xs.length = n * sz := h.1

/-- The cells of a slice. -/
theorem Sl.cell {w : World} {e : TypeId} {sz : Nat} {g o n cap : Nat} {sp : Option Nat} {xs : List Value} (h : Sl w e sz (.slice (some ⟨g, o, sp⟩) n cap) n xs) (i : Nat) (hi : i < xs.length) : w.cell? ⟨g, o + i, none⟩ = some (xs.getD i undef) := by
  obtain ⟨h1, ⟨hv, _⟩ | ⟨g', o', cap', cur, hv, hh, hn, hm, hs, ht⟩⟩ := h
  · cases hv
  · cases hv
    have h2 : ((cur.toList.drop o).take (n * sz))[i]? = xs[i]? := by rw [ht]
    rw [List.getElem?_take, if_pos (by omega), List.getElem?_drop] at h2
    simp only [World.cell?, hh]
    simp only [Array.getElem?_toList] at h2
    simp [h2, List.getD, hi]

theorem Sl.some_of_pos {w : World} {e : TypeId} {sz : Nat} {v : Value} {n : Nat} {xs : List Value} (h : Sl w e sz v n xs) (hn : 0 < n) : ∃ g o cap, v = .slice (some ⟨g, o, none⟩) n cap ∧ g < w.heap.size := by
  obtain ⟨h1, ⟨_, h0⟩ | ⟨g, o, cap, cur, hv, hh, _⟩⟩ := h
  · omega
  · exact ⟨g, o, cap, hv, lt_of_block hh⟩

/-- 'v[i:j:m]'. -/
theorem Sl.cut {w : World} {e : TypeId} {sz : Nat} {g o n cap : Nat} {xs : List Value} (h : Sl w e sz (.slice (some ⟨g, o, none⟩) n cap) n xs) (i j m : Nat) (hij : i ≤ j) (hjn : j ≤ n) (hjm : j ≤ m) (hm : m ≤ cap) :
    Sl w e sz (.slice (some ⟨g, o + i * sz, none⟩) (j - i) (m - i)) (j - i) ((xs.drop (i * sz)).take ((j - i) * sz)) := by
  obtain ⟨h1, ⟨hv, _⟩ | ⟨g', o', cap', cur, hv, hh, hn, hmx, hs, ht⟩⟩ := h
  · cases hv
  · cases hv
    have a1 : i * sz ≤ j * sz := Nat.mul_le_mul_right _ hij
    have a2 : j * sz ≤ n * sz := Nat.mul_le_mul_right _ hjn
    have a3 : m * sz ≤ cap * sz := Nat.mul_le_mul_right _ hm
    have a4 : (j - i) * sz = j * sz - i * sz := Nat.sub_mul _ _ _
    have a5 : (m - i) * sz = m * sz - i * sz := Nat.sub_mul _ _ _
    have a6 : i * sz ≤ m * sz := Nat.mul_le_mul_right _ (by omega)
    refine ⟨?_, Or.inr ⟨g, o + i * sz, m - i, cur, rfl, hh, by omega, by omega, by omega, ?_⟩⟩
    · rw [List.length_take, List.length_drop, h1]; omega
    · rw [← ht, List.drop_take, List.drop_drop, List.take_take, Nat.min_eq_left (by omega)]


/-- Any cut of a slice. -/
theorem Sl.sliced {w : World} {e : TypeId} {sz : Nat} {ao : Option Addr} {n cap : Nat} {xs : List Value} (h : Sl w e sz (.slice ao n cap) n xs) (i j m : Nat) (hij : i ≤ j) (hjn : j ≤ n) (hjm : j ≤ m) (hm : m ≤ cap) :
    Sl w e sz (Go.sliced ao i j m sz) (j - i) ((xs.drop (i * sz)).take ((j - i) * sz)) := by
  have h' := h
  obtain ⟨h1, ⟨hv, rfl⟩ | ⟨g, o, cap', cur, hv, hh, hn, hmx, hs, ht⟩⟩ := h'
  · cases hv
    obtain rfl : i = 0 := by omega
    obtain rfl : j = 0 := by omega
    obtain rfl : m = 0 := by omega
    exact ⟨by simp, Or.inl ⟨rfl, rfl⟩⟩
  · cases hv
    by_cases hmi : m = i
    · subst hmi
      obtain rfl : j = m := by omega
      refine ⟨by simp, Or.inr ⟨g, o, 0, cur, by simp [Go.sliced], hh, by omega, by omega, by omega, by simp⟩⟩
    · have hc := h.cut i j m hij hjn hjm hm
      unfold Go.sliced
      rw [if_neg hmi, Option.map_some, Addr.add_lit]
      exact hc

theorem sliced_own (ao : Option Addr) (n cap i j m s : Nat) : ∀ k, blk (Go.sliced ao i j m s) k ↔ blk (.slice ao n cap) k := by
  intro k
  cases ao with
  | none => unfold Go.sliced; split <;> rfl
  | some a => unfold Go.sliced; split <;> simp [blk, Value.ownBlock, Addr.add] <;> split <;> rfl

theorem lt_of_cell' {w : World} {a : Addr} {v : Value} (h : w.cell? a = some v) : a.block < w.heap.size := by
  rcases Nat.lt_or_ge a.block w.heap.size with h' | h'
  · exact h'
  · simp [World.cell?, Array.getElem?_eq_none h'] at h

/-- What is read, element by element: a slice, nil included. -/
def Src (w : World) (sz : Nat) (x : Value) (m : Nat) (news : List Value) : Prop :=
  news.length = m * sz ∧ (∀ u ∈ news, u.oneCell' = true) ∧ ((x = .slice none 0 0 ∧ m = 0) ∨ ∃ a c, x = .slice (some a) m c ∧ ∀ j u, news[j]? = some u → w.cell? (a.add j) = some u)

theorem Sl.src {w : World} {e : TypeId} {sz : Nat} {v : Value} {n : Nat} {xs : List Value} (h : Sl w e sz v n xs) (h1 : ∀ u ∈ xs, u.oneCell' = true) : Src w sz v n xs := by
  refine ⟨h.1, h1, ?_⟩
  have h' := h
  obtain ⟨hl, h2 | ⟨g, o, cap, cur, rfl, _⟩⟩ := h'
  · exact Or.inl h2
  · refine Or.inr ⟨_, _, rfl, fun j u hj => ?_⟩
    have hj' : j < xs.length := (List.getElem?_eq_some_iff.1 hj).1
    rw [Addr.add_lit, h.cell j hj']
    simpa [List.getD, hj'] using hj

theorem Src.of_row {w : World} {a : Addr} {c m sz : Nat} {news : List Value} (hl : news.length = m * sz) (h1 : ∀ u ∈ news, u.oneCell' = true) (h : ∀ j u, news[j]? = some u → w.cell? (a.add j) = some u) : Src w sz (.slice (some a) m c) m news := ⟨hl, h1, Or.inr ⟨a, c, rfl, h⟩⟩

theorem Src.mono {w w' : World} {sz : Nat} {x : Value} {m : Nat} {news : List Value} (h : Src w sz x m news) (hc : ∀ a v, w.cell? a = some v → x.ownBlock = some a.block → w'.cell? a = some v) : Src w' sz x m news := by
  obtain ⟨h1, h2, h3 | ⟨a, c, rfl, h4⟩⟩ := h
  · exact ⟨h1, h2, Or.inl h3⟩
  · exact ⟨h1, h2, Or.inr ⟨a, c, rfl, fun j u hj => hc _ _ (h4 j u hj) (by simp [Value.ownBlock, Addr.add]; split <;> rfl)⟩⟩

theorem Src.alloc {w : World} {sz : Nat} {x : Value} {m : Nat} {news : List Value} (h : Src w sz x m news) (o : Obj) : Src (w.alloc o) sz x m news :=
  h.mono fun a v ha _ => (World.cell?_of_block (w := w) (heap_alloc_old _ _ (lt_of_cell' ha))).trans ha
theorem Src.keep {w w' : World} {F : Nat → Prop} {sz : Nat} {x : Value} {m : Nat} {news : List Value} (h : Src w sz x m news) (ht : Turns F w w') (hd : ∀ i, blk x i → ¬ F i) : Src w' sz x m news :=
  h.mono fun _ _ ha hb => (ht.cell (lt_of_cell' ha) (hd _ hb)).trans ha
theorem Src.drew {w : World} {sz : Nat} {x : Value} {m : Nat} {news : List Value} (h : Src w sz x m news) : Src w.drew sz x m news := h
theorem Sl.empty {w : World} {g o : Nat} {cur : Array Value} {e : TypeId} {sz : Nat} (h : w.heap[g]? = some (.cells cur e (0, 0))) (ho : o ≤ cur.size) : Sl w e sz (.slice (some ⟨g, o, none⟩) 0 0) 0 [] :=
  ⟨by simp, Or.inr ⟨g, o, 0, cur, rfl, h, Nat.le_refl _, Nat.zero_le _, by simpa using ho, by simp⟩⟩

/-- What a region that draws its order keeps: a struct at block p, a slice that is read. -/
structure RP (w : World) (p : Nat) (cs : Array Value) (t : TypeId) (x : Value) (sz m : Nat) (news : List Value) (W : World) : Prop where
  hp : W.heap[p]? = some (.cells cs t (0, 0))
  src : Src W sz x m news
  turned : Turns nobody w W

theorem RP.turns {w : World} {p : Nat} {cs : Array Value} {t : TypeId} {x : Value} {sz m : Nat} {news : List Value} {W W' : World} (h : RP w p cs t x sz m news W) (ht : Turns nobody W W') : RP w p cs t x sz m news W' :=
  ⟨by rw [ht.block p (lt_of_block h.hp) (fun h => h)]; exact h.hp, h.src.keep ht (fun _ _ h => h), h.turned.trans ht (fun _ h => h.elim)⟩
theorem RP.alloc {w : World} {p : Nat} {cs : Array Value} {t : TypeId} {x : Value} {sz m : Nat} {news : List Value} {W : World} (h : RP w p cs t x sz m news W) (o : Obj) :
    RP w p cs t x sz m news (W.alloc o) ∧ (W.alloc o).heap[W.heap.size]? = some o ∧ w.heap.size ≤ W.heap.size ∧ Turns nobody W (W.alloc o) :=
  ⟨h.turns ((Turns.refl _ _).alloc o), heap_alloc_new _ _, h.turned.size, (Turns.refl _ _).alloc o⟩

theorem RP.newer {w : World} {p : Nat} {cs : Array Value} {t : TypeId} {x : Value} {sz m : Nat} {news : List Value} {W W' : World} {G : Nat → Prop} (h : RP w p cs t x sz m news W) (ht : Turns G W W') (hG : ∀ i, G i → w.heap.size ≤ i) (hp : p < w.heap.size) (hx : ∀ i, blk x i → i < w.heap.size) : RP w p cs t x sz m news W' :=
  ⟨by rw [ht.block p (lt_of_block h.hp) (fun h => by have := hG _ h; omega)]; exact h.hp, h.src.keep ht (fun i hi hg => by have := hG _ hg; have := hx _ hi; omega), h.turned.trans ht (fun i hi => Or.inr (hG i hi))⟩
theorem heap_newer {W W' : World} {G : Nat → Prop} {b : Nat} {o : Obj} (h : W.heap[b]? = some o) (ht : Turns G W W') (hG : ¬ G b) : W'.heap[b]? = some o := by rw [ht.block b (lt_of_block h) hG]; exact h

section
variable {P : Program} (w : World)

theorem run_append_room_at (t ty e : TypeId) (i : TypeInfo) (ht : P.underlying t = some (.slice e)) (hi : P.info? e = some i)
    (g o sLen sCap : Nat) (cur : Array Value) (hg : w.heap[g]? = some (.cells cur e (0, 0)))
    (a : Addr) (m c : Nat) (news : List Value) (hl : news.length = m * i.size) (hnews : ∀ j u, news[j]? = some u → w.cell? (a.add j) = some u) (h1 : ∀ u ∈ news, u.oneCell' = true)
    (hroom : sLen + m ≤ sCap) (hfit : o + sLen * i.size + news.length ≤ cur.size) :
    (Builtin.append_ #[t, t] ty #[.slice (some ⟨g, o, none⟩) sLen sCap, .slice (some a) m c]).run P w =
      .ok (.slice (some ⟨g, o, none⟩) (sLen + m) sCap) (w.setRow g (cur.toList.take (o + sLen * i.size) ++ news ++ cur.toList.drop (o + sLen * i.size + news.length)).toArray) := by
  have hf := run_firstCells_some (P := P) w i.size m a m c news hl hnews
  have hst := run_storeCells_at P g (o + sLen * i.size) e news 0 cur w hg (by simpa using hfit) h1
  simp only [Nat.add_zero] at hst
  simp [Builtin.append_, run_underlying ht, sizeOf, typeInfo, hi, Builtin.lenOf, hroom, hf, Addr.add_lit, hst]

/-- The new value lies in the old one's block, or in a new one. -/
def Newer (v v' : Value) (w : World) : Prop := ∀ k, blk v' k → blk v k ∨ w.heap.size ≤ k
/-- Of a slice without spare room: nothing that was there turns; what is not empty is new. -/
def Clipped (v : Value) (n m : Nat) (v' : Value) (w w' : World) : Prop := ∀ ao, v = .slice ao n n → Turns nobody w w' ∧ (0 < m → ∀ k, blk v' k → w.heap.size ≤ k)

/-- append, of a slice that lies at any place of a block, nil included, and anything that is read: what was there stays, but the slice's own block; where the capacity is the length, that one too. -/
theorem run_append_sl (t ty e : TypeId) (i : TypeInfo) (z : Value) (size bytes : Nat) (ht : P.underlying t = some (.slice e)) (hi : P.info? e = some i) (hz : i.zero = some z)
    (hsize : i.size = size) (hby : i.bytes = bytes) (hzs : z.cells.size = size) (hsz : 0 < size) {v : Value} {n : Nat} {xs : List Value} (hv : Sl w e size v n xs)
    {x : Value} {m : Nat} {news : List Value} (hx : Src w size x m news) (h63 : n + m ≤ maxLen) (hbytes : (n + m) * bytes ≤ 140737488355328) :
    ∃ v' w', (Builtin.append_ #[t, t] ty #[v, x]).run P w = .ok v' w' ∧ Sl w' e size v' (n + m) (xs ++ news) ∧ Turns (blk v) w w' ∧ (∀ k, blk v' k → blk v k ∨ w.heap.size ≤ k) ∧
      (∀ ao, v = .slice ao n n → Turns nobody w w' ∧ (0 < m → ∀ k, blk v' k → w.heap.size ≤ k)) := by
  subst hsize
  subst hby
  obtain ⟨hl, h1, hsrc⟩ := hx
  have hsmall : n + m ≤ 9223372036854775807 := by simp only [maxLen] at h63; omega
  have hlen : (xs ++ news).length = (n + m) * i.size := by rw [List.length_append, hv.1, hl, Nat.add_mul]
  have grown : ∀ (old : Nat), old < n + m →
      Sl (w.drew.alloc (.cells (xs.toArray ++ news.toArray ++ Builtin.zeroCells z.cells (grownCap w (n + m) old e - (n + m))) e)) e i.size
        (.slice (some ⟨w.heap.size, 0, none⟩) (n + m) (grownCap w (n + m) old e)) (n + m) (xs ++ news) ∧
      Turns nobody w (w.drew.alloc (.cells (xs.toArray ++ news.toArray ++ Builtin.zeroCells z.cells (grownCap w (n + m) old e - (n + m))) e)) := by
    intro old ho
    have hge := grownCap_ge w (n + m) old e
    have hcm : grownCap w (n + m) old e ≤ maxLen := grownCap_le_maxLen w (n + m) old e h63
    refine ⟨⟨hlen, .inr ⟨w.heap.size, 0, _, _, rfl, heap_alloc_new w.drew _, hge, hcm, ?_, ?_⟩⟩, (Turns.refl _ _).drew.alloc _⟩
    · simp only [Array.size_append, List.size_toArray, size_zeroCells, hzs, hv.1, hl, ← Nat.add_mul]
      rw [show n + m + (grownCap w (n + m) old e - (n + m)) = grownCap w (n + m) old e by omega]
      omega
    · simp only [Array.toList_append, List.drop_zero]
      rw [← hlen]
      exact List.take_left
  have newk : ∀ c, ∀ k, blk (.slice (some ⟨w.heap.size, 0, none⟩) (n + m) c) k → w.heap.size ≤ k := by
    intro c k hk
    simp only [blk, Value.ownBlock, Option.some.injEq] at hk
    omega
  have any : ∀ w', Turns nobody w w' → Turns (blk v) w w' := fun w' h => h.mono fun _ h => h.elim
  rcases hsrc with ⟨rfl, rfl⟩ | ⟨a, c, rfl, hnews⟩
  · have hn0 : news = [] := List.eq_nil_of_length_eq_zero (by simpa using hl)
    subst hn0
    refine ⟨v, w, ?_, by simpa using hv, Turns.refl _ _, fun k hk => Or.inl hk, fun ao _ => ⟨Turns.refl _ _, fun h => by omega⟩⟩
    obtain ⟨ao, cap, rfl, hnc, _, hao, _⟩ := hv.shape
    cases ao with
    | none =>
      obtain ⟨rfl, rfl⟩ := hao rfl
      simp [Builtin.append_, run_underlying ht, sizeOf, typeInfo, hi, Builtin.lenOf, Builtin.firstCells]
    | some b => simp [Builtin.append_, run_underlying ht, sizeOf, typeInfo, hi, Builtin.lenOf, Builtin.firstCells, hnc, storeCells]
  · have hv' := hv
    obtain ⟨hvl, ⟨rfl, rfl⟩ | ⟨g, o, cap, cur, rfl, hg, hnc, hcm, hcs, htake⟩⟩ := hv'
    · have hx : xs = [] := List.eq_nil_of_length_eq_zero (by simpa using hvl)
      subst hx
      by_cases hm : m = 0
      · subst hm
        have hn : news = [] := List.eq_nil_of_length_eq_zero (by simpa using hl)
        subst hn
        refine ⟨.slice none 0 0, w, ?_, Sl.nil _ _ _, Turns.refl _ _, fun k hk => Or.inl hk, fun ao _ => ⟨Turns.refl _ _, fun h => by omega⟩⟩
        simp [Builtin.append_, run_underlying ht, sizeOf, typeInfo, hi, Builtin.lenOf, Builtin.firstCells, loadCells, loadCellsFrom]
      · have hr := run_append_nil (P := P) w t ty e i z ht hi hz a m c news hl hnews (by omega) (by omega) (by have hb := hbytes; simp only [Nat.zero_add] at hb; omega)
        have hgr := grown 0 (by omega)
        simp only [Nat.zero_add, List.nil_append, Array.empty_append] at hgr newk ⊢
        exact ⟨_, _, hr, hgr.1, any _ hgr.2, fun k hk => Or.inr (newk _ k hk), fun _ _ => ⟨hgr.2, fun _ k hk => newk _ k hk⟩⟩
    · by_cases hroom : n + m ≤ cap
      · have hmul : (n + m) * i.size ≤ cap * i.size := Nat.mul_le_mul_right _ hroom
        have hfit : o + n * i.size + news.length ≤ cur.size := by rw [hl]; rw [Nat.add_mul] at hmul; omega
        have hr := run_append_room_at (P := P) w t ty e i ht hi g o n cap cur hg a m c news hl hnews h1 hroom hfit
        refine ⟨_, _, hr, ⟨hlen, .inr ⟨g, o, cap, _, rfl, setRow_heap w g cur _ e _ hg, hroom, hcm, ?_, ?_⟩⟩, ⟨rfl, rfl, rfl, by simp, fun k _ hk => setRow_other w g k _ (fun e => hk (by simp [blk, Value.ownBlock, e]))⟩, fun k hk => Or.inl hk, fun ao hao => ?_⟩
        · simp only [List.size_toArray, List.length_append, List.length_take, List.length_drop, Array.length_toList]
          omega
        · have h2 : cur.toList.take (o + n * i.size) = cur.toList.take o ++ xs := by rw [← htake, List.take_add]
          rw [h2, List.append_assoc, List.append_assoc]
          have h3 : (cur.toList.take o).length = o := by rw [List.length_take, Array.length_toList]; omega
          rw [List.drop_append_of_le_length (by omega), List.drop_of_length_le (by omega), List.nil_append, ← List.append_assoc, ← hlen, List.take_left]
        · simp only [Value.slice.injEq] at hao
          obtain ⟨_, _, rfl⟩ := hao
          obtain rfl : m = 0 := by omega
          have hn : news = [] := List.eq_nil_of_length_eq_zero (by simpa using hl)
          subst hn
          refine ⟨?_, fun h => by omega⟩
          simp only [List.append_nil, List.length_nil, Nat.add_zero, List.take_append_drop, Array.toArray_toList]
          rw [setRow_self w g cur e (0, 0) hg]
          exact Turns.refl _ _
      · have holds : ∀ j u, xs[j]? = some u → w.cell? ((⟨g, o, none⟩ : Addr).add j) = some u := fun j u hj => by
          have hj' : j < xs.length := (List.getElem?_eq_some_iff.1 hj).1
          rw [Addr.add_lit, hv.cell j hj']
          simpa [List.getD, hj'] using hj
        have hr := run_append_grow (P := P) w t ty e i z ht hi hz ⟨g, o, none⟩ n cap xs hvl holds a m c news hl hnews (by omega) (by omega) (growslice_fits (by omega) hbytes)
        have hgr := grown cap (by omega)
        exact ⟨_, _, hr, hgr.1, any _ hgr.2, fun k hk => Or.inr (newk _ k hk), fun _ _ => ⟨hgr.2, fun _ k hk => newk _ k hk⟩⟩

end

section
variable {P : Program} {ops : Array Oper} {rest : List Oper} {o : Oper} {a : Act} {w : World} {Q : Exit → Act → World → Prop}

theorem wpList_append_sl (hgd : o.guard = none) (s x : Operand) (t : TypeId) (ho : o.op = .call { callee := .builtin .append, args := #[s, x], argTypes := #[t, t] })
    {e : TypeId} {i : TypeInfo} {z : Value} {size bytes : Nat} (ht : P.underlying t = some (.slice e)) (hi : P.info? e = some i) (hz : i.zero = some z)
    (hsize : i.size = size) (hby : i.bytes = bytes) (hzs : z.cells.size = size) (hsz : 0 < size) {v xv : Value} {n m : Nat} {xs news : List Value} (hs : a.eval s = v) (hx : a.eval x = xv) (hv : Sl w e size v n xs)
    (hxs : Src w size xv m news) (h63 : n + m ≤ maxLen) (hbytes : (n + m) * bytes ≤ 140737488355328)
    (h : ∀ v' w', Sl w' e size v' (n + m) (xs ++ news) → Turns (blk v) w w' → Newer v v' w → Clipped v n m v' w w' → wpList P ops Q rest (a.put o.dst v') w') : wpList P ops Q (o :: rest) a w := by
  refine wpList_plain hgd fun K hK => ?_
  obtain ⟨v', w', hr, h1, h2, h3, h4⟩ := run_append_sl (P := P) w t o.type e i z size bytes ht hi hz hsize hby hzs hsz hv hxs h63 hbytes
  unfold Oper.wp execOp
  simp only [ho, resolve, invoke, builtin, Sem.run_bind, Sem.run_pure, Result.andThen_ok, List.map_toArray, List.map_cons, List.map_nil, hs, hx, hr]
  exact hK _ _ (h v' w' h1 h2 h3 h4)
end

/-! ### A struct with one slice among its cells -/

def Box1 (t e : TypeId) (sz p : Nat) (mk : Value → Array Value) (n : Nat) (xs : List Value) : (Nat → Prop) → World → Prop := fun F w =>
  ∃ v, w.heap[p]? = some (.cells (mk v) t (0, 0)) ∧ Sl w e sz v n xs ∧ ¬ blk v p ∧ F = fun i => i = p ∨ blk v i

theorem local_box1 (t e : TypeId) (sz p : Nat) (mk : Value → Array Value) (n : Nat) (xs : List Value) : Local (Box1 t e sz p mk n xs) := by
  rintro F w ⟨v, h1, h2, h3, rfl⟩
  refine ⟨fun i hi => ?_, fun w' _ hh => ⟨v, by rw [hh p (Or.inl rfl)]; exact h1, h2.of_heap fun g hg => hh g (Or.inr hg), h3, rfl⟩⟩
  rcases hi with rfl | hi
  · exact lt_of_block h1
  · exact h2.lt i hi

theorem Box1.at_p {t e : TypeId} {sz p : Nat} {mk : Value → Array Value} {n : Nat} {xs : List Value} {F : Nat → Prop} {w : World} (h : Box1 t e sz p mk n xs F w) : F p := by obtain ⟨v, _, _, _, rfl⟩ := h; exact Or.inl rfl

/-- A store into a field of one cell that is no slice of the struct. -/
theorem Box1.set {t e : TypeId} {sz p : Nat} {mk mk' : Value → Array Value} {n : Nat} {xs : List Value} {F : Nat → Prop} {w w1 : World} (h : Box1 t e sz p mk n xs F w) (ht : Turns nobody w w1) (i : Nat) (u : Value) (hmk : ∀ v, (mk v).setIfInBounds i u = mk' v) :
    Step F (Box1 t e sz p mk' n xs) w (w1.setCell ⟨p, i, none⟩ u) := by
  have h1 := (local_box1 t e sz p mk n xs).keep h ht (fun _ _ h => h)
  obtain ⟨v, g1, g2, g3, rfl⟩ := h1
  refine ⟨_, ⟨v, ?_, ?_, g3, rfl⟩, (ht.mono (fun _ h => h.elim)).setCell p i u (Or.inl (Or.inl rfl)), fun i hi => Or.inl hi⟩
  · rw [← hmk]; exact heap_setCell_at g1 i u
  · refine g2.of_heap fun g hg => Below.heap_setCell _ _ _ _ ?_
    intro e
    simp only at e
    exact g3 (e ▸ hg)

/-- A store of a slice that is its own, or new. -/
theorem Box1.put {t e : TypeId} {sz p : Nat} {mk mk' : Value → Array Value} {n n' : Nat} {xs xs' : List Value} {F : Nat → Prop} {w w1 : World} (h : Box1 t e sz p mk n xs F w) (ht : Turns F w w1) {cs : Array Value} (hp : w1.heap[p]? = some (.cells cs t (0, 0)))
    {v' : Value} (hv : Sl w1 e sz v' n' xs') (hn : ∀ k, blk v' k → (F k ∧ k ≠ p) ∨ w.heap.size ≤ k) (i : Nat) (hmk : cs.setIfInBounds i v' = mk' v') :
    Step F (Box1 t e sz p mk' n' xs') w (w1.setCell ⟨p, i, none⟩ v') := by
  have hpl : p < w.heap.size := by obtain ⟨v, g1, _⟩ := h; exact lt_of_block g1
  have hFp := h.at_p
  have hne : ¬ blk v' p := fun hb => by rcases hn p hb with h1 | h1; exact h1.2 rfl; omega
  refine ⟨_, ⟨v', ?_, ?_, hne, rfl⟩, ht.setCell p i v' (Or.inl hFp), fun k hk => ?_⟩
  · rw [← hmk]; exact heap_setCell_at hp i v'
  · refine hv.of_heap fun g hg => Below.heap_setCell _ _ _ _ ?_
    intro e
    simp only at e
    exact hne (e ▸ hg)
  · rcases hk with rfl | hk
    · exact Or.inl hFp
    · rcases hn k hk with h1 | h1
      · exact Or.inl h1.1
      · exact Or.inr h1

/-- A new struct whose slice is nil. -/
theorem Box1.fresh {t e : TypeId} {sz : Nat} {mk : Value → Array Value} {w : World} : Box1 t e sz w.heap.size mk 0 [] (fun i => i = w.heap.size ∨ blk (.slice none 0 0) i) (w.alloc (.cells (mk (.slice none 0 0)) t (0, 0))) :=
  ⟨_, heap_alloc_new w _, Sl.nil _ _ _, (fun h => by cases h), rfl⟩

/-- A block of its own. -/
def BoxAt (b : Nat) (cs : Array Value) (t : TypeId) : (Nat → Prop) → World → Prop := fun F w => w.heap[b]? = some (.cells cs t (0, 0)) ∧ F = fun i => i = b
theorem local_box (b : Nat) (cs : Array Value) (t : TypeId) : Local (BoxAt b cs t) := by
  rintro F w ⟨h, rfl⟩
  exact ⟨fun i hi => by rw [hi]; exact lt_of_block h, fun w' _ hh => ⟨by rw [hh b rfl]; exact h, rfl⟩⟩
theorem BoxAt.set {b : Nat} {cs cs' : Array Value} {t : TypeId} {F : Nat → Prop} {w w1 : World} (h : BoxAt b cs t F w) (ht : Turns nobody w w1) (i : Nat) (u : Value) (hc : cs.setIfInBounds i u = cs') : Step F (BoxAt b cs' t) w (w1.setCell ⟨b, i, none⟩ u) := by
  have h1 := (local_box b cs t).keep h ht (fun _ _ h => h)
  obtain ⟨g1, rfl⟩ := h1
  refine ⟨_, ⟨?_, rfl⟩, (ht.mono (fun _ h => h.elim)).setCell b i u (Or.inl rfl), fun _ h => Or.inl h⟩
  rw [← hc]; exact heap_setCell_at g1 i u

/-- Rows of n cells: one of them. -/
theorem getD_flat {l : List (List Value)} {n : Nat} (hl : ∀ r ∈ l, r.length = n) (i j : Nat) (hi : i < l.length) (hj : j < n) : l.flatten.getD (i * n + j) undef = (l.getD i []).getD j undef := by
  induction l generalizing i with
  | nil => simp at hi
  | cons r l ih =>
    have hr := hl r (by simp)
    cases i with
    | zero => simp [List.getD, List.getElem?_append_left (show j < r.length by omega)]
    | succ i =>
      have := ih (fun r hr => hl r (by simp [hr])) i (by simpa using hi)
      simp only [List.getD, List.flatten_cons, List.getElem?_cons_succ] at this ⊢
      rw [List.getElem?_append_right (by rw [hr, Nat.add_mul]; omega), hr]
      rw [← this]
      congr 2
      rw [Nat.add_mul]; omega

theorem length_flat {l : List (List Value)} {n : Nat} (hl : ∀ r ∈ l, r.length = n) : l.flatten.length = l.length * n := by
  induction l with
  | nil => simp
  | cons r l ih => rw [List.flatten_cons, List.length_append, ih (fun r hr => hl r (by simp [hr])), hl r (by simp), List.length_cons, Nat.add_mul]; omega

theorem take_flat {l : List (List Value)} {n : Nat} (hl : ∀ r ∈ l, r.length = n) (k : Nat) : l.flatten.take (k * n) = (l.take k).flatten := by
  induction l generalizing k with
  | nil => simp
  | cons r l ih =>
    cases k with
    | zero => simp
    | succ k =>
      have hr := hl r (by simp)
      rw [List.flatten_cons, List.take_succ_cons, List.flatten_cons, ← ih (fun r hr => hl r (by simp [hr])) k, List.take_append, hr, List.take_of_length_le (by rw [hr, Nat.add_mul]; omega)]
      congr 2
      rw [Nat.add_mul]; omega

theorem drop_flat {l : List (List Value)} {n : Nat} (hl : ∀ r ∈ l, r.length = n) (k : Nat) : l.flatten.drop (k * n) = (l.drop k).flatten := by
  induction l generalizing k with
  | nil => simp
  | cons r l ih =>
    cases k with
    | zero => simp
    | succ k =>
      have hr := hl r (by simp)
      rw [List.flatten_cons, List.drop_succ_cons, ← ih (fun r hr => hl r (by simp [hr])) k, List.drop_append, hr, List.drop_of_length_le (by rw [hr, Nat.add_mul]; omega), List.nil_append]
      congr 1
      rw [Nat.add_mul]; omega

end Go.Proofs.YtjnplcajajdkiaaDoor.obj
