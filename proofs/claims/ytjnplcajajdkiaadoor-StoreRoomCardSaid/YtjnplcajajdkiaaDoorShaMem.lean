/- Rows of words in a block of their own. -/
import Derived.Test.YtjnplcajajdkiaaDoorShaWalks
import Derived.Test.YtjnplcajajdkiaaDoorMix
namespace Go.Proofs.YtjnplcajajdkiaaDoor.sha
open Go.RowKit
open Go.Proofs.YtjnplcajajdkiaaDoor.stepkit Go.Proofs.YtjnplcajajdkiaaDoor.obj Go.Proofs.YtjnplcajajdkiaaDoor.row

theorem lt_of_cell' {w : World} {p : Addr} {v : Value} (h : w.cell? p = some v) : p.block < w.heap.size := by
  rcases Nat.lt_or_ge p.block w.heap.size with h1 | h1
  · exact h1
  · simp [World.cell?, Array.getElem?_eq_none h1] at h
theorem range_keep {w w' : World} {p o : Nat} {cs : List Value} (h : w.rangeAt p o cs) (ht : Turns nobody w w') : w'.rangeAt p o cs := fun j v hj => (ht.cell (lt_of_cell' (h j v hj)) (fun h => h)).trans (h j v hj)

/-- A word as a number, and the operations, in names that no simplification opens. -/
def wi (x : W32) : Int := (x.toNat : Int)
def wx (a b : W32) : W32 := a ^^^ b
def wa (a b : W32) : W32 := a &&& b
def wp (a b : W32) : W32 := a + b
def wn (a : W32) : W32 := ~~~ a
def ws (n : Nat) (a : W32) : W32 := a >>> n
theorem add_bv (a b : BitVec 32) : ((a.toNat : Int) + (b.toNat : Int)) % 4294967296 = ((a + b).toNat : Int) := by
  rw [BitVec.toNat_add]; simp
theorem wi_xor (a b : W32) : bits .xor .u32 (wi a) (wi b) = wi (wx a b) := bits_xor_bv a b
theorem wi_and (a b : W32) : bits .and .u32 (wi a) (wi b) = wi (wa a b) := bits_and_bv a b
theorem wi_add (a b : W32) : (wi a + wi b) % 4294967296 = wi (wp a b) := add_bv a b
theorem wi_addw (a b : W32) : IntKind.u32.wrap (wi a + wi b) = wi (wp a b) := by
  rw [← wi_add]
  simp only [IntKind.wrap, IntKind.bits, IntKind.signed]
  simp
theorem wi_not (a : W32) : bits .xor .u32 4294967295 (wi a) = wi (wn a) := by
  have h : (4294967295 : Int) = ((BitVec.allOnes 32).toNat : Int) := by decide
  unfold wi
  rw [h, bits_xor_bv, BitVec.allOnes_xor]; rfl
theorem wi_shr3 (a : W32) : wi a / 8 = wi (ws 3 a) := div_bv a 3
theorem wi_shr10 (a : W32) : wi a / 1024 = wi (ws 10 a) := div_bv a 10
theorem wi_lo (a : W32) : 0 ≤ wi a := Int.natCast_nonneg _
theorem wi_hi (a : W32) : wi a < 4294967296 := by have := a.isLt; unfold wi; omega
def wc (x : W32) : Value := .int .u32 (wi x)
def arr (n : Nat) (f : Nat → W32) : List Value := (List.range n).map fun i => wc (f i)
theorem arr_len (n : Nat) (f : Nat → W32) : (arr n f).length = n := by simp [arr]
theorem arr_get (n : Nat) (f : Nat → W32) (i : Nat) (h : i < n) : (arr n f)[i]? = some (wc (f i)) := by simp [arr, h]
theorem arr_one (n : Nat) (f : Nat → W32) : ∀ v ∈ arr n f, v.oneCell' = true := by
  intro v hv
  obtain ⟨i, _, rfl⟩ := List.mem_map.1 hv
  rfl
def upd (f : Nat → W32) (i : Nat) (x : W32) : Nat → W32 := fun j => if j = i then x else f j
theorem arr_set (n : Nat) (f : Nat → W32) (i : Nat) (x : W32) : (arr n f).set i (wc x) = arr n (upd f i x) := by
  refine List.ext_getElem? fun j => ?_
  rw [List.getElem?_set, arr_len]
  by_cases hj : j < n
  · rw [arr_get n (upd f i x) j hj]
    by_cases hi : i = j
    · subst hi; simp [hj, upd]
    · rw [if_neg hi, arr_get n f j hj]; unfold upd; rw [if_neg (fun e => hi e.symm)]
  · rw [List.getElem?_eq_none (l := arr n f) (by rw [arr_len]; omega), List.getElem?_eq_none (l := arr n (upd f i x)) (by rw [arr_len]; omega)]
    by_cases hi : i = j
    · rw [if_pos hi, if_neg (by omega)]
    · rw [if_neg hi]
theorem arr_congr {n : Nat} {f g : Nat → W32} (h : ∀ i, i < n → f i = g i) : arr n f = arr n g := by
  refine List.map_congr_left fun i hi => ?_
  rw [h i (by simpa using hi)]

def Arr (w : World) (b n : Nat) (t : TypeId) (f : Nat → W32) : Prop := w.heap[b]? = some (.cells (arr n f).toArray t (0, 0))
section
variable {w w' : World} {b n : Nat} {t : TypeId} {f g : Nat → W32}
theorem Arr.lt (h : Arr w b n t f) : b < w.heap.size := by
  rcases Nat.lt_or_ge b w.heap.size with h1 | h1
  · exact h1
  · unfold Arr at h; rw [Array.getElem?_eq_none h1] at h; cases h
theorem Arr.cell (h : Arr w b n t f) (i : Nat) (hi : i < n) : w.cell? ⟨b, i, none⟩ = some (.int .u32 (wi (f i))) := by
  have := arr_get n f i hi
  unfold Arr at h
  simp [World.cell?, h, this, wc]
theorem Arr.free (h : Arr w b n t f) (i : Nat) : w.frozen? ⟨b, i, none⟩ = false := by
  unfold Arr at h
  simp [World.frozen?, h]
theorem Arr.range (h : Arr w b n t f) : w.rangeAt b 0 (arr n f) := fun j v hj => by
  unfold Arr at h
  simp only [Nat.zero_add, World.cell?, h]
  simpa using hj
theorem Arr.there (h : Arr w b n t f) : w.there b 0 n := fun j hj => ⟨by rw [Nat.zero_add, h.cell j hj]; rfl, by rw [Nat.zero_add]; exact h.free j⟩
theorem Arr.keep (h : Arr w b n t f) (hb : w'.heap[b]? = w.heap[b]?) : Arr w' b n t f := by unfold Arr; rw [hb]; exact h
theorem Arr.turns {F : Nat → Prop} (h : Arr w b n t f) (ht : Turns F w w') (hn : ¬ F b) : Arr w' b n t f := h.keep (ht.block b h.lt hn)
theorem Arr.congr (h : Arr w b n t f) (hf : ∀ i, i < n → f i = g i) : Arr w b n t g := by unfold Arr at *; rw [← arr_congr hf]; exact h
theorem Arr.set (h : Arr w b n t f) (i : Nat) (x : W32) : Arr (w.setCell ⟨b, i, none⟩ (.int .u32 (wi x))) b n t (upd f i x) := by
  have := heap_setCell_at h i (wc x)
  rw [List.setIfInBounds_toArray] at this
  unfold Arr
  rw [← arr_set]
  exact this
theorem Arr.other (h : Arr w b n t f) (b' i : Nat) (v : Value) (hb : b' ≠ b) : Arr (w.setCell ⟨b', i, none⟩ v) b n t f :=
  h.keep (Below.heap_setCell _ _ _ _ (by simpa using Ne.symm hb))
theorem block_setCells (b : Nat) : ∀ (vs : List Value) (o : Nat) (w : World) (cs : Array Value) (t : TypeId) (fr : Nat × Nat), w.heap[b]? = some (.cells cs t fr) → ∃ cs', (w.setCells b o vs).heap[b]? = some (.cells cs' t fr) ∧ cs'.size = cs.size
  | [], _, w, cs, t, fr, h => ⟨cs, h, rfl⟩
  | v :: vs, o, w, cs, t, fr, h => by
    obtain ⟨cs', h1, h2⟩ := block_setCells b vs (o + 1) _ _ t fr (heap_setCell_at h o v)
    exact ⟨cs', h1, by rw [h2]; simp⟩
theorem turns_cells (b : Nat) : ∀ (vs : List Value) (o : Nat) (w : World), Turns (fun i => i = b) w (w.setCells b o vs)
  | [], _, w => Turns.refl _ _
  | v :: vs, o, w => by
    show Turns _ w ((w.setCell ⟨b, o, none⟩ v).setCells b (o + 1) vs)
    exact (Turns.set w b o v).trans (turns_cells b vs (o + 1) _) (fun _ h => Or.inl h)
theorem Arr.put (h : Arr w b n t f) (g : Nat → W32) : Arr (w.setCells b 0 (arr n g)) b n t g := by
  obtain ⟨cs', h1, h2⟩ := block_setCells b (arr n g) 0 w _ t (0, 0) h
  have hr := World.rangeAt_setCells_same w b 0 (arr n g) (by rw [arr_len]; exact h.there)
  unfold Arr
  rw [h1]
  have hs : cs'.size = n := by rw [h2, List.size_toArray, arr_len]
  have : cs' = (arr n g).toArray := by
    refine Array.ext (by rw [hs, List.size_toArray, arr_len]) fun i hi hi' => ?_
    have hi2 : i < n := by omega
    have := hr i _ (arr_get n g i hi2)
    rw [Nat.zero_add] at this
    simp only [World.cell?, h1] at this
    have e : cs'[i]? = some (wc (g i)) := by simpa using this
    have e2 := arr_get n g i hi2
    rw [Array.getElem?_eq_getElem hi] at e
    rw [List.getElem?_eq_getElem (by rw [arr_len]; exact hi2)] at e2
    rw [Option.some.inj e]
    exact (Option.some.inj e2).symm
  rw [this]
end

theorem info8 : (Tryd.prog.info? 68).map (·.size) = some 8 := by kernel_rfl
theorem info64 : (Tryd.prog.info? 98).map (·.size) = some 64 := by kernel_rfl
theorem infoS : (Tryd.prog.info? 108).map (·.size) = some 8 := by kernel_rfl
theorem size8 (f : Nat → W32) : (Tryd.prog.info? 68).map (·.size) = some (arr 8 f).length := by rw [info8, arr_len]
theorem size64 (f : Nat → W32) : (Tryd.prog.info? 98).map (·.size) = some (arr 64 f).length := by rw [info64, arr_len]
theorem sizeS (f : Nat → W32) : (Tryd.prog.info? 108).map (·.size) = some (arr 8 f).length := by rw [infoS, arr_len]

/-- A whole value as the one result. -/
theorem results_one {fn : Func} {s : Tmp} {t : TypeId} {d : TypeDesc} {cs : List Value} (h : fn.results = #[.cell s t]) (tmps : Array Value) (w : World) {b : Nat} (hs : tmps.getD s undef = .pointer (some ⟨b, 0, none⟩)) (hr : w.rangeAt b 0 cs)
    (hu : Tryd.prog.underlying t = some d) (hd : d.isRow = true) (hi : (Tryd.prog.info? t).map (·.size) = some cs.length) : (results fn tmps).run Tryd.prog w = .ok (.agg cs.toArray) w := by
  have hload := run_loadVar_mid (P := Tryd.prog) w b 0 t cs _ hr hu hd hi
  have hs' : tmps[s]?.getD undef = .pointer (some ⟨b, 0, none⟩) := by rw [← hs]; simp
  simp [results, h, hs', hload, asAddr]

theorem rotr_w (x : W32) (n : Nat) (h1 : 1 ≤ n) (h2 : n ≤ 31) (w : World) :
    Calls Tryd.prog 51 #[.int .u32 (wi x), .int .i64 n] w fun e w' => e = .returned (.int .u32 (wi (rotr x n))) ∧ w = w' := rotr_ref x n h1 h2 w
theorem down_w (x : W32) (n : Nat) (h1 : 1 ≤ n) (h2 : n ≤ 31) (w : World) :
    Calls Tryd.prog 64 #[.int .u32 (wi x), .int .i64 n] w fun e w' => e = .returned (.int .u32 (wi (rotr x n))) ∧ w = w' := down_any x n h1 h2 w
theorem word_w (g o n cap : Nat) (l : List UInt8) (w : World) (h : RB w g o l) (k : Nat) (hn : n = l.length) (hm : n ≤ maxLen) (hk : k + 3 < l.length) :
    Calls Tryd.prog 50 #[.slice (some ⟨g, o, none⟩) n cap, .int .i64 k] w fun e w' => e = .returned (.int .u32 (wi (wd4 l k))) ∧ ∃ m, w' = w.drewN m := word_any g o n cap l w h k hn hm hk

theorem new8 (w : World) (t : TypeId) : Arr (w.alloc (.cells #[.int .u32 0, .int .u32 0, .int .u32 0, .int .u32 0, .int .u32 0, .int .u32 0, .int .u32 0, .int .u32 0] t)) w.heap.size 8 t (fun _ => 0) := heap_alloc_new w _
theorem at_alloc {ops : Array Oper} {l : List Oper} {a : Act} {w : World} {o : Obj} {Q : Exit → Act → World → Prop} (h : wpList Tryd.prog ops Q l a (w.alloc o)) : wpList Tryd.prog ops Q l a (w.alloc o) := h
theorem size_setCells (b : Nat) : ∀ (vs : List Value) (o : Nat) (w : World), (w.setCells b o vs).heap.size = w.heap.size
  | [], _, w => rfl
  | v :: vs, o, w => by
    show ((w.setCell ⟨b, o, none⟩ v).setCells b (o + 1) vs).heap.size = _
    rw [size_setCells b vs (o + 1) _]; simp [World.setCell]
/-- A whole value goes into a block that is there. -/
theorem wpList_put {ops : Array Oper} {rest : List Oper} {op : Oper} {a : Act} {w : World} {Q : Exit → Act → World → Prop} (hgd : op.guard = none) (ty : TypeId) (x y : Operand) (ho : op.op = .store ty x y)
    {b n : Nat} {t : TypeId} {f : Nat → W32} (g : Nat → W32) (ha : Arr w b n t f) (hx : a.eval x = .pointer (some ⟨b, 0, none⟩)) (hy : a.eval y = .agg (arr n g).toArray)
    (hi : (Tryd.prog.info? ty).map (·.size) = some n)
    (h : ∀ w', Turns (fun i => i = b) w w' → Arr w' b n t g → w'.heap.size = w.heap.size → wpList Tryd.prog ops Q rest (a.put op.dst undef) w') : wpList Tryd.prog ops Q (op :: rest) a w := by
  refine wpList_store_mid hgd ty x y ho _ _ _ hx hy (by rw [List.size_toArray, arr_len]; exact ha.there) (by rw [List.size_toArray, arr_len]; exact hi) (all_oneCell_toArray (arr_one n g)) ?_
  rw [List.toList_toArray]
  exact h _ (turns_cells b _ 0 w) (ha.put g) (size_setCells b _ 0 w)
/-- A whole value goes into a block that was just made. -/
theorem wpList_new8 {ops : Array Oper} {rest : List Oper} {op : Oper} {a : Act} {w : World} {Q : Exit → Act → World → Prop} {t : TypeId} (hgd : op.guard = none) (ty : TypeId) (x y : Operand) (ho : op.op = .store ty x y)
    {V : Nat} (g : Nat → W32) (hV : w.heap.size = V) (hx : a.eval x = .pointer (some ⟨V, 0, none⟩)) (hy : a.eval y = .agg (arr 8 g).toArray)
    (hi : (Tryd.prog.info? ty).map (·.size) = some 8)
    (h : ∀ w', Turns nobody w w' → Arr w' V 8 t g → w'.heap.size = V + 1 → wpList Tryd.prog ops Q rest (a.put op.dst undef) w') : wpList Tryd.prog ops Q (op :: rest) a (w.alloc (.cells #[.int .u32 0, .int .u32 0, .int .u32 0, .int .u32 0, .int .u32 0, .int .u32 0, .int .u32 0, .int .u32 0] t)) := by
  subst hV
  refine wpList_put hgd ty x y ho g (new8 w t) hx hy hi fun w' h1 h2 h3 => h w' ?_ h2 (by rw [h3]; simp)
  exact ((Turns.refl nobody w).alloc _).trans h1 (fun i hi => Or.inr (by rw [hi]; exact Nat.le_refl _))
theorem wpList_new64 {ops : Array Oper} {rest : List Oper} {op : Oper} {a : Act} {w : World} {Q : Exit → Act → World → Prop} {t : TypeId} (hgd : op.guard = none) (ty : TypeId) (x y : Operand) (ho : op.op = .store ty x y)
    {V : Nat} (g : Nat → W32) (hV : w.heap.size = V) (hx : a.eval x = .pointer (some ⟨V, 0, none⟩)) (hy : a.eval y = .agg (arr 64 g).toArray)
    (hi : (Tryd.prog.info? ty).map (·.size) = some 64)
    (h : ∀ w', Turns nobody w w' → Arr w' V 64 t g → w'.heap.size = V + 1 → wpList Tryd.prog ops Q rest (a.put op.dst undef) w') : wpList Tryd.prog ops Q (op :: rest) a (w.alloc (.cells #[.int .u32 0, .int .u32 0, .int .u32 0, .int .u32 0, .int .u32 0, .int .u32 0, .int .u32 0, .int .u32 0, .int .u32 0, .int .u32 0, .int .u32 0, .int .u32 0, .int .u32 0, .int .u32 0, .int .u32 0, .int .u32 0, .int .u32 0, .int .u32 0, .int .u32 0, .int .u32 0, .int .u32 0, .int .u32 0, .int .u32 0, .int .u32 0, .int .u32 0, .int .u32 0, .int .u32 0, .int .u32 0, .int .u32 0, .int .u32 0, .int .u32 0, .int .u32 0, .int .u32 0, .int .u32 0, .int .u32 0, .int .u32 0, .int .u32 0, .int .u32 0, .int .u32 0, .int .u32 0, .int .u32 0, .int .u32 0, .int .u32 0, .int .u32 0, .int .u32 0, .int .u32 0, .int .u32 0, .int .u32 0, .int .u32 0, .int .u32 0, .int .u32 0, .int .u32 0, .int .u32 0, .int .u32 0, .int .u32 0, .int .u32 0, .int .u32 0, .int .u32 0, .int .u32 0, .int .u32 0, .int .u32 0, .int .u32 0, .int .u32 0, .int .u32 0] t)) := by
  subst hV
  have h0 : Arr (w.alloc (.cells #[.int .u32 0, .int .u32 0, .int .u32 0, .int .u32 0, .int .u32 0, .int .u32 0, .int .u32 0, .int .u32 0, .int .u32 0, .int .u32 0, .int .u32 0, .int .u32 0, .int .u32 0, .int .u32 0, .int .u32 0, .int .u32 0, .int .u32 0, .int .u32 0, .int .u32 0, .int .u32 0, .int .u32 0, .int .u32 0, .int .u32 0, .int .u32 0, .int .u32 0, .int .u32 0, .int .u32 0, .int .u32 0, .int .u32 0, .int .u32 0, .int .u32 0, .int .u32 0, .int .u32 0, .int .u32 0, .int .u32 0, .int .u32 0, .int .u32 0, .int .u32 0, .int .u32 0, .int .u32 0, .int .u32 0, .int .u32 0, .int .u32 0, .int .u32 0, .int .u32 0, .int .u32 0, .int .u32 0, .int .u32 0, .int .u32 0, .int .u32 0, .int .u32 0, .int .u32 0, .int .u32 0, .int .u32 0, .int .u32 0, .int .u32 0, .int .u32 0, .int .u32 0, .int .u32 0, .int .u32 0, .int .u32 0, .int .u32 0, .int .u32 0, .int .u32 0] t)) w.heap.size 64 t (fun _ => 0) := heap_alloc_new w _
  refine wpList_put hgd ty x y ho g h0 hx hy hi fun w' h1 h2 h3 => h w' ?_ h2 (by rw [h3]; simp)
  exact ((Turns.refl nobody w).alloc _).trans h1 (fun i hi => Or.inr (by rw [hi]; exact Nat.le_refl _))
end Go.Proofs.YtjnplcajajdkiaaDoor.sha
