/- Slices of bytes, whole values in blocks. No function of the program in sight. -/
import Derived.Test.YtlhcmgjkhkcgcaaDoorCutKit
import Derived.Test.YtlhcmgjkhkcgcaaDoorMix
import Derived.Deep.Cut
import Derived.Conc.SmallLaws
namespace Go.Proofs.YtlhcmgjkhkcgcaaDoor.bytes
open Go.RowKit
open Go.Proofs.YtlhcmgjkhkcgcaaDoor.stepkit Go.Proofs.YtlhcmgjkhkcgcaaDoor.obj Go.Proofs.YtlhcmgjkhkcgcaaDoor.row Go.Proofs.YtlhcmgjkhkcgcaaDoor.idkit

/-- A byte's cell. -/
def bc (x : UInt8) : Value := .int .u8 (x.toNat : Int)
def bcs (l : List UInt8) : List Value := l.map bc
theorem bcs_len (l : List UInt8) : (bcs l).length = l.length := by simp [bcs]
theorem bcs_get (l : List UInt8) (i : Nat) (h : i < l.length) : (bcs l).getD i undef = .int .u8 ((l.getD i 0).toNat : Int) := by
  simp [bcs, bc, List.getD, h]
abbrev BSl (w : World) (v : Value) (l : List UInt8) : Prop := Sl w 5 1 v l.length (bcs l)
theorem BSl.cell {w : World} {g o cap n : Nat} {l : List UInt8} (h : BSl w (.slice (some ⟨g, o, none⟩) n cap) l) (i : Nat) (hi : i < l.length) : w.cell? ⟨g, o + i, none⟩ = some (.int .u8 ((l.getD i 0).toNat : Int)) := by
  obtain ⟨ao, c, hv, _⟩ := (show Sl _ _ _ _ _ _ from h).shape
  cases hv
  rw [← bcs_get l i hi]
  exact Sl.cell h i (by rw [bcs_len]; exact hi)
theorem infoU8 : (Tryd.prog.info? 5).map (fun i => (i.zero, i.size, i.bytes)) = some (some (.int .u8 0), 1, 1) := by kernel_rfl
theorem sizeU8 : (Tryd.prog.info? 5).map (·.size) = some 1 := by kernel_rfl
theorem byteCells_bcs (s : ByteArray) : byteCells s = bcs s.data.toList := rfl
theorem info_parts {t : TypeId} {z : Value} {s b : Nat} (h : (Tryd.prog.info? t).map (fun i => (i.zero, i.size, i.bytes)) = some (some z, s, b)) : ∃ i, Tryd.prog.info? t = some i ∧ i.zero = some z ∧ i.size = s ∧ i.bytes = b := by
  obtain ⟨i, hi, h⟩ := Option.map_eq_some_iff.1 h
  simp only [Prod.mk.injEq] at h
  exact ⟨i, hi, h.1, h.2.1, h.2.2⟩
theorem bcs_append (a b : List UInt8) : bcs (a ++ b) = bcs a ++ bcs b := by simp [bcs]
theorem bcs_one (l : List UInt8) : ∀ u ∈ bcs l, u.oneCell' = true := by
  intro u hu
  obtain ⟨x, _, rfl⟩ := List.mem_map.1 hu
  rfl
theorem bcs_drop (l : List UInt8) (k : Nat) : (bcs l).drop k = bcs (l.drop k) := by simp [bcs]
theorem bcs_take (l : List UInt8) (k : Nat) : (bcs l).take k = bcs (l.take k) := by simp [bcs]
theorem cells_of {w : World} {p : Nat} {cs : Array Value} {t : TypeId} (h : w.heap[p]? = some (.cells cs t (0, 0))) (i : Nat) (v : Value) (hv : cs[i]? = some v) : w.cell? ⟨p, i, none⟩ = some v := by simp [World.cell?, h, hv]
theorem free_of {w : World} {p : Nat} {cs : Array Value} {t : TypeId} (h : w.heap[p]? = some (.cells cs t (0, 0))) (i : Nat) : w.frozen? ⟨p, i, none⟩ = false := by simp [World.frozen?, h]
theorem block_setCells (b : Nat) : ∀ (vs : List Value) (o : Nat) (w : World) (cs : Array Value) (t : TypeId) (fr : Nat × Nat), w.heap[b]? = some (.cells cs t fr) → ∃ cs', (w.setCells b o vs).heap[b]? = some (.cells cs' t fr) ∧ cs'.size = cs.size
  | [], _, w, cs, t, fr, h => ⟨cs, h, rfl⟩
  | v :: vs, o, w, cs, t, fr, h => by
    obtain ⟨cs', h1, h2⟩ := block_setCells b vs (o + 1) _ _ t fr (heap_setCell_at h o v)
    exact ⟨cs', h1, by rw [h2]; simp⟩
theorem turns_cells (b : Nat) : ∀ (vs : List Value) (o : Nat) (w : World), Turns (fun i => i = b) w (w.setCells b o vs)
  | [], _, w => Turns.refl _ _
  | v :: vs, o, w => by
    show Turns _ w ((w.setCell ⟨b, o, none⟩ v).setCells b (o + 1) vs)
    exact (Turns.set w b o v).trans (turns_cells b vs (o + 1) _) (fun _ h => Or.inl h)
theorem size_setCells (b : Nat) : ∀ (vs : List Value) (o : Nat) (w : World), (w.setCells b o vs).heap.size = w.heap.size
  | [], _, w => rfl
  | v :: vs, o, w => by
    show ((w.setCell ⟨b, o, none⟩ v).setCells b (o + 1) vs).heap.size = _
    rw [size_setCells b vs (o + 1) _]; simp [World.setCell]
/-- A whole value as the one result. -/
theorem results_one {fn : Func} {s : Tmp} {t : TypeId} {d : TypeDesc} {cs : List Value} (h : fn.results = #[.cell s t]) (tmps : Array Value) (w : World) {b : Nat} (hs : tmps.getD s undef = .pointer (some ⟨b, 0, none⟩)) (hr : w.rangeAt b 0 cs)
    (hu : Tryd.prog.underlying t = some d) (hd : d.isRow = true) (hi : (Tryd.prog.info? t).map (·.size) = some cs.length) : (results fn tmps).run Tryd.prog w = .ok (.agg cs.toArray) w := by
  have hload := run_loadVar_mid (P := Tryd.prog) w b 0 t cs _ hr hu hd hi
  have hs' : tmps[s]?.getD undef = .pointer (some ⟨b, 0, none⟩) := by rw [← hs]; simp
  simp [results, h, hs', hload, asAddr]
theorem src_one (W : World) (x : Int) : obj.Src (W.alloc (.cells #[.int .u8 x] 5)) 1 (.slice (some ⟨W.heap.size, 0, none⟩) 1 1) 1 [.int .u8 x] := by
  refine obj.Src.of_row (by rfl) (fun u hu => by simp only [List.mem_singleton] at hu; subst hu; rfl) (fun j u hj => ?_)
  have hj0 : j = 0 := by have := (List.getElem?_eq_some_iff.1 hj).1; simp at this; omega
  subst hj0
  simp only [List.getElem?_cons_zero, Option.some.injEq] at hj
  rw [Addr.add_lit, ← hj]
  simp only [World.cell?, Nat.add_zero]
  rw [heap_alloc_new]
  rfl
theorem shift_byte (t k : Nat) : (t : Int) / 2 ^ k % 256 = ((UInt8.ofNat (t / 2 ^ k)).toNat : Int) := by
  rw [show ((t : Int) / 2 ^ k) = ((t / 2 ^ k : Nat) : Int) by simp]
  simp
/-- A slice of bytes that was made since. -/
structure GN (w W : World) (v : Value) (l : List UInt8) : Prop where
  s : BSl W v l
  t : Turns nobody w W
  n : ∀ j, blk v j → w.heap.size ≤ j
theorem GN.app {w W w2 : World} {v v2 : Value} {l r : List UInt8} {k : Nat} {xs : List Value} {o : Obj} (h : GN w W v l) (hs : Sl w2 5 1 v2 k xs) (hk : k = (l ++ r).length) (hx : xs = bcs (l ++ r)) (ht : Turns (blk v) (W.alloc o) w2) (hn : Newer v v2 (W.alloc o)) : GN w w2 v2 (l ++ r) := by
  subst hk hx
  refine ⟨hs, (h.t.alloc o).trans ht (fun i hi => Or.inr (h.n i hi)), fun j hj => ?_⟩
  rcases hn j hj with h1 | h1
  · exact h.n j h1
  · have := h.t.size; rw [World.size_alloc] at h1; omega
theorem GN.still {w W W' : World} {v : Value} {l : List UInt8} (h : GN w W v l) (ht : Turns nobody W W') : GN w W' v l := ⟨Sl.keep h.s ht (fun _ _ h => h), h.t.trans ht (fun _ h => h.elim), h.n⟩
theorem GN.first {w w1 : World} {v1 : Value} {l : List UInt8} {m : Nat} {o : Obj} {sp : Option Nat} (hm : l.length = m) (h1 : Sl w1 5 1 v1 (0 + m) ([] ++ bcs l)) (t1 : Turns nobody (w.alloc o) w1) (n1 : Newer (.slice (some ⟨w.heap.size, 0, sp⟩) 0 0) v1 (w.alloc o)) : GN w w1 v1 l := by
  subst hm
  refine ⟨by simpa using h1, ((Turns.refl nobody w).alloc o).trans t1 (fun _ h => h.elim), fun j hj => ?_⟩
  rcases n1 j hj with h | h
  · simp only [blk, Value.ownBlock, Option.some.injEq] at h; omega
  · rw [World.size_alloc] at h; omega
def lenOfV : Value → Nat
  | .slice _ n _ => n
  | _ => 0
theorem len_app1 (l : List UInt8) (x : UInt8) : l.length + 1 = (l ++ [x]).length := by simp
theorem bcs_app1 (l : List UInt8) (x : UInt8) : bcs l ++ [.int .u8 (x.toNat : Int)] = bcs (l ++ [x]) := by simp [bcs, bc]
theorem put_cells {w : World} {b : Nat} {old : Array Value} {t : TypeId} (h : w.heap[b]? = some (.cells old t (0, 0))) (cs : List Value) (hn : old.size = cs.length) : (w.setCells b 0 cs).heap[b]? = some (.cells cs.toArray t (0, 0)) := by
  obtain ⟨cs', h1, h2⟩ := block_setCells b cs 0 w _ t (0, 0) h
  have hth : w.there b 0 cs.length := fun j hj => ⟨by
    have hj' : j < old.size := by omega
    rw [Nat.zero_add]; simp only [World.cell?, h]; simp [hj'], by simp [World.frozen?, h]⟩
  have hr := World.rangeAt_setCells_same w b 0 cs hth
  rw [h1]
  have hs : cs'.size = cs.length := by rw [h2, hn]
  have : cs' = cs.toArray := by
    refine Array.ext (by rw [hs, List.size_toArray]) fun i hi hi' => ?_
    have hi2 : i < cs.length := by omega
    have := hr i _ (List.getElem?_eq_getElem hi2)
    rw [Nat.zero_add] at this
    simp only [World.cell?, h1] at this
    have e : cs'[i]? = some cs[i] := by simpa using this
    rw [Array.getElem?_eq_getElem hi] at e
    simpa using Option.some.inj e
  rw [this]
/-- A whole value goes into a block of its size. -/
theorem wpList_putc {ops : Array Oper} {rest : List Oper} {op : Oper} {a : Act} {w : World} {Q : Exit → Act → World → Prop} (hgd : op.guard = none) (ty : TypeId) (x y : Operand) (ho : op.op = .store ty x y)
    {b : Nat} {t : TypeId} {old : Array Value} (cs : List Value) (ha : w.heap[b]? = some (.cells old t (0, 0))) (hn : old.size = cs.length) (h1 : ∀ v ∈ cs, v.oneCell' = true) (hx : a.eval x = .pointer (some ⟨b, 0, none⟩)) (hy : a.eval y = .agg cs.toArray)
    (hi : (Tryd.prog.info? ty).map (·.size) = some cs.length)
    (h : ∀ w', Turns (fun i => i = b) w w' → w'.heap[b]? = some (.cells cs.toArray t (0, 0)) → w'.heap.size = w.heap.size → wpList Tryd.prog ops Q rest (a.put op.dst undef) w') : wpList Tryd.prog ops Q (op :: rest) a w := by
  refine wpList_store_mid hgd ty x y ho _ _ _ hx hy ?_ (by rw [List.size_toArray]; exact hi) (all_oneCell_toArray h1) ?_
  · rw [List.size_toArray]
    exact fun j hj => ⟨by
      have hj' : j < old.size := by omega
      rw [Nat.zero_add]; simp only [World.cell?, ha]; simp [hj'], by simp [World.frozen?, ha]⟩
  · rw [List.toList_toArray]
    exact h _ (turns_cells b _ 0 w) (put_cells ha cs hn) (size_setCells b _ 0 w)
theorem range_of {w : World} {b : Nat} {cs : List Value} {t : TypeId} (h : w.heap[b]? = some (.cells cs.toArray t (0, 0))) : w.rangeAt b 0 cs := fun j v hj => by
  rw [Nat.zero_add]; simp only [World.cell?, h]; simpa using hj
theorem exec_conv {P : Program} {op : Oper} {a : Act} {w w' : World} (src dst : TypeId) (x : Operand) (ho : op.op = .convert src dst x) {u v : Value} (hx : a.eval x = u) (hr : (convert src dst u).run P w = .ok v w') : (execOp a.eval op).run P w = .ok (.value v) w' := by
  unfold execOp
  simp only [ho, hx, Sem.run_bind, hr, Sem.run_pure, Result.andThen_ok]
theorem nums_bytes (l : List UInt8) : strOfNums (l.map fun x : UInt8 => (x.toNat : Int)) = ⟨l.toArray⟩ := by
  unfold strOfNums
  congr 1
  simp only [List.map_map]
  congr 1
  rw [show ((fun n : Int => UInt8.ofNat n.toNat) ∘ fun x : UInt8 => (x.toNat : Int)) = id from funext fun x => by simp, List.map_id]
theorem BSl.conv {w : World} {v : Value} {l : List UInt8} (h : BSl w v l) : (convert 38 9 v).run Tryd.prog w = .ok (.string ⟨l.toArray⟩) w := by
  have h' := h
  obtain ⟨h1, ⟨rfl, h0⟩ | ⟨g, o, cap, cur, rfl, hg, hn, hc, hcs, ht⟩⟩ := (show Sl _ _ _ _ _ _ from h)
  · have : l = [] := List.eq_nil_of_length_eq_zero h0
    subst this
    rw [run_convert_bytes_nil w _ _ Tryd.underlying38 Tryd.underlying5 0 0 _ Tryd.underlying9]
    rfl
  · have hcell : ∀ i, i < l.length → w.cell? ⟨g, o + i, none⟩ = some (.int .u8 ((l.map fun x : UInt8 => (x.toNat : Int)).getD i 0)) := fun i hi => by
      rw [BSl.cell h' i hi]
      simp [List.getD, hi]
    rw [run_convert_bytes_arg w _ _ Tryd.underlying38 Tryd.underlying5 g o _ cap (l.map fun x : UInt8 => (x.toNat : Int)) (by simp) hcell _ Tryd.underlying9, nums_bytes]
theorem made_u8 (n : Nat) : madeCells #[Value.int .u8 0] n = (bcs (List.replicate n 0)).toArray := by
  apply Array.ext'
  refine List.ext_getElem (by simp [bcs, size_madeCells]) fun i h1 h2 => ?_
  simp [madeCells, bcs, bc, Nat.mod_one]
theorem make_u8 (k : Nat) (hk : k ≤ 1000) (w : World) : (Instr.makeSlice 38 (.int .i64 k) (.int .i64 k)).run Tryd.prog w = .ok (.slice (some ⟨w.heap.size, 0, none⟩) k k) (w.alloc (.cells (bcs (List.replicate k 0)).toArray 5)) := by
  obtain ⟨i, hi, h0, h1, h2⟩ := info_parts infoU8
  have := run_makeSlice (P := Tryd.prog) w 38 5 i _ Tryd.underlying38 hi h0 .i64 .i64 k k (by omega) (by omega) (by rw [h1]; simp; omega) (by rw [h2]; omega) (by omega)
  rw [this, h1]
  simp only [Int.toNat_natCast, Nat.mul_one]
  rw [← made_u8]
  rfl
theorem str_len (s : ByteArray) : s.data.toList.length = s.size := Array.length_toList
theorem cat_list (b s : ByteArray) : (b ++ s).data.toList = b.data.toList ++ s.data.toList := by simp
end Go.Proofs.YtlhcmgjkhkcgcaaDoor.bytes
