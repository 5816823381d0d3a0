/- Arrays of bytes by value: equal where their bytes are. No function of the program in sight. -/
import Derived.Test.YtjnplcajajdkiaaDoorEqKit
import Derived.Deep.MidRow
namespace Go.Proofs.YtjnplcajajdkiaaDoor.idkit
open Go.RowKit
open Go.Proofs.YtjnplcajajdkiaaDoor.eqkit

/-- The cells of an array of bytes. -/
def idc (id : List Int) : List Value := id.map (Value.int .u8)
def idv (id : List Int) : Value := .agg (idc id).toArray
theorem idc_len (id : List Int) : (idc id).length = id.length := by simp [idc]
theorem idc_one (id : List Int) : ∀ u ∈ idc id, u.oneCell' = true := by
  intro u hu
  obtain ⟨x, _, rfl⟩ := List.mem_map.1 hu
  rfl
theorem thirty_two {P : List Int → Prop} (h : ∀ b0 b1 b2 b3 b4 b5 b6 b7 b8 b9 b10 b11 b12 b13 b14 b15 b16 b17 b18 b19 b20 b21 b22 b23 b24 b25 b26 b27 b28 b29 b30 b31 : Int, P [b0, b1, b2, b3, b4, b5, b6, b7, b8, b9, b10, b11, b12, b13, b14, b15, b16, b17, b18, b19, b20, b21, b22, b23, b24, b25, b26, b27, b28, b29, b30, b31]) (id : List Int) (hl : id.length = 32) : P id := by
  iterate 32 (rcases id with _ | ⟨_, id⟩; · simp at hl)
  rcases id with _ | ⟨_, id⟩
  · exact h _ _ _ _ _ _ _ _ _ _ _ _ _ _ _ _ _ _ _ _ _ _ _ _ _ _ _ _ _ _ _ _
  · simp at hl
theorem idc_inj {a b : List Int} (h : idc a = idc b) : a = b := by
  unfold idc at h
  induction a generalizing b with
  | nil => cases b with
    | nil => rfl
    | cons y b => simp at h
  | cons x a ih => cases b with
    | nil => simp at h
    | cons y b =>
      simp only [List.map_cons, List.cons.injEq, Value.int.injEq, true_and] at h
      rw [h.1, ih h.2]

section
variable {P : Program}

theorem run_eqItems_bytes (d : Nat) {e : TypeId} (he : P.underlying e = some (.int .u8)) (hp : P.plainKey e = true) (w : World) (xs ys : List Int) : ∀ (is : List Nat), (∀ i ∈ is, i < xs.length ∧ i < ys.length) →
    (Op.eqItems (d + 1) e 1 (idc xs).toArray (idc ys).toArray is).run P w = .ok (is.all fun i => xs.getD i 0 == ys.getD i 0) w
  | [], _ => by simp [Op.eqItems]
  | i :: is, h => by
    obtain ⟨h1, h2⟩ := h i (by simp)
    have ex : (idc xs).toArray[i]? = some (.int .u8 (xs.getD i 0)) := by simp [idc, List.getD, h1]
    have ey : (idc ys).toArray[i]? = some (.int .u8 (ys.getD i 0)) := by simp [idc, List.getD, h2]
    rw [Op.eqItems]
    simp only [Nat.mul_one, Sem.run_bind, run_part_plain w hp ex, run_part_plain w hp ey, Result.andThen_ok, run_equalIn_int _ _ _ _ _ _ _ he]
    have ih := run_eqItems_bytes d he hp w xs ys is (fun j hj => h j (by simp [hj]))
    cases hb : (xs.getD i 0 == ys.getD i 0) with
    | true =>
      simp only [Bool.not_true, Bool.false_eq_true, if_false, List.all_cons, hb, Bool.true_and]
      exact ih
    | false =>
      simp only [Bool.not_false, if_true, List.all_cons, hb, Bool.false_and]
      rfl

theorem all_eq_iff (n : Nat) (xs ys : List Int) (hx : xs.length = n) (hy : ys.length = n) : ((List.range n).all fun i => xs.getD i 0 == ys.getD i 0) = decide (xs = ys) := by
  rw [Bool.eq_iff_iff]
  simp only [List.all_eq_true, List.mem_range, beq_iff_eq, decide_eq_true_eq]
  constructor
  · intro h
    refine List.ext_getElem (by omega) fun i h1 h2 => ?_
    have := h i (by omega)
    simpa [List.getD, h1, h2] using this
  · rintro rfl i _
    rfl

theorem op_eq_bytes {t e : TypeId} {n : Nat} {i : TypeInfo} (ht : P.underlying t = some (.array n e)) (he : P.underlying e = some (.int .u8)) (hp : P.plainKey e = true) (hi : P.info? e = some i) (hc : P.cellsOf e = 1) (w : World) (xs ys : List Int) (hx : xs.length = n) (hy : ys.length = n) :
    (Op.equalIn 10000 t (.agg (idc xs).toArray) (.agg (idc ys).toArray)).run P w = .ok (decide (xs = ys)) w := by
  rw [run_equalIn_array w 9999 _ _ ht hi, hc, run_eqItems_bytes 9998 he hp w xs ys _ (fun i hi => by rw [List.mem_range] at hi; omega), all_eq_iff n xs ys hx hy]

/-- Two arrays of bytes. -/
theorem eq_bytes {t e : TypeId} {n : Nat} {i : TypeInfo} (ht : P.underlying t = some (.array n e)) (he : P.underlying e = some (.int .u8)) (hp : P.plainKey e = true) (hi : P.info? e = some i) (hc : P.cellsOf e = 1) (w : World) (xs ys : List Int) (hx : xs.length = n) (hy : ys.length = n) :
    (binOp .neq t (idv xs) (idv ys)).run P w = .ok (.bool (!(decide (xs = ys)))) w ∧ (binOp .eql t (idv xs) (idv ys)).run P w = .ok (.bool (decide (xs = ys))) w := by
  unfold idv
  exact run_neq_of_eql (op_eq_bytes ht he hp hi hc w xs ys hx hy)

theorem exec_load_mid {op : Oper} {a : Act} {w : World} (ty : TypeId) (x : Operand) (ho : op.op = .load ty x) (b o : Nat) (hx : a.eval x = .pointer (some ⟨b, o, none⟩)) (cs : List Value) (d : TypeDesc) (hc : w.rangeAt b o cs)
    (hu : P.underlying ty = some d) (hd : d.isRow = true) (hi : (P.info? ty).map (·.size) = some cs.length) : (execOp a.eval op).run P w = .ok (.value (.agg cs.toArray)) w := by
  unfold execOp
  simp only [ho, hx, Instr.loadAt, Instr.sureAddr, Sem.run_bind, Sem.run_pure, Result.andThen_ok, run_loadVar_mid w b o ty cs d hc hu hd hi]

theorem wpList_exec {ops : Array Oper} {rest : List Oper} {o : Oper} {a : Act} {w w' : World} {Q : Exit → Act → World → Prop} {v : Value} (hr : (execOp a.eval o).run P w = .ok (.value v) w') (hg : Region.wanted o (yielded ops a.tmps) = true)
    (h : wpList P ops Q rest (a.put o.dst v) w') : wpList P ops Q (o :: rest) a w :=
  wpList_step fun K hK => by
    rw [if_pos hg]
    unfold Oper.wp
    rw [hr]
    exact hK _ _ h

theorem exec_build {op : Oper} {a : Act} {w : World} (t : TypeId) (parts : Array (Nat × Operand)) (ho : op.op = .build t parts) (vals : Array (Nat × Value)) (hv : (parts.map fun (i, x) => (i, a.eval x)) = vals) {v : Value}
    (hr : (Instr.build t vals).run P w = .ok v w) : (execOp a.eval op).run P w = .ok (.value v) w := by
  unfold execOp
  simp only [ho, hv, Sem.run_bind, Sem.run_pure, Result.andThen_ok, hr]

theorem wpList_build_run {ops : Array Oper} {rest : List Oper} {o : Oper} {a : Act} {w : World} {Q : Exit → Act → World → Prop} (hg : o.guard = none) (t : TypeId) (len : Nat) (parts : Array (Nat × Operand)) (ho : o.op = .buildSlice t len parts)
    (vals : Array (Nat × Value)) (hv : (parts.map fun (i, x) => (i, a.eval x)) = vals) {v : Value} {w' : World} (hr : (Instr.buildSlice t len vals).run P w = .ok v w')
    (h : wpList P ops Q rest (a.put o.dst v) w') : wpList P ops Q (o :: rest) a w :=
  wpList_plain hg fun K hK => by
    unfold Oper.wp execOp
    simp only [ho, hv, Sem.run_bind, Sem.run_pure, Result.andThen_ok, hr]
    exact hK _ _ h
end
end Go.Proofs.YtjnplcajajdkiaaDoor.idkit
