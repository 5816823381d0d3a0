/- Maps keyed by arrays of 32 bytes: what a lookup, a store, a delete does. No function of the program in sight. -/
import Derived.Test.YtjnplcajajdkiaaDoorIdKit
import Derived.Test.YtjnplcajajdkiaaDoorStepKit
import Derived.Test.YtjnplcajajdkiaaDoorObj
namespace Go.Proofs.YtjnplcajajdkiaaDoor.mapkit
open Go.RowKit
open Go.Proofs.YtjnplcajajdkiaaDoor.eqkit Go.Proofs.YtjnplcajajdkiaaDoor.idkit Go.Proofs.YtjnplcajajdkiaaDoor.obj

/-- The map's entries, in whatever order. -/
def MapIs (w : World) (b : Nat) (M : List (List Int × Value)) : Prop :=
  ∃ (es : Array MapEntry) (clock : Nat) (N : List (List Int × Value)), w.heap[b]? = some (.map es clock) ∧ es.toList.map (fun e => (e.key, e.val)) = N.map (fun x => (idv x.1, x.2)) ∧ N.Perm M

/-- Keys of 32 bytes, each once. -/
def Keys (M : List (List Int × Value)) : Prop := (∀ x ∈ M, x.1.length = 32) ∧ (M.map (·.1)).Nodup

theorem Keys.perm {M N : List (List Int × Value)} (h : Keys M) (p : N.Perm M) : Keys N := ⟨fun x hx => h.1 x (p.mem_iff.1 hx), (p.map (·.1)).nodup_iff.2 h.2⟩

theorem MapIs.keep {w w' : World} {b : Nat} {M : List (List Int × Value)} {F : Nat → Prop} (h : MapIs w b M) (ht : Turns F w w') (hn : ¬ F b) : MapIs w' b M := by
  obtain ⟨es, c, N, h1, h2, h3⟩ := h
  exact ⟨es, c, N, heap_newer h1 ht hn, h2, h3⟩
theorem MapIs.lt {w : World} {b : Nat} {M : List (List Int × Value)} (h : MapIs w b M) : b < w.heap.size := by
  obtain ⟨es, c, N, h1, h2, h3⟩ := h
  exact lt_of_block h1
theorem MapIs.len {w : World} {b : Nat} {M : List (List Int × Value)} (h : MapIs w b M) : ∃ es c, w.heap[b]? = some (.map es c) ∧ es.size = M.length := by
  obtain ⟨es, c, N, h1, h2, h3⟩ := h
  have := congrArg List.length h2
  simp only [List.length_map, Array.length_toList] at this
  exact ⟨es, c, h1, by rw [this]; exact h3.length_eq⟩

/-- What lies at a key. -/
def lookM (M : List (List Int × Value)) (id : List Int) : Option Value := (M.find? fun x => decide (x.1 = id)).map (·.2)

theorem look_perm {M N : List (List Int × Value)} (h : Keys M) (p : N.Perm M) (id : List Int) : lookM N id = lookM M id := by
  have hN := h.perm p
  unfold lookM
  cases hn : N.find? fun x => decide (x.1 = id) with
  | none =>
    rw [List.find?_eq_none] at hn
    have : M.find? (fun x => decide (x.1 = id)) = none := by rw [List.find?_eq_none]; exact fun x hx => hn x (p.mem_iff.2 hx)
    rw [this]
  | some y =>
    have hy := List.find?_some hn
    have hyM := p.mem_iff.1 (List.mem_of_find?_eq_some hn)
    cases hm : M.find? fun x => decide (x.1 = id) with
    | none => rw [List.find?_eq_none] at hm; exact absurd hy (hm y hyM)
    | some z =>
      have hz := List.find?_some hm
      have hzM := List.mem_of_find?_eq_some hm
      have e : y.1 = z.1 := by simp at hy hz; rw [hy, hz]
      obtain ⟨i, hi, rfl⟩ := List.mem_iff_getElem.1 hyM
      obtain ⟨j, hj, rfl⟩ := List.mem_iff_getElem.1 hzM
      have hnd := h.2
      have := (List.getElem_inj (xs := M.map (·.1)) (h₀ := by simpa using hi) (h₁ := by simpa using hj) hnd).1 (by simpa using e)
      subst this
      rfl

theorem check_id (em : Bool) (w : World) (id : List Int) (hl : id.length = 32) : (Instr.checkKey em 10000 31 (idv id)).run Tryd.prog w = .ok () w := by
  unfold idv
  refine thirty_two (P := fun id => (Instr.checkKey em 10000 31 (.agg (idc id).toArray)).run Tryd.prog w = .ok () w) ?_ id hl
  intro b0 b1 b2 b3 b4 b5 b6 b7 b8 b9 b10 b11 b12 b13 b14 b15 b16 b17 b18 b19 b20 b21 b22 b23 b24 b25 b26 b27 b28 b29 b30 b31
  kernel_rfl

theorem infoU8 : ∃ i, Tryd.prog.info? 5 = some i := info_of_underlying Tryd.underlying5
theorem eq_key (w : World) (xs ys : List Int) (hx : xs.length = 32) (hy : ys.length = 32) : (Op.equal 31 (idv xs) (idv ys)).run Tryd.prog w = .ok (decide (xs = ys)) w := by
  obtain ⟨i, hi⟩ := infoU8
  exact op_eq_bytes Tryd.underlying31 Tryd.underlying5 (by kernel_rfl) hi (by kernel_rfl) w xs ys hx hy

/-- The place of a key among entries. -/
def seek (id : List Int) : List (List Int × Value) → Nat → Option (Nat × Value)
  | [], _ => none
  | x :: N, i => if id = x.1 then some (i, x.2) else seek id N (i + 1)

theorem seek_look (id : List Int) : ∀ (N : List (List Int × Value)) (i : Nat), (seek id N i).map (·.2) = lookM N id
  | [], _ => rfl
  | x :: N, i => by
    unfold seek lookM
    by_cases h : x.1 = id
    · rw [if_pos h.symm]; simp [h]
    · rw [if_neg (fun e => h e.symm), seek_look id N (i + 1)]
      simp [lookM, h]
theorem seek_some {id : List Int} : ∀ {N : List (List Int × Value)} {i j : Nat} {v : Value}, seek id N i = some (j, v) → i ≤ j ∧ N[j - i]? = some (id, v)
  | [], _, _, _, h => by cases h
  | x :: N, i, j, v, h => by
    unfold seek at h
    by_cases hx : id = x.1
    · rw [if_pos hx] at h
      cases h
      exact ⟨Nat.le_refl _, by rw [hx]; simp⟩
    · rw [if_neg hx] at h
      obtain ⟨h1, h2⟩ := seek_some h
      refine ⟨by omega, ?_⟩
      rw [show j - i = (j - (i + 1)) + 1 by omega, List.getElem?_cons_succ]
      exact h2

theorem run_asking (id : List Int) (hid : id.length = 32) (w : World) : ∀ (es : List MapEntry) (N : List (List Int × Value)) (i : Nat), es.map (fun e => (e.key, e.val)) = N.map (fun x => (idv x.1, x.2)) → (∀ x ∈ N, x.1.length = 32) →
    (Instr.findAsking 31 (idv id) es i).run Tryd.prog w = .ok (seek id N i) w
  | [], [], _, _, _ => rfl
  | [], _ :: _, _, h, _ => by simp at h
  | _ :: _, [], _, h, _ => by simp at h
  | e :: es, x :: N, i, h, hl => by
    simp only [List.map_cons, List.cons.injEq, Prod.mk.injEq] at h
    obtain ⟨⟨h1, h2⟩, h3⟩ := h
    have hq := eq_key w id x.1 hid (hl x (by simp))
    rw [Instr.findAsking]
    simp only [Sem.run_bind, h1, hq, Result.andThen_ok, seek]
    by_cases hx : id = x.1
    · rw [if_pos hx]
      simp [hx, h2, Sem.run_pure]
    · rw [if_neg hx, ← run_asking id hid w es N (i + 1) h3 (fun y hy => hl y (by simp [hy]))]
      simp [hx]

theorem run_find (id : List Int) (hid : id.length = 32) (w : World) (es : List MapEntry) (N : List (List Int × Value)) (h : es.map (fun e => (e.key, e.val)) = N.map (fun x => (idv x.1, x.2))) (hl : ∀ x ∈ N, x.1.length = 32) :
    (Instr.findKey 31 (idv id) es).run Tryd.prog w = .ok (seek id N 0) w := by
  unfold Instr.findKey
  simp only [Sem.run_bind, run_underlying Tryd.underlying31, Result.andThen_ok]
  cases es with
  | nil =>
    cases N with
    | nil => rfl
    | cons x N => simp at h
  | cons e es =>
    have : Instr.findNow (.array 32 5) (idv id) (e :: es) 0 = none := by
      unfold Instr.findNow idv Instr.sameNow
      rfl
    rw [this]
    exact run_asking id hid w (e :: es) N 0 h hl

theorem getmap {w : World} {r : Nat} {es : Array MapEntry} {clock : Nat} (hb : w.heap[r]? = some (.map es clock)) : (getObj r).run Tryd.prog w = .ok (.map es clock) w := by simp [getObj, Sem.run, hb]
theorem setmap {w : World} {r : Nat} {es : Array MapEntry} {clock : Nat} (o : Obj) (hb : w.heap[r]? = some (.map es clock)) : (setObj r o).run Tryd.prog w = .ok () { w with heap := w.heap.setIfInBounds r o } := by simp [setObj, Sem.run, hb]

theorem erase_filter {id : List Int} {v : Value} : ∀ (N : List (List Int × Value)), (N.map (·.1)).Nodup → ∀ (j : Nat), N[j]? = some (id, v) → N.eraseIdx j = N.filter fun x => decide (x.1 ≠ id)
  | [], _, j, h => by simp at h
  | x :: N, hnd, 0, h => by
    simp only [List.getElem?_cons_zero, Option.some.injEq] at h
    subst h
    rw [List.map_cons, List.nodup_cons] at hnd
    simp only [List.eraseIdx_zero, List.tail_cons]
    rw [List.filter_cons_of_neg (by simp)]
    exact (List.filter_eq_self.2 (fun y hy => by have hne : y.1 ≠ id := fun e => hnd.1 (by have := List.mem_map_of_mem (f := (·.1)) hy; rwa [e] at this); simpa using hne)).symm
  | x :: N, hnd, j + 1, h => by
    rw [List.map_cons, List.nodup_cons] at hnd
    rw [List.getElem?_cons_succ] at h
    rw [List.eraseIdx_cons_succ]
    have hxne : x.1 ≠ id := fun e => hnd.1 (by have := List.mem_map_of_mem (f := (·.1)) (List.mem_of_getElem? h); rw [e]; exact this)
    rw [List.filter_cons_of_pos (by simpa using hxne), erase_filter N hnd.2 j h]

section
variable {w : World} {b : Nat} {M : List (List Int × Value)} {t e : TypeId}

theorem run_lookM (h : MapIs w b M) (hk : Keys M) (id : List Int) (hid : id.length = 32) (ht : Tryd.prog.underlying t = some (.map 31 e)) (z : Value) (hz : (zeroValue e).run Tryd.prog w = .ok z w) :
    (Instr.lookup t (.map (some b)) (idv id) true).run Tryd.prog w = .ok (.tuple #[(lookM M id).getD z, .bool (lookM M id).isSome]) w := by
  obtain ⟨es, clock, N, h1, h2, h3⟩ := h
  have hN := hk.perm h3
  have hc := check_id es.isEmpty w id hid
  have hf := run_find id hid w es.toList N h2 hN.1
  have hg := getmap h1
  rw [← look_perm hk h3, ← seek_look id N 0]
  unfold Instr.lookup
  simp only [Sem.run_bind, run_underlying ht, Result.andThen_ok, hg, Sem.run_pure, hc, hf]
  cases seek id N 0 with
  | none => simp [Sem.run_bind, Sem.run_pure, hz]
  | some x => simp [Sem.run_bind, Sem.run_pure]

/-- The world with a block turned. -/
def wset (w : World) (r : Nat) (o : Obj) : World := { w with heap := w.heap.setIfInBounds r o }
theorem turns_wset (w : World) (r : Nat) (o : Obj) : Turns (fun i => i = r) w (wset w r o) :=
  ⟨rfl, rfl, rfl, by simp [wset], fun i _ hi => by simp only [wset]; rw [Array.getElem?_setIfInBounds_ne (fun e => hi e.symm)]⟩
theorem heap_wset {w : World} {r : Nat} {o : Obj} (h : r < w.heap.size) : (wset w r o).heap[r]? = some o := by simp [wset, h]

theorem run_insert (h : MapIs w b M) (hk : Keys M) (id : List Int) (hid : id.length = 32) (v : Value) (hno : lookM M id = none) (ht : Tryd.prog.underlying t = some (.map 31 e)) :
    ∃ w', (Instr.mapUpdate t (.map (some b)) (idv id) v).run Tryd.prog w = .ok () w' ∧ MapIs w' b (M ++ [(id, v)]) ∧ Turns (fun i => i = b) w w' := by
  obtain ⟨es, clock, N, h1, h2, h3⟩ := h
  have hN := hk.perm h3
  have hc := check_id false w id hid
  have hf := run_find id hid w es.toList N h2 hN.1
  have hg := getmap h1
  rw [← look_perm hk h3, ← seek_look id N 0] at hno
  have hs : seek id N 0 = none := by cases hh : seek id N 0 with
    | none => rfl
    | some x => rw [hh] at hno; cases hno
  rw [hs] at hf
  have hso := fun o => setmap o h1
  refine ⟨wset w b (.map (es.push { key := idv id, val := v, born := clock }) (clock + 1)), ?_, ⟨_, _, N ++ [(id, v)], heap_wset (lt_of_block h1), ?_, h3.append_right _⟩, turns_wset _ _ _⟩
  · unfold Instr.mapUpdate
    simp only [Sem.run_bind, run_underlying ht, Result.andThen_ok, hg, hc, hf, hso]
    rfl
  · simp [h2]

theorem run_delete (h : MapIs w b M) (hk : Keys M) (id : List Int) (hid : id.length = 32) (ty : TypeId) (ht : Tryd.prog.underlying t = some (.map 31 e)) (ks : TypeId) (hyes : (lookM M id).isSome = true) :
    ∃ w', (Builtin.delete_ #[t, ks] ty #[.map (some b), idv id]).run Tryd.prog w = .ok (.tuple #[]) w' ∧ MapIs w' b (M.filter fun x => decide (x.1 ≠ id)) ∧ Turns (fun i => i = b) w w' := by
  obtain ⟨es, clock, N, h1, h2, h3⟩ := h
  have hN := hk.perm h3
  have hc := check_id es.isEmpty w id hid
  have hf := run_find id hid w es.toList N h2 hN.1
  have hg := getmap h1
  have hso := fun o => setmap o h1
  rw [← look_perm hk h3, ← seek_look id N 0] at hyes
  cases hs : seek id N 0 with
  | none => rw [hs] at hyes; cases hyes
  | some x =>
    obtain ⟨j, v⟩ := x
    obtain ⟨_, hj⟩ := seek_some hs
    rw [Nat.sub_zero] at hj
    rw [hs] at hf
    obtain ⟨hjl, hje⟩ := List.getElem?_eq_some_iff.1 hj
    have hlen : es.toList.length = N.length := by have := congrArg List.length h2; simpa using this
    refine ⟨wset w b (.map (es.eraseIdxIfInBounds j) clock), ?_, ⟨_, _, N.eraseIdx j, heap_wset (lt_of_block h1), ?_, ?_⟩, turns_wset _ _ _⟩
    · simp [Builtin.delete_, Sem.run_bind, run_underlying ht, hg, hc, hf, hso, wset]
    · have e1 : (es.eraseIdxIfInBounds j).toList = es.toList.eraseIdx j := by simp
      rw [e1, List.eraseIdx_eq_take_drop_succ, List.eraseIdx_eq_take_drop_succ, List.map_append, List.map_append, List.map_take, List.map_drop, List.map_take, List.map_drop, h2]
    · have e2 := erase_filter N hN.2 j hj
      rw [e2]
      exact h3.filter _

theorem run_lenM (h : MapIs w b M) (ht : Tryd.prog.underlying t = some (.map 31 e)) (ty : TypeId) : (Builtin.len_ #[t] ty #[.map (some b)]).run Tryd.prog w = .ok (.int .i64 M.length) w := by
  obtain ⟨es, c, h1, h2⟩ := h.len
  have hg := getmap h1
  unfold Builtin.len_
  simp [run_underlying ht, hg, h2, goInt, Sem.run_bind]
end

theorem exec_lookup {op : Oper} {a : Act} {w : World} (t : TypeId) (x ix : Operand) (ho : op.op = .lookup t x ix true) {vx vi r : Value} (hx : a.eval x = vx) (hi : a.eval ix = vi) (hr : (Instr.lookup t vx vi true).run Tryd.prog w = .ok r w) : (execOp a.eval op).run Tryd.prog w = .ok (.value r) w := by
  unfold execOp
  simp only [ho, hx, hi, Sem.run_bind, Sem.run_pure, Result.andThen_ok, hr]

section
variable {ops : Array Oper} {rest : List Oper} {o : Oper} {a : Act} {Q : Exit → Act → World → Prop} {w : World} {b : Nat} {M : List (List Int × Value)} {t e : TypeId}
theorem wpList_insert (hg : o.guard = none) (m x v : Operand) (hop : o.op = .mapUpdate t m x v) (ht : Tryd.prog.underlying t = some (.map 31 e)) (id : List Int) (val : Value) (hm : a.eval m = .map (some b)) (hx : a.eval x = .agg (idc id).toArray) (hv : a.eval v = val)
    (h : MapIs w b M) (hk : Keys M) (hid : id.length = 32) (hno : lookM M id = none) (hK : ∀ w', MapIs w' b (M ++ [(id, val)]) → Turns (fun i => i = b) w w' → wpList Tryd.prog ops Q rest (a.put o.dst undef) w') : wpList Tryd.prog ops Q (o :: rest) a w := by
  refine wpList_plain hg fun K' hK' => ?_
  obtain ⟨w', hrun, r1, r2⟩ := run_insert h hk id hid val hno ht
  unfold idv at hrun
  unfold Oper.wp
  simp only [execOp, hop, hm, hx, hv, Sem.run_bind, Sem.run_pure, hrun, Result.andThen_ok]
  exact hK' _ _ (hK w' r1 r2)
theorem wpList_delete (hg : o.guard = none) (m x : Operand) (ks : TypeId) (hop : o.op = .call { callee := .builtin .delete, args := #[m, x], argTypes := #[t, ks] }) (ht : Tryd.prog.underlying t = some (.map 31 e)) (id : List Int) (hm : a.eval m = .map (some b)) (hx : a.eval x = .agg (idc id).toArray)
    (h : MapIs w b M) (hk : Keys M) (hid : id.length = 32) (hyes : (lookM M id).isSome = true) (hK : ∀ w', MapIs w' b (M.filter fun x => decide (x.1 ≠ id)) → Turns (fun i => i = b) w w' → wpList Tryd.prog ops Q rest (a.put o.dst (.tuple #[])) w') : wpList Tryd.prog ops Q (o :: rest) a w := by
  refine wpList_plain hg fun K' hK' => ?_
  obtain ⟨w', hrun, r1, r2⟩ := run_delete h hk id hid o.type ht ks hyes
  unfold idv at hrun
  unfold Oper.wp execOp
  simp only [hop, resolve, invoke, builtin, Sem.run_bind, Sem.run_pure, Result.andThen_ok, List.map_toArray, List.map_cons, List.map_nil, hm, hx, hrun]
  exact hK' _ _ (hK w' r1 r2)
end

end Go.Proofs.YtjnplcajajdkiaaDoor.mapkit
