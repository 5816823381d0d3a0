/- A slice that lies at the head of a block of its own, its capacity cut or not: what append of noughts, copy of a text and the conversion to a text do with it. No function of the program in sight. -/
import Derived.Test.YtjnplcajajdkiaaDoorStepKit
namespace Go.Proofs.YtjnplcajajdkiaaDoor.row
open Go.RowKit
open Go.Proofs.YtjnplcajajdkiaaDoor.stepkit

/-- A slice value of n elements, sz cells each, that reads as these cells; nil where it says nil. -/
def Row (w : World) (e : TypeId) (sz : Nat) (v : Value) (n : Nat) (xs : List Value) : Prop :=
  xs.length = n * sz ∧ ((v = .slice none 0 0 ∧ n = 0) ∨
    ∃ g cap cur, v = .slice (some ⟨g, 0, none⟩) n cap ∧ w.heap[g]? = some (.cells cur e (0, 0)) ∧ n ≤ cap ∧ cap ≤ maxLen ∧ cap * sz ≤ cur.size ∧ cur.toList.take (n * sz) = xs)

theorem Row.of_owns {w : World} {base : Nat} {e : TypeId} {sz : Nat} {v : Value} {n : Nat} {xs : List Value} (h : w.ownsRow base e sz v n xs) : Row w e sz v n xs := by
  obtain ⟨h1, h2 | ⟨g, cap, cur, hv, _, hg, hn, hm, hs, ht⟩⟩ := h
  · exact ⟨h1, Or.inl h2⟩
  · exact ⟨h1, Or.inr ⟨g, cap, cur, hv, hg, hn, hm, by omega, ht⟩⟩

theorem Row.nil (w : World) (e : TypeId) (sz : Nat) : Row w e sz (.slice none 0 0) 0 [] := ⟨by simp, Or.inl ⟨rfl, rfl⟩⟩

theorem Row.of_heap {w w' : World} {e : TypeId} {sz : Nat} {v : Value} {n : Nat} {xs : List Value} (h : Row w e sz v n xs) (hh : ∀ g, v.ownBlock = some g → w'.heap[g]? = w.heap[g]?) : Row w' e sz v n xs := by
  obtain ⟨h1, h2 | ⟨g, cap, cur, rfl, hg, r⟩⟩ := h
  · exact ⟨h1, Or.inl h2⟩
  · exact ⟨h1, Or.inr ⟨g, cap, cur, rfl, by rw [hh g rfl]; exact hg, r⟩⟩

theorem Row.lt {w : World} {e : TypeId} {sz : Nat} {v : Value} {n : Nat} {xs : List Value} (h : Row w e sz v n xs) : ∀ g, v.ownBlock = some g → g < w.heap.size := by
  intro g hg
  obtain ⟨_, ⟨rfl, _⟩ | ⟨g', cap, cur, rfl, hh, _⟩⟩ := h
  · cases hg
  · simp only [Value.ownBlock, Option.some.injEq] at hg
    subst hg
    exact lt_of_block hh

theorem Row.elem {w : World} {e : TypeId} {sz : Nat} {v : Value} {n : Nat} {xs : List Value} (h : Row w e sz v n xs) : ∀ g, v.ownBlock = some g → ∃ cur, w.heap[g]? = some (.cells cur e (0, 0)) := by
  intro g hg
  obtain ⟨_, ⟨rfl, _⟩ | ⟨g', cap, cur, rfl, hh, _⟩⟩ := h
  · cases hg
  · simp only [Value.ownBlock, Option.some.injEq] at hg
    subst hg
    exact ⟨cur, hh⟩

theorem Row.grown {w w' : World} {e : TypeId} {sz : Nat} {v : Value} {n : Nat} {xs : List Value} {row : Option Nat} (h : Row w e sz v n xs) (hg : w.grownBy w' row) (hne : ∀ g, v.ownBlock = some g → row ≠ some g) : Row w' e sz v n xs :=
  h.of_heap fun g hv => hg.block g (h.lt g hv) (fun e => hne g hv e.symm)

theorem Row.drew {w : World} {e : TypeId} {sz : Nat} {v : Value} {n : Nat} {xs : List Value} (h : Row w e sz v n xs) : Row w.drew e sz v n xs := h

theorem Row.shape {w : World} {e : TypeId} {sz : Nat} {v : Value} {n : Nat} {xs : List Value} (h : Row w e sz v n xs) : ∃ ao cap, v = .slice ao n cap ∧ n ≤ cap ∧ cap ≤ maxLen ∧ (ao = none → n = 0 ∧ cap = 0) := by
  obtain ⟨_, ⟨rfl, rfl⟩ | ⟨g, cap, cur, rfl, _, hn, hm, _⟩⟩ := h
  · exact ⟨none, 0, rfl, Nat.le_refl _, Nat.zero_le _, fun _ => ⟨rfl, rfl⟩⟩
  · exact ⟨_, cap, rfl, hn, hm, fun h => by cases h⟩

/-- 'b[:k:k]'. -/
theorem Row.cut {w : World} {e : TypeId} {sz : Nat} {ao : Option Addr} {n cap : Nat} {xs : List Value} (h : Row w e sz (.slice ao n cap) n xs) (k : Nat) (hk : k ≤ n) : Row w e sz (.slice ao k k) k (xs.take (k * sz)) := by
  obtain ⟨h1, ⟨hv, rfl⟩ | ⟨g, cap', cur, hv, hg, hn, hm, hs, ht⟩⟩ := h
  · cases hv
    obtain rfl : k = 0 := by omega
    exact ⟨by simp, Or.inl ⟨rfl, rfl⟩⟩
  · cases hv
    have hkn : k * sz ≤ n * sz := Nat.mul_le_mul_right _ hk
    refine ⟨by rw [List.length_take, h1]; omega, Or.inr ⟨g, k, cur, rfl, hg, Nat.le_refl _, by omega, by have := Nat.mul_le_mul_right sz (show k ≤ cap by omega); omega, ?_⟩⟩
    rw [← ht, List.take_take, Nat.min_eq_left hkn]

/-- The cells of a row. -/
theorem Row.cell {w : World} {e : TypeId} {sz : Nat} {v : Value} {n : Nat} {xs : List Value} (h : Row w e sz v n xs) {g : Nat} (hg : v.ownBlock = some g) (i : Nat) (hi : i < xs.length) : w.cell? ⟨g, i, none⟩ = some (xs.getD i undef) := by
  obtain ⟨h1, ⟨rfl, _⟩ | ⟨g', cap, cur, rfl, hh, hn, hm, hs, ht⟩⟩ := h
  · cases hg
  · simp only [Value.ownBlock, Option.some.injEq] at hg
    subst hg
    have h2 : (cur.toList.take (n * sz))[i]? = xs[i]? := by rw [ht]
    rw [List.getElem?_take, if_pos (by omega)] at h2
    simp only [World.cell?, hh]
    simp only [Array.getElem?_toList] at h2
    simp [h2, List.getD, hi]

/-- string(b). -/
theorem Row.conv {P : Program} {w : World} {src dst e : TypeId} {v : Value} {n : Nat} {l : List UInt8} (hs : P.underlying src = some (.slice e)) (he : P.underlying e = some (.int .u8)) (hd : P.underlying dst = some .string)
    (h : Row w e 1 v n (u8s l)) : (convert src dst v).run P w = .ok (.string ⟨l.toArray⟩) w := by
  have h' := h
  obtain ⟨h1, ⟨rfl, rfl⟩ | ⟨g, cap, cur, rfl, hg, hn, hc, hcs, ht⟩⟩ := h
  · have : l = [] := by simpa [u8s] using h1
    subst this
    rw [run_convert_bytes_nil w src e hs he 0 0 dst hd]
    rfl
  · have hl : l.length = n := by simpa [u8s] using h1
    have hcell : ∀ i, i < n → w.cell? ⟨g, 0 + i, none⟩ = some (.int .u8 ((l.map fun x : UInt8 => (x.toNat : Int)).getD i 0)) := by
      intro i hi
      rw [Nat.zero_add, h'.cell rfl i (by simp [u8s]; omega)]
      simp [u8s, List.getD, hl, hi]
    rw [run_convert_bytes_arg w src e hs he g 0 n cap (l.map fun x : UInt8 => (x.toNat : Int)) (by simpa using hl) hcell dst hd]
    congr 2
    unfold strOfNums
    congr 1
    simp only [List.map_map]
    congr 1
    rw [show ((fun n : Int => UInt8.ofNat n.toNat) ∘ fun x : UInt8 => (x.toNat : Int)) = id from funext fun x => by simp, List.map_id]

/-- Noughts as cells. -/
def noughts (n : Nat) : List UInt8 := List.replicate n 0
theorem noughts_length (n : Nat) : (noughts n).length = n := List.length_replicate ..
theorem zeroCells_u8 (n : Nat) : (Builtin.zeroCells #[Value.int .u8 0] n).toList = u8s (noughts n) := by
  show (madeCells #[Value.int .u8 0] (n * 1)).toList = _
  rw [toList_madeCells_one]
  simp [u8s, noughts]

/-- append(b[:n:n], make([]byte, m)...). -/
theorem run_append_zeros {P : Program} (w : World) {t u e ty : TypeId} {i : TypeInfo} {ku : IntKind} (ht : P.underlying t = some (.slice e)) (hu : P.underlying u = some (.int ku)) (hi : P.info? e = some i) (hz : i.zero = some (.int .u8 0)) (hsz : i.size = 1) (hby : i.bytes = 1)
    {ao : Option Addr} {n : Nat} {l : List UInt8} (h : Row w e 1 (.slice ao n n) n (u8s l)) (m : Nat) (hb : n + m ≤ 140737488355328) :
    ∃ v' w', (Builtin.append_ #[t, u] ty #[.slice ao n n, .int ku m]).run P w = .ok v' w' ∧ w.grownBy w' none ∧ Row w' e 1 v' (n + m) (u8s (l ++ noughts m)) ∧ (0 < m → v'.ownBlock = some w.heap.size) ∧ (m = 0 → v' = .slice ao n n) := by
  have hwrap : IntKind.i64.wrap (m : Int) = (m : Int) := IntWalk.i64_in _ (by omega)
  have h0 : ¬ (m : Int) < 0 := by omega
  have h1 : ¬ (281474976710656 : Int) < (m : Int) := by omega
  have ha : ∀ (k : Int) (w' : World), (asIntOf (Value.int ku k)).run P w' = .ok (ku, k) w' := fun _ _ => rfl
  rcases Nat.eq_zero_or_pos m with rfl | hm
  · refine ⟨.slice ao n n, w, ?_, World.grownBy.refl _ _, by simpa [noughts] using h, fun h => by omega, fun _ => rfl⟩
    have hwrap0 : IntKind.i64.wrap 0 = 0 := hwrap
    cases ao with
    | none => simp [Builtin.append_, run_underlying ht, run_underlying hu, sizeOf, typeInfo, hi, hby, asInt, ha, hwrap0]
    | some a => simp [Builtin.append_, run_underlying ht, run_underlying hu, sizeOf, typeInfo, hi, hby, asInt, ha, hwrap0, storeCells]
  · have hn : ¬ n + m ≤ n := by omega
    have h63 : ¬ (9223372036854775807 : Int) < (n : Int) + (m : Int) := by omega
    have h48 : ¬ 281474976710656 < Builtin.nextslicecap (n + m) n := by
      have := growslice_fits (need := n + m) (old := n) (bytes := 1) (by omega) (by omega)
      omega
    have hml : ¬ (m : Int) ≤ 0 := by omega
    have hzc : ∀ k, (Builtin.zeroCells #[Value.int .u8 0] k).toList = u8s (noughts k) := zeroCells_u8
    have hmax : max (m : Int) 0 = (m : Int) := by omega
    have hcap := grownCap_ge w (n + m) n e
    have hcapm := grownCap_le_maxLen w (n + m) n e (by unfold maxLen; omega)
    obtain ⟨hlen, hrow⟩ := h
    have hrun : (Builtin.append_ #[t, u] ty #[.slice ao n n, .int ku m]).run P w =
        .ok (.slice (some ⟨w.heap.size, 0, none⟩) (n + m) (grownCap w (n + m) n e)) (w.drew.alloc (.cells ((u8s l).toArray ++ (Builtin.zeroCells #[Value.int .u8 0] m ++ Builtin.zeroCells #[Value.int .u8 0] (grownCap w (n + m) n e - (n + m)))) e)) := by
      rcases hrow with ⟨hv, rfl⟩ | ⟨g, cap, cur, hv, hg, hnc, hcm, hcs, htk⟩
      · cases hv
        have hl0 : u8s l = [] := List.eq_nil_of_length_eq_zero (by simpa using hlen)
        have hm0 : m ≠ 0 := by omega
        have h63' : ¬ (9223372036854775807 : Int) < (m : Int) := by omega
        have h48' : ¬ 281474976710656 < Builtin.nextslicecap m 0 := by simpa using h48
        simp [Builtin.append_, run_underlying ht, run_underlying hu, sizeOf, typeInfo, zeroValue, hi, hz, hsz, hby, asInt, ha, hwrap, h1, hm0, h63', h48', Question.forced, run_firstCells_none, newRow, grownCap, hl0, Value.cells]
        intro h; omega
      · cases hv
        have hfo := run_firstCells_some (P := P) w.drew 1 n ⟨g, 0, none⟩ n n (u8s l) hlen (fun j v hj => by
          have hj' : j < (u8s l).length := (List.getElem?_eq_some_iff.1 hj).1
          rw [Addr.add_lit, Nat.zero_add]
          have := Row.cell (w := w) (e := e) (sz := 1) (v := .slice (some ⟨g, 0, none⟩) n n) (n := n) ⟨hlen, Or.inr ⟨g, n, cur, rfl, hg, hnc, hcm, hcs, htk⟩⟩ rfl j hj'
          show w.cell? _ = _
          rw [this]
          simpa [List.getD, hj'] using hj)
        simp [Builtin.append_, run_underlying ht, run_underlying hu, sizeOf, typeInfo, zeroValue, hi, hz, hsz, hby, asInt, ha, hwrap, h0, h1, hn, h63, h48, hmax, Question.forced, hfo, newRow, grownCap, Value.cells]
        intro h; omega
    have hll : l.length = n := by simpa [u8s] using hlen
    refine ⟨_, _, hrun, ?_, ⟨by simp [u8s, noughts, hll], Or.inr ⟨w.heap.size, _, _, rfl, heap_alloc_new w.drew _, hcap, hcapm, ?_, ?_⟩⟩, fun _ => rfl, fun h => by omega⟩
    · have hga := World.grownBy_alloc w.drew (.cells ((u8s l).toArray ++ (Builtin.zeroCells #[Value.int .u8 0] m ++ Builtin.zeroCells #[Value.int .u8 0] (grownCap w (n + m) n e - (n + m)))) e) none
      exact ⟨hga.os, hga.tape, hga.output, hga.size, hga.block⟩
    · simp [u8s, size_zeroCells, hll]; omega
    · rw [Array.toList_append, Array.toList_append, hzc, hzc, List.toList_toArray, ← List.append_assoc, ← u8s_append]
      have : (u8s (l ++ noughts m)).length = (n + m) * 1 := by simp [u8s, noughts, hll]
      rw [← this, List.take_left]

theorem oneCells_u8 (l : List UInt8) : ∀ v ∈ u8s l, v.oneCell' = true := by
  intro v hv
  obtain ⟨x, _, rfl⟩ := List.mem_map.1 hv
  rfl

theorem firstCells_text {P : Program} (w : World) (size : Nat) (s : ByteArray) : (Builtin.firstCells size s.size (.string s)).run P w = .ok (u8s s.data.toList).toArray w := by
  simp [Builtin.firstCells, u8s]
  apply Array.ext'
  simp

/-- copy(b[o:], s), where all of s goes over: b a row of its own. -/
theorem run_copy_text {P : Program} (w : World) {dT sT e ty : TypeId} (hu : P.underlying dT = some (.slice e)) (hs : (P.info? e).map (·.size) = some 1) {g o dLen dCap : Nat} {cur : Array Value} {t : TypeId} (hg : w.heap[g]? = some (.cells cur t (0, 0))) (s : ByteArray) (hl : s.size = dLen) (hfit : o + s.size ≤ cur.size) :
    (Builtin.copy_ #[dT, sT] ty #[.slice (some ⟨g, o, none⟩) dLen dCap, .string s]).run P w =
      .ok (goInt s.size) (w.setRow g (cur.toList.take o ++ u8s s.data.toList ++ cur.toList.drop (o + s.size)).toArray) := by
  have hlen : (u8s s.data.toList).length = s.size := by simp [u8s]
  have hst := run_storeCells_at P g o t (u8s s.data.toList) 0 cur w hg (by rw [hlen]; simpa using hfit) (oneCells_u8 _)
  have hfc := fun k => firstCells_text (P := P) w k s
  subst hl
  cases hq : P.info? e with
  | none => simp [hq] at hs
  | some i =>
    have hi : i.size = 1 := by simpa [hq] using hs
    simp [Builtin.copy_, run_underlying hu, Builtin.lenOf, sizeOf, typeInfo, hq, hi, hfc, hst, hlen]

/-- Where nothing goes over nothing turns. -/
theorem run_copy_text_none {P : Program} (w : World) {dT sT e ty : TypeId} (hu : P.underlying dT = some (.slice e)) (hs : (P.info? e).map (·.size) = some 1) {ao : Option Addr} {dLen dCap : Nat} (s : ByteArray) (hl : s.size = 0) :
    (Builtin.copy_ #[dT, sT] ty #[.slice ao dLen dCap, .string s]).run P w = .ok (goInt 0) w := by
  have hfc := fun k => firstCells_text (P := P) w k s
  have h0 : u8s s.data.toList = [] := by
    have : s.data.toList = [] := List.eq_nil_of_length_eq_zero (by simpa using hl)
    rw [this]; rfl
  rw [hl, h0] at hfc
  cases hq : P.info? e with
  | none => simp [hq] at hs
  | some i =>
    have hi : i.size = 1 := by simpa [hq] using hs
    cases ao with
    | none => simp [Builtin.copy_, run_underlying hu, Builtin.lenOf, sizeOf, typeInfo, hq, hi, hl, hfc]
    | some a => simp [Builtin.copy_, run_underlying hu, Builtin.lenOf, sizeOf, typeInfo, hq, hi, hl, hfc, storeCells]

/-- A block behind a store into it. -/
theorem heap_setCell_at {w : World} {p : Nat} {cs : Array Value} {t : TypeId} {fr : Nat × Nat} (h : w.heap[p]? = some (.cells cs t fr)) (i : Nat) (v : Value) : (w.setCell ⟨p, i, none⟩ v).heap[p]? = some (.cells (cs.setIfInBounds i v) t fr) := by
  have hlt := lt_of_block h
  have h' : w.heap[p] = .cells cs t fr := by simpa [Array.getElem?_eq_getElem hlt] using h
  show (w.heap.modify p _)[p]? = _
  rw [Array.getElem?_eq_getElem (by simpa using hlt), Array.getElem_modify_self, h']
  rfl

theorem grownBy_setCell (w : World) (p i : Nat) (v : Value) : w.grownBy (w.setCell ⟨p, i, none⟩ v) (some p) :=
  ⟨rfl, rfl, rfl, by simp [World.setCell], fun k _ hk => Below.heap_setCell _ _ _ _ (fun e => hk (by rw [e]))⟩

theorem grownBy_trans {a b c : World} {row : Option Nat} (h : a.grownBy b row) (k : b.grownBy c row) : a.grownBy c row :=
  ⟨k.os.trans h.os, k.tape.trans h.tape, k.output.trans h.output, Nat.le_trans h.size k.size, fun i hi hn => (k.block i (Nat.lt_of_lt_of_le hi h.size) hn).trans (h.block i hi hn)⟩

theorem grownBy_none {a b : World} (h : a.grownBy b none) (row : Option Nat) : a.grownBy b row := ⟨h.os, h.tape, h.output, h.size, fun i hi _ => h.block i hi (by simp)⟩

theorem grownBy_drewN (w : World) (n : Nat) (row : Option Nat) : w.grownBy (w.drewN n) row := ⟨rfl, rfl, rfl, Nat.le_refl _, fun _ _ _ => rfl⟩

theorem grownBy_below {a b : World} {row : Option Nat} (h : a.grownBy b row) {B : Nat} (hB : B ≤ a.heap.size) (hr : ∀ k, row = some k → B ≤ k) : Below B a b := (Below.refl B a).grown h hB hr

/-- A write into a row that is new to the elder world. -/
theorem grownBy_setRow {a b : World} {row : Option Nat} (h : a.grownBy b row) {g : Nat} (hg : a.heap.size ≤ g) (cs : Array Value) : a.grownBy (b.setRow g cs) row :=
  ⟨h.os, h.tape, h.output, by have := h.size; simp [World.setRow]; omega, fun i hi hn => (setRow_other b g i cs (by omega)).trans (h.block i hi hn)⟩

/-! ### These as steps of a walk -/
section
variable {P : Program} {ops : Array Oper} {rest : List Oper} {o : Oper} {a : Act} {w : World} {Q : Exit → Act → World → Prop}

theorem wpList_append_zeros (hgd : o.guard = none) (s x : Operand) (t u : TypeId) (ho : o.op = .call { callee := .builtin .append, args := #[s, x], argTypes := #[t, u] })
    {e : TypeId} {i : TypeInfo} {ku : IntKind} (ht : P.underlying t = some (.slice e)) (hu : P.underlying u = some (.int ku)) (hi : P.info? e = some i) (hz : i.zero = some (.int .u8 0)) (hsz : i.size = 1) (hby : i.bytes = 1)
    {ao : Option Addr} {n m : Nat} {l : List UInt8} (hs : a.eval s = .slice ao n n) (hx : a.eval x = .int ku m) (hrow : Row w e 1 (.slice ao n n) n (u8s l)) (hb : n + m ≤ 140737488355328)
    (h : ∀ v' w', w.grownBy w' none → Row w' e 1 v' (n + m) (u8s (l ++ noughts m)) → (0 < m → v'.ownBlock = some w.heap.size) → (m = 0 → v' = .slice ao n n) → wpList P ops Q rest (a.put o.dst v') w') : wpList P ops Q (o :: rest) a w := by
  refine wpList_plain hgd fun K hK => ?_
  obtain ⟨v', w', hr, h1, h2, h3, h4⟩ := run_append_zeros (P := P) w (ty := o.type) ht hu hi hz hsz hby hrow m hb
  unfold Oper.wp execOp
  simp only [ho, resolve, invoke, builtin, Sem.run_bind, Sem.run_pure, Result.andThen_ok, List.map_toArray, List.map_cons, List.map_nil, hs, hx, hr]
  exact hK _ _ (h v' w' h1 h2 h3 h4)

theorem wpList_builtin_copy (hgd : o.guard = none) (d s : Operand) (dT sT : TypeId) (ho : o.op = .call { callee := .builtin .copy, args := #[d, s], argTypes := #[dT, sT] })
    {vd vs v : Value} {w' : World} (hd : a.eval d = vd) (hs : a.eval s = vs) (hr : (Builtin.copy_ #[dT, sT] o.type #[vd, vs]).run P w = .ok v w') (h : wpList P ops Q rest (a.put o.dst v) w') : wpList P ops Q (o :: rest) a w := by
  refine wpList_plain hgd fun K hK => ?_
  unfold Oper.wp execOp
  simp only [ho, resolve, invoke, builtin, Sem.run_bind, Sem.run_pure, Result.andThen_ok, List.map_toArray, List.map_cons, List.map_nil, hs, hd, hr]
  exact hK _ _ h
end

end Go.Proofs.YtjnplcajajdkiaaDoor.row
