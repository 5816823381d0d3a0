/- append(nil, make([]T, n)...): a new row of noughts. No function of the program in sight. -/
import Derived.Test.YtjnplcajajdkiaaDoorObj
import Derived.Lib.AppendZerosOnto
namespace Go.Proofs.YtjnplcajajdkiaaDoor.obj
open Go.RowKit
open Go.Proofs.YtjnplcajajdkiaaDoor.stepkit Go.Proofs.YtjnplcajajdkiaaDoor.row

section
variable {P : Program} {ops : Array Oper} {rest : List Oper} {o : Oper} {a : Act} {w : World} {Q : Exit → Act → World → Prop}

theorem wpList_append_nil_zeros (hgd : o.guard = none) (s x : Operand) (t u : TypeId) (ho : o.op = .call { callee := .builtin .append, args := #[s, x], argTypes := #[t, u] })
    {e : TypeId} {i : TypeInfo} {z : Value} {ku kq : IntKind} (ht : P.underlying t = some (.slice e)) (hu : P.underlying u = some (.int ku)) (hi : P.info? e = some i) (hz : i.zero = some z) {size bytes : Nat} (hsz : i.size = size) (hby : i.bytes = bytes) (hzs : z.cells.size = size) (h0 : 0 < size)
    {k : Nat} (hs : a.eval s = .slice none 0 0) (hx : a.eval x = .int kq k) (hk : 0 < k) (hk63 : k ≤ maxLen) (hb : k * bytes ≤ 140737488355328)
    (h : ∀ cap cs, k ≤ cap → cap ≤ maxLen → cs.size = cap * size → wpList P ops Q rest (a.put o.dst (.slice (some ⟨w.heap.size, 0, none⟩) k cap)) (w.drew.alloc (.cells cs e))) : wpList P ops Q (o :: rest) a w := by
  subst hsz
  subst hby
  refine wpList_plain hgd fun K hK => ?_
  have hk' : k ≤ 9223372036854775807 := by simpa only [maxLen] using hk63
  have hr := Lib.run_append_grow_zeros (P := P) w t u o.type e i z kq ku ht hu hi hz none 0 0 [] (run_firstCells_none w.drew i.size 0 0 0) k hk h0 (by omega) (by omega) (by omega) (by simpa using growslice_fits (need := k) (old := 0) (bytes := i.bytes) (by omega) hb)
  rw [Nat.zero_add] at hr
  have hge := grownCap_ge w k 0 e
  unfold Oper.wp execOp
  simp only [ho, resolve, invoke, builtin, Sem.run_bind, Sem.run_pure, Result.andThen_ok, List.map_toArray, List.map_cons, List.map_nil, hs, hx, hr]
  refine hK _ _ (h _ _ hge (grownCap_le_maxLen w k 0 e hk63) ?_)
  simp only [Array.size_append, List.size_toArray, List.length_nil, Nat.zero_add, size_zeroCells, hzs, ← Nat.add_mul]
  rw [show k + (grownCap w k 0 e - k) = grownCap w k 0 e by omega]
end

/-- An empty slice of such a row. -/
theorem Sl.room {w : World} {g cap : Nat} {cur : Array Value} {e : TypeId} {sz : Nat} (h : w.heap[g]? = some (.cells cur e (0, 0))) (hm : cap ≤ maxLen) (hc : cur.size = cap * sz) : Sl w e sz (.slice (some ⟨g, 0, none⟩) 0 cap) 0 [] :=
  ⟨by simp, Or.inr ⟨g, 0, cap, cur, rfl, h, Nat.zero_le _, hm, by omega, by simp⟩⟩

end Go.Proofs.YtjnplcajajdkiaaDoor.obj
