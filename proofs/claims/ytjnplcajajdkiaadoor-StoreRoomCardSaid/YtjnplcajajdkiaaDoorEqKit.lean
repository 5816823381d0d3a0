/- A struct of plain fields is equal to itself. No function of the program in sight. -/
import Derived.Test.YtjnplcajajdkiaaDoorRow
import Derived.ChangeKeysEq
namespace Go.Proofs.YtjnplcajajdkiaaDoor.eqkit
open Go.RowKit

section
variable {P : Program}

theorem eqFields_int {d : Nat} {xs : Array Value} {f : Field} {fs : List Field} {k : Nat} {kk : IntKind} {a : Int} {t : TypeId} (hp : P.plainKey t = true) (hu : P.underlying t = some (.int kk)) (h : (f.type, f.offset, f.name == "_") = (t, k, false)) (hx : xs[k]? = some (.int kk a)) (w : World) :
    (Op.eqFields (d + 1) xs xs (f :: fs)).run P w = (Op.eqFields (d + 1) xs xs fs).run P w := by
  simp only [Prod.mk.injEq] at h
  obtain ⟨ht, ho, hn⟩ := h
  have hn' : f.name ≠ "_" := by simpa using hn
  rw [Op.eqFields, if_pos hn', ht, ho]
  simp only [Sem.run_bind, run_part_plain w hp hx, Result.andThen_ok, run_equalIn_int _ _ _ _ _ _ _ hu]
  simp

theorem eqFields_str {d : Nat} {xs : Array Value} {f : Field} {fs : List Field} {k : Nat} {a : ByteArray} {t : TypeId} (hp : P.plainKey t = true) (hu : P.underlying t = some .string) (h : (f.type, f.offset, f.name == "_") = (t, k, false)) (hx : xs[k]? = some (.string a)) (w : World) :
    (Op.eqFields (d + 1) xs xs (f :: fs)).run P w = (Op.eqFields (d + 1) xs xs fs).run P w := by
  simp only [Prod.mk.injEq] at h
  obtain ⟨ht, ho, hn⟩ := h
  have hn' : f.name ≠ "_" := by simpa using hn
  rw [Op.eqFields, if_pos hn', ht, ho]
  simp only [Sem.run_bind, run_part_plain w hp hx, Result.andThen_ok, run_equalIn_string _ _ _ _ _ hu]
  simp

theorem run_neq_of_eql {t : TypeId} {xs ys : Array Value} {r : Bool} {w : World} (h : (Op.equalIn 10000 t (.agg xs) (.agg ys)).run P w = .ok r w) : (binOp .neq t (.agg xs) (.agg ys)).run P w = .ok (.bool (!r)) w ∧ (binOp .eql t (.agg xs) (.agg ys)).run P w = .ok (.bool r) w := by
  constructor
  · rw [run_neq_struct, h]; rfl
  · rw [run_eql_struct, h]; rfl
end
end Go.Proofs.YtjnplcajajdkiaaDoor.eqkit
