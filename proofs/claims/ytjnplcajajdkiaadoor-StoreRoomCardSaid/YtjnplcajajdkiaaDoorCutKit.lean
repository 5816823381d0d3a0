/- Cuts of slices, as one step, whatever the slice's address. No function of the program in sight. -/
import Derived.Test.YtjnplcajajdkiaaDoorAppKit
import Derived.Test.YtjnplcajajdkiaaDoorIdKit
namespace Go.Proofs.YtjnplcajajdkiaaDoor.obj
open Go.RowKit
open Go.Proofs.YtjnplcajajdkiaaDoor.stepkit Go.Proofs.YtjnplcajajdkiaaDoor.row

section
variable {P : Program} {op : Oper} {a : Act} {w : World} {t e : TypeId} {sz : Nat}

theorem elem_of (ht : P.underlying t = some (.slice e)) : P.elem t = e := by simp [Program.elem, ht]
theorem run_size (hs : (P.info? e).map (·.size) = some sz) : (sizeOf e).run P w = .ok sz w := by
  obtain ⟨i, hi, hz⟩ := Option.map_eq_some_iff.1 hs
  simp [sizeOf, typeInfo, hi, hz]

theorem exec_cut_hm (ht : P.underlying t = some (.slice e)) (hs : (P.info? e).map (·.size) = some sz) (x h m : Operand) (ho : op.op = .slice t x none (some h) (some m)) {ao : Option Addr} {n cap j k : Nat}
    (hx : a.eval x = .slice ao n cap) (hh : a.eval h = .int .i64 j) (hm : a.eval m = .int .i64 k) (h1 : j ≤ k) (h2 : k ≤ cap) {v : Value} (hv : Go.sliced ao 0 j k sz = v) : (execOp a.eval op).run P w = .ok (.value v) w := by
  have ht' : P.underlying t = some (.slice (P.elem t)) := by rw [elem_of ht]; exact ht
  have h0 : (Instr.sliceAt t (.slice ao n cap) none (some (.int .i64 j)) (some (.int .i64 k))).run P w = .ok v w := by
    rw [run_sliceAt_slice w t _ _ _ _ ht', run_slice_hm w t ao n cap ht' .i64 .i64 j k (by omega) (by omega) (by omega), elem_of ht, run_size hs]
    simp only [Result.andThen_ok, Int.toNat_natCast, hv]
  unfold execOp
  simp only [ho, hx, hh, hm, Option.map, Sem.run_bind, h0, Sem.run_pure, Result.andThen_ok]
theorem exec_cut_h (ht : P.underlying t = some (.slice e)) (hs : (P.info? e).map (·.size) = some sz) (x h : Operand) (ho : op.op = .slice t x none (some h) none) {ao : Option Addr} {n cap j : Nat}
    (hx : a.eval x = .slice ao n cap) (hh : a.eval h = .int .i64 j) (h1 : j ≤ cap) {v : Value} (hv : Go.sliced ao 0 j cap sz = v) : (execOp a.eval op).run P w = .ok (.value v) w := by
  have ht' : P.underlying t = some (.slice (P.elem t)) := by rw [elem_of ht]; exact ht
  have h0 : (Instr.sliceAt t (.slice ao n cap) none (some (.int .i64 j)) none).run P w = .ok v w := by
    rw [run_sliceAt_slice w t _ _ _ _ ht', run_slice_h w t ao n cap ht' .i64 j (by omega) (by omega), elem_of ht, run_size hs]
    simp only [Result.andThen_ok, Int.toNat_natCast, hv]
  unfold execOp
  simp only [ho, hx, hh, Option.map, Sem.run_bind, h0, Sem.run_pure, Result.andThen_ok]
theorem exec_cut_l (ht : P.underlying t = some (.slice e)) (hs : (P.info? e).map (·.size) = some sz) (x h : Operand) (ho : op.op = .slice t x (some h) none none) {ao : Option Addr} {n cap j : Nat}
    (hx : a.eval x = .slice ao n cap) (hh : a.eval h = .int .i64 j) (h1 : j ≤ n) {v : Value} (hv : Go.sliced ao j n cap sz = v) : (execOp a.eval op).run P w = .ok (.value v) w := by
  have ht' : P.underlying t = some (.slice (P.elem t)) := by rw [elem_of ht]; exact ht
  have h0 : (Instr.sliceAt t (.slice ao n cap) (some (.int .i64 j)) none none).run P w = .ok v w := by
    rw [run_sliceAt_slice w t _ _ _ _ ht', run_slice_l w t ao n cap ht' .i64 j (by omega) (by omega), elem_of ht, run_size hs]
    simp only [Result.andThen_ok, Int.toNat_natCast, hv]
  unfold execOp
  simp only [ho, hx, hh, Option.map, Sem.run_bind, h0, Sem.run_pure, Result.andThen_ok]
theorem exec_cut_lh (ht : P.underlying t = some (.slice e)) (hs : (P.info? e).map (·.size) = some sz) (x l h : Operand) (ho : op.op = .slice t x (some l) (some h) none) {ao : Option Addr} {n cap i j : Nat}
    (hx : a.eval x = .slice ao n cap) (hl : a.eval l = .int .i64 i) (hh : a.eval h = .int .i64 j) (h0 : i ≤ j) (h1 : j ≤ cap) {v : Value} (hv : Go.sliced ao i j cap sz = v) : (execOp a.eval op).run P w = .ok (.value v) w := by
  have ht' : P.underlying t = some (.slice (P.elem t)) := by rw [elem_of ht]; exact ht
  have h0 : (Instr.sliceAt t (.slice ao n cap) (some (.int .i64 i)) (some (.int .i64 j)) none).run P w = .ok v w := by
    rw [run_sliceAt_slice w t _ _ _ _ ht', run_slice_lh w t ao n cap ht' .i64 .i64 i j (by omega) (by omega) (by omega), elem_of ht, run_size hs]
    simp only [Result.andThen_ok, Int.toNat_natCast, hv]
  unfold execOp
  simp only [ho, hx, hl, hh, Option.map, Sem.run_bind, h0, Sem.run_pure, Result.andThen_ok]
end
end Go.Proofs.YtjnplcajajdkiaaDoor.obj
