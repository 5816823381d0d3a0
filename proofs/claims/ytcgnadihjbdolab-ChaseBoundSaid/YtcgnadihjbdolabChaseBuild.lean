/- Package chase: literals with an id in them. -/
import Derived.Test.YtcgnadihjbdolabChaseOps
namespace Go.Proofs.Ytcgnadihjbdolab.chase
open Go.RowKit
open Go.Proofs.Ytcgnadihjbdolab.stepkit Go.Proofs.Ytcgnadihjbdolab.row Go.Proofs.Ytcgnadihjbdolab.mix Go.Proofs.Ytcgnadihjbdolab.obj Go.Proofs.Ytcgnadihjbdolab.eqkit Go.Proofs.Ytcgnadihjbdolab.idkit

theorem thirty_two {P : List Int → Prop} (h : ∀ b0 b1 b2 b3 b4 b5 b6 b7 b8 b9 b10 b11 b12 b13 b14 b15 b16 b17 b18 b19 b20 b21 b22 b23 b24 b25 b26 b27 b28 b29 b30 b31 : Int, P [b0, b1, b2, b3, b4, b5, b6, b7, b8, b9, b10, b11, b12, b13, b14, b15, b16, b17, b18, b19, b20, b21, b22, b23, b24, b25, b26, b27, b28, b29, b30, b31]) (id : List Int) (hl : id.length = 32) : P id := by
  iterate 32 (rcases id with _ | ⟨_, id⟩; · simp at hl)
  rcases id with _ | ⟨_, id⟩
  · exact h _ _ _ _ _ _ _ _ _ _ _ _ _ _ _ _ _ _ _ _ _ _ _ _ _ _ _ _ _ _ _ _
  · simp at hl

theorem build_ch (id : List Int) (hl : id.length = 32) (p d : Int) : ∀ w, (Instr.build 34 #[(0, .agg (idc id).toArray), (1, .int .i64 p), (2, .int .i64 d)]).run Try.prog w = .ok (.agg (Ch.cs ⟨id, p, d⟩).toArray) w := by
  intro w
  refine run_build w _ _ _ ?_
  refine thirty_two (P := fun id => Try.prog.built 34 [(0, .agg (idc id).toArray), (1, .int .i64 p), (2, .int .i64 d)] = some (Ch.cs ⟨id, p, d⟩).toArray) ?_ id hl
  intro b0 b1 b2 b3 b4 b5 b6 b7 b8 b9 b10 b11 b12 b13 b14 b15 b16 b17 b18 b19 b20 b21 b22 b23 b24 b25 b26 b27 b28 b29 b30 b31
  kernel_rfl

theorem slice_ch (c : Ch) (hl : c.id.length = 32) : ∀ w, (Instr.buildSlice 31 1 #[(0, .agg c.cs.toArray)]).run Try.prog w = .ok (.slice (some ⟨w.heap.size, 0, none⟩) 1 1) (w.alloc (.cells c.cs.toArray 34)) := by
  intro w
  obtain ⟨id, p, d⟩ := c
  refine thirty_two (P := fun id => (Instr.buildSlice 31 1 #[(0, .agg (Ch.cs ⟨id, p, d⟩).toArray)]).run Try.prog w = .ok (.slice (some ⟨w.heap.size, 0, none⟩) 1 1) (w.alloc (.cells (Ch.cs ⟨id, p, d⟩).toArray 34))) ?_ id hl
  intro b0 b1 b2 b3 b4 b5 b6 b7 b8 b9 b10 b11 b12 b13 b14 b15 b16 b17 b18 b19 b20 b21 b22 b23 b24 b25 b26 b27 b28 b29 b30 b31
  kernel_rfl

end Go.Proofs.Ytcgnadihjbdolab.chase
