/- The document's count; the walks of SatCounts and SatStops. -/
import Derived.Test.YtnkmefgmppkbeaaSatAll
import Derived.ChangeKeysEq
namespace Go.Proofs.Ytnkmefgmppkbeaa.sat
open Go.RowKit
open Go.Proofs.Ytnkmefgmppkbeaa.stepkit Go.Proofs.Ytnkmefgmppkbeaa.mix Go.Proofs.Ytnkmefgmppkbeaa.row Go.Proofs.Ytnkmefgmppkbeaa.argkit

theorem alloc3_mid (w : World) (A B C : Obj) : (((w.alloc A).alloc B).alloc C).heap[w.heap.size + 1]? = some B :=
  (heap_alloc_old _ _ (by simp)).trans (heap_alloc2_new _ _ _)
theorem alloc3_grown (w : World) (A B C : Obj) : w.grownBy (((w.alloc A).alloc B).alloc C) none :=
  grownBy_trans (grownBy_trans (World.grownBy_alloc _ _ _) (World.grownBy_alloc _ _ _)) (World.grownBy_alloc _ _ _)

set_option maxHeartbeats 4000000 in
theorem ref_count_any (a0 a1 a2 a3 a4 a5 a6 : Int) (k : Int) (w : World) (hk0 : 0 ≤ k) (h0 : 0 ≤ a0 ∧ a0 ≤ 1000) (h1 : 0 ≤ a1 ∧ a1 ≤ 1000) (h2 : 0 ≤ a2 ∧ a2 ≤ 1000) (h3 : 0 ≤ a3 ∧ a3 ≤ 1000) (h4 : 0 ≤ a4 ∧ a4 ≤ 1000) (h5 : 0 ≤ a5 ∧ a5 ≤ 1000) (h6 : 0 ≤ a6 ∧ a6 ≤ 1000) :
    Calls Try.prog 13 #[agg [a0, a1, a2, a3, a4, a5, a6], .int .i64 k] w fun e w' => e = .returned (agg (counted [a0, a1, a2, a3, a4, a5, a6] k)) ∧ w.grownBy w' none := by
  by_cases hk : k < 7
  · obtain rfl | rfl | rfl | rfl | rfl | rfl | rfl : k = 0 ∨ k = 1 ∨ k = 2 ∨ k = 3 ∨ k = 4 ∨ k = 5 ∨ k = 6 := by omega
    all_goals (
      unfold agg vals
      simp only [List.map_cons, List.map_nil]
      go_enter Try.func13, Try.ntmps13
      go_wp2_with (go_at_call 10; refine (ref_up_any _ _ (by omega) (by omega)).mono ?_; rintro e w2 ⟨rfl, rfl⟩)
      refine bodyPost_ret (results_cell_row rfl _ _ (w.heap.size + 1) 29 _ (0, 0) _ rfl (alloc3_mid _ _ _ _) Try.underlying29 rfl (by kernel_rfl)) rfl ⟨rfl, alloc3_grown _ _ _ _⟩)
  · have hc : counted [a0, a1, a2, a3, a4, a5, a6] k = [a0, a1, a2, a3, a4, a5, a6] := if_neg hk
    rw [hc]
    have n0 : ¬ k = 0 := by omega
    have n1 : ¬ k = 1 := by omega
    have n2 : ¬ k = 2 := by omega
    have n3 : ¬ k = 3 := by omega
    have n4 : ¬ k = 4 := by omega
    have n5 : ¬ k = 5 := by omega
    have n6 : ¬ k = 6 := by omega
    unfold agg vals
    simp only [List.map_cons, List.map_nil]
    go_enter Try.func13, Try.ntmps13
    go_wp2
    refine bodyPost_ret (results_cell_row rfl _ _ (w.heap.size + 1) 29 _ (0, 0) _ rfl (alloc3_mid _ _ _ _) Try.underlying29 rfl (by kernel_rfl)) rfl ⟨rfl, alloc3_grown _ _ _ _⟩

theorem ref_count_list (c : List Int) (k : Int) (w : World) (hk0 : 0 ≤ k) (h7 : c.length = 7) (hb : ∀ x ∈ c, 0 ≤ x ∧ x ≤ 1000) :
    Calls Try.prog 13 #[agg c, .int .i64 k] w fun e w' => e = .returned (agg (counted c k)) ∧ w.grownBy w' none := by
  obtain ⟨a0, a1, a2, a3, a4, a5, a6, rfl⟩ := seven h7
  exact ref_count_any _ _ _ _ _ _ _ _ _ hk0 (hb _ (by simp)) (hb _ (by simp)) (hb _ (by simp)) (hb _ (by simp)) (hb _ (by simp)) (hb _ (by simp)) (hb _ (by simp))

theorem fieldsCounts : (Try.prog.fieldsOf 29).toList.map (fun f => (f.type, f.offset, f.name == "_")) = [(3, 0, false), (3, 1, false), (3, 2, false), (3, 3, false), (3, 4, false), (3, 5, false), (3, 6, false)] := by kernel_rfl

theorem eqFields_int (d : Nat) (xs : Array Value) (f : Field) (fs : List Field) (k : Nat) (a : Int) (ht : f.type = 3) (ho : f.offset = k) (hn : (f.name == "_") = false) (hx : xs[k]? = some (.int .i64 a)) (w : World) :
    (Op.eqFields (d + 1) xs xs (f :: fs)).run Try.prog w = (Op.eqFields (d + 1) xs xs fs).run Try.prog w := by
  have hn' : f.name ≠ "_" := by simpa using hn
  have hp : (part 3 xs k).run Try.prog w = .ok (.int .i64 a) w :=
    run_part_plain w (by kernel_rfl) hx
  rw [Op.eqFields, if_pos hn', ht, ho]
  simp only [Sem.run_bind, hp, Result.andThen_ok, run_equalIn_int _ _ _ _ _ _ _ Try.underlying3]
  simp

theorem neq_counts (c : List Int) (h : c.length = 7) (w : World) : (binOp .neq 29 (agg c) (agg c)).run Try.prog w = .ok (.bool false) w := by
  obtain ⟨a0, a1, a2, a3, a4, a5, a6, rfl⟩ := seven h
  unfold agg
  rw [run_neq_struct, run_equalIn_agg _ _ _ _ _ (by kernel_rfl) (by kernel_rfl)]
  have hf := fieldsCounts
  generalize (Try.prog.fieldsOf 29).toList = fs at hf
  obtain ⟨f0, fs, rfl, g0, hf⟩ := List.map_eq_cons_iff.1 hf
  obtain ⟨f1, fs, rfl, g1, hf⟩ := List.map_eq_cons_iff.1 hf
  obtain ⟨f2, fs, rfl, g2, hf⟩ := List.map_eq_cons_iff.1 hf
  obtain ⟨f3, fs, rfl, g3, hf⟩ := List.map_eq_cons_iff.1 hf
  obtain ⟨f4, fs, rfl, g4, hf⟩ := List.map_eq_cons_iff.1 hf
  obtain ⟨f5, fs, rfl, g5, hf⟩ := List.map_eq_cons_iff.1 hf
  obtain ⟨f6, fs, rfl, g6, hf⟩ := List.map_eq_cons_iff.1 hf
  obtain rfl := List.map_eq_nil_iff.1 hf
  simp only [Prod.mk.injEq] at g0 g1 g2 g3 g4 g5 g6
  rw [eqFields_int _ _ _ _ 0 a0 g0.1 g0.2.1 g0.2.2 rfl, eqFields_int _ _ _ _ 1 a1 g1.1 g1.2.1 g1.2.2 rfl, eqFields_int _ _ _ _ 2 a2 g2.1 g2.2.1 g2.2.2 rfl, eqFields_int _ _ _ _ 3 a3 g3.1 g3.2.1 g3.2.2 rfl,
    eqFields_int _ _ _ _ 4 a4 g4.1 g4.2.1 g4.2.2 rfl, eqFields_int _ _ _ _ 5 a5 g5.1 g5.2.1 g5.2.2 rfl, eqFields_int _ _ _ _ 6 a6 g6.1 g6.2.1 g6.2.2 rfl]
  rfl

end Go.Proofs.Ytnkmefgmppkbeaa.sat
