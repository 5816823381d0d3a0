/- SatCounts: whatever is counted, all counts; of nobody nothing. -/
import Derived.Test.YtnkmefgmppkbeaaSatStops
import Derived.Test.YtnkmefgmppkbeaaNumKit
namespace Go.Proofs.Ytnkmefgmppkbeaa.sat
open Go.RowKit
open Go.Proofs.Ytnkmefgmppkbeaa.stepkit Go.Proofs.Ytnkmefgmppkbeaa.mix Go.Proofs.Ytnkmefgmppkbeaa.row Go.Proofs.Ytnkmefgmppkbeaa.argkit
attribute [local irreducible] counted

theorem build0 (W : World) : (Instr.build 29 #[]).run Try.prog W = .ok (agg [0, 0, 0, 0, 0, 0, 0]) W := by
  kernel_rfl

set_option maxRecDepth 20000 in
set_option maxHeartbeats 4000000 in
theorem counts_any (ao : Option Addr) (zs : List Int) (cap : Nat) (w : World) (hcap : zs.length ≤ maxLen) (hrow : RowAt w w.heap.size ao (zs.map (Value.int .u8))) (hw8 : ∀ z ∈ zs, 0 ≤ z ∧ z ≤ 255) :
    Calls Try.prog 5 #[.slice ao zs.length cap] w fun e w' => e = .returned (.bool true) ∧ Below w.heap.size w w' := by
  unfold maxLen at hcap
  obtain ⟨B, hB⟩ : ∃ B, w.heap.size = B := ⟨_, rfl⟩
  rw [hB] at hrow
  go_enter Try.func5, Try.ntmps5
  go_wp2_with fail
  go_loopw [6] (fun i wr => ∃ (j : Nat) (c : List Int), j ≤ zs.length ∧ j ≤ 200 ∧ i = .int .i64 j ∧ TallyAt wr B c ∧ SevenAt wr (B + 1) 29 c ∧ Below B w wr) (fun i _ => 200 - (intOf i).toNat)
  case atStart =>
    have h0 : TallyAt (w.alloc (.cells #[.int .i64 0, .int .i64 0, .int .i64 0, .int .i64 0, .int .i64 0, .int .i64 0, .int .i64 0] 31)) w.heap.size [0, 0, 0, 0, 0, 0, 0] := ⟨rfl, by simp, heap_alloc_new _ _⟩
    have h1 := h0.grown (World.grownBy_alloc _ (.cells #[.int .i64 0, .int .i64 0, .int .i64 0, .int .i64 0, .int .i64 0, .int .i64 0, .int .i64 0] 29) none) (by simp)
    refine ⟨0, [0, 0, 0, 0, 0, 0, 0], by omega, by omega, rfl, ?_, ⟨rfl, ?_⟩, ?_⟩
    · subst hB; exact h1
    · subst hB; exact heap_alloc2_new _ _ _
    · subst hB; exact ((Below.refl _ _).alloc (Nat.le_refl _) _).alloc (by simp) _
  case round =>
    obtain ⟨j, c, hj, hj2, rfl, ht, hs, hb⟩ := hrel
    have hsz : B ≤ wr.heap.size := by rw [← hB]; exact hb.size
    have hlen := ht.1
    by_cases hlt : j < zs.length ∧ j < 200
    · obtain ⟨l1, l2⟩ := hlt
      obtain ⟨a0, a1, a2, a3, a4, a5, a6, rfl⟩ := seven hlen
      have hLb := ht.2.1
      obtain ⟨bb, oo, rfl, hbb, hcell⟩ := hrow (by simp; omega)
      have hc := hcell j (by simpa using l1)
      obtain ⟨z, hz⟩ : ∃ z, z = zs.getD j 0 := ⟨_, rfl⟩
      have hcw : w.cell? ⟨bb, oo + j, none⟩ = some (.int .u8 z) := by rw [hc, hz]; simp [List.getD, l1]
      have hz8 : 0 ≤ z ∧ z ≤ 255 := hw8 z (by rw [hz, List.getD, List.getElem?_eq_getElem l1]; exact List.getElem_mem _)
      have hcs := (hb.cell (p := ⟨bb, oo + j, none⟩) hbb).trans hcw
      obtain ⟨q, hq⟩ : ∃ q, z % 8 = q := ⟨_, rfl⟩
      have hq8 : 0 ≤ q ∧ q < 8 := by omega
      clear hc hcell hz hrow
      have hlc : (counted [a0, a1, a2, a3, a4, a5, a6] q).length = 7 := by unfold counted bump; split <;> simp
      obtain ⟨b0, b1, b2, b3, b4, b5, b6, hcc⟩ := seven hlc
      have HC := Lib.hid hcc
      clear hcc hlc
      obtain ⟨x0, x1, x2, x3, x4, x5, x6⟩ := cells7 hs
      go_wp2_with first
        | (go_at_call 12; first
          | (with_reducible refine (count_nil _ _ (by omega)).mono ?_
             rintro e w2 ⟨rfl, hg2⟩
             have ht2 := ht1.grown hg2 (by simp)
             have hs2 := hs1.grown hg2 (by simp)
             have hsz2 := Nat.le_trans hsz1 hg2.size
             have hb2 := hb1.grown hg2 hsz1 (fun k hk => by cases hk)
             have hx2 := cells7 hs2
             obtain ⟨x0, x1, x2, x3, x4, x5, x6⟩ := hx2)
          | (rw [hq]
             refine (count_any _ _ _ _ ht (by omega)).mono ?_
             rintro e w1 ⟨rfl, ht1, hg1⟩
             rw [HC.out] at ht1
             have hs1 := hs.grown hg1 (by simp)
             have hsz1 := Nat.le_trans hsz hg1.size
             have hb1 := hb.grown hg1 hsz (fun k hk => by cases hk; exact Nat.le_refl _)))
        | (go_at_call 13; go_loud (
            refine (ref_count_list [a0, a1, a2, a3, a4, a5, a6] _ _ (by omega) rfl hLb).mono ?_
            rintro e w3 ⟨rfl, hg3⟩
            rw [HC.out]
            unfold agg vals; simp only [List.map_cons, List.map_nil]
            have hs3 := hs2.grown hg3 (by simp)
            have hfr := free7 hs3
            obtain ⟨f0, f1, f2, f3, f4, f5, f6⟩ := hfr
            obtain ⟨z0, z1, z2, z3, z4, z5, z6⟩ := cells7 hs3))
      obtain ⟨w4, hw4⟩ : ∃ w4, w4 = (((((((w3.setCell ⟨B + 1, 0, none⟩ (.int .i64 b0)).setCell ⟨B + 1, 1, none⟩ (.int .i64 b1)).setCell ⟨B + 1, 2, none⟩ (.int .i64 b2)).setCell ⟨B + 1, 3, none⟩ (.int .i64 b3)).setCell ⟨B + 1, 4, none⟩ (.int .i64 b4)).setCell ⟨B + 1, 5, none⟩ (.int .i64 b5)).setCell ⟨B + 1, 6, none⟩ (.int .i64 b6)) := ⟨_, rfl⟩
      obtain ⟨hs4, hg4⟩ := store7 hs3 b0 b1 b2 b3 b4 b5 b6 hw4
      rw [← hw4]
      have ht4 := (ht2.grown hg3 (by simp)).grown hg4 (by simp)
      have hb4 := (hb2.grown hg3 hsz2 (fun k hk => by cases hk)).grown hg4 (Nat.le_trans hsz2 hg3.size) (fun k hk => by cases hk; omega)
      have hsz4 : B ≤ w4.heap.size := Nat.le_trans hsz2 (Nat.le_trans hg3.size hg4.size)
      clear hw4 hs3 ht2 hb2 hg4 hg3 hg2 z0 z1 z2 z3 z4 z5 z6 x0 x1 x2 x3 x4 x5 x6 f0 f1 f2 f3 f4 f5 f6 hs2 hs1 ht1 hb1 hg1
      have hne : (binOp .neq 29 (.agg #[.int .i64 b0, .int .i64 b1, .int .i64 b2, .int .i64 b3, .int .i64 b4, .int .i64 b5, .int .i64 b6]) (.agg #[.int .i64 b0, .int .i64 b1, .int .i64 b2, .int .i64 b3, .int .i64 b4, .int .i64 b5, .int .i64 b6])) = (binOp .neq 29 (agg [b0, b1, b2, b3, b4, b5, b6]) (agg [b0, b1, b2, b3, b4, b5, b6])) := rfl
      have hnq : ∀ W : World, (binOp .neq 29 (.agg #[.int .i64 b0, .int .i64 b1, .int .i64 b2, .int .i64 b3, .int .i64 b4, .int .i64 b5, .int .i64 b6]) (.agg #[.int .i64 b0, .int .i64 b1, .int .i64 b2, .int .i64 b3, .int .i64 b4, .int .i64 b5, .int .i64 b6])).run Try.prog W = .ok (.bool false) W := fun W => by rw [hne]; exact neq_counts _ rfl W
      have hn0 : ∀ W : World, (binOp .neq 29 (.agg #[.int .i64 0, .int .i64 0, .int .i64 0, .int .i64 0, .int .i64 0, .int .i64 0, .int .i64 0]) (.agg #[.int .i64 0, .int .i64 0, .int .i64 0, .int .i64 0, .int .i64 0, .int .i64 0, .int .i64 0])).run Try.prog W = .ok (.bool false) W := fun W => neq_counts [0, 0, 0, 0, 0, 0, 0] rfl W
      clear hne
      refine wp_region_mix [(1, true, true), (0, false, true), (2, true, true), (3, true, true), (4, true, true), (6, true, true), (5, false, true), (7, true, true), (8, true, true)] (fun w' => SevenAt w' (B + 1) 29 [b0, b1, b2, b3, b4, b5, b6] ∧ TallyAt w' B [b0, b1, b2, b3, b4, b5, b6] ∧ Below B w w' ∧ B ≤ w'.heap.size) (by kernel_rfl) (by kernel_rfl) (⟨hs4, ht4, hb4.drew, hsz4⟩) ?_
      simp only [picked, List.filterMap_cons, List.filterMap_nil, List.getElem?_toArray, List.getElem?_cons_zero, List.getElem?_cons_succ, Option.map_some]
      repeat (refine mix_free (v := ?_) rfl ?_ ?_; rotate_left; (focus (intro w' hI; obtain ⟨d0, d1, d2, d3, d4, d5, d6⟩ := cells7 hI.1; go_simp; try with_reducible rfl)); simp only [Act.put, List.setIfInBounds_toArray, List.set_cons_zero, List.set_cons_succ])
      have ht5 : TallyAt w4.drew B [b0, b1, b2, b3, b4, b5, b6] := ht4
      refine mix_big rfl (fun K hK => ?_)
      go_wp2_with (go_at_call 14; go_loud (refine (all_any _ _ _ ht5).mono ?_; rintro e w5 ⟨rfl, hg5⟩))
      have hI5 : SevenAt w5 (B + 1) 29 [b0, b1, b2, b3, b4, b5, b6] ∧ TallyAt w5 B [b0, b1, b2, b3, b4, b5, b6] ∧ Below B w w5 ∧ B ≤ w5.heap.size := ⟨SevenAt.grown (w := w4.drew) hs4 hg5 (by simp), TallyAt.grown (w := w4.drew) ht4 hg5 (by simp), hb4.drew.grown hg5 hsz4 (fun k hk => by cases hk), Nat.le_trans hsz4 hg5.size⟩
      refine hK _ _ (fun _ => hI5) ?_
      clear hK K
      unfold agg vals
      simp only [List.map_cons, List.map_nil]
      repeat (refine mix_free (v := ?_) rfl ?_ ?_; rotate_left; (focus (intro w' hI; go_simp; try with_reducible rfl)); simp only [Act.put, List.setIfInBounds_toArray, List.set_cons_zero, List.set_cons_succ])
      refine mix_big rfl (fun K hK => ?_)
      go_wp2_with (go_at_call 14; go_loud (refine (all_nil _).mono ?_; rintro e w6 ⟨rfl, hg6⟩))
      obtain ⟨i1, i2, i3, i4⟩ := hI5
      have hI6 : SevenAt w6 (B + 1) 29 [b0, b1, b2, b3, b4, b5, b6] ∧ TallyAt w6 B [b0, b1, b2, b3, b4, b5, b6] ∧ Below B w w6 ∧ B ≤ w6.heap.size := ⟨i1.grown hg6 (by simp), i2.grown hg6 (by simp), i3.grown hg6 i4 (fun k hk => by cases hk), Nat.le_trans i4 hg6.size⟩
      refine hK _ _ (fun _ => hI6) ?_
      clear hK K
      unfold agg vals
      simp only [List.map_cons, List.map_nil]
      repeat (refine mix_free (v := ?_) rfl ?_ ?_; rotate_left; (focus (intro w' hI; go_simp; try with_reducible rfl)); simp only [Act.put, List.setIfInBounds_toArray, List.set_cons_zero, List.set_cons_succ])
      refine mix_nil ?_
      obtain ⟨g1, g2, g3, _⟩ := hI6
      go_wp2
      go_roundw
      case rel => exact ⟨j + 1, _, by omega, by omega, by go_num, g2, g1, g3⟩
      case measure => simp [intOf]; omega
    · have hex : zs.length ≤ j ∨ (j < zs.length ∧ 200 ≤ j) := by omega
      rcases hex with hex | ⟨hex1, hex2⟩
      all_goals (
        go_wp2_with (go_at_call 11; refine (awake_any _).mono ?_; rintro e w2 ⟨rfl, h2⟩)
        go_ret
        refine ⟨rfl, ?_⟩
        rw [hB]
        exact hb.trans (h2.mono hsz))
end Go.Proofs.Ytnkmefgmppkbeaa.sat
