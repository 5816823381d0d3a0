/- SatStops: never round, never back. -/
import Derived.Test.YtnkmefgmppkbeaaSatCount
namespace Go.Proofs.Ytnkmefgmppkbeaa.sat
open Go.RowKit
open Go.Proofs.Ytnkmefgmppkbeaa.stepkit Go.Proofs.Ytnkmefgmppkbeaa.mix Go.Proofs.Ytnkmefgmppkbeaa.row Go.Proofs.Ytnkmefgmppkbeaa.argkit

/-- All are nothing, but the k-th. -/
def lone (k : Nat) (m : Int) : List Int := [0, 0, 0, 0, 0, 0, 0].set k m
theorem lone_zero (k : Nat) (hk : k < 7) : lone k 0 = [0, 0, 0, 0, 0, 0, 0] := by
  unfold lone
  obtain rfl | rfl | rfl | rfl | rfl | rfl | rfl : k = 0 ∨ k = 1 ∨ k = 2 ∨ k = 3 ∨ k = 4 ∨ k = 5 ∨ k = 6 := by omega
  all_goals rfl
theorem lone_counted (k : Nat) (hk : k < 7) (m : Int) : counted (lone k m) (k : Int) = lone k (upOf m) := by
  unfold counted
  rw [if_pos (by omega)]
  simp [bump, lone, hk, List.getD]
theorem lone_sum (k : Nat) (hk : k < 7) (m : Int) : ∃ a0 a1 a2 a3 a4 a5 a6, lone k m = [a0, a1, a2, a3, a4, a5, a6] ∧ a0 + a1 + a2 + a3 + a4 + a5 + a6 = m := by
  unfold lone
  obtain rfl | rfl | rfl | rfl | rfl | rfl | rfl : k = 0 ∨ k = 1 ∨ k = 2 ∨ k = 3 ∨ k = 4 ∨ k = 5 ∨ k = 6 := by omega
  all_goals exact ⟨_, _, _, _, _, _, _, rfl, by omega⟩

theorem SevenAt.grown {w w' : World} {p t : Nat} {c : List Int} (h : SevenAt w p t c) {r : Option Nat} (hg : w.grownBy w' r) (hr : r ≠ some p) : SevenAt w' p t c :=
  ⟨h.1, by rw [hg.block p (lt_of_block h.2) (fun e => hr e.symm)]; exact h.2⟩

theorem cells7 {w : World} {p t : Nat} {a0 a1 a2 a3 a4 a5 a6 : Int} (h : SevenAt w p t [a0, a1, a2, a3, a4, a5, a6]) :
    w.cell? ⟨p, 0, none⟩ = some (.int .i64 a0) ∧ w.cell? ⟨p, 1, none⟩ = some (.int .i64 a1) ∧ w.cell? ⟨p, 2, none⟩ = some (.int .i64 a2) ∧ w.cell? ⟨p, 3, none⟩ = some (.int .i64 a3) ∧
      w.cell? ⟨p, 4, none⟩ = some (.int .i64 a4) ∧ w.cell? ⟨p, 5, none⟩ = some (.int .i64 a5) ∧ w.cell? ⟨p, 6, none⟩ = some (.int .i64 a6) := by
  obtain ⟨_, h⟩ := h
  simp [World.cell?, h, vals]
theorem free7 {w : World} {p t : Nat} {c : List Int} (h : SevenAt w p t c) :
    w.frozen? ⟨p, 0, none⟩ = false ∧ w.frozen? ⟨p, 1, none⟩ = false ∧ w.frozen? ⟨p, 2, none⟩ = false ∧ w.frozen? ⟨p, 3, none⟩ = false ∧
      w.frozen? ⟨p, 4, none⟩ = false ∧ w.frozen? ⟨p, 5, none⟩ = false ∧ w.frozen? ⟨p, 6, none⟩ = false := by
  obtain ⟨_, h⟩ := h
  simp [World.frozen?, h]
theorem store7 {w : World} {p t : Nat} {y0 y1 y2 y3 y4 y5 y6 : Int} (h : SevenAt w p t [y0, y1, y2, y3, y4, y5, y6]) (b0 b1 b2 b3 b4 b5 b6 : Int) {w' : World}
    (hw : w' = (((((((w.setCell ⟨p, 0, none⟩ (.int .i64 b0)).setCell ⟨p, 1, none⟩ (.int .i64 b1)).setCell ⟨p, 2, none⟩ (.int .i64 b2)).setCell ⟨p, 3, none⟩ (.int .i64 b3)).setCell ⟨p, 4, none⟩ (.int .i64 b4)).setCell ⟨p, 5, none⟩ (.int .i64 b5)).setCell ⟨p, 6, none⟩ (.int .i64 b6))) :
    SevenAt w' p t [b0, b1, b2, b3, b4, b5, b6] ∧ w.grownBy w' (some p) := by
  subst hw
  have h0 := heap_setCell_at h.2 0 (.int .i64 b0)
  have h1 := heap_setCell_at h0 1 (.int .i64 b1)
  have h2 := heap_setCell_at h1 2 (.int .i64 b2)
  have h3 := heap_setCell_at h2 3 (.int .i64 b3)
  have h4 := heap_setCell_at h3 4 (.int .i64 b4)
  have h5 := heap_setCell_at h4 5 (.int .i64 b5)
  have h6 := heap_setCell_at h5 6 (.int .i64 b6)
  refine ⟨⟨rfl, h6.trans (by simp [vals])⟩, ?_⟩
  exact grownBy_trans (grownBy_trans (grownBy_trans (grownBy_trans (grownBy_trans (grownBy_trans (grownBy_setCell _ _ _ _) (grownBy_setCell _ _ _ _)) (grownBy_setCell _ _ _ _)) (grownBy_setCell _ _ _ _)) (grownBy_setCell _ _ _ _)) (grownBy_setCell _ _ _ _)) (grownBy_setCell _ _ _ _)
theorem TallyAt.seven {w : World} {p : Nat} {c : List Int} (h : TallyAt w p c) : SevenAt w p 31 c := ⟨h.1, h.2.2⟩

attribute [irreducible] lone
attribute [local irreducible] counted

set_option maxHeartbeats 2000000 in
theorem stops_any (k n : Nat) (w : World) (hk : k ≤ 255) (hn : n ≤ 65535) :
    Calls Try.prog 6 #[.int .u8 (k : Int), .int .u16 (n : Int)] w fun e w' => e = .returned (.bool true) ∧ Below w.heap.size w w' := by
  obtain ⟨B, hB⟩ : ∃ B, w.heap.size = B := ⟨_, rfl⟩
  obtain ⟨N, hN⟩ : ∃ N, n % 1300 = N := ⟨_, rfl⟩
  obtain ⟨q, hq⟩ : ∃ q, k % 7 = q := ⟨_, rfl⟩
  have hN3 : N < 1300 := by omega
  have hq7 : q < 7 := by omega
  go_enter Try.func6, Try.ntmps6
  go_wp2_with fail
  go_loopw [7] (fun i wr => ∃ j : Nat, j ≤ N ∧ i = .int .i64 j ∧ TallyAt wr B (lone q (min j 1000)) ∧ (∃ c, SevenAt wr (B + 1) 29 c) ∧ Below B w wr) (fun i _ => N - (intOf i).toNat)
  case atStart =>
    have h0 : TallyAt (w.alloc (.cells #[.int .i64 0, .int .i64 0, .int .i64 0, .int .i64 0, .int .i64 0, .int .i64 0, .int .i64 0] 31)) w.heap.size [0, 0, 0, 0, 0, 0, 0] := ⟨rfl, by simp, heap_alloc_new _ _⟩
    have h1 := h0.grown (World.grownBy_alloc _ (.cells #[.int .i64 0, .int .i64 0, .int .i64 0, .int .i64 0, .int .i64 0, .int .i64 0, .int .i64 0] 29) none) (by simp)
    refine ⟨0, by omega, rfl, ?_, ⟨[0, 0, 0, 0, 0, 0, 0], rfl, ?_⟩, ?_⟩
    · have e0 : min ((0 : Nat) : Int) 1000 = 0 := by omega
      have e1 : lone q (min ((0 : Nat) : Int) 1000) = [0, 0, 0, 0, 0, 0, 0] := (congrArg (lone q) e0).trans (lone_zero q hq7)
      rw [e1]
      subst hB
      exact h1
    · subst hB; exact heap_alloc2_new _ _ _
    · subst hB; exact ((Below.refl _ _).alloc (Nat.le_refl _) _).alloc (by simp) _
  case round =>
    obtain ⟨j, hj, rfl, ht, ⟨c, hs⟩, hb⟩ := hrel
    have hsz : B ≤ wr.heap.size := by rw [← hB]; exact hb.size
    have hne : B ≠ B + 1 := by omega
    have hlen := ht.1
    by_cases hlt : j < N
    · obtain ⟨L, hL⟩ : ∃ L, lone q (min j 1000) = L := ⟨_, rfl⟩
      have hcnt : counted L (q : Int) = lone q (min ((j + 1 : Nat) : Int) 1000) := by
        rw [← hL, lone_counted q hq7, upOf_eq (by omega) (by omega)]
        have e3 : min (min (j : Int) 1000 + 1) 1000 = min ((j + 1 : Nat) : Int) 1000 := by omega
        rw [e3]
      rw [hL] at ht hlen
      clear hL
      obtain ⟨a0, a1, a2, a3, a4, a5, a6, rfl⟩ := seven hlen
      have hLb := ht.2.1
      have hlc : (counted [a0, a1, a2, a3, a4, a5, a6] (q : Int)).length = 7 := by rw [hcnt]; unfold lone; simp
      obtain ⟨b0, b1, b2, b3, b4, b5, b6, hcc⟩ := seven hlc
      have hfin : [b0, b1, b2, b3, b4, b5, b6] = lone q (min ((j + 1 : Nat) : Int) 1000) := by rw [← hcc, hcnt]
      have HF := Lib.hid hfin
      have HC := Lib.hid hcc
      clear hcnt hcc hfin hlc
      have hj7 : (j : Int) < (n : Int) % 1300 := by omega
      have hk7 : (k : Int) % 7 = q := by omega
      go_wp2_with first
        | (go_at_call 14; refine (all_any _ _ _ ht).mono ?_; rintro e w1 ⟨rfl, hg1⟩; unfold agg vals; simp only [List.map_cons, List.map_nil])
        | (go_at_call 12; go_loud (
            have ht1 := (ht.grown hg1 (by simp)).grown (World.grownBy_alloc w1 (.cells #[.int .i64 a0, .int .i64 a1, .int .i64 a2, .int .i64 a3, .int .i64 a4, .int .i64 a5, .int .i64 a6] 29) none) (by simp)
            have hx1 : SevenAt (w1.alloc (.cells #[.int .i64 a0, .int .i64 a1, .int .i64 a2, .int .i64 a3, .int .i64 a4, .int .i64 a5, .int .i64 a6] 29)) w1.heap.size 29 [a0, a1, a2, a3, a4, a5, a6] := ⟨rfl, heap_alloc_new _ _⟩
            have hs1 := (hs.grown hg1 (by simp)).grown (World.grownBy_alloc w1 (.cells #[.int .i64 a0, .int .i64 a1, .int .i64 a2, .int .i64 a3, .int .i64 a4, .int .i64 a5, .int .i64 a6] 29) none) (by simp)
            have hB1 : B < w1.heap.size := Nat.lt_of_lt_of_le (lt_of_block ht.2.2) hg1.size
            have hb1 := (hb.grown hg1 hsz (fun k hk => by cases hk)).alloc (by omega) (.cells #[.int .i64 a0, .int .i64 a1, .int .i64 a2, .int .i64 a3, .int .i64 a4, .int .i64 a5, .int .i64 a6] 29)
            rw [hk7]
            refine (count_any _ _ _ _ ht1 (by omega)).mono ?_
            rintro e w2 ⟨rfl, ht2, hg2⟩
            rw [HC.out] at ht2
            have hx2 := cells7 (hx1.grown hg2 (by simp; omega))
            have hs2 := hs1.grown hg2 (by simp)
            have hb2 := hb1.grown hg2 (by simp; omega) (fun k hk => by cases hk; exact Nat.le_refl _)
            obtain ⟨x0, x1, x2, x3, x4, x5, x6⟩ := hx2))
        | (go_at_call 13; go_loud (
            rw [hk7]
            refine (ref_count_list [a0, a1, a2, a3, a4, a5, a6] _ _ (by omega) rfl hLb).mono ?_
            rintro e w3 ⟨rfl, hg3⟩
            rw [HC.out]
            unfold agg vals; simp only [List.map_cons, List.map_nil]
            have hs3 := hs2.grown hg3 (by simp)
            have hfr := free7 hs3
            obtain ⟨f0, f1, f2, f3, f4, f5, f6⟩ := hfr
            obtain ⟨y0, y1, y2, y3, y4, y5, y6, rfl⟩ := seven hs3.1
            obtain ⟨z0, z1, z2, z3, z4, z5, z6⟩ := cells7 hs3))
      obtain ⟨w4, hw4⟩ : ∃ w4, w4 = (((((((w3.setCell ⟨B + 1, 0, none⟩ (.int .i64 b0)).setCell ⟨B + 1, 1, none⟩ (.int .i64 b1)).setCell ⟨B + 1, 2, none⟩ (.int .i64 b2)).setCell ⟨B + 1, 3, none⟩ (.int .i64 b3)).setCell ⟨B + 1, 4, none⟩ (.int .i64 b4)).setCell ⟨B + 1, 5, none⟩ (.int .i64 b5)).setCell ⟨B + 1, 6, none⟩ (.int .i64 b6)) := ⟨_, rfl⟩
      obtain ⟨hs4, hg4⟩ := store7 hs3 b0 b1 b2 b3 b4 b5 b6 hw4
      rw [← hw4]
      have hsz2 : B ≤ w2.heap.size := Nat.le_trans (by simp; omega) hg2.size
      have ht4 := (ht2.grown hg3 (by simp)).grown hg4 (by simp)
      have hb4 := (hb2.grown hg3 hsz2 (fun k hk => by cases hk)).grown hg4 (Nat.le_trans hsz2 hg3.size) (fun k hk => by cases hk; omega)
      have hsz4 : B ≤ w4.heap.size := Nat.le_trans hsz2 (Nat.le_trans hg3.size hg4.size)
      clear hw4 hs3 ht2 hb2 hg4 hg3 hg2 z0 z1 z2 z3 z4 z5 z6 x0 x1 x2 x3 x4 x5 x6 f0 f1 f2 f3 f4 f5 f6 hs2 hs1 ht1 hx1 hb1 hg1
      have hne : (binOp .neq 29 (.agg #[.int .i64 b0, .int .i64 b1, .int .i64 b2, .int .i64 b3, .int .i64 b4, .int .i64 b5, .int .i64 b6]) (.agg #[.int .i64 b0, .int .i64 b1, .int .i64 b2, .int .i64 b3, .int .i64 b4, .int .i64 b5, .int .i64 b6])) = (binOp .neq 29 (agg [b0, b1, b2, b3, b4, b5, b6]) (agg [b0, b1, b2, b3, b4, b5, b6])) := rfl
      have hnq : ∀ W : World, (binOp .neq 29 (.agg #[.int .i64 b0, .int .i64 b1, .int .i64 b2, .int .i64 b3, .int .i64 b4, .int .i64 b5, .int .i64 b6]) (.agg #[.int .i64 b0, .int .i64 b1, .int .i64 b2, .int .i64 b3, .int .i64 b4, .int .i64 b5, .int .i64 b6])).run Try.prog W = .ok (.bool false) W := fun W => by rw [hne]; exact neq_counts _ rfl W
      clear hne
      refine wp_region_mix [(1, true, true), (0, false, true), (2, true, true)] (fun w' => SevenAt w' (B + 1) 29 [b0, b1, b2, b3, b4, b5, b6] ∧ TallyAt w' B [b0, b1, b2, b3, b4, b5, b6] ∧ Below B w w' ∧ B ≤ w'.heap.size) (by kernel_rfl) (by kernel_rfl) (⟨hs4, ht4, hb4.drew, hsz4⟩) ?_
      simp only [picked, List.filterMap_cons, List.filterMap_nil, List.getElem?_toArray, List.getElem?_cons_zero, List.getElem?_cons_succ, Option.map_some]
      repeat (refine mix_free (v := ?_) rfl ?_ ?_; rotate_left; (focus (intro w' hI; obtain ⟨d0, d1, d2, d3, d4, d5, d6⟩ := cells7 hI.1; go_simp; try with_reducible rfl)); simp only [Act.put, List.setIfInBounds_toArray, List.set_cons_zero, List.set_cons_succ])
      have ht5 : TallyAt w4.drew B [b0, b1, b2, b3, b4, b5, b6] := ht4
      refine mix_big rfl (fun K hK => ?_)
      go_wp2_with (go_at_call 14; go_loud (refine (all_any _ _ _ ht5).mono ?_; rintro e w5 ⟨rfl, hg5⟩))
      have hI5 : SevenAt w5 (B + 1) 29 [b0, b1, b2, b3, b4, b5, b6] ∧ TallyAt w5 B [b0, b1, b2, b3, b4, b5, b6] ∧ Below B w w5 ∧ B ≤ w5.heap.size := ⟨SevenAt.grown (w := w4.drew) hs4 hg5 (by simp), TallyAt.grown (w := w4.drew) ht4 hg5 (by simp), hb4.drew.grown hg5 hsz4 (fun k hk => by cases hk), Nat.le_trans hsz4 hg5.size⟩
      refine hK _ _ (fun _ => hI5) ?_
      clear hK K
      unfold agg vals
      simp only [List.map_cons, List.map_nil]
      repeat (refine mix_free (v := ?_) rfl ?_ ?_; rotate_left; (focus (intro w' hI; go_simp; try with_reducible rfl)); simp only [Act.put, List.setIfInBounds_toArray, List.set_cons_zero, List.set_cons_succ])
      refine mix_nil ?_
      rw [HF.out] at hI5
      obtain ⟨g1, g2, g3, _⟩ := hI5
      go_wp2
      go_roundw
      case rel => exact ⟨j + 1, by omega, by go_num, g2, ⟨_, g1⟩, g3⟩
      case measure => simp [intOf]; omega
    · have hjN : j = N := by omega
      obtain ⟨a0, a1, a2, a3, a4, a5, a6, hL, hsum⟩ := lone_sum q hq7 (min j 1000)
      rw [hL] at ht hlen
      have hLb := ht.2.1
      have p0 := hLb a0 (by simp)
      have p1 := hLb a1 (by simp)
      have p2 := hLb a2 (by simp)
      have p3 := hLb a3 (by simp)
      have p4 := hLb a4 (by simp)
      have p5 := hLb a5 (by simp)
      have p6 := hLb a6 (by simp)
      clear hL hLb
      have hj7 : ¬ (j : Int) < (n : Int) % 1300 := by omega
      have hmin : a0 + a1 + a2 + a3 + a4 + a5 + a6 = min ((n : Int) % 1300) 1000 := by omega
      go_wp2_with first
        | (go_at_call 14; refine (all_any _ _ _ ht).mono ?_; rintro e w1 ⟨rfl, hg1⟩; unfold agg vals; simp only [List.map_cons, List.map_nil])
        | (go_at_call 11; refine (awake_any _).mono ?_; rintro e w2 ⟨rfl, h2⟩)
      all_goals (
        go_ret
        refine ⟨rfl, ?_⟩
        rw [hB]
        have hsz1 : B ≤ w1.heap.size := Nat.le_trans hsz hg1.size
        exact (((hb.grown hg1 hsz (fun k hk => by cases hk)).alloc hsz1 _).trans (h2.mono (by simp; omega))))
end Go.Proofs.Ytnkmefgmppkbeaa.sat
