/- NetPlays: whatever is put, doubled, delivered. -/
import Derived.Test.YtjjapnphljhicaaNetBoth
import Derived.Test.YtjjapnphljhicaaFlatKit
namespace Go.Proofs.Ytjjapnphljhicaa.net
open Go.RowKit
open Go.Proofs.Ytjjapnphljhicaa.stepkit Go.Proofs.Ytjjapnphljhicaa.row Go.Proofs.Ytjjapnphljhicaa.mix Go.Proofs.Ytjjapnphljhicaa.obj Go.Proofs.Ytjjapnphljhicaa.eqkit Go.Proofs.Ytjjapnphljhicaa.argkit

def actKinds : List TypeDesc := [.int .i64, .int .i64, .int .i64, .string, .int .i64]

theorem act_row {r : List Value} (h : Fits actKinds r) : ∃ (k f t n : Int) (b : ByteArray), r = [.int .i64 k, .int .i64 f, .int .i64 t, .string b, .int .i64 n] ∧ (Lit.int .i64 k).wf = true ∧ (Lit.int .i64 n).wf = true := by
  obtain ⟨_, r1, rfl, ⟨k, rfl, hk⟩, h1⟩ := h.cons
  obtain ⟨_, r2, rfl, ⟨f, rfl, _⟩, h2⟩ := h1.cons
  obtain ⟨_, r3, rfl, ⟨t, rfl, _⟩, h3⟩ := h2.cons
  obtain ⟨_, r4, rfl, ⟨b, rfl, _⟩, h4⟩ := h3.cons
  obtain ⟨_, r5, rfl, ⟨n, rfl, hn⟩, h5⟩ := h4.cons
  obtain rfl := h5.nil
  exact ⟨k, f, t, n, b, rfl, hk, hn⟩

/-- At a round's head. -/
def Pair (B : Nat) (w0 : World) (l : List Pc) (lost : Int) (w : World) : Prop := ∃ F G, Duo B w0 (NetAt B l lost) (RefAt (B + 1) l lost) F G w

theorem pair_start {w w1 : World} (h : w1 = w.alloc (.cells #[.slice none 0 0, .int .i64 0, .bool true] 52)) : Pair w.heap.size w [] 0 (w1.alloc (.cells #[.slice none 0 0, .int .i64 0] 41)) := by
  have hz1 : w1.heap.size = w.heap.size + 1 := by rw [h]; simp
  obtain ⟨F, hd⟩ := duo_new h
  have hr : RefAt w1.heap.size [] 0 (fun i => i = w1.heap.size ∨ blk (.slice none 0 0) i) (w1.alloc (.cells #[.slice none 0 0, .int .i64 0] 41)) := Box1.fresh (mk := fun v => #[v, .int .i64 0])
  have hlt := ((local_net _ _ _) F w1 hd.a).1
  rw [hz1] at hr
  refine ⟨F, _, (local_net _ _ _).keep hd.a ((Turns.refl nobody _).alloc _) (fun _ _ h => h), hr, fun i hi hg => ?_, hd.fnew, fun i hi => ?_, hd.below.alloc hd.size _, by simp; omega⟩
  · have := hlt i hi
    rcases hg with rfl | hg
    · omega
    · cases hg
  · rcases hi with rfl | hi
    · omega
    · cases hi

set_option maxRecDepth 20000 in
set_option maxHeartbeats 4000000 in
theorem plays_any (ao : Option Addr) (rows : List (List Value)) (cap : Nat) (w : World) (hcap : rows.length ≤ maxLen) (hrow : RowsAt w w.heap.size 5 ao rows) (hfit : ∀ r ∈ rows, Fits actKinds r) :
    Calls Try.prog 5 #[.slice ao rows.length cap] w fun e w' => e = .returned (.bool true) ∧ Below w.heap.size w w' := by
  unfold maxLen at hcap
  obtain ⟨B, hB⟩ : ∃ B, w.heap.size = B := ⟨_, rfl⟩
  rw [hB] at hrow ⊢
  go_enter Try.func5, Try.ntmps5
  go_wp2_with (go_at_call 7; refine (new_any _).mono ?_; rintro e w1 ⟨rfl, hw1⟩; have hp := pair_start hw1; have hz1 : w1.heap.size = B + 1 := (by rw [hw1]; simp [hB]); rw [hB] at hp ⊢; have HP := Lib.hid hp; clear hp hw1 hB)
  clear hz1
  go_loopw [5] (fun i wr => ∃ (j : Nat) (l : List Pc) (lost : Int), j ≤ rows.length ∧ j ≤ 60 ∧ i = .int .i64 j ∧ Ok l lost ∧ Pair B w l lost wr) (fun i _ => 60 - (intOf i).toNat)
  case atStart => exact ⟨0, [], 0, by omega, by omega, rfl, ⟨by simp, by omega, by omega⟩, HP.out⟩
  case round =>
    obtain ⟨j, l, lost, hj, hj60, rfl, hok, F, G, hd⟩ := hrel
    by_cases hlt : j < rows.length ∧ j < 60
    · obtain ⟨h1, h2⟩ := hlt
      obtain ⟨bb, oo, rfl, hbb, hcell⟩ := hrow (by omega)
      have hmem : rows.getD j [] ∈ rows := by rw [List.getD, List.getElem?_eq_getElem h1]; exact List.getElem_mem _
      obtain ⟨k, f, t, n, b, hr, hk, hn⟩ := act_row (hfit _ hmem)
      have gg : ∀ W, Below B w W → W.cell? ⟨bb, oo + j * 5, none⟩ = some (.int .i64 k) ∧ W.cell? ⟨bb, oo + j * 5 + 1, none⟩ = some (.int .i64 f) ∧ W.cell? ⟨bb, oo + j * 5 + 2, none⟩ = some (.int .i64 t) ∧ W.cell? ⟨bb, oo + j * 5 + 3, none⟩ = some (.string b) ∧ W.cell? ⟨bb, oo + j * 5 + 4, none⟩ = some (.int .i64 n) := fun W hW => by
        have hc := fun (i : Nat) (hi : i < 5) => (hW.cell (p := ⟨bb, oo + j * 5 + i, none⟩) hbb).trans (hcell j h1 i hi)
        rw [hr] at hc
        exact ⟨hc 0 (by omega), hc 1 (by omega), hc 2 (by omega), hc 3 (by omega), hc 4 (by omega)⟩
      have HG := Lib.hid gg
      obtain ⟨d0, d1, d2, d3, d4⟩ := gg _ hd.below
      clear gg hr hmem hcell hrow
      have hkk : (k = 0 ∨ k = 1) ∨ k = 2 ∨ (¬ k = 0 ∧ ¬ k = 1 ∧ ¬ k = 2) := by omega
      rcases hkk with hkk | rfl | ⟨n0, n1, n2⟩
      · rcases hkk with rfl | rfl
        all_goals
          obtain ⟨z, l', lost', hok', hn, hr⟩ := put_both B (B + 1) l lost hok ⟨f, t, b⟩
          simp only [Pc.val] at hn hr
          go_wp2
          refine wp_region_mix [(0, true, true), (1, true, true), (2, true, true), (3, true, true), (4, true, true), (5, true, true), (7, true, true), (8, true, true), (9, true, true), (10, true, true), (11, true, true), (12, true, true), (6, false, true), (13, false, true), (14, true, true), (15, true, true)] (fun W => Below B w W) (by kernel_rfl) (by kernel_rfl) (hd.below.drew) ?_
          simp only [picked, List.filterMap_cons, List.filterMap_nil, List.getElem?_toArray, List.getElem?_cons_zero, List.getElem?_cons_succ, Option.map_some]
          repeat (refine mix_free (v := ?_) rfl ?_ ?_; rotate_left; (focus (intro w' hI; obtain ⟨d0, d1, d2, d3, d4⟩ := HG.out _ hI; clear hI; go_simp; try with_reducible rfl)); simp only [Act.put, List.setIfInBounds_toArray, List.set_cons_zero, List.set_cons_succ])
          replace hd := hd.still (local_net _ _ _) (local_ref _ _ _) ((Turns.refl nobody _).drew)
          refine mix_big rfl (fun K hK => ?_)
          go_wp2_with (go_at_call 9; refine (hn _ _ hd.a).mono ?_; rintro e w2 ⟨rfl, hs⟩)
          obtain ⟨F2, hd2⟩ := hd.left (local_ref _ _ _) hs
          refine hK _ _ (fun _ => hd2.below) ?_
          clear hK K hs hd
          refine mix_big rfl (fun K hK => ?_)
          go_wp2_with (go_at_call 14; refine (hr _ _ hd2.c).mono ?_; rintro e wt ⟨rfl, hs⟩)
          obtain ⟨G2, hd⟩ := hd2.right (local_net _ _ _) hs
          refine hK _ _ (fun _ => hd.below) ?_
          clear hK K hs hd2 hn hr d0 d1 d2 d3 d4
          repeat (refine mix_free (v := ?_) rfl ?_ ?_; rotate_left; (focus (intro w' hI; go_simp; try with_reducible rfl)); simp only [Act.put, List.setIfInBounds_toArray, List.set_cons_zero, List.set_cons_succ])
          refine mix_nil ?_
          go_wp2
          obtain ⟨rv, hrp, hrs, _, _⟩ := hd.c
          obtain ⟨rao, rcap, rfl, _⟩ := hrs.shape
          have HRP := Lib.hid hrp
          have HRS := Lib.hid hrs
          clear hrs hrp
          refine wp_region_mix [(0, true, true), (1, true, true), (2, true, true), (3, true, true), (5, true, true), (6, true, true), (7, true, true), (8, true, true), (4, false, true), (9, false, true), (10, true, true), (11, true, true), (12, true, true), (13, true, true), (15, true, true), (16, true, true), (17, true, true), (18, true, true), (19, true, true), (14, false, true), (20, true, true), (21, true, true), (22, true, true), (23, true, true), (25, true, true), (26, true, true), (27, true, true), (28, true, true), (24, false, true), (29, true, true), (30, true, true)] (fun W => W.heap[B + 1]? = some (.cells #[.slice rao l'.length rcap, .int .i64 lost'] 41 (0, 0))) (by kernel_rfl) (by kernel_rfl) (HRP.out) ?_
          simp only [picked, List.filterMap_cons, List.filterMap_nil, List.getElem?_toArray, List.getElem?_cons_zero, List.getElem?_cons_succ, Option.map_some]
          obtain ⟨W0, hW0⟩ : ∃ W0, W0 = wt.drew := ⟨_, rfl⟩
          rw [← hW0]
          have ht0 : Turns nobody wt W0 := by rw [hW0]; exact (Turns.refl _ _).drew
          have hd0 := hd.still (local_net _ _ _) (local_ref _ _ _) ht0
          have hp0 := heap_newer HRP.out ht0 (fun h => h)
          have HS0 : Hid (PSl W0 _ l') := Lib.hid (HRS.out.keep ht0 (fun _ _ h => h))
          clear hW0 ht0 hd
          have HP0 := Lib.hid hp0
          clear hp0
          repeat (refine mix_free (v := ?_) rfl ?_ ?_; rotate_left; (focus (intro w' hI; have e0 := cells_of hI 0 _ rfl; have e1 := cells_of hI 1 _ rfl; clear hI; go_simp; try with_reducible rfl)); simp only [Act.put, List.setIfInBounds_toArray, List.set_cons_zero, List.set_cons_succ])
          refine mix_big rfl (fun K hK => ?_)
          go_wp2_with (go_at_call 18; refine (all_any _ _ _ _ _ hd0.a hok'.1).mono ?_; rintro e w5 ⟨v5, rfl, s5, t5, _⟩)
          have hd5 := hd0.still (local_net _ _ _) (local_ref _ _ _) t5
          have HP5 := Lib.hid (heap_newer HP0.out t5 (fun h => h))
          refine hK _ _ (fun _ => HP5.out) ?_
          clear hK K
          have hb5 : PSl w5 _ l' := Sl.keep HS0.out t5 (fun _ _ h => h)
          refine mix_big rfl (fun K hK => ?_)
          go_wp2_with (go_at_call 17; refine (same_any _ _ l' _ s5 hb5 hok'.1).mono ?_; rintro e w6 ⟨rfl, hw6⟩)
          have t6 : Turns nobody w5 w6 := Turns.drawn hw6
          have hd6 := hd5.still (local_net _ _ _) (local_ref _ _ _) t6
          have HP6 := Lib.hid (heap_newer HP5.out t6 (fun h => h))
          refine hK _ _ (fun _ => HP6.out) ?_
          clear hK K s5 hb5 t5 t6 hw6 hd5 hd0
          repeat (refine mix_free (v := ?_) rfl ?_ ?_; rotate_left; (focus (intro w' hI; have e0 := cells_of hI 0 _ rfl; have e1 := cells_of hI 1 _ rfl; clear hI; go_simp; try with_reducible rfl)); simp only [Act.put, List.setIfInBounds_toArray, List.set_cons_zero, List.set_cons_succ])
          refine mix_big rfl (fun K hK => ?_)
          go_wp2_with (go_at_call 11; refine (len_any _ _ _ _ _ hd6.a).mono ?_; rintro e w7 ⟨rfl, rfl⟩)
          refine hK _ _ (fun _ => HP6.out) ?_
          clear hK K
          repeat (refine mix_free (v := ?_) rfl ?_ ?_; rotate_left; (focus (intro w' hI; have e0 := cells_of hI 0 _ rfl; have e1 := cells_of hI 1 _ rfl; clear hI; go_simp; try with_reducible rfl)); simp only [Act.put, List.setIfInBounds_toArray, List.set_cons_zero, List.set_cons_succ])
          refine mix_big rfl (fun K hK => ?_)
          go_wp2_with (go_at_call 12; refine (lost_any _ _ _ _ _ hd6.a).mono ?_; rintro e w7 ⟨rfl, rfl⟩)
          refine hK _ _ (fun _ => HP6.out) ?_
          clear hK K
          repeat (refine mix_free (v := ?_) rfl ?_ ?_; rotate_left; (focus (intro w' hI; go_simp; try with_reducible rfl)); simp only [Act.put, List.setIfInBounds_toArray, List.set_cons_zero, List.set_cons_succ])
          refine mix_nil ?_
          go_wp2
          go_roundw
          case rel => exact ⟨j + 1, l', lost', by omega, by omega, by go_num, hok', _, _, hd6⟩
          case measure => simp [intOf]; omega
      · obtain ⟨z, l', lost', hok', hn, hr⟩ := double_both B (B + 1) l lost hok n
        go_wp2
        refine wp_region_mix [(0, true, true), (1, true, true), (2, true, true), (3, true, true), (4, true, true), (5, true, true), (7, true, true), (8, true, true), (9, true, true), (10, true, true), (11, true, true), (12, true, true), (6, false, true), (13, false, true), (14, true, true), (15, true, true)] (fun W => Below B w W) (by kernel_rfl) (by kernel_rfl) (hd.below.drew) ?_
        simp only [picked, List.filterMap_cons, List.filterMap_nil, List.getElem?_toArray, List.getElem?_cons_zero, List.getElem?_cons_succ, Option.map_some]
        repeat (refine mix_free (v := ?_) rfl ?_ ?_; rotate_left; (focus (intro w' hI; obtain ⟨d0, d1, d2, d3, d4⟩ := HG.out _ hI; clear hI; go_simp; try with_reducible rfl)); simp only [Act.put, List.setIfInBounds_toArray, List.set_cons_zero, List.set_cons_succ])
        replace hd := hd.still (local_net _ _ _) (local_ref _ _ _) ((Turns.refl nobody _).drew)
        refine mix_big rfl (fun K hK => ?_)
        go_wp2_with (go_at_call 13; refine (hn _ _ hd.a).mono ?_; rintro e w2 ⟨rfl, hs⟩)
        obtain ⟨F2, hd2⟩ := hd.left (local_ref _ _ _) hs
        refine hK _ _ (fun _ => hd2.below) ?_
        clear hK K hs hd
        refine mix_big rfl (fun K hK => ?_)
        go_wp2_with (go_at_call 15; refine (hr _ _ hd2.c).mono ?_; rintro e wt ⟨rfl, hs⟩)
        obtain ⟨G2, hd⟩ := hd2.right (local_net _ _ _) hs
        refine hK _ _ (fun _ => hd.below) ?_
        clear hK K hs hd2 hn hr d0 d1 d2 d3 d4
        repeat (refine mix_free (v := ?_) rfl ?_ ?_; rotate_left; (focus (intro w' hI; go_simp; try with_reducible rfl)); simp only [Act.put, List.setIfInBounds_toArray, List.set_cons_zero, List.set_cons_succ])
        refine mix_nil ?_
        go_wp2
        obtain ⟨rv, hrp, hrs, _, _⟩ := hd.c
        obtain ⟨rao, rcap, rfl, _⟩ := hrs.shape
        have HRP := Lib.hid hrp
        have HRS := Lib.hid hrs
        clear hrs hrp
        refine wp_region_mix [(0, true, true), (1, true, true), (2, true, true), (3, true, true), (5, true, true), (6, true, true), (7, true, true), (8, true, true), (4, false, true), (9, false, true), (10, true, true), (11, true, true), (12, true, true), (13, true, true), (15, true, true), (16, true, true), (17, true, true), (18, true, true), (19, true, true), (14, false, true), (20, true, true), (21, true, true), (22, true, true), (23, true, true), (25, true, true), (26, true, true), (27, true, true), (28, true, true), (24, false, true), (29, true, true), (30, true, true)] (fun W => W.heap[B + 1]? = some (.cells #[.slice rao l'.length rcap, .int .i64 lost'] 41 (0, 0))) (by kernel_rfl) (by kernel_rfl) (HRP.out) ?_
        simp only [picked, List.filterMap_cons, List.filterMap_nil, List.getElem?_toArray, List.getElem?_cons_zero, List.getElem?_cons_succ, Option.map_some]
        obtain ⟨W0, hW0⟩ : ∃ W0, W0 = wt.drew := ⟨_, rfl⟩
        rw [← hW0]
        have ht0 : Turns nobody wt W0 := by rw [hW0]; exact (Turns.refl _ _).drew
        have hd0 := hd.still (local_net _ _ _) (local_ref _ _ _) ht0
        have hp0 := heap_newer HRP.out ht0 (fun h => h)
        have HS0 : Hid (PSl W0 _ l') := Lib.hid (HRS.out.keep ht0 (fun _ _ h => h))
        clear hW0 ht0 hd
        have HP0 := Lib.hid hp0
        clear hp0
        repeat (refine mix_free (v := ?_) rfl ?_ ?_; rotate_left; (focus (intro w' hI; have e0 := cells_of hI 0 _ rfl; have e1 := cells_of hI 1 _ rfl; clear hI; go_simp; try with_reducible rfl)); simp only [Act.put, List.setIfInBounds_toArray, List.set_cons_zero, List.set_cons_succ])
        refine mix_big rfl (fun K hK => ?_)
        go_wp2_with (go_at_call 18; refine (all_any _ _ _ _ _ hd0.a hok'.1).mono ?_; rintro e w5 ⟨v5, rfl, s5, t5, _⟩)
        have hd5 := hd0.still (local_net _ _ _) (local_ref _ _ _) t5
        have HP5 := Lib.hid (heap_newer HP0.out t5 (fun h => h))
        refine hK _ _ (fun _ => HP5.out) ?_
        clear hK K
        have hb5 : PSl w5 _ l' := Sl.keep HS0.out t5 (fun _ _ h => h)
        refine mix_big rfl (fun K hK => ?_)
        go_wp2_with (go_at_call 17; refine (same_any _ _ l' _ s5 hb5 hok'.1).mono ?_; rintro e w6 ⟨rfl, hw6⟩)
        have t6 : Turns nobody w5 w6 := Turns.drawn hw6
        have hd6 := hd5.still (local_net _ _ _) (local_ref _ _ _) t6
        have HP6 := Lib.hid (heap_newer HP5.out t6 (fun h => h))
        refine hK _ _ (fun _ => HP6.out) ?_
        clear hK K s5 hb5 t5 t6 hw6 hd5 hd0
        repeat (refine mix_free (v := ?_) rfl ?_ ?_; rotate_left; (focus (intro w' hI; have e0 := cells_of hI 0 _ rfl; have e1 := cells_of hI 1 _ rfl; clear hI; go_simp; try with_reducible rfl)); simp only [Act.put, List.setIfInBounds_toArray, List.set_cons_zero, List.set_cons_succ])
        refine mix_big rfl (fun K hK => ?_)
        go_wp2_with (go_at_call 11; refine (len_any _ _ _ _ _ hd6.a).mono ?_; rintro e w7 ⟨rfl, rfl⟩)
        refine hK _ _ (fun _ => HP6.out) ?_
        clear hK K
        repeat (refine mix_free (v := ?_) rfl ?_ ?_; rotate_left; (focus (intro w' hI; have e0 := cells_of hI 0 _ rfl; have e1 := cells_of hI 1 _ rfl; clear hI; go_simp; try with_reducible rfl)); simp only [Act.put, List.setIfInBounds_toArray, List.set_cons_zero, List.set_cons_succ])
        refine mix_big rfl (fun K hK => ?_)
        go_wp2_with (go_at_call 12; refine (lost_any _ _ _ _ _ hd6.a).mono ?_; rintro e w7 ⟨rfl, rfl⟩)
        refine hK _ _ (fun _ => HP6.out) ?_
        clear hK K
        repeat (refine mix_free (v := ?_) rfl ?_ ?_; rotate_left; (focus (intro w' hI; go_simp; try with_reducible rfl)); simp only [Act.put, List.setIfInBounds_toArray, List.set_cons_zero, List.set_cons_succ])
        refine mix_nil ?_
        go_wp2
        go_roundw
        case rel => exact ⟨j + 1, l', lost', by omega, by omega, by go_num, hok', _, _, hd6⟩
        case measure => simp [intOf]; omega
      · obtain ⟨x, z, l', lost', hok', hn, hr⟩ := deliver_both B (B + 1) l lost hok n
        have he := fun w => (eq_pc x w).2
        simp only [Pc.val] at hn hr he
        have m1 : (k == 0) = false := by simpa using n0
        have m2 : (k == 1) = false := by simpa using n1
        have m3 : (k == 2) = false := by simpa using n2
        go_wp2_with (go_at_call 10; refine (hn _ _ hd.a).mono ?_; rintro e w2 ⟨rfl, hs⟩; obtain ⟨F2, hd2⟩ := hd.left (local_ref _ _ _) hs; clear d0 d1 d2 d3 d4; obtain ⟨d0, d1, d2, d3, d4⟩ := HG.out _ hd2.below; have hbw : bb < w2.heap.size := (by have := hd2.size; omega); clear hs hd)
        have hG := ((local_ref _ _ _) _ _ hd2.c).1
        have hx2 := heap_alloc_new w2 (.cells #[.int .i64 x.f, .int .i64 x.t, .string x.b] 30)
        have hd3 := hd2.still (local_net _ _ _) (local_ref _ _ _) ((Turns.refl nobody _).alloc (.cells #[.int .i64 x.f, .int .i64 x.t, .string x.b] 30))
        refine (hr _ _ hd3.c).mono ?_
        rintro e w4 ⟨rfl, hs⟩
        have hx4 := heap_newer hx2 hs.turned (fun hg => by have := hG _ hg; omega)
        obtain ⟨G2, hd4⟩ := hd3.right (local_net _ _ _) hs
        clear hx2 hd3 hs hd2 hG d0 d1 d2 d3 d4 hn hr m1 m2 m3 n0 n1 n2
        have x0 := cells_of hx4 0 _ rfl
        have x1 := cells_of hx4 1 _ rfl
        have x2 := cells_of hx4 2 _ rfl
        have hb4 := lt_of_block hx4
        go_wp2_with fail
        clear hb4
        have hd := hd4.still (local_net _ _ _) (local_ref _ _ _) ((Turns.refl nobody _).alloc (.cells #[.int .i64 x.f, .int .i64 x.t, .string x.b] 30))
        obtain ⟨wt, hwt⟩ : ∃ wt, wt = w4.alloc (.cells #[.int .i64 x.f, .int .i64 x.t, .string x.b] 30) := ⟨_, rfl⟩
        rw [← hwt] at hd ⊢
        clear hwt hd4 x0 x1 x2 hx4 he
        obtain ⟨rv, hrp, hrs, _, _⟩ := hd.c
        obtain ⟨rao, rcap, rfl, _⟩ := hrs.shape
        have HRP := Lib.hid hrp
        have HRS := Lib.hid hrs
        clear hrs hrp
        refine wp_region_mix [(0, true, true), (1, true, true), (2, true, true), (3, true, true), (5, true, true), (6, true, true), (7, true, true), (8, true, true), (4, false, true), (9, false, true), (10, true, true), (11, true, true), (12, true, true), (13, true, true), (15, true, true), (16, true, true), (17, true, true), (18, true, true), (19, true, true), (14, false, true), (20, true, true), (21, true, true), (22, true, true), (23, true, true), (25, true, true), (26, true, true), (27, true, true), (28, true, true), (24, false, true), (29, true, true), (30, true, true)] (fun W => W.heap[B + 1]? = some (.cells #[.slice rao l'.length rcap, .int .i64 lost'] 41 (0, 0))) (by kernel_rfl) (by kernel_rfl) (HRP.out) ?_
        simp only [picked, List.filterMap_cons, List.filterMap_nil, List.getElem?_toArray, List.getElem?_cons_zero, List.getElem?_cons_succ, Option.map_some]
        obtain ⟨W0, hW0⟩ : ∃ W0, W0 = wt.drew := ⟨_, rfl⟩
        rw [← hW0]
        have ht0 : Turns nobody wt W0 := by rw [hW0]; exact (Turns.refl _ _).drew
        have hd0 := hd.still (local_net _ _ _) (local_ref _ _ _) ht0
        have hp0 := heap_newer HRP.out ht0 (fun h => h)
        have HS0 : Hid (PSl W0 _ l') := Lib.hid (HRS.out.keep ht0 (fun _ _ h => h))
        clear hW0 ht0 hd
        have HP0 := Lib.hid hp0
        clear hp0
        repeat (refine mix_free (v := ?_) rfl ?_ ?_; rotate_left; (focus (intro w' hI; have e0 := cells_of hI 0 _ rfl; have e1 := cells_of hI 1 _ rfl; clear hI; go_simp; try with_reducible rfl)); simp only [Act.put, List.setIfInBounds_toArray, List.set_cons_zero, List.set_cons_succ])
        refine mix_big rfl (fun K hK => ?_)
        go_wp2_with (go_at_call 18; refine (all_any _ _ _ _ _ hd0.a hok'.1).mono ?_; rintro e w5 ⟨v5, rfl, s5, t5, _⟩)
        have hd5 := hd0.still (local_net _ _ _) (local_ref _ _ _) t5
        have HP5 := Lib.hid (heap_newer HP0.out t5 (fun h => h))
        refine hK _ _ (fun _ => HP5.out) ?_
        clear hK K
        have hb5 : PSl w5 _ l' := Sl.keep HS0.out t5 (fun _ _ h => h)
        refine mix_big rfl (fun K hK => ?_)
        go_wp2_with (go_at_call 17; refine (same_any _ _ l' _ s5 hb5 hok'.1).mono ?_; rintro e w6 ⟨rfl, hw6⟩)
        have t6 : Turns nobody w5 w6 := Turns.drawn hw6
        have hd6 := hd5.still (local_net _ _ _) (local_ref _ _ _) t6
        have HP6 := Lib.hid (heap_newer HP5.out t6 (fun h => h))
        refine hK _ _ (fun _ => HP6.out) ?_
        clear hK K s5 hb5 t5 t6 hw6 hd5 hd0
        repeat (refine mix_free (v := ?_) rfl ?_ ?_; rotate_left; (focus (intro w' hI; have e0 := cells_of hI 0 _ rfl; have e1 := cells_of hI 1 _ rfl; clear hI; go_simp; try with_reducible rfl)); simp only [Act.put, List.setIfInBounds_toArray, List.set_cons_zero, List.set_cons_succ])
        refine mix_big rfl (fun K hK => ?_)
        go_wp2_with (go_at_call 11; refine (len_any _ _ _ _ _ hd6.a).mono ?_; rintro e w7 ⟨rfl, rfl⟩)
        refine hK _ _ (fun _ => HP6.out) ?_
        clear hK K
        repeat (refine mix_free (v := ?_) rfl ?_ ?_; rotate_left; (focus (intro w' hI; have e0 := cells_of hI 0 _ rfl; have e1 := cells_of hI 1 _ rfl; clear hI; go_simp; try with_reducible rfl)); simp only [Act.put, List.setIfInBounds_toArray, List.set_cons_zero, List.set_cons_succ])
        refine mix_big rfl (fun K hK => ?_)
        go_wp2_with (go_at_call 12; refine (lost_any _ _ _ _ _ hd6.a).mono ?_; rintro e w7 ⟨rfl, rfl⟩)
        refine hK _ _ (fun _ => HP6.out) ?_
        clear hK K
        repeat (refine mix_free (v := ?_) rfl ?_ ?_; rotate_left; (focus (intro w' hI; go_simp; try with_reducible rfl)); simp only [Act.put, List.setIfInBounds_toArray, List.set_cons_zero, List.set_cons_succ])
        refine mix_nil ?_
        go_wp2
        go_roundw
        case rel => exact ⟨j + 1, l', lost', by omega, by omega, by go_num, hok', _, _, hd6⟩
        case measure => simp [intOf]; omega
    · have hex : rows.length ≤ j ∨ (j < rows.length ∧ 60 ≤ j) := by omega
      clear hlt
      rcases hex with hex | ⟨hex1, hex2⟩
      all_goals
        go_wp2_with (go_at_call 8; refine (awake_any _).mono ?_; rintro e w4 ⟨rfl, hw4⟩)
        go_ret
        exact ⟨rfl, hd.below.trans (hw4.mono hd.size)⟩
end Go.Proofs.Ytjjapnphljhicaa.net
