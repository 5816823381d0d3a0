/- OutboxPlays: whatever is put, and taken. -/
import Derived.Test.YtjjapnphljhicabOutboxRefTake
import Derived.Test.YtjjapnphljhicabFlatKit
namespace Go.Proofs.Ytjjapnphljhicab.outbox
open Go.RowKit Go.Conc
open Go.Proofs.Ytjjapnphljhicab.stepkit Go.Proofs.Ytjjapnphljhicab.row Go.Proofs.Ytjjapnphljhicab.mix Go.Proofs.Ytjjapnphljhicab.obj Go.Proofs.Ytjjapnphljhicab.eqkit Go.Proofs.Ytjjapnphljhicab.commkit Go.Proofs.Ytjjapnphljhicab.idkit Go.Proofs.Ytjjapnphljhicab.argkit

def actKinds : List TypeDesc := [.int .i64, .int .i64, .string, .int .i64]
theorem act_row {r : List Value} (h : Fits actKinds r) : ∃ (k t n : Int) (b : ByteArray), r = [.int .i64 k, .int .i64 t, .string b, .int .i64 n] := by
  obtain ⟨_, r1, rfl, ⟨k, rfl, hk⟩, h1⟩ := h.cons
  obtain ⟨_, r2, rfl, ⟨t, rfl, _⟩, h2⟩ := h1.cons
  obtain ⟨_, r4, rfl, ⟨b, rfl, _⟩, h4⟩ := h2.cons
  obtain ⟨_, r5, rfl, ⟨n, rfl, hn⟩, h5⟩ := h4.cons
  obtain rfl := h5.nil
  exact ⟨k, t, n, b, rfl⟩

def Ok (most : Nat) (l : List Ou) (lost : Int) : Prop := l.length ≤ most ∧ 0 ≤ lost ∧ lost ≤ 1000
theorem Ok.put {most : Nat} {l : List Ou} {lost : Int} (h : Ok most l lost) (o : Ou) : Ok most (putL most l o) (putC most l lost) := by
  obtain ⟨h1, h2, h3⟩ := h
  unfold putL putC Ok
  split
  · exact ⟨by simp; omega, h2, h3⟩
  · exact ⟨h1, by omega, by omega⟩
theorem ref_put (p most : Nat) (l : List Ou) (lost : Int) (o : Ou) (F : Nat → Prop) (w : World) (h : RefAt p most l lost F w) (hm : most ≤ 1024) (hok : Ok most l lost) :
    Calls Try.prog 12 #[.pointer (some ⟨p, 0, none⟩), .agg #[.int .i64 o.t, .string o.b]] w fun e w' => e = .returned (.int .i64 (putR most l)) ∧ Step F (RefAt p most (putL most l o) (putC most l lost)) w w' := by
  obtain ⟨h1, h2, h3⟩ := hok
  unfold putL putC putR
  split
  · exact ref_put_ok p most l lost o F w h (by assumption) hm
  · exact ref_put_full p most l lost o F w h (by omega) h2 h3

theorem pair_start {w w1 : World} {m : Nat} (h : w1 = (w.alloc (.chan m #[] false 0 0 false)).alloc (.cells #[.chan (some w.heap.size), .int .i64 0] 47)) :
    ∃ F G, Duo w.heap.size w (OutAt (w.heap.size + 1) m [] 0) (RefAt (w.heap.size + 2) m [] 0) F G (w1.alloc (.cells #[.int .i64 m, .slice none 0 0, .int .i64 0] 38)) := by
  have hz1 : w1.heap.size = w.heap.size + 2 := by rw [h]; simp
  have ha : OutAt (w.heap.size + 1) m [] 0 (fun i => i = w.heap.size + 1 ∨ i = w.heap.size) w1 := by
    refine ⟨w.heap.size, 0, 0, ?_, ?_, by omega, rfl⟩
    · rw [h]
      have := heap_alloc_new (w.alloc (.chan m #[] false 0 0 false)) (.cells #[.chan (some w.heap.size), .int .i64 0] 47)
      rwa [World.size_alloc] at this
    · rw [h, heap_alloc_old _ _ (by simp)]
      exact heap_alloc_new w _
  have hr : RefAt w1.heap.size m [] 0 (fun i => i = w1.heap.size ∨ blk (.slice none 0 0) i) (w1.alloc (.cells #[.int .i64 m, .slice none 0 0, .int .i64 0] 38)) := Box1.fresh (mk := fun v => #[.int .i64 m, v, .int .i64 0])
  rw [hz1] at hr
  refine ⟨_, _, (local_out _ _ _ _).keep ha ((Turns.refl nobody _).alloc _) (fun _ _ h => h), hr, fun i hi hg => ?_, fun i hi => by rcases hi with rfl | rfl <;> omega, fun i hi => ?_, ?_, by simp; omega⟩
  · rcases hg with rfl | hg
    · omega
    · cases hg
  · rcases hi with rfl | hi
    · omega
    · cases hi
  · have : Turns nobody w w1 := by rw [h]; exact ((Turns.refl _ _).alloc _).alloc _
    exact (this.alloc _).below (Nat.le_refl _) (fun _ h => h.elim)

set_option maxRecDepth 20000 in
set_option maxHeartbeats 4000000 in
theorem plays_ok (m : Nat) (hm1 : 1 ≤ m) (hm2 : m ≤ 256) (ao : Option Addr) (rows : List (List Value)) (cap : Nat) (w : World) (hcap : rows.length ≤ maxLen) (hrow : RowsAt w w.heap.size 4 ao rows) (hfit : ∀ r ∈ rows, Fits actKinds r) :
    Calls Try.prog 4 #[.int .i64 m, .slice ao rows.length cap] w fun e w' => e = .returned (.bool true) ∧ Below w.heap.size w w' := by
  unfold maxLen at hcap
  obtain ⟨B, hB⟩ : ∃ B, w.heap.size = B := ⟨_, rfl⟩
  rw [hB] at hrow ⊢
  have g1 : (1 : Int) ≤ m := by omega
  have g2 : (m : Int) ≤ 256 := by omega
  go_enter Try.func4, Try.ntmps4
  go_wp2_with (go_at_call 7; refine (new_ok m w hm1 hm2).mono ?_; rintro e w1 ⟨rfl, hw1⟩; have hp := pair_start hw1; have hz1 : w1.heap.size = B + 2 := (by rw [hw1]; simp [hB]); rw [hB] at hp ⊢; have HP := Lib.hid hp; clear hp hw1 hB)
  clear hz1
  go_loopw [8] (fun i wr => ∃ (j : Nat) (l : List Ou) (lost : Int), j ≤ rows.length ∧ j ≤ 100 ∧ i = .int .i64 j ∧ Ok m l lost ∧ ∃ F G, Duo B w (OutAt (B + 1) m l lost) (RefAt (B + 2) m l lost) F G wr) (fun i _ => 100 - (intOf i).toNat)
  case atStart => exact ⟨0, [], 0, by omega, by omega, rfl, ⟨by simp, by omega, by omega⟩, HP.out⟩
  case round =>
    obtain ⟨j, l, lost, hj, hj100, rfl, hok, F, G, hd⟩ := hrel
    by_cases hlt : j < rows.length ∧ j < 100
    · obtain ⟨h1, h2⟩ := hlt
      obtain ⟨bb, oo, rfl, hbb, hcell⟩ := hrow (by omega)
      have hmem : rows.getD j [] ∈ rows := by rw [List.getD, List.getElem?_eq_getElem h1]; exact List.getElem_mem _
      obtain ⟨k, t, n, b, hr⟩ := act_row (hfit _ hmem)
      have gg : ∀ W, Below B w W → W.cell? ⟨bb, oo + j * 4, none⟩ = some (.int .i64 k) ∧ W.cell? ⟨bb, oo + j * 4 + 1, none⟩ = some (.int .i64 t) ∧ W.cell? ⟨bb, oo + j * 4 + 2, none⟩ = some (.string b) ∧ W.cell? ⟨bb, oo + j * 4 + 3, none⟩ = some (.int .i64 n) := fun W hW => by
        have hc := fun (i : Nat) (hi : i < 4) => (hW.cell (p := ⟨bb, oo + j * 4 + i, none⟩) hbb).trans (hcell j h1 i hi)
        rw [hr] at hc
        exact ⟨hc 0 (by omega), hc 1 (by omega), hc 2 (by omega), hc 3 (by omega)⟩
      have HG := Lib.hid gg
      obtain ⟨d0, d1, d2, d3⟩ := gg _ hd.below
      clear gg hr hmem hcell hrow
      have hl0 := hok.1
      have hkk : (k = 0 ∨ k = 1) ∨ (¬ k = 0 ∧ ¬ k = 1) := by omega
      rcases hkk with hkk | ⟨n0, n1⟩
      · rcases hkk with rfl | rfl
        all_goals
          have hn := fun F W h => put_any (B + 1) m l lost ⟨t, b⟩ F W h hok.2.1 hok.2.2
          have hr := fun F W h => ref_put (B + 2) m l lost ⟨t, b⟩ F W h (by omega) hok
          have hok' := hok.put ⟨t, b⟩
          generalize putL m l ⟨t, b⟩ = l' at *
          generalize putC m l lost = lost' at *
          generalize putR m l = z at *
          go_wp2
          refine wp_region_mix [(0, true, true), (1, true, true), (2, true, true), (3, true, true), (4, true, true), (5, true, true), (7, true, true), (8, true, true), (9, true, true), (10, true, true), (11, true, true), (12, true, true), (6, false, true), (13, false, true), (14, true, true), (15, true, true)] (fun W => Below B w W) (by kernel_rfl) (by kernel_rfl) (hd.below.drew) ?_
          simp only [picked, List.filterMap_cons, List.filterMap_nil, List.getElem?_toArray, List.getElem?_cons_zero, List.getElem?_cons_succ, Option.map_some]
          repeat (refine mix_free (v := ?_) rfl ?_ ?_; rotate_left; (focus (intro w' hI; obtain ⟨d0, d1, d2, d3⟩ := HG.out _ hI; clear hI; go_simp; try with_reducible rfl)); simp only [Act.put, List.setIfInBounds_toArray, List.set_cons_zero, List.set_cons_succ])
          replace hd := hd.still (local_out _ _ _ _) (local_ref _ _ _ _) ((Turns.refl nobody _).drew)
          refine mix_big rfl (fun K hK => ?_)
          go_wp2_with (go_at_call 8; refine (hn _ _ hd.a).mono ?_; rintro e w2 ⟨rfl, hs⟩)
          obtain ⟨F2, hd2⟩ := hd.left (local_ref _ _ _ _) hs
          refine hK _ _ (fun _ => hd2.below) ?_
          clear hK K hs hd
          refine mix_big rfl (fun K hK => ?_)
          go_wp2_with (go_at_call 12; refine (hr _ _ hd2.c).mono ?_; rintro e wt ⟨rfl, hs⟩)
          obtain ⟨G2, hd⟩ := hd2.right (local_out _ _ _ _) hs
          refine hK _ _ (fun _ => hd.below) ?_
          clear hK K hs hd2 hn hr d0 d1 d2 d3
          repeat (refine mix_free (v := ?_) rfl ?_ ?_; rotate_left; (focus (intro w' hI; go_simp; try with_reducible rfl)); simp only [Act.put, List.setIfInBounds_toArray, List.set_cons_zero, List.set_cons_succ])
          refine mix_nil ?_
          go_wp2
          obtain ⟨rv, hrp, hrs, _, _⟩ := hd.c
          obtain ⟨rao, rcap, rfl, _⟩ := hrs.shape
          have HRP := Lib.hid hrp
          clear hrs hrp
          refine wp_region_mix [(0, true, true), (1, true, true), (2, true, true), (3, true, true), (5, true, true), (6, true, true), (7, true, true), (8, true, true), (9, true, true), (4, false, true), (10, true, true), (11, true, true), (12, true, true), (13, true, true), (15, true, true), (16, true, true), (17, true, true), (18, true, true), (14, false, true), (19, true, true), (20, true, true)] (fun W => W.heap[B + 2]? = some (.cells #[.int .i64 m, .slice rao l'.length rcap, .int .i64 lost'] 38 (0, 0))) (by kernel_rfl) (by kernel_rfl) (HRP.out) ?_
          simp only [picked, List.filterMap_cons, List.filterMap_nil, List.getElem?_toArray, List.getElem?_cons_zero, List.getElem?_cons_succ, Option.map_some]
          obtain ⟨W0, hW0⟩ : ∃ W0, W0 = wt.drew := ⟨_, rfl⟩
          rw [← hW0]
          have ht0 : Turns nobody wt W0 := by rw [hW0]; exact (Turns.refl _ _).drew
          have hd0 := hd.still (local_out _ _ _ _) (local_ref _ _ _ _) ht0
          have HP0 := Lib.hid (heap_newer HRP.out ht0 (fun h => h))
          clear hW0 ht0 hd
          repeat (refine mix_free (v := ?_) rfl ?_ ?_; rotate_left; (focus (intro w' hI; have e0 := cells_of hI 0 _ rfl; have e1 := cells_of hI 1 _ rfl; have e2 := cells_of hI 2 _ rfl; clear hI; go_simp; try with_reducible rfl)); simp only [Act.put, List.setIfInBounds_toArray, List.set_cons_zero, List.set_cons_succ])
          refine mix_big rfl (fun K hK => ?_)
          go_wp2_with (go_at_call 15; refine (len_any _ _ _ _ _ _ hd0.a).mono ?_; rintro e w7 ⟨rfl, rfl⟩)
          refine hK _ _ (fun _ => HP0.out) ?_
          clear hK K
          repeat (refine mix_free (v := ?_) rfl ?_ ?_; rotate_left; (focus (intro w' hI; have e0 := cells_of hI 0 _ rfl; have e1 := cells_of hI 1 _ rfl; have e2 := cells_of hI 2 _ rfl; clear hI; go_simp; try with_reducible rfl)); simp only [Act.put, List.setIfInBounds_toArray, List.set_cons_zero, List.set_cons_succ])
          refine mix_big rfl (fun K hK => ?_)
          go_wp2_with (go_at_call 10; refine (lost_any _ _ _ _ _ _ hd0.a).mono ?_; rintro e w7 ⟨rfl, rfl⟩)
          refine hK _ _ (fun _ => HP0.out) ?_
          clear hK K
          repeat (refine mix_free (v := ?_) rfl ?_ ?_; rotate_left; (focus (intro w' hI; go_simp; try with_reducible rfl)); simp only [Act.put, List.setIfInBounds_toArray, List.set_cons_zero, List.set_cons_succ])
          refine mix_nil ?_
          go_wp2
          go_roundw
          case rel => exact ⟨j + 1, l', lost', by omega, by omega, by go_num, hok', _, _, hd0⟩
          case measure => simp [intOf]; omega
      · have m1 : (k == 0) = false := by simpa using n0
        have m2 : (k == 1) = false := by simpa using n1
        obtain ⟨q, hq⟩ : ∃ q, q = min n.toNat l.length := ⟨_, rfl⟩
        have hok' : Ok m (l.drop q) lost := ⟨by rw [List.length_drop]; omega, hok.2⟩
        have hG := ((local_ref _ _ _ _) _ _ hd.c).1
        go_wp2_with first
          | (go_at_call 9; refine (take_any (B + 1) m l lost n F _ hd.a (by omega) q hq).mono ?_; rintro e w2 ⟨v2, rfl, s2, f2, st2⟩; obtain ⟨F2, hd2⟩ := hd.left (local_ref _ _ _ _) st2; clear d0 d1 d2 d3; obtain ⟨d0, d1, d2, d3⟩ := HG.out _ hd2.below; clear st2 hd)
          | (go_at_call 14; refine (ref_take (B + 2) m l lost n G _ hd2.c (by omega) q hq).mono ?_; rintro e w3 ⟨v3, rfl, s3, f3, st3⟩; obtain ⟨G3, hd3⟩ := hd2.right (local_out _ _ _ _) st3; have s2' : OSl w3 v2 (l.take q) := Sl.keep s2 st3.turned (fun i hi hg => by have := hG i hg; have := f2 i hi; omega); clear s2 st3 hd2)
          | (go_at_call 13; refine (same_any v2 v3 (l.take q) _ s2' s3 (by rw [List.length_take]; omega)).mono ?_; rintro e w4 ⟨rfl, hw4⟩; have hd := hd3.still (local_out _ _ _ _) (local_ref _ _ _ _) (Turns.drawn hw4); clear hw4 s2' s3 hd3 d0 d1 d2 d3 f2 f3)
        obtain ⟨wt, hwt⟩ : ∃ wt, wt = w4 := ⟨_, rfl⟩
        rw [← hwt] at hd ⊢
        clear hwt hG
        generalize l.drop q = l' at *
        generalize lost = lost' at *
        obtain ⟨rv, hrp, hrs, _, _⟩ := hd.c
        obtain ⟨rao, rcap, rfl, _⟩ := hrs.shape
        have HRP := Lib.hid hrp
        clear hrs hrp
        refine wp_region_mix [(0, true, true), (1, true, true), (2, true, true), (3, true, true), (5, true, true), (6, true, true), (7, true, true), (8, true, true), (9, true, true), (4, false, true), (10, true, true), (11, true, true), (12, true, true), (13, true, true), (15, true, true), (16, true, true), (17, true, true), (18, true, true), (14, false, true), (19, true, true), (20, true, true)] (fun W => W.heap[B + 2]? = some (.cells #[.int .i64 m, .slice rao l'.length rcap, .int .i64 lost'] 38 (0, 0))) (by kernel_rfl) (by kernel_rfl) (HRP.out) ?_
        simp only [picked, List.filterMap_cons, List.filterMap_nil, List.getElem?_toArray, List.getElem?_cons_zero, List.getElem?_cons_succ, Option.map_some]
        obtain ⟨W0, hW0⟩ : ∃ W0, W0 = wt.drew := ⟨_, rfl⟩
        rw [← hW0]
        have ht0 : Turns nobody wt W0 := by rw [hW0]; exact (Turns.refl _ _).drew
        have hd0 := hd.still (local_out _ _ _ _) (local_ref _ _ _ _) ht0
        have HP0 := Lib.hid (heap_newer HRP.out ht0 (fun h => h))
        clear hW0 ht0 hd
        repeat (refine mix_free (v := ?_) rfl ?_ ?_; rotate_left; (focus (intro w' hI; have e0 := cells_of hI 0 _ rfl; have e1 := cells_of hI 1 _ rfl; have e2 := cells_of hI 2 _ rfl; clear hI; go_simp; try with_reducible rfl)); simp only [Act.put, List.setIfInBounds_toArray, List.set_cons_zero, List.set_cons_succ])
        refine mix_big rfl (fun K hK => ?_)
        go_wp2_with (go_at_call 15; refine (len_any _ _ _ _ _ _ hd0.a).mono ?_; rintro e w7 ⟨rfl, rfl⟩)
        refine hK _ _ (fun _ => HP0.out) ?_
        clear hK K
        repeat (refine mix_free (v := ?_) rfl ?_ ?_; rotate_left; (focus (intro w' hI; have e0 := cells_of hI 0 _ rfl; have e1 := cells_of hI 1 _ rfl; have e2 := cells_of hI 2 _ rfl; clear hI; go_simp; try with_reducible rfl)); simp only [Act.put, List.setIfInBounds_toArray, List.set_cons_zero, List.set_cons_succ])
        refine mix_big rfl (fun K hK => ?_)
        go_wp2_with (go_at_call 10; refine (lost_any _ _ _ _ _ _ hd0.a).mono ?_; rintro e w7 ⟨rfl, rfl⟩)
        refine hK _ _ (fun _ => HP0.out) ?_
        clear hK K
        repeat (refine mix_free (v := ?_) rfl ?_ ?_; rotate_left; (focus (intro w' hI; go_simp; try with_reducible rfl)); simp only [Act.put, List.setIfInBounds_toArray, List.set_cons_zero, List.set_cons_succ])
        refine mix_nil ?_
        go_wp2
        go_roundw
        case rel => exact ⟨j + 1, l', lost', by omega, by omega, by go_num, hok', _, _, hd0⟩
        case measure => simp [intOf]; omega
    · have hex : rows.length ≤ j ∨ (j < rows.length ∧ 100 ≤ j) := by omega
      clear hlt
      rcases hex with hex | ⟨hex1, hex2⟩
      all_goals
        go_wp2_with (go_at_call 11; refine (awake_any _).mono ?_; rintro e w4 ⟨rfl, hw4⟩)
        go_ret
        exact ⟨rfl, hd.below.trans (hw4.below hd.size (fun _ h => h.elim))⟩

set_option maxRecDepth 20000 in
theorem plays_bad (m : Int) (hm : m < 1 ∨ 256 < m) (v : Value) (w : World) :
    Calls Try.prog 4 #[.int .i64 m, v] w fun e w' => e = .returned (.bool true) ∧ Below w.heap.size w w' := by
  have hN := new_bad m w hm
  rcases hm with hm | hm
  · have g1 : ¬ (1 : Int) ≤ m := by omega
    go_enter Try.func4, Try.ntmps4
    go_wp2_with first
      | (go_at_call 7; refine hN.mono ?_; rintro e w1 ⟨rfl, rfl⟩)
      | (go_at_call 11; refine (awake_any _).mono ?_; rintro e w4 ⟨rfl, hw4⟩)
    go_ret
    exact ⟨rfl, hw4.below (Nat.le_refl _) (fun _ h => h.elim)⟩
  · have g1 : (1 : Int) ≤ m := by omega
    have g2 : ¬ m ≤ (256 : Int) := by omega
    go_enter Try.func4, Try.ntmps4
    go_wp2_with first
      | (go_at_call 7; refine hN.mono ?_; rintro e w1 ⟨rfl, rfl⟩)
      | (go_at_call 11; refine (awake_any _).mono ?_; rintro e w4 ⟨rfl, hw4⟩)
    go_ret
    exact ⟨rfl, hw4.below (Nat.le_refl _) (fun _ h => h.elim)⟩

theorem plays_any (m : Int) (ao : Option Addr) (rows : List (List Value)) (cap : Nat) (w : World) (hcap : rows.length ≤ maxLen) (hrow : RowsAt w w.heap.size 4 ao rows) (hfit : ∀ r ∈ rows, Fits actKinds r) :
    Calls Try.prog 4 #[.int .i64 m, .slice ao rows.length cap] w fun e w' => e = .returned (.bool true) ∧ Below w.heap.size w w' := by
  by_cases hm : m < 1 ∨ 256 < m
  · exact plays_bad m hm _ w
  · obtain ⟨k, rfl⟩ : ∃ k : Nat, m = (k : Int) := ⟨m.toNat, by omega⟩
    exact plays_ok k (by omega) (by omega) ao rows cap w hcap hrow hfit

end Go.Proofs.Ytjjapnphljhicab.outbox
