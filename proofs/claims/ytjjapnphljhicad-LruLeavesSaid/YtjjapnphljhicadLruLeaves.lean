/- LruLeaves: the others stay. -/
import Derived.Test.YtjjapnphljhicadLruDuo
namespace Go.Proofs.Ytjjapnphljhicad.lru
open Go.RowKit
open Go.Proofs.Ytjjapnphljhicad.stepkit Go.Proofs.Ytjjapnphljhicad.eqkit Go.Proofs.Ytjjapnphljhicad.idkit Go.Proofs.Ytjjapnphljhicad.obj Go.Proofs.Ytjjapnphljhicad.row Go.Proofs.Ytjjapnphljhicad.mapkit Go.Proofs.Ytjjapnphljhicad.mix Go.Proofs.Ytjjapnphljhicad.argkit

set_option maxHeartbeats 100000 in
theorem exec_cut {op : Oper} {a : Act} {w : World} (x h : Operand) (ho : op.op = .slice 31 x none (some h) none) (g o n cap k : Nat) (hx : a.eval x = .slice (some ⟨g, o, none⟩) n cap) (hh : a.eval h = .int .i64 k) (hk : k ≤ cap) {v : Value} (hv : Go.sliced (some ⟨g, o, none⟩) 0 k cap 32 = v) :
    (execOp a.eval op).run Try.prog w = .ok (.value v) w := by
  have h1 : (0 : Int) ≤ (k : Int) := by omega
  have h2 : (k : Int) ≤ (cap : Int) := by omega
  rw [← hv]
  unfold execOp
  simp only [ho, hx, hh, Option.map]
  clear hx hh ho hk hv
  go_simp

set_option maxRecDepth 20000 in
set_option maxHeartbeats 2000000 in
theorem leaves_any (ao : Option Addr) (rows : List (List Value)) (cap : Nat) (id : List Int) (hid : id.length = 32) (w : World) (hcap : rows.length ≤ maxLen) (hrow : RowsAt w w.heap.size 33 ao rows) (hfit : ∀ r ∈ rows, Fits actKinds r) :
    Calls Try.prog 3 #[.slice ao rows.length cap, .agg (idc id).toArray] w fun e w' => e = .returned (.bool true) ∧ Below w.heap.size w w' := by
  unfold maxLen at hcap
  obtain ⟨w0, hw0⟩ : ∃ w0, w0 = w.alloc (.cells (idc id).toArray 24) := ⟨_, rfl⟩
  have ht0 : Turns nobody w w0 := by rw [hw0]; exact (Turns.refl _ _).alloc _
  have hb0 : w0.heap[w.heap.size]? = some (.cells (idc id).toArray 24 (0, 0)) := by rw [hw0]; exact heap_alloc_new w _
  have hz0 : w0.heap.size = w.heap.size + 1 := by rw [hw0]; simp
  have HBX : Hid (∀ W, Below w0.heap.size w0 W → W.heap[w.heap.size]? = some (.cells (idc id).toArray 24 (0, 0))) := Lib.hid fun W hW => by rw [hW.block _ (by omega)]; exact hb0
  have HBW : Hid (Below w.heap.size w w0) := Lib.hid (ht0.below (Nat.le_refl _) (fun _ h => h.elim))
  have HB0 : Hid (∀ W, Below w0.heap.size w0 W → Below w.heap.size w W) := Lib.hid fun W hW => HBW.out.trans (hW.mono (by omega))
  have hN := new_duo w0
  have SX := Lib.hid (sizeId hid)
  have HW0 := Lib.hid hw0
  obtain ⟨B, hB⟩ : ∃ B, w.heap.size = B := ⟨_, rfl⟩
  rw [hB] at hrow hz0 HBX HBW HB0 ⊢
  rw [hz0] at hN HBX HB0
  have HB := Lib.hid hB
  clear hw0 ht0 hb0 hB
  go_enter Try.func3, Try.ntmps3
  go_wp2_with (go_at_call 7; rw [← HW0.out]; refine hN.mono ?_; rintro e w1 ⟨rfl, F, hd⟩; have HD0 := Lib.hid hd; clear hd hN)
  rw [HB.out]
  clear hz0
  go_loopw [6] (fun i wr => ∃ (j : Nat) (x : List (List Int)), j ≤ rows.length ∧ j ≤ 80 ∧ i = .int .i64 j ∧ x.length ≤ j ∧ ∃ F, Duo (B + 1) w0 (LruX (B + 3) x) nothing F nobody wr) (fun i _ => 80 - (intOf i).toNat)
  case atStart => exact ⟨0, [], by omega, by omega, rfl, by simp, F, HD0.out⟩
  case round =>
    clear HD0 F
    obtain ⟨j, x, hj, hj80, rfl, hxl, F, hd⟩ := hrel
    by_cases hlt : j < rows.length ∧ j < 80
    · obtain ⟨h3, h4⟩ := hlt
      obtain ⟨bb, oo, rfl, hbb, hcell⟩ := hrow (by omega)
      have hmem : rows.getD j [] ∈ rows := by rw [List.getD, List.getElem?_eq_getElem h3]; exact List.getElem_mem _
      obtain ⟨k, ida, hr, hida⟩ := act_row (hfit _ hmem)
      obtain ⟨c0, ri⟩ := row_at hbb hcell (HB0.out _ hd.below) j h3 hr hida
      have HRI := Lib.hid ri
      have SA := Lib.hid (sizeId hida)
      have HROW := Lib.hid hrow
      have huse := use_x hd.a ida hida
      have hdrop := drop_x hd.a ida hida
      have HLU : Hid ((useL x ida).length ≤ j + 1) := Lib.hid (by rw [useL_len]; have := dropL_len x ida; omega)
      have HLD : Hid ((dropL x ida).length ≤ j + 1) := Lib.hid (by have := dropL_len x ida; omega)
      have HD := Lib.hid hd
      clear hr hmem hcell hrow hd ri
      generalize useL x ida = xu at *
      generalize dropL x ida = xd at *
      have hkk : (k = 0 ∨ k = 1) ∨ (¬ k = 0 ∧ ¬ k = 1) := by omega
      rcases hkk with hkk | ⟨n0, n1⟩
      · rcases hkk with rfl | rfl
        all_goals
          go_wp2_with first
            | (with_reducible refine wpList_load_mid rfl _ _ rfl _ _ rfl _ _ HRI.out Try.underlying24 rfl SA.out ?_)
            | (go_at_call 8; refine huse.mono ?_; rintro e w2 ⟨rfl, hs⟩; obtain ⟨F2, hd2⟩ := HD.out.left local_nothing hs; have HD2 := Lib.hid hd2; clear hs hd2 huse hdrop c0)
          go_roundw
          case rel => exact ⟨j + 1, xu, by omega, by omega, by go_num, HLU.out, F2, HD2.out⟩
          case measure => simp [intOf]; omega
      · have m1 : (k == 0) = false := by simpa using n0
        have m2 : (k == 1) = false := by simpa using n1
        go_wp2_with first
          | (with_reducible refine wpList_load_mid rfl _ _ rfl _ _ rfl _ _ HRI.out Try.underlying24 rfl SA.out ?_)
          | (go_at_call 9; refine hdrop.mono ?_; rintro e w2 ⟨rfl, hs⟩; obtain ⟨F2, hd2⟩ := HD.out.left local_nothing hs; have HD2 := Lib.hid hd2; clear hs hd2 huse hdrop c0)
        go_roundw
        case rel => exact ⟨j + 1, xd, by omega, by omega, by go_num, HLD.out, F2, HD2.out⟩
        case measure => simp [intOf]; omega
    · have hex : rows.length ≤ j ∨ (j < rows.length ∧ 80 ≤ j) := by omega
      have HROW := Lib.hid hrow
      have hwx := hd.a.wh
      have hx80 : x.length ≤ 80 := by omega
      have hyl := dropL_len x id
      have hll := useL_len x id
      have hlast := useL_last x id
      have htk := useL_take x id
      have hwu := useL_wh hwx hid
      have hall := all_x hd.a (by omega)
      have HD := Lib.hid hd
      clear hrow hd hlt
      rcases hex with hex | ⟨hex1, hex2⟩
      all_goals
        go_wp2_with first
          | (go_at_call 8; refine (use_x hd1.a id hid).mono ?_; rintro e w2 ⟨rfl, hs⟩; obtain ⟨F2, hd2⟩ := hd1.left (local_sl _ _) hs; clear hs hd1)
          | (with_reducible refine wpList_load_mid rfl _ _ rfl _ _ rfl _ _ HXR.out Try.underlying24 rfl SX.out ?_)
          | (go_at_call 10; refine (all_x hd2.a (by omega)).mono ?_; rintro e w3 ⟨v2, rfl, s2, f2, t2⟩; obtain ⟨G3, hd3⟩ := Duo.both hd2 (local_lrux _ _) t2 s2 f2; clear s2 f2 t2 hd2)
          | (go_at_call 10; refine hall.mono ?_; rintro e wa ⟨v1, rfl, s1, f1, t1⟩; have hd1 := Duo.beside HD.out (local_lrux _ _) t1 (C' := SlObj v1 x) ⟨s1, rfl⟩ f1; have HXR : Hid (wa.rangeAt B 0 (idc id)) := Lib.hid (by have := range_block (HBX.out _ hd1.below); rwa [List.toList_toArray] at this); clear s1 f1 t1 hall)
        have HD3 := Lib.hid hd3
        obtain ⟨s1, s2, _⟩ := hd3.c
        obtain ⟨n1, hn1⟩ : ∃ n1, (dropL x id).length = n1 := ⟨_, rfl⟩
        rw [hn1] at hll hlast htk hyl
        have s2' : Sl w3 24 32 v2 (n1 + 1) (icells (useL x id)) := by rw [← hll]; exact s2
        obtain ⟨g, o, cap2, rfl, _⟩ := Sl.some_of_pos s2' (by omega)
        have hcap2 := s2'.shape
        obtain ⟨_, _, hce, hnc, _⟩ := hcap2
        cases hce
        obtain ⟨a1, ha1⟩ : ∃ a1, Go.sliced (some ⟨g, o, none⟩) 0 n1 cap2 32 = .slice a1 n1 cap2 := ⟨_, rfl⟩
        have hd1' := s2'.sliced 0 n1 cap2 (by omega) (by omega) (by omega) (by omega)
        rw [ha1] at hd1'
        simp only [Nat.zero_mul, List.drop_zero, Nat.sub_zero, icells_take hwu, htk] at hd1'
        have RL : Hid (∀ W, Turns nobody w3 W → W.rangeAt g (o + n1 * 32) (idc id)) := Lib.hid fun W ht => by
          have s3 : ISl w3 (.slice (some ⟨g, o, none⟩) (useL x id).length cap2) (useL x id) := by rw [hll]; exact s2
          have := ISl.range hwu s3 n1 (by omega)
          rw [hlast] at this
          exact fun j v hj => (ht.cell (lt_of_cell' (this j v hj)) (fun h => h)).trans (this j v hj)
        have RI : Hid (∀ W, Turns nobody w3 W → W.rangeAt B 0 (idc id)) := Lib.hid fun W ht => by
          have := range_block (HBX.out _ (hd3.below.trans (ht.below hd3.size (fun _ h => h.elim))))
          rwa [List.toList_toArray] at this
        have HS1 := Lib.hid s1
        have HSC : Hid (Sl w3 24 32 (.slice a1 n1 cap2) n1 (icells (dropL x id))) := Lib.hid hd1'
        have HA1 := Lib.hid ha1
        have HK : Hid (n1 ≤ cap2) := Lib.hid (by omega)
        have HN1 := Lib.hid hn1
        have HLL := Lib.hid hll
        clear s1 s2 s2' hd1' ha1 hd3 hll hlast htk hn1 HXR
        have h0n : (((n1 : Int) + 1) == 0) = false := decide_eq_false (by omega)
        have hw1 : IntKind.i64.wrap (n1 : Int) = n1 := IntWalk.i64_in _ (by omega)
        refine wp_region_mix [(0, true, true), (1, true, true), (2, true, true), (3, true, true), (4, true, true), (5, true, true), (6, true, true), (7, true, true), (8, true, true), (9, true, true), (10, true, true), (11, true, true), (12, true, true), (13, true, true), (14, true, true), (15, true, true), (17, true, true), (18, true, true), (19, true, true), (20, true, true), (21, true, true), (16, false, true), (22, false, true), (23, true, true), (24, true, true)] (fun W => Turns nobody w3 W) (by kernel_rfl) (by kernel_rfl) ((Turns.refl _ _).drew) ?_
        simp only [picked, List.filterMap_cons, List.filterMap_nil, List.getElem?_toArray, List.getElem?_cons_zero, List.getElem?_cons_succ, Option.map_some]
        iterate 8 (refine mix_free (v := ?_) rfl ?_ ?_; rotate_left; (focus (intro w' hI; go_simp; try with_reducible rfl)); simp only [Act.put, List.setIfInBounds_toArray, List.set_cons_zero, List.set_cons_succ])
        refine mix_free (v := .pointer (some ⟨g, o + n1 * 32, none⟩)) rfl (fun w' hI => by go_simp; intro h; omega) ?_
        simp only [Act.put, List.setIfInBounds_toArray, List.set_cons_zero, List.set_cons_succ]
        refine mix_free (v := .agg (idc id).toArray) rfl (fun w' hI => exec_load_mid _ _ rfl _ _ rfl (idc id) _ (RL.out _ hI) Try.underlying24 rfl SX.out) ?_
        simp only [Act.put, List.setIfInBounds_toArray, List.set_cons_zero, List.set_cons_succ]
        refine mix_free (v := .agg (idc id).toArray) rfl (fun w' hI => exec_load_mid _ _ rfl _ _ rfl (idc id) _ (RI.out _ hI) Try.underlying24 rfl SX.out) ?_
        simp only [Act.put, List.setIfInBounds_toArray, List.set_cons_zero, List.set_cons_succ]
        refine mix_free (v := .bool false) rfl (fun w' hI => exec_ne _ _ _ rfl id id rfl rfl hid hid (by simp)) ?_
        simp only [Act.put, List.setIfInBounds_toArray, List.set_cons_zero, List.set_cons_succ]
        iterate 3 (refine mix_free (v := ?_) rfl ?_ ?_; rotate_left; (focus (intro w' hI; go_simp; try with_reducible rfl)); simp only [Act.put, List.setIfInBounds_toArray, List.set_cons_zero, List.set_cons_succ])
        refine mix_free (v := .agg (idc id).toArray) rfl (fun w' hI => exec_load_mid _ _ rfl _ _ rfl (idc id) _ (RI.out _ hI) Try.underlying24 rfl SX.out) ?_
        simp only [Act.put, List.setIfInBounds_toArray, List.set_cons_zero, List.set_cons_succ]
        iterate 4 (refine mix_free (v := ?_) rfl ?_ ?_; rotate_left; (focus (intro w' hI; go_simp; try with_reducible rfl)); simp only [Act.put, List.setIfInBounds_toArray, List.set_cons_zero, List.set_cons_succ])
        refine mix_free (v := .slice a1 n1 cap2) rfl (fun w' hI => exec_cut _ _ rfl g o (n1 + 1) cap2 n1 rfl rfl HK.out HA1.out) ?_
        simp only [Act.put, List.setIfInBounds_toArray, List.set_cons_zero, List.set_cons_succ]
        clear h0n hw1
        refine mix_big rfl (fun K hK => ?_)
        go_wp2_with (go_at_call 12; refine (ref_drop v1 x hwx id hid _ (Sl.drew HS1.out) (by omega)).mono ?_; rintro e w4 ⟨v4, rfl, s4, f4, t4⟩)
        have HS4 : Hid (ISl w4 v4 (dropL x id)) := Lib.hid s4
        have HT4 : Hid (Turns nobody w3 w4) := Lib.hid ((Turns.refl _ _).drew.trans t4 (fun _ h => h.elim))
        have HC4 : Hid (ISl w4 (.slice a1 n1 cap2) (dropL x id)) := Lib.hid (by show Sl _ _ _ _ _ _; rw [HN1.out]; exact Sl.keep HSC.out HT4.out (fun _ _ h => h))
        refine hK _ _ (fun _ => HT4.out) ?_
        clear hK K s4 f4 t4
        refine mix_big rfl (fun K hK => ?_)
        go_wp2_with (go_at_call 11; refine (same_any v4 _ (dropL x id) (dropL_wh hwx id) w4 HS4.out HC4.out (by rw [HN1.out]; omega)).mono ?_; rintro e w5 ⟨rfl, t5⟩)
        have HT5 : Hid (Turns nobody w3 w5) := Lib.hid (HT4.out.trans t5 (fun _ h => h.elim))
        refine hK _ _ (fun _ => HT5.out) ?_
        clear hK K t5
        repeat (refine mix_free (v := ?_) rfl ?_ ?_; rotate_left; (focus (intro w' hI; go_simp; try with_reducible rfl)); simp only [Act.put, List.setIfInBounds_toArray, List.set_cons_zero, List.set_cons_succ])
        refine mix_nil ?_
        have hd5 := HD3.out.still (local_lrux _ _) (local_two _ _ _ _) HT5.out
        go_wp2_with first
          | (go_at_call 9; refine (drop_x hd5.a id hid).mono ?_; rintro e w6 ⟨rfl, hs⟩; obtain ⟨F6, hd6⟩ := hd5.left (local_two _ _ _ _) hs; rw [if_pos (mem_useL x id)]; rw [dropL_useL] at hd6; clear hs hd5)
          | (with_reducible refine wpList_load_mid rfl _ _ rfl _ _ rfl _ _ (RI.out _ HT5.out) Try.underlying24 rfl SX.out ?_)
        have s6 : ISl w6 v1 x := hd6.c.1
        have HS6 := Lib.hid s6
        have HD6 := Lib.hid hd6
        have RB : Hid (∀ W, Below (B + 1) w0 W → W.rangeAt B 0 (idc id)) := Lib.hid fun W hW => by
          have := range_block (HBX.out _ hW)
          rwa [List.toList_toArray] at this
        have HBW6 : Hid (∀ W, Turns nobody w6 W → Below (B + 1) w0 W) := Lib.hid fun W ht => HD6.out.below.trans (ht.below HD6.out.size (fun _ h => h.elim))
        have hd6' := hd6.still (local_lrux _ _) (local_two _ _ _ _) (Turns.refl nobody w6).drew
        have h1024 : (dropL x id).length ≤ 1024 := by rw [HN1.out]; omega
        clear s6 hd6
        refine wp_region_mix [(0, true, true), (1, true, true), (2, true, true), (3, true, true), (5, true, true), (6, true, true), (4, false, true), (7, false, true), (8, false, true), (9, true, true), (10, true, true), (11, true, true), (12, true, true), (13, false, true), (14, true, true), (15, true, true), (16, true, true), (17, false, true), (18, true, true), (19, true, true)] (fun W => Below (B + 1) w0 W) (by kernel_rfl) (by kernel_rfl) (HBW6.out _ (Turns.refl _ _).drew) ?_
        simp only [picked, List.filterMap_cons, List.filterMap_nil, List.getElem?_toArray, List.getElem?_cons_zero, List.getElem?_cons_succ, Option.map_some]
        iterate 5 (refine mix_free (v := ?_) rfl ?_ ?_; rotate_left; (focus (intro w' hI; go_simp; try with_reducible rfl)); simp only [Act.put, List.setIfInBounds_toArray, List.set_cons_zero, List.set_cons_succ])
        refine mix_free (v := .agg (idc id).toArray) rfl (fun w' hI => exec_load_mid _ _ rfl _ _ rfl (idc id) _ (RB.out _ hI) Try.underlying24 rfl SX.out) ?_
        simp only [Act.put, List.setIfInBounds_toArray, List.set_cons_zero, List.set_cons_succ]
        refine mix_big rfl (fun K hK => ?_)
        go_wp2_with (go_at_call 10; refine (all_x hd6'.a h1024).mono ?_; rintro e w7 ⟨v7, rfl, s7, f7, t7⟩)
        have HS7 : Hid (ISl w7 v7 (dropL x id)) := Lib.hid s7
        have HT7 : Hid (Turns nobody w6 w7) := Lib.hid ((Turns.refl _ _).drew.trans t7 (fun _ h => h.elim))
        refine hK _ _ (fun _ => HBW6.out _ HT7.out) ?_
        clear hK K s7 f7 t7 hd6'
        refine mix_big rfl (fun K hK => ?_)
        go_wp2_with (go_at_call 12; refine (ref_drop v1 x hwx id hid _ (Sl.keep HS6.out HT7.out (fun _ _ h => h)) (by omega)).mono ?_; rintro e w8 ⟨v8, rfl, s8, f8, t8⟩)
        have HS8 : Hid (ISl w8 v8 (dropL x id)) := Lib.hid s8
        have HT8 : Hid (Turns nobody w6 w8) := Lib.hid (HT7.out.trans t8 (fun _ h => h.elim))
        have HS7' : Hid (ISl w8 v7 (dropL x id)) := Lib.hid (Sl.keep HS7.out t8 (fun _ _ h => h))
        refine hK _ _ (fun _ => HBW6.out _ HT8.out) ?_
        clear hK K s8 f8 t8
        refine mix_big rfl (fun K hK => ?_)
        go_wp2_with (go_at_call 11; refine (same_any v7 v8 (dropL x id) (dropL_wh hwx id) w8 HS7'.out HS8.out h1024).mono ?_; rintro e w9 ⟨rfl, t9⟩)
        have HT9 : Hid (Turns nobody w6 w9) := Lib.hid (HT8.out.trans t9 (fun _ h => h.elim))
        refine hK _ _ (fun _ => HBW6.out _ HT9.out) ?_
        clear hK K t9
        iterate 3 (refine mix_free (v := ?_) rfl ?_ ?_; rotate_left; (focus (intro w' hI; go_simp; try with_reducible rfl)); simp only [Act.put, List.setIfInBounds_toArray, List.set_cons_zero, List.set_cons_succ])
        refine mix_free (v := .agg (idc id).toArray) rfl (fun w' hI => exec_load_mid _ _ rfl _ _ rfl (idc id) _ (RB.out _ hI) Try.underlying24 rfl SX.out) ?_
        simp only [Act.put, List.setIfInBounds_toArray, List.set_cons_zero, List.set_cons_succ]
        have hd9 := HD6.out.still (local_lrux _ _) (local_two _ _ _ _) HT9.out
        refine mix_big rfl (fun K hK => ?_)
        go_wp2_with (go_at_call 9; refine (drop_x hd9.a id hid).mono ?_; rintro e w10 ⟨rfl, hs⟩; rw [if_neg (not_mem_dropL x id)]; obtain ⟨F10, hd10⟩ := hd9.left (local_two _ _ _ _) hs; have HD10 := Lib.hid hd10; clear hs hd9 hd10)
        refine hK _ _ (fun _ => HD10.out.below) ?_
        clear hK K
        repeat (refine mix_free (v := ?_) rfl ?_ ?_; rotate_left; (focus (intro w' hI; go_simp; try with_reducible rfl)); simp only [Act.put, List.setIfInBounds_toArray, List.set_cons_zero, List.set_cons_succ])
        refine mix_big rfl (fun K hK => ?_)
        go_wp2_with (go_at_call 13; refine (awake_any _).mono ?_; rintro e w11 ⟨rfl, t11⟩)
        have HB11 : Hid (Below (B + 1) w0 w11) := Lib.hid (HD10.out.below.trans (t11.below HD10.out.size (fun _ h => h.elim)))
        refine hK _ _ (fun _ => HB11.out) ?_
        clear hK K t11
        repeat (refine mix_free (v := ?_) rfl ?_ ?_; rotate_left; (focus (intro w' hI; go_simp; try with_reducible rfl)); simp only [Act.put, List.setIfInBounds_toArray, List.set_cons_zero, List.set_cons_succ])
        refine mix_nil ?_
        go_wp2
        go_ret
        exact ⟨rfl, HB0.out _ HB11.out⟩

end Go.Proofs.Ytjjapnphljhicad.lru
