/- LruPlays: whatever is used, and dropped. -/
import Derived.Test.YtjjapnphljhicadLruNew
import Derived.Deep.CutRange
namespace Go.Proofs.Ytjjapnphljhicad.lru
open Go.RowKit
open Go.Proofs.Ytjjapnphljhicad.stepkit Go.Proofs.Ytjjapnphljhicad.eqkit Go.Proofs.Ytjjapnphljhicad.idkit Go.Proofs.Ytjjapnphljhicad.obj Go.Proofs.Ytjjapnphljhicad.row Go.Proofs.Ytjjapnphljhicad.mapkit Go.Proofs.Ytjjapnphljhicad.mix Go.Proofs.Ytjjapnphljhicad.argkit

theorem infoAct : (Try.prog.info? 28).map (·.size) = some 33 := by rfl
theorem sizeAct {k : Int} {id : List Int} (h : id.length = 32) : (Try.prog.info? 28).map (·.size) = some ((Value.int .i64 k :: idc id : List Value)).length := by rw [infoAct, List.length_cons, idc_len, h]

theorem wpList_act {ops : Array Oper} {rest : List Oper} {op : Oper} {a : Act} {w : World} {Q : Exit → Act → World → Prop} (hgd : op.guard = none) (ty : TypeId) (x y : Operand) (ho : op.op = .store ty x y)
    (cs : List Value) (hx : a.eval x = .pointer (some ⟨w.heap.size, 0, none⟩)) (hy : a.eval y = .agg cs.toArray)
    (hz : cs.length = 33) (hi : (Try.prog.info? ty).map (·.size) = some cs.length) (h1 : ∀ v ∈ cs, v.oneCell' = true)
    (h : ∀ w', Turns nobody w w' → w'.rangeAt w.heap.size 0 cs → wpList Try.prog ops Q rest (a.put op.dst undef) w') : wpList Try.prog ops Q (op :: rest) a (w.alloc (.cells #[.int .i64 0, .int .u8 0, .int .u8 0, .int .u8 0, .int .u8 0, .int .u8 0, .int .u8 0, .int .u8 0, .int .u8 0, .int .u8 0, .int .u8 0, .int .u8 0, .int .u8 0, .int .u8 0, .int .u8 0, .int .u8 0, .int .u8 0, .int .u8 0, .int .u8 0, .int .u8 0, .int .u8 0, .int .u8 0, .int .u8 0, .int .u8 0, .int .u8 0, .int .u8 0, .int .u8 0, .int .u8 0, .int .u8 0, .int .u8 0, .int .u8 0, .int .u8 0, .int .u8 0] 28)) :=
  wpList_new hgd ty x y ho cs hx hy hz hi h1 h
theorem wpList_id {ops : Array Oper} {rest : List Oper} {op : Oper} {a : Act} {w : World} {Q : Exit → Act → World → Prop} (hgd : op.guard = none) (ty : TypeId) (x y : Operand) (ho : op.op = .store ty x y)
    (cs : List Value) (hx : a.eval x = .pointer (some ⟨w.heap.size, 0, none⟩)) (hy : a.eval y = .agg cs.toArray)
    (hz : cs.length = 32) (hi : (Try.prog.info? ty).map (·.size) = some cs.length) (h1 : ∀ v ∈ cs, v.oneCell' = true)
    (h : ∀ w', Turns nobody w w' → w'.rangeAt w.heap.size 0 cs → wpList Try.prog ops Q rest (a.put op.dst undef) w') : wpList Try.prog ops Q (op :: rest) a (w.alloc (.cells #[.int .u8 0, .int .u8 0, .int .u8 0, .int .u8 0, .int .u8 0, .int .u8 0, .int .u8 0, .int .u8 0, .int .u8 0, .int .u8 0, .int .u8 0, .int .u8 0, .int .u8 0, .int .u8 0, .int .u8 0, .int .u8 0, .int .u8 0, .int .u8 0, .int .u8 0, .int .u8 0, .int .u8 0, .int .u8 0, .int .u8 0, .int .u8 0, .int .u8 0, .int .u8 0, .int .u8 0, .int .u8 0, .int .u8 0, .int .u8 0, .int .u8 0, .int .u8 0] 24)) :=
  wpList_new hgd ty x y ho cs hx hy hz hi h1 h

set_option maxRecDepth 20000 in
set_option maxHeartbeats 8000000 in
theorem plays_any (ao : Option Addr) (rows : List (List Value)) (cap : Nat) (id : List Int) (hid : id.length = 32) (w : World) (hcap : rows.length ≤ maxLen) (hrow : RowsAt w w.heap.size 33 ao rows) (hfit : ∀ r ∈ rows, Fits actKinds r) :
    Calls Try.prog 4 #[.slice ao rows.length cap, .agg (idc id).toArray] w fun e w' => e = .returned (.bool true) ∧ Below w.heap.size w w' := by
  unfold maxLen at hcap
  obtain ⟨w0, hw0⟩ : ∃ w0, w0 = w.alloc (.cells (idc id).toArray 24) := ⟨_, rfl⟩
  have ht0 : Turns nobody w w0 := by rw [hw0]; exact (Turns.refl _ _).alloc _
  have hb0 : w0.heap[w.heap.size]? = some (.cells (idc id).toArray 24 (0, 0)) := by rw [hw0]; exact heap_alloc_new w _
  have hz0 : w0.heap.size = w.heap.size + 1 := by rw [hw0]; simp
  have HBX : Hid (∀ W, Below w0.heap.size w0 W → W.heap[w.heap.size]? = some (.cells (idc id).toArray 24 (0, 0))) := Lib.hid fun W hW => by rw [hW.block _ (by omega)]; exact hb0
  have HBW : Hid (Below w.heap.size w w0) := Lib.hid (ht0.below (Nat.le_refl _) (fun _ h => h.elim))
  have HB0 : Hid (∀ W, Below w0.heap.size w0 W → Below w.heap.size w W) := Lib.hid fun W hW => HBW.out.trans (hW.mono (by omega))
  have hN := new_duo w0
  have SX := Lib.hid (sizeId hid)
  have HW0 := Lib.hid hw0
  obtain ⟨B, hB⟩ : ∃ B, w.heap.size = B := ⟨_, rfl⟩
  rw [hB] at hrow hz0 HBX HBW HB0 ⊢
  rw [hz0] at hN HBX HB0
  have HB := Lib.hid hB
  clear hw0 ht0 hb0 hB
  go_enter Try.func4, Try.ntmps4
  go_wp2_with (go_at_call 7; rw [← HW0.out]; refine hN.mono ?_; rintro e w1 ⟨rfl, F, hd⟩; have HD0 := Lib.hid hd; clear hd hN)
  rw [HB.out]
  clear hz0
  go_loopw [6, 7] (fun v i wr => ∃ (j : Nat) (x : List (List Int)), j ≤ rows.length ∧ j ≤ 80 ∧ i = .int .i64 j ∧ x.length ≤ j ∧ ∃ F G, Duo (B + 1) w0 (LruX (B + 3) x) (SlObj v x) F G wr) (fun _ i _ => 80 - (intOf i).toNat)
  case atStart => exact ⟨0, [], by omega, by omega, rfl, by simp, F, _, Duo.beside HD0.out (local_lrux _ _) (Turns.refl _ _) (C' := SlObj (.slice none 0 0) []) ⟨Sl.nil _ _ _, rfl⟩ (fun i h => by cases h)⟩
  case round =>
    clear HD0 F
    obtain ⟨j, x, hj, hj80, rfl, hxl, F, G, hd⟩ := hrel
    by_cases hlt : j < rows.length ∧ j < 80
    · obtain ⟨h3, h4⟩ := hlt
      obtain ⟨bb, oo, rfl, hbb, hcell⟩ := hrow (by omega)
      have hmem : rows.getD j [] ∈ rows := by rw [List.getD, List.getElem?_eq_getElem h3]; exact List.getElem_mem _
      obtain ⟨k, ida, hr, hida⟩ := act_row (hfit _ hmem)
      have RR : Hid (wr.rangeAt bb (oo + j * 33) (.int .i64 k :: idc ida)) := Lib.hid (by
        obtain ⟨c0, ri⟩ := row_at hbb hcell (HB0.out _ hd.below) j h3 hr hida
        intro i v hv
        rcases i with _ | i
        · rw [List.getElem?_cons_zero] at hv; rw [Nat.add_zero, c0]; exact hv
        · have := ri i v (by simpa using hv); rwa [show oo + j * 33 + 1 + i = oo + j * 33 + (i + 1) from by omega] at this)
      have SA := Lib.hid (sizeId hida)
      have SR := Lib.hid (sizeAct (k := k) hida)
      have HL33 := Lib.hid (show (Value.int .i64 k :: idc ida : List Value).length = 33 by rw [List.length_cons, idc_len, hida])
      have HROW := Lib.hid hrow
      have HD := Lib.hid hd
      have hwx := hd.a.wh
      have hx80 : x.length ≤ 80 := by omega
      have hyl := dropL_len x ida
      have hll := useL_len x ida
      clear hr hmem hcell hrow hd
      go_upto_region 7 with first
        | (with_reducible refine wpList_load_mid rfl _ _ rfl _ _ rfl _ _ RR.out Try.underlying28 rfl SR.out ?_)
        | ((with_reducible refine at_alloc ?_); refine wpList_act rfl _ _ _ rfl (.int .i64 k :: idc ida) rfl rfl HL33.out SR.out act_all ?_; intro w1 t1 r1; obtain ⟨G1, hd1⟩ := Duo.boxed HD.out (local_lrux _ _) t1 (ActIn.of_range r1) (Nat.le_refl _); clear t1 r1)
      obtain ⟨b, hb⟩ : ∃ b, wr.heap.size = b := ⟨_, rfl⟩
      rw [hb] at hd1 ⊢
      clear hb RR SR HL33 HD
      have c0 := hd1.c.2.1.1
      have RA : Hid (∀ W, Turns nobody w1 W → W.rangeAt b 1 (idc ida)) := Lib.hid fun W h => range_keep hd1.c.2.1.2 h
      obtain ⟨vx, hvx⟩ : ∃ vx, vx = u6 := ⟨_, rfl⟩
      rw [← hvx] at hd1 ⊢
      clear hvx
      simp only [Act.put]
      go_cut [43] from 22 to 134 (fun c wc => w1 = wc ∧ c = .bool (decide (k = 0 ∨ k = 1)))
      case first =>
        by_cases n0 : k = 0
        · subst n0
          go_wp2_with fail
          go_meet
          exact ⟨rfl, rfl⟩
        · have m1 : (k == 0) = false := by simpa using n0
          by_cases n1 : k = 1
          · subst n1
            go_wp2_with fail
            go_meet
            exact ⟨rfl, rfl⟩
          · have m2 : (k == 1) = false := by simpa using n1
            go_wp2_with fail
            go_meet
            exact ⟨rfl, by rw [decide_eq_false (by omega)]⟩
      case rest =>
      obtain ⟨rfl, rfl⟩ := hcut
      go_upto_if 43 with fail
      go_cut [6] from 22 to 134 (fun u wc => ∃ y : List (List Int), y.length ≤ j + 1 ∧ ∃ F5 G5, Duo (B + 1) w0 (LruX (B + 3) y) (SlBox u y b k ida) F5 G5 wc)
      case first =>
        by_cases hkk : k = 0 ∨ k = 1
        · rw [decide_eq_true hkk]
          have hy1 : Hid ((useL x ida).length ≤ j + 1) := Lib.hid (by omega)
          go_wp2_with first
            | (with_reducible refine wpList_load_mid rfl _ _ rfl _ _ rfl _ _ (RA.out _ (Turns.refl _ _)) Try.underlying24 rfl SA.out ?_)
            | (go_at_call 14; refine (ref_use _ x hwx ida hida w1 hd1.c.1 (by omega)).mono ?_; rintro e w2 ⟨v2, rfl, s2, f2, t2⟩; obtain ⟨G2, hd2⟩ := Duo.reslice hd1 (local_lrux _ _) t2 s2 f2; clear s2 f2 t2 hd1 RA; have RA : Hid (∀ W, Turns nobody w2 W → W.rangeAt b 1 (idc ida)) := Lib.hid fun W h => range_keep hd2.c.2.1.2 h)
            | (go_at_call 8; refine (use_x hd2.a ida hida).mono ?_; rintro e w3 ⟨rfl, hs⟩; obtain ⟨F3, hd3⟩ := hd2.left (local_box _ _ _ _ _) hs; clear hs hd2 RA)
          go_meet
          exact ⟨_, hy1.out, _, _, hd3⟩
        · rw [decide_eq_false hkk]
          have hy1 : Hid ((dropL x ida).length ≤ j + 1) := Lib.hid (by omega)
          have hhas := ref_has _ x hwx ida hida w1 hd1.c.1 (by omega)
          have hdrop := fun W (h : LruX (B + 3) x F W) => drop_x h ida hida
          clear hkk
          by_cases hm : ida ∈ x
          case pos =>
            rw [decide_eq_true hm] at hhas
            simp only [if_pos hm] at hdrop
            clear hm
            go_wp2_with first
              | (with_reducible refine wpList_load_mid rfl _ _ rfl _ _ rfl _ _ (RA.out _ (Turns.refl _ _)) Try.underlying24 rfl SA.out ?_)
              | (go_at_call 15; refine hhas.mono ?_; rintro e w2 ⟨rfl, t2⟩; have hd2 := hd1.still (local_lrux _ _) (local_box _ _ _ _ _) t2; clear t2 hd1 RA hhas; have RA : Hid (∀ W, Turns nobody w2 W → W.rangeAt b 1 (idc ida)) := Lib.hid fun W h => range_keep hd2.c.2.1.2 h)
              | (go_at_call 9; refine (hdrop _ hd2.a).mono ?_; rintro e w4 ⟨rfl, hs⟩; obtain ⟨F3, hd4⟩ := hd2.left (local_box _ _ _ _ _) hs; clear hs hd2 RA hdrop; have RA : Hid (∀ W, Turns nobody w4 W → W.rangeAt b 1 (idc ida)) := Lib.hid fun W h => range_keep hd4.c.2.1.2 h)
              | (go_at_call 12; refine (ref_drop _ x hwx ida hida w4 hd4.c.1 (by omega)).mono ?_; rintro e w3 ⟨v2, rfl, s3, f3, t3⟩; obtain ⟨G3, hd3⟩ := Duo.reslice hd4 (local_lrux _ _) t3 s3 f3; clear s3 f3 t3 hd4 RA)
            go_meet
            exact ⟨_, hy1.out, _, _, hd3⟩
          case neg =>
            rw [decide_eq_false hm] at hhas
            simp only [if_neg hm] at hdrop
            clear hm
            go_wp2_with first
              | (with_reducible refine wpList_load_mid rfl _ _ rfl _ _ rfl _ _ (RA.out _ (Turns.refl _ _)) Try.underlying24 rfl SA.out ?_)
              | (go_at_call 15; refine hhas.mono ?_; rintro e w2 ⟨rfl, t2⟩; have hd2 := hd1.still (local_lrux _ _) (local_box _ _ _ _ _) t2; clear t2 hd1 RA hhas; have RA : Hid (∀ W, Turns nobody w2 W → W.rangeAt b 1 (idc ida)) := Lib.hid fun W h => range_keep hd2.c.2.1.2 h)
              | (go_at_call 9; refine (hdrop _ hd2.a).mono ?_; rintro e w4 ⟨rfl, hs⟩; obtain ⟨F3, hd4⟩ := hd2.left (local_box _ _ _ _ _) hs; clear hs hd2 RA hdrop; have RA : Hid (∀ W, Turns nobody w4 W → W.rangeAt b 1 (idc ida)) := Lib.hid fun W h => range_keep hd4.c.2.1.2 h)
              | (go_at_call 12; refine (ref_drop _ x hwx ida hida w4 hd4.c.1 (by omega)).mono ?_; rintro e w3 ⟨v2, rfl, s3, f3, t3⟩; obtain ⟨G3, hd3⟩ := Duo.reslice hd4 (local_lrux _ _) t3 s3 f3; clear s3 f3 t3 hd4 RA)
            go_meet
            exact ⟨_, hy1.out, _, _, hd3⟩
      case rest =>
      obtain ⟨y, hy1, F5, G5, hd5⟩ := hcut
      have HD5 := Lib.hid hd5
      clear hd5 hd1 RA c0 hwx hyl hll
      have hwy : Wh y := HD5.out.a.wh
      obtain ⟨a5, c5, hv5, _⟩ := (show Sl _ _ _ _ _ _ from HD5.out.c.1).shape
      subst hv5
      obtain ⟨w5, hw5⟩ : ∃ w5, w5 = wc := ⟨_, rfl⟩
      rw [← hw5] at HD5 ⊢
      clear hw5
      have HBI : Hid (∀ W, Turns nobody w5 W → W.rangeAt b 1 (idc ida)) := Lib.hid fun W h => range_keep HD5.out.c.2.1.2 h
      have hT : Turns nobody w5 w5 := Turns.refl _ _
      have hAf := after_x HD5.out.a ida hida
      have hRf := fun W (h : ISl W (.slice a5 y.length c5) y) => ref_after _ y hwy ida hida W h (by omega)
      have hOl := fun W (h : LruX (B + 3) y F5 W) => oldest_x h
      have hr1 := after_len hwy ida
      have hr3 := head_len hwy
      have HRD : Hid (0 < y.length → headX y = y.getD 0 []) := Lib.hid fun h => by unfold headX; rw [if_neg (by omega)]
      generalize (afterX y ida).getD zid = r1 at *
      generalize (afterX y ida).isSome = s1 at *
      generalize headX y = r3 at *
      obtain ⟨bo, hbo⟩ : ∃ bo, decide (y.length ≠ 0) = bo := ⟨_, rfl⟩
      rw [hbo] at hOl
      have HBO := Lib.hid hbo
      have SR1 := Lib.hid (sizeId hr1)
      have SR3 := Lib.hid (sizeId hr3)
      have HL1 := Lib.hid (show (idc r1).length = 32 by rw [idc_len, hr1])
      have HL3 := Lib.hid (show (idc r3).length = 32 by rw [idc_len, hr3])
      clear hbo
      go_upto_region 19 with first
        | (with_reducible refine wpList_load_mid rfl _ _ rfl _ _ rfl _ _ (HBI.out _ hT) Try.underlying24 rfl SA.out ?_)
        | (go_at_call 16; refine hAf.mono ?_; rintro e w6 ⟨rfl, t⟩; replace hT := hT.trans t (fun _ h => False.elim h); clear t hAf)
        | ((with_reducible refine at_alloc ?_); refine wpList_id rfl _ _ _ rfl (idc r3) rfl rfl HL3.out SR3.out (idc_one _) ?_; intro w11 t q3; replace hT := hT.trans t (fun _ h => False.elim h); replace q1 := range_keep q1 t; replace q2 := range_keep q2 t; clear t)
        | ((with_reducible refine at_alloc ?_); refine wpList_id rfl _ _ _ rfl (idc r1) rfl rfl HL1.out SR1.out (idc_one _) ?_; intro w9 t q2; replace q1 := range_keep q1 t; replace hT := hT.trans t (fun _ h => False.elim h); clear t)
        | ((with_reducible refine at_alloc ?_); refine wpList_id rfl _ _ _ rfl (idc r1) rfl rfl HL1.out SR1.out (idc_one _) ?_; intro w7 t q1; replace hT := hT.trans t (fun _ h => False.elim h); clear t)
        | (go_at_call 17; refine (hRf _ (Sl.keep HD5.out.c.1 hT (fun _ _ h => h))).mono ?_; rintro e w8 ⟨rfl, t⟩; replace hT := hT.trans t (fun _ h => False.elim h); replace q1 := range_keep q1 t; clear t hRf)
        | (go_at_call 18; refine (hOl _ (HD5.out.still (local_lrux _ _) (local_box _ _ _ _ _) hT).a).mono ?_; rintro e w10 ⟨rfl, t⟩; replace hT := hT.trans t (fun _ h => False.elim h); replace q1 := range_keep q1 t; replace q2 := range_keep q2 t; clear t hOl)
      have Q1 : Hid (∀ W, Turns nobody w11 W → W.rangeAt w6.heap.size 0 (idc r1)) := Lib.hid fun W h => range_keep q1 h
      have Q2 : Hid (∀ W, Turns nobody w11 W → W.rangeAt w8.heap.size 0 (idc r1)) := Lib.hid fun W h => range_keep q2 h
      have Q3 : Hid (∀ W, Turns nobody w11 W → W.rangeAt w10.heap.size 0 (idc r3)) := Lib.hid fun W h => range_keep q3 h
      have HT11 := Lib.hid hT
      have HQ : Hid (∀ W, Turns nobody w11 W → Turns nobody w5 W) := Lib.hid fun W h => HT11.out.trans h (fun _ h => False.elim h)
      have hd18 := HD5.out.still (local_lrux _ _) (local_box _ _ _ _ _) (HQ.out _ (Turns.refl nobody w11).drew)
      clear q1 q2 q3 hT HBI
      refine wp_region_mix [(0, true, true), (2, true, true), (1, false, true), (3, false, true), (4, true, true), (5, true, true), (6, true, true), (8, true, true), (9, true, true), (7, false, true), (10, true, true), (11, true, true), (12, true, true), (13, true, true), (14, true, true), (15, true, true), (16, true, true), (17, true, true), (18, true, true), (19, true, true), (20, true, true), (21, true, true), (22, true, true), (23, true, true), (24, true, true), (25, true, true), (26, true, true), (27, true, true), (28, true, true), (29, true, true), (30, true, true), (31, true, true), (32, true, true), (33, true, true), (34, true, true), (35, true, true), (36, true, true), (37, true, true), (38, true, true)] (fun W => Turns nobody w11 W) (by kernel_rfl) (by kernel_rfl) ((Turns.refl _ _).drew) ?_
      simp only [picked, List.filterMap_cons, List.filterMap_nil, List.getElem?_toArray, List.getElem?_cons_zero, List.getElem?_cons_succ, Option.map_some]
      iterate 2 (refine mix_free (v := ?_) rfl ?_ ?_; rotate_left; (focus (intro w' hI; go_simp; try with_reducible rfl)); simp only [Act.put, List.setIfInBounds_toArray, List.set_cons_zero, List.set_cons_succ])
      refine mix_big rfl (fun K hK => ?_)
      go_wp2_with (go_at_call 10; refine (all_x hd18.a (by omega)).mono ?_; rintro e w12 ⟨v12, rfl, s12, f12, t12⟩)
      have HT12 : Hid (Turns nobody w11 w12) := Lib.hid ((Turns.refl _ _).drew.trans t12 (fun _ h => h.elim))
      have HS12 := Lib.hid s12
      refine hK _ _ (fun _ => HT12.out) ?_
      clear hK K s12 f12 t12 hd18
      refine mix_big rfl (fun K hK => ?_)
      go_wp2_with (go_at_call 11; refine (same_any v12 _ y hwy w12 HS12.out (Sl.keep HD5.out.c.1 (HQ.out _ HT12.out) (fun _ _ h => h)) (by omega)).mono ?_; rintro e w13 ⟨rfl, t13⟩)
      have HT13 : Hid (Turns nobody w11 w13) := Lib.hid (HT12.out.trans t13 (fun _ h => h.elim))
      refine hK _ _ (fun _ => HT13.out) ?_
      clear hK K t13 HS12 HT12
      iterate 5 (refine mix_free (v := ?_) rfl ?_ ?_; rotate_left; (focus (intro w' hI; go_simp; try with_reducible rfl)); simp only [Act.put, List.setIfInBounds_toArray, List.set_cons_zero, List.set_cons_succ])
      have hd13 := HD5.out.still (local_lrux _ _) (local_box _ _ _ _ _) (HQ.out _ HT13.out)
      refine mix_big rfl (fun K hK => ?_)
      go_wp2_with (go_at_call 19; refine (len_x hd13.a).mono ?_; rintro e w14 ⟨rfl, rfl⟩)
      refine hK _ _ (fun _ => HT13.out) ?_
      clear hK K hd13
      iterate 3 (refine mix_free (v := ?_) rfl ?_ ?_; rotate_left; (focus (intro w' hI; go_simp; try with_reducible rfl)); simp only [Act.put, List.setIfInBounds_toArray, List.set_cons_zero, List.set_cons_succ])
      refine mix_free (v := .agg (idc r1).toArray) rfl (fun w' hI => exec_load_mid _ _ rfl _ _ rfl (idc r1) _ (Q1.out _ hI) Try.underlying24 rfl SR1.out) ?_
      simp only [Act.put, List.setIfInBounds_toArray, List.set_cons_zero, List.set_cons_succ]
      refine mix_free (v := .agg (idc r1).toArray) rfl (fun w' hI => exec_load_mid _ _ rfl _ _ rfl (idc r1) _ (Q2.out _ hI) Try.underlying24 rfl SR1.out) ?_
      simp only [Act.put, List.setIfInBounds_toArray, List.set_cons_zero, List.set_cons_succ]
      refine mix_free (v := .bool false) rfl (fun w' hI => exec_ne _ _ _ rfl r1 r1 rfl rfl hr1 hr1 (by simp)) ?_
      simp only [Act.put, List.setIfInBounds_toArray, List.set_cons_zero, List.set_cons_succ]
      iterate 4 (refine mix_free (v := ?_) rfl ?_ ?_; rotate_left; (focus (intro w' hI; go_simp; try with_reducible rfl)); simp only [Act.put, List.setIfInBounds_toArray, List.set_cons_zero, List.set_cons_succ])
      refine mix_free (v := .bool false) rfl (fun w' hI => by go_simp) ?_
      simp only [Act.put, List.setIfInBounds_toArray, List.set_cons_zero, List.set_cons_succ]
      iterate 5 (refine mix_free (v := ?_) rfl ?_ ?_; rotate_left; (focus (intro w' hI; go_simp; try with_reducible rfl)); simp only [Act.put, List.setIfInBounds_toArray, List.set_cons_zero, List.set_cons_succ])
      cases bo with
      | false =>
        have hy0 : y.length = 0 := Decidable.not_not.1 (of_decide_eq_false HBO.out)
        refine mix_free (v := .bool false) rfl (fun w' hI => by go_simp) ?_
        simp only [Act.put, List.setIfInBounds_toArray, List.set_cons_zero, List.set_cons_succ]
        refine mix_free (v := .bool false) rfl (fun w' hI => by go_simp) ?_
        simp only [Act.put, List.setIfInBounds_toArray, List.set_cons_zero, List.set_cons_succ]
        repeat (first | (refine mix_free (v := ?_) rfl ?_ ?_; rotate_left; (focus (intro w' hI; go_simp; try with_reducible rfl)); simp only [Act.put, List.setIfInBounds_toArray, List.set_cons_zero, List.set_cons_succ]) | (refine mix_skip rfl ?_; simp only [Act.put, List.setIfInBounds_toArray, List.set_cons_zero, List.set_cons_succ]))
        refine mix_nil ?_
        obtain ⟨G9, hd9⟩ := Duo.unbox (HD5.out.still (local_lrux _ _) (local_box _ _ _ _ _) (HQ.out _ HT13.out))
        have HD9 := Lib.hid hd9
        clear hd9
        go_wp2_with fail
        exact ⟨⟨j + 1, y, by omega, by omega, by go_num, by omega, F5, G9, HD9.out⟩, by simp [intOf]; omega⟩
      | true =>
        have hy0 : 0 < y.length := Nat.pos_of_ne_zero (of_decide_eq_true HBO.out)
        have HRI := ISl.reads hwy HD5.out.c.1 0 hy0
        obtain ⟨gy, oy, rfl, hry⟩ := HRI
        rw [← HRD.out hy0, Nat.zero_mul, Nat.add_zero] at hry
        have HRY := Lib.hid hry
        clear hry
        refine mix_free (v := .bool true) rfl (fun w' hI => by go_simp) ?_
        simp only [Act.put, List.setIfInBounds_toArray, List.set_cons_zero, List.set_cons_succ]
        refine mix_free (v := .bool false) rfl (fun w' hI => by go_simp) ?_
        simp only [Act.put, List.setIfInBounds_toArray, List.set_cons_zero, List.set_cons_succ]
        iterate 4 (refine mix_free (v := ?_) rfl ?_ ?_; rotate_left; (focus (intro w' hI; go_simp; try with_reducible rfl)); simp only [Act.put, List.setIfInBounds_toArray, List.set_cons_zero, List.set_cons_succ])
        refine mix_free (v := .agg (idc r3).toArray) rfl (fun w' hI => exec_load_mid _ _ rfl _ _ rfl (idc r3) _ (Q3.out _ hI) Try.underlying24 rfl SR3.out) ?_
        simp only [Act.put, List.setIfInBounds_toArray, List.set_cons_zero, List.set_cons_succ]
        iterate 1 (refine mix_free (v := ?_) rfl ?_ ?_; rotate_left; (focus (intro w' hI; go_simp; try with_reducible rfl)); simp only [Act.put, List.setIfInBounds_toArray, List.set_cons_zero, List.set_cons_succ])
        refine mix_free (v := .pointer (some ⟨gy, oy, none⟩)) rfl (fun w' hI => by go_simp) ?_
        simp only [Act.put, List.setIfInBounds_toArray, List.set_cons_zero, List.set_cons_succ]
        refine mix_free (v := .agg (idc r3).toArray) rfl (fun w' hI => exec_load_mid _ _ rfl _ _ rfl (idc r3) _ (HRY.out _ (HQ.out _ hI)) Try.underlying24 rfl SR3.out) ?_
        simp only [Act.put, List.setIfInBounds_toArray, List.set_cons_zero, List.set_cons_succ]
        refine mix_free (v := .bool false) rfl (fun w' hI => exec_ne _ _ _ rfl r3 r3 rfl rfl hr3 hr3 (by simp)) ?_
        simp only [Act.put, List.setIfInBounds_toArray, List.set_cons_zero, List.set_cons_succ]
        repeat (first | (refine mix_free (v := ?_) rfl ?_ ?_; rotate_left; (focus (intro w' hI; go_simp; try with_reducible rfl)); simp only [Act.put, List.setIfInBounds_toArray, List.set_cons_zero, List.set_cons_succ]) | (refine mix_skip rfl ?_; simp only [Act.put, List.setIfInBounds_toArray, List.set_cons_zero, List.set_cons_succ]))
        refine mix_nil ?_
        obtain ⟨G9, hd9⟩ := Duo.unbox (HD5.out.still (local_lrux _ _) (local_box _ _ _ _ _) (HQ.out _ HT13.out))
        have HD9 := Lib.hid hd9
        clear hd9
        go_wp2_with fail
        exact ⟨⟨j + 1, y, by omega, by omega, by go_num, by omega, F5, G9, HD9.out⟩, by simp [intOf]; omega⟩
    · have hex : rows.length ≤ j ∨ (j < rows.length ∧ 80 ≤ j) := by omega
      have hwx := hd.a.wh
      have hx80 : x.length ≤ 80 := by omega
      have HD := Lib.hid hd
      obtain ⟨a5, c5, hv5, _⟩ := (show Sl _ _ _ _ _ _ from hd.c.1).shape
      subst hv5
      clear hrow hd hlt
      have HBI : Hid (∀ W, Turns nobody wr W → W.rangeAt B 0 (idc id)) := Lib.hid fun W ht => by
        have := range_block (HBX.out _ (HD.out.below.trans (ht.below HD.out.size (fun _ h => h.elim))))
        rwa [List.toList_toArray] at this
      have hT : Turns nobody wr wr := Turns.refl _ _
      have hAf := after_x HD.out.a id hid
      have hRf := fun W (h : ISl W (.slice a5 x.length c5) x) => ref_after _ x hwx id hid W h (by omega)
      have hr1 := after_len hwx id
      generalize (afterX x id).getD zid = r1 at *
      generalize (afterX x id).isSome = s1 at *
      have SR1 := Lib.hid (sizeId hr1)
      have HL1 := Lib.hid (show (idc r1).length = 32 by rw [idc_len, hr1])
      rcases hex with hex | ⟨hex1, hex2⟩
      all_goals
        go_wp2_with first
          | (with_reducible refine wpList_load_mid rfl _ _ rfl _ _ rfl _ _ (HBI.out _ hT) Try.underlying24 rfl SX.out ?_)
          | (go_at_call 16; refine hAf.mono ?_; rintro e w6 ⟨rfl, t⟩; replace hT := hT.trans t (fun _ h => False.elim h); clear t hAf)
          | ((with_reducible refine at_alloc ?_); refine wpList_id rfl _ _ _ rfl (idc r1) rfl rfl HL1.out SR1.out (idc_one _) ?_; intro w9 t q2; replace q1 := range_keep q1 t; replace hT := hT.trans t (fun _ h => False.elim h); clear t)
          | ((with_reducible refine at_alloc ?_); refine wpList_id rfl _ _ _ rfl (idc r1) rfl rfl HL1.out SR1.out (idc_one _) ?_; intro w7 t q1; replace hT := hT.trans t (fun _ h => False.elim h); clear t)
          | (go_at_call 17; refine (hRf _ (Sl.keep HD.out.c.1 hT (fun _ _ h => h))).mono ?_; rintro e w8 ⟨rfl, t⟩; replace hT := hT.trans t (fun _ h => False.elim h); replace q1 := range_keep q1 t; clear t hRf)
          | (with_reducible refine wpList_exec (exec_load_mid _ _ rfl _ _ rfl (idc r1) _ q1 Try.underlying24 rfl SR1.out) (by first | rfl | go_simp) ?_)
          | (with_reducible refine wpList_exec (exec_load_mid _ _ rfl _ _ rfl (idc r1) _ q2 Try.underlying24 rfl SR1.out) (by first | rfl | go_simp) ?_)
          | (refine wpList_exec (exec_eq _ _ _ rfl r1 r1 rfl rfl hr1 hr1 (decide_eq_true rfl)) (by first | rfl | go_simp) ?_)
          | (go_at_call 13; refine (awake_any _).mono ?_; rintro e w10 ⟨rfl, t⟩; replace hT := hT.trans t (fun _ h => False.elim h); clear t)
        go_ret
        exact ⟨rfl, HB0.out _ (HD.out.below.trans (hT.below HD.out.size (fun _ h => h.elim)))⟩

end Go.Proofs.Ytjjapnphljhicad.lru
