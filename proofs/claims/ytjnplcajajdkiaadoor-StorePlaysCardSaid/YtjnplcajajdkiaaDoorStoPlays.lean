/- StorePlays: the walk. -/
import Derived.Test.YtjnplcajajdkiaaDoorStoAwake
import Derived.Test.YtjnplcajajdkiaaDoorFlatKit
namespace Go.Proofs.YtjnplcajajdkiaaDoor.store
open Go.RowKit
open Go.Proofs.YtjnplcajajdkiaaDoor.stepkit Go.Proofs.YtjnplcajajdkiaaDoor.eqkit Go.Proofs.YtjnplcajajdkiaaDoor.idkit Go.Proofs.YtjnplcajajdkiaaDoor.obj Go.Proofs.YtjnplcajajdkiaaDoor.row Go.Proofs.YtjnplcajajdkiaaDoor.mapkit Go.Proofs.YtjnplcajajdkiaaDoor.mix Go.Proofs.YtjnplcajajdkiaaDoor.lru Go.Proofs.YtjnplcajajdkiaaDoor.argkit
open Go.Proofs.YtjnplcajajdkiaaDoor.sha (Tabs wpList_putc new32 range_of)

def actKinds : List TypeDesc := [.int .i64, .string, .int .i64]
theorem act_row {r : List Value} (h : Fits actKinds r) : ∃ (K : Int) (b : ByteArray) (n : Int), r = [.int .i64 K, .string b, .int .i64 n] ∧ b.size ≤ maxLen := by
  obtain ⟨_, r1, rfl, ⟨K, rfl, _⟩, e1⟩ := argkit.Fits.cons h
  obtain ⟨_, r2, rfl, ⟨b, rfl, hb⟩, e2⟩ := argkit.Fits.cons e1
  obtain ⟨_, r3, rfl, ⟨n, rfl, _⟩, e3⟩ := argkit.Fits.cons e2
  obtain rfl := argkit.Fits.nil e3
  exact ⟨K, b, n, rfl, hb⟩
/-- One row of an argument, where it lies. -/
theorem act_at {w W : World} {B : Nat} {rows : List (List Value)} {b o : Nat} (hb : b < B) (hc : ∀ i, i < rows.length → ∀ j, j < 3 → w.cell? ⟨b, o + i * 3 + j, none⟩ = some ((rows.getD i []).getD j undef)) (hW : Below B w W) {K n : Int} {s : ByteArray} (i : Nat) (hi : i < rows.length) (hr : rows.getD i [] = [.int .i64 K, .string s, .int .i64 n]) :
    W.cell? ⟨b, o + i * 3, none⟩ = some (.int .i64 K) ∧ W.cell? ⟨b, o + i * 3 + 1, none⟩ = some (.string s) ∧ W.cell? ⟨b, o + i * 3 + 2, none⟩ = some (.int .i64 n) := by
  have hh : ∀ j, j < 3 → W.cell? ⟨b, o + i * 3 + j, none⟩ = some ([Value.int .i64 K, .string s, .int .i64 n].getD j undef) := fun j hj => by
    rw [hW.cell (p := ⟨b, o + i * 3 + j, none⟩) hb, hc i hi j hj, hr]
  exact ⟨hh 0 (by omega), hh 1 (by omega), hh 2 (by omega)⟩
theorem infoAct : (Tryd.prog.info? 29).map (·.size) = some 3 := by kernel_rfl
theorem str_neq (s : ByteArray) (w : World) : (binOp .neq 9 (.string s) (.string s)).run Tryd.prog w = .ok (.bool false) w := by go_simp


set_option maxRecDepth 20000 in
set_option maxHeartbeats 8000000 in
theorem plays_any (qi : Int) (ao : Option Addr) (rows : List (List Value)) (cap : Nat) (c : List Int) (hc : c.length = 32) (w : World) (hcap : rows.length ≤ maxLen) (hrow : RowsAt w w.heap.size 3 ao rows) (hfit : ∀ r ∈ rows, Fits actKinds r) (ht : Tabs w) (hpos : 1 < w.heap.size ∧ 0 < w.heap.size) :
    Calls Tryd.prog 4 #[.int .i64 qi, .slice ao rows.length cap, .agg (idc c).toArray] w fun e w' => e = .returned (.bool true) ∧ Below w.heap.size w w' := by
  unfold maxLen at hcap
  obtain ⟨w1, hw1⟩ : ∃ w1, w1 = w.alloc (.cells (idc c).toArray 31) := ⟨_, rfl⟩
  have t1 : Turns nobody w w1 := by rw [hw1]; exact (Turns.refl _ _).alloc _
  obtain ⟨B0, hB0⟩ : ∃ B0, w.heap.size = B0 := ⟨_, rfl⟩
  have hb1 : w1.heap[B0]? = some (.cells (idc c).toArray 31 (0, 0)) := by rw [hw1, ← hB0]; exact heap_alloc_new w _
  have z1 : w1.heap.size = B0 + 1 := by rw [hw1, ← hB0]; simp
  have ht1 : Tabs w1 := ht.turns t1 ⟨fun h => h, fun h => h⟩
  have hbel : Below B0 w w1 := t1.below (by omega) (fun _ h => h.elim)
  rw [hB0] at hrow hpos ⊢
  have HBEL : Hid (∀ W, Below (B0 + 1) w1 W → Below B0 w W) := Lib.hid fun W hW => hbel.trans (hW.mono (by omega))
  have HCB : Hid (∀ W, Below (B0 + 1) w1 W → W.rangeAt B0 0 (idc c)) := Lib.hid fun W hW => range_of (t := 31) (by rw [hW.block _ (by omega)]; exact hb1)
  have HTB := Lib.hid ht1
  have HPOS : Hid (1 < B0 + 1 ∧ 0 < B0 + 1) := Lib.hid ⟨by omega, by omega⟩
  have SC := Lib.hid (sizeId hc)
  have HCL := Lib.hid hc
  have HW1 := Lib.hid hw1
  have HB0 := Lib.hid hB0
  have HAW : Hid (∀ W, Below (B0 + 1) w1 W → B0 + 1 ≤ W.heap.size → Calls Tryd.prog 8 #[] W fun e w' => e = .returned (.bool true) ∧ Below B0 w w') := Lib.hid fun W hW hs => (awake_any W (HTB.out.below hW HPOS.out) ⟨by have := HPOS.out; omega, by have := HPOS.out; omega⟩).mono fun e w' ⟨he, hb⟩ => ⟨he, (HBEL.out W hW).trans (hb.mono (by omega))⟩
  by_cases hq : 0 ≤ qi ∧ qi ≤ 4096
  · obtain ⟨q, rfl⟩ : ∃ q : Nat, qi = (q : Int) := ⟨qi.toNat, by omega⟩
    have hq4 : q ≤ 4096 := by omega
    have hN := new_d q hq4 w1
    rw [z1] at hN
    have g1 : decide ((q : Int) ≥ 0) = true := decide_eq_true (by omega)
    have g2 : decide ((q : Int) ≤ 4096) = true := decide_eq_true (by omega)
    have g0 : (0 : Int) ≤ (q : Int) := by omega
    have g3 : (q : Int) ≤ 4096 := by omega
    clear hw1 t1 hB0 hb1 z1 ht ht1 hbel hq hpos
    go_enter Tryd.func4, Tryd.ntmps4
    go_upto_region 1 with fail
    rw [← HW1.out, HB0.out]
    go_upto_region 4 with (go_at_call 7; refine hN.mono ?_; rintro e w2 ⟨p, F, rfl, hd⟩; have HD2 := Lib.hid hd; clear hd hN)
    go_upto_region 5 with fail
    obtain ⟨X, hX⟩ : ∃ X, w2.heap.size = X := ⟨_, rfl⟩
    obtain ⟨w3, hw3⟩ : ∃ w3, w3 = w2.alloc (.cells (rcs (q : Int) (.slice none 0 0) (.slice none 0 0) (.slice none 0 0)) 47) := ⟨_, rfl⟩
    have t23 : Turns nobody w2 w3 := by rw [hw3]; exact (Turns.refl _ _).alloc _
    have hx3 : w3.heap[X]? = some (.cells (rcs (q : Int) (.slice none 0 0) (.slice none 0 0) (.slice none 0 0)) 47 (0, 0)) := by rw [hw3, ← hX]; exact heap_alloc_new w2 _
    have hd3 := Duo.beside HD2.out (local_st _ _ _ _) t23 (show RefAt X (q : Int) [] [] _ w3 from ⟨_, _, _, ⟨hx3, Sl.nil _ _ _, Sl.nil _ _ _, Sl.nil _ _ _⟩, rfl⟩) (fun i hi => by
      rcases hi with rfl | hi | hi | hi
      · omega
      · cases hi
      · cases hi
      · cases hi)
    have HD3 := Lib.hid hd3
    have HX := Lib.hid hX
    have HW3 := Lib.hid hw3
    have HQ4 := Lib.hid hq4
    unfold rcs at HW3
    clear hX hw3 t23 hx3 hd3 hq4
    rw [HX.out]
    go_upto_region 5 with fail
    rw [← HW3.out]
    go_wp2
    go_loopw [10] (fun i wr => ∃ (j : Nat) (E : Held) (P : List (List Int)), j ≤ rows.length ∧ j ≤ 50 ∧ i = .int .i64 j ∧ Ok q j E P ∧ ∃ F G, Duo (B0 + 1) w1 (StAt p q E P) (RefAt X q E P) F G wr) (fun i _ => 50 - (intOf i).toNat)
    case atStart => exact ⟨0, [], [], by omega, by omega, rfl, Ok.start HQ4.out, _, _, HD3.out⟩
    case round =>
      clear HD3 HD2 F
      obtain ⟨j, E, P, hj, hj50, rfl, hok, F, G, hd⟩ := hrel
      by_cases hlt : j < rows.length ∧ j < 50
      · obtain ⟨h3, h4⟩ := hlt
        obtain ⟨bb, oo, rfl, hbb, hcell⟩ := hrow (by omega)
        have hmem : rows.getD j [] ∈ rows := by rw [List.getD, List.getElem?_eq_getElem h3]; exact List.getElem_mem _
        obtain ⟨K, b, n, hr, hbm⟩ := act_row (hfit _ hmem)
        have HROW : Hid (∀ W, Below (B0 + 1) w1 W → W.cell? ⟨bb, oo + j * 3, none⟩ = some (.int .i64 K) ∧ W.cell? ⟨bb, oo + j * 3 + 1, none⟩ = some (.string b) ∧ W.cell? ⟨bb, oo + j * 3 + 2, none⟩ = some (.int .i64 n)) := Lib.hid fun W hW => act_at hbb hcell (HBEL.out W hW) j h3 hr
        have HD := Lib.hid hd
        have HOK := Lib.hid hok
        have HJL : Hid (j + 1 ≤ rows.length ∧ j + 1 ≤ 50) := Lib.hid ⟨h3, h4⟩
        obtain ⟨r0, r1, r2⟩ := HROW.out _ hd.below
        clear hr hmem hcell hd hok hfit hrow
        by_cases hb : b.size ≤ 1000
        · have HOK2 := Lib.hid (HOK.out.act K b)
          have hstep := fun (W : World) (F' G' : Nat → Prop) (h : Duo (B0 + 1) w1 (StAt p q E P) (RefAt X q E P) F' G' W) => step_both h HOK.out (by omega) HTB.out HPOS.out K b (by omega) n
          have HST := Lib.hid hstep
          obtain ⟨E', hE'⟩ : ∃ E', actH q E K b = E' := ⟨_, rfl⟩
          obtain ⟨P', hP'⟩ : ∃ P', actP E P K b = P' := ⟨_, rfl⟩
          rw [hE', hP'] at HOK2 HST
          have hE1 : E'.length ≤ 1000 := by have := HOK2.out.len; omega
          have hP1 : P'.length ≤ 1000 := by have := HOK2.out.plen; omega
          have hsz' : sz E' ≤ 4096 := by have := HOK2.out.fits; have := HQ4.out; omega
          have HRB : Hid (∀ (W : World) (G' : Nat → Prop), RefAt X (q : Int) E' P' G' W → Calls Tryd.prog 21 #[.pointer (some ⟨X, 0, none⟩)] W fun e w' => e = .returned (.int .i64 (sz E' : Int)) ∧ Turns nobody W w') := Lib.hid fun W G' ⟨v1, v2, v3, h, _⟩ => bytes_ref h hsz' (by omega)
          have HRP : Hid (∀ (W : World) (G' : Nat → Prop), RefAt X (q : Int) E' P' G' W → Calls Tryd.prog 22 #[.pointer (some ⟨X, 0, none⟩)] W fun e w' => e = .returned (.int .i64 (pins P' E' : Int)) ∧ Turns nobody W w') := Lib.hid fun W G' ⟨v1, v2, v3, h, _⟩ => pinned_ref h HOK2.out.wh HOK2.out.pwh hsz' (by omega) (by omega)
          have HRG : Hid (∀ (W : World) (G' : Nat → Prop), RefAt X (q : Int) E' P' G' W → ∀ id, id.length = 32 → Calls Tryd.prog 24 #[.pointer (some ⟨X, 0, none⟩), .agg (idc id).toArray] W fun e w' => e = .returned (.tuple #[.string (getS E' id), .int .i64 (getI E' id)]) ∧ Turns nobody W w') := Lib.hid fun W G' ⟨v1, v2, v3, h, _⟩ id hid => get_ref h HOK2.out.wh (by omega) id hid
          have HRX : Hid (∀ (W : World) (G' : Nat → Prop), RefAt X (q : Int) E' P' G' W → ∃ ax cx, W.cell? ⟨X, 1, none⟩ = some (.slice ax E'.length cx) ∧ ISl W (.slice ax E'.length cx) (ids E')) := Lib.hid fun W G' ⟨v1, v2, v3, h, _⟩ => by
            obtain ⟨ax, cx, rfl, _⟩ := (show Sl _ _ _ _ _ _ from h.s1).shape
            have h1 := h.s1
            have h2 := cells_of h.hp 1 (.slice ax (ids E').length cx) rfl
            rw [ids_len] at h1 h2
            exact ⟨ax, cx, h2, h1⟩
          have HAL : Hid (∀ (W : World) (F' : Nat → Prop), StAt p q E' P' F' W → Calls Tryd.prog 13 #[.pointer (some ⟨p, 0, none⟩)] W fun e w' => ∃ v, e = .returned v ∧ ISl w' v (ids E') ∧ (∀ j, blk v j → W.heap.size ≤ j) ∧ Turns nobody W w') := Lib.hid fun W F' h => all_st h hE1
          have RR : Hid (∀ W, Below (B0 + 1) w1 W → W.rangeAt bb (oo + j * 3) [.int .i64 K, .string b, .int .i64 n]) := Lib.hid fun W hW => by
            obtain ⟨a0, a1, a2⟩ := HROW.out W hW
            intro i v hv
            rcases i with _ | _ | _ | i
            · simp at hv; rw [← hv]; exact a0
            · simp at hv; rw [← hv]; exact a1
            · simp at hv; rw [← hv]; exact a2
            · simp at hv
          clear hstep hE' hP' hE1 hP1 hsz'
          go_upto_region 9 with fail
          clear r0 r1 r2
          refine wp_region_fork [0, 1, 2, 3, 4, 5, 7, 8, 9, 11, 12, 13, 16, 17, 18, 19, 21, 23, 24, 25, 26, 28, 30, 31] [0, 1, 2, 3, 4, 5, 6, 7, 8, 9, 10, 11, 12, 13, 14, 15, 16, 17, 18, 19, 20, 21, 22, 23, 24, 25, 26, 27, 28, 29, 30, 31] (Plan.ofList [0, 1, 2, 3, 4, 5, 6, 7, 8, 9, 11, 12, 13] (.fork 10 (Plan.ofList [14, 15, 16, 17, 18, 19, 21, 20, 22, 23, 24, 25, 26, 28, 27, 29, 30, 31] .done) 14 (Plan.ofList [10, 15, 16, 17, 18, 19, 21, 20, 22, 23, 24, 25, 26, 28, 27, 29, 30, 31] .done))) (fun W => Below (B0 + 1) w1 W) (by kernel_rfl) (by kernel_rfl) (((HD.out.still (local_st _ _ _ _) (local_ref _ _ _ _) (Turns.refl nobody wr).drew)).below) ?_
          simp -failIfUnchanged only [Plan.pick, Plan.ofList, isIn, List.contains_cons, List.contains_nil, Nat.reduceBEq, Bool.or_false, Bool.false_or, Bool.or_true, Bool.true_or, cond_true, cond_false, Array.getD_eq_getD_getElem?, List.getElem?_toArray, List.getElem?_cons_zero, List.getElem?_cons_succ, Option.getD_some]
          iterate 5 (refine plan_free (v := ?_) rfl ?_ ?_; rotate_left; (focus (intro w' hI; go_simp; try with_reducible rfl)); simp only [Act.put, List.setIfInBounds_toArray, List.set_cons_zero, List.set_cons_succ])
          refine plan_free (v := .agg [Value.int .i64 K, .string b, .int .i64 n].toArray) rfl (fun w' hI => exec_load_mid _ _ rfl _ _ rfl [.int .i64 K, .string b, .int .i64 n] _ (RR.out _ hI) Tryd.underlying29 rfl infoAct) ?_
          simp only [Act.put, List.setIfInBounds_toArray, List.set_cons_zero, List.set_cons_succ]
          refine plan_big (bigC_mk rfl (fun K' hK => ?_))
          go_wp2_with (go_at_call 20; refine (HST.out _ _ _ (HD.out.still (local_st _ _ _ _) (local_ref _ _ _ _) (Turns.refl nobody wr).drew)).mono ?_; rintro e w4 ⟨rfl, F4, G4, hd4⟩; have HD4 := Lib.hid hd4; clear hd4)
          refine hK _ _ (fun _ => HD4.out.below) ?_
          clear hK K'
          iterate 6 (refine plan_free (v := ?_) rfl ?_ ?_; rotate_left; (focus (intro w' hI; go_simp; try with_reducible rfl)); simp only [Act.put, List.setIfInBounds_toArray, List.set_cons_zero, List.set_cons_succ])
          obtain ⟨ax, cx, cx1, sx1⟩ := HRX.out _ _ HD4.out.c
          have CX := Lib.hid cx1
          have SX := Lib.hid sx1
          clear cx1 sx1
          refine plan_fork ?_ ?_
          ·
            refine bigC_mk rfl (fun K' hK => ?_)
            go_wp2_with (go_at_call 13; refine (HAL.out _ _ HD4.out.a).mono ?_; rintro e w5 ⟨v5, rfl, s5, n5, t5⟩; have HD5 := Lib.hid (HD4.out.still (local_st _ _ _ _) (local_ref _ _ _ _) t5); have HS1 := Lib.hid s5; have HS2 := Lib.hid (Sl.keep SX.out t5 (fun _ _ h => h)); have d1 := (HD5.out.c); have CX5 := Lib.hid ((t5.cell (lt_of_cell' CX.out) (fun h => h)).trans CX.out); clear s5 n5 t5 d1)
            refine hK _ _ (fun _ => HD5.out.below) ?_
            clear hK K'
            refine plan_big (bigC_mk rfl (fun K' hK => ?_))
            have cx5 := CX5.out
            go_wp2
            refine hK _ _ (fun _ => HD5.out.below) ?_
            clear hK K' cx5
            refine plan_big (bigC_mk rfl (fun K' hK => ?_))
            go_wp2_with (go_at_call 16; refine (same_any _ _ (ids E') HOK2.out.wh _ HS1.out HS2.out (by rw [ids_len]; have := HOK2.out.len; omega)).mono ?_; rintro e w6 ⟨rfl, t6⟩; have HD6 := Lib.hid (HD5.out.still (local_st _ _ _ _) (local_ref _ _ _ _) t6); clear t6)
            refine hK _ _ (fun _ => HD6.out.below) ?_
            clear hK K'
            iterate 5 (refine plan_free (v := ?_) rfl ?_ ?_; rotate_left; (focus (intro w' hI; go_simp; try with_reducible rfl)); simp only [Act.put, List.setIfInBounds_toArray, List.set_cons_zero, List.set_cons_succ])
            refine plan_big (bigC_mk rfl (fun K' hK => ?_))
            go_wp2_with (go_at_call 17; refine (bytes_st HD6.out.a).mono ?_; rintro e w' ⟨rfl, rfl⟩)
            refine hK _ _ (fun _ => HD6.out.below) ?_
            clear hK K'
            refine plan_big (bigC_mk rfl (fun K' hK => ?_))
            go_wp2_with (go_at_call 21; refine (HRB.out _ _ HD6.out.c).mono ?_; rintro e w7 ⟨rfl, t7⟩; have HD7 := Lib.hid (HD6.out.still (local_st _ _ _ _) (local_ref _ _ _ _) t7); clear t7)
            refine hK _ _ (fun _ => HD7.out.below) ?_
            clear hK K'
            iterate 5 (refine plan_free (v := ?_) rfl ?_ ?_; rotate_left; (focus (intro w' hI; go_simp; try with_reducible rfl)); simp only [Act.put, List.setIfInBounds_toArray, List.set_cons_zero, List.set_cons_succ])
            refine plan_big (bigC_mk rfl (fun K' hK => ?_))
            go_wp2_with (go_at_call 15; refine (pinned_st HD7.out.a).mono ?_; rintro e w' ⟨rfl, rfl⟩)
            refine hK _ _ (fun _ => HD7.out.below) ?_
            clear hK K'
            refine plan_big (bigC_mk rfl (fun K' hK => ?_))
            go_wp2_with (go_at_call 22; refine (HRP.out _ _ HD7.out.c).mono ?_; rintro e w8 ⟨rfl, t8⟩; have HD8 := Lib.hid (HD7.out.still (local_st _ _ _ _) (local_ref _ _ _ _) t8); clear t8)
            refine hK _ _ (fun _ => HD8.out.below) ?_
            clear hK K'
            iterate 2 (refine plan_free (v := ?_) rfl ?_ ?_; rotate_left; (focus (intro w' hI; go_simp; try with_reducible rfl)); simp only [Act.put, List.setIfInBounds_toArray, List.set_cons_zero, List.set_cons_succ])
            refine plan_done ?_
            have hrow8 := HROW.out _ HD8.out.below
            obtain ⟨_, r1, _⟩ := hrow8
            have hsum := sha.refsum_any b w8 (by omega)
            have HI := Lib.hid (sumB_len b)
            have NI := Lib.hid (zid_size (sumB b) HI.out)
            have SI := Lib.hid (sizeId HI.out)
            go_upto_region 12 with first
              | (go_at_call 9; refine hsum.mono ?_; rintro e wa ⟨rfl, ta⟩; have HDa := Lib.hid (HD8.out.still (local_st _ _ _ _) (local_ref _ _ _ _) ta); have HNa := Lib.hid (new32 wa); clear ta hsum)
              | (refine wpList_putc rfl _ _ _ rfl (idc (sumB b)) HNa.out NI.out (idc_one _) rfl rfl SI.out ?_; intro wb tb ab zb)
            obtain ⟨J, hJ⟩ : ∃ J, wa.heap.size = J := ⟨_, rfl⟩
            rw [hJ] at tb ab ⊢
            have HDb := Lib.hid (HDa.out.still (local_st _ _ _ _) (local_ref _ _ _ _) (((Turns.refl nobody wa).alloc _).trans tb (fun i hi => Or.inr (by omega))))
            have HAb := Lib.hid ab
            clear tb ab zb hJ r1
            have RJ := Lib.hid (range_of HAb.out)
            have hget := get_st HDb.out.a (sumB b) HI.out
            generalize hsb : sumB b = s at *
            go_upto_region 13 with first
              | (with_reducible refine wpList_load_mid rfl _ _ rfl _ _ rfl _ _ RJ.out Tryd.underlying31 rfl SI.out ?_)
              | (go_at_call 23; refine hget.mono ?_; rintro e wc ⟨rfl, tc⟩; have HDc := Lib.hid (HDb.out.still (local_st _ _ _ _) (local_ref _ _ _ _) tc); have HAc := Lib.hid (heap_newer HAb.out tc (fun h => h)); clear tc hget)
            have RJc := Lib.hid (range_of HAc.out)
            go_upto_region 14 with first
              | (with_reducible refine wpList_load_mid rfl _ _ rfl _ _ rfl _ _ RJc.out Tryd.underlying31 rfl SI.out ?_)
              | (go_at_call 24; refine (HRG.out _ _ HDc.out.c s HI.out).mono ?_; rintro e wd ⟨rfl, td⟩; have HDd := Lib.hid (HDc.out.still (local_st _ _ _ _) (local_ref _ _ _ _) td); have HAd := Lib.hid (heap_newer HAc.out td (fun h => h)); clear td)
            have HGI : Hid (decide (s ∈ ids E') = (getI E' s == 0)) := Lib.hid (by unfold getI; by_cases h : s ∈ ids E' <;> simp [h])
            have HRD : Hid (∀ W, Turns nobody wd W → W.rangeAt J 0 (idc s) ∧ W.rangeAt B0 0 (idc c) ∧ W.cell? ⟨bb, oo + j * 3 + 1, none⟩ = some (.string b)) := Lib.hid fun W ht => ⟨range_of (heap_newer HAd.out ht (fun h => h)), HCB.out _ ((HDd.out.still (local_st _ _ _ _) (local_ref _ _ _ _) ht).below), (HROW.out _ ((HDd.out.still (local_st _ _ _ _) (local_ref _ _ _ _) ht).below)).2.1⟩
            have hneq := fun (W : World) => str_neq (getS E' s) W
            have HB1000 : Hid (b.size ≤ 1000000) := Lib.hid (by omega)
            refine wp_region_mix [(0, true, true), (1, true, true), (2, true, true), (3, true, true), (4, true, true), (5, true, true), (6, true, true), (7, true, true), (8, true, true), (9, true, true), (10, true, true), (12, true, true), (13, true, true), (11, false, true), (14, true, true), (15, true, true), (16, true, true), (17, true, true), (18, true, true), (19, true, true), (20, true, true), (21, true, true), (22, true, true), (23, true, true), (25, true, true), (26, true, true), (27, true, true), (28, true, true), (29, true, true), (30, true, true), (24, false, true), (31, false, true), (32, true, true), (33, true, true), (34, true, true), (35, true, true), (36, true, true), (37, true, true)] (fun W => Turns nobody wd W) (by kernel_rfl) (by kernel_rfl) ((Turns.refl nobody wd).drew) ?_
            simp only [picked, List.filterMap_cons, List.filterMap_nil, List.getElem?_toArray, List.getElem?_cons_zero, List.getElem?_cons_succ, Option.map_some]
            iterate 10 (refine mix_free (v := ?_) rfl ?_ ?_; rotate_left; (focus (intro w' hI; go_simp; try with_reducible rfl)); simp only [Act.put, List.setIfInBounds_toArray, List.set_cons_zero, List.set_cons_succ])
            refine mix_free (v := .agg (idc s).toArray) rfl (fun w' hI => exec_load_mid _ _ rfl _ _ rfl (idc s) _ (HRD.out _ hI).1 Tryd.underlying31 rfl SI.out) ?_
            simp only [Act.put, List.setIfInBounds_toArray, List.set_cons_zero, List.set_cons_succ]
            iterate 2 (refine mix_free (v := ?_) rfl ?_ ?_; rotate_left; (focus (intro w' hI; go_simp; try with_reducible rfl)); simp only [Act.put, List.setIfInBounds_toArray, List.set_cons_zero, List.set_cons_succ])
            refine mix_big rfl (fun K' hK => ?_)
            go_wp2_with (go_at_call 25; refine (has_st (HDd.out.still (local_st _ _ _ _) (local_ref _ _ _ _) (Turns.refl nobody wd).drew).a s HI.out).mono ?_; rintro e we ⟨rfl, te⟩; have HTe := Lib.hid ((Turns.refl nobody wd).drew.trans te (fun _ h => False.elim h)); clear te)
            rw [HGI.out]
            refine hK _ _ (fun _ => HTe.out) ?_
            clear hK K'
            iterate 4 (refine mix_free (v := ?_) rfl ?_ ?_; rotate_left; (focus (intro w' hI; go_simp; try with_reducible rfl)); simp only [Act.put, List.setIfInBounds_toArray, List.set_cons_zero, List.set_cons_succ])
            refine mix_free (v := .agg (idc c).toArray) rfl (fun w' hI => exec_load_mid _ _ rfl _ _ rfl (idc c) _ (HRD.out _ hI).2.1 Tryd.underlying31 rfl SC.out) ?_
            simp only [Act.put, List.setIfInBounds_toArray, List.set_cons_zero, List.set_cons_succ]
            iterate 5 (refine mix_free (v := ?_) rfl ?_ ?_; rotate_left; (focus (intro w' hI; have d := (HRD.out _ hI).2.2; clear hI; go_simp; try with_reducible rfl)); simp only [Act.put, List.setIfInBounds_toArray, List.set_cons_zero, List.set_cons_succ])
            refine mix_free (v := .agg (idc c).toArray) rfl (fun w' hI => exec_load_mid _ _ rfl _ _ rfl (idc c) _ (HRD.out _ hI).2.1 Tryd.underlying31 rfl SC.out) ?_
            simp only [Act.put, List.setIfInBounds_toArray, List.set_cons_zero, List.set_cons_succ]
            iterate 5 (refine mix_free (v := ?_) rfl ?_ ?_; rotate_left; (focus (intro w' hI; have d := (HRD.out _ hI).2.2; clear hI; go_simp; try with_reducible rfl)); simp only [Act.put, List.setIfInBounds_toArray, List.set_cons_zero, List.set_cons_succ])
            have HDe := Lib.hid (HDd.out.still (local_st _ _ _ _) (local_ref _ _ _ _) HTe.out)
            refine mix_big rfl (fun K' hK => ?_)
            go_wp2_with (go_at_call 26; refine (verify_st HDe.out.a (Duo.tabs HDe.out HTB.out HPOS.out) c HCL.out b HB1000.out).mono ?_; rintro e wf ⟨rfl, tf⟩; have HTf := Lib.hid (HTe.out.trans tf (fun _ h => False.elim h)); clear tf)
            refine hK _ _ (fun _ => HTf.out) ?_
            clear hK K'
            refine mix_big rfl (fun K' hK => ?_)
            go_wp2_with (go_at_call 27; refine (verify_rf wf c HCL.out b HB1000.out).mono ?_; rintro e wg ⟨rfl, tg⟩; have HTg := Lib.hid (HTf.out.trans tg (fun _ h => False.elim h)); clear tg)
            refine hK _ _ (fun _ => HTg.out) ?_
            clear hK K'
            repeat (first | (refine mix_free (v := ?_) rfl ?_ ?_; rotate_left; (focus (intro w' hI; go_simp; try with_reducible rfl)); simp only [Act.put, List.setIfInBounds_toArray, List.set_cons_zero, List.set_cons_succ]) | (refine mix_skip rfl ?_; simp only [Act.put, List.setIfInBounds_toArray, List.set_cons_zero, List.set_cons_succ]))
            refine mix_nil ?_
            have HDg := Lib.hid (HDd.out.still (local_st _ _ _ _) (local_ref _ _ _ _) HTg.out)
            go_wp2
            go_roundw
            case rel => exact ⟨j + 1, E', P', HJL.out.1, HJL.out.2, by go_num, HOK2.out, _, _, HDg.out⟩
            case measure => simp [intOf]; omega
          ·
            refine bigC_mk rfl (fun K' hK => ?_)
            have cx5 := CX.out
            go_wp2
            refine hK _ _ (fun _ => HD4.out.below) ?_
            clear hK K' cx5
            refine plan_big (bigC_mk rfl (fun K' hK => ?_))
            go_wp2_with (go_at_call 13; refine (HAL.out _ _ HD4.out.a).mono ?_; rintro e w5 ⟨v5, rfl, s5, n5, t5⟩; have HD5 := Lib.hid (HD4.out.still (local_st _ _ _ _) (local_ref _ _ _ _) t5); have HS1 := Lib.hid s5; have HS2 := Lib.hid (Sl.keep SX.out t5 (fun _ _ h => h)); clear s5 n5 t5)
            refine hK _ _ (fun _ => HD5.out.below) ?_
            clear hK K'
            refine plan_big (bigC_mk rfl (fun K' hK => ?_))
            go_wp2_with (go_at_call 16; refine (same_any _ _ (ids E') HOK2.out.wh _ HS1.out HS2.out (by rw [ids_len]; have := HOK2.out.len; omega)).mono ?_; rintro e w6 ⟨rfl, t6⟩; have HD6 := Lib.hid (HD5.out.still (local_st _ _ _ _) (local_ref _ _ _ _) t6); clear t6)
            refine hK _ _ (fun _ => HD6.out.below) ?_
            clear hK K'
            iterate 5 (refine plan_free (v := ?_) rfl ?_ ?_; rotate_left; (focus (intro w' hI; go_simp; try with_reducible rfl)); simp only [Act.put, List.setIfInBounds_toArray, List.set_cons_zero, List.set_cons_succ])
            refine plan_big (bigC_mk rfl (fun K' hK => ?_))
            go_wp2_with (go_at_call 17; refine (bytes_st HD6.out.a).mono ?_; rintro e w' ⟨rfl, rfl⟩)
            refine hK _ _ (fun _ => HD6.out.below) ?_
            clear hK K'
            refine plan_big (bigC_mk rfl (fun K' hK => ?_))
            go_wp2_with (go_at_call 21; refine (HRB.out _ _ HD6.out.c).mono ?_; rintro e w7 ⟨rfl, t7⟩; have HD7 := Lib.hid (HD6.out.still (local_st _ _ _ _) (local_ref _ _ _ _) t7); clear t7)
            refine hK _ _ (fun _ => HD7.out.below) ?_
            clear hK K'
            iterate 5 (refine plan_free (v := ?_) rfl ?_ ?_; rotate_left; (focus (intro w' hI; go_simp; try with_reducible rfl)); simp only [Act.put, List.setIfInBounds_toArray, List.set_cons_zero, List.set_cons_succ])
            refine plan_big (bigC_mk rfl (fun K' hK => ?_))
            go_wp2_with (go_at_call 15; refine (pinned_st HD7.out.a).mono ?_; rintro e w' ⟨rfl, rfl⟩)
            refine hK _ _ (fun _ => HD7.out.below) ?_
            clear hK K'
            refine plan_big (bigC_mk rfl (fun K' hK => ?_))
            go_wp2_with (go_at_call 22; refine (HRP.out _ _ HD7.out.c).mono ?_; rintro e w8 ⟨rfl, t8⟩; have HD8 := Lib.hid (HD7.out.still (local_st _ _ _ _) (local_ref _ _ _ _) t8); clear t8)
            refine hK _ _ (fun _ => HD8.out.below) ?_
            clear hK K'
            iterate 2 (refine plan_free (v := ?_) rfl ?_ ?_; rotate_left; (focus (intro w' hI; go_simp; try with_reducible rfl)); simp only [Act.put, List.setIfInBounds_toArray, List.set_cons_zero, List.set_cons_succ])
            refine plan_done ?_
            have hrow8 := HROW.out _ HD8.out.below
            obtain ⟨_, r1, _⟩ := hrow8
            have hsum := sha.refsum_any b w8 (by omega)
            have HI := Lib.hid (sumB_len b)
            have NI := Lib.hid (zid_size (sumB b) HI.out)
            have SI := Lib.hid (sizeId HI.out)
            go_upto_region 12 with first
              | (go_at_call 9; refine hsum.mono ?_; rintro e wa ⟨rfl, ta⟩; have HDa := Lib.hid (HD8.out.still (local_st _ _ _ _) (local_ref _ _ _ _) ta); have HNa := Lib.hid (new32 wa); clear ta hsum)
              | (refine wpList_putc rfl _ _ _ rfl (idc (sumB b)) HNa.out NI.out (idc_one _) rfl rfl SI.out ?_; intro wb tb ab zb)
            obtain ⟨J, hJ⟩ : ∃ J, wa.heap.size = J := ⟨_, rfl⟩
            rw [hJ] at tb ab ⊢
            have HDb := Lib.hid (HDa.out.still (local_st _ _ _ _) (local_ref _ _ _ _) (((Turns.refl nobody wa).alloc _).trans tb (fun i hi => Or.inr (by omega))))
            have HAb := Lib.hid ab
            clear tb ab zb hJ r1
            have RJ := Lib.hid (range_of HAb.out)
            have hget := get_st HDb.out.a (sumB b) HI.out
            generalize hsb : sumB b = s at *
            go_upto_region 13 with first
              | (with_reducible refine wpList_load_mid rfl _ _ rfl _ _ rfl _ _ RJ.out Tryd.underlying31 rfl SI.out ?_)
              | (go_at_call 23; refine hget.mono ?_; rintro e wc ⟨rfl, tc⟩; have HDc := Lib.hid (HDb.out.still (local_st _ _ _ _) (local_ref _ _ _ _) tc); have HAc := Lib.hid (heap_newer HAb.out tc (fun h => h)); clear tc hget)
            have RJc := Lib.hid (range_of HAc.out)
            go_upto_region 14 with first
              | (with_reducible refine wpList_load_mid rfl _ _ rfl _ _ rfl _ _ RJc.out Tryd.underlying31 rfl SI.out ?_)
              | (go_at_call 24; refine (HRG.out _ _ HDc.out.c s HI.out).mono ?_; rintro e wd ⟨rfl, td⟩; have HDd := Lib.hid (HDc.out.still (local_st _ _ _ _) (local_ref _ _ _ _) td); have HAd := Lib.hid (heap_newer HAc.out td (fun h => h)); clear td)
            have HGI : Hid (decide (s ∈ ids E') = (getI E' s == 0)) := Lib.hid (by unfold getI; by_cases h : s ∈ ids E' <;> simp [h])
            have HRD : Hid (∀ W, Turns nobody wd W → W.rangeAt J 0 (idc s) ∧ W.rangeAt B0 0 (idc c) ∧ W.cell? ⟨bb, oo + j * 3 + 1, none⟩ = some (.string b)) := Lib.hid fun W ht => ⟨range_of (heap_newer HAd.out ht (fun h => h)), HCB.out _ ((HDd.out.still (local_st _ _ _ _) (local_ref _ _ _ _) ht).below), (HROW.out _ ((HDd.out.still (local_st _ _ _ _) (local_ref _ _ _ _) ht).below)).2.1⟩
            have hneq := fun (W : World) => str_neq (getS E' s) W
            have HB1000 : Hid (b.size ≤ 1000000) := Lib.hid (by omega)
            refine wp_region_mix [(0, true, true), (1, true, true), (2, true, true), (3, true, true), (4, true, true), (5, true, true), (6, true, true), (7, true, true), (8, true, true), (9, true, true), (10, true, true), (12, true, true), (13, true, true), (11, false, true), (14, true, true), (15, true, true), (16, true, true), (17, true, true), (18, true, true), (19, true, true), (20, true, true), (21, true, true), (22, true, true), (23, true, true), (25, true, true), (26, true, true), (27, true, true), (28, true, true), (29, true, true), (30, true, true), (24, false, true), (31, false, true), (32, true, true), (33, true, true), (34, true, true), (35, true, true), (36, true, true), (37, true, true)] (fun W => Turns nobody wd W) (by kernel_rfl) (by kernel_rfl) ((Turns.refl nobody wd).drew) ?_
            simp only [picked, List.filterMap_cons, List.filterMap_nil, List.getElem?_toArray, List.getElem?_cons_zero, List.getElem?_cons_succ, Option.map_some]
            iterate 10 (refine mix_free (v := ?_) rfl ?_ ?_; rotate_left; (focus (intro w' hI; go_simp; try with_reducible rfl)); simp only [Act.put, List.setIfInBounds_toArray, List.set_cons_zero, List.set_cons_succ])
            refine mix_free (v := .agg (idc s).toArray) rfl (fun w' hI => exec_load_mid _ _ rfl _ _ rfl (idc s) _ (HRD.out _ hI).1 Tryd.underlying31 rfl SI.out) ?_
            simp only [Act.put, List.setIfInBounds_toArray, List.set_cons_zero, List.set_cons_succ]
            iterate 2 (refine mix_free (v := ?_) rfl ?_ ?_; rotate_left; (focus (intro w' hI; go_simp; try with_reducible rfl)); simp only [Act.put, List.setIfInBounds_toArray, List.set_cons_zero, List.set_cons_succ])
            refine mix_big rfl (fun K' hK => ?_)
            go_wp2_with (go_at_call 25; refine (has_st (HDd.out.still (local_st _ _ _ _) (local_ref _ _ _ _) (Turns.refl nobody wd).drew).a s HI.out).mono ?_; rintro e we ⟨rfl, te⟩; have HTe := Lib.hid ((Turns.refl nobody wd).drew.trans te (fun _ h => False.elim h)); clear te)
            rw [HGI.out]
            refine hK _ _ (fun _ => HTe.out) ?_
            clear hK K'
            iterate 4 (refine mix_free (v := ?_) rfl ?_ ?_; rotate_left; (focus (intro w' hI; go_simp; try with_reducible rfl)); simp only [Act.put, List.setIfInBounds_toArray, List.set_cons_zero, List.set_cons_succ])
            refine mix_free (v := .agg (idc c).toArray) rfl (fun w' hI => exec_load_mid _ _ rfl _ _ rfl (idc c) _ (HRD.out _ hI).2.1 Tryd.underlying31 rfl SC.out) ?_
            simp only [Act.put, List.setIfInBounds_toArray, List.set_cons_zero, List.set_cons_succ]
            iterate 5 (refine mix_free (v := ?_) rfl ?_ ?_; rotate_left; (focus (intro w' hI; have d := (HRD.out _ hI).2.2; clear hI; go_simp; try with_reducible rfl)); simp only [Act.put, List.setIfInBounds_toArray, List.set_cons_zero, List.set_cons_succ])
            refine mix_free (v := .agg (idc c).toArray) rfl (fun w' hI => exec_load_mid _ _ rfl _ _ rfl (idc c) _ (HRD.out _ hI).2.1 Tryd.underlying31 rfl SC.out) ?_
            simp only [Act.put, List.setIfInBounds_toArray, List.set_cons_zero, List.set_cons_succ]
            iterate 5 (refine mix_free (v := ?_) rfl ?_ ?_; rotate_left; (focus (intro w' hI; have d := (HRD.out _ hI).2.2; clear hI; go_simp; try with_reducible rfl)); simp only [Act.put, List.setIfInBounds_toArray, List.set_cons_zero, List.set_cons_succ])
            have HDe := Lib.hid (HDd.out.still (local_st _ _ _ _) (local_ref _ _ _ _) HTe.out)
            refine mix_big rfl (fun K' hK => ?_)
            go_wp2_with (go_at_call 26; refine (verify_st HDe.out.a (Duo.tabs HDe.out HTB.out HPOS.out) c HCL.out b HB1000.out).mono ?_; rintro e wf ⟨rfl, tf⟩; have HTf := Lib.hid (HTe.out.trans tf (fun _ h => False.elim h)); clear tf)
            refine hK _ _ (fun _ => HTf.out) ?_
            clear hK K'
            refine mix_big rfl (fun K' hK => ?_)
            go_wp2_with (go_at_call 27; refine (verify_rf wf c HCL.out b HB1000.out).mono ?_; rintro e wg ⟨rfl, tg⟩; have HTg := Lib.hid (HTf.out.trans tg (fun _ h => False.elim h)); clear tg)
            refine hK _ _ (fun _ => HTg.out) ?_
            clear hK K'
            repeat (first | (refine mix_free (v := ?_) rfl ?_ ?_; rotate_left; (focus (intro w' hI; go_simp; try with_reducible rfl)); simp only [Act.put, List.setIfInBounds_toArray, List.set_cons_zero, List.set_cons_succ]) | (refine mix_skip rfl ?_; simp only [Act.put, List.setIfInBounds_toArray, List.set_cons_zero, List.set_cons_succ]))
            refine mix_nil ?_
            have HDg := Lib.hid (HDd.out.still (local_st _ _ _ _) (local_ref _ _ _ _) HTg.out)
            go_wp2
            go_roundw
            case rel => exact ⟨j + 1, E', P', HJL.out.1, HJL.out.2, by go_num, HOK2.out, _, _, HDg.out⟩
            case measure => simp [intOf]; omega
        · have hb2 : (1000 : Int) < (b.size : Int) := by omega
          unfold maxLen at hbm
          clear hb
          go_wp2
          go_roundw
          case rel => exact ⟨j + 1, E, P, HJL.out.1, HJL.out.2, by go_num, HOK.out.mono (Nat.le_succ j), _, _, HD.out⟩
          case measure => simp [intOf]; omega
      · have hex : rows.length ≤ j ∨ (j < rows.length ∧ 50 ≤ j) := by omega
        have haw := HAW.out _ hd.below hd.size
        clear hd hok hfit hrow hlt
        rcases hex with hex | ⟨hex1, hex2⟩
        all_goals
          go_wp2_with (go_at_call 8; refine haw.mono ?_; rintro e w9 ⟨rfl, hb9⟩; have HB9 := Lib.hid hb9; clear hb9)
          go_ret
          exact ⟨rfl, HB9.out⟩
  · have hN := new_bad qi (by omega) w1
    have haw := HAW.out (w1.alloc (.cells #[.int .i64 qi, .slice none 0 0, .slice none 0 0, .slice none 0 0] 47)) (((Turns.refl nobody w1).alloc _).below (by omega) (fun _ h => h.elim)) (by simp [z1])
    have hex : qi < 0 ∨ (0 ≤ qi ∧ 4096 < qi) := by omega
    clear hw1 t1 hB0 hb1 z1 ht ht1 hbel hq hpos hrow hfit
    rcases hex with hex | ⟨hex1, hex2⟩
    all_goals
      go_enter Tryd.func4, Tryd.ntmps4
      go_upto_region 1 with fail
      rw [← HW1.out, HB0.out]
      go_upto_region 5 with (go_at_call 7; refine hN.mono ?_; rintro e w2 ⟨rfl, rfl⟩)
      obtain ⟨w4, hw4⟩ : ∃ w4, w4 = w1.alloc (.cells #[.int .i64 qi, .slice none 0 0, .slice none 0 0, .slice none 0 0] 47) := ⟨_, rfl⟩
      have HW4 := Lib.hid hw4
      rw [← hw4] at haw
      clear hw4 hN
      rw [← HW4.out]
      go_wp2
      go_loopw [10] (fun i wr => i = .int .i64 0 ∧ w4 = wr) (fun _ _ => 0)
      case atStart => exact ⟨rfl, rfl⟩
      case round =>
        obtain ⟨rfl, rfl⟩ := hrel
        by_cases hl : 0 < rows.length
        · go_wp2_with (go_at_call 8; refine haw.mono ?_; rintro e w9 ⟨rfl, hb9⟩; have HB9 := Lib.hid hb9; clear hb9)
          go_ret
          exact ⟨rfl, HB9.out⟩
        · go_wp2_with (go_at_call 8; refine haw.mono ?_; rintro e w9 ⟨rfl, hb9⟩; have HB9 := Lib.hid hb9; clear hb9)
          go_ret
          exact ⟨rfl, HB9.out⟩

end Go.Proofs.YtjnplcajajdkiaaDoor.store
