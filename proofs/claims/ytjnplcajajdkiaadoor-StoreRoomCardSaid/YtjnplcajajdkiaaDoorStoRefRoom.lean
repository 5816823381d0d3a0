/- The reference's store: what must go. -/
import Derived.Test.YtjnplcajajdkiaaDoorStoRef
import Derived.Test.YtjnplcajajdkiaaDoorStoProg
namespace Go.Proofs.YtjnplcajajdkiaaDoor.store
open Go.RowKit
open Go.Proofs.YtjnplcajajdkiaaDoor.stepkit Go.Proofs.YtjnplcajajdkiaaDoor.eqkit Go.Proofs.YtjnplcajajdkiaaDoor.idkit Go.Proofs.YtjnplcajajdkiaaDoor.obj Go.Proofs.YtjnplcajajdkiaaDoor.row Go.Proofs.YtjnplcajajdkiaaDoor.mapkit Go.Proofs.YtjnplcajajdkiaaDoor.mix Go.Proofs.YtjnplcajajdkiaaDoor.lru
open Go.Proofs.YtjnplcajajdkiaaDoor.sha (wpList_putc new32 range_of)

set_option maxRecDepth 10000 in
theorem rroom_arg (X : Nat) (n : Int) (hn : n < 0) (w : World) :
    Calls Tryd.prog 46 #[.pointer (some ⟨X, 0, none⟩), .int .i64 n] w fun e w' => e = .returned (.tuple #[.slice none 0 0, .int .i64 1]) ∧ w = w' := by
  go_enter Tryd.func46, Tryd.ntmps46
  go_wp2
  go_ret2
  exact ⟨rfl, rfl⟩

/-- What the walk has so far. -/
structure RRoomI (w : World) (P : List (List Int)) (E : Held) (j : Nat) (v : Value) (wr : World) : Prop where
  s : ISl wr v (ids (outs P E j))
  f : ∀ i, blk v i → w.heap.size ≤ i
  t : Turns nobody w wr

set_option maxRecDepth 10000 in
set_option maxHeartbeats 2000000 in
theorem rroom_yes {X q : Nat} {E : Held} {P : List (List Int)} {v1 v2 v3 : Value} {w : World} (hc : RefC X q (ids E) (bodies E) P v1 v2 v3 w) (hw : Wh (ids E)) (hwp : Wh P) (n : Int) (hn0 : ¬ n < 0) (hq : q ≤ 4096) (hsz : sz E ≤ q) (hl : E.length ≤ 1000) (hpl : P.length ≤ 1000) :
    Calls Tryd.prog 46 #[.pointer (some ⟨X, 0, none⟩), .int .i64 n] w fun e w' => ∃ v, e = .returned (.tuple #[v, .int .i64 (roomE P q n E)]) ∧ ISl w' v (roomL P q n E) ∧ (∀ j, blk v j → w.heap.size ≤ j) ∧ Turns nobody w w' := by
  obtain ⟨i0, hi, hz0, hz1, hz2⟩ := infoIds_parts
  have s1 := hc.s1
  have s2 := hc.s2
  have s3 := hc.s3
  have hby := bytes_ref hc (by omega) (by omega)
  obtain ⟨ai, ci, rfl, _⟩ := (show Sl _ _ _ _ _ _ from s1).shape
  obtain ⟨ao, ca, rfl, _⟩ := (show Sl _ _ _ _ _ _ from s2).shape
  obtain ⟨ap, cp, rfl, _⟩ := (show Sl _ _ _ _ _ _ from s3).shape
  have HHI := Lib.hid (ISl.reads hw s1)
  have HHA := Lib.hid (SSl.reads s2)
  rw [bodies_len] at HHA
  rw [ids_len] at HHI
  have HC := Lib.hid hc
  have HS3 := Lib.hid s3
  have HXC : Hid (∀ W, Turns nobody w W → W.cell? ⟨X, 0, none⟩ = some (.int .i64 (q : Int)) ∧ W.cell? ⟨X, 1, none⟩ = some (.slice ai E.length ci) ∧ W.cell? ⟨X, 2, none⟩ = some (.slice ao E.length ca) ∧ W.cell? ⟨X, 3, none⟩ = some (.slice ap P.length cp)) := Lib.hid fun W ht => ⟨cells_of (HC.out.still ht).hp 0 _ rfl, by have := cells_of (HC.out.still ht).hp 1 _ rfl; rw [ids_len] at this; exact this, by have := cells_of (HC.out.still ht).hp 2 _ rfl; rw [bodies_len] at this; exact this, cells_of (HC.out.still ht).hp 3 _ rfl⟩
  have HBS := Lib.hid slice_id
  have HQ := Lib.hid hq
  have HL := Lib.hid hl
  have HFQ : Hid (∀ j, left P E j ≤ q) := Lib.hid fun j => Nat.le_trans (left_le P E j) hsz
  have HN0 : Hid (∀ a b : Int, (if n < 0 then a else b) = b) := Lib.hid fun a b => if_neg hn0
  have hnn : decide (n < 0) = false := decide_eq_false hn0
  clear hc s1 s2 s3 hq hl hsz
  go_enter Tryd.func46, Tryd.ntmps46
  go_wp2_with (go_at_call 21; refine hby.mono ?_; rintro e w1 ⟨rfl, t1⟩; have HT1 := Lib.hid t1; clear t1 hby)
  go_loopw [6, 7, 8] (fun v h i wr => ∃ j : Nat, j ≤ E.length ∧ (∀ i, i < j → ¬ n ≤ (q : Int) - left P E i) ∧ i = .int .i64 j ∧ h = .int .i64 (left P E j : Int) ∧ RRoomI w P E j v wr) (fun _ _ i _ => E.length - (intOf i).toNat)
  case atStart => exact ⟨0, Nat.zero_le _, (fun i hi => absurd hi (Nat.not_lt_zero i)), rfl, by rw [left_zero], ⟨by rw [outs_zero]; exact Sl.nil _ _ _, (fun i h => by cases h), HT1.out⟩⟩
  case round =>
    clear hnn
    obtain ⟨j, hj, hb, rfl, rfl, hr⟩ := hrel
    by_cases hlt : j < E.length
    · by_cases hno : n ≤ (q : Int) - left P E j
      · have hg := goes_eq hj hb (fun _ => hno)
        have he : roomE P q n E = 0 := by unfold roomE roomOk; rw [HN0.out, hg, if_pos (decide_eq_true hno)]
        have hll : roomL P q n E = ids (outs P E j) := by unfold roomL roomIds; rw [if_pos he, hg]
        have HE := Lib.hid he
        have HLL := Lib.hid hll
        have HR := Lib.hid hr
        have hlq : (left P E j : Int) ≤ (q : Int) := by have := HFQ.out j; omega
        have hq4 : (q : Int) ≤ 4096 := by have := HQ.out; omega
        obtain ⟨z0, z1, z2, z3⟩ := HXC.out _ hr.t
        clear hr he hll hg hb hj
        go_wp2
        go_ret2
        exact ⟨_, by rw [HE.out]; rfl, by rw [HLL.out]; exact HR.out.s, HR.out.f, HR.out.t⟩
      · by_cases hp : (en E j).1 ∈ P
        ·
          have hid := wh_get hw (k := j) (by rw [ids_len]; exact hlt)
          rw [ids_get E hlt] at hid
          obtain ⟨gi, oi, hai, ri⟩ := HHI.out j hlt
          obtain ⟨g, o, hao, ra⟩ := HHA.out j hlt
          rw [hai, hao] at HXC
          rw [ids_get E hlt] at ri
          have e : (bodies E).getD j ⟨#[]⟩ = (en E j).2 := by rw [List.getD, bodies_get E hlt]; rfl
          rw [e] at ra
          have RI := Lib.hid ri
          have RA := Lib.hid ra
          have HIO := Lib.hid (ids_outs P E hlt)
          have hleft := left_succ P E hlt
          have hhas := fun W (ht : Turns nobody w W) => ref_has _ P hwp (en E j).1 hid W (Sl.keep HS3.out ht (fun _ _ h => h)) (by omega)
          have hol := Nat.le_trans (outs_len P E j) HL.out
          obtain ⟨av, cv, rfl, _⟩ := (show Sl _ _ _ _ _ _ from hr.s).shape
          have HRT := Lib.hid hr.t
          have HRS := Lib.hid hr.s
          have HRF := Lib.hid hr.f
          have HLB := Lib.hid hleft
          have HLT := Lib.hid hlt
          have HNO := Lib.hid hno
          have HBE := Lib.hid hb
          have HHAS := Lib.hid hhas
          have SK := Lib.hid (sizeId hid)
          have HID := Lib.hid hid
          obtain ⟨z0, z1, z2, z3⟩ := HXC.out _ HRT.out
          have hlt' : (j : Int) < (E.length : Int) := by omega
          have hj1k : (j : Int) < 1000 := by have := HL.out; omega
          have hno' : (q : Int) - (left P E j : Int) < n := by omega
          have hlq : (left P E j : Int) ≤ (q : Int) := by have := HFQ.out j; omega
          have hq4 : (q : Int) ≤ 4096 := by have := HQ.out; omega
          clear hr hleft hhas ri ra e hno hb hai hao hid
          rw [decide_eq_true hp] at HHAS
          rw [if_pos hp] at HLB HIO
          clear hp
          generalize (en E j).1 = eid at *
          go_upto_region 8 with fail
          clear z0 z1 z2 z3
          refine wp_region_mix [(0, true, true), (1, true, true), (2, true, true), (3, true, true), (4, true, true), (5, true, true), (6, true, true), (7, true, true), (8, true, true), (9, true, true), (10, true, true), (11, false, true), (12, true, true)] (fun W => Turns nobody wr W) (by kernel_rfl) (by kernel_rfl) ((Turns.refl nobody wr).drew) ?_
          simp only [picked, List.filterMap_cons, List.filterMap_nil, List.getElem?_toArray, List.getElem?_cons_zero, List.getElem?_cons_succ, Option.map_some]
          iterate 10 (refine mix_free (v := ?_) rfl ?_ ?_; rotate_left; (focus (intro w' hI; obtain ⟨z0, z1, z2, z3⟩ := HXC.out _ (HRT.out.trans hI (fun _ h => False.elim h)); clear hI; go_simp; try with_reducible rfl)); simp only [Act.put, List.setIfInBounds_toArray, List.set_cons_zero, List.set_cons_succ])
          refine mix_free (v := .agg (idc eid).toArray) rfl (fun w' hI => exec_load_mid _ _ rfl _ _ rfl (idc eid) _ (RI.out _ (HRT.out.trans hI (fun _ h => False.elim h))) Tryd.underlying31 rfl SK.out) ?_
          simp only [Act.put, List.setIfInBounds_toArray, List.set_cons_zero, List.set_cons_succ]
          refine mix_big rfl (fun K hK => ?_)
          go_wp2_with (go_at_call 47; refine (HHAS.out _ HRT.out.drew).mono ?_; rintro e w2 ⟨rfl, t2⟩; have HT02 := Lib.hid ((Turns.refl nobody wr).drew.trans t2 (fun _ h => False.elim h)); clear t2)
          refine hK _ _ (fun _ => HT02.out) ?_
          clear hK K
          repeat (refine mix_free (v := ?_) rfl ?_ ?_; rotate_left; (focus (intro w' hI; go_simp; try with_reducible rfl)); simp only [Act.put, List.setIfInBounds_toArray, List.set_cons_zero, List.set_cons_succ])
          refine mix_nil ?_
          have HT2 := Lib.hid (HRT.out.trans HT02.out (fun _ h => False.elim h))
          obtain ⟨y0, y1, y2, y3⟩ := HXC.out _ HT2.out
          clear y0 y2 y3
          go_wp2
          go_roundw
          case rel =>
            refine ⟨j + 1, HLT.out, fun i hi => ?_, by go_num, ?_, ⟨?_, HRF.out, HT2.out⟩⟩
            · rcases Nat.lt_or_ge i j with h | h
              · have := HBE.out i h; omega
              · rw [show i = j by omega]; have := HNO.out; omega
            · have := HLB.out; rw [show left P E (j + 1) = left P E j by omega]
            · have := HIO.out; rw [List.append_nil] at this; rw [this]; exact Sl.keep HRS.out HT02.out (fun _ _ h => h)
          case measure => simp [intOf]; have := HLT.out; omega
        ·
          have hid := wh_get hw (k := j) (by rw [ids_len]; exact hlt)
          rw [ids_get E hlt] at hid
          obtain ⟨gi, oi, hai, ri⟩ := HHI.out j hlt
          obtain ⟨g, o, hao, ra⟩ := HHA.out j hlt
          rw [hai, hao] at HXC
          rw [ids_get E hlt] at ri
          have e : (bodies E).getD j ⟨#[]⟩ = (en E j).2 := by rw [List.getD, bodies_get E hlt]; rfl
          rw [e] at ra
          have RI := Lib.hid ri
          have RA := Lib.hid ra
          have HIO := Lib.hid (ids_outs P E hlt)
          have hleft := left_succ P E hlt
          have hhas := fun W (ht : Turns nobody w W) => ref_has _ P hwp (en E j).1 hid W (Sl.keep HS3.out ht (fun _ _ h => h)) (by omega)
          have hol := Nat.le_trans (outs_len P E j) HL.out
          obtain ⟨av, cv, rfl, _⟩ := (show Sl _ _ _ _ _ _ from hr.s).shape
          have HRT := Lib.hid hr.t
          have HRS := Lib.hid hr.s
          have HRF := Lib.hid hr.f
          have HLB := Lib.hid hleft
          have HLT := Lib.hid hlt
          have HNO := Lib.hid hno
          have HBE := Lib.hid hb
          have HHAS := Lib.hid hhas
          have SK := Lib.hid (sizeId hid)
          have HID := Lib.hid hid
          obtain ⟨z0, z1, z2, z3⟩ := HXC.out _ HRT.out
          have hlt' : (j : Int) < (E.length : Int) := by omega
          have hj1k : (j : Int) < 1000 := by have := HL.out; omega
          have hno' : (q : Int) - (left P E j : Int) < n := by omega
          have hlq : (left P E j : Int) ≤ (q : Int) := by have := HFQ.out j; omega
          have hq4 : (q : Int) ≤ 4096 := by have := HQ.out; omega
          clear hr hleft hhas ri ra e hno hb hai hao hid
          rw [decide_eq_false hp] at HHAS
          rw [if_neg hp] at HLB HIO
          clear hp
          have hle2 : (left P E j : Int) ≤ 4096 := by omega
          have hle3 : (0 : Int) ≤ (left P E j : Int) - ((en E j).2.size : Int) := by have := HLB.out; omega
          have hle4 : (en E j).2.size ≤ 4096 := by omega
          have hyl : (ids (outs P E j)).length ≤ 1000 := by rw [ids_len]; exact hol
          generalize (en E j).1 = eid at *
          generalize (en E j).2 = eb at *
          generalize hy : ids (outs P E j) = y at *
          go_upto_region 8 with fail
          clear z0 z1 z2 z3
          refine wp_region_mix [(0, true, true), (1, true, true), (2, true, true), (3, true, true), (4, true, true), (5, true, true), (6, true, true), (7, true, true), (8, true, true), (9, true, true), (10, true, true), (11, false, true), (12, true, true)] (fun W => Turns nobody wr W) (by kernel_rfl) (by kernel_rfl) ((Turns.refl nobody wr).drew) ?_
          simp only [picked, List.filterMap_cons, List.filterMap_nil, List.getElem?_toArray, List.getElem?_cons_zero, List.getElem?_cons_succ, Option.map_some]
          iterate 10 (refine mix_free (v := ?_) rfl ?_ ?_; rotate_left; (focus (intro w' hI; obtain ⟨z0, z1, z2, z3⟩ := HXC.out _ (HRT.out.trans hI (fun _ h => False.elim h)); clear hI; go_simp; try with_reducible rfl)); simp only [Act.put, List.setIfInBounds_toArray, List.set_cons_zero, List.set_cons_succ])
          refine mix_free (v := .agg (idc eid).toArray) rfl (fun w' hI => exec_load_mid _ _ rfl _ _ rfl (idc eid) _ (RI.out _ (HRT.out.trans hI (fun _ h => False.elim h))) Tryd.underlying31 rfl SK.out) ?_
          simp only [Act.put, List.setIfInBounds_toArray, List.set_cons_zero, List.set_cons_succ]
          refine mix_big rfl (fun K hK => ?_)
          go_wp2_with (go_at_call 47; refine (HHAS.out _ HRT.out.drew).mono ?_; rintro e w2 ⟨rfl, t2⟩; have HT02 := Lib.hid ((Turns.refl nobody wr).drew.trans t2 (fun _ h => False.elim h)); clear t2)
          refine hK _ _ (fun _ => HT02.out) ?_
          clear hK K
          repeat (refine mix_free (v := ?_) rfl ?_ ?_; rotate_left; (focus (intro w' hI; go_simp; try with_reducible rfl)); simp only [Act.put, List.setIfInBounds_toArray, List.set_cons_zero, List.set_cons_succ])
          refine mix_nil ?_
          have HT2 := Lib.hid (HRT.out.trans HT02.out (fun _ h => False.elim h))
          obtain ⟨y0, y1, y2, y3⟩ := HXC.out _ HT2.out
          have RI2 := Lib.hid (RI.out _ HT2.out)
          obtain ⟨W1, hW1⟩ : ∃ W1, W1 = w2.alloc (.cells (idc eid).toArray 31) := ⟨_, rfl⟩
          have ht1 : Turns nobody w2 W1 := by rw [hW1]; exact (Turns.refl _ _).alloc _
          have HQ1 := Lib.hid (src_one (id := eid) (by rw [hW1]; exact heap_alloc_new w2 _ : W1.heap[w2.heap.size]? = _) HID.out)
          have HS1 := Lib.hid (Sl.keep (Sl.keep HRS.out HT02.out (fun _ _ h => h)) ht1 (fun _ _ h => h))
          have HT3 := Lib.hid (HT2.out.trans ht1 (fun _ h => False.elim h))
          have HW1 := Lib.hid hW1
          clear hW1 ht1 y0 y2 y3
          go_upto_region 10 with first
            | (with_reducible refine wpList_load_mid rfl _ _ rfl _ _ rfl _ _ RI2.out Tryd.underlying31 rfl SK.out ?_)
            | (with_reducible refine wpList_build_run rfl _ _ _ rfl #[(0, .agg (idc eid).toArray)] (by kernel_rfl) (HBS.out _ HID.out _) ?_)
            | (at_builtin; rw [← HW1.out]; refine wpList_append_sl rfl _ _ 36 rfl Tryd.underlying36 hi hz0 hz1 hz2 (by rw [Value.cells]; simp [idc_len, zid_len]) (by decide) rfl rfl HS1.out HQ1.out (by unfold maxLen; omega) (by omega) ?_; intro v50 w5 h5 t5 n5 _; obtain ⟨ao5, cap5, rfl, _⟩ := (show Sl _ _ _ _ _ _ from h5).shape)
          have HS5 : Hid (ISl w5 (.slice ao5 (y.length + 1) cap5) (y ++ [eid])) := Lib.hid (by unfold ISl; rw [List.length_append, List.length_singleton, icells_append]; exact h5)
          have HT5 : Hid (Turns nobody w w5) := Lib.hid (HT3.out.trans t5 (fun i hi => Or.inr (HRF.out i hi)))
          have HF5 : Hid (∀ i, blk (.slice ao5 (y.length + 1) cap5) i → w.heap.size ≤ i) := Lib.hid (fun i hb => by
            rcases n5 i hb with h | h
            · exact HRF.out i h
            · exact Nat.le_trans HT3.out.size h)
          obtain ⟨_, _, x2, _⟩ := HXC.out _ HT5.out
          have r5 := RA.out _ HT5.out
          clear h5 t5 n5 y1
          go_wp2
          go_roundw
          case rel =>
            refine ⟨j + 1, HLT.out, fun i hi => ?_, by go_num, ?_, ⟨?_, HF5.out, HT5.out⟩⟩
            · rcases Nat.lt_or_ge i j with h | h
              · have := HBE.out i h; omega
              · rw [show i = j by omega]; have := HNO.out; omega
            · have := HLB.out; rw [show ((left P E (j + 1) : Nat) : Int) = (left P E j : Int) - (eb.size : Int) by omega]
            · have := HIO.out; rw [this]; exact HS5.out
          case measure => simp [intOf]; have := HLT.out; omega
    · have hjl : j = E.length := by omega
      have hg := goes_eq (q := q) (n := n) hj hb (fun h => absurd h hlt)
      by_cases hno : n ≤ (q : Int) - left P E j
      · have he : roomE P q n E = 0 := by unfold roomE roomOk; rw [HN0.out, hg, if_pos (decide_eq_true hno)]
        have hll : roomL P q n E = ids (outs P E j) := by unfold roomL roomIds; rw [if_pos he, hg]
        have HE := Lib.hid he
        have HLL := Lib.hid hll
        have HR := Lib.hid hr
        have hlq : (left P E j : Int) ≤ (q : Int) := by have := HFQ.out j; omega
        have hq4 : (q : Int) ≤ 4096 := by have := HQ.out; omega
        obtain ⟨z0, z1, z2, z3⟩ := HXC.out _ hr.t
        clear hr he hll hg hb hj hjl
        go_wp2
        go_ret2
        exact ⟨_, by rw [HE.out]; rfl, by rw [HLL.out]; exact HR.out.s, HR.out.f, HR.out.t⟩
      · have he : roomE P q n E = 14 := by unfold roomE roomOk; rw [HN0.out, hg, if_neg (by simpa using hno)]
        have hll : roomL P q n E = [] := by unfold roomL; rw [he]; rfl
        have HE := Lib.hid he
        have HLL := Lib.hid hll
        have HR := Lib.hid hr
        have hlq : (left P E j : Int) ≤ (q : Int) := by have := HFQ.out j; omega
        have hq4 : (q : Int) ≤ 4096 := by have := HQ.out; omega
        obtain ⟨z0, z1, z2, z3⟩ := HXC.out _ hr.t
        clear hr he hll hg hb hj hjl
        go_wp2
        go_ret2
        exact ⟨_, by rw [HE.out]; rfl, by rw [HLL.out]; exact Sl.nil _ _ _, (fun i h => by cases h), HR.out.t⟩

end Go.Proofs.YtjnplcajajdkiaaDoor.store
