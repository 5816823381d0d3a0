/- bytesOf: records one behind the other. -/
import Derived.Test.YtlhcmgjkhkcgcaaDoorRecAll
import Derived.Test.YtlhcmgjkhkcgcaaDoorRecPack
import Derived.Test.YtlhcmgjkhkcgcaaDoorFlatKit
import Derived.Deep.CutRange
import Derived.Laws.Concat
namespace Go.Proofs.YtlhcmgjkhkcgcaaDoor.record
open Go.RowKit
open Go.Proofs.YtlhcmgjkhkcgcaaDoor.stepkit Go.Proofs.YtlhcmgjkhkcgcaaDoor.obj Go.Proofs.YtlhcmgjkhkcgcaaDoor.row Go.Proofs.YtlhcmgjkhkcgcaaDoor.mix Go.Proofs.YtlhcmgjkhkcgcaaDoor.idkit Go.Proofs.YtlhcmgjkhkcgcaaDoor.bytes Go.Proofs.YtlhcmgjkhkcgcaaDoor.octet Go.Proofs.YtlhcmgjkhkcgcaaDoor.eqkit Go.Proofs.YtlhcmgjkhkcgcaaDoor.argkit

/-! ### A list of records that came in -/
def recKinds : List TypeDesc := [.int .i64, .string]
def rcs (r : RV) : List Value := [.int .i64 r.1, .string r.2]
theorem rec_rows : ∀ (rows : List (List Value)), (∀ r ∈ rows, Fits recKinds r) → ∃ l : List RV, rows = l.map rcs ∧ ∀ r ∈ l, r.2.size ≤ maxLen ∧ (Lit.int .i64 r.1).wf = true
  | [], _ => ⟨[], rfl, fun _ h => by cases h⟩
  | r :: rows, h => by
    obtain ⟨l, hl, hb⟩ := rec_rows rows (fun r hr => h r (by simp [hr]))
    obtain ⟨_, q1, rfl, ⟨k, rfl, wk⟩, f1⟩ := (h r (by simp)).cons
    obtain ⟨_, q2, rfl, ⟨s, rfl, ws⟩, f2⟩ := f1.cons
    obtain rfl := f2.nil
    refine ⟨(k, s) :: l, by rw [hl]; rfl, fun r hr => ?_⟩
    rcases List.mem_cons.1 hr with rfl | hr
    · exact ⟨ws, wk⟩
    · exact hb r hr
/-- What came in reads as these records. -/
def RIn (w : World) (B : Nat) (ao : Option Addr) (l : List RV) : Prop :=
  0 < l.length → ∃ b o, ao = some ⟨b, o, none⟩ ∧ b < B ∧ ∀ i, i < l.length → w.cell? ⟨b, o + i * 2, none⟩ = some (.int .i64 (l.getD i (0, nil)).1) ∧ w.cell? ⟨b, o + i * 2 + 1, none⟩ = some (.string (l.getD i (0, nil)).2)
theorem rin_at {w : World} {B : Nat} {ao : Option Addr} {l : List RV} (h : RowsAt w B 2 ao (l.map rcs)) : RIn w B ao l := by
  intro h0
  obtain ⟨b, o, h1, h2, h3⟩ := h (by simpa using h0)
  refine ⟨b, o, h1, h2, fun i hi => ?_⟩
  have hc := fun j (hj : j < 2) => h3 i (by simpa using hi) j hj
  have hg : (l.map rcs).getD i [] = rcs (l.getD i (0, nil)) := by simp [List.getD, hi]
  rw [hg] at hc
  exact ⟨hc 0 (by omega), hc 1 (by omega)⟩
theorem RIn.keep {w w' : World} {B : Nat} {F : Nat → Prop} {ao : Option Addr} {l : List RV} (h : RIn w B ao l) (ht : Turns F w w') (hB : B ≤ w.heap.size) (hF : ∀ i, F i → B ≤ i) : RIn w' B ao l := by
  intro h0
  obtain ⟨b, o, h1, h2, h3⟩ := h h0
  refine ⟨b, o, h1, h2, fun i hi => ⟨(ht.cell (p := ⟨b, _, none⟩) (by show b < _; omega) (fun hf => absurd (hF b hf) (by omega))).trans (h3 i hi).1, (ht.cell (p := ⟨b, _, none⟩) (by show b < _; omega) (fun hf => absurd (hF b hf) (by omega))).trans (h3 i hi).2⟩⟩
theorem RIn.at_ {w : World} {B : Nat} {ao : Option Addr} {l : List RV} (h : RIn w B ao l) (i : Nat) (hi : i < l.length) : ∃ b o, ao = some ⟨b, o, none⟩ ∧ w.cell? ⟨b, o + i * 2, none⟩ = some (.int .i64 (l.getD i (0, nil)).1) ∧ w.cell? ⟨b, o + i * 2 + 1, none⟩ = some (.string (l.getD i (0, nil)).2) := by
  obtain ⟨b, o, h1, h2, h3⟩ := h (by omega)
  exact ⟨b, o, h1, h3 i hi⟩

/-! ### Numbers in a slice -/
def icells (l : List Nat) : List Value := l.map fun (n : Nat) => Value.int .i64 (n : Int)
def ISl (w : World) (v : Value) (l : List Nat) : Prop := Sl w 3 1 v l.length (icells l)
theorem infoInt1 : (Tryd.prog.info? 3).map (fun i => (i.zero, i.size, i.bytes)) = some (some (.int .i64 0), 1, 8) := by kernel_rfl
theorem src_int {w : World} {b : Nat} {n : Int} {t : TypeId} (h : w.heap[b]? = some (.cells #[.int .i64 n] t (0, 0))) : Go.Proofs.YtlhcmgjkhkcgcaaDoor.obj.Src w 1 (.slice (some ⟨b, 0, none⟩) 1 1) 1 [.int .i64 n] := by
  refine Go.Proofs.YtlhcmgjkhkcgcaaDoor.obj.Src.of_row (by simp) (fun u hu => by simp only [List.mem_singleton] at hu; subst hu; rfl) (fun j u hu => ?_)
  rw [Addr.add_lit]
  rw [show (0 : Nat) + j = j by omega]
  refine cells_of h j u ?_
  simpa using hu
theorem apart_sl {w : World} {e e' : TypeId} {sz sz' n n' : Nat} {v v' : Value} {xs xs' : List Value} (h : Sl w e sz v n xs) (h' : Sl w e' sz' v' n' xs') (hne : e ≠ e') : ∀ i, blk v i → ¬ blk v' i := fun i hi hi' => by
  obtain ⟨c, h1⟩ := Sl.elem h i hi
  obtain ⟨c', h2⟩ := Sl.elem h' i hi'
  rw [h1] at h2
  cases h2
  exact hne rfl

def Good (g : List RV) : Prop := ∀ r ∈ g, good r = true
structure BI (w : World) (g : List RV) (p q : Value) (W : World) : Prop where
  sp : RSl W p g
  sq : ISl W q (ends g)
  np : ∀ j, blk p j → w.heap.size ≤ j
  nq : ∀ j, blk q j → w.heap.size ≤ j
  tu : Turns nobody w W
theorem BI.still {w : World} {g : List RV} {p q : Value} {W W' : World} (h : BI w g p q W) (ht : Turns nobody W W') : BI w g p q W' :=
  ⟨Sl.keep h.sp ht (fun _ _ h => h), Sl.keep h.sq ht (fun _ _ h => h), h.np, h.nq, h.tu.trans ht (fun _ h => h.elim)⟩
theorem arr_cat (a b : List UInt8) : (⟨a.toArray⟩ : ByteArray) ++ ⟨b.toArray⟩ = ⟨(a ++ b).toArray⟩ := by
  apply ByteArray.ext
  apply Array.ext'
  simp

structure Stop (P : Prop) : Prop where
  out : P
theorem stop_here {P : Prop} (h : Stop P) : P := h.out
set_option maxRecDepth 10000 in
set_option maxHeartbeats 1000000 in
theorem of_any (ao : Option Addr) (l : List RV) (cap : Nat) (w : World) (hcap : l.length ≤ 9223372036854775807) (hsz : ∀ r ∈ l, r.2.size ≤ 9223372036854775807) (hin : RIn w w.heap.size ao l) (ht : crc.TabAt w) :
    Calls Tryd.prog 25 #[.slice ao l.length cap] w fun e w' => ∃ g v1 v2, e = .returned (.tuple #[.string ⟨(cat g).toArray⟩, v1, v2]) ∧ Good g ∧ g.length ≤ 20 ∧ BI w g v1 v2 w' := by
  obtain ⟨i1, hi1, hz10, hz11, hz12⟩ := infoRec2
  obtain ⟨i2, hi2, hz20, hz21, hz22⟩ := info_parts infoInt1
  have HSZ := Lib.hid hsz
  have HIN := Lib.hid hin
  have HTB := Lib.hid ht
  clear hsz hin ht hcap
  go_enter Tryd.func25, Tryd.ntmps25
  go_upto_region 5 with fail
  go_loopw [5, 6, 7, 8] (fun a p q i wr => ∃ k : Nat, i = .int .i64 k ∧ k ≤ l.length ∧ k ≤ 20 ∧ a = .string ⟨(cat (goods l k)).toArray⟩ ∧ BI w (goods l k) p q wr)
    (fun a p q i wr => 20 - (intOf i).toNat)
  case atStart => exact ⟨0, rfl, Nat.zero_le _, Nat.zero_le _, rfl, Sl.nil _ _ _, Sl.nil _ _ _, (fun j h => by cases h), (fun j h => by cases h), Turns.refl _ _⟩
  case round =>
    obtain ⟨k, rfl, hkl, hk20, rfl, hb⟩ := hrel
    obtain ⟨ap, cp, rfl, -⟩ := Sl.shape hb.sp
    obtain ⟨aq, cq, rfl, -⟩ := Sl.shape hb.sq
    have HB := Lib.hid hb
    clear hb
    by_cases hlt : k < l.length
    · by_cases hlt2 : k < 20
      · obtain ⟨b0, o0, rfl, c0, c1⟩ := (HIN.out.keep HB.out.tu (Nat.le_refl _) (fun _ h => h.elim)).at_ k hlt
        have hput := put_any (l.getD k (0, nil)).1 (l.getD k (0, nil)).2 wr (Tab.turns HTB.out HB.out.tu (fun h => h)) (HSZ.out _ (by rw [List.getD_eq_getElem?_getD, List.getElem?_eq_getElem hlt]; exact List.getElem_mem hlt))
        unfold recV at hput
        have hy := goods_yes l k hlt
        have hno := goods_no l k hlt
        obtain ⟨r, hr⟩ : ∃ r, l.getD k (0, nil) = r := ⟨_, rfl⟩
        rw [hr] at c0 c1 hput hy hno
        by_cases hg : good r = true
        · have hgs := hy hg
          have hE := (good_iff hg).2.2.2
          have hS := good_rb hg
          have hsm := good_small hg
          rw [hE, hS] at hput
          have hcg : (⟨(cat (goods l (k + 1))).toArray⟩ : ByteArray) = ⟨(cat (goods l k)).toArray⟩ ++ ⟨(rb r).toArray⟩ := by
            rw [hgs, cat_append, arr_cat]
            simp [cat]
          have hszA : (⟨(cat (goods l k)).toArray⟩ : ByteArray).size + (⟨(rb r).toArray⟩ : ByteArray).size = (cat (goods l k ++ [r])).length := by
            rw [cat_append, List.length_append]
            show (cat (goods l k)).toArray.size + (rb r).toArray.size = _
            simp [cat]
          have hS3 : (((⟨(rb r).toArray⟩ : ByteArray).size : Nat) : Int) < 3000 := by
            show (((rb r).toArray.size : Nat) : Int) < 3000
            rw [List.size_toArray]; omega
          have hAz : (⟨(cat (goods l k)).toArray⟩ : ByteArray).size ≤ 60000 := by
            have h1 := cat_small (goods_good l k)
            have h2 := goods_len l k
            show (cat (goods l k)).toArray.size ≤ _
            rw [List.size_toArray]; omega
          have hSz : (⟨(rb r).toArray⟩ : ByteArray).size ≤ 3000 := by
            show (rb r).toArray.size ≤ _
            rw [List.size_toArray]; omega
          obtain ⟨S, hS'⟩ : ∃ S : ByteArray, ⟨(rb r).toArray⟩ = S := ⟨_, rfl⟩
          obtain ⟨A, hA'⟩ : ∃ A : ByteArray, ⟨(cat (goods l k)).toArray⟩ = A := ⟨_, rfl⟩
          rw [hS'] at hput hcg hS3 hszA hSz
          rw [hA'] at hcg hszA hAz ⊢
          have hgl := goods_len l k
          have hel := ends_len (goods l k)
          have HGS := Lib.hid hgs
          have HCG := Lib.hid hcg
          have HSA := Lib.hid hszA
          have HGL := Lib.hid hgl
          have HEL := Lib.hid hel
          clear hy hno hr hg hgs hE hS hsm hcg hS' hA' hszA hgl hel
          generalize goods l k = g at *
          obtain ⟨rk, rbd⟩ := r
          simp only at c0 c1 hput
          have hlI : (k : Int) < (l.length : Int) := by omega
          have hl2 : (k : Int) < 20 := by omega
          go_upto_region 9 with (go_at_call 17; refine hput.mono ?_; rintro e w1 ⟨rfl, t1⟩; have HB1 := Lib.hid (HB.out.still t1); have d0 := (t1.cell (p := ⟨b0, _, none⟩) (lt_of_cell' c0) (fun h => h)).trans c0; have d1 := (t1.cell (p := ⟨b0, _, none⟩) (lt_of_cell' c1) (fun h => h)).trans c1; clear c0 c1 t1)

          clear hS3
          have HSP : Hid (∀ o, Sl (w1.alloc o) 23 2 (.slice ap g.length cp) g.length (rcells g)) := Lib.hid (fun o => Sl.keep HB1.out.sp ((Turns.refl nobody _).alloc o) (fun _ _ h => h))
          have HSQ : Hid (∀ o, Sl (w1.alloc o) 3 1 (.slice aq (ends g).length cq) (ends g).length (icells (ends g))) := Lib.hid (fun o => Sl.keep HB1.out.sq ((Turns.refl nobody _).alloc o) (fun _ _ h => h))
          have HAP : Hid (∀ i, blk (.slice aq (ends g).length cq) i → ¬ blk (.slice ap g.length cp) i) := Lib.hid (apart_sl HB1.out.sq HB1.out.sp (by decide))
          go_wp2_with first
            | (at_builtin; refine wpList_append_sl (n := g.length) (m := 1) rfl _ _ 41 rfl Tryd.underlying41 hi1 hz10 hz11 hz12 rfl (by decide) rfl rfl (HSP.out (.cells #[.int .i64 rk, .string rbd] 23)) (src_rec (r := (rk, rbd)) (heap_alloc_new _ _)) (by have := HGL.out; unfold maxLen; omega) (by have := HGL.out; omega) ?_; intro v5 w5 h5 t5 n5 _; have H5 := Lib.hid h5; have T5 := Lib.hid t5; have N5 := Lib.hid n5; have HQ5 := Lib.hid (fun o => Sl.keep (Sl.keep (HSQ.out (.cells #[.int .i64 rk, .string rbd] 23)) t5 HAP.out) ((Turns.refl nobody _).alloc o) (fun _ _ h => h)); clear h5 t5 n5; obtain ⟨ap5, cp5, rfl, -⟩ := H5.out.shape)
            | (at_builtin; refine wpList_append_sl (n := (ends g).length) (m := 1) rfl _ _ 48 rfl Tryd.underlying48 hi2 hz20 hz21 hz22 rfl (by decide) rfl rfl (HQ5.out (.cells #[.int .i64 ((A.size : Int) + (S.size : Int))] 3)) (src_int (n := ((A.size : Int) + (S.size : Int))) (heap_alloc_new _ _)) (by have := HGL.out; have := HEL.out; unfold maxLen; omega) (by have := HGL.out; have := HEL.out; omega) ?_; intro v6 w6 h6 t6 n6 _; have H6 := Lib.hid h6; have T6 := Lib.hid t6; have N6 := Lib.hid n6; clear h6 t6 n6; obtain ⟨aq6, cq6, rfl, -⟩ := H6.out.shape)

          go_roundw
          case rel =>
            have hx1 : Turns nobody w1 (w1.alloc (.cells #[.int .i64 rk, .string rbd] 23)) := (Turns.refl _ _).alloc _
            have hx5 : Turns nobody w5 (w5.alloc (.cells #[.int .i64 ((A.size : Int) + (S.size : Int))] 3)) := (Turns.refl _ _).alloc _
            have h5a := Sl.keep H5.out hx5 (fun _ _ h => h)
            have hap := apart_sl h5a (HQ5.out (.cells #[.int .i64 ((A.size : Int) + (S.size : Int))] 3)) (by decide)
            have np5 : ∀ j, blk (.slice ap5 (g.length + 1) cp5) j → w.heap.size ≤ j := fun j hj => by
              rcases N5.out j hj with h | h
              · exact HB1.out.np j h
              · exact Nat.le_trans (HB1.out.tu.trans hx1 (fun _ h => h.elim)).size h
            have t5' := (HB1.out.tu.trans hx1 (fun _ h => h.elim)).trans2 T5.out (fun j hj => HB1.out.np j hj)
            refine ⟨k + 1, by go_num, hlt, hlt2, by rw [HCG.out], ?_⟩
            rw [HGS.out]
            refine ⟨?_, ?_, np5, fun j hj => ?_, (t5'.trans hx5 (fun _ h => h.elim)).trans2 T6.out (fun j hj => HB1.out.nq j hj)⟩
            · unfold RSl
              rw [List.length_append, List.length_singleton, rcells_append]
              exact Sl.keep h5a T6.out hap
            · have h6 := H6.out
              unfold ISl icells at *
              rw [ends_snoc, List.length_append, List.length_singleton, List.map_append, ← HSA.out]
              simpa using h6
            · rcases N6.out j hj with h | h
              · exact HB1.out.nq j h
              · exact Nat.le_trans (t5'.trans hx5 (fun _ h => h.elim)).size h
          case measure => simp [intOf]; omega
        · have hgs := hno hg
          have HGS := Lib.hid hgs
          have hl2 : (k : Int) < 20 := by omega
          have hlI : (k : Int) < (l.length : Int) := by omega
          have hgr : putE r.1 r.2 = 0 → ¬ (putS r.1 r.2).size < 3000 := fun h1 h2 => hg (by unfold good; rw [decide_eq_true h1, decide_eq_true h2]; rfl)
          obtain ⟨rk, rbd⟩ := r
          simp only at c0 c1 hput hgr
          generalize putS rk rbd = S at *
          clear hgs hy hno hr hg
          rcases Nat.eq_zero_or_pos (putE rk rbd) with he | he
          · rw [he] at hput
            have hS3 : decide ((S.size : Int) < 3000) = false := decide_eq_false (by have := hgr he; omega)
            clear hgr he
            go_wp2_with (go_at_call 17; refine hput.mono ?_; rintro e w1 ⟨rfl, t1⟩; have HB1 := Lib.hid (HB.out.still t1); clear t1)
            go_roundw
            case rel => exact ⟨k + 1, by go_num, hlt, hlt2, by rw [HGS.out], by rw [HGS.out]; exact HB1.out⟩
            case measure => simp [intOf]; omega
          · have hez : ((putE rk rbd : Int) == 0) = false := by simpa using Nat.pos_iff_ne_zero.1 he
            generalize putE rk rbd = E at *
            clear hgr he
            go_wp2_with (go_at_call 17; refine hput.mono ?_; rintro e w1 ⟨rfl, t1⟩; have HB1 := Lib.hid (HB.out.still t1); clear t1)
            go_roundw
            case rel => exact ⟨k + 1, by go_num, hlt, hlt2, by rw [HGS.out], by rw [HGS.out]; exact HB1.out⟩
            case measure => simp [intOf]; omega
      · have hk : ¬ (k : Int) < 20 := by omega
        have hkl2 : (k : Int) < (l.length : Int) := by omega
        go_wp2
        refine bodyPost_ret (results_tmp3 rfl _ _ _) rfl ?_
        exact ⟨goods l k, _, _, rfl, goods_good l k, Nat.le_trans (goods_len l k) hk20, HB.out⟩
    · have hk : ¬ (k : Int) < (l.length : Int) := by omega
      go_wp2
      refine bodyPost_ret (results_tmp3 rfl _ _ _) rfl ?_
      exact ⟨goods l k, _, _, rfl, goods_good l k, Nat.le_trans (goods_len l k) hk20, HB.out⟩
end Go.Proofs.YtlhcmgjkhkcgcaaDoor.record
