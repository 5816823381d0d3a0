/- The document's vault: its calls. -/
import Derived.Test.YtlhcmgjkhkcgcaaDoorVaultProg
namespace Go.Proofs.YtlhcmgjkhkcgcaaDoor.vault
open Go.RowKit
open Go.Proofs.YtlhcmgjkhkcgcaaDoor.stepkit Go.Proofs.YtlhcmgjkhkcgcaaDoor.obj Go.Proofs.YtlhcmgjkhkcgcaaDoor.row Go.Proofs.YtlhcmgjkhkcgcaaDoor.mix Go.Proofs.YtlhcmgjkhkcgcaaDoor.idkit Go.Proofs.YtlhcmgjkhkcgcaaDoor.bytes Go.Proofs.YtlhcmgjkhkcgcaaDoor.octet Go.Proofs.YtlhcmgjkhkcgcaaDoor.eqkit Go.Proofs.YtlhcmgjkhkcgcaaDoor.record Go.Proofs.YtlhcmgjkhkcgcaaDoor.argkit
open Go.Proofs.YtlhcmgjkhkcgcaaDoor.journal (RJ Outs get_set get_other at_store sl_not)
open Go.Proofs.YtlhcmgjkhkcgcaaDoor.block (keepOf keepOf_le keepOf_ge keepOf_all)

/-! ### Journals of the document, by their records -/
theorem good_arr {L : List RV} {r : RV} (hr : good r = true) : (⟨(cat L).toArray⟩ : ByteArray) ++ putS r.1 r.2 = ⟨(cat (L ++ [r])).toArray⟩ := by
  rw [good_rb hr, arr_cat, cat_append]
  simp [cat]
theorem end_app {L : List RV} {r : RV} {n : Nat} (hs : n ≤ L.length) : endOf (L ++ [r]) n = endOf L n := by unfold endOf; rw [List.take_append_of_le_length hs]
theorem arr_size (L : List RV) : (⟨(cat L).toArray⟩ : ByteArray).size = (cat L).length := by show (cat L).toArray.size = _; simp
theorem rapp {w : World} {X : Nat} {T : TypeId} {o : Nat} {cur : Array Value} {v : Value} {L : List RV} {n : Nat} (r : RV) (h : RJ w X T o cur ⟨(cat L).toArray⟩ (endOf L n) v L n) (hT : T ≠ 23) (hg : record.Good L) (hs : n ≤ L.length) (hl : L.length ≤ 5000) (hr : good r = true) :
    Calls Tryd.prog 35 #[.pointer (some ⟨X, o, none⟩), .agg #[.int .i64 r.1, .string r.2]] w fun e w' => e = .returned (.int .i64 0) ∧ ∃ cur' v', RJ w' X T o cur' ⟨(cat (L ++ [r])).toArray⟩ (endOf (L ++ [r]) n) v' (L ++ [r]) n ∧ Outs o cur cur' ∧ Turns (fun i => i = X) w w' := by
  have hgi := good_iff hr
  have h1 := journal.refappend_ok X T o cur _ _ v L n r.1 r.2 w h hT (by rw [arr_size]; exact cat_16 hg hl) (by omega) (by omega) hgi.2.2.2
  rw [good_arr hr, ← end_app hs] at h1
  exact h1
theorem rsync {w : World} {X : Nat} {T : TypeId} {o : Nat} {cur : Array Value} {v : Value} {L : List RV} {n : Nat} (h : RJ w X T o cur ⟨(cat L).toArray⟩ (endOf L n) v L n) (hT : T ≠ 23) (hs : n ≤ L.length) (hl : L.length ≤ 5000) :
    Calls Tryd.prog 36 #[.pointer (some ⟨X, o, none⟩)] w fun e w' => e = .returned (.int .i64 ((L.length : Int) - n)) ∧ ∃ cur', RJ w' X T o cur' ⟨(cat L).toArray⟩ (endOf L L.length) v L L.length ∧ Outs o cur cur' ∧ Turns (fun i => i = X) w w' := by
  have h1 := journal.refsync_any X T o cur _ _ v L n w h hT (by omega) (by omega)
  rw [arr_size, ← endOf_all] at h1
  exact h1
theorem rcrash {w : World} {X : Nat} {T : TypeId} {o : Nat} {cur : Array Value} {v : Value} {L : List RV} {n : Nat} (h : RJ w X T o cur ⟨(cat L).toArray⟩ (endOf L n) v L n) (hg : record.Good L) (hs : n ≤ L.length) (hl : L.length ≤ 5000) (k : Int) (hk1 : -9223372036854775808 ≤ k) (hk2 : k ≤ 9223372036854775807) :
    Calls Tryd.prog 37 #[.pointer (some ⟨X, o, none⟩), .int .i64 k] w fun e w' => e = .returned (.tuple #[]) ∧ ∃ cur' v', RJ w' X T o cur' ⟨(cat (leftOf L n k)).toArray⟩ (endOf (leftOf L n k) (leftOf L n k).length) v' (leftOf L n k) (leftOf L n k).length ∧ Outs o cur cur' ∧ Turns (fun i => i = X) w w' := by
  have hle := endOf_le L n L.length hs
  rw [endOf_all] at hle
  refine (journal.refcrash_any X T o cur (cat L) (endOf L n) v L n k w h hle (cat_16 hg hl) hk1 hk2 _ rfl _ rfl).mono ?_
  rintro e w' ⟨rfl, j, E, v', cur', hD, hr, ho, -, ht⟩
  have hm := keepOf_le hle k
  have ht1 := torn_cut hg hm (s := ⟨((cat L).take (keepOf (cat L).length (endOf L n) k)).toArray⟩) (by simp) hD
  have hre : recs ⟨((cat L).take (keepOf (cat L).length (endOf L n) k)).toArray⟩ j = leftOf L n k := by rw [ht1.2.1, ht1.1]; rfl
  have hda := done_all hD
  have hpl := journal.pos_le hD.1
  have hex : (⟨((cat L).take (keepOf (cat L).length (endOf L n) k)).toArray⟩ : ByteArray).extract 0 (pos ⟨((cat L).take (keepOf (cat L).length (endOf L n) k)).toArray⟩ j) = ⟨(cat (leftOf L n k)).toArray⟩ := by
    apply ByteArray.ext
    apply Array.ext'
    have h2 := ext_list ⟨((cat L).take (keepOf (cat L).length (endOf L n) k)).toArray⟩ 0 _ (show 0 + pos ⟨((cat L).take (keepOf (cat L).length (endOf L n) k)).toArray⟩ j ≤ _ by omega)
    rw [Nat.zero_add, List.drop_zero, hda, hre] at h2
    rw [h2]
  have hlen : pos ⟨((cat L).take (keepOf (cat L).length (endOf L n) k)).toArray⟩ j = endOf (leftOf L n k) (leftOf L n k).length := by
    rw [endOf_all, ← hre, ← hda, List.length_take, str_len]; omega
  have hjl : j = (leftOf L n k).length := by rw [← hre, recs_len]
  rw [hex, hre, hlen] at hr
  refine ⟨rfl, cur', v', ?_, ho, ht⟩
  rw [← hjl] at hr ⊢
  exact hr

/-! ### The object -/
theorem Outs.get {o : Nat} {cur cur' : Array Value} (h : Outs o cur cur') {i : Nat} (hi : i < o ∨ o + 4 ≤ i) {v : Value} (hv : cur[i]? = some v) : cur'[i]? = some v := by rw [h.out i hi]; exact hv
theorem RJ.beside {w w' : World} {X : Nat} {T : TypeId} {o o' : Nat} {cur cur' : Array Value} {S S' : ByteArray} {sb sb' : Nat} {v v' : Value} {L L' : List RV} {n n' : Nat} (h : RJ w X T o' cur S sb v L n) (h' : RJ w' X T o cur' S' sb' v' L' n') (ho : Outs o cur cur') (hd : o' + 4 ≤ o ∨ o + 4 ≤ o') (ht : Turns (fun i => i = X) w w') (hT : T ≠ 23) : RJ w' X T o' cur' S sb v L n :=
  ⟨h'.h, Outs.get ho (by omega) h.c0, Outs.get ho (by omega) h.c1, Outs.get ho (by omega) h.c2, Outs.get ho (by omega) h.c3, Sl.keep h.s ht (sl_not h.s h.h hT)⟩
theorem TS.oneX {B : Nat} {w w' : World} {X : Nat} (h : Turns (fun i => i = X) w w') (hB : B ≤ X) {cur : Array Value} (hp : w.heap[X]? = some (.cells cur 98 (0, 0))) : TS okX B w w' := TS.one h hB hp rfl
theorem XC.set0 {w w' : World} {B X : Nat} {L0 : List RV} {n0 : Nat} {L1 : List RV} {n1 : Nat} {u no : Nat} {cur : Array Value} {v0 v1 : Value} (h : XC w B X L0 n0 L1 n1 u no cur v0 v1) {L' : List RV} {n' : Nat} {cur' : Array Value} {v' : Value} (hr : RJ w' X 98 0 cur' ⟨(cat L').toArray⟩ (endOf L' n') v' L' n') (ho : Outs 0 cur cur') (ht : Turns (fun i => i = X) w w') : XC w' B X L' n' L1 n1 u no cur' v' v1 :=
  ⟨hr, RJ.beside h.r1 hr ho (by omega) ht (by decide), Outs.get ho (by omega) h.cu, Outs.get ho (by omega) h.cn, h.bX⟩
theorem XC.set1 {w w' : World} {B X : Nat} {L0 : List RV} {n0 : Nat} {L1 : List RV} {n1 : Nat} {u no : Nat} {cur : Array Value} {v0 v1 : Value} (h : XC w B X L0 n0 L1 n1 u no cur v0 v1) {L' : List RV} {n' : Nat} {cur' : Array Value} {v' : Value} (hr : RJ w' X 98 4 cur' ⟨(cat L').toArray⟩ (endOf L' n') v' L' n') (ho : Outs 4 cur cur') (ht : Turns (fun i => i = X) w w') : XC w' B X L0 n0 L' n' u no cur' v0 v' :=
  ⟨RJ.beside h.r0 hr ho (by omega) ht (by decide), hr, Outs.get ho (by omega) h.cu, Outs.get ho (by omega) h.cn, h.bX⟩
/-- All ten cells. -/
def xcells (m : M) (v0 v1 : Value) : List Value := [.string ⟨(cat m.L0).toArray⟩, .int .i64 (endOf m.L0 m.n0 : Nat), v0, .int .i64 (m.n0 : Nat), .string ⟨(cat m.L1).toArray⟩, .int .i64 (endOf m.L1 m.n1 : Nat), v1, .int .i64 (m.n1 : Nat), .int .i64 (m.u : Nat), .int .i64 (m.no : Nat)]
theorem sl_one {w : World} {e : TypeId} {sz n : Nat} {v : Value} {xs : List Value} (h : Sl w e sz v n xs) : v.oneCell' = true := by
  obtain ⟨ao, cap, rfl, -⟩ := Sl.shape h
  rfl
theorem xcells_one {w : World} {m : M} {v0 v1 : Value} (h0 : RSl w v0 m.L0) (h1 : RSl w v1 m.L1) : ∀ u ∈ xcells m v0 v1, u.oneCell' = true := by
  intro u hu
  unfold xcells at hu
  simp only [List.mem_cons, List.not_mem_nil, or_false] at hu
  rcases hu with rfl | rfl | rfl | rfl | rfl | rfl | rfl | rfl | rfl | rfl <;> first | rfl | exact sl_one h0 | exact sl_one h1
theorem size10 : (Tryd.prog.info? 98).map (·.size) = some 10 := by kernel_rfl
/-- A vault in a block of its own. -/
theorem xv_of {w : World} {B X : Nat} {m : M} {v0 v1 : Value} (h : w.heap[X]? = some (.cells (xcells m v0 v1).toArray 98 (0, 0))) (h0 : RSl w v0 m.L0) (h1 : RSl w v1 m.L1) (hB : B ≤ X) : XV w B X m.L0 m.n0 m.L1 m.n1 m.u m.no :=
  ⟨_, v0, v1, ⟨h, rfl, rfl, rfl, rfl, h0⟩, ⟨h, rfl, rfl, rfl, rfl, h1⟩, rfl, rfl, hB⟩
/-- The cells of a vault in a block. -/
theorem xv_range {w : World} {B X : Nat} {L0 : List RV} {n0 : Nat} {L1 : List RV} {n1 : Nat} {u no : Nat} {cur : Array Value} {v0 v1 : Value} (h : XC w B X L0 n0 L1 n1 u no cur v0 v1) : w.rangeAt X 0 (xcells ⟨L0, n0, L1, n1, u, no⟩ v0 v1) := by
  have hc := fun i v (hv : cur[i]? = some v) => cells_of h.r0.h i v hv
  have h0 := hc _ _ h.r0.c0
  have h1 := hc _ _ h.r0.c1
  have h2 := hc _ _ h.r0.c2
  have h3 := hc _ _ h.r0.c3
  have h4 := hc _ _ h.r1.c0
  have h5 := hc _ _ h.r1.c1
  have h6 := hc _ _ h.r1.c2
  have h7 := hc _ _ h.r1.c3
  have h8 := hc _ _ h.cu
  have h9 := hc _ _ h.cn
  intro j v hv
  rw [Nat.zero_add]
  match j, hv with
  | 0, hv =>
    injection hv with e
    rw [← e]; exact h0
  | 1, hv =>
    injection hv with e
    rw [← e]; exact h1
  | 2, hv =>
    injection hv with e
    rw [← e]; exact h2
  | 3, hv =>
    injection hv with e
    rw [← e]; exact h3
  | 4, hv =>
    injection hv with e
    rw [← e]; exact h4
  | 5, hv =>
    injection hv with e
    rw [← e]; exact h5
  | 6, hv =>
    injection hv with e
    rw [← e]; exact h6
  | 7, hv =>
    injection hv with e
    rw [← e]; exact h7
  | 8, hv =>
    injection hv with e
    rw [← e]; exact h8
  | 9, hv =>
    injection hv with e
    rw [← e]; exact h9
  | k + 10, hv => simp [xcells] at hv

theorem xsize (m : M) (v0 v1 : Value) : (Tryd.prog.info? 98).map (·.size) = some (xcells m v0 v1).length := size10

/-! ### New -/
def Z10 : List Value := [.string ⟨#[]⟩, .int .i64 0, .slice none 0 0, .int .i64 0, .string ⟨#[]⟩, .int .i64 0, .slice none 0 0, .int .i64 0, .int .i64 0, .int .i64 0]
theorem build_x0 (W : World) : (Instr.build 98 #[]).run Tryd.prog W = .ok (.agg #[.string ⟨#[]⟩, .int .i64 0, .slice none 0 0, .int .i64 0, .string ⟨#[]⟩, .int .i64 0, .slice none 0 0, .int .i64 0, .int .i64 0, .int .i64 0]) W := by kernel_rfl
def ME : M := ⟨[], 0, [], 0, 0, 0⟩
set_option maxRecDepth 10000 in
set_option maxHeartbeats 2000000 in
theorem xnew_any (w : World) :
    Calls Tryd.prog 51 #[] w fun e w' => ∃ v0 v1, e = .returned (.agg (xcells M0 v0 v1).toArray) ∧ RSl w' v0 M0.L0 ∧ RSl w' v1 M0.L1 ∧ Turns nobody w w' := by
  have hbx := build_x0
  have hbs := build_seal
  obtain ⟨R, hR⟩ : ∃ R, w.heap.size = R := ⟨_, rfl⟩
  obtain ⟨w1, hw1⟩ : ∃ w1, w1 = w.alloc (.cells Z10.toArray 98) := ⟨_, rfl⟩
  have t1 : Turns nobody w w1 := by rw [hw1]; exact (Turns.refl _ _).alloc _
  have h1 : w1.heap[R]? = some (.cells Z10.toArray 98 (0, 0)) := by rw [hw1, ← hR]; exact heap_alloc_new w _
  obtain ⟨X, hX⟩ : ∃ X, w1.heap.size = X := ⟨_, rfl⟩
  have hRX : R ≠ X := by rw [← hX, hw1, ← hR]; simp
  obtain ⟨w2, hw2⟩ : ∃ w2, w2 = w1.alloc (.cells Z10.toArray 98) := ⟨_, rfl⟩
  have t2 : Turns nobody w w2 := by rw [hw2]; exact t1.alloc _
  have h2 : w2.heap[X]? = some (.cells Z10.toArray 98 (0, 0)) := by rw [hw2, ← hX]; exact heap_alloc_new w1 _
  have h1b : w2.heap[R]? = some (.cells Z10.toArray 98 (0, 0)) := heap_newer h1 (by rw [hw2]; exact (Turns.refl nobody _).alloc _) (fun h => h)
  have HW1 := Lib.hid hw1
  have HW2 := Lib.hid hw2
  have HT2 := Lib.hid t2
  have HH2 := Lib.hid h2
  have HR2 := Lib.hid h1b
  have HRX := Lib.hid hRX
  have HXS := Lib.hid hX
  have HXW : Hid (w.heap.size ≤ X) := Lib.hid (by rw [← hX]; exact t1.size)
  have HRW : Hid (w.heap.size ≤ R) := Lib.hid (by rw [hR]; exact Nat.le_refl _)
  clear hw1 t1 h1 hX hRX hw2 t2 h2 h1b
  unfold Z10 at HW1 HW2
  go_enter Tryd.func51, Tryd.ntmps51
  go_upto_region 1 with fail
  rw [← HW1.out]
  clear hR
  go_upto_region 2 with ((with_reducible refine at_store ?_); rw [← HW2.out, HXS.out]; refine wpList_putc rfl _ _ _ rfl Z10 HH2.out rfl (by unfold Z10; intro u hu; simp only [List.mem_cons, List.not_mem_nil, or_false] at hu; rcases hu with rfl | rfl | rfl | rfl | rfl | rfl | rfl | rfl | rfl | rfl <;> rfl) rfl rfl size10 ?_; intro w3 t3 h3 z3; have HT3 := Lib.hid t3; have HH3 := Lib.hid h3; clear t3 h3 z3)
  have hx3 : XC w3 0 X [] 0 [] 0 0 0 Z10.toArray (.slice none 0 0) (.slice none 0 0) := ⟨⟨HH3.out, rfl, rfl, rfl, rfl, Sl.nil _ _ _⟩, ⟨HH3.out, rfl, rfl, rfl, rfl, Sl.nil _ _ _⟩, rfl, rfl, Nat.zero_le _⟩
  have htt3 : Turns nobody w w3 := HT2.out.trans2 HT3.out (fun i hi => by rw [hi]; exact HXW.out)
  have hr3 := heap_newer HR2.out HT3.out (fun e => HRX.out e)
  have HX3 := Lib.hid hx3
  have HT4 := Lib.hid htt3
  have HR3 := Lib.hid hr3
  have hgen := refgen_any 0 w3 (by decide)
  clear hx3 htt3 hr3 HT2 HT3 HH3 HR2 HH2 HW1 HW2
  unfold recV at hgen
  go_upto_region 3 with first
    | (go_at_call 88; refine hgen.mono ?_; rintro e w4 ⟨rfl, t4⟩; have HX4 := Lib.hid (HX3.out.still t4); have HT5 := Lib.hid (HT4.out.trans t4 (fun _ h => h.elim)); have HR4 := Lib.hid (heap_newer HR3.out t4 (fun h => h)); clear t4)
    | (go_at_call 35; refine (rapp (genR 0) HX4.out.r0 (by decide) (fun _ h => by cases h) (Nat.le_refl _) (by decide) (good_gen 0)).mono ?_; rintro e w5 ⟨rfl, cu5, v5, hr5, ho5, t5⟩; have HX5 := Lib.hid (HX4.out.set0 hr5 ho5 t5); have HT6 := Lib.hid (HT5.out.trans2 t5 (fun i hi => by rw [hi]; exact HXW.out)); have HR5 := Lib.hid (heap_newer HR4.out t5 (fun e => HRX.out e)); clear hr5 ho5 t5)
  clear hgen
  go_upto_region 4 with first
    | (with_reducible refine wpList_exec (exec_build _ _ rfl #[(0, .int .i64 2)] (by kernel_rfl) (hbs _)) rfl ?_)
    | (go_at_call 35; refine (rapp sealR HX5.out.r0 (by decide) (fun r hr => by rw [List.mem_singleton.1 hr]; exact good_gen 0) (Nat.zero_le _) (by decide) good_seal).mono ?_; rintro e w6 ⟨rfl, cu6, v6, hr6, ho6, t6⟩; have HX6 := Lib.hid (HX5.out.set0 hr6 ho6 t6); have HT7 := Lib.hid (HT6.out.trans2 t6 (fun i hi => by rw [hi]; exact HXW.out)); have HR6 := Lib.hid (heap_newer HR5.out t6 (fun e => HRX.out e)); clear hr6 ho6 t6)
  go_upto_region 5 with (go_at_call 36; refine (rsync HX6.out.r0 (by decide) (Nat.zero_le _) (by decide)).mono ?_; rintro e w7 ⟨rfl, cu7, hr7, ho7, t7⟩; have HX7 := Lib.hid (HX6.out.set0 hr7 ho7 t7); have HT8 := Lib.hid (HT7.out.trans2 t7 (fun i hi => by rw [hi]; exact HXW.out)); have HR7 := Lib.hid (heap_newer HR6.out t7 (fun e => HRX.out e)); clear hr7 ho7 t7)
  have hrg := xv_range HX7.out
  have HRG := Lib.hid hrg
  clear hrg
  have hone := xcells_one (m := M0) HX7.out.r0.s HX7.out.r1.s
  have HONE := Lib.hid hone
  clear hone
  go_wp2_with first
    | (with_reducible refine wpList_load_mid rfl _ _ rfl _ _ rfl _ _ HRG.out Tryd.underlying98 rfl (xsize _ _ _) ?_)
    | ((with_reducible refine at_store ?_); refine wpList_putc rfl _ _ _ rfl (xcells M0 v6 (.slice none 0 0)) HR7.out rfl HONE.out rfl rfl size10 ?_; intro w8 t8 h8 z8; have HT9 := Lib.hid t8; have HH8 := Lib.hid h8; clear t8 h8 z8)
  refine bodyPost_ret (results_one rfl _ _ rfl (range_of HH8.out) Tryd.underlying98 rfl size10) rfl ⟨_, _, rfl, ?_, ?_, HT8.out.trans2 HT9.out (fun i hi => by rw [hi]; exact HRW.out)⟩
  · exact Sl.keep HX7.out.r0.s HT9.out (sl_not HX7.out.r0.s HR7.out (by decide))
  · exact Sl.nil _ _ _
end Go.Proofs.YtlhcmgjkhkcgcaaDoor.vault

namespace Go.Proofs.YtlhcmgjkhkcgcaaDoor.vault
open Go.RowKit
open Go.Proofs.YtlhcmgjkhkcgcaaDoor.stepkit Go.Proofs.YtlhcmgjkhkcgcaaDoor.obj Go.Proofs.YtlhcmgjkhkcgcaaDoor.row Go.Proofs.YtlhcmgjkhkcgcaaDoor.mix Go.Proofs.YtlhcmgjkhkcgcaaDoor.idkit Go.Proofs.YtlhcmgjkhkcgcaaDoor.bytes Go.Proofs.YtlhcmgjkhkcgcaaDoor.octet Go.Proofs.YtlhcmgjkhkcgcaaDoor.eqkit Go.Proofs.YtlhcmgjkhkcgcaaDoor.record Go.Proofs.YtlhcmgjkhkcgcaaDoor.argkit
open Go.Proofs.YtlhcmgjkhkcgcaaDoor.journal (RJ Outs get_set get_other at_store sl_not)
open Go.Proofs.YtlhcmgjkhkcgcaaDoor.block (keepOf keepOf_le keepOf_ge keepOf_all)
set_option maxRecDepth 10000 in
set_option maxHeartbeats 2000000 in

theorem xappend_any (B X : Nat) (m : M) (s : ByteArray) (w : World) (hm : XM w B X m) (hsm : small m) (hs : s.size ≤ 300) :
    Calls Tryd.prog 52 #[.pointer (some ⟨X, 0, none⟩), .string s] w fun e w' => e = .returned (.int .i64 0) ∧ XM w' B X (m.app s) ∧ TS okX B w w' := by
  have hb := build_ent s
  obtain ⟨⟨cur, v0, v1, h⟩, hu, hg0, hg1, hs0, hs1⟩ := hm
  obtain ⟨L0, n0, L1, n1, u, no⟩ := m
  simp only at h hu hg0 hg1 hs0 hs1
  rcases hu with rfl | rfl
  · rw [show M.app ⟨L0, n0, L1, n1, 0, no⟩ s = ⟨L0 ++ [entR s], n0, L1, n1, 0, no⟩ from rfl]
    have hbig : ¬ (1048576 : Int) < (s.size : Int) := by omega
    obtain ⟨H, hH⟩ : ∃ H, w.heap.size = H := ⟨_, rfl⟩
    obtain ⟨wa, hwa⟩ : ∃ wa, wa = w.alloc (.cells #[.int .i64 3, .string s] 23) := ⟨_, rfl⟩
    have ta : Turns nobody w wa := by rw [hwa]; exact (Turns.refl _ _).alloc _
    have hca : wa.heap[H]? = some (.cells #[.int .i64 3, .string s] 23 (0, 0)) := by rw [hwa, ← hH]; exact heap_alloc_new w _
    have hxa := h.still ta
    have c8 := cells_of hxa.r0.h 8 _ hxa.cu
    have hxd := hxa.still (Turns.refl nobody wa).drew
    have hap := rapp (entR s) hxd.r0 (by decide) hg0 hs0 hsm.1 (good_ent hs)
    rw [show (entR s).1 = 3 from rfl, show (entR s).2 = s from rfl] at hap
    have HX := Lib.hid hxd
    have HAP := Lib.hid hap
    have HWA := Lib.hid hwa
    have HCA := Lib.hid hca
    have HTA := Lib.hid (ta.trans (Turns.refl nobody wa).drew (fun _ h => h.elim))
    have HGG := Lib.hid (And.intro (good_append hg0 (M := [entR s]) (fun r hr => by rw [List.mem_singleton.1 hr]; exact good_ent hs)) (And.intro hg1 (And.intro hs0 hs1)))
    clear hap hwa hca ta hxa hxd h hg0 hg1 hs0 hs1 hsm hs
    go_enter Tryd.func52, Tryd.ntmps52
    go_upto_region 4 with fail
    rw [← HWA.out]
    clear HWA hH
    go_upto_region 5 with fail
    refine wp_region_mix [(0, true, true), (1, true, true), (2, true, true), (3, true, true), (4, false, true), (5, true, true)] (fun W => W.heap[H]? = some (.cells #[.int .i64 3, .string s] 23 (0, 0))) (by kernel_rfl) (by kernel_rfl) (HCA.out) ?_
    simp only [picked, List.filterMap_cons, List.filterMap_nil, List.getElem?_toArray, List.getElem?_cons_zero, List.getElem?_cons_succ, Option.map_some]
    repeat (refine mix_free (v := ?_) rfl ?_ ?_; rotate_left; (focus (intro w' hI; have e0 := cells_of hI 0 _ rfl; have e1 := cells_of hI 1 _ rfl; clear hI; go_simp; try with_reducible rfl)); simp only [Act.put, List.setIfInBounds_toArray, List.set_cons_zero, List.set_cons_succ])
    refine mix_big rfl (fun K hK => ?_)
    go_wp2_with (go_at_call 35; refine HAP.out.mono ?_; rintro e w7 ⟨rfl, cu7, v7, hr7, ho7, t7⟩; have HX7 := Lib.hid (HX.out.set0 hr7 ho7 t7); have HT7 := Lib.hid ((TS.still HTA.out).trans (TS.oneX t7 HX.out.bX HX.out.r0.h)); have HH7 := Lib.hid (heap_newer (show wa.drew.heap[H]? = _ from HCA.out) t7 (fun e => by have h1 := HX.out.r0.h; rw [← e] at h1; have h2 := (show wa.drew.heap[H]? = _ from HCA.out); rw [h1] at h2; simp at h2)); clear hr7 ho7 t7)
    refine hK _ _ (fun _ => HH7.out) ?_
    clear hK K
    repeat (refine mix_free (v := ?_) rfl ?_ ?_; rotate_left; (focus (intro w' hI; clear hI; go_simp; try with_reducible rfl)); simp only [Act.put, List.setIfInBounds_toArray, List.set_cons_zero, List.set_cons_succ])
    refine mix_nil ?_
    go_wp2
    go_ret
    refine ⟨rfl, ⟨⟨_, _, _, HX7.out⟩, Or.inl rfl, HGG.out.1, HGG.out.2.1, ?_, ?_⟩, HT7.out⟩
    · show n0 ≤ (L0 ++ [entR s]).length; rw [List.length_append]; have := HGG.out.2.2.1; omega
    · show n1 ≤ L1.length; exact HGG.out.2.2.2
  · rw [show M.app ⟨L0, n0, L1, n1, 1, no⟩ s = ⟨L0, n0, L1 ++ [entR s], n1, 1, no⟩ from rfl]
    have hbig : ¬ (1048576 : Int) < (s.size : Int) := by omega
    obtain ⟨H, hH⟩ : ∃ H, w.heap.size = H := ⟨_, rfl⟩
    obtain ⟨wa, hwa⟩ : ∃ wa, wa = w.alloc (.cells #[.int .i64 3, .string s] 23) := ⟨_, rfl⟩
    have ta : Turns nobody w wa := by rw [hwa]; exact (Turns.refl _ _).alloc _
    have hca : wa.heap[H]? = some (.cells #[.int .i64 3, .string s] 23 (0, 0)) := by rw [hwa, ← hH]; exact heap_alloc_new w _
    have hxa := h.still ta
    have c8 := cells_of hxa.r0.h 8 _ hxa.cu
    have hxd := hxa.still (Turns.refl nobody wa).drew
    have hap := rapp (entR s) hxd.r1 (by decide) hg1 hs1 hsm.2 (good_ent hs)
    rw [show (entR s).1 = 3 from rfl, show (entR s).2 = s from rfl] at hap
    have HX := Lib.hid hxd
    have HAP := Lib.hid hap
    have HWA := Lib.hid hwa
    have HCA := Lib.hid hca
    have HTA := Lib.hid (ta.trans (Turns.refl nobody wa).drew (fun _ h => h.elim))
    have HGG := Lib.hid (And.intro (good_append hg1 (M := [entR s]) (fun r hr => by rw [List.mem_singleton.1 hr]; exact good_ent hs)) (And.intro hg0 (And.intro hs1 hs0)))
    clear hap hwa hca ta hxa hxd h hg0 hg1 hs0 hs1 hsm hs
    go_enter Tryd.func52, Tryd.ntmps52
    go_upto_region 4 with fail
    rw [← HWA.out]
    clear HWA hH
    go_upto_region 6 with fail
    refine wp_region_mix [(0, true, true), (1, true, true), (2, true, true), (3, true, true), (4, false, true), (5, true, true)] (fun W => W.heap[H]? = some (.cells #[.int .i64 3, .string s] 23 (0, 0))) (by kernel_rfl) (by kernel_rfl) (HCA.out) ?_
    simp only [picked, List.filterMap_cons, List.filterMap_nil, List.getElem?_toArray, List.getElem?_cons_zero, List.getElem?_cons_succ, Option.map_some]
    repeat (refine mix_free (v := ?_) rfl ?_ ?_; rotate_left; (focus (intro w' hI; have e0 := cells_of hI 0 _ rfl; have e1 := cells_of hI 1 _ rfl; clear hI; go_simp; try with_reducible rfl)); simp only [Act.put, List.setIfInBounds_toArray, List.set_cons_zero, List.set_cons_succ])
    refine mix_big rfl (fun K hK => ?_)
    go_wp2_with (go_at_call 35; refine HAP.out.mono ?_; rintro e w7 ⟨rfl, cu7, v7, hr7, ho7, t7⟩; have HX7 := Lib.hid (HX.out.set1 hr7 ho7 t7); have HT7 := Lib.hid ((TS.still HTA.out).trans (TS.oneX t7 HX.out.bX HX.out.r0.h)); have HH7 := Lib.hid (heap_newer (show wa.drew.heap[H]? = _ from HCA.out) t7 (fun e => by have h1 := HX.out.r0.h; rw [← e] at h1; have h2 := (show wa.drew.heap[H]? = _ from HCA.out); rw [h1] at h2; simp at h2)); clear hr7 ho7 t7)
    refine hK _ _ (fun _ => HH7.out) ?_
    clear hK K
    repeat (refine mix_free (v := ?_) rfl ?_ ?_; rotate_left; (focus (intro w' hI; clear hI; go_simp; try with_reducible rfl)); simp only [Act.put, List.setIfInBounds_toArray, List.set_cons_zero, List.set_cons_succ])
    refine mix_nil ?_
    go_wp2
    go_ret
    refine ⟨rfl, ⟨⟨_, _, _, HX7.out⟩, Or.inr rfl, HGG.out.2.1, HGG.out.1, ?_, ?_⟩, HT7.out⟩
    · show n0 ≤ L0.length; exact HGG.out.2.2.2
    · show n1 ≤ (L1 ++ [entR s]).length; rw [List.length_append]; have := HGG.out.2.2.1; omega
set_option maxRecDepth 10000 in
set_option maxHeartbeats 2000000 in

theorem xsync_any (B X : Nat) (m : M) (w : World) (hm : XM w B X m) (hsm : small m) :
    Calls Tryd.prog 53 #[.pointer (some ⟨X, 0, none⟩)] w fun e w' => e = .returned (.int .i64 ((m.L.length : Int) - m.n)) ∧ XM w' B X m.sync ∧ TS okX B w w' := by
  obtain ⟨⟨cur, v0, v1, h⟩, hu, hg0, hg1, hs0, hs1⟩ := hm
  obtain ⟨L0, n0, L1, n1, u, no⟩ := m
  simp only at h hu hg0 hg1 hs0 hs1
  rcases hu with rfl | rfl
  · rw [show M.sync ⟨L0, n0, L1, n1, 0, no⟩ = ⟨L0, L0.length, L1, n1, 0, no⟩ from rfl, show M.L ⟨L0, n0, L1, n1, 0, no⟩ = L0 from rfl, show M.n ⟨L0, n0, L1, n1, 0, no⟩ = n0 from rfl]
    have c8 := cells_of h.r0.h 8 _ h.cu
    have hsy := rsync h.r0 (by decide) hs0 hsm.1
    have HX := Lib.hid h
    have HGG := Lib.hid (And.intro hg0 (And.intro hg1 (And.intro hs0 hs1)))
    clear h hg0 hg1 hs0 hs1 hsm
    go_enter Tryd.func53, Tryd.ntmps53
    go_wp2_with (go_at_call 36; refine hsy.mono ?_; rintro e w7 ⟨rfl, cu7, hr7, ho7, t7⟩; have HX7 := Lib.hid (HX.out.set0 hr7 ho7 t7); have HT7 := Lib.hid (TS.oneX t7 HX.out.bX HX.out.r0.h); clear hr7 ho7 t7)
    go_ret
    exact ⟨rfl, ⟨⟨_, _, _, HX7.out⟩, Or.inl rfl, HGG.out.1, HGG.out.2.1, Nat.le_refl _, HGG.out.2.2.2⟩, HT7.out⟩
  · rw [show M.sync ⟨L0, n0, L1, n1, 1, no⟩ = ⟨L0, n0, L1, L1.length, 1, no⟩ from rfl, show M.L ⟨L0, n0, L1, n1, 1, no⟩ = L1 from rfl, show M.n ⟨L0, n0, L1, n1, 1, no⟩ = n1 from rfl]
    have c8 := cells_of h.r0.h 8 _ h.cu
    have hsy := rsync h.r1 (by decide) hs1 hsm.2
    have HX := Lib.hid h
    have HGG := Lib.hid (And.intro hg0 (And.intro hg1 (And.intro hs0 hs1)))
    clear h hg0 hg1 hs0 hs1 hsm
    go_enter Tryd.func53, Tryd.ntmps53
    go_wp2_with (go_at_call 36; refine hsy.mono ?_; rintro e w7 ⟨rfl, cu7, hr7, ho7, t7⟩; have HX7 := Lib.hid (HX.out.set1 hr7 ho7 t7); have HT7 := Lib.hid (TS.oneX t7 HX.out.bX HX.out.r0.h); clear hr7 ho7 t7)
    go_ret
    exact ⟨rfl, ⟨⟨_, _, _, HX7.out⟩, Or.inr rfl, HGG.out.1, HGG.out.2.1, HGG.out.2.2.1, Nat.le_refl _⟩, HT7.out⟩
theorem build_two_j (a0 a1 a2 a3 b0 b1 b2 b3 : Value) (W : World) : (Instr.build 98 #[(0, .agg #[a0, a1, a2, a3]), (1, .agg #[b0, b1, b2, b3])]).run Tryd.prog W = .ok (.agg #[a0, a1, a2, a3, b0, b1, b2, b3, .int .i64 0, .int .i64 0]) W := by kernel_rfl
/-- What is opened. -/
theorem opened {s : ByteArray} {k E : Nat} (hD : Done s k E) : s.extract 0 (pos s k) = ⟨(cat (recs s k)).toArray⟩ ∧ pos s k = endOf (recs s k) (recs s k).length ∧ k = (recs s k).length := by
  have hda := done_all hD
  have hpl := journal.pos_le hD.1
  refine ⟨?_, ?_, (recs_len s k).symm⟩
  · apply ByteArray.ext
    apply Array.ext'
    have h2 := ext_list s 0 (pos s k) (by omega)
    rw [Nat.zero_add, List.drop_zero, hda] at h2
    rw [h2]
  · rw [endOf_all, ← hda, List.length_take, str_len]; omega
theorem ropen {s : ByteArray} (w : World) (hs : s.size ≤ 16777216) :
    Calls Tryd.prog 34 #[.string s] w fun e w' => ∃ k E v, Done s k E ∧ e = .returned (.agg #[.string ⟨(cat (recs s k)).toArray⟩, .int .i64 (endOf (recs s k) (recs s k).length : Nat), v, .int .i64 ((recs s k).length : Nat)]) ∧ RSl w' v (recs s k) ∧ (∀ i, blk v i → w.heap.size ≤ i) ∧ Turns nobody w w' := by
  refine (journal.refopen_any s w hs).mono ?_
  rintro e w' ⟨k, E, v, hD, rfl, h1, h2, h3⟩
  obtain ⟨e1, e2, e3⟩ := opened hD
  refine ⟨k, E, v, hD, ?_, h1, h2, h3⟩
  rw [e1, ← e2, ← e3]
theorem exec_load_mid {op : Oper} {a : Act} {w : World} (ty : TypeId) (x : Operand) (ho : op.op = .load ty x) (b o : Nat) (hx : a.eval x = .pointer (some ⟨b, o, none⟩)) (cs : List Value) (d : TypeDesc) (hc : w.rangeAt b o cs) (hu : Tryd.prog.underlying ty = some d) (hd : d.isRow = true) (hi : (Tryd.prog.info? ty).map (·.size) = some cs.length) : (execOp a.eval op).run Tryd.prog w = .ok (.value (.agg cs.toArray)) w := by
  unfold execOp
  simp only [ho, hx, Instr.loadAt, Instr.sureAddr, Sem.run_bind, Sem.run_pure, Result.andThen_ok, run_loadVar_mid w b o ty cs d hc hu hd hi]
theorem results_x3 {fn : Func} {s u v : Tmp} (h : fn.results = #[.cell s 98, .tmp u, .tmp v]) (tmps : Array Value) (w : World) {b : Nat} {cs : List Value} {x y : Value} (hs : tmps.getD s undef = .pointer (some ⟨b, 0, none⟩)) (hu : tmps.getD u undef = x) (hv : tmps.getD v undef = y)
    (hr : w.rangeAt b 0 cs) (hi : (Tryd.prog.info? 98).map (·.size) = some cs.length) : (results fn tmps).run Tryd.prog w = .ok (.tuple #[.agg cs.toArray, x, y]) w := by
  have hload := run_loadVar_mid (P := Tryd.prog) w b 0 98 cs _ hr Tryd.underlying98 rfl hi
  have hs' : tmps[s]?.getD undef = .pointer (some ⟨b, 0, none⟩) := by rw [← hs]; simp
  have hu' : tmps[u]?.getD undef = x := by rw [← hu]; simp
  have hv' : tmps[v]?.getD undef = y := by rw [← hv]; simp
  simp [results, h, hs', hu', hv', hload, asAddr]
/-- What Load hands back. -/
def LR (w : World) (a b : ByteArray) (k0 k1 : Nat) (e : Ending) (w' : World) : Prop :=
  (pick (numOf (recs a k0)) (numOf (recs b k1)) = 2 ∧ e = .returned (.tuple #[.agg Z10.toArray, .slice none 0 0, .int .i64 4])) ∨
  (pick (numOf (recs a k0)) (numOf (recs b k1)) ≠ 2 ∧ ∃ v0 v1 vt, e = .returned (.tuple #[.agg (xcells (M.load ME (recs a k0) (recs b k1)) v0 v1).toArray, vt, .int .i64 0]) ∧ RSl w' v0 (recs a k0) ∧ RSl w' v1 (recs b k1) ∧ TSl w' vt (loadT (recs a k0) (recs b k1)) ∧ ∀ i, blk vt i → w.heap.size ≤ i)
theorem one10 {S0 S1 : ByteArray} {e0 l0 e1 l1 u no : Int} {v0 v1 : Value} (h0 : v0.oneCell' = true) (h1 : v1.oneCell' = true) : ∀ x ∈ [.string S0, .int .i64 e0, v0, .int .i64 l0, .string S1, .int .i64 e1, v1, .int .i64 l1, .int .i64 u, .int .i64 no], x.oneCell' = true := by
  intro x hx
  simp only [List.mem_cons, List.not_mem_nil, or_false] at hx
  rcases hx with rfl | rfl | rfl | rfl | rfl | rfl | rfl | rfl | rfl | rfl <;> first | rfl | exact h0 | exact h1
theorem z10_one : ∀ u ∈ Z10, u.oneCell' = true := by
  unfold Z10
  intro u hu
  simp only [List.mem_cons, List.not_mem_nil, or_false] at hu
  rcases hu with rfl | rfl | rfl | rfl | rfl | rfl | rfl | rfl | rfl | rfl <;> rfl
set_option maxRecDepth 10000 in
set_option maxHeartbeats 4000000 in

theorem xload_any (a b : ByteArray) (w : World) (ha : a.size ≤ 16777216) (hb : b.size ≤ 16777216) :
    Calls Tryd.prog 61 #[.string a, .string b] w fun e w' => ∃ k0 E0 k1 E1, Done a k0 E0 ∧ Done b k1 E1 ∧ Turns nobody w w' ∧ LR w a b k0 k1 e w' := by
  have hbx := build_x0
  have hopa := fun W => ropen (s := a) W ha
  have hopb := fun W => ropen (s := b) W hb
  have HOPA := Lib.hid hopa
  have HOPB := Lib.hid hopb
  have HBT := Lib.hid build_two_j
  have HZ := Lib.hid (And.intro ha hb)
  obtain ⟨R, hR⟩ : ∃ R, w.heap.size = R := ⟨_, rfl⟩
  obtain ⟨w1, hw1⟩ : ∃ w1, w1 = w.alloc (.cells Z10.toArray 98) := ⟨_, rfl⟩
  have t1 : Turns nobody w w1 := by rw [hw1]; exact (Turns.refl _ _).alloc _
  have h1 : w1.heap[R]? = some (.cells Z10.toArray 98 (0, 0)) := by rw [hw1, ← hR]; exact heap_alloc_new w _
  have HRW : Hid (w.heap.size ≤ R) := Lib.hid (by rw [hR]; exact Nat.le_refl _)
  have HW1 := Lib.hid hw1
  have HT1 := Lib.hid t1
  have HR1 := Lib.hid h1
  unfold Z10 at HW1
  clear hopa hopb ha hb hw1 t1 h1
  go_enter Tryd.func61, Tryd.ntmps61
  go_upto_region 1 with fail
  rw [← HW1.out]
  clear hR HW1
  go_upto_region 2 with first
    | (go_at_call 34; (with_reducible refine (HOPA.out _).mono ?_); rintro e w2 ⟨k0, E0, v0, hD0, rfl, hs0, hn0, t2⟩; obtain ⟨L0, hL0⟩ : ∃ L0, recs a k0 = L0 := ⟨_, rfl⟩; rw [hL0] at hs0 ⊢; have HL0 := Lib.hid hL0; have HD0 := Lib.hid hD0; have HS0 := Lib.hid hs0; have HT2 := Lib.hid t2; clear hD0 hs0 hn0 t2 hL0 HOPA)
    | (go_at_call 34; (with_reducible refine (HOPB.out _).mono ?_); rintro e w3 ⟨k1, E1, v1, hD1, rfl, hs1, hn1, t3⟩; obtain ⟨L1, hL1⟩ : ∃ L1, recs b k1 = L1 := ⟨_, rfl⟩; rw [hL1] at hs1 ⊢; have HL1 := Lib.hid hL1; have HD1 := Lib.hid hD1; have HS1 := Lib.hid hs1; have HT3 := Lib.hid t3; clear hD1 hs1 hn1 t3 hL1 HOPB)
    | (with_reducible refine wpList_exec (exec_build _ _ rfl #[(0, .agg #[.string ⟨(cat L0).toArray⟩, .int .i64 (endOf L0 L0.length : Nat), v0, .int .i64 (L0.length : Nat)]), (1, .agg #[.string ⟨(cat L1).toArray⟩, .int .i64 (endOf L1 L1.length : Nat), v1, .int .i64 (L1.length : Nat)])] (by kernel_rfl) (HBT.out _ _ _ _ _ _ _ _ _)) rfl ?_)
    | ((with_reducible refine at_store ?_); refine wpList_putc rfl _ _ _ rfl [.string ⟨(cat L0).toArray⟩, .int .i64 (endOf L0 L0.length : Nat), v0, .int .i64 (L0.length : Nat), .string ⟨(cat L1).toArray⟩, .int .i64 (endOf L1 L1.length : Nat), v1, .int .i64 (L1.length : Nat), .int .i64 0, .int .i64 0] (heap_alloc_new w3 (.cells Z10.toArray 98)) rfl (one10 (sl_one HS0.out) (sl_one HS1.out)) rfl rfl size10 ?_; intro w4 t4 h4 z4; have HT4 := Lib.hid t4; have HD4 := Lib.hid h4; clear t4 h4 z4)
  obtain ⟨D, hD⟩ : ∃ D, w3.heap.size = D := ⟨_, rfl⟩
  rw [hD] at HT4 HD4 ⊢
  have hts3 := ((HT1.out.trans HT2.out (fun _ h => h.elim)).trans HT3.out (fun _ h => h.elim))
  have HRD : Hid (R ≠ D) := Lib.hid (by
    have h1 := lt_of_block HR1.out
    have h2 := HT2.out.size
    have h3 := HT3.out.size
    omega)
  have HDW : Hid (w.heap.size ≤ D) := Lib.hid (by rw [← hD]; exact hts3.size)
  have HT5 : Hid (Turns nobody w w4) := Lib.hid ((hts3.trans ((Turns.refl nobody w3).alloc _) (fun _ h => h.elim)).trans2 HT4.out (fun i hi => by rw [hi]; exact HDW.out))
  have HR4 : Hid (w4.heap[R]? = some (.cells Z10.toArray 98 (0, 0))) := Lib.hid (heap_newer (heap_newer (heap_newer (heap_newer HR1.out HT2.out (fun h => h)) HT3.out (fun h => h)) ((Turns.refl nobody w3).alloc _) (fun h => h)) HT4.out (fun e => HRD.out e))
  have hs0 : RSl w4 v0 L0 := Sl.keep (Sl.keep (Sl.keep HS0.out HT3.out (fun _ _ h => h)) ((Turns.refl nobody w3).alloc _) (fun _ _ h => h)) HT4.out (fun i hi e => by have := Sl.lt HS0.out i hi; have := HT3.out.size; have e : i = D := e; omega)
  have hs1 : RSl w4 v1 L1 := Sl.keep (Sl.keep HS1.out ((Turns.refl nobody w3).alloc _) (fun _ _ h => h)) HT4.out (fun i hi e => by have := Sl.lt HS1.out i hi; have e : i = D := e; omega)
  have HSL4 := Lib.hid (And.intro hs0 hs1)
  have HDD := Lib.hid (And.intro HD0.out HD1.out)
  have hl0 : L0.length ≤ 16777216 := by rw [← HL0.out, recs_len]; have := Ok.bound HD0.out.1; have := HZ.out.1; omega
  have hl1 : L1.length ≤ 16777216 := by rw [← HL1.out, recs_len]; have := Ok.bound HD1.out.1; have := HZ.out.2; omega
  have hf0 : (r0 L0).2.size ≤ 16777216 := by rw [← HL0.out]; exact fits0 HD0.out
  have hf1 : (r0 L1).2.size ≤ 16777216 := by rw [← HL1.out]; exact fits0 HD1.out
  have hnu0 := refnumber_any v0 L0 w4 hs0 hl0 hf0
  have hnu1 := fun W hW => refnumber_any v1 L1 W hW hl1 hf1
  have hge0 := numOf_ge L0
  have hge1 := numOf_ge L1
  obtain ⟨N0, hN0⟩ : ∃ N0, numOf L0 = N0 := ⟨_, rfl⟩
  obtain ⟨N1, hN1⟩ : ∃ N1, numOf L1 = N1 := ⟨_, rfl⟩
  rw [hN0] at hnu0 hge0
  rw [hN1] at hnu1 hge1
  have HNU1 := Lib.hid hnu1
  have HNN := Lib.hid (And.intro hN0 hN1)
  have HGE := Lib.hid (And.intro hge0 hge1)
  have HLN := Lib.hid (And.intro hl0 hl1)
  obtain ⟨S0, hS0⟩ : ∃ S0 : ByteArray, ⟨(cat L0).toArray⟩ = S0 := ⟨_, rfl⟩
  obtain ⟨S1, hS1⟩ : ∃ S1 : ByteArray, ⟨(cat L1).toArray⟩ = S1 := ⟨_, rfl⟩
  obtain ⟨e0, he0⟩ : ∃ e0 : Int, ((endOf L0 L0.length : Nat) : Int) = e0 := ⟨_, rfl⟩
  obtain ⟨e1, he1⟩ : ∃ e1 : Int, ((endOf L1 L1.length : Nat) : Int) = e1 := ⟨_, rfl⟩
  obtain ⟨l0, hle0⟩ : ∃ l0 : Int, ((L0.length : Nat) : Int) = l0 := ⟨_, rfl⟩
  obtain ⟨l1, hle1⟩ : ∃ l1 : Int, ((L1.length : Nat) : Int) = l1 := ⟨_, rfl⟩
  rw [hS0, hS1, he0, he1, hle0, hle1] at HD4
  have HSS := Lib.hid (And.intro hS0 (And.intro he0 (And.intro hle0 (And.intro hS1 (And.intro he1 hle1)))))
  have HD4' : Hid (w4.heap[D]? = some (.cells #[.string S0, .int .i64 e0, v0, .int .i64 l0, .string S1, .int .i64 e1, v1, .int .i64 l1, .int .i64 0, .int .i64 0] 98 (0, 0))) := Lib.hid HD4.out
  have HONEV := Lib.hid (And.intro (sl_one hs0) (sl_one hs1))
  have c2 := cells_of HD4'.out 2 _ rfl
  clear hnu1 hN0 hN1 hge0 hge1 hl0 hl1 hf0 hf1 hts3 hs0 hs1 hD HS0 HS1 HD0 HD1 HT1 HT2 HT3 HT4 HR1 HBT HD4 hS0 hS1 he0 he1 hle0 hle1
  go_upto_region 3 with (go_at_call 92; refine hnu0.mono ?_; rintro e w5 ⟨rfl, t5⟩; have HT6 := Lib.hid t5; clear t5)
  clear c2 hnu0
  have HD5 := Lib.hid (heap_newer HD4'.out HT6.out (fun h => h))
  have c6 := cells_of HD5.out 6 _ rfl
  have hnu1 := HNU1.out w5 (Sl.keep HSL4.out.2 HT6.out (fun _ _ h => h))
  go_upto_region 4 with (go_at_call 92; refine hnu1.mono ?_; rintro e w6 ⟨rfl, t6⟩; have HT7 := Lib.hid (HT6.out.trans t6 (fun _ h => h.elim)); clear t6)
  clear c6 hnu1 HD5 HT6 HNU1
  have HD6 := Lib.hid (heap_newer HD4'.out HT7.out (fun h => h))
  have HR6 := Lib.hid (heap_newer HR4.out HT7.out (fun h => h))
  have HSL6 : Hid (RSl w6 v0 L0 ∧ RSl w6 v1 L1) := Lib.hid ⟨Sl.keep HSL4.out.1 HT7.out (fun _ _ h => h), Sl.keep HSL4.out.2 HT7.out (fun _ _ h => h)⟩
  have HT8 := Lib.hid (HT5.out.trans HT7.out (fun _ h => h.elim))
  clear HD4' HR4 HSL4 HT7 HT5
  by_cases hb : N0 < 0 ∧ N1 < 0
  · obtain ⟨hb0, hb1⟩ := hb
    have HPK : Hid (pick N0 N1 = 2) := Lib.hid (by have h1 := HGE.out.1; have h2 := HGE.out.2; exact pick_no (by omega) (by omega) h1)
    go_wp2_with ((with_reducible refine at_store ?_); refine wpList_putc rfl _ _ _ rfl Z10 HR6.out rfl z10_one rfl rfl size10 ?_; intro w8 t8 h8 z8; have HT9 := Lib.hid t8; have HR8 := Lib.hid h8; clear t8 h8 z8)
    refine bodyPost_ret (results_x3 rfl _ _ rfl rfl rfl (range_of HR8.out) size10) rfl ?_
    exact ⟨k0, E0, k1, E1, HDD.out.1, HDD.out.2, HT8.out.trans2 HT9.out (fun i hi => by rw [hi]; exact HRW.out), Or.inl ⟨by rw [HL0.out, HL1.out, HNN.out.1, HNN.out.2]; exact HPK.out, rfl⟩⟩
  · have hbI : ¬ (N0 < 0 ∧ N1 < 0) := hb
    obtain ⟨w7, hw7⟩ : ∃ w7, w7 = w6.setCell ⟨D, 9, none⟩ (.int .i64 N0) := ⟨_, rfl⟩
    have hd7 : w7.heap[D]? = some (.cells #[.string S0, .int .i64 e0, v0, .int .i64 l0, .string S1, .int .i64 e1, v1, .int .i64 l1, .int .i64 0, .int .i64 N0] 98 (0, 0)) := by rw [hw7]; exact heap_setCell_at HD6.out 9 _
    have ht7 : Turns (fun i => i = D) w6 w7 := by rw [hw7]; exact Turns.set _ _ _ _
    have HW7 := Lib.hid hw7
    have HD7a := Lib.hid hd7
    have HT9 := Lib.hid ht7
    have c9 := cells_of HD6.out 9 _ rfl
    have f9 := free_of HD6.out 9
    clear hw7 hd7 ht7
    have HSL7 : Hid (RSl w7 v0 L0 ∧ RSl w7 v1 L1) := Lib.hid ⟨Sl.keep HSL6.out.1 HT9.out (sl_not HSL6.out.1 HD6.out (by decide)), Sl.keep HSL6.out.2 HT9.out (sl_not HSL6.out.2 HD6.out (by decide))⟩
    have HR7a := Lib.hid (heap_newer HR6.out HT9.out (fun e => HRD.out e))
    have HTT7 : Hid (Turns nobody w w7) := Lib.hid (HT8.out.trans2 HT9.out (fun i hi => by rw [hi]; exact HDW.out))
    rcases Int.lt_or_le N0 0 with h0 | h0
    · have h0I : N0 < 0 := h0
      have h1I : ¬ N1 < 0 := fun h1 => hb ⟨h0, h1⟩
      clear hb hbI
      go_upto_region 7 with fail
      rw [← HW7.out]
      clear c9 f9 HW7
      have hlt : N0 < N1 := by omega
      have HPK : Hid (pick N0 N1 = 1) := Lib.hid (pick_lt HGE.out.1 hlt)
      have HNAT : Hid (N1 = (N1.toNat : Int)) := Lib.hid (by have := HGE.out.1; omega)
      obtain ⟨w9, hw9⟩ : ∃ w9, w9 = (w7.setCell ⟨D, 8, none⟩ (.int .i64 1)).setCell ⟨D, 9, none⟩ (.int .i64 N1) := ⟨_, rfl⟩
      have hd8 := heap_setCell_at HD7a.out 8 (.int .i64 1)
      have hd9 : w9.heap[D]? = some (.cells #[.string S0, .int .i64 e0, v0, .int .i64 l0, .string S1, .int .i64 e1, v1, .int .i64 l1, .int .i64 1, .int .i64 N1] 98 (0, 0)) := by rw [hw9]; exact heap_setCell_at hd8 9 _
      have ht9 : Turns (fun i => i = D) w7 w9 := by rw [hw9]; exact (Turns.set _ _ _ _).trans (Turns.set _ _ _ _) (fun _ h => Or.inl h)
      have HSL9 : Hid (RSl w9 v0 L0 ∧ RSl w9 v1 L1) := Lib.hid ⟨Sl.keep HSL7.out.1 ht9 (sl_not HSL7.out.1 HD7a.out (by decide)), Sl.keep HSL7.out.2 ht9 (sl_not HSL7.out.2 HD7a.out (by decide))⟩
      have HR9a := Lib.hid (heap_newer HR7a.out ht9 (fun e => HRD.out e))
      have HTT9 : Hid (Turns nobody w w9) := Lib.hid (HTT7.out.trans2 ht9 (fun i hi => by rw [hi]; exact HDW.out))
      have HD9a := Lib.hid hd9
      have HW9 := Lib.hid hw9
      have c8 := cells_of HD7a.out 8 _ rfl
      have f8 := free_of HD7a.out 8
      have c9 := cells_of hd8 9 _ rfl
      have f9 := free_of hd8 9
      clear hd9 ht9 hw9 hd8
      go_upto_region 10 with fail
      rw [← HW9.out]
      clear c8 f8 c9 f9 HW9
      have HD9 : Hid (w9.heap[D]? = some (.cells #[.string S0, .int .i64 e0, v0, .int .i64 l0, .string S1, .int .i64 e1, v1, .int .i64 l1, .int .i64 1, .int .i64 N1] 98 (0, 0))) := Lib.hid HD9a.out
      have HD9d : Hid (w9.drew.heap[D]? = some (.cells #[.string S0, .int .i64 e0, v0, .int .i64 l0, .string S1, .int .i64 e1, v1, .int .i64 l1, .int .i64 1, .int .i64 N1] 98 (0, 0))) := Lib.hid HD9.out
      have HR9d : Hid (w9.drew.heap[R]? = some (.cells Z10.toArray 98 (0, 0))) := Lib.hid HR9a.out
      have HSL : Hid (RSl w9.drew v0 L0 ∧ RSl w9.drew v1 L1) := Lib.hid ⟨Sl.keep (HSL9.out.1) (Turns.refl nobody w9).drew (fun _ _ h => h), Sl.keep (HSL9.out.2) (Turns.refl nobody w9).drew (fun _ _ h => h)⟩
      have HTT := Lib.hid ((HTT9.out).trans (Turns.refl nobody w9).drew (fun _ h => h.elim))
      have HONE : Hid (∀ x ∈ [.string S0, .int .i64 e0, v0, .int .i64 l0, .string S1, .int .i64 e1, v1, .int .i64 l1, .int .i64 1, .int .i64 N1], x.oneCell' = true) := Lib.hid (one10 HONEV.out.1 HONEV.out.2)
      refine wp_region_mix [(0, true, true), (1, true, true), (2, true, true), (3, true, true), (4, false, true), (5, false, true), (6, true, true), (7, true, true)] (fun W => W.heap[D]? = some (.cells #[.string S0, .int .i64 e0, v0, .int .i64 l0, .string S1, .int .i64 e1, v1, .int .i64 l1, .int .i64 1, .int .i64 N1] 98 (0, 0))) (by kernel_rfl) (by kernel_rfl) (HD9.out) ?_
      simp only [picked, List.filterMap_cons, List.filterMap_nil, List.getElem?_toArray, List.getElem?_cons_zero, List.getElem?_cons_succ, Option.map_some]
      refine mix_free (v := .agg #[.string S0, .int .i64 e0, v0, .int .i64 l0, .string S1, .int .i64 e1, v1, .int .i64 l1, .int .i64 1, .int .i64 N1]) rfl (fun w' hI => exec_load_mid _ _ rfl D 0 rfl [.string S0, .int .i64 e0, v0, .int .i64 l0, .string S1, .int .i64 e1, v1, .int .i64 l1, .int .i64 1, .int .i64 N1] _ (range_of hI) Tryd.underlying98 rfl size10) ?_
      simp only [Act.put, List.setIfInBounds_toArray, List.set_cons_zero, List.set_cons_succ]
      repeat (refine mix_free (v := ?_) rfl ?_ ?_; rotate_left; (focus (intro w' hI; have e2 := cells_of hI 6 _ rfl; clear hI; go_simp; try with_reducible rfl)); simp only [Act.put, List.setIfInBounds_toArray, List.set_cons_zero, List.set_cons_succ])
      refine mix_big rfl (fun K hK => ?_)
      go_wp2_with (go_at_call 93; refine (refheld_any _ L1 _ HSL.out.2 HLN.out.2).mono ?_; rintro e w7 ⟨vt, rfl, hs7, hn7, t7⟩; have HS7 := Lib.hid hs7; have HN7 := Lib.hid hn7; have HT7 := Lib.hid t7; have HD7 := Lib.hid (heap_newer HD9d.out t7 (fun h => h)); have HR7 := Lib.hid (heap_newer HR9d.out t7 (fun h => h)); clear hs7 hn7 t7)
      refine hK _ _ (fun _ => HD7.out) ?_
      clear hK K
      repeat (refine mix_free (v := ?_) rfl ?_ ?_; rotate_left; (focus (intro w' hI; clear hI; go_simp; try with_reducible rfl)); simp only [Act.put, List.setIfInBounds_toArray, List.set_cons_zero, List.set_cons_succ])
      refine mix_big rfl (fun K hK => ?_)
      obtain ⟨vo7, vc7, rfl, -⟩ := Sl.shape HS7.out
      go_wp2_with ((with_reducible refine at_store ?_); refine wpList_putc rfl _ _ _ rfl [.string S0, .int .i64 e0, v0, .int .i64 l0, .string S1, .int .i64 e1, v1, .int .i64 l1, .int .i64 1, .int .i64 N1] HR7.out rfl HONE.out rfl rfl size10 ?_; intro w8 t8 h8 z8; have HT8 := Lib.hid t8; have HR8 := Lib.hid h8; clear t8 h8 z8)
      refine hK _ _ (fun _ => heap_newer HD7.out HT8.out (fun e => HRD.out e.symm)) ?_
      clear hK K
      repeat (refine mix_free (v := ?_) rfl ?_ ?_; rotate_left; (focus (intro w' hI; clear hI; go_simp; try with_reducible rfl)); simp only [Act.put, List.setIfInBounds_toArray, List.set_cons_zero, List.set_cons_succ])
      refine mix_nil ?_
      go_wp2
      refine bodyPost_ret (results_x3 rfl _ _ rfl rfl rfl (range_of HR8.out) size10) rfl ?_
      have htt : Turns nobody w w8 := (HTT.out.trans HT7.out (fun _ h => h.elim)).trans2 HT8.out (fun i hi => by rw [hi]; exact HRW.out)
      refine ⟨k0, E0, k1, E1, HDD.out.1, HDD.out.2, htt, Or.inr ⟨?_, v0, v1, _, ?_, ?_, ?_, ?_, fun i hi => Nat.le_trans HTT.out.size (HN7.out i hi)⟩⟩
      · rw [HL0.out, HL1.out, HNN.out.1, HNN.out.2, HPK.out]; decide
      · unfold xcells M.load useOf noOf
        rw [HL0.out, HL1.out, HNN.out.1, HNN.out.2, HPK.out, if_neg (by decide), if_neg (by decide), if_pos rfl, HSS.out.1, HSS.out.2.1, HSS.out.2.2.1, HSS.out.2.2.2.1, HSS.out.2.2.2.2.1, HSS.out.2.2.2.2.2, ← HNAT.out]
        rfl
      · rw [HL0.out]; exact Sl.keep (Sl.keep HSL.out.1 HT7.out (fun _ _ h => h)) HT8.out (sl_not (Sl.keep HSL.out.1 HT7.out (fun _ _ h => h)) HR7.out (by decide))
      · rw [HL1.out]; exact Sl.keep (Sl.keep HSL.out.2 HT7.out (fun _ _ h => h)) HT8.out (sl_not (Sl.keep HSL.out.2 HT7.out (fun _ _ h => h)) HR7.out (by decide))
      · have hs := Sl.keep HS7.out HT8.out (sl_not HS7.out HR7.out (by decide))
        unfold loadT
        rw [HL0.out, HL1.out, HNN.out.1, HNN.out.2, HPK.out, if_neg (by decide), if_pos rfl]
        exact hs
    · have h0I : ¬ N0 < 0 := by omega
      clear hb hbI
      go_upto_region 7 with fail
      rw [← HW7.out]
      clear c9 f9 HW7
      by_cases hlt : N0 < N1
      ·
        have HPK : Hid (pick N0 N1 = 1) := Lib.hid (pick_lt HGE.out.1 hlt)
        have HNAT : Hid (N1 = (N1.toNat : Int)) := Lib.hid (by have := HGE.out.1; omega)
        obtain ⟨w9, hw9⟩ : ∃ w9, w9 = (w7.setCell ⟨D, 8, none⟩ (.int .i64 1)).setCell ⟨D, 9, none⟩ (.int .i64 N1) := ⟨_, rfl⟩
        have hd8 := heap_setCell_at HD7a.out 8 (.int .i64 1)
        have hd9 : w9.heap[D]? = some (.cells #[.string S0, .int .i64 e0, v0, .int .i64 l0, .string S1, .int .i64 e1, v1, .int .i64 l1, .int .i64 1, .int .i64 N1] 98 (0, 0)) := by rw [hw9]; exact heap_setCell_at hd8 9 _
        have ht9 : Turns (fun i => i = D) w7 w9 := by rw [hw9]; exact (Turns.set _ _ _ _).trans (Turns.set _ _ _ _) (fun _ h => Or.inl h)
        have HSL9 : Hid (RSl w9 v0 L0 ∧ RSl w9 v1 L1) := Lib.hid ⟨Sl.keep HSL7.out.1 ht9 (sl_not HSL7.out.1 HD7a.out (by decide)), Sl.keep HSL7.out.2 ht9 (sl_not HSL7.out.2 HD7a.out (by decide))⟩
        have HR9a := Lib.hid (heap_newer HR7a.out ht9 (fun e => HRD.out e))
        have HTT9 : Hid (Turns nobody w w9) := Lib.hid (HTT7.out.trans2 ht9 (fun i hi => by rw [hi]; exact HDW.out))
        have HD9a := Lib.hid hd9
        have HW9 := Lib.hid hw9
        have c8 := cells_of HD7a.out 8 _ rfl
        have f8 := free_of HD7a.out 8
        have c9 := cells_of hd8 9 _ rfl
        have f9 := free_of hd8 9
        clear hd9 ht9 hw9 hd8
        go_upto_region 10 with fail
        rw [← HW9.out]
        clear c8 f8 c9 f9 HW9
        have HD9 : Hid (w9.heap[D]? = some (.cells #[.string S0, .int .i64 e0, v0, .int .i64 l0, .string S1, .int .i64 e1, v1, .int .i64 l1, .int .i64 1, .int .i64 N1] 98 (0, 0))) := Lib.hid HD9a.out
        have HD9d : Hid (w9.drew.heap[D]? = some (.cells #[.string S0, .int .i64 e0, v0, .int .i64 l0, .string S1, .int .i64 e1, v1, .int .i64 l1, .int .i64 1, .int .i64 N1] 98 (0, 0))) := Lib.hid HD9.out
        have HR9d : Hid (w9.drew.heap[R]? = some (.cells Z10.toArray 98 (0, 0))) := Lib.hid HR9a.out
        have HSL : Hid (RSl w9.drew v0 L0 ∧ RSl w9.drew v1 L1) := Lib.hid ⟨Sl.keep (HSL9.out.1) (Turns.refl nobody w9).drew (fun _ _ h => h), Sl.keep (HSL9.out.2) (Turns.refl nobody w9).drew (fun _ _ h => h)⟩
        have HTT := Lib.hid ((HTT9.out).trans (Turns.refl nobody w9).drew (fun _ h => h.elim))
        have HONE : Hid (∀ x ∈ [.string S0, .int .i64 e0, v0, .int .i64 l0, .string S1, .int .i64 e1, v1, .int .i64 l1, .int .i64 1, .int .i64 N1], x.oneCell' = true) := Lib.hid (one10 HONEV.out.1 HONEV.out.2)
        refine wp_region_mix [(0, true, true), (1, true, true), (2, true, true), (3, true, true), (4, false, true), (5, false, true), (6, true, true), (7, true, true)] (fun W => W.heap[D]? = some (.cells #[.string S0, .int .i64 e0, v0, .int .i64 l0, .string S1, .int .i64 e1, v1, .int .i64 l1, .int .i64 1, .int .i64 N1] 98 (0, 0))) (by kernel_rfl) (by kernel_rfl) (HD9.out) ?_
        simp only [picked, List.filterMap_cons, List.filterMap_nil, List.getElem?_toArray, List.getElem?_cons_zero, List.getElem?_cons_succ, Option.map_some]
        refine mix_free (v := .agg #[.string S0, .int .i64 e0, v0, .int .i64 l0, .string S1, .int .i64 e1, v1, .int .i64 l1, .int .i64 1, .int .i64 N1]) rfl (fun w' hI => exec_load_mid _ _ rfl D 0 rfl [.string S0, .int .i64 e0, v0, .int .i64 l0, .string S1, .int .i64 e1, v1, .int .i64 l1, .int .i64 1, .int .i64 N1] _ (range_of hI) Tryd.underlying98 rfl size10) ?_
        simp only [Act.put, List.setIfInBounds_toArray, List.set_cons_zero, List.set_cons_succ]
        repeat (refine mix_free (v := ?_) rfl ?_ ?_; rotate_left; (focus (intro w' hI; have e2 := cells_of hI 6 _ rfl; clear hI; go_simp; try with_reducible rfl)); simp only [Act.put, List.setIfInBounds_toArray, List.set_cons_zero, List.set_cons_succ])
        refine mix_big rfl (fun K hK => ?_)
        go_wp2_with (go_at_call 93; refine (refheld_any _ L1 _ HSL.out.2 HLN.out.2).mono ?_; rintro e w7 ⟨vt, rfl, hs7, hn7, t7⟩; have HS7 := Lib.hid hs7; have HN7 := Lib.hid hn7; have HT7 := Lib.hid t7; have HD7 := Lib.hid (heap_newer HD9d.out t7 (fun h => h)); have HR7 := Lib.hid (heap_newer HR9d.out t7 (fun h => h)); clear hs7 hn7 t7)
        refine hK _ _ (fun _ => HD7.out) ?_
        clear hK K
        repeat (refine mix_free (v := ?_) rfl ?_ ?_; rotate_left; (focus (intro w' hI; clear hI; go_simp; try with_reducible rfl)); simp only [Act.put, List.setIfInBounds_toArray, List.set_cons_zero, List.set_cons_succ])
        refine mix_big rfl (fun K hK => ?_)
        obtain ⟨vo7, vc7, rfl, -⟩ := Sl.shape HS7.out
        go_wp2_with ((with_reducible refine at_store ?_); refine wpList_putc rfl _ _ _ rfl [.string S0, .int .i64 e0, v0, .int .i64 l0, .string S1, .int .i64 e1, v1, .int .i64 l1, .int .i64 1, .int .i64 N1] HR7.out rfl HONE.out rfl rfl size10 ?_; intro w8 t8 h8 z8; have HT8 := Lib.hid t8; have HR8 := Lib.hid h8; clear t8 h8 z8)
        refine hK _ _ (fun _ => heap_newer HD7.out HT8.out (fun e => HRD.out e.symm)) ?_
        clear hK K
        repeat (refine mix_free (v := ?_) rfl ?_ ?_; rotate_left; (focus (intro w' hI; clear hI; go_simp; try with_reducible rfl)); simp only [Act.put, List.setIfInBounds_toArray, List.set_cons_zero, List.set_cons_succ])
        refine mix_nil ?_
        go_wp2
        refine bodyPost_ret (results_x3 rfl _ _ rfl rfl rfl (range_of HR8.out) size10) rfl ?_
        have htt : Turns nobody w w8 := (HTT.out.trans HT7.out (fun _ h => h.elim)).trans2 HT8.out (fun i hi => by rw [hi]; exact HRW.out)
        refine ⟨k0, E0, k1, E1, HDD.out.1, HDD.out.2, htt, Or.inr ⟨?_, v0, v1, _, ?_, ?_, ?_, ?_, fun i hi => Nat.le_trans HTT.out.size (HN7.out i hi)⟩⟩
        · rw [HL0.out, HL1.out, HNN.out.1, HNN.out.2, HPK.out]; decide
        · unfold xcells M.load useOf noOf
          rw [HL0.out, HL1.out, HNN.out.1, HNN.out.2, HPK.out, if_neg (by decide), if_neg (by decide), if_pos rfl, HSS.out.1, HSS.out.2.1, HSS.out.2.2.1, HSS.out.2.2.2.1, HSS.out.2.2.2.2.1, HSS.out.2.2.2.2.2, ← HNAT.out]
          rfl
        · rw [HL0.out]; exact Sl.keep (Sl.keep HSL.out.1 HT7.out (fun _ _ h => h)) HT8.out (sl_not (Sl.keep HSL.out.1 HT7.out (fun _ _ h => h)) HR7.out (by decide))
        · rw [HL1.out]; exact Sl.keep (Sl.keep HSL.out.2 HT7.out (fun _ _ h => h)) HT8.out (sl_not (Sl.keep HSL.out.2 HT7.out (fun _ _ h => h)) HR7.out (by decide))
        · have hs := Sl.keep HS7.out HT8.out (sl_not HS7.out HR7.out (by decide))
          unfold loadT
          rw [HL0.out, HL1.out, HNN.out.1, HNN.out.2, HPK.out, if_neg (by decide), if_pos rfl]
          exact hs
      · have HPK : Hid (pick N0 N1 = 0) := Lib.hid (pick_ge (by omega) hlt)
        have HNAT : Hid (N0 = (N0.toNat : Int)) := Lib.hid (by omega)
        go_upto_region 11 with fail
        have HD9 : Hid (w7.heap[D]? = some (.cells #[.string S0, .int .i64 e0, v0, .int .i64 l0, .string S1, .int .i64 e1, v1, .int .i64 l1, .int .i64 0, .int .i64 N0] 98 (0, 0))) := Lib.hid HD7a.out
        have HD9d : Hid (w7.drew.heap[D]? = some (.cells #[.string S0, .int .i64 e0, v0, .int .i64 l0, .string S1, .int .i64 e1, v1, .int .i64 l1, .int .i64 0, .int .i64 N0] 98 (0, 0))) := Lib.hid HD9.out
        have HR9d : Hid (w7.drew.heap[R]? = some (.cells Z10.toArray 98 (0, 0))) := Lib.hid HR7a.out
        have HSL : Hid (RSl w7.drew v0 L0 ∧ RSl w7.drew v1 L1) := Lib.hid ⟨Sl.keep (HSL7.out.1) (Turns.refl nobody w7).drew (fun _ _ h => h), Sl.keep (HSL7.out.2) (Turns.refl nobody w7).drew (fun _ _ h => h)⟩
        have HTT := Lib.hid ((HTT7.out).trans (Turns.refl nobody w7).drew (fun _ h => h.elim))
        have HONE : Hid (∀ x ∈ [.string S0, .int .i64 e0, v0, .int .i64 l0, .string S1, .int .i64 e1, v1, .int .i64 l1, .int .i64 0, .int .i64 N0], x.oneCell' = true) := Lib.hid (one10 HONEV.out.1 HONEV.out.2)
        refine wp_region_mix [(0, true, true), (1, true, true), (2, true, true), (3, true, true), (4, false, true), (5, false, true), (6, true, true), (7, true, true)] (fun W => W.heap[D]? = some (.cells #[.string S0, .int .i64 e0, v0, .int .i64 l0, .string S1, .int .i64 e1, v1, .int .i64 l1, .int .i64 0, .int .i64 N0] 98 (0, 0))) (by kernel_rfl) (by kernel_rfl) (HD9.out) ?_
        simp only [picked, List.filterMap_cons, List.filterMap_nil, List.getElem?_toArray, List.getElem?_cons_zero, List.getElem?_cons_succ, Option.map_some]
        refine mix_free (v := .agg #[.string S0, .int .i64 e0, v0, .int .i64 l0, .string S1, .int .i64 e1, v1, .int .i64 l1, .int .i64 0, .int .i64 N0]) rfl (fun w' hI => exec_load_mid _ _ rfl D 0 rfl [.string S0, .int .i64 e0, v0, .int .i64 l0, .string S1, .int .i64 e1, v1, .int .i64 l1, .int .i64 0, .int .i64 N0] _ (range_of hI) Tryd.underlying98 rfl size10) ?_
        simp only [Act.put, List.setIfInBounds_toArray, List.set_cons_zero, List.set_cons_succ]
        repeat (refine mix_free (v := ?_) rfl ?_ ?_; rotate_left; (focus (intro w' hI; have e2 := cells_of hI 2 _ rfl; clear hI; go_simp; try with_reducible rfl)); simp only [Act.put, List.setIfInBounds_toArray, List.set_cons_zero, List.set_cons_succ])
        refine mix_big rfl (fun K hK => ?_)
        go_wp2_with (go_at_call 93; refine (refheld_any _ L0 _ HSL.out.1 HLN.out.1).mono ?_; rintro e w7 ⟨vt, rfl, hs7, hn7, t7⟩; have HS7 := Lib.hid hs7; have HN7 := Lib.hid hn7; have HT7 := Lib.hid t7; have HD7 := Lib.hid (heap_newer HD9d.out t7 (fun h => h)); have HR7 := Lib.hid (heap_newer HR9d.out t7 (fun h => h)); clear hs7 hn7 t7)
        refine hK _ _ (fun _ => HD7.out) ?_
        clear hK K
        repeat (refine mix_free (v := ?_) rfl ?_ ?_; rotate_left; (focus (intro w' hI; clear hI; go_simp; try with_reducible rfl)); simp only [Act.put, List.setIfInBounds_toArray, List.set_cons_zero, List.set_cons_succ])
        refine mix_big rfl (fun K hK => ?_)
        obtain ⟨vo7, vc7, rfl, -⟩ := Sl.shape HS7.out
        go_wp2_with ((with_reducible refine at_store ?_); refine wpList_putc rfl _ _ _ rfl [.string S0, .int .i64 e0, v0, .int .i64 l0, .string S1, .int .i64 e1, v1, .int .i64 l1, .int .i64 0, .int .i64 N0] HR7.out rfl HONE.out rfl rfl size10 ?_; intro w8 t8 h8 z8; have HT8 := Lib.hid t8; have HR8 := Lib.hid h8; clear t8 h8 z8)
        refine hK _ _ (fun _ => heap_newer HD7.out HT8.out (fun e => HRD.out e.symm)) ?_
        clear hK K
        repeat (refine mix_free (v := ?_) rfl ?_ ?_; rotate_left; (focus (intro w' hI; clear hI; go_simp; try with_reducible rfl)); simp only [Act.put, List.setIfInBounds_toArray, List.set_cons_zero, List.set_cons_succ])
        refine mix_nil ?_
        go_wp2
        refine bodyPost_ret (results_x3 rfl _ _ rfl rfl rfl (range_of HR8.out) size10) rfl ?_
        have htt : Turns nobody w w8 := (HTT.out.trans HT7.out (fun _ h => h.elim)).trans2 HT8.out (fun i hi => by rw [hi]; exact HRW.out)
        refine ⟨k0, E0, k1, E1, HDD.out.1, HDD.out.2, htt, Or.inr ⟨?_, v0, v1, _, ?_, ?_, ?_, ?_, fun i hi => Nat.le_trans HTT.out.size (HN7.out i hi)⟩⟩
        · rw [HL0.out, HL1.out, HNN.out.1, HNN.out.2, HPK.out]; decide
        · unfold xcells M.load useOf noOf
          rw [HL0.out, HL1.out, HNN.out.1, HNN.out.2, HPK.out, if_neg (by decide), if_pos rfl, HSS.out.1, HSS.out.2.1, HSS.out.2.2.1, HSS.out.2.2.2.1, HSS.out.2.2.2.2.1, HSS.out.2.2.2.2.2, ← HNAT.out]
          rfl
        · rw [HL0.out]; exact Sl.keep (Sl.keep HSL.out.1 HT7.out (fun _ _ h => h)) HT8.out (sl_not (Sl.keep HSL.out.1 HT7.out (fun _ _ h => h)) HR7.out (by decide))
        · rw [HL1.out]; exact Sl.keep (Sl.keep HSL.out.2 HT7.out (fun _ _ h => h)) HT8.out (sl_not (Sl.keep HSL.out.2 HT7.out (fun _ _ h => h)) HR7.out (by decide))
        · have hs := Sl.keep HS7.out HT8.out (sl_not HS7.out HR7.out (by decide))
          unfold loadT
          rw [HL0.out, HL1.out, HNN.out.1, HNN.out.2, HPK.out, if_pos rfl]
          exact hs
end Go.Proofs.YtlhcmgjkhkcgcaaDoor.vault

namespace Go.Proofs.YtlhcmgjkhkcgcaaDoor.vault
open Go.RowKit
open Go.Proofs.YtlhcmgjkhkcgcaaDoor.stepkit Go.Proofs.YtlhcmgjkhkcgcaaDoor.obj Go.Proofs.YtlhcmgjkhkcgcaaDoor.row Go.Proofs.YtlhcmgjkhkcgcaaDoor.mix Go.Proofs.YtlhcmgjkhkcgcaaDoor.idkit Go.Proofs.YtlhcmgjkhkcgcaaDoor.bytes Go.Proofs.YtlhcmgjkhkcgcaaDoor.octet Go.Proofs.YtlhcmgjkhkcgcaaDoor.eqkit Go.Proofs.YtlhcmgjkhkcgcaaDoor.record Go.Proofs.YtlhcmgjkhkcgcaaDoor.argkit
open Go.Proofs.YtlhcmgjkhkcgcaaDoor.journal (RJ Outs get_set get_other at_store sl_not)
open Go.Proofs.YtlhcmgjkhkcgcaaDoor.block (keepOf keepOf_le keepOf_ge keepOf_all)

/-! ### Four cells at once -/
theorem size4 : (Tryd.prog.info? 68).map (·.size) = some 4 := by kernel_rfl
theorem size4l (a b c d : Value) : (Tryd.prog.info? 68).map (·.size) = some [a, b, c, d].length := size4
theorem get_in {cur : Array Value} {i : Nat} (v : Value) (h : i < cur.size) : (cur.setIfInBounds i v)[i]? = some v := by simp [h]
theorem get_out {cur : Array Value} {i j : Nat} (v : Value) (h : i ≠ j) : (cur.setIfInBounds i v)[j]? = cur[j]? := Array.getElem?_setIfInBounds_ne h
structure Four (o : Nat) (cur : Array Value) (a b c d : Value) : Prop where
  g0 : cur[o]? = some a
  g1 : cur[o + 1]? = some b
  g2 : cur[o + 2]? = some c
  g3 : cur[o + 3]? = some d
theorem wpList_put4 {ops : Array Oper} {rest : List Oper} {op : Oper} {a : Act} {w : World} {Q : Exit → Act → World → Prop} (hgd : op.guard = none) (ty : TypeId) (x y : Operand) (ho : op.op = .store ty x y)
    {X o : Nat} {T : TypeId} {cur : Array Value} (p q r s : Value) (ha : w.heap[X]? = some (.cells cur T (0, 0))) (hz : o + 4 ≤ cur.size) (h1 : ∀ v ∈ [p, q, r, s], v.oneCell' = true) (hx : a.eval x = .pointer (some ⟨X, o, none⟩)) (hy : a.eval y = .agg #[p, q, r, s])
    (hi : (Tryd.prog.info? ty).map (·.size) = some 4)
    (h : ∀ w' cur', Turns (fun i => i = X) w w' → w'.heap[X]? = some (.cells cur' T (0, 0)) → Outs o cur cur' → Four o cur' p q r s → wpList Tryd.prog ops Q rest (a.put op.dst undef) w') : wpList Tryd.prog ops Q (op :: rest) a w := by
  refine wpList_store_mid hgd ty x y ho X o #[p, q, r, s] hx hy ?_ hi (by have := all_oneCell_toArray h1; simpa using this) ?_
  · exact fun j hj => ⟨by
      have hj' : o + j < cur.size := by have : j < 4 := hj; omega
      simp only [World.cell?, ha]; simp [hj'], by simp [World.frozen?, ha]⟩
  · refine h _ ((((cur.setIfInBounds o p).setIfInBounds (o + 1) q).setIfInBounds (o + 2) r).setIfInBounds (o + 3) s) ?_ ?_ ?_ ?_
    · exact (((Turns.set w X o p).trans (Turns.set _ X (o + 1) q) (fun _ h => Or.inl h)).trans (Turns.set _ X (o + 2) r) (fun _ h => Or.inl h)).trans (Turns.set _ X (o + 3) s) (fun _ h => Or.inl h)
    · exact heap_setCell_at (heap_setCell_at (heap_setCell_at (heap_setCell_at ha o p) (o + 1) q) (o + 2) r) (o + 3) s
    · exact ((((Outs.refl o cur).set 0 (by omega) p).set 1 (by omega) q).set 2 (by omega) r).set 3 (by omega) s
    · refine ⟨?_, ?_, ?_, ?_⟩
      · rw [get_out _ (by omega), get_out _ (by omega), get_out _ (by omega), get_in _ (by omega)]
      · rw [get_out _ (by omega), get_out _ (by omega), get_in _ (by simp; omega)]
      · rw [get_out _ (by omega), get_in _ (by simp; omega)]
      · rw [get_in _ (by simp; omega)]
theorem four_one {S : ByteArray} {e n : Int} {v : Value} (hv : v.oneCell' = true) : ∀ x ∈ [.string S, .int .i64 e, v, .int .i64 n], x.oneCell' = true := by
  intro x hx
  simp only [List.mem_cons, List.not_mem_nil, or_false] at hx
  rcases hx with rfl | rfl | rfl | rfl <;> first | rfl | exact hv
theorem XC.size {w : World} {B X : Nat} {L0 : List RV} {n0 : Nat} {L1 : List RV} {n1 : Nat} {u no : Nat} {cur : Array Value} {v0 v1 : Value} (h : XC w B X L0 n0 L1 n1 u no cur v0 v1) : 10 ≤ cur.size := by
  have := (Array.getElem?_eq_some_iff.1 h.cn).1
  omega
theorem range4 {w : World} {D o : Nat} {cs : List Value} {T : TypeId} {a b c d : Value} (h : w.heap[D]? = some (.cells cs.toArray T (0, 0))) (h0 : cs[o]? = some a) (h1 : cs[o + 1]? = some b) (h2 : cs[o + 2]? = some c) (h3 : cs[o + 3]? = some d) : w.rangeAt D o [a, b, c, d] := by
  have hc := range_of h
  intro j v hv
  match j, hv with
  | 0, hv =>
    injection hv with e
    have := hc o a h0
    rw [Nat.zero_add] at this
    rw [← e]; exact this
  | 1, hv =>
    injection hv with e
    have := hc (o + 1) b h1
    rw [Nat.zero_add] at this
    rw [← e]; exact this
  | 2, hv =>
    injection hv with e
    have := hc (o + 2) c h2
    rw [Nat.zero_add] at this
    rw [← e]; exact this
  | 3, hv =>
    injection hv with e
    have := hc (o + 3) d h3
    rw [Nat.zero_add] at this
    rw [← e]; exact this
  | k + 4, hv => simp at hv

/-! ### again -/
theorem load_eq {m m' : M} {A B : List RV} (h : pick (numOf A) (numOf B) ≠ 2) : M.load m A B = M.load m' A B := by
  unfold M.load useOf noOf
  rcases pick_012 (numOf A) (numOf B) with h1 | h1 | h1
  · rw [h1]; rfl
  · rw [h1]; rfl
  · exact absurd h1 h
theorem arr_data (L : List RV) : (⟨(cat L).toArray⟩ : ByteArray).data.toList = cat L := by simp
theorem xload_full (L0 L1 : List RV) (w : World) (hg0 : record.Good L0) (hg1 : record.Good L1) (h0 : L0.length ≤ 5000) (h1 : L1.length ≤ 5000) (hp : pick (numOf L0) (numOf L1) ≠ 2) :
    Calls Tryd.prog 61 #[.string ⟨(cat L0).toArray⟩, .string ⟨(cat L1).toArray⟩] w fun e w' => ∃ v0 v1 vt, e = .returned (.tuple #[.agg (xcells (M.load ME L0 L1) v0 v1).toArray, vt, .int .i64 0]) ∧ RSl w' v0 L0 ∧ RSl w' v1 L1 ∧ TSl w' vt (loadT L0 L1) ∧ (∀ i, blk vt i → w.heap.size ≤ i) ∧ Turns nobody w w' := by
  refine (xload_any ⟨(cat L0).toArray⟩ ⟨(cat L1).toArray⟩ w (by rw [arr_size]; exact cat_16 hg0 h0) (by rw [arr_size]; exact cat_16 hg1 h1)).mono ?_
  rintro e w' ⟨k0, E0, k1, E1, hD0, hD1, ht, hl⟩
  unfold LR at hl
  rw [read_all hg0 hD0, read_all hg1 hD1] at hl
  rcases hl with ⟨h, -⟩ | ⟨-, v0, v1, vt, he, hs0, hs1, hs, hn⟩
  · exact absurd h hp
  · exact ⟨v0, v1, vt, he, hs0, hs1, hs, hn, ht⟩
set_option maxRecDepth 10000 in
set_option maxHeartbeats 4000000 in

theorem xagain_any (B X : Nat) (m : M) (w : World) (hm : XM w B X m) (hsm : small m) (hp : pick (numOf m.L0) (numOf m.L1) ≠ 2) :
    Calls Tryd.prog 89 #[.pointer (some ⟨X, 0, none⟩)] w fun e w' => ∃ v, e = .returned v ∧ TSl w' v (loadT m.L0 m.L1) ∧ (∀ i, blk v i → w.heap.size ≤ i) ∧ XM w' B X (m.load m.L0 m.L1) ∧ TS okX B w w' := by
  obtain ⟨⟨cur, v0, v1, h⟩, hu, hg0, hg1, hs0, hs1⟩ := hm
  obtain ⟨L0, n0, L1, n1, u, no⟩ := m
  simp only at h hu hg0 hg1 hs0 hs1 hp ⊢
  have HX := Lib.hid h
  clear h
  go_enter Tryd.func89, Tryd.ntmps89
  go_upto_region 1 with fail
  refine wp_region_fork [0, 1, 2, 3, 4, 5, 6, 7, 8, 9, 10, 11, 13, 14, 15, 16, 19, 20] [0, 1, 2, 3, 4, 5, 6, 7, 8, 9, 10, 11, 12, 13, 14, 15, 16, 17, 18, 19, 20] (Plan.ofList [0, 1, 2, 3, 4, 5, 6, 7, 8, 9, 10, 11] (.fork 12 (Plan.ofList [13, 14, 15, 16, 17, 18, 19, 20] .done) 17 (Plan.ofList [12, 13, 14, 15, 16, 18, 19, 20] .done))) (fun W => W.heap[X]? = some (.cells cur 98 (0, 0))) (by kernel_rfl) (by kernel_rfl) (HX.out.r0.h) ?_
  simp -failIfUnchanged only [Plan.pick, Plan.ofList, isIn, List.contains_cons, List.contains_nil, Nat.reduceBEq, Bool.or_false, Bool.false_or, Bool.or_true, Bool.true_or, cond_true, cond_false, Array.getD_eq_getD_getElem?, List.getElem?_toArray, List.getElem?_cons_zero, List.getElem?_cons_succ, Option.getD_some]
  repeat (refine plan_free (v := ?_) rfl ?_ ?_; rotate_left; (focus (intro w' hI; have e0 := cells_of hI 0 _ HX.out.r0.c0; have e4 := cells_of hI 4 _ HX.out.r1.c0; clear hI; go_simp; try with_reducible rfl)); simp only [Act.put, List.setIfInBounds_toArray, List.set_cons_zero, List.set_cons_succ])
  refine plan_fork ?_ ?_
  ·
    refine bigC_mk rfl (fun K hK => ?_)
    go_wp2_with (go_at_call 61; refine (xload_full L0 L1 _ hg0 hg1 hsm.1 hsm.2 hp).mono ?_; rintro e w3 ⟨va, vb, vt, rfl, hsa, hsb, hst, hnt, t3⟩; have HSA := Lib.hid (And.intro hsa hsb); have HST := Lib.hid hst; have HNT := Lib.hid hnt; have HT3 := Lib.hid t3; clear hsa hsb hst hnt t3)
    obtain ⟨vto, vtc, rfl, -⟩ := Sl.shape HST.out
    refine hK _ _ (fun _ => heap_newer ((show w.drew.heap[X]? = _ from HX.out.r0.h)) HT3.out (fun h => h)) ?_
    clear hK K
    repeat (refine plan_free (v := ?_) rfl ?_ ?_; rotate_left; (focus (intro w' hI; go_simp; try with_reducible rfl)); simp only [Act.put, List.setIfInBounds_toArray, List.set_cons_zero, List.set_cons_succ])
    have HDZ := Lib.hid (heap_alloc_new w3 (.cells Z10.toArray 98))
    have HTZ : Hid (Turns nobody w (w3.alloc (.cells Z10.toArray 98))) := Lib.hid ((((Turns.refl nobody w).drew).trans HT3.out (fun _ h => h.elim)).alloc _)
    obtain ⟨D, hD⟩ : ∃ D, w3.heap.size = D := ⟨_, rfl⟩
    rw [hD] at HDZ
    have HDN : Hid (w.heap.size ≤ D) := Lib.hid (by rw [← hD]; exact HT3.out.size)
    have hal : Turns nobody w3 (w3.alloc (.cells Z10.toArray 98)) := (Turns.refl _ _).alloc _
    have HZS : Hid (RSl (w3.alloc (.cells Z10.toArray 98)) va L0 ∧ RSl (w3.alloc (.cells Z10.toArray 98)) vb L1) := Lib.hid ⟨Sl.keep HSA.out.1 hal (fun _ _ h => h), Sl.keep HSA.out.2 hal (fun _ _ h => h)⟩
    have HZT : Hid (TSl (w3.alloc (.cells Z10.toArray 98)) _ (loadT L0 L1)) := Lib.hid (Sl.keep HST.out hal (fun _ _ h => h))
    have HZN : Hid ((∀ i, blk va i → i ≠ D) ∧ (∀ i, blk vb i → i ≠ D) ∧ ∀ i, blk (.slice vto (loadT L0 L1).length vtc) i → i ≠ D) := Lib.hid ⟨fun i hi => by have := Sl.lt HSA.out.1 i hi; omega, fun i hi => by have := Sl.lt HSA.out.2 i hi; omega, fun i hi => by have := Sl.lt HST.out i hi; omega⟩
    have HVN : Hid (∀ i, blk (.slice vto (loadT L0 L1).length vtc) i → w.heap.size ≤ i) := Lib.hid (fun i hi => HNT.out i hi)
    have HONE := Lib.hid (xcells_one (m := M.load ME L0 L1) (v0 := va) (v1 := vb) HSA.out.1 HSA.out.2)
    clear hal
    refine plan_big (bigC_mk rfl (fun K hK => ?_))
    go_wp2
    refine hK _ _ (fun _ => heap_newer HX.out.r0.h HTZ.out (fun h => h)) ?_
    clear hK K hD
    refine plan_big (bigC_mk rfl (fun K hK => ?_))
    go_wp2_with ((with_reducible refine at_store ?_); refine wpList_putc rfl _ _ _ rfl (xcells (M.load ME L0 L1) va vb) HDZ.out rfl HONE.out rfl rfl size10 ?_; intro w5 t5 h5 z5; have HT5a := Lib.hid t5; have HD5 := Lib.hid h5; clear t5 h5 z5)
    have HT5 := Lib.hid (HTZ.out.trans2 HT5a.out (fun i hi => by rw [hi]; exact HDN.out))
    refine hK _ _ (fun _ => heap_newer HX.out.r0.h HT5.out (fun h => h)) ?_
    clear hK K
    repeat (refine plan_free (v := ?_) rfl ?_ ?_; rotate_left; (focus (intro w' hI; go_simp; try with_reducible rfl)); simp only [Act.put, List.setIfInBounds_toArray, List.set_cons_zero, List.set_cons_succ])
    refine plan_done ?_
    have HVS : Hid (RSl w5 va L0 ∧ RSl w5 vb L1) := Lib.hid ⟨Sl.keep HZS.out.1 HT5a.out (fun i hi e => HZN.out.1 i hi e), Sl.keep HZS.out.2 HT5a.out (fun i hi e => HZN.out.2.1 i hi e)⟩
    have HVT : Hid (TSl w5 _ (loadT L0 L1)) := Lib.hid (Sl.keep HZT.out HT5a.out (fun i hi e => HZN.out.2.2 i hi e))
    have HX5 := Lib.hid (HX.out.still HT5.out)
    have hza := HX5.out.size
    have HDX : Hid (D ≠ X) := Lib.hid (by have := lt_of_block HX.out.r0.h; have := HDN.out; omega)
    have r0 : w5.rangeAt D 0 [.string ⟨(cat L0).toArray⟩, .int .i64 (endOf L0 L0.length : Nat), va, .int .i64 (L0.length : Nat)] := range4 HD5.out rfl rfl rfl rfl
    have HRG0 := Lib.hid r0
    clear r0
    have HONE0 := Lib.hid (four_one (S := ⟨(cat L0).toArray⟩) (e := (endOf L0 L0.length : Nat)) (n := (L0.length : Nat)) (sl_one HVS.out.1))
    have HONE1 := Lib.hid (four_one (S := ⟨(cat L1).toArray⟩) (e := (endOf L1 L1.length : Nat)) (n := (L1.length : Nat)) (sl_one HVS.out.2))
    go_upto_region 3 with first
      | (with_reducible refine wpList_load_mid rfl _ _ rfl _ _ rfl _ _ HRG0.out Tryd.underlying68 rfl (size4l _ _ _ _) ?_)
      | ((with_reducible refine at_store ?_); refine wpList_put4 rfl _ _ _ rfl _ _ _ _ HX5.out.r0.h (by omega) HONE0.out rfl rfl size4 ?_; intro w6 cu6 t6 h6 o6 f6; have HT6 := Lib.hid t6; have HX6 := Lib.hid h6; have HO6 := Lib.hid o6; have HF6 := Lib.hid f6; clear t6 h6 o6 f6)
    clear HRG0 HONE0
    have HD6 := Lib.hid (heap_newer HD5.out HT6.out (fun e => HDX.out e))
    have r1 : w6.rangeAt D 4 [.string ⟨(cat L1).toArray⟩, .int .i64 (endOf L1 L1.length : Nat), vb, .int .i64 (L1.length : Nat)] := range4 HD6.out rfl rfl rfl rfl
    have HRG1 := Lib.hid r1
    have hz6 : 10 ≤ cu6.size := by rw [HO6.out.size]; exact hza
    clear r1
    go_upto_region 4 with first
      | (with_reducible refine wpList_load_mid rfl _ _ rfl _ _ rfl _ _ HRG1.out Tryd.underlying68 rfl (size4l _ _ _ _) ?_)
      | ((with_reducible refine at_store ?_); refine wpList_put4 rfl _ _ _ rfl _ _ _ _ HX6.out (by omega) HONE1.out rfl rfl size4 ?_; intro w7 cu7 t7 h7 o7 f7; have HT7 := Lib.hid t7; have HX7 := Lib.hid h7; have HO7 := Lib.hid o7; have HF7 := Lib.hid f7; clear t7 h7 o7 f7)
    clear HRG1 HONE1
    have hz7 : 10 ≤ cu7.size := by rw [HO7.out.size]; exact hz6
    have HD7 := Lib.hid (heap_newer HD6.out HT7.out (fun e => HDX.out e))
    obtain ⟨un, hun⟩ : ∃ un, useOf (numOf L0) (numOf L1) 0 = un := ⟨_, rfl⟩
    obtain ⟨nn, hnn⟩ : ∃ nn, noOf (numOf L0) (numOf L1) 0 = nn := ⟨_, rfl⟩
    have d8 : w7.cell? ⟨D, 8, none⟩ = some (.int .i64 (un : Int)) := by rw [← hun]; exact cells_of HD7.out 8 _ rfl
    have c8 := cells_of HX7.out 8 _ (Outs.get HO7.out (Or.inr (by omega)) (Outs.get HO6.out (Or.inr (by omega)) HX5.out.cu))
    have f8 := free_of HX7.out 8
    obtain ⟨w8, hw8⟩ : ∃ w8, w8 = w7.setCell ⟨X, 8, none⟩ (.int .i64 (un : Int)) := ⟨_, rfl⟩
    have HX8 : Hid (w8.heap[X]? = some (.cells (cu7.setIfInBounds 8 (.int .i64 (un : Int))) 98 (0, 0))) := Lib.hid (by rw [hw8]; exact heap_setCell_at HX7.out 8 _)
    have HT8 : Hid (Turns (fun i => i = X) w7 w8) := Lib.hid (by rw [hw8]; exact Turns.set _ _ _ _)
    have HW8 := Lib.hid hw8
    clear hw8
    go_upto_region 5 with fail
    rw [← HW8.out]
    clear c8 f8 d8 HW8
    have HD8 := Lib.hid (heap_newer HD7.out HT8.out (fun e => HDX.out e))
    have d9 : w8.cell? ⟨D, 9, none⟩ = some (.int .i64 (nn : Int)) := by rw [← hnn]; exact cells_of HD8.out 9 _ rfl
    have c9 := cells_of HX8.out 9 _ (by rw [get_out _ (by omega)]; exact (Outs.get HO7.out (Or.inr (by omega)) (Outs.get HO6.out (Or.inr (by omega)) HX5.out.cn)))
    have f9 := free_of HX8.out 9
    obtain ⟨w9, hw9⟩ : ∃ w9, w9 = w8.setCell ⟨X, 9, none⟩ (.int .i64 (nn : Int)) := ⟨_, rfl⟩
    have HX9 : Hid (w9.heap[X]? = some (.cells ((cu7.setIfInBounds 8 (.int .i64 (un : Int))).setIfInBounds 9 (.int .i64 (nn : Int))) 98 (0, 0))) := Lib.hid (by rw [hw9]; exact heap_setCell_at HX8.out 9 _)
    have HT9 : Hid (Turns (fun i => i = X) w8 w9) := Lib.hid (by rw [hw9]; exact Turns.set _ _ _ _)
    have HW9 := Lib.hid hw9
    clear hw9
    go_wp2
    rw [← HW9.out]
    go_ret
    have ht59 : Turns (fun i => i = X) w5 w9 := ((HT6.out.trans HT7.out (fun _ h => Or.inl h)).trans HT8.out (fun _ h => Or.inl h)).trans HT9.out (fun _ h => Or.inl h)
    have hts : TS okX B w w9 := (TS.still HT5.out).trans (TS.oneX ht59 HX5.out.bX HX5.out.r0.h)
    have hkeep : ∀ {e : TypeId} {sz n : Nat} {v : Value} {xs : List Value}, e ≠ 98 → Sl w5 e sz v n xs → Sl w9 e sz v n xs := fun he hs => Sl.keep hs ht59 (sl_not hs HX5.out.r0.h (fun e => he e.symm))
    refine ⟨_, rfl, hkeep (by decide) HVT.out, fun i hi => HVN.out i hi, ⟨⟨(cu7.setIfInBounds 8 (.int .i64 (un : Int))).setIfInBounds 9 (.int .i64 (nn : Int)), va, vb, ?_⟩, ?_, hg0, hg1, Nat.le_refl _, Nat.le_refl _⟩, hts⟩
    · have q : ∀ i v, i < 8 → cu7[i]? = some v → ((cu7.setIfInBounds 8 (.int .i64 (un : Int))).setIfInBounds 9 (.int .i64 (nn : Int)))[i]? = some v := fun i v hi hv => by rw [get_out _ (by omega), get_out _ (by omega)]; exact hv
      refine ⟨⟨HX9.out, q _ _ (by omega) (Outs.get HO7.out (Or.inl (by omega)) HF6.out.g0), q _ _ (by omega) (Outs.get HO7.out (Or.inl (by omega)) HF6.out.g1), q _ _ (by omega) (Outs.get HO7.out (Or.inl (by omega)) HF6.out.g2), q _ _ (by omega) (Outs.get HO7.out (Or.inl (by omega)) HF6.out.g3), hkeep (by decide) HVS.out.1⟩, ⟨HX9.out, q _ _ (by omega) HF7.out.g0, q _ _ (by omega) HF7.out.g1, q _ _ (by omega) HF7.out.g2, q _ _ (by omega) HF7.out.g3, hkeep (by decide) HVS.out.2⟩, ?_, ?_, HX5.out.bX⟩
      · rw [get_out _ (by omega), get_in _ (by omega), ← hun]
        have := load_eq (m := ⟨L0, n0, L1, n1, u, no⟩) (m' := ME) hp
        rw [this]; rfl
      · rw [get_in _ (by simp; omega), ← hnn]
        have := load_eq (m := ⟨L0, n0, L1, n1, u, no⟩) (m' := ME) hp
        rw [this]; rfl
    · exact useOf_01 hu
  ·
    obtain ⟨D, hD⟩ : ∃ D, w.heap.size = D := ⟨_, rfl⟩
    obtain ⟨wz, hwz⟩ : ∃ wz, wz = (w.alloc (.cells Z10.toArray 98)).drew := ⟨_, rfl⟩
    have hdz : wz.heap[D]? = some (.cells Z10.toArray 98 (0, 0)) := by rw [hwz, ← hD]; exact heap_alloc_new w _
    have htz : Turns nobody w wz := by rw [hwz]; exact ((Turns.refl nobody w).alloc _).drew
    have HDD := Lib.hid hD
    have HDN : Hid (w.heap.size ≤ D) := Lib.hid (by rw [← hD]; exact Nat.le_refl _)
    have HDZ0 := Lib.hid hdz
    have HTZ0 := Lib.hid htz
    have HWZ := Lib.hid hwz
    clear hdz htz hwz hD
    refine bigC_mk rfl (fun K hK => ?_)
    go_wp2
    rw [show (w.alloc (.cells #[.string ⟨#[]⟩, .int .i64 0, .slice none 0 0, .int .i64 0, .string ⟨#[]⟩, .int .i64 0, .slice none 0 0, .int .i64 0, .int .i64 0, .int .i64 0] 98)).drew = wz from HWZ.out.symm, show w.heap.size = D from HDD.out]
    refine hK _ _ (fun _ => heap_newer HX.out.r0.h HTZ0.out (fun h => h)) ?_
    clear hK K
    refine plan_big ?_
    refine bigC_mk rfl (fun K hK => ?_)
    go_wp2_with (go_at_call 61; refine (xload_full L0 L1 _ hg0 hg1 hsm.1 hsm.2 hp).mono ?_; rintro e w3 ⟨va, vb, vt, rfl, hsa, hsb, hst, hnt, t3⟩; have HSA := Lib.hid (And.intro hsa hsb); have HST := Lib.hid hst; have HNT := Lib.hid hnt; have HT3 := Lib.hid t3; clear hsa hsb hst hnt t3)
    obtain ⟨vto, vtc, rfl, -⟩ := Sl.shape HST.out
    refine hK _ _ (fun _ => heap_newer (heap_newer HX.out.r0.h HTZ0.out (fun h => h)) HT3.out (fun h => h)) ?_
    clear hK K
    repeat (refine plan_free (v := ?_) rfl ?_ ?_; rotate_left; (focus (intro w' hI; go_simp; try with_reducible rfl)); simp only [Act.put, List.setIfInBounds_toArray, List.set_cons_zero, List.set_cons_succ])
    have HDZ := Lib.hid (heap_newer HDZ0.out HT3.out (fun h => h))
    have HTZ : Hid (Turns nobody w w3) := Lib.hid (HTZ0.out.trans HT3.out (fun _ h => h.elim))
    have HZS := HSA
    have HZT := HST
    have HZN : Hid ((∀ i, blk va i → i ≠ D) ∧ (∀ i, blk vb i → i ≠ D) ∧ ∀ i, blk (.slice vto (loadT L0 L1).length vtc) i → i ≠ D) := Lib.hid ⟨sl_not HSA.out.1 HDZ.out (by decide), sl_not HSA.out.2 HDZ.out (by decide), sl_not HST.out HDZ.out (by decide)⟩
    have HVN : Hid (∀ i, blk (.slice vto (loadT L0 L1).length vtc) i → w.heap.size ≤ i) := Lib.hid (fun i hi => Nat.le_trans HTZ0.out.size (HNT.out i hi))
    have HONE := Lib.hid (xcells_one (m := M.load ME L0 L1) (v0 := va) (v1 := vb) HSA.out.1 HSA.out.2)
    refine plan_big (bigC_mk rfl (fun K hK => ?_))
    go_wp2_with ((with_reducible refine at_store ?_); refine wpList_putc rfl _ _ _ rfl (xcells (M.load ME L0 L1) va vb) HDZ.out rfl HONE.out rfl rfl size10 ?_; intro w5 t5 h5 z5; have HT5a := Lib.hid t5; have HD5 := Lib.hid h5; clear t5 h5 z5)
    have HT5 := Lib.hid (HTZ.out.trans2 HT5a.out (fun i hi => by rw [hi]; exact HDN.out))
    refine hK _ _ (fun _ => heap_newer HX.out.r0.h HT5.out (fun h => h)) ?_
    clear hK K
    repeat (refine plan_free (v := ?_) rfl ?_ ?_; rotate_left; (focus (intro w' hI; go_simp; try with_reducible rfl)); simp only [Act.put, List.setIfInBounds_toArray, List.set_cons_zero, List.set_cons_succ])
    refine plan_done ?_
    have HVS : Hid (RSl w5 va L0 ∧ RSl w5 vb L1) := Lib.hid ⟨Sl.keep HZS.out.1 HT5a.out (fun i hi e => HZN.out.1 i hi e), Sl.keep HZS.out.2 HT5a.out (fun i hi e => HZN.out.2.1 i hi e)⟩
    have HVT : Hid (TSl w5 _ (loadT L0 L1)) := Lib.hid (Sl.keep HZT.out HT5a.out (fun i hi e => HZN.out.2.2 i hi e))
    have HX5 := Lib.hid (HX.out.still HT5.out)
    have hza := HX5.out.size
    have HDX : Hid (D ≠ X) := Lib.hid (by have := lt_of_block HX.out.r0.h; have := HDN.out; omega)
    have r0 : w5.rangeAt D 0 [.string ⟨(cat L0).toArray⟩, .int .i64 (endOf L0 L0.length : Nat), va, .int .i64 (L0.length : Nat)] := range4 HD5.out rfl rfl rfl rfl
    have HRG0 := Lib.hid r0
    clear r0
    have HONE0 := Lib.hid (four_one (S := ⟨(cat L0).toArray⟩) (e := (endOf L0 L0.length : Nat)) (n := (L0.length : Nat)) (sl_one HVS.out.1))
    have HONE1 := Lib.hid (four_one (S := ⟨(cat L1).toArray⟩) (e := (endOf L1 L1.length : Nat)) (n := (L1.length : Nat)) (sl_one HVS.out.2))
    go_upto_region 3 with first
      | (with_reducible refine wpList_load_mid rfl _ _ rfl _ _ rfl _ _ HRG0.out Tryd.underlying68 rfl (size4l _ _ _ _) ?_)
      | ((with_reducible refine at_store ?_); refine wpList_put4 rfl _ _ _ rfl _ _ _ _ HX5.out.r0.h (by omega) HONE0.out rfl rfl size4 ?_; intro w6 cu6 t6 h6 o6 f6; have HT6 := Lib.hid t6; have HX6 := Lib.hid h6; have HO6 := Lib.hid o6; have HF6 := Lib.hid f6; clear t6 h6 o6 f6)
    clear HRG0 HONE0
    have HD6 := Lib.hid (heap_newer HD5.out HT6.out (fun e => HDX.out e))
    have r1 : w6.rangeAt D 4 [.string ⟨(cat L1).toArray⟩, .int .i64 (endOf L1 L1.length : Nat), vb, .int .i64 (L1.length : Nat)] := range4 HD6.out rfl rfl rfl rfl
    have HRG1 := Lib.hid r1
    have hz6 : 10 ≤ cu6.size := by rw [HO6.out.size]; exact hza
    clear r1
    go_upto_region 4 with first
      | (with_reducible refine wpList_load_mid rfl _ _ rfl _ _ rfl _ _ HRG1.out Tryd.underlying68 rfl (size4l _ _ _ _) ?_)
      | ((with_reducible refine at_store ?_); refine wpList_put4 rfl _ _ _ rfl _ _ _ _ HX6.out (by omega) HONE1.out rfl rfl size4 ?_; intro w7 cu7 t7 h7 o7 f7; have HT7 := Lib.hid t7; have HX7 := Lib.hid h7; have HO7 := Lib.hid o7; have HF7 := Lib.hid f7; clear t7 h7 o7 f7)
    clear HRG1 HONE1
    have hz7 : 10 ≤ cu7.size := by rw [HO7.out.size]; exact hz6
    have HD7 := Lib.hid (heap_newer HD6.out HT7.out (fun e => HDX.out e))
    obtain ⟨un, hun⟩ : ∃ un, useOf (numOf L0) (numOf L1) 0 = un := ⟨_, rfl⟩
    obtain ⟨nn, hnn⟩ : ∃ nn, noOf (numOf L0) (numOf L1) 0 = nn := ⟨_, rfl⟩
    have d8 : w7.cell? ⟨D, 8, none⟩ = some (.int .i64 (un : Int)) := by rw [← hun]; exact cells_of HD7.out 8 _ rfl
    have c8 := cells_of HX7.out 8 _ (Outs.get HO7.out (Or.inr (by omega)) (Outs.get HO6.out (Or.inr (by omega)) HX5.out.cu))
    have f8 := free_of HX7.out 8
    obtain ⟨w8, hw8⟩ : ∃ w8, w8 = w7.setCell ⟨X, 8, none⟩ (.int .i64 (un : Int)) := ⟨_, rfl⟩
    have HX8 : Hid (w8.heap[X]? = some (.cells (cu7.setIfInBounds 8 (.int .i64 (un : Int))) 98 (0, 0))) := Lib.hid (by rw [hw8]; exact heap_setCell_at HX7.out 8 _)
    have HT8 : Hid (Turns (fun i => i = X) w7 w8) := Lib.hid (by rw [hw8]; exact Turns.set _ _ _ _)
    have HW8 := Lib.hid hw8
    clear hw8
    go_upto_region 5 with fail
    rw [← HW8.out]
    clear c8 f8 d8 HW8
    have HD8 := Lib.hid (heap_newer HD7.out HT8.out (fun e => HDX.out e))
    have d9 : w8.cell? ⟨D, 9, none⟩ = some (.int .i64 (nn : Int)) := by rw [← hnn]; exact cells_of HD8.out 9 _ rfl
    have c9 := cells_of HX8.out 9 _ (by rw [get_out _ (by omega)]; exact (Outs.get HO7.out (Or.inr (by omega)) (Outs.get HO6.out (Or.inr (by omega)) HX5.out.cn)))
    have f9 := free_of HX8.out 9
    obtain ⟨w9, hw9⟩ : ∃ w9, w9 = w8.setCell ⟨X, 9, none⟩ (.int .i64 (nn : Int)) := ⟨_, rfl⟩
    have HX9 : Hid (w9.heap[X]? = some (.cells ((cu7.setIfInBounds 8 (.int .i64 (un : Int))).setIfInBounds 9 (.int .i64 (nn : Int))) 98 (0, 0))) := Lib.hid (by rw [hw9]; exact heap_setCell_at HX8.out 9 _)
    have HT9 : Hid (Turns (fun i => i = X) w8 w9) := Lib.hid (by rw [hw9]; exact Turns.set _ _ _ _)
    have HW9 := Lib.hid hw9
    clear hw9
    go_wp2
    rw [← HW9.out]
    go_ret
    have ht59 : Turns (fun i => i = X) w5 w9 := ((HT6.out.trans HT7.out (fun _ h => Or.inl h)).trans HT8.out (fun _ h => Or.inl h)).trans HT9.out (fun _ h => Or.inl h)
    have hts : TS okX B w w9 := (TS.still HT5.out).trans (TS.oneX ht59 HX5.out.bX HX5.out.r0.h)
    have hkeep : ∀ {e : TypeId} {sz n : Nat} {v : Value} {xs : List Value}, e ≠ 98 → Sl w5 e sz v n xs → Sl w9 e sz v n xs := fun he hs => Sl.keep hs ht59 (sl_not hs HX5.out.r0.h (fun e => he e.symm))
    refine ⟨_, rfl, hkeep (by decide) HVT.out, fun i hi => HVN.out i hi, ⟨⟨(cu7.setIfInBounds 8 (.int .i64 (un : Int))).setIfInBounds 9 (.int .i64 (nn : Int)), va, vb, ?_⟩, ?_, hg0, hg1, Nat.le_refl _, Nat.le_refl _⟩, hts⟩
    · have q : ∀ i v, i < 8 → cu7[i]? = some v → ((cu7.setIfInBounds 8 (.int .i64 (un : Int))).setIfInBounds 9 (.int .i64 (nn : Int)))[i]? = some v := fun i v hi hv => by rw [get_out _ (by omega), get_out _ (by omega)]; exact hv
      refine ⟨⟨HX9.out, q _ _ (by omega) (Outs.get HO7.out (Or.inl (by omega)) HF6.out.g0), q _ _ (by omega) (Outs.get HO7.out (Or.inl (by omega)) HF6.out.g1), q _ _ (by omega) (Outs.get HO7.out (Or.inl (by omega)) HF6.out.g2), q _ _ (by omega) (Outs.get HO7.out (Or.inl (by omega)) HF6.out.g3), hkeep (by decide) HVS.out.1⟩, ⟨HX9.out, q _ _ (by omega) HF7.out.g0, q _ _ (by omega) HF7.out.g1, q _ _ (by omega) HF7.out.g2, q _ _ (by omega) HF7.out.g3, hkeep (by decide) HVS.out.2⟩, ?_, ?_, HX5.out.bX⟩
      · rw [get_out _ (by omega), get_in _ (by omega), ← hun]
        have := load_eq (m := ⟨L0, n0, L1, n1, u, no⟩) (m' := ME) hp
        rw [this]; rfl
      · rw [get_in _ (by simp; omega), ← hnn]
        have := load_eq (m := ⟨L0, n0, L1, n1, u, no⟩) (m' := ME) hp
        rw [this]; rfl
    · exact useOf_01 hu
set_option maxRecDepth 10000 in
set_option maxHeartbeats 4000000 in

theorem xcrash_any (B X : Nat) (m : M) (k : Int) (w : World) (hm : XM w B X m) (hsm : small m) (hk1 : -9223372036854775808 ≤ k) (hk2 : k ≤ 9223372036854775807) (hp : pick (numOf (m.crash k).L0) (numOf (m.crash k).L1) ≠ 2) :
    Calls Tryd.prog 54 #[.pointer (some ⟨X, 0, none⟩), .int .i64 k] w fun e w' => ∃ v, e = .returned v ∧ TSl w' v (m.crashT k) ∧ (∀ i, blk v i → w.heap.size ≤ i) ∧ XM w' B X (m.crash k) ∧ TS okX B w w' := by
  obtain ⟨⟨cur, v0, v1, h⟩, hu, hg0, hg1, hs0, hs1⟩ := hm
  obtain ⟨L0, n0, L1, n1, u, no⟩ := m
  simp only at h hu hg0 hg1 hs0 hs1
  rcases hu with rfl | rfl
  · rw [show M.crash ⟨L0, n0, L1, n1, 0, no⟩ k = M.load ⟨(leftOf L0 n0 k), (leftOf L0 n0 k).length, L1, n1, 0, no⟩ (leftOf L0 n0 k) L1 from rfl] at hp ⊢
    rw [show M.crashT ⟨L0, n0, L1, n1, 0, no⟩ k = loadT (leftOf L0 n0 k) L1 from rfl]
    have hp : pick (numOf (leftOf L0 n0 k)) (numOf L1) ≠ 2 := hp
    have hlen : (leftOf L0 n0 k).length ≤ L0.length := by unfold leftOf; rw [List.length_take]; omega
    have c8 := cells_of h.r0.h 8 _ h.cu
    have hcr := rcrash h.r0 hg0 hs0 hsm.1 k hk1 hk2
    have hgl : record.Good (leftOf L0 n0 k) := good_take hg0 _
    have HX := Lib.hid h
    have HS := Lib.hid (And.intro hg1 (And.intro hs1 hgl))
    have HSM := Lib.hid hsm
    have HP := Lib.hid hp
    have HLEN := Lib.hid hlen
    clear h hg0 hg1 hs0 hs1 hsm hgl hp hlen
    go_enter Tryd.func54, Tryd.ntmps54
    go_upto_region 4 with (go_at_call 37; refine hcr.mono ?_; rintro e w3 ⟨rfl, cu3, v3, hr3, ho3, t3⟩; have HX3 := Lib.hid (HX.out.set0 hr3 ho3 t3); have HT3 := Lib.hid (TS.oneX t3 HX.out.bX HX.out.r0.h); have HN3 := Lib.hid t3; clear hr3 ho3 t3)
    clear c8 hcr
    have hxm : XM w3 B X ⟨(leftOf L0 n0 k), (leftOf L0 n0 k).length, L1, n1, 0, no⟩ := ⟨⟨_, _, _, HX3.out⟩, Or.inl rfl, HS.out.2.2, HS.out.1, Nat.le_refl _, HS.out.2.1⟩
    have hag := xagain_any B X _ w3 hxm ⟨Nat.le_trans HLEN.out HSM.out.1, HSM.out.2⟩ HP.out
    clear hxm
    go_wp2_with (go_at_call 89; refine hag.mono ?_; rintro e w4 ⟨v4, rfl, hs4, hn4, hx4, t4⟩; have HS4 := Lib.hid hs4; have HN4 := Lib.hid hn4; have HX4 := Lib.hid hx4; have HT4 := Lib.hid (HT3.out.trans t4); clear hs4 hn4 hx4 t4)
    go_ret
    exact ⟨_, rfl, HS4.out, fun i hi => Nat.le_trans HN3.out.size (HN4.out i hi), HX4.out, HT4.out⟩
  · rw [show M.crash ⟨L0, n0, L1, n1, 1, no⟩ k = M.load ⟨L0, n0, (leftOf L1 n1 k), (leftOf L1 n1 k).length, 1, no⟩ L0 (leftOf L1 n1 k) from rfl] at hp ⊢
    rw [show M.crashT ⟨L0, n0, L1, n1, 1, no⟩ k = loadT L0 (leftOf L1 n1 k) from rfl]
    have hp : pick (numOf L0) (numOf (leftOf L1 n1 k)) ≠ 2 := hp
    have hlen : (leftOf L1 n1 k).length ≤ L1.length := by unfold leftOf; rw [List.length_take]; omega
    have c8 := cells_of h.r0.h 8 _ h.cu
    have hcr := rcrash h.r1 hg1 hs1 hsm.2 k hk1 hk2
    have hgl : record.Good (leftOf L1 n1 k) := good_take hg1 _
    have HX := Lib.hid h
    have HS := Lib.hid (And.intro hg0 (And.intro hs0 hgl))
    have HSM := Lib.hid hsm
    have HP := Lib.hid hp
    have HLEN := Lib.hid hlen
    clear h hg0 hg1 hs0 hs1 hsm hgl hp hlen
    go_enter Tryd.func54, Tryd.ntmps54
    go_upto_region 4 with (go_at_call 37; refine hcr.mono ?_; rintro e w3 ⟨rfl, cu3, v3, hr3, ho3, t3⟩; have HX3 := Lib.hid (HX.out.set1 hr3 ho3 t3); have HT3 := Lib.hid (TS.oneX t3 HX.out.bX HX.out.r0.h); have HN3 := Lib.hid t3; clear hr3 ho3 t3)
    clear c8 hcr
    have hxm : XM w3 B X ⟨L0, n0, (leftOf L1 n1 k), (leftOf L1 n1 k).length, 1, no⟩ := ⟨⟨_, _, _, HX3.out⟩, Or.inr rfl, HS.out.1, HS.out.2.2, HS.out.2.1, Nat.le_refl _⟩
    have hag := xagain_any B X _ w3 hxm ⟨HSM.out.1, Nat.le_trans HLEN.out HSM.out.2⟩ HP.out
    clear hxm
    go_wp2_with (go_at_call 89; refine hag.mono ?_; rintro e w4 ⟨v4, rfl, hs4, hn4, hx4, t4⟩; have HS4 := Lib.hid hs4; have HN4 := Lib.hid hn4; have HX4 := Lib.hid hx4; have HT4 := Lib.hid (HT3.out.trans t4); clear hs4 hn4 hx4 t4)
    go_ret
    exact ⟨_, rfl, HS4.out, fun i hi => Nat.le_trans HN3.out.size (HN4.out i hi), HX4.out, HT4.out⟩
end Go.Proofs.YtlhcmgjkhkcgcaaDoor.vault

namespace Go.Proofs.YtlhcmgjkhkcgcaaDoor.vault
open Go.RowKit
open Go.Proofs.YtlhcmgjkhkcgcaaDoor.stepkit Go.Proofs.YtlhcmgjkhkcgcaaDoor.obj Go.Proofs.YtlhcmgjkhkcgcaaDoor.row Go.Proofs.YtlhcmgjkhkcgcaaDoor.mix Go.Proofs.YtlhcmgjkhkcgcaaDoor.idkit Go.Proofs.YtlhcmgjkhkcgcaaDoor.bytes Go.Proofs.YtlhcmgjkhkcgcaaDoor.octet Go.Proofs.YtlhcmgjkhkcgcaaDoor.eqkit Go.Proofs.YtlhcmgjkhkcgcaaDoor.record Go.Proofs.YtlhcmgjkhkcgcaaDoor.argkit
open Go.Proofs.YtlhcmgjkhkcgcaaDoor.journal (RJ Outs get_set get_other at_store sl_not)
open Go.Proofs.YtlhcmgjkhkcgcaaDoor.block (keepOf keepOf_le keepOf_ge keepOf_all)

theorem tat_turns {w w' : World} {v : Value} {l : List ByteArray} (h : TAt w v l) (ht : Turns nobody w w') : TAt w' v l := by
  obtain ⟨ao, cap, rfl, hc⟩ := h
  refine ⟨ao, cap, rfl, fun i hi => ?_⟩
  obtain ⟨b, o, h1, h2⟩ := hc i hi
  exact ⟨b, o, h1, (ht.cell (p := ⟨b, _, none⟩) (lt_of_cell' h2) (fun h => h)).trans h2⟩
def Z4 : List Value := [.string ⟨#[]⟩, .int .i64 0, .slice none 0 0, .int .i64 0]
def jcells (L : List RV) (n : Nat) (v : Value) : List Value := [.string ⟨(cat L).toArray⟩, .int .i64 (endOf L n : Nat), v, .int .i64 (n : Nat)]
theorem rj_range {w : World} {X : Nat} {T : TypeId} {o : Nat} {cur : Array Value} {S : ByteArray} {sb : Nat} {v : Value} {L : List RV} {n : Nat} (h : RJ w X T o cur S sb v L n) : w.rangeAt X o [.string S, .int .i64 (sb : Int), v, .int .i64 (n : Int)] := by
  intro j u hv
  match j, hv with
  | 0, hv =>
    injection hv with e
    rw [← e]; exact cells_of h.h _ _ h.c0
  | 1, hv =>
    injection hv with e
    rw [← e]; exact cells_of h.h _ _ h.c1
  | 2, hv =>
    injection hv with e
    rw [← e]; exact cells_of h.h _ _ h.c2
  | 3, hv =>
    injection hv with e
    rw [← e]; exact cells_of h.h _ _ h.c3
  | k + 4, hv => simp at hv
theorem results_j2 {fn : Func} {s u : Tmp} (h : fn.results = #[.cell s 68, .tmp u]) (tmps : Array Value) (w : World) {b : Nat} {cs : List Value} {x : Value} (hs : tmps.getD s undef = .pointer (some ⟨b, 0, none⟩)) (hu : tmps.getD u undef = x)
    (hr : w.rangeAt b 0 cs) (hi : (Tryd.prog.info? 68).map (·.size) = some cs.length) : (results fn tmps).run Tryd.prog w = .ok (.tuple #[.agg cs.toArray, x]) w := by
  have hload := run_loadVar_mid (P := Tryd.prog) w b 0 68 cs _ hr Tryd.underlying68 rfl hi
  have hs' : tmps[s]?.getD undef = .pointer (some ⟨b, 0, none⟩) := by rw [← hs]; simp
  have hu' : tmps[u]?.getD undef = x := by rw [← hu]; simp
  simp [results, h, hs', hu', hload, asAddr]
theorem jone {w : World} {L : List RV} {n : Nat} {v : Value} (h : RSl w v L) : ∀ x ∈ jcells L n v, x.oneCell' = true := four_one (sl_one h)
theorem z4_one : ∀ x ∈ Z4, x.oneCell' = true := by
  unfold Z4
  intro x hx
  simp only [List.mem_cons, List.not_mem_nil, or_false] at hx
  rcases hx with rfl | rfl | rfl | rfl <;> rfl
theorem rj_new {w : World} {J : Nat} {L : List RV} {n : Nat} {v : Value} (h : w.heap[J]? = some (.cells (jcells L n v).toArray 68 (0, 0))) (hs : RSl w v L) : RJ w J 68 0 (jcells L n v).toArray ⟨(cat L).toArray⟩ (endOf L n) v L n := ⟨h, rfl, rfl, rfl, rfl, hs⟩

/-! ### lay -/
structure XJ (w : World) (R J : Nat) (L : List RV) (cur : Array Value) (v : Value) (W : World) : Prop where
  j : RJ W J 68 0 cur ⟨(cat L).toArray⟩ (endOf L 0) v L 0
  r : W.heap[R]? = some (.cells Z4.toArray 68 (0, 0))
  t : Turns nobody w W
  nj : w.heap.size ≤ J
  nr : w.heap.size ≤ R
  ne : R ≠ J
theorem XJ.step {w W W' : World} {R J : Nat} {L L' : List RV} {cur cur' : Array Value} {v v' : Value} (h : XJ w R J L cur v W) (hj : RJ W' J 68 0 cur' ⟨(cat L').toArray⟩ (endOf L' 0) v' L' 0) (ht : Turns (fun i => i = J) W W') : XJ w R J L' cur' v' W' :=
  ⟨hj, heap_newer h.r ht (fun e => h.ne e), h.t.trans2 ht (fun i hi => by rw [hi]; exact h.nj), h.nj, h.nr, h.ne⟩
theorem XJ.still {w W W' : World} {R J : Nat} {L : List RV} {cur : Array Value} {v : Value} (h : XJ w R J L cur v W) (ht : Turns nobody W W') : XJ w R J L cur v W' :=
  ⟨h.j.still ht, heap_newer h.r ht (fun h => h), h.t.trans ht (fun _ h => h.elim), h.nj, h.nr, h.ne⟩
set_option maxRecDepth 10000 in
set_option maxHeartbeats 4000000 in

theorem xlay_bad (B X : Nat) (m : M) (v : Value) (T : List ByteArray) (w : World) (hm : XM w B X m) (hT : TAt w v T) (hno : 2147483647 ≤ m.no) :
    Calls Tryd.prog 90 #[.pointer (some ⟨X, 0, none⟩), v] w fun e w' => e = .returned (.tuple #[.agg Z4.toArray, .int .i64 3]) ∧ Turns nobody w w' := by
  obtain ⟨ao, cap, rfl, -⟩ := id hT
  obtain ⟨⟨cu, u0, u1, h⟩, -⟩ := hm
  obtain ⟨L0, n0, L1, n1, u, no⟩ := m
  simp only at h hno ⊢
  obtain ⟨R, hR⟩ : ∃ R, w.heap.size = R := ⟨_, rfl⟩
  obtain ⟨w1, hw1⟩ : ∃ w1, w1 = w.alloc (.cells Z4.toArray 68) := ⟨_, rfl⟩
  have t1 : Turns nobody w w1 := by rw [hw1]; exact (Turns.refl _ _).alloc _
  have h1 : w1.heap[R]? = some (.cells Z4.toArray 68 (0, 0)) := by rw [hw1, ← hR]; exact heap_alloc_new w _
  obtain ⟨J, hJ⟩ : ∃ J, w1.heap.size = J := ⟨_, rfl⟩
  have hRJ : R ≠ J := by rw [← hJ, hw1, ← hR]; simp
  obtain ⟨w2, hw2⟩ : ∃ w2, w2 = w1.alloc (.cells Z4.toArray 68) := ⟨_, rfl⟩
  have t2 : Turns nobody w1 w2 := by rw [hw2]; exact (Turns.refl _ _).alloc _
  have h2 : w2.heap[J]? = some (.cells Z4.toArray 68 (0, 0)) := by rw [hw2, ← hJ]; exact heap_alloc_new w1 _
  have hxj : XJ w R J [] Z4.toArray (.slice none 0 0) w2 := ⟨⟨h2, rfl, rfl, rfl, rfl, Sl.nil _ _ _⟩, heap_newer h1 t2 (fun h => h), t1.trans t2 (fun _ h => h.elim), by rw [← hJ]; exact t1.size, by rw [hR]; exact Nat.le_refl _, hRJ⟩
  have hx2 := (h.still t1).still t2
  have c9 := cells_of hx2.r0.h 9 _ hx2.cn
  have HXJ := Lib.hid hxj
  have HW1 := Lib.hid hw1
  have HW2 := Lib.hid hw2
  have HT := Lib.hid (tat_turns hT (t1.trans t2 (fun _ h => h.elim)))
  have HJJ := Lib.hid hJ
  unfold Z4 at HW1 HW2
  clear hw1 hw2 t1 t2 h1 h2 hxj hx2 h hJ hRJ hT
  have hnoI : (2147483647 : Int) ≤ (no : Int) := by omega
  go_enter Tryd.func90, Tryd.ntmps90
  go_upto_region 1 with fail
  rw [← HW1.out]
  clear hR HW1
  go_upto_region 2 with fail
  rw [← HW2.out, HJJ.out]
  clear HW2
  have hrg := rj_range HXJ.out.j
  have HRG := Lib.hid hrg
  clear hrg
  go_wp2_with first
    | (with_reducible refine wpList_load_mid rfl _ _ rfl _ _ rfl _ _ HRG.out Tryd.underlying68 rfl (size4l _ _ _ _) ?_)
    | ((with_reducible refine at_store ?_); refine wpList_putc rfl _ _ _ rfl Z4 HXJ.out.r rfl z4_one rfl rfl size4 ?_; intro w8 t8 h8 z8; have HT8 := Lib.hid t8; have HH8 := Lib.hid h8; clear t8 h8 z8)
  refine bodyPost_ret (results_j2 rfl _ _ rfl rfl (range_of HH8.out) size4) rfl ⟨rfl, HXJ.out.t.trans2 HT8.out (fun i hi => by rw [hi]; exact HXJ.out.nr)⟩
set_option maxRecDepth 10000 in
set_option maxHeartbeats 4000000 in

theorem xlay_ok (B X : Nat) (m : M) (v : Value) (T : List ByteArray) (w : World) (hm : XM w B X m) (hT : TAt w v T) (hl : T.length ≤ 100) (hs : ∀ s ∈ T, s.size ≤ 300) (hno : m.no < 2147483647) :
    Calls Tryd.prog 90 #[.pointer (some ⟨X, 0, none⟩), v] w fun e w' => ∃ vj, e = .returned (.tuple #[.agg (jcells (snap (m.no + 1) T) 0 vj).toArray, .int .i64 0]) ∧ RSl w' vj (snap (m.no + 1) T) ∧ Turns nobody w w' := by
  have hbs := build_seal
  obtain ⟨ao, cap, rfl, -⟩ := id hT
  have hT0 := Lib.hid hT
  obtain ⟨⟨cu, u0, u1, h⟩, -⟩ := hm
  obtain ⟨L0, n0, L1, n1, u, no⟩ := m
  simp only at h hno ⊢
  obtain ⟨R, hR⟩ : ∃ R, w.heap.size = R := ⟨_, rfl⟩
  obtain ⟨w1, hw1⟩ : ∃ w1, w1 = w.alloc (.cells Z4.toArray 68) := ⟨_, rfl⟩
  have t1 : Turns nobody w w1 := by rw [hw1]; exact (Turns.refl _ _).alloc _
  have h1 : w1.heap[R]? = some (.cells Z4.toArray 68 (0, 0)) := by rw [hw1, ← hR]; exact heap_alloc_new w _
  obtain ⟨J, hJ⟩ : ∃ J, w1.heap.size = J := ⟨_, rfl⟩
  have hRJ : R ≠ J := by rw [← hJ, hw1, ← hR]; simp
  obtain ⟨w2, hw2⟩ : ∃ w2, w2 = w1.alloc (.cells Z4.toArray 68) := ⟨_, rfl⟩
  have t2 : Turns nobody w1 w2 := by rw [hw2]; exact (Turns.refl _ _).alloc _
  have h2 : w2.heap[J]? = some (.cells Z4.toArray 68 (0, 0)) := by rw [hw2, ← hJ]; exact heap_alloc_new w1 _
  have hxj : XJ w R J [] Z4.toArray (.slice none 0 0) w2 := ⟨⟨h2, rfl, rfl, rfl, rfl, Sl.nil _ _ _⟩, heap_newer h1 t2 (fun h => h), t1.trans t2 (fun _ h => h.elim), by rw [← hJ]; exact t1.size, by rw [hR]; exact Nat.le_refl _, hRJ⟩
  have hx2 := (h.still t1).still t2
  have c9 := cells_of hx2.r0.h 9 _ hx2.cn
  have HXJ := Lib.hid hxj
  have HW1 := Lib.hid hw1
  have HW2 := Lib.hid hw2
  have HT := Lib.hid (tat_turns hT (t1.trans t2 (fun _ h => h.elim)))
  have HJJ := Lib.hid hJ
  unfold Z4 at HW1 HW2
  clear hw1 hw2 t1 t2 h1 h2 hxj hx2 h hJ hRJ hT
  have hnoI : ¬ (2147483647 : Int) ≤ (no : Int) := by omega
  have HS := Lib.hid hs
  have HNO := Lib.hid hno
  have HLL := Lib.hid hl
  clear hs hno hl
  go_enter Tryd.func90, Tryd.ntmps90
  go_upto_region 1 with fail
  rw [← HW1.out]
  clear hR HW1
  go_upto_region 2 with fail
  rw [← HW2.out, HJJ.out]
  clear HW2
  go_upto_region 5 with fail
  go_loopw [7] (fun i wr => ∃ k : Nat, k ≤ T.length ∧ i = .int .i64 k ∧ wr = w2) (fun i _ => T.length - (intOf i).toNat)
  case atStart => exact ⟨0, Nat.zero_le _, rfl, rfl⟩
  case round =>
    obtain ⟨k, hk, rfl, hw⟩ := hrel
    subst hw
    have hkl : k ≤ 100 := by have := HLL.out; omega
    by_cases hlt : k < T.length
    · obtain ⟨ao', cap', hv, hc⟩ := HT.out
      cases hv
      obtain ⟨b, o, rfl, c0⟩ := hc k hlt
      have hz := HS.out (T.getD k nil) (by rw [List.getD_eq_getElem?_getD, List.getElem?_eq_getElem hlt]; exact List.getElem_mem hlt)
      generalize T.getD k nil = s at *
      have hltI : (k : Int) < (T.length : Int) := by omega
      have hzI : ¬ (1048576 : Int) < (s.size : Int) := by omega
      clear hz hc
      go_wp2
      go_roundw
      case rel => exact ⟨k + 1, by omega, by go_num, by first | rfl | trivial⟩
      case measure => simp [intOf]; omega
    · have hltI : ¬ (k : Int) < (T.length : Int) := by omega
      have hgen := refgen_any (no + 1) wr (by have := HNO.out; omega)
      have HNO1 : Hid (IntKind.i64.wrap ((no : Int) + 1) = ((no + 1 : Nat) : Int)) := Lib.hid (by rw [IntWalk.i64_in _ (by have := HNO.out; omega)]; push_cast; rfl)
      have hwr := HNO1.out
      have hnb : (no : Int) < 2147483647 := by have := HNO.out; omega
      unfold recV at hgen
      go_upto_region 10 with first
        | (go_at_call 88; refine hgen.mono ?_; rintro e w5 ⟨rfl, t5⟩; have HX5 := Lib.hid (HXJ.out.still t5); clear t5)
        | (go_at_call 35; refine (rapp (genR (no + 1)) HX5.out.j (by decide) (fun _ h => by cases h) (Nat.le_refl _) (by decide) (good_gen _)).mono ?_; rintro e w6 ⟨rfl, cu6, v6, hr6, ho6, t6⟩; have HX6 := Lib.hid (HX5.out.step hr6 t6); clear hr6 ho6 t6)
      clear c9 hgen hwr HX5 hlt hltI hk hkl hnb
      go_upto_region 11 with fail
      go_loopw [8] (fun i wq => ∃ k : Nat, k ≤ T.length ∧ i = .int .i64 k ∧ ∃ cu vv, XJ w R J (genR (no + 1) :: (T.take k).map entR) cu vv wq) (fun i _ => T.length - (intOf i).toNat)
      case atStart => exact ⟨0, Nat.zero_le _, rfl, _, _, HX6.out⟩
      case round =>
        obtain ⟨k, hk, rfl, cu7, v7, hG⟩ := hrel
        have HG := Lib.hid hG
        have hkl : k ≤ 100 := by have := HLL.out; omega
        by_cases hlt : k < T.length
        · have hTq : TAt _ _ T := tat_turns hT0.out hG.t
          obtain ⟨ao', cap', hv, hc⟩ := hTq
          cases hv
          obtain ⟨b, o, rfl, c0⟩ := hc k hlt
          have hsz := HS.out (T.getD k nil) (by rw [List.getD_eq_getElem?_getD, List.getElem?_eq_getElem hlt]; exact List.getElem_mem hlt)
          have HST := Lib.hid (snap_step (no + 1) T k hlt)
          clear hG hc
          generalize T.getD k nil = s at *
          have hge := good_ent hsz
          have hap := rapp (entR s) HG.out.j (by decide) (snap_part (no + 1) T HS.out k) (Nat.zero_le _) (by rw [List.length_cons, List.length_map, List.length_take]; omega) hge
          rw [HST.out] at hap
          have hbe := build_ent s
          have hltI : (k : Int) < (T.length : Int) := by omega
          rw [show (entR s).1 = 3 from rfl, show (entR s).2 = s from rfl] at hap
          clear hsz hge
          go_wp2_with (go_at_call 35; refine hap.mono ?_; rintro e w8 ⟨rfl, cu8, v8, hr8, ho8, t8⟩; have HG8 := Lib.hid (HG.out.step hr8 t8); clear hr8 ho8 t8)
          go_roundw
          case rel => exact ⟨k + 1, by omega, by go_num, _, _, HG8.out⟩
          case measure => simp [intOf]; omega
        · obtain rfl : k = T.length := by omega
          rw [List.take_length] at HG
          have hltI : ¬ (T.length : Int) < (T.length : Int) := by omega
          have hgp := snap_part (no + 1) T HS.out T.length
          rw [List.take_length] at hgp
          have hap := rapp sealR HG.out.j (by decide) hgp (Nat.zero_le _) (by rw [List.length_cons, List.length_map]; omega) good_seal
          rw [show sealR.1 = 2 from rfl, show sealR.2 = nil from rfl] at hap
          clear hG hlt hk hgp
          go_upto_region 15 with first
            | (with_reducible refine wpList_exec (exec_build _ _ rfl #[(0, .int .i64 2)] (by kernel_rfl) (hbs _)) rfl ?_)
            | (go_at_call 35; refine hap.mono ?_; rintro e w9 ⟨rfl, cu9, v9, hr9, ho9, t9⟩; have HG9 : Hid (XJ w R J (snap (no + 1) T) cu9 v9 w9) := Lib.hid (HG.out.step hr9 t9); clear hr9 ho9 t9)
          clear hap
          have hrg := rj_range HG9.out.j
          have HRG := Lib.hid hrg
          have HONE := Lib.hid (jone (n := 0) HG9.out.j.s)
          clear hrg
          go_wp2_with first
            | (with_reducible refine wpList_load_mid rfl _ _ rfl _ _ rfl _ _ HRG.out Tryd.underlying68 rfl (size4l _ _ _ _) ?_)
            | ((with_reducible refine at_store ?_); refine wpList_putc rfl _ _ _ rfl (jcells (snap (no + 1) T) 0 v9) HG9.out.r rfl HONE.out rfl rfl size4 ?_; intro w10 t10 h10 z10; have HT10 := Lib.hid t10; have HH10 := Lib.hid h10; clear t10 h10 z10)
          refine bodyPost_ret (results_j2 rfl _ _ rfl rfl (range_of HH10.out) size4) rfl ⟨v9, rfl, Sl.keep HG9.out.j.s HT10.out (sl_not HG9.out.j.s HG9.out.r (by decide)), HG9.out.t.trans2 HT10.out (fun i hi => by rw [hi]; exact HG9.out.nr)⟩
set_option maxRecDepth 10000 in
set_option maxHeartbeats 4000000 in

theorem xput_any (B X : Nat) (m : M) (L : List RV) (n : Nat) (v : Value) (w : World) (hm : XM w B X m) (hs : RSl w v L) (hg : record.Good L) (hn : n ≤ L.length) :
    Calls Tryd.prog 91 #[.pointer (some ⟨X, 0, none⟩), .agg (jcells L n v).toArray] w fun e w' => e = .returned (.tuple #[]) ∧ XM w' B X (m.put L n) ∧ TS okX B w w' := by
  obtain ⟨⟨cur, v0, v1, h⟩, hu, hg0, hg1, hs0, hs1⟩ := hm
  obtain ⟨L0, n0, L1, n1, u, no⟩ := m
  simp only at h hu hg0 hg1 hs0 hs1
  obtain ⟨P, hP⟩ : ∃ P, w.heap.size = P := ⟨_, rfl⟩
  obtain ⟨w1, hw1⟩ : ∃ w1, w1 = w.alloc (.cells (jcells L n v).toArray 68) := ⟨_, rfl⟩
  have t1 : Turns nobody w w1 := by rw [hw1]; exact (Turns.refl _ _).alloc _
  have h1 : w1.heap[P]? = some (.cells (jcells L n v).toArray 68 (0, 0)) := by rw [hw1, ← hP]; exact heap_alloc_new w _
  have hx1 := h.still t1
  have hz := hx1.size
  have hsl := Sl.keep hs t1 (fun _ _ h => h)
  have c8 := cells_of hx1.r0.h 8 _ hx1.cu
  have hrg := rj_range (rj_new h1 hsl)
  have HRG := Lib.hid hrg
  have HONE := Lib.hid (jone (n := n) hs)
  have HX1 := Lib.hid hx1
  have HSL := Lib.hid hsl
  have HT1 := Lib.hid t1
  have HW1 := Lib.hid hw1
  have HGG := Lib.hid (And.intro hg0 (And.intro hg1 (And.intro hs0 (And.intro hs1 (And.intro hg hn)))))
  unfold jcells at HW1
  clear hw1 t1 h1 hx1 hsl hrg h hg0 hg1 hs0 hs1 hg hn hs
  rcases hu with rfl | rfl
  · rw [show M.put ⟨L0, n0, L1, n1, 0, no⟩ L n = ⟨L0, n0, L, n, 0, no⟩ from rfl]
    unfold jcells
    go_enter Tryd.func91, Tryd.ntmps91
    go_upto_region 1 with fail
    rw [← HW1.out]
    go_wp2_with first
      | (with_reducible refine wpList_load_mid rfl _ _ rfl _ _ rfl _ _ HRG.out Tryd.underlying68 rfl (size4l _ _ _ _) ?_)
      | ((with_reducible refine at_store ?_); refine wpList_put4 rfl _ _ _ rfl _ _ _ _ HX1.out.r0.h (by omega) HONE.out rfl rfl size4 ?_; intro w6 cu6 t6 h6 o6 f6; have HT6 := Lib.hid t6; have HH6 := Lib.hid h6; have HO6 := Lib.hid o6; have HF6 := Lib.hid f6; clear t6 h6 o6 f6)
    go_end0
    have hr : RJ w6 X 98 4 cu6 ⟨(cat L).toArray⟩ (endOf L n) v L n := ⟨HH6.out, HF6.out.g0, HF6.out.g1, HF6.out.g2, HF6.out.g3, Sl.keep HSL.out HT6.out (sl_not HSL.out HX1.out.r0.h (by decide))⟩
    refine ⟨rfl, ⟨⟨_, _, _, HX1.out.set1 hr HO6.out HT6.out⟩, Or.inl rfl, HGG.out.1, HGG.out.2.2.2.2.1, HGG.out.2.2.1, HGG.out.2.2.2.2.2⟩, (TS.still HT1.out).trans (TS.oneX HT6.out HX1.out.bX HX1.out.r0.h)⟩
  · rw [show M.put ⟨L0, n0, L1, n1, 1, no⟩ L n = ⟨L, n, L1, n1, 1, no⟩ from rfl]
    unfold jcells
    go_enter Tryd.func91, Tryd.ntmps91
    go_upto_region 1 with fail
    rw [← HW1.out]
    go_wp2_with first
      | (with_reducible refine wpList_load_mid rfl _ _ rfl _ _ rfl _ _ HRG.out Tryd.underlying68 rfl (size4l _ _ _ _) ?_)
      | ((with_reducible refine at_store ?_); refine wpList_put4 rfl _ _ _ rfl _ _ _ _ HX1.out.r0.h (by omega) HONE.out rfl rfl size4 ?_; intro w6 cu6 t6 h6 o6 f6; have HT6 := Lib.hid t6; have HH6 := Lib.hid h6; have HO6 := Lib.hid o6; have HF6 := Lib.hid f6; clear t6 h6 o6 f6)
    go_end0
    have hr : RJ w6 X 98 0 cu6 ⟨(cat L).toArray⟩ (endOf L n) v L n := ⟨HH6.out, HF6.out.g0, HF6.out.g1, HF6.out.g2, HF6.out.g3, Sl.keep HSL.out HT6.out (sl_not HSL.out HX1.out.r0.h (by decide))⟩
    refine ⟨rfl, ⟨⟨_, _, _, HX1.out.set0 hr HO6.out HT6.out⟩, Or.inr rfl, HGG.out.2.2.2.2.1, HGG.out.2.1, HGG.out.2.2.2.2.2, HGG.out.2.2.2.1⟩, (TS.still HT1.out).trans (TS.oneX HT6.out HX1.out.bX HX1.out.r0.h)⟩
set_option maxRecDepth 10000 in
set_option maxHeartbeats 4000000 in

theorem xsnap_bad (B X : Nat) (m : M) (v : Value) (T : List ByteArray) (w : World) (hm : XM w B X m) (hT : TAt w v T) (hno : 2147483647 ≤ m.no) :
    Calls Tryd.prog 55 #[.pointer (some ⟨X, 0, none⟩), v] w fun e w' => e = .returned (.int .i64 3) ∧ Turns nobody w w' := by
  have hla := xlay_bad B X m v T w hm hT hno
  obtain ⟨ao, cap, rfl, -⟩ := id hT
  have HX := Lib.hid hm
  go_enter Tryd.func55, Tryd.ntmps55
  clear hm hT hno
  go_wp2_with first
    | (go_at_call 90; refine hla.mono ?_; rintro e w2 ⟨rfl, t2⟩; have HT2 := Lib.hid t2; clear t2)
    | ((with_reducible refine at_store ?_); refine wpList_putc rfl _ _ _ rfl Z4 (heap_alloc_new w2 (.cells Z4.toArray 68)) rfl z4_one rfl rfl size4 ?_; intro w8 t8 h8 z8; have HT9 : Hid (Turns nobody w w8) := Lib.hid ((HT2.out.alloc _).trans2 t8 (fun i hi => by rw [hi]; exact HT2.out.size)); clear t8 h8 z8)
  go_ret
  exact ⟨rfl, HT9.out⟩
set_option maxRecDepth 10000 in
set_option maxHeartbeats 4000000 in

theorem xdie_bad (B X : Nat) (m : M) (v : Value) (T : List ByteArray) (k : Int) (w : World) (hm : XM w B X m) (hT : TAt w v T) (hno : 2147483647 ≤ m.no) :
    Calls Tryd.prog 56 #[.pointer (some ⟨X, 0, none⟩), v, .int .i64 k] w fun e w' => e = .returned (.tuple #[.slice none 0 0, .int .i64 3]) ∧ Turns nobody w w' := by
  have hla := xlay_bad B X m v T w hm hT hno
  obtain ⟨ao, cap, rfl, -⟩ := id hT
  have HX := Lib.hid hm
  go_enter Tryd.func56, Tryd.ntmps56
  clear hm hT hno
  go_wp2_with first
    | (go_at_call 90; refine hla.mono ?_; rintro e w2 ⟨rfl, t2⟩; have HT2 := Lib.hid t2; clear t2)
    | ((with_reducible refine at_store ?_); refine wpList_putc rfl _ _ _ rfl Z4 (heap_alloc_new w2 (.cells Z4.toArray 68)) rfl z4_one rfl rfl size4 ?_; intro w8 t8 h8 z8; have HT9 : Hid (Turns nobody w w8) := Lib.hid ((HT2.out.alloc _).trans2 t8 (fun i hi => by rw [hi]; exact HT2.out.size)); clear t8 h8 z8)
  exact bodyPost_ret (results_tmp2 rfl _ _ _) rfl ⟨rfl, HT9.out⟩
theorem XM.tsg {ok : TypeId → Prop} {B' : Nat} {w w' : World} {B X : Nat} {m : M} (hm : XM w B X m) (ht : TS ok B' w w') (h1 : ¬ ok 98) (h2 : ¬ ok 23) : XM w' B X m := by
  obtain ⟨⟨cur, v0, v1, h⟩, hu, hg0, hg1, hs0, hs1⟩ := hm
  exact ⟨⟨cur, v0, v1, ⟨RJ.ts h.r0 ht h1 h2, RJ.ts h.r1 ht h1 h2, h.cu, h.cn, h.bX⟩⟩, hu, hg0, hg1, hs0, hs1⟩
theorem RJ.set1 {w w' : World} {X : Nat} {o i : Nat} {cur : Array Value} {S : ByteArray} {sb : Nat} {v : Value} {L : List RV} {n : Nat} {x : Value} (h : RJ w X 98 o cur S sb v L n) (hi : i < o ∨ o + 4 ≤ i) (hw : w' = w.setCell ⟨X, i, none⟩ x) : RJ w' X 98 o (cur.setIfInBounds i x) S sb v L n := by
  subst hw
  refine ⟨heap_setCell_at h.h i x, by rw [get_out _ (by omega)]; exact h.c0, by rw [get_out _ (by omega)]; exact h.c1, by rw [get_out _ (by omega)]; exact h.c2, by rw [get_out _ (by omega)]; exact h.c3, Sl.keep h.s (Turns.set w X i x) (sl_not h.s h.h (by decide))⟩
theorem XC.setu {w w' : World} {B X : Nat} {L0 : List RV} {n0 : Nat} {L1 : List RV} {n1 : Nat} {u no : Nat} {cur : Array Value} {v0 v1 : Value} (h : XC w B X L0 n0 L1 n1 u no cur v0 v1) (u' : Nat) (hw : w' = w.setCell ⟨X, 8, none⟩ (.int .i64 (u' : Int))) : XC w' B X L0 n0 L1 n1 u' no (cur.setIfInBounds 8 (.int .i64 (u' : Int))) v0 v1 ∧ TS okX B w w' := by
  have hz := h.size
  refine ⟨⟨RJ.set1 h.r0 (Or.inr (by omega)) hw, RJ.set1 h.r1 (Or.inr (by omega)) hw, get_in _ (by omega), by rw [get_out _ (by omega)]; exact h.cn, h.bX⟩, ?_⟩
  subst hw
  exact TS.oneX (Turns.set w X 8 _) h.bX h.r0.h
theorem XC.setn {w w' : World} {B X : Nat} {L0 : List RV} {n0 : Nat} {L1 : List RV} {n1 : Nat} {u no : Nat} {cur : Array Value} {v0 v1 : Value} (h : XC w B X L0 n0 L1 n1 u no cur v0 v1) (no' : Nat) (hw : w' = w.setCell ⟨X, 9, none⟩ (.int .i64 (no' : Int))) : XC w' B X L0 n0 L1 n1 u no' (cur.setIfInBounds 9 (.int .i64 (no' : Int))) v0 v1 ∧ TS okX B w w' := by
  have hz := h.size
  refine ⟨⟨RJ.set1 h.r0 (Or.inr (by omega)) hw, RJ.set1 h.r1 (Or.inr (by omega)) hw, by rw [get_out _ (by omega)]; exact h.cu, get_in _ (by omega), h.bX⟩, ?_⟩
  subst hw
  exact TS.oneX (Turns.set w X 9 _) h.bX h.r0.h
theorem snap_m (L0 : List RV) (n0 : Nat) (L1 : List RV) (n1 no : Nat) (T : List ByteArray) : M.snp ⟨L0, n0, L1, n1, 0, no⟩ T = ⟨L0, L0.length, snap (no + 1) T, (snap (no + 1) T).length, 1, no + 1⟩ ∧ M.snp ⟨L0, n0, L1, n1, 1, no⟩ T = ⟨snap (no + 1) T, (snap (no + 1) T).length, L1, L1.length, 0, no + 1⟩ := ⟨rfl, rfl⟩
set_option maxRecDepth 10000 in
set_option maxHeartbeats 4000000 in

theorem xsnap_ok (B X : Nat) (m : M) (v : Value) (T : List ByteArray) (w : World) (hm : XM w B X m) (hsm : small m) (hT : TAt w v T) (hl : T.length ≤ 100) (hs : ∀ s ∈ T, s.size ≤ 300) (hno : m.no < 2147483647) (hBw : B ≤ w.heap.size) :
    Calls Tryd.prog 55 #[.pointer (some ⟨X, 0, none⟩), v] w fun e w' => e = .returned (.int .i64 0) ∧ XM w' B X (m.snp T) ∧ TS okX B w w' := by
  have HS := Lib.hid hs
  have HLL := Lib.hid hl
  have HNO := Lib.hid hno
  have HSM := Lib.hid hsm
  have HBW := Lib.hid hBw
  have hla := xlay_ok B X m v T w hm hT hl hs hno
  obtain ⟨ao, cap, rfl, -⟩ := id hT
  have HX := Lib.hid hm
  go_enter Tryd.func55, Tryd.ntmps55
  clear hm hT hno hs hl hsm hBw
  go_upto_region 4 with first
    | (go_at_call 90; refine hla.mono ?_; rintro e w2 ⟨vj, rfl, hsj, t2⟩; have HSJ := Lib.hid hsj; have HT2 := Lib.hid t2; have HONE := Lib.hid (jone (n := 0) hsj); clear hsj t2)
    | ((with_reducible refine at_store ?_); refine wpList_putc rfl _ _ _ rfl (jcells (snap (m.no + 1) T) 0 vj) (heap_alloc_new w2 (.cells Z4.toArray 68)) rfl HONE.out rfl rfl size4 ?_; intro w3 t3 h3 z3; have HT3 := Lib.hid t3; have HH3 := Lib.hid h3; clear t3 h3 z3)
  clear hla HONE
  obtain ⟨J, hJ⟩ : ∃ J, w2.heap.size = J := ⟨_, rfl⟩
  rw [hJ] at HT3 HH3 ⊢
  have hal : Turns nobody w2 (w2.alloc (.cells Z4.toArray 68)) := (Turns.refl _ _).alloc _
  have hsj3 : RSl w3 vj (snap (m.no + 1) T) := Sl.keep (Sl.keep HSJ.out hal (fun _ _ h => h)) HT3.out (fun i hi e => by have := Sl.lt HSJ.out i hi; have e : i = J := e; omega)
  have htt : Turns nobody w w3 := (HT2.out.trans hal (fun _ h => h.elim)).trans2 HT3.out (fun i hi => by rw [hi, ← hJ]; exact HT2.out.size)
  have HJ3 := Lib.hid (rj_new HH3.out hsj3)
  have HJN : Hid (w.heap.size ≤ J) := Lib.hid (by rw [← hJ]; exact HT2.out.size)
  have HX3 := Lib.hid (HX.out.still htt)
  have HTT3 := Lib.hid htt
  have hsy := xsync_any B X m w3 HX3.out HSM.out
  clear hal hsj3 htt hJ HSJ HT2 HT3 HH3
  go_upto_region 5 with (go_at_call 53; refine hsy.mono ?_; rintro e w4 ⟨rfl, hx4, t4⟩; have HX4 := Lib.hid hx4; have HT4 := Lib.hid t4; have HJ4 := Lib.hid (RJ.ts HJ3.out t4 (by unfold okX; decide) (by unfold okX; decide)); clear hx4 t4)
  clear hsy
  go_upto_region 6 with (go_at_call 36; refine (rsync HJ4.out (by decide) (Nat.zero_le _) (by rw [snap_len]; have := HLL.out; omega)).mono ?_; rintro e w5 ⟨rfl, cu5, hr5, ho5, t5⟩; have HJ5 := Lib.hid hr5; have HT5 := Lib.hid t5; clear hr5 ho5 t5)
  have hx5 : XM w5 B X m.sync := HX4.out.tsg (TS.one (ok := fun T => T = 68) HT5.out (Nat.zero_le _) HJ4.out.h rfl) (by decide) (by decide)
  have HTS5 := Lib.hid (((TS.still HTT3.out : TS okX B w w3).trans HT4.out).fresh HT5.out HJN.out)
  have hpu := xput_any B X m.sync (snap (m.no + 1) T) _ vj w5 hx5 HJ5.out.s (good_snap HS.out) (Nat.le_refl _)
  unfold jcells at hpu
  have hrg := rj_range HJ5.out
  have HRG := Lib.hid hrg
  clear hrg hx5 HX4 HX3 HJ3 HJ4 HTT3 HT4 HT5
  go_upto_region 7 with first
    | (with_reducible refine wpList_load_mid rfl _ _ rfl _ _ rfl _ _ HRG.out Tryd.underlying68 rfl (size4l _ _ _ _) ?_)
    | (go_at_call 91; refine hpu.mono ?_; rintro e w6 ⟨rfl, hx6, t6⟩; have HX6 := Lib.hid hx6; have HTS6 := Lib.hid (HTS5.out.trans t6); clear hx6 t6)
  clear hpu HRG HJ5
  obtain ⟨L0, n0, L1, n1, u, no⟩ := m
  have hu := HX.out.u
  simp only at hu HNO
  rcases hu with rfl | rfl

  · have hx6 : XM w6 B X ⟨L0, L0.length, snap (no + 1) T, (snap (no + 1) T).length, 0, no⟩ := HX6.out
    obtain ⟨⟨cur, y0, y1, h6⟩, -, hg0, hg1, hs0, hs1⟩ := hx6
    simp only at h6 hg0 hg1 hs0 hs1
    have HGG := Lib.hid (And.intro hg0 (And.intro hg1 (And.intro hs0 hs1)))
    have H6 := Lib.hid h6
    have c8 := cells_of h6.r0.h 8 _ h6.cu
    have f8 := free_of h6.r0.h 8
    obtain ⟨w7, hw7⟩ : ∃ w7, w7 = w6.setCell ⟨X, 8, none⟩ (.int .i64 1) := ⟨_, rfl⟩
    have hx7 := h6.setu 1 hw7
    have HW7 := Lib.hid hw7
    have HX7 := Lib.hid hx7
    clear h6 hg0 hg1 hs0 hs1 hw7 hx7
    go_upto_region 8 with fail
    rw [← HW7.out]
    clear c8 f8 HW7
    have c9 := cells_of HX7.out.1.r0.h 9 _ HX7.out.1.cn
    have f9 := free_of HX7.out.1.r0.h 9
    have hnb : (no : Int) < 2147483647 := by have := HNO.out; omega
    have hwr : IntKind.i64.wrap ((no : Int) + 1) = (no : Int) + 1 := IntWalk.i64_in _ (by omega)
    obtain ⟨w8, hw8⟩ : ∃ w8, w8 = w7.setCell ⟨X, 9, none⟩ (.int .i64 ((no : Int) + 1)) := ⟨_, rfl⟩
    have hx8 := HX7.out.1.setn (no + 1) hw8
    have HW8 := Lib.hid hw8
    have HX8 := Lib.hid hx8
    clear hw8 hx8
    go_wp2
    rw [← HW8.out]
    go_ret
    exact ⟨rfl, ⟨⟨_, _, _, HX8.out.1⟩, Or.inr rfl, HGG.out.1, HGG.out.2.1, HGG.out.2.2.1, HGG.out.2.2.2⟩, (HTS6.out.trans HX7.out.2).trans HX8.out.2⟩
  · have hx6 : XM w6 B X ⟨snap (no + 1) T, (snap (no + 1) T).length, L1, L1.length, 1, no⟩ := HX6.out
    obtain ⟨⟨cur, y0, y1, h6⟩, -, hg0, hg1, hs0, hs1⟩ := hx6
    simp only at h6 hg0 hg1 hs0 hs1
    have HGG := Lib.hid (And.intro hg0 (And.intro hg1 (And.intro hs0 hs1)))
    have H6 := Lib.hid h6
    have c8 := cells_of h6.r0.h 8 _ h6.cu
    have f8 := free_of h6.r0.h 8
    obtain ⟨w7, hw7⟩ : ∃ w7, w7 = w6.setCell ⟨X, 8, none⟩ (.int .i64 0) := ⟨_, rfl⟩
    have hx7 := h6.setu 0 hw7
    have HW7 := Lib.hid hw7
    have HX7 := Lib.hid hx7
    clear h6 hg0 hg1 hs0 hs1 hw7 hx7
    go_upto_region 8 with fail
    rw [← HW7.out]
    clear c8 f8 HW7
    have c9 := cells_of HX7.out.1.r0.h 9 _ HX7.out.1.cn
    have f9 := free_of HX7.out.1.r0.h 9
    have hnb : (no : Int) < 2147483647 := by have := HNO.out; omega
    have hwr : IntKind.i64.wrap ((no : Int) + 1) = (no : Int) + 1 := IntWalk.i64_in _ (by omega)
    obtain ⟨w8, hw8⟩ : ∃ w8, w8 = w7.setCell ⟨X, 9, none⟩ (.int .i64 ((no : Int) + 1)) := ⟨_, rfl⟩
    have hx8 := HX7.out.1.setn (no + 1) hw8
    have HW8 := Lib.hid hw8
    have HX8 := Lib.hid hx8
    clear hw8 hx8
    go_wp2
    rw [← HW8.out]
    go_ret
    exact ⟨rfl, ⟨⟨_, _, _, HX8.out.1⟩, Or.inl rfl, HGG.out.1, HGG.out.2.1, HGG.out.2.2.1, HGG.out.2.2.2⟩, (HTS6.out.trans HX7.out.2).trans HX8.out.2⟩
set_option maxRecDepth 10000 in
set_option maxHeartbeats 4000000 in

theorem xdie_ok (B X : Nat) (m : M) (v : Value) (T : List ByteArray) (k : Int) (w : World) (hm : XM w B X m) (hsm : small m) (hT : TAt w v T) (hl : T.length ≤ 100) (hs : ∀ s ∈ T, s.size ≤ 300) (hno : m.no < 2147483647) (hk1 : -9223372036854775808 ≤ k) (hk2 : k ≤ 9223372036854775807) (hp : pick (numOf (m.die T k).L0) (numOf (m.die T k).L1) ≠ 2) (hBw : B ≤ w.heap.size) :
    Calls Tryd.prog 56 #[.pointer (some ⟨X, 0, none⟩), v, .int .i64 k] w fun e w' => ∃ vt, e = .returned (.tuple #[vt, .int .i64 0]) ∧ TSl w' vt (m.dieT T k) ∧ (∀ i, blk vt i → w.heap.size ≤ i) ∧ XM w' B X (m.die T k) ∧ TS okX B w w' := by
  have HS := Lib.hid hs
  have HLL := Lib.hid hl
  have HNO := Lib.hid hno
  have HSM := Lib.hid hsm
  have HBW := Lib.hid hBw
  have HK := Lib.hid (And.intro hk1 hk2)
  have HP := Lib.hid hp
  have hla := xlay_ok B X m v T w hm hT hl hs hno
  obtain ⟨ao, cap, rfl, -⟩ := id hT
  have HX := Lib.hid hm
  go_enter Tryd.func56, Tryd.ntmps56
  clear hm hT hno hs hl hsm hBw hk1 hk2 hp
  go_upto_region 4 with first
    | (go_at_call 90; refine hla.mono ?_; rintro e w2 ⟨vj, rfl, hsj, t2⟩; have HSJ := Lib.hid hsj; have HT2 := Lib.hid t2; have HONE := Lib.hid (jone (n := 0) hsj); clear hsj t2)
    | ((with_reducible refine at_store ?_); refine wpList_putc rfl _ _ _ rfl (jcells (snap (m.no + 1) T) 0 vj) (heap_alloc_new w2 (.cells Z4.toArray 68)) rfl HONE.out rfl rfl size4 ?_; intro w3 t3 h3 z3; have HT3 := Lib.hid t3; have HH3 := Lib.hid h3; clear t3 h3 z3)
  clear hla HONE
  obtain ⟨J, hJ⟩ : ∃ J, w2.heap.size = J := ⟨_, rfl⟩
  rw [hJ] at HT3 HH3 ⊢
  have hal : Turns nobody w2 (w2.alloc (.cells Z4.toArray 68)) := (Turns.refl _ _).alloc _
  have hsj3 : RSl w3 vj (snap (m.no + 1) T) := Sl.keep (Sl.keep HSJ.out hal (fun _ _ h => h)) HT3.out (fun i hi e => by have := Sl.lt HSJ.out i hi; have e : i = J := e; omega)
  have htt : Turns nobody w w3 := (HT2.out.trans hal (fun _ h => h.elim)).trans2 HT3.out (fun i hi => by rw [hi, ← hJ]; exact HT2.out.size)
  have HJ3 := Lib.hid (rj_new HH3.out hsj3)
  have HJN : Hid (w.heap.size ≤ J) := Lib.hid (by rw [← hJ]; exact HT2.out.size)
  have HX3 := Lib.hid (HX.out.still htt)
  have HTT3 := Lib.hid htt
  have hsy := xsync_any B X m w3 HX3.out HSM.out
  clear hal hsj3 htt hJ HSJ HT2 HT3 HH3
  go_upto_region 5 with (go_at_call 53; refine hsy.mono ?_; rintro e w4 ⟨rfl, hx4, t4⟩; have HX4 := Lib.hid hx4; have HT4 := Lib.hid t4; have HJ4 := Lib.hid (RJ.ts HJ3.out t4 (by unfold okX; decide) (by unfold okX; decide)); clear hx4 t4)
  clear hsy
  go_upto_region 6 with (go_at_call 37; refine (rcrash HJ4.out (good_snap HS.out) (Nat.zero_le _) (by rw [snap_len]; have := HLL.out; omega) k HK.out.1 HK.out.2).mono ?_; rintro e w5 ⟨rfl, cu5, v5, hr5, ho5, t5⟩; have HJ5 := Lib.hid hr5; have HT5 := Lib.hid t5; clear hr5 ho5 t5)
  have hx5 : XM w5 B X m.sync := HX4.out.tsg (TS.one (ok := fun T => T = 68) HT5.out (Nat.zero_le _) HJ4.out.h rfl) (by decide) (by decide)
  have HTS5 := Lib.hid (((TS.still HTT3.out : TS okX B w w3).trans HT4.out).fresh HT5.out HJN.out)
  have hpu := xput_any B X m.sync (leftOf (snap (m.no + 1) T) 0 k) _ v5 w5 hx5 HJ5.out.s (good_take (good_snap HS.out) _) (Nat.le_refl _)
  unfold jcells at hpu
  have hrg := rj_range HJ5.out
  have HRG := Lib.hid hrg
  clear hrg hx5 HX4 HX3 HJ3 HJ4 HTT3 HT4 HT5
  go_upto_region 7 with first
    | (with_reducible refine wpList_load_mid rfl _ _ rfl _ _ rfl _ _ HRG.out Tryd.underlying68 rfl (size4l _ _ _ _) ?_)
    | (go_at_call 91; refine hpu.mono ?_; rintro e w6 ⟨rfl, hx6, t6⟩; have HX6 := Lib.hid hx6; have HTS6 := Lib.hid (HTS5.out.trans t6); clear hx6 t6)
  clear hpu HRG HJ5
  obtain ⟨L0, n0, L1, n1, u, no⟩ := m
  have hu := HX.out.u
  simp only at hu HNO
  rcases hu with rfl | rfl

  · have hx6 : XM w6 B X ⟨L0, L0.length, leftOf (snap (no + 1) T) 0 k, (leftOf (snap (no + 1) T) 0 k).length, 0, no⟩ := HX6.out
    have hll : (leftOf (snap (no + 1) T) 0 k).length ≤ 5000 := by unfold leftOf; rw [List.length_take, snap_len]; have := HLL.out; omega
    have hag := xagain_any B X _ w6 hx6 ⟨HSM.out.1, hll⟩ HP.out
    clear hx6 hll
    go_wp2_with (go_at_call 89; refine hag.mono ?_; rintro e w7 ⟨v7, rfl, hs7, hn7, hx7, t7⟩; have HS7 := Lib.hid hs7; have HN7 := Lib.hid hn7; have HX7 := Lib.hid hx7; have HTS7 := Lib.hid (HTS6.out.trans t7); clear hs7 hn7 hx7 t7)
    exact bodyPost_ret (results_tmp2 rfl _ _ _) rfl ⟨_, rfl, HS7.out, fun i hi => Nat.le_trans HTS6.out.size (HN7.out i hi), HX7.out, HTS7.out⟩
  · have hx6 : XM w6 B X ⟨leftOf (snap (no + 1) T) 0 k, (leftOf (snap (no + 1) T) 0 k).length, L1, L1.length, 1, no⟩ := HX6.out
    have hll : (leftOf (snap (no + 1) T) 0 k).length ≤ 5000 := by unfold leftOf; rw [List.length_take, snap_len]; have := HLL.out; omega
    have hag := xagain_any B X _ w6 hx6 ⟨hll, HSM.out.2⟩ HP.out
    clear hx6 hll
    go_wp2_with (go_at_call 89; refine hag.mono ?_; rintro e w7 ⟨v7, rfl, hs7, hn7, hx7, t7⟩; have HS7 := Lib.hid hs7; have HN7 := Lib.hid hn7; have HX7 := Lib.hid hx7; have HTS7 := Lib.hid (HTS6.out.trans t7); clear hs7 hn7 hx7 t7)
    exact bodyPost_ret (results_tmp2 rfl _ _ _) rfl ⟨_, rfl, HS7.out, fun i hi => Nat.le_trans HTS6.out.size (HN7.out i hi), HX7.out, HTS7.out⟩
end Go.Proofs.YtlhcmgjkhkcgcaaDoor.vault

namespace Go.Proofs.YtlhcmgjkhkcgcaaDoor.vault
open Go.RowKit
open Go.Proofs.YtlhcmgjkhkcgcaaDoor.stepkit Go.Proofs.YtlhcmgjkhkcgcaaDoor.obj Go.Proofs.YtlhcmgjkhkcgcaaDoor.row Go.Proofs.YtlhcmgjkhkcgcaaDoor.mix Go.Proofs.YtlhcmgjkhkcgcaaDoor.idkit Go.Proofs.YtlhcmgjkhkcgcaaDoor.bytes Go.Proofs.YtlhcmgjkhkcgcaaDoor.octet Go.Proofs.YtlhcmgjkhkcgcaaDoor.eqkit Go.Proofs.YtlhcmgjkhkcgcaaDoor.record Go.Proofs.YtlhcmgjkhkcgcaaDoor.argkit
open Go.Proofs.YtlhcmgjkhkcgcaaDoor.journal (RJ Outs get_set get_other at_store sl_not)
open Go.Proofs.YtlhcmgjkhkcgcaaDoor.block (keepOf keepOf_le keepOf_ge keepOf_all)
/-! ### long -/
abbrev sizes (T : List ByteArray) : Prop := T.length ≤ 20 ∧ ∀ s ∈ T, s.size ≤ 300
def longB (S : ByteArray) (T : List ByteArray) : Bool := decide (¬ (S.size ≤ 300 ∧ sizes T))
theorem longB_no {S : ByteArray} {T : List ByteArray} (h : longB S T = false) : S.size ≤ 300 ∧ sizes T := by
  unfold longB at h
  exact Classical.not_not.1 (of_decide_eq_false h)
theorem longB_yes {S : ByteArray} {T : List ByteArray} {R : Bool} (hR : longB S T = R) (h : ¬ (S.size ≤ 300 ∧ sizes T)) : R = true := by
  rw [← hR]; unfold longB; exact decide_eq_true h
theorem longB_not {S : ByteArray} {T : List ByteArray} {R : Bool} (hR : longB S T = R) (h : S.size ≤ 300 ∧ sizes T) : R = false := by
  rw [← hR]; unfold longB; exact decide_eq_false (fun h' => h' h)
set_option maxRecDepth 10000 in
set_option maxHeartbeats 1000000 in
theorem long_any (K N : Int) (S : ByteArray) (v : Value) (T : List ByteArray) (w : World) (hT : TAt w v T) (hl : T.length ≤ 9223372036854775807) :
    Calls Tryd.prog 47 #[.agg #[.int .i64 K, .string S, v, .int .i64 N]] w fun e w' => e = .returned (.bool (longB S T)) ∧ Turns nobody w w' := by
  obtain ⟨R, hR⟩ : ∃ R, longB S T = R := ⟨_, rfl⟩
  rw [hR]
  have HR := Lib.hid hR
  clear hR
  obtain ⟨ao, cap, rfl, -⟩ := id hT
  obtain ⟨P, hP⟩ : ∃ P, w.heap.size = P := ⟨_, rfl⟩
  obtain ⟨w1, hw1⟩ : ∃ w1, w1 = w.alloc (.cells #[.int .i64 K, .string S, .slice ao T.length cap, .int .i64 N] 89) := ⟨_, rfl⟩
  have t1 : Turns nobody w w1 := by rw [hw1]; exact (Turns.refl _ _).alloc _
  have h1 : w1.heap[P]? = some (.cells #[.int .i64 K, .string S, .slice ao T.length cap, .int .i64 N] 89 (0, 0)) := by rw [hw1, ← hP]; exact heap_alloc_new w _
  obtain ⟨ao', cap', hv, hc⟩ := tat_turns hT t1
  cases hv
  have c1 := cells_of h1 1 _ rfl
  have c2 := cells_of h1 2 _ rfl
  have HW1 := Lib.hid hw1
  have HT1 := Lib.hid t1
  have HC := Lib.hid hc
  clear hw1 t1 h1 hc hT
  go_enter Tryd.func47, Tryd.ntmps47
  go_upto_region 1 with fail
  rw [← HW1.out]
  clear hP
  go_upto_region 3 with fail
  go_loopw [4] (fun i wr => ∃ k : Nat, k ≤ T.length ∧ k ≤ 20 ∧ i = .int .i64 k ∧ wr = w1 ∧ ∀ j, j < k → (T.getD j nil).size ≤ 300) (fun i _ => 20 - (intOf i).toNat)
  case atStart => exact ⟨0, Nat.zero_le _, Nat.zero_le _, rfl, rfl, fun j hj => absurd hj (Nat.not_lt_zero j)⟩
  case round =>
    obtain ⟨k, hk, hk2, rfl, hw, hall⟩ := hrel
    subst hw
    have HALL := Lib.hid hall
    clear hall
    by_cases hlt : k < T.length
    · have hltI : (k : Int) < (T.length : Int) := by omega
      by_cases h20 : k < 20
      · have h20I : (k : Int) < 20 := by omega
        obtain ⟨b, o, rfl, c0⟩ := HC.out k hlt
        obtain ⟨s, hs⟩ : ∃ s, T.getD k nil = s := ⟨_, rfl⟩
        rw [hs] at c0
        have HS := Lib.hid hs
        clear hs
        by_cases h3 : 300 < s.size
        · have h3I : (300 : Int) < (s.size : Int) := by omega
          obtain rfl : R = true := longB_yes HR.out (fun h => by
            have := h.2.2 s (by rw [← HS.out, List.getD_eq_getElem?_getD, List.getElem?_eq_getElem hlt]; exact List.getElem_mem hlt)
            omega)
          go_wp2
          go_ret
          exact ⟨rfl, HT1.out⟩
        · have h3I : ¬ (300 : Int) < (s.size : Int) := by omega
          go_wp2
          go_roundw
          case rel => exact ⟨k + 1, by omega, by omega, by go_num, by first | rfl | trivial, fun j hj => by
            rcases Nat.lt_or_ge j k with h | h
            · exact HALL.out j h
            · obtain rfl : j = k := by omega
              rw [HS.out]; omega⟩
          case measure => simp [intOf]; omega
      · have h20I : ¬ (k : Int) < 20 := by omega
        have htl : (20 : Int) < (T.length : Int) := by omega
        obtain rfl : R = true := longB_yes HR.out (fun h => by have := h.2.1; omega)
        by_cases hs3 : 300 < S.size
        · have hs3I : (300 : Int) < (S.size : Int) := by omega
          go_wp2
          go_ret
          exact ⟨rfl, HT1.out⟩
        · have hs3I : ¬ (300 : Int) < (S.size : Int) := by omega
          go_wp2
          go_ret
          exact ⟨rfl, HT1.out⟩
    · have hltI : ¬ (k : Int) < (T.length : Int) := by omega
      by_cases hs3 : 300 < S.size
      · have hs3I : (300 : Int) < (S.size : Int) := by omega
        obtain rfl : R = true := longB_yes HR.out (fun h => by have := h.1; omega)
        go_wp2
        go_ret
        exact ⟨rfl, HT1.out⟩
      · have hs3I : ¬ (300 : Int) < (S.size : Int) := by omega
        have htl : ¬ (20 : Int) < (T.length : Int) := by omega
        obtain rfl : R = false := longB_not HR.out ⟨by omega, by omega, fun s hs => by
          obtain ⟨j, hj, rfl⟩ := List.getElem_of_mem hs
          have := HALL.out j (by omega)
          rw [List.getD_eq_getElem?_getD, List.getElem?_eq_getElem hj] at this
          exact this⟩
        go_wp2
        go_ret
        exact ⟨rfl, HT1.out⟩
/-! ### What stays fine -/
/-- What is safe of the file in use is whole. -/
def Fine (m : M) : Prop := 0 ≤ numOf (m.L.take m.n)
def Len (m : M) (b : Nat) : Prop := m.L0.length ≤ b ∧ m.L1.length ≤ b
theorem pick_some {a b : Int} (h : 0 ≤ a ∨ 0 ≤ b) : pick a b ≠ 2 := by
  unfold pick
  split
  · split <;> decide
  · rename_i h1
    rcases h with h | h
    · omega
    · rw [if_pos (by omega)]; decide
theorem fine_load {m : M} {A B : List RV} (h : pick (numOf A) (numOf B) ≠ 2) : Fine (M.load m A B) := by
  unfold Fine M.load M.L M.n useOf
  unfold pick at h ⊢
  by_cases h1 : -1 < numOf A
  · rw [if_pos h1] at h ⊢
    by_cases h2 : numOf A < numOf B
    · rw [if_pos h2] at h ⊢
      show 0 ≤ numOf (B.take B.length)
      rw [List.take_length]; omega
    · rw [if_neg h2] at h ⊢
      show 0 ≤ numOf (A.take A.length)
      rw [List.take_length]; omega
  · rw [if_neg h1] at h ⊢
    by_cases h2 : -1 < numOf B
    · rw [if_pos h2] at h ⊢
      show 0 ≤ numOf (B.take B.length)
      rw [List.take_length]; omega
    · rw [if_neg h2] at h
      exact absurd rfl h
theorem fine_left {L : List RV} {n : Nat} (h : 0 ≤ numOf (L.take n)) (hn : n ≤ L.length) (k : Int) : 0 ≤ numOf (leftOf L n k) := by
  have hle := endOf_le L n L.length hn
  rw [endOf_all] at hle
  obtain ⟨j, h1, h2, h3⟩ := leftOf_ge hn hle k
  rw [h3, numOf_take h h1]; exact h
theorem fine_all {L : List RV} {n : Nat} (h : 0 ≤ numOf (L.take n)) (hn : n ≤ L.length) : 0 ≤ numOf L := by
  have := numOf_take (l := L) (j := L.length) h hn
  rw [List.take_length] at this
  rw [this]; exact h
theorem left_len (L : List RV) (n : Nat) (k : Int) : (leftOf L n k).length ≤ L.length := by unfold leftOf; rw [List.length_take]; omega
theorem crash_ok {m : M} (hu : m.u = 0 ∨ m.u = 1) (h : Fine m) (h0 : m.n0 ≤ m.L0.length) (h1 : m.n1 ≤ m.L1.length) (k : Int) : pick (numOf (m.crash k).L0) (numOf (m.crash k).L1) ≠ 2 ∧ Fine (m.crash k) := by
  obtain ⟨L0, n0, L1, n1, u, no⟩ := m
  simp only at hu h0 h1
  rcases hu with rfl | rfl
  · have hp : pick (numOf (leftOf L0 n0 k)) (numOf L1) ≠ 2 := pick_some (Or.inl (fine_left h h0 k))
    exact ⟨hp, fine_load hp⟩
  · have hp : pick (numOf L0) (numOf (leftOf L1 n1 k)) ≠ 2 := pick_some (Or.inr (fine_left h h1 k))
    exact ⟨hp, fine_load hp⟩
theorem crash_len {m : M} (hu : m.u = 0 ∨ m.u = 1) {b : Nat} (h : Len m b) (k : Int) : Len (m.crash k) b := by
  obtain ⟨L0, n0, L1, n1, u, no⟩ := m
  simp only at hu
  rcases hu with rfl | rfl
  · exact ⟨Nat.le_trans (left_len L0 n0 k) h.1, h.2⟩
  · exact ⟨h.1, Nat.le_trans (left_len L1 n1 k) h.2⟩
theorem die_ok' {m : M} (hu : m.u = 0 ∨ m.u = 1) (h : Fine m) (h0 : m.n0 ≤ m.L0.length) (h1 : m.n1 ≤ m.L1.length) (T : List ByteArray) (k : Int) : pick (numOf (m.die T k).L0) (numOf (m.die T k).L1) ≠ 2 ∧ Fine (m.die T k) := by
  obtain ⟨L0, n0, L1, n1, u, no⟩ := m
  simp only at hu h0 h1
  rcases hu with rfl | rfl
  · have hp : pick (numOf L0) (numOf (leftOf (snap (no + 1) T) 0 k)) ≠ 2 := pick_some (Or.inl (fine_all h h0))
    exact ⟨hp, fine_load hp⟩
  · have hp : pick (numOf (leftOf (snap (no + 1) T) 0 k)) (numOf L1) ≠ 2 := pick_some (Or.inr (fine_all h h1))
    exact ⟨hp, fine_load hp⟩
theorem die_len {m : M} (hu : m.u = 0 ∨ m.u = 1) {b : Nat} (h : Len m b) {T : List ByteArray} (hT : T.length + 2 ≤ b) (k : Int) : Len (m.die T k) b := by
  obtain ⟨L0, n0, L1, n1, u, no⟩ := m
  simp only at hu
  have hl : (leftOf (snap (no + 1) T) 0 k).length ≤ b := by have := left_len (snap (no + 1) T) 0 k; rw [snap_len] at this; omega
  rcases hu with rfl | rfl
  · exact ⟨h.1, hl⟩
  · exact ⟨hl, h.2⟩
theorem app_ok {m : M} (hu : m.u = 0 ∨ m.u = 1) (h : Fine m) (h0 : m.n0 ≤ m.L0.length) (h1 : m.n1 ≤ m.L1.length) (s : ByteArray) : Fine (m.app s) := by
  obtain ⟨L0, n0, L1, n1, u, no⟩ := m
  simp only at hu h0 h1
  rcases hu with rfl | rfl
  · show 0 ≤ numOf ((L0 ++ [entR s]).take n0)
    rw [List.take_append_of_le_length h0]; exact h
  · show 0 ≤ numOf ((L1 ++ [entR s]).take n1)
    rw [List.take_append_of_le_length h1]; exact h
theorem app_len {m : M} (hu : m.u = 0 ∨ m.u = 1) {b : Nat} (h : Len m b) (s : ByteArray) : Len (m.app s) (b + 1) := by
  obtain ⟨L0, n0, L1, n1, u, no⟩ := m
  have h1 := h.1
  have h2 := h.2
  simp only at hu h1 h2
  rcases hu with rfl | rfl
  · exact ⟨by show (L0 ++ [entR s]).length ≤ _; rw [List.length_append]; simp; omega, by show L1.length ≤ _; omega⟩
  · exact ⟨by show L0.length ≤ _; omega, by show (L1 ++ [entR s]).length ≤ _; rw [List.length_append]; simp; omega⟩
theorem sync_ok {m : M} (hu : m.u = 0 ∨ m.u = 1) (h : Fine m) (h0 : m.n0 ≤ m.L0.length) (h1 : m.n1 ≤ m.L1.length) : Fine m.sync := by
  obtain ⟨L0, n0, L1, n1, u, no⟩ := m
  simp only at hu h0 h1
  rcases hu with rfl | rfl
  · show 0 ≤ numOf (L0.take L0.length)
    rw [List.take_length]; exact fine_all h h0
  · show 0 ≤ numOf (L1.take L1.length)
    rw [List.take_length]; exact fine_all h h1
theorem sync_len {m : M} (hu : m.u = 0 ∨ m.u = 1) {b : Nat} (h : Len m b) : Len m.sync b := by
  obtain ⟨L0, n0, L1, n1, u, no⟩ := m
  simp only at hu
  rcases hu with rfl | rfl <;> exact h
theorem snp_ok {m : M} (hu : m.u = 0 ∨ m.u = 1) (hno : m.no < 2147483647) (T : List ByteArray) : Fine (m.snp T) := by
  obtain ⟨L0, n0, L1, n1, u, no⟩ := m
  simp only at hu hno
  rcases hu with rfl | rfl
  · show 0 ≤ numOf ((snap (no + 1) T).take (snap (no + 1) T).length)
    rw [List.take_length, numOf_snap (by omega)]; omega
  · show 0 ≤ numOf ((snap (no + 1) T).take (snap (no + 1) T).length)
    rw [List.take_length, numOf_snap (by omega)]; omega
theorem snp_len {m : M} (hu : m.u = 0 ∨ m.u = 1) {b : Nat} (h : Len m b) {T : List ByteArray} (hT : T.length + 2 ≤ b) : Len (m.snp T) b := by
  obtain ⟨L0, n0, L1, n1, u, no⟩ := m
  simp only at hu
  rcases hu with rfl | rfl
  · exact ⟨h.1, by show (snap (no + 1) T).length ≤ b; rw [snap_len]; exact hT⟩
  · exact ⟨by show (snap (no + 1) T).length ≤ b; rw [snap_len]; exact hT, h.2⟩
theorem VM.le {w : World} {B V : Nat} {m : M} (h : VM w B V m) : m.n0 ≤ m.L0.length ∧ m.n1 ≤ m.L1.length := by
  obtain ⟨⟨q0, q1, p0, p1, h⟩, -⟩ := h
  exact ⟨h.s0, h.s1⟩
theorem Len.small {m : M} {b : Nat} (h : Len m b) (hb : b ≤ 5000) : small m := ⟨Nat.le_trans h.1 hb, Nat.le_trans h.2 hb⟩
theorem Len.le {m : M} {b c : Nat} (h : Len m b) (hb : b ≤ c) : Len m c := ⟨Nat.le_trans h.1 hb, Nat.le_trans h.2 hb⟩

/-! ### alike -/
set_option maxRecDepth 10000 in
set_option maxHeartbeats 2000000 in
theorem alike_any (B V X : Nat) (m : M) (w : World) (hv : VM w B V m) (hx : XM w B X m) :
    Calls Tryd.prog 57 #[.pointer (some ⟨V, 0, none⟩), .pointer (some ⟨X, 0, none⟩)] w fun e w' => e = .returned (.bool true) ∧ Turns nobody w w' := by
  have huse := use_any B V m w hv
  have hu := hv.u
  obtain ⟨⟨cur, v0, v1, h⟩, -⟩ := hx
  have HV := Lib.hid hv
  have HX := Lib.hid h
  obtain ⟨L0, n0, L1, n1, u, no⟩ := m
  simp only at hu
  clear h hv
  rcases hu with rfl | rfl

  · go_enter Tryd.func57, Tryd.ntmps57
    go_upto_region 2 with (go_at_call 49; refine huse.mono ?_; rintro e w2 ⟨rfl, t2⟩; have HV2 := Lib.hid (HV.out.still t2); have HX2 := Lib.hid (HX.out.still t2); have HT2 := Lib.hid t2; clear t2)
    have hf := files_any B V _ w2 HV2.out
    have hz0 := arr_size L0
    have hz1 := arr_size L1
    simp only at hf
    obtain ⟨S0, hS0⟩ : ∃ S0 : ByteArray, ⟨(cat L0).toArray⟩ = S0 := ⟨_, rfl⟩
    obtain ⟨S1, hS1⟩ : ∃ S1 : ByteArray, ⟨(cat L1).toArray⟩ = S1 := ⟨_, rfl⟩
    rw [hS0] at hf hz0
    rw [hS1] at hf hz1
    go_upto_region 3 with (go_at_call 58; refine hf.mono ?_; rintro e w3 ⟨rfl, t3⟩; have HV3 := Lib.hid (HV2.out.still t3); have HX3 := Lib.hid (HX2.out.still t3); have HT3 := Lib.hid (HT2.out.trans t3 (fun _ h => h.elim)); clear t3)
    have hs := size_any B V _ w3 HV3.out
    rw [show M.L ⟨L0, n0, L1, n1, 0, no⟩ = L0 from rfl, ← hz0] at hs
    have e0 := cells_of HX3.out.r0.h 0 _ HX3.out.r0.c0
    have e4 := cells_of HX3.out.r0.h 4 _ HX3.out.r1.c0
    have e8 := cells_of HX3.out.r0.h 8 _ HX3.out.cu
    have e9 := cells_of HX3.out.r0.h 9 _ HX3.out.cn
    rw [hS0] at e0
    rw [hS1] at e4
    clear hf hz0 hz1 hS0 hS1 huse
    go_wp2_with (go_at_call 59; refine hs.mono ?_; rintro e w4 ⟨rfl, t4⟩; have HT4 := Lib.hid (HT3.out.trans t4 (fun _ h => h.elim)); clear t4)
    go_ret
    exact ⟨rfl, HT4.out⟩
  · go_enter Tryd.func57, Tryd.ntmps57
    go_upto_region 2 with (go_at_call 49; refine huse.mono ?_; rintro e w2 ⟨rfl, t2⟩; have HV2 := Lib.hid (HV.out.still t2); have HX2 := Lib.hid (HX.out.still t2); have HT2 := Lib.hid t2; clear t2)
    have hf := files_any B V _ w2 HV2.out
    have hz0 := arr_size L0
    have hz1 := arr_size L1
    simp only at hf
    obtain ⟨S0, hS0⟩ : ∃ S0 : ByteArray, ⟨(cat L0).toArray⟩ = S0 := ⟨_, rfl⟩
    obtain ⟨S1, hS1⟩ : ∃ S1 : ByteArray, ⟨(cat L1).toArray⟩ = S1 := ⟨_, rfl⟩
    rw [hS0] at hf hz0
    rw [hS1] at hf hz1
    go_upto_region 3 with (go_at_call 58; refine hf.mono ?_; rintro e w3 ⟨rfl, t3⟩; have HV3 := Lib.hid (HV2.out.still t3); have HX3 := Lib.hid (HX2.out.still t3); have HT3 := Lib.hid (HT2.out.trans t3 (fun _ h => h.elim)); clear t3)
    have hs := size_any B V _ w3 HV3.out
    rw [show M.L ⟨L0, n0, L1, n1, 1, no⟩ = L1 from rfl, ← hz1] at hs
    have e0 := cells_of HX3.out.r0.h 0 _ HX3.out.r0.c0
    have e4 := cells_of HX3.out.r0.h 4 _ HX3.out.r1.c0
    have e8 := cells_of HX3.out.r0.h 8 _ HX3.out.cu
    have e9 := cells_of HX3.out.r0.h 9 _ HX3.out.cn
    rw [hS0] at e0
    rw [hS1] at e4
    clear hf hz0 hz1 hS0 hS1 huse
    go_wp2_with (go_at_call 59; refine hs.mono ?_; rintro e w4 ⟨rfl, t4⟩; have HT4 := Lib.hid (HT3.out.trans t4 (fun _ h => h.elim)); clear t4)
    go_ret
    exact ⟨rfl, HT4.out⟩
end Go.Proofs.YtlhcmgjkhkcgcaaDoor.vault
