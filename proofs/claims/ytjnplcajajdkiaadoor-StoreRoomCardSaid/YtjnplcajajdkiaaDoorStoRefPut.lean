/- The reference's store: what is put, and checked. -/
import Derived.Test.YtjnplcajajdkiaaDoorStoRefOps
namespace Go.Proofs.YtjnplcajajdkiaaDoor.store
open Go.RowKit
open Go.Proofs.YtjnplcajajdkiaaDoor.stepkit Go.Proofs.YtjnplcajajdkiaaDoor.eqkit Go.Proofs.YtjnplcajajdkiaaDoor.idkit Go.Proofs.YtjnplcajajdkiaaDoor.obj Go.Proofs.YtjnplcajajdkiaaDoor.row Go.Proofs.YtjnplcajajdkiaaDoor.mapkit Go.Proofs.YtjnplcajajdkiaaDoor.mix Go.Proofs.YtjnplcajajdkiaaDoor.lru
open Go.Proofs.YtjnplcajajdkiaaDoor.sha (wpList_putc new32 range_of)

theorem grow_alloc {w W : World} (h : Turns nobody w W) (o : Obj) : Turns nobody w (W.alloc o) ∧ (W.alloc o).heap[W.heap.size]? = some o ∧ w.heap.size ≤ W.heap.size ∧ Turns nobody W (W.alloc o) := ⟨h.alloc o, heap_alloc_new W o, h.size, (Turns.refl _ _).alloc o⟩

set_option maxRecDepth 10000 in
set_option maxHeartbeats 400000 in
theorem rput_bad {X : Nat} {q : Int} {E : Held} {P : List (List Int)} {v1 v2 v3 : Value} {w : World} (hc : RefC X q (ids E) (bodies E) P v1 v2 v3 w) (body : ByteArray) (hb : body.size ≤ 1000000) (he : checkE body ≠ 0) :
    Calls Tryd.prog 42 #[.pointer (some ⟨X, 0, none⟩), .string body] w fun e w' => e = .returned (.tuple #[.agg (idc zid).toArray, .int .i64 (checkE body)]) ∧ Turns nobody w w' := by
  obtain ⟨wa, hwa⟩ : ∃ wa, wa = w.alloc (.cells #[.int .u8 0, .int .u8 0, .int .u8 0, .int .u8 0, .int .u8 0, .int .u8 0, .int .u8 0, .int .u8 0, .int .u8 0, .int .u8 0, .int .u8 0, .int .u8 0, .int .u8 0, .int .u8 0, .int .u8 0, .int .u8 0, .int .u8 0, .int .u8 0, .int .u8 0, .int .u8 0, .int .u8 0, .int .u8 0, .int .u8 0, .int .u8 0, .int .u8 0, .int .u8 0, .int .u8 0, .int .u8 0, .int .u8 0, .int .u8 0, .int .u8 0, .int .u8 0] 31) := ⟨_, rfl⟩
  have ta : Turns nobody w wa := by rw [hwa]; exact (Turns.refl _ _).alloc _
  obtain ⟨B, hB⟩ : ∃ B, w.heap.size = B := ⟨_, rfl⟩
  have hr : wa.heap[B]? = some (.cells (idc (List.replicate 32 0)).toArray 31 (0, 0)) := by rw [hwa, ← hB]; exact new32 w
  have ha := hc.still ta
  have HWA := Lib.hid hwa
  have HTA := Lib.hid ta
  have HR := Lib.hid hr
  have HBB := Lib.hid hB
  have HC := Lib.hid hc
  have hck := check_ref body (by omega)
  have hne : ((checkE body : Int) != 0) = true := by simpa using he
  have NL := Lib.hid (zid_size zid zid_len)
  have SZ := Lib.hid (sizeId zid_len)
  have HBZ := Lib.hid build_zero
  have hzl := zid_len
  generalize checkE body = E' at *
  clear hwa ta hr ha hc hB he
  generalize zid = z0 at *
  go_enter Tryd.func42, Tryd.ntmps42
  go_upto_region 1 with fail
  rw [← HWA.out, HBB.out]
  go_wp2_with first
    | (go_at_call 49; refine (hck _).mono ?_; rintro e w' ⟨rfl, rfl⟩)
    | (with_reducible refine wpList_exec (exec_build _ _ rfl #[] (by kernel_rfl) (HBZ.out _)) (by first | rfl | go_simp) ?_)
    | (refine wpList_putc rfl _ _ _ rfl (idc z0) HR.out NL.out (idc_one _) rfl rfl SZ.out ?_; intro w9 t9 a9 z9)
  refine bodyPost_ret (results_id rfl _ _ rfl rfl (range_of a9) hzl) rfl ?_
  exact ⟨rfl, HTA.out.trans t9 (fun i hi => Or.inr (by have := HBB.out; omega))⟩

set_option maxRecDepth 10000 in
set_option maxHeartbeats 400000 in
theorem rput_old {X : Nat} {q : Int} {E : Held} {P : List (List Int)} {v1 v2 v3 : Value} {w : World} (hc : RefC X q (ids E) (bodies E) P v1 v2 v3 w) (hw : Wh (ids E)) (hl : E.length ≤ 1000) (body : ByteArray) (hb : body.size ≤ 1000000) (he : checkE body = 0) {id : List Int} (hsid : sha.sum body.data.toList = id) (hm : id ∈ ids E) :
    Calls Tryd.prog 42 #[.pointer (some ⟨X, 0, none⟩), .string body] w fun e w' => e = .returned (.tuple #[.agg (idc id).toArray, .int .i64 0]) ∧ Turns nobody w w' := by
  obtain ⟨wa, hwa⟩ : ∃ wa, wa = w.alloc (.cells #[.int .u8 0, .int .u8 0, .int .u8 0, .int .u8 0, .int .u8 0, .int .u8 0, .int .u8 0, .int .u8 0, .int .u8 0, .int .u8 0, .int .u8 0, .int .u8 0, .int .u8 0, .int .u8 0, .int .u8 0, .int .u8 0, .int .u8 0, .int .u8 0, .int .u8 0, .int .u8 0, .int .u8 0, .int .u8 0, .int .u8 0, .int .u8 0, .int .u8 0, .int .u8 0, .int .u8 0, .int .u8 0, .int .u8 0, .int .u8 0, .int .u8 0, .int .u8 0] 31) := ⟨_, rfl⟩
  have ta : Turns nobody w wa := by rw [hwa]; exact (Turns.refl _ _).alloc _
  obtain ⟨B, hB⟩ : ∃ B, w.heap.size = B := ⟨_, rfl⟩
  have hr : wa.heap[B]? = some (.cells (idc (List.replicate 32 0)).toArray 31 (0, 0)) := by rw [hwa, ← hB]; exact new32 w
  have ha := hc.still ta
  have HWA := Lib.hid hwa
  have HTA := Lib.hid ta
  have HR := Lib.hid hr
  have HBB := Lib.hid hB
  have HC := Lib.hid hc
  have hck := check_ref body (by omega)
  rw [he] at hck
  have hsum : Calls Tryd.prog 9 #[.string body] wa fun e w' => e = .returned (.agg (idc id).toArray) ∧ Turns nobody wa w' := by rw [← hsid]; exact sha.refsum_any body wa hb
  have hid : id.length = 32 := by rw [← hsid]; exact sha.sum_len _
  have NI := Lib.hid (zid_size id hid)
  have SI := Lib.hid (sizeId hid)
  have HC2 : Hid (∀ w2, Turns nobody wa w2 → RefC X q (ids E) (bodies E) P v1 v2 v3 w2 ∧ Calls Tryd.prog 48 #[.pointer (some ⟨X, 0, none⟩), .agg (idc id).toArray] w2 fun e w' => e = .returned (.int .i64 (findI (ids E) id)) ∧ Turns nobody w2 w') := Lib.hid fun w2 t => ⟨ha.still t, find_ref (ha.still t) hw (by rw [ids_len]; omega) id hid⟩
  have hpos : (0 : Int) ≤ findI (ids E) id := by unfold findI; rw [if_pos hm]; omega
  generalize findI (ids E) id = k at *
  clear hwa ta hr ha hc hB he hm hsid
  go_enter Tryd.func42, Tryd.ntmps42
  go_upto_region 1 with fail
  rw [← HWA.out, HBB.out]
  go_upto_region 5 with first
    | (go_at_call 49; refine (hck _).mono ?_; rintro e w' ⟨rfl, rfl⟩)
    | (go_at_call 9; refine hsum.mono ?_; rintro e w1 ⟨rfl, t1⟩; have HT1 := Lib.hid t1; have HJ1 := Lib.hid (new32 w1); clear t1)
    | (refine wpList_putc rfl _ _ _ rfl (idc id) HJ1.out NI.out (idc_one _) rfl rfl SI.out ?_; intro w2 t2 a2 z2)
  have t12 : Turns nobody wa w2 := (HT1.out.alloc _).trans t2 (fun i hi => Or.inr (by have := HT1.out.size; omega))
  obtain ⟨J, hJ⟩ : ∃ J, w1.heap.size = J := ⟨_, rfl⟩
  rw [hJ] at a2 ⊢
  have hBB : w.heap.size ≤ J := by have := HT1.out.size; have := HTA.out.size; omega
  have hBJ : B ≠ J := by have := HT1.out.size; have := lt_of_block HR.out; omega
  obtain ⟨hd2, hfind⟩ := HC2.out w2 t12
  have HT12 := Lib.hid t12
  have HJ2 := Lib.hid a2
  have HD2 := Lib.hid hd2
  have HBJ := Lib.hid hBB
  have HNJ := Lib.hid hBJ
  have RJ := Lib.hid (range_of a2)
  clear t12 t2 a2 z2 hJ hd2 hBB hBJ hsum hck
  go_wp2_with first
    | (with_reducible refine wpList_load_mid rfl _ _ rfl _ _ rfl _ _ RJ.out Tryd.underlying31 rfl SI.out ?_)
    | (go_at_call 48; refine hfind.mono ?_; rintro e w3 ⟨rfl, t3⟩; have HT3 := Lib.hid t3; have RJ3 := Lib.hid (range_of (heap_newer HJ2.out t3 (fun h => h))); clear t3)
    | (with_reducible refine wpList_load_mid rfl _ _ rfl _ _ rfl _ _ RJ3.out Tryd.underlying31 rfl SI.out ?_)
    | (refine wpList_putc rfl _ _ _ rfl (idc id) (heap_newer (heap_newer HR.out HT12.out (fun h => h)) HT3.out (fun h => h)) NI.out (idc_one _) rfl rfl SI.out ?_; intro w9 t9 a9 z9)
  refine bodyPost_ret (results_id rfl _ _ rfl rfl (range_of a9) hid) rfl ?_
  exact ⟨rfl, ((HTA.out.trans HT12.out (fun _ h => h.elim)).trans HT3.out (fun _ h => h.elim)).trans t9 (fun i hi => Or.inr (by have := HBB.out; omega))⟩

set_option maxRecDepth 10000 in
set_option maxHeartbeats 1000000 in
theorem rput_full {X : Nat} {q : Int} {E : Held} {P : List (List Int)} {v1 v2 v3 : Value} {w : World} (hc : RefC X q (ids E) (bodies E) P v1 v2 v3 w) (hw : Wh (ids E)) (hl : E.length ≤ 1000) (hsz : sz E ≤ 4096) (body : ByteArray) (hb : body.size ≤ 1000000) (he : checkE body = 0) {id : List Int} (hsid : sha.sum body.data.toList = id) (hm : id ∉ ids E) (hf : q < (sz E : Int) + (body.size : Int)) :
    Calls Tryd.prog 42 #[.pointer (some ⟨X, 0, none⟩), .string body] w fun e w' => e = .returned (.tuple #[.agg (idc zid).toArray, .int .i64 14]) ∧ Turns nobody w w' := by
  obtain ⟨wa, hwa⟩ : ∃ wa, wa = w.alloc (.cells #[.int .u8 0, .int .u8 0, .int .u8 0, .int .u8 0, .int .u8 0, .int .u8 0, .int .u8 0, .int .u8 0, .int .u8 0, .int .u8 0, .int .u8 0, .int .u8 0, .int .u8 0, .int .u8 0, .int .u8 0, .int .u8 0, .int .u8 0, .int .u8 0, .int .u8 0, .int .u8 0, .int .u8 0, .int .u8 0, .int .u8 0, .int .u8 0, .int .u8 0, .int .u8 0, .int .u8 0, .int .u8 0, .int .u8 0, .int .u8 0, .int .u8 0, .int .u8 0] 31) := ⟨_, rfl⟩
  have ta : Turns nobody w wa := by rw [hwa]; exact (Turns.refl _ _).alloc _
  obtain ⟨B, hB⟩ : ∃ B, w.heap.size = B := ⟨_, rfl⟩
  have hr : wa.heap[B]? = some (.cells (idc (List.replicate 32 0)).toArray 31 (0, 0)) := by rw [hwa, ← hB]; exact new32 w
  have ha := hc.still ta
  have HWA := Lib.hid hwa
  have HTA := Lib.hid ta
  have HR := Lib.hid hr
  have HBB := Lib.hid hB
  have HC := Lib.hid hc
  have hck := check_ref body (by omega)
  rw [he] at hck
  have hsum : Calls Tryd.prog 9 #[.string body] wa fun e w' => e = .returned (.agg (idc id).toArray) ∧ Turns nobody wa w' := by rw [← hsid]; exact sha.refsum_any body wa hb
  have hid : id.length = 32 := by rw [← hsid]; exact sha.sum_len _
  have NI := Lib.hid (zid_size id hid)
  have SI := Lib.hid (sizeId hid)
  have HC2 : Hid (∀ w2, Turns nobody wa w2 → RefC X q (ids E) (bodies E) P v1 v2 v3 w2 ∧ Calls Tryd.prog 48 #[.pointer (some ⟨X, 0, none⟩), .agg (idc id).toArray] w2 fun e w' => e = .returned (.int .i64 (findI (ids E) id)) ∧ Turns nobody w2 w') := Lib.hid fun w2 t => ⟨ha.still t, find_ref (ha.still t) hw (by rw [ids_len]; omega) id hid⟩
  have HFI : Hid (findI (ids E) id = -1) := Lib.hid (by unfold findI; rw [if_neg hm])
  rw [HFI.out] at HC2
  have HSZ := Lib.hid hsz
  have HL := Lib.hid hl
  have NL := Lib.hid (zid_size zid zid_len)
  have SZ := Lib.hid (sizeId zid_len)
  have HBZ := Lib.hid build_zero
  have hzl := zid_len
  have hs4 : (sz E : Int) ≤ 4096 := by omega
  have hb0 : (0 : Int) ≤ (sz E : Int) := by omega
  have HWR : Hid (IntKind.i64.wrap ((sz E : Int) + (body.size : Int)) = (sz E : Int) + (body.size : Int)) := Lib.hid (by rw [IntKind.wrap_i64]; omega)
  clear hwa ta hr ha hc hB he hm hsid HFI
  generalize zid = z0 at *
  go_enter Tryd.func42, Tryd.ntmps42
  go_upto_region 1 with fail
  rw [← HWA.out, HBB.out]
  go_upto_region 5 with first
    | (go_at_call 49; refine (hck _).mono ?_; rintro e w' ⟨rfl, rfl⟩)
    | (go_at_call 9; refine hsum.mono ?_; rintro e w1 ⟨rfl, t1⟩; have HT1 := Lib.hid t1; have HJ1 := Lib.hid (new32 w1); clear t1)
    | (refine wpList_putc rfl _ _ _ rfl (idc id) HJ1.out NI.out (idc_one _) rfl rfl SI.out ?_; intro w2 t2 a2 z2)
  have t12 : Turns nobody wa w2 := (HT1.out.alloc _).trans t2 (fun i hi => Or.inr (by have := HT1.out.size; omega))
  obtain ⟨J, hJ⟩ : ∃ J, w1.heap.size = J := ⟨_, rfl⟩
  rw [hJ] at a2 ⊢
  have hBB : w.heap.size ≤ J := by have := HT1.out.size; have := HTA.out.size; omega
  have hBJ : B ≠ J := by have := HT1.out.size; have := lt_of_block HR.out; omega
  obtain ⟨hd2, hfind⟩ := HC2.out w2 t12
  have HT12 := Lib.hid t12
  have HJ2 := Lib.hid a2
  have HD2 := Lib.hid hd2
  have HBJ := Lib.hid hBB
  have HNJ := Lib.hid hBJ
  have RJ := Lib.hid (range_of a2)
  clear t12 t2 a2 z2 hJ hd2 hBB hBJ hsum hck
  go_upto_region 7 with first
    | (with_reducible refine wpList_load_mid rfl _ _ rfl _ _ rfl _ _ RJ.out Tryd.underlying31 rfl SI.out ?_)
    | (go_at_call 48; refine hfind.mono ?_; rintro e w3 ⟨rfl, t3⟩; have HT3 := Lib.hid t3; have HD3 := Lib.hid (HD2.out.still t3); have HJ3 := Lib.hid (heap_newer HJ2.out t3 (fun h => h)); clear t3)
  have HX0 : Hid (∀ W, Turns nobody w3 W → W.cell? ⟨X, 0, none⟩ = some (.int .i64 q)) := Lib.hid fun W ht => cells_of (HD3.out.still ht).hp 0 _ rfl
  have HBY : Hid (∀ W, Turns nobody w3 W → Calls Tryd.prog 21 #[.pointer (some ⟨X, 0, none⟩)] W fun e w' => e = .returned (.int .i64 (sz E : Int)) ∧ Turns nobody W w') := Lib.hid fun W ht => bytes_ref (HD3.out.still ht) HSZ.out (by have := HL.out; omega)
  clear hfind
  refine wp_region_mix [(0, true, true), (2, true, true), (3, true, true), (5, true, true), (6, true, true), (7, true, true), (8, true, true), (1, false, true), (4, true, true), (9, true, true)] (fun W => Turns nobody w3 W) (by kernel_rfl) (by kernel_rfl) ((Turns.refl nobody w3).drew) ?_
  simp only [picked, List.filterMap_cons, List.filterMap_nil, List.getElem?_toArray, List.getElem?_cons_zero, List.getElem?_cons_succ, Option.map_some]
  iterate 7 (refine mix_free (v := ?_) rfl ?_ ?_; rotate_left; (focus (intro w' hI; have d := HX0.out _ hI; clear hI; go_simp; try with_reducible rfl)); simp only [Act.put, List.setIfInBounds_toArray, List.set_cons_zero, List.set_cons_succ])
  refine mix_big rfl (fun K hK => ?_)
  go_wp2_with (go_at_call 21; refine (HBY.out _ (Turns.refl _ _).drew).mono ?_; rintro e w4 ⟨rfl, t4⟩; have HT4 := Lib.hid ((Turns.refl nobody w3).drew.trans t4 (fun _ h => False.elim h)); clear t4)
  refine hK _ _ (fun _ => HT4.out) ?_
  clear hK K
  refine mix_free (v := .int .i64 ((sz E : Int) + (body.size : Int))) rfl (fun w' hI => by first | (have hw := HWR.out; go_simp; done) | (go_simp; rw [HWR.out])) ?_
  simp only [Act.put, List.setIfInBounds_toArray, List.set_cons_zero, List.set_cons_succ]
  repeat (refine mix_free (v := ?_) rfl ?_ ?_; rotate_left; (focus (intro w' hI; go_simp; try with_reducible rfl)); simp only [Act.put, List.setIfInBounds_toArray, List.set_cons_zero, List.set_cons_succ])
  refine mix_nil ?_
  go_wp2_with first
    | (with_reducible refine wpList_exec (exec_build _ _ rfl #[] (by kernel_rfl) (HBZ.out _)) (by first | rfl | go_simp) ?_)
    | (refine wpList_putc rfl _ _ _ rfl (idc z0) (heap_newer (heap_newer (heap_newer HR.out HT12.out (fun h => h)) HT3.out (fun h => h)) HT4.out (fun h => h)) NL.out (idc_one _) rfl rfl SZ.out ?_; intro w9 t9 a9 z9)
  refine bodyPost_ret (results_id rfl _ _ rfl rfl (range_of a9) hzl) rfl ?_
  exact ⟨rfl, (((HTA.out.trans HT12.out (fun _ h => h.elim)).trans HT3.out (fun _ h => h.elim)).trans HT4.out (fun _ h => h.elim)).trans t9 (fun i hi => Or.inr (by have := HBB.out; omega))⟩

theorem str_src {w : World} {g : Nat} {b : ByteArray} (h : w.heap[g]? = some (.cells #[.string b] 9 (0, 0))) : Go.Proofs.YtjnplcajajdkiaaDoor.obj.Src w 1 (.slice (some ⟨g, 0, none⟩) 1 1) 1 [.string b] :=
  ⟨rfl, (by intro u hu; rw [List.mem_singleton.1 hu]; rfl), Or.inr ⟨_, 1, rfl, fun j u hj => by
    have hj0 : j = 0 := by have := (List.getElem?_eq_some_iff.1 hj).1; simp at this; omega
    subst hj0
    have := range_of (cs := [.string b]) h 0 u hj
    simpa [Addr.add] using this⟩⟩
set_option maxRecDepth 10000 in
set_option maxHeartbeats 4000000 in
theorem rput_new {X : Nat} {q : Int} {E : Held} {P : List (List Int)} {v1 v2 v3 : Value} {w : World} (hc : RefC X q (ids E) (bodies E) P v1 v2 v3 w) (hw : Wh (ids E)) (hl : E.length ≤ 1000) (hsz : sz E ≤ 4096) (body : ByteArray) (hb : body.size ≤ 1000000) (he : checkE body = 0) {id : List Int} (hsid : sha.sum body.data.toList = id) (hm : id ∉ ids E) (hf : (sz E : Int) + (body.size : Int) ≤ q) :
    Calls Tryd.prog 42 #[.pointer (some ⟨X, 0, none⟩), .string body] w fun e w' => e = .returned (.tuple #[.agg (idc id).toArray, .int .i64 0]) ∧ Step (rfoot X v1 v2 v3) (RefAt X q (E ++ [(id, body)]) P) w w' := by
  obtain ⟨i0, hi, hz0, hz1, hz2⟩ := infoIds_parts
  obtain ⟨k0, ki, kz0, kz1, kz2⟩ := infoStr_parts
  obtain ⟨wa, hwa⟩ : ∃ wa, wa = w.alloc (.cells #[.int .u8 0, .int .u8 0, .int .u8 0, .int .u8 0, .int .u8 0, .int .u8 0, .int .u8 0, .int .u8 0, .int .u8 0, .int .u8 0, .int .u8 0, .int .u8 0, .int .u8 0, .int .u8 0, .int .u8 0, .int .u8 0, .int .u8 0, .int .u8 0, .int .u8 0, .int .u8 0, .int .u8 0, .int .u8 0, .int .u8 0, .int .u8 0, .int .u8 0, .int .u8 0, .int .u8 0, .int .u8 0, .int .u8 0, .int .u8 0, .int .u8 0, .int .u8 0] 31) := ⟨_, rfl⟩
  have ta : Turns nobody w wa := by rw [hwa]; exact (Turns.refl _ _).alloc _
  obtain ⟨B, hB⟩ : ∃ B, w.heap.size = B := ⟨_, rfl⟩
  have hr : wa.heap[B]? = some (.cells (idc (List.replicate 32 0)).toArray 31 (0, 0)) := by rw [hwa, ← hB]; exact new32 w
  have ha := hc.still ta
  have HWA := Lib.hid hwa
  have HTA := Lib.hid ta
  have HR := Lib.hid hr
  have HBB := Lib.hid hB
  have HC := Lib.hid hc
  have hck := check_ref body (by omega)
  rw [he] at hck
  have hsum : Calls Tryd.prog 9 #[.string body] wa fun e w' => e = .returned (.agg (idc id).toArray) ∧ Turns nobody wa w' := by rw [← hsid]; exact sha.refsum_any body wa hb
  have hid : id.length = 32 := by rw [← hsid]; exact sha.sum_len _
  have NI := Lib.hid (zid_size id hid)
  have SI := Lib.hid (sizeId hid)
  have HC2 : Hid (∀ w2, Turns nobody wa w2 → RefC X q (ids E) (bodies E) P v1 v2 v3 w2 ∧ Calls Tryd.prog 48 #[.pointer (some ⟨X, 0, none⟩), .agg (idc id).toArray] w2 fun e w' => e = .returned (.int .i64 (findI (ids E) id)) ∧ Turns nobody w2 w') := Lib.hid fun w2 t => ⟨ha.still t, find_ref (ha.still t) hw (by rw [ids_len]; omega) id hid⟩
  have HFI : Hid (findI (ids E) id = -1) := Lib.hid (by unfold findI; rw [if_neg hm])
  rw [HFI.out] at HC2
  have HSZ := Lib.hid hsz
  have HL := Lib.hid hl
  have HBS := Lib.hid slice_id
  have hs4 : (sz E : Int) ≤ 4096 := by omega
  have hb0 : (0 : Int) ≤ (sz E : Int) := by omega
  have HWR : Hid (IntKind.i64.wrap ((sz E : Int) + (body.size : Int)) = (sz E : Int) + (body.size : Int)) := Lib.hid (by rw [IntKind.wrap_i64]; omega)
  have hfn : decide (q < (sz E : Int) + (body.size : Int)) = false := decide_eq_false (by omega)
  obtain ⟨x, hx⟩ : ∃ x, ids E = x := ⟨_, rfl⟩
  obtain ⟨l, hll⟩ : ∃ l, bodies E = l := ⟨_, rfl⟩
  have hx1k : x.length ≤ 1000 := by rw [← hx, ids_len]; omega
  have hl1k : l.length ≤ 1000 := by rw [← hll, bodies_len]; omega
  have HE1x : Hid (x ++ [id] = ids (E ++ [(id, body)])) := Lib.hid (by rw [← hx]; unfold ids; simp)
  have HE2x : Hid (l ++ [body] = bodies (E ++ [(id, body)])) := Lib.hid (by rw [← hll]; unfold bodies; simp)
  have HXX := Lib.hid hx
  have HLL := Lib.hid hll
  clear hwa ta hr ha hc hB he hm hsid HFI hx hll hl
  go_enter Tryd.func42, Tryd.ntmps42
  go_upto_region 1 with fail
  rw [← HWA.out, HBB.out]
  go_upto_region 5 with first
    | (go_at_call 49; refine (hck _).mono ?_; rintro e w' ⟨rfl, rfl⟩)
    | (go_at_call 9; refine hsum.mono ?_; rintro e w1 ⟨rfl, t1⟩; have HT1 := Lib.hid t1; have HJ1 := Lib.hid (new32 w1); clear t1)
    | (refine wpList_putc rfl _ _ _ rfl (idc id) HJ1.out NI.out (idc_one _) rfl rfl SI.out ?_; intro w2 t2 a2 z2)
  have t12 : Turns nobody wa w2 := (HT1.out.alloc _).trans t2 (fun i hi => Or.inr (by have := HT1.out.size; omega))
  obtain ⟨J, hJ⟩ : ∃ J, w1.heap.size = J := ⟨_, rfl⟩
  rw [hJ] at a2 ⊢
  have hBB : w.heap.size ≤ J := by have := HT1.out.size; have := HTA.out.size; omega
  have hBJ : B ≠ J := by have := HT1.out.size; have := lt_of_block HR.out; omega
  obtain ⟨hd2, hfind⟩ := HC2.out w2 t12
  have HT12 := Lib.hid t12
  have HJ2 := Lib.hid a2
  have HD2 := Lib.hid hd2
  have HBJ := Lib.hid hBB
  have HNJ := Lib.hid hBJ
  have RJ := Lib.hid (range_of a2)
  clear t12 t2 a2 z2 hJ hd2 hBB hBJ hsum hck
  go_upto_region 7 with first
    | (with_reducible refine wpList_load_mid rfl _ _ rfl _ _ rfl _ _ RJ.out Tryd.underlying31 rfl SI.out ?_)
    | (go_at_call 48; refine hfind.mono ?_; rintro e w3 ⟨rfl, t3⟩; have HT3 := Lib.hid t3; have HD3 := Lib.hid (HD2.out.still t3); have HJ3 := Lib.hid (heap_newer HJ2.out t3 (fun h => h)); clear t3)
  have HX0 : Hid (∀ W, Turns nobody w3 W → W.cell? ⟨X, 0, none⟩ = some (.int .i64 q)) := Lib.hid fun W ht => cells_of (HD3.out.still ht).hp 0 _ rfl
  have HBY : Hid (∀ W, Turns nobody w3 W → Calls Tryd.prog 21 #[.pointer (some ⟨X, 0, none⟩)] W fun e w' => e = .returned (.int .i64 (sz E : Int)) ∧ Turns nobody W w') := Lib.hid fun W ht => bytes_ref (HD3.out.still ht) HSZ.out (by have := HL.out; omega)
  clear hfind
  refine wp_region_mix [(0, true, true), (2, true, true), (3, true, true), (5, true, true), (6, true, true), (7, true, true), (8, true, true), (1, false, true), (4, true, true), (9, true, true)] (fun W => Turns nobody w3 W) (by kernel_rfl) (by kernel_rfl) ((Turns.refl nobody w3).drew) ?_
  simp only [picked, List.filterMap_cons, List.filterMap_nil, List.getElem?_toArray, List.getElem?_cons_zero, List.getElem?_cons_succ, Option.map_some]
  iterate 7 (refine mix_free (v := ?_) rfl ?_ ?_; rotate_left; (focus (intro w' hI; have d := HX0.out _ hI; clear hI; go_simp; try with_reducible rfl)); simp only [Act.put, List.setIfInBounds_toArray, List.set_cons_zero, List.set_cons_succ])
  refine mix_big rfl (fun K hK => ?_)
  go_wp2_with (go_at_call 21; refine (HBY.out _ (Turns.refl _ _).drew).mono ?_; rintro e w4 ⟨rfl, t4⟩; have HT4 := Lib.hid ((Turns.refl nobody w3).drew.trans t4 (fun _ h => False.elim h)); clear t4)
  refine hK _ _ (fun _ => HT4.out) ?_
  clear hK K
  refine mix_free (v := .int .i64 ((sz E : Int) + (body.size : Int))) rfl (fun w' hI => by first | (have hw := HWR.out; go_simp; done) | (go_simp; rw [HWR.out])) ?_
  simp only [Act.put, List.setIfInBounds_toArray, List.set_cons_zero, List.set_cons_succ]
  repeat (refine mix_free (v := ?_) rfl ?_ ?_; rotate_left; (focus (intro w' hI; go_simp; try with_reducible rfl)); simp only [Act.put, List.setIfInBounds_toArray, List.set_cons_zero, List.set_cons_succ])
  refine mix_nil ?_
  have hd4 := HD3.out.still HT4.out
  rw [HXX.out, HLL.out] at hd4
  have HD4 := Lib.hid hd4
  have HT04 : Hid (Turns nobody w w4) := Lib.hid (((HTA.out.trans HT12.out (fun _ h => h.elim)).trans HT3.out (fun _ h => h.elim)).trans HT4.out (fun _ h => h.elim))
  have HJ4 := Lib.hid (heap_newer HJ3.out HT4.out (fun h => h))
  have HR4 := Lib.hid (heap_newer (heap_newer (heap_newer HR.out HT12.out (fun h => h)) HT3.out (fun h => h)) HT4.out (fun h => h))
  have HXJ : Hid (¬ J = X) := Lib.hid (fun e => by have := lt_of_block HC.out.hp; have := HBJ.out; omega)
  have HXB : Hid (¬ B = X) := Lib.hid (fun e => by have := lt_of_block HC.out.hp; have := HBB.out; omega)
  obtain ⟨ax, cx, hv1, _⟩ := (show Sl _ _ _ _ _ _ from hd4.s1).shape
  obtain ⟨ay, cy, hv2, _⟩ := (show Sl _ _ _ _ _ _ from hd4.s2).shape
  subst hv1 hv2
  obtain ⟨v1, hv1⟩ : ∃ v1, v1 = Value.slice ax x.length cx := ⟨_, rfl⟩
  have HIDS : Hid (∀ W, Turns nobody w4 W → Go.Proofs.YtjnplcajajdkiaaDoor.obj.Src W 32 (.slice ax x.length cx) x.length (icells x)) := Lib.hid fun W ht => Sl.src (Sl.keep HD4.out.s1 ht (fun _ _ h => h)) (icells_one _)
  have HXF : Hid (∀ W, Turns nobody w4 W → W.cell? ⟨X, 1, none⟩ = some (.slice ax x.length cx) ∧ W.rangeAt J 0 (idc id)) := Lib.hid fun W ht => ⟨cells_of (HD4.out.still ht).hp 1 _ rfl, range_of (heap_newer HJ4.out ht (fun h => h))⟩
  rw [← hv1] at HD4
  have HV1 := Lib.hid hv1
  clear hd4 hv1 hfn
  go_upto_region 9 with fail
  have hr : Turns nobody w4 w4.drew := (Turns.refl _ _).drew
  refine wp_region_fork [0, 2, 3, 4, 5, 7, 10, 11] [0, 2, 3, 4, 5, 7, 10, 11, 1, 8, 6, 9] (Plan.ofList [0, 2, 3, 4, 5, 7] (.fork 1 (.fork 6 (Plan.ofList [8, 9, 10, 11, 12] .done) 8 (Plan.ofList [6, 9, 10, 11, 12] .done)) 8 (Plan.ofList [1, 6, 9, 10, 11, 12] .done))) (fun W => Turns nobody w4 W) (by kernel_rfl) (by kernel_rfl) (hr) ?_
  obtain ⟨W0, hW0⟩ : ∃ W0, W0 = w4.drew := ⟨_, rfl⟩
  rw [← hW0] at hr ⊢
  clear hW0
  simp -failIfUnchanged only [Plan.pick, Plan.ofList, isIn, List.contains_cons, List.contains_nil, Nat.reduceBEq, Bool.or_false, Bool.false_or, Bool.or_true, Bool.true_or, cond_true, cond_false, Array.getD_eq_getD_getElem?, List.getElem?_toArray, List.getElem?_cons_zero, List.getElem?_cons_succ, Option.getD_some]
  iterate 5 (refine plan_free (v := ?_) rfl ?_ ?_; rotate_left; (focus (intro w' hI; obtain ⟨z1, z2⟩ := HXF.out _ hI; clear hI; go_simp; try with_reducible rfl)); simp only [Act.put, List.setIfInBounds_toArray, List.set_cons_zero, List.set_cons_succ])
  refine plan_free (v := .agg (idc id).toArray) rfl (fun w' hI => exec_load_mid _ _ rfl _ _ rfl (idc id) _ (HXF.out _ hI).2 Tryd.underlying31 rfl SI.out) ?_
  simp only [Act.put, List.setIfInBounds_toArray, List.set_cons_zero, List.set_cons_succ]
  refine plan_fork ?_ ?_
  ·
    refine bigC_mk rfl (fun K hK => ?_)
    go_wp2
    obtain ⟨_, hg1, hle1, ht⟩ := grow_alloc hr (.cells #[] 31)
    try simp only [World.size_alloc] at hg1 hle1
    have HL1 := Lib.hid hle1
    clear hle1
    try replace HE1 := Lib.hid (HE1.out.keep ht (fun _ _ h => h))
    try replace HG8 := Lib.hid (HG8.out.keep ht (fun _ _ h => h))
    try replace H6 := Lib.hid (H6.out.keep ht (fun _ _ h => h))
    replace hr := hr.trans ht (fun _ h => False.elim h)
    have HE1 := Lib.hid (Sl.empty (sz := 32) hg1 (Nat.zero_le _))
    refine hK _ _ (fun _ => hr) ?_
    clear hK K hg1 ht
    refine plan_fork ?_ ?_
    ·
      refine bigC_mk rfl (fun K hK => ?_)
      go_wp2_with (at_builtin; refine wpList_append_sl rfl _ _ 36 rfl Tryd.underlying36 hi hz0 hz1 hz2 (by rw [Value.cells]; simp [idc_len, zid_len]) (by decide) rfl rfl HE1.out (HIDS.out _ hr) (by unfold maxLen; omega) (by omega) ?_)
      intro v6 w6 h6 _ hn6 hc6
      try simp only [Nat.zero_add, List.nil_append] at h6
      have ht := (hc6 _ rfl).1
      have HF6 : Hid (∀ k, blk v6 k → w4.heap.size ≤ k) := Lib.hid (fun k hk => by
        have hh := HL1.out
        have hh2 := hr.size
        rcases hn6 k hk with h | h
        · simp only [blk, Value.ownBlock, Option.some.injEq] at h; omega
        · omega)
      try replace HE1 := Lib.hid (HE1.out.keep ht (fun _ _ h => h))
      try replace HG8 := Lib.hid (HG8.out.keep ht (fun _ _ h => h))
      try replace H6 := Lib.hid (H6.out.keep ht (fun _ _ h => h))
      replace hr := hr.trans ht (fun _ h => False.elim h)
      have H6 := Lib.hid h6
      refine hK _ _ (fun _ => hr) ?_
      clear hK K ht h6 hn6 hc6
      refine plan_big ?_
      refine bigC_mk rfl (fun K hK => ?_)
      go_wp2_with (with_reducible refine wpList_build_run rfl _ _ _ rfl #[(0, .agg (idc id).toArray)] (by kernel_rfl) (HBS.out _ hid _) ?_)
      obtain ⟨_, hg8, _, ht⟩ := grow_alloc hr (.cells (idc id).toArray 31)
      try simp only [World.size_alloc] at hg8
      try replace HE1 := Lib.hid (HE1.out.keep ht (fun _ _ h => h))
      try replace HG8 := Lib.hid (HG8.out.keep ht (fun _ _ h => h))
      try replace H6 := Lib.hid (H6.out.keep ht (fun _ _ h => h))
      replace hr := hr.trans ht (fun _ h => False.elim h)
      have HG8 := Lib.hid (src_one (id := id) hg8 hid)
      refine hK _ _ (fun _ => hr) ?_
      clear hK K hg8 ht
      refine plan_big (bigC_mk rfl (fun K hK => ?_))
      go_wp2_with (at_builtin; refine wpList_append_sl rfl _ _ 36 rfl Tryd.underlying36 hi hz0 hz1 hz2 (by rw [Value.cells]; simp [idc_len, zid_len]) (by decide) rfl rfl H6.out HG8.out (by unfold maxLen; omega) (by omega) ?_)
      intro v90 w9 h9 ht9 hn9 _
      obtain ⟨ao9, cap9, rfl, _⟩ := (show Sl _ _ _ _ _ _ from h9).shape
      have HN9 : Hid (∀ k, blk (.slice ao9 (x.length + 1) cap9) k → w4.heap.size ≤ k) := Lib.hid fun k hk => by
        rcases hn9 k hk with h | h
        · exact HF6.out k h
        · exact Nat.le_trans hr.size h
      replace hr := hr.trans ht9 (fun k hk => Or.inr (HF6.out k hk))
      have HT9 := Lib.hid hr
      have HS9 : Hid (ISl w9 (.slice ao9 (x.length + 1) cap9) (x ++ [id])) := Lib.hid (by unfold ISl; rw [List.length_append, List.length_singleton, icells_append]; exact h9)
      have d9 := cells_of (HD4.out.still hr).hp 1 v1 rfl
      have f9 := free_of (HD4.out.still hr).hp 1
      have HDz := Lib.hid (HD4.out.put1 HT9.out (fun h => h) (fun _ _ h => h) (fun _ _ h => h) HS9.out (new_ne (w := w4) (lt_of_block HD4.out.hp) HN9.out))
      have HTz : Hid (Turns (fun i => i = X) w4 (w9.setCell ⟨X, 1, none⟩ (.slice ao9 (x.length + 1) cap9))) := Lib.hid ((HT9.out.mono (fun _ h => False.elim h)).trans (Turns.set _ _ _ _) (fun _ h => Or.inl h))
      refine hK _ _ (fun _ => hr) ?_
      clear hK K h9 ht9 hn9 hr
      repeat (refine plan_free (v := ?_) rfl ?_ ?_; rotate_left; (focus (intro w' hI; go_simp; try with_reducible rfl)); simp only [Act.put, List.setIfInBounds_toArray, List.set_cons_zero, List.set_cons_succ])
      refine plan_big (bigC_mk rfl (fun K hK => ?_))
      go_wp2
      obtain ⟨wz, hwz⟩ : ∃ wz, wz = w9.setCell ⟨X, 1, none⟩ (.slice ao9 (x.length + 1) cap9) := ⟨_, rfl⟩
      rw [← hwz] at HDz HTz ⊢
      refine hK _ _ (fun h => by cases h) ?_
      clear hK K d9 f9 hwz
      refine plan_done ?_
      have e2 : wz.cell? ⟨X, 2, none⟩ = some (.slice ay l.length cy) := cells_of HDz.out.hp 2 _ rfl
      obtain ⟨wo, hwo⟩ : ∃ wo, wo = wz.alloc (.cells #[] 9) := ⟨_, rfl⟩
      have tO : Turns nobody wz wo := by rw [hwo]; exact (Turns.refl _ _).alloc _
      have HEo := Lib.hid (Sl.empty (e := 9) (sz := 1) (g := wz.heap.size) (o := 0) (cur := #[]) (w := wo) (by rw [hwo]; exact heap_alloc_new wz _) (Nat.zero_le _))
      have HQl := Lib.hid (Sl.src (Sl.keep HDz.out.s2 tO (fun _ _ h => h)) (strs_one _))
      have e2o : (wz.alloc (.cells #[] 9)).cell? ⟨X, 2, none⟩ = some (.slice ay l.length cy) := by rw [← hwo]; exact cells_of (HDz.out.still tO).hp 2 _ rfl
      have HTo := Lib.hid tO
      have HWo := Lib.hid hwo
      clear hwo tO
      go_upto_region 11 with first
        | (at_builtin; rw [← HWo.out]; refine wpList_append_sl rfl _ _ 45 rfl Tryd.underlying45 ki kz0 kz1 kz2 rfl (by decide) rfl rfl HEo.out HQl.out (by unfold maxLen; omega) (by omega) ?_; intro vp wp hp tp np cp; try simp only [Nat.zero_add, List.nil_append] at hp; have HSp := Lib.hid hp; have HTp : Hid (Turns nobody wz wp) := Lib.hid (HTo.out.trans (cp _ rfl).1 (fun _ h => False.elim h)); have HNp : Hid (∀ i, blk vp i → wz.heap.size ≤ i) := Lib.hid (fun i hb => by rcases np i hb with h | h; (have := blk_slice h; omega); exact Nat.le_trans HTo.out.size h); obtain ⟨wr, hwr⟩ : ∃ wr, wr = wp.alloc (.cells #[.string body] 9) := ⟨_, rfl⟩; have HWr := Lib.hid hwr; have tr : Turns nobody wp wr := (by rw [hwr]; exact (Turns.refl _ _).alloc _); have HTr := Lib.hid tr; have HQr := Lib.hid (str_src (b := body) (by rw [hwr]; exact heap_alloc_new wp _ : wr.heap[wp.heap.size]? = _)); have HSr := Lib.hid (HSp.out.keep tr (fun _ _ h => h)); clear hp tp np cp hwr tr)
        | (at_builtin; rw [← HWr.out]; refine wpList_append_sl rfl _ _ 45 rfl Tryd.underlying45 ki kz0 kz1 kz2 rfl (by decide) rfl rfl HSr.out HQr.out (by unfold maxLen; omega) (by omega) ?_; intro vs0 wt ht2 tt nt _; obtain ⟨aot, capt, rfl, _⟩ := (show Sl _ _ _ _ _ _ from ht2).shape; have HNt : Hid (∀ i, blk (.slice aot (l.length + 1) capt) i → wz.heap.size ≤ i) := Lib.hid (fun i hb => by rcases nt i hb with h | h; exact HNp.out i h; exact Nat.le_trans HTp.out.size (Nat.le_trans HTr.out.size h)); have HTt : Hid (Turns nobody wz wt) := Lib.hid ((HTp.out.trans HTr.out (fun _ h => False.elim h)).trans tt (fun i h => Or.inr (HNp.out i h))); have HSt := Lib.hid ht2; have e9 := cells_of (HDz.out.still HTt.out).hp 2 (.slice ay l.length cy) rfl; have f9 := free_of (HDz.out.still HTt.out).hp 2; clear ht2 tt nt)
      have hst : SSl wt (.slice aot (l.length + 1) capt) (l ++ [body]) := by unfold SSl; rw [List.length_append, List.length_singleton, List.map_append]; exact HSt.out
      have hdu := HDz.out.put2 HTt.out (fun h => h) (fun _ _ h => h) (fun _ _ h => h) hst (new_ne (w := wz) (lt_of_block HDz.out.hp) HNt.out)
      have htu : Turns (fun i => i = X) w4 (wt.setCell ⟨X, 2, none⟩ (.slice aot (l.length + 1) capt)) := (HTz.out.trans HTt.out (fun _ h => False.elim h)).trans (Turns.set _ _ _ _) (fun _ h => Or.inl h)
      obtain ⟨wu, hwu⟩ : ∃ wu, wu = wt.setCell ⟨X, 2, none⟩ (.slice aot (l.length + 1) capt) := ⟨_, rfl⟩
      rw [← hwu] at hdu htu ⊢
      have HDU := Lib.hid hdu
      have HTU := Lib.hid htu
      have RJu := Lib.hid (range_of (heap_newer HJ4.out htu HXJ.out))
      have HRu := Lib.hid (heap_newer HR4.out htu HXB.out)
      clear hdu htu hwu hst e2 e2o e9 f9
      go_wp2_with first
        | (with_reducible refine wpList_load_mid rfl _ _ rfl _ _ rfl _ _ RJu.out Tryd.underlying31 rfl SI.out ?_)
        | (refine wpList_putc rfl _ _ _ rfl (idc id) HRu.out NI.out (idc_one _) rfl rfl SI.out ?_; intro wy ty ay' zy)
      refine bodyPost_ret (results_id rfl _ _ rfl rfl (range_of ay') hid) rfl ?_
      have hfin := HDU.out
      rw [HE1x.out, HE2x.out] at hfin
      have t0 : Turns nobody w w4 := HT04.out
      have hst9 : RefC X q (ids (E ++ [(id, body)])) (bodies (E ++ [(id, body)])) P (.slice ao9 (x.length + 1) cap9) (.slice aot (l.length + 1) capt) v3 wy := by
        refine ⟨heap_newer hfin.hp ty (fun e => HXB.out e.symm), Sl.keep hfin.s1 ty (fun i hi e => ?_), Sl.keep hfin.s2 ty (fun i hi e => ?_), Sl.keep hfin.s3 ty (fun i hi e => ?_)⟩
        · have := HN9.out i hi; have := lt_of_block HR4.out; omega
        · have := HNt.out i hi; have := lt_of_block HR4.out; have := HTz.out.size; omega
        · have := (show Sl _ _ _ _ _ _ from HC.out.s3).lt i hi; have := HBB.out; omega
      refine ⟨rfl, HC.out.done hst9 (((t0.mono (fun _ h => False.elim h)).trans HTU.out (fun _ h => Or.inl h)).trans ty (fun i hi => Or.inr (by have := HBB.out; omega))) (fun i hi => Or.inr ?_) (fun i hi => Or.inr ?_) (fun i hi => Or.inl hi)⟩
      · exact Nat.le_trans t0.size (HN9.out i hi)
      · exact Nat.le_trans t0.size (Nat.le_trans HTz.out.size (HNt.out i hi))
    ·
      refine bigC_mk rfl (fun K hK => ?_)
      go_wp2_with (with_reducible refine wpList_build_run rfl _ _ _ rfl #[(0, .agg (idc id).toArray)] (by kernel_rfl) (HBS.out _ hid _) ?_)
      obtain ⟨_, hg8, _, ht⟩ := grow_alloc hr (.cells (idc id).toArray 31)
      try simp only [World.size_alloc] at hg8
      try replace HE1 := Lib.hid (HE1.out.keep ht (fun _ _ h => h))
      try replace HG8 := Lib.hid (HG8.out.keep ht (fun _ _ h => h))
      try replace H6 := Lib.hid (H6.out.keep ht (fun _ _ h => h))
      replace hr := hr.trans ht (fun _ h => False.elim h)
      have HG8 := Lib.hid (src_one (id := id) hg8 hid)
      refine hK _ _ (fun _ => hr) ?_
      clear hK K hg8 ht
      refine plan_big ?_
      refine bigC_mk rfl (fun K hK => ?_)
      go_wp2_with (at_builtin; refine wpList_append_sl rfl _ _ 36 rfl Tryd.underlying36 hi hz0 hz1 hz2 (by rw [Value.cells]; simp [idc_len, zid_len]) (by decide) rfl rfl HE1.out (HIDS.out _ hr) (by unfold maxLen; omega) (by omega) ?_)
      intro v6 w6 h6 _ hn6 hc6
      try simp only [Nat.zero_add, List.nil_append] at h6
      have ht := (hc6 _ rfl).1
      have HF6 : Hid (∀ k, blk v6 k → w4.heap.size ≤ k) := Lib.hid (fun k hk => by
        have hh := HL1.out
        have hh2 := hr.size
        rcases hn6 k hk with h | h
        · simp only [blk, Value.ownBlock, Option.some.injEq] at h; omega
        · omega)
      try replace HE1 := Lib.hid (HE1.out.keep ht (fun _ _ h => h))
      try replace HG8 := Lib.hid (HG8.out.keep ht (fun _ _ h => h))
      try replace H6 := Lib.hid (H6.out.keep ht (fun _ _ h => h))
      replace hr := hr.trans ht (fun _ h => False.elim h)
      have H6 := Lib.hid h6
      refine hK _ _ (fun _ => hr) ?_
      clear hK K ht h6 hn6 hc6
      refine plan_big (bigC_mk rfl (fun K hK => ?_))
      go_wp2_with (at_builtin; refine wpList_append_sl rfl _ _ 36 rfl Tryd.underlying36 hi hz0 hz1 hz2 (by rw [Value.cells]; simp [idc_len, zid_len]) (by decide) rfl rfl H6.out HG8.out (by unfold maxLen; omega) (by omega) ?_)
      intro v90 w9 h9 ht9 hn9 _
      obtain ⟨ao9, cap9, rfl, _⟩ := (show Sl _ _ _ _ _ _ from h9).shape
      have HN9 : Hid (∀ k, blk (.slice ao9 (x.length + 1) cap9) k → w4.heap.size ≤ k) := Lib.hid fun k hk => by
        rcases hn9 k hk with h | h
        · exact HF6.out k h
        · exact Nat.le_trans hr.size h
      replace hr := hr.trans ht9 (fun k hk => Or.inr (HF6.out k hk))
      have HT9 := Lib.hid hr
      have HS9 : Hid (ISl w9 (.slice ao9 (x.length + 1) cap9) (x ++ [id])) := Lib.hid (by unfold ISl; rw [List.length_append, List.length_singleton, icells_append]; exact h9)
      have d9 := cells_of (HD4.out.still hr).hp 1 v1 rfl
      have f9 := free_of (HD4.out.still hr).hp 1
      have HDz := Lib.hid (HD4.out.put1 HT9.out (fun h => h) (fun _ _ h => h) (fun _ _ h => h) HS9.out (new_ne (w := w4) (lt_of_block HD4.out.hp) HN9.out))
      have HTz : Hid (Turns (fun i => i = X) w4 (w9.setCell ⟨X, 1, none⟩ (.slice ao9 (x.length + 1) cap9))) := Lib.hid ((HT9.out.mono (fun _ h => False.elim h)).trans (Turns.set _ _ _ _) (fun _ h => Or.inl h))
      refine hK _ _ (fun _ => hr) ?_
      clear hK K h9 ht9 hn9 hr
      repeat (refine plan_free (v := ?_) rfl ?_ ?_; rotate_left; (focus (intro w' hI; go_simp; try with_reducible rfl)); simp only [Act.put, List.setIfInBounds_toArray, List.set_cons_zero, List.set_cons_succ])
      refine plan_big (bigC_mk rfl (fun K hK => ?_))
      go_wp2
      obtain ⟨wz, hwz⟩ : ∃ wz, wz = w9.setCell ⟨X, 1, none⟩ (.slice ao9 (x.length + 1) cap9) := ⟨_, rfl⟩
      rw [← hwz] at HDz HTz ⊢
      refine hK _ _ (fun h => by cases h) ?_
      clear hK K d9 f9 hwz
      refine plan_done ?_
      have e2 : wz.cell? ⟨X, 2, none⟩ = some (.slice ay l.length cy) := cells_of HDz.out.hp 2 _ rfl
      obtain ⟨wo, hwo⟩ : ∃ wo, wo = wz.alloc (.cells #[] 9) := ⟨_, rfl⟩
      have tO : Turns nobody wz wo := by rw [hwo]; exact (Turns.refl _ _).alloc _
      have HEo := Lib.hid (Sl.empty (e := 9) (sz := 1) (g := wz.heap.size) (o := 0) (cur := #[]) (w := wo) (by rw [hwo]; exact heap_alloc_new wz _) (Nat.zero_le _))
      have HQl := Lib.hid (Sl.src (Sl.keep HDz.out.s2 tO (fun _ _ h => h)) (strs_one _))
      have e2o : (wz.alloc (.cells #[] 9)).cell? ⟨X, 2, none⟩ = some (.slice ay l.length cy) := by rw [← hwo]; exact cells_of (HDz.out.still tO).hp 2 _ rfl
      have HTo := Lib.hid tO
      have HWo := Lib.hid hwo
      clear hwo tO
      go_upto_region 11 with first
        | (at_builtin; rw [← HWo.out]; refine wpList_append_sl rfl _ _ 45 rfl Tryd.underlying45 ki kz0 kz1 kz2 rfl (by decide) rfl rfl HEo.out HQl.out (by unfold maxLen; omega) (by omega) ?_; intro vp wp hp tp np cp; try simp only [Nat.zero_add, List.nil_append] at hp; have HSp := Lib.hid hp; have HTp : Hid (Turns nobody wz wp) := Lib.hid (HTo.out.trans (cp _ rfl).1 (fun _ h => False.elim h)); have HNp : Hid (∀ i, blk vp i → wz.heap.size ≤ i) := Lib.hid (fun i hb => by rcases np i hb with h | h; (have := blk_slice h; omega); exact Nat.le_trans HTo.out.size h); obtain ⟨wr, hwr⟩ : ∃ wr, wr = wp.alloc (.cells #[.string body] 9) := ⟨_, rfl⟩; have HWr := Lib.hid hwr; have tr : Turns nobody wp wr := (by rw [hwr]; exact (Turns.refl _ _).alloc _); have HTr := Lib.hid tr; have HQr := Lib.hid (str_src (b := body) (by rw [hwr]; exact heap_alloc_new wp _ : wr.heap[wp.heap.size]? = _)); have HSr := Lib.hid (HSp.out.keep tr (fun _ _ h => h)); clear hp tp np cp hwr tr)
        | (at_builtin; rw [← HWr.out]; refine wpList_append_sl rfl _ _ 45 rfl Tryd.underlying45 ki kz0 kz1 kz2 rfl (by decide) rfl rfl HSr.out HQr.out (by unfold maxLen; omega) (by omega) ?_; intro vs0 wt ht2 tt nt _; obtain ⟨aot, capt, rfl, _⟩ := (show Sl _ _ _ _ _ _ from ht2).shape; have HNt : Hid (∀ i, blk (.slice aot (l.length + 1) capt) i → wz.heap.size ≤ i) := Lib.hid (fun i hb => by rcases nt i hb with h | h; exact HNp.out i h; exact Nat.le_trans HTp.out.size (Nat.le_trans HTr.out.size h)); have HTt : Hid (Turns nobody wz wt) := Lib.hid ((HTp.out.trans HTr.out (fun _ h => False.elim h)).trans tt (fun i h => Or.inr (HNp.out i h))); have HSt := Lib.hid ht2; have e9 := cells_of (HDz.out.still HTt.out).hp 2 (.slice ay l.length cy) rfl; have f9 := free_of (HDz.out.still HTt.out).hp 2; clear ht2 tt nt)
      have hst : SSl wt (.slice aot (l.length + 1) capt) (l ++ [body]) := by unfold SSl; rw [List.length_append, List.length_singleton, List.map_append]; exact HSt.out
      have hdu := HDz.out.put2 HTt.out (fun h => h) (fun _ _ h => h) (fun _ _ h => h) hst (new_ne (w := wz) (lt_of_block HDz.out.hp) HNt.out)
      have htu : Turns (fun i => i = X) w4 (wt.setCell ⟨X, 2, none⟩ (.slice aot (l.length + 1) capt)) := (HTz.out.trans HTt.out (fun _ h => False.elim h)).trans (Turns.set _ _ _ _) (fun _ h => Or.inl h)
      obtain ⟨wu, hwu⟩ : ∃ wu, wu = wt.setCell ⟨X, 2, none⟩ (.slice aot (l.length + 1) capt) := ⟨_, rfl⟩
      rw [← hwu] at hdu htu ⊢
      have HDU := Lib.hid hdu
      have HTU := Lib.hid htu
      have RJu := Lib.hid (range_of (heap_newer HJ4.out htu HXJ.out))
      have HRu := Lib.hid (heap_newer HR4.out htu HXB.out)
      clear hdu htu hwu hst e2 e2o e9 f9
      go_wp2_with first
        | (with_reducible refine wpList_load_mid rfl _ _ rfl _ _ rfl _ _ RJu.out Tryd.underlying31 rfl SI.out ?_)
        | (refine wpList_putc rfl _ _ _ rfl (idc id) HRu.out NI.out (idc_one _) rfl rfl SI.out ?_; intro wy ty ay' zy)
      refine bodyPost_ret (results_id rfl _ _ rfl rfl (range_of ay') hid) rfl ?_
      have hfin := HDU.out
      rw [HE1x.out, HE2x.out] at hfin
      have t0 : Turns nobody w w4 := HT04.out
      have hst9 : RefC X q (ids (E ++ [(id, body)])) (bodies (E ++ [(id, body)])) P (.slice ao9 (x.length + 1) cap9) (.slice aot (l.length + 1) capt) v3 wy := by
        refine ⟨heap_newer hfin.hp ty (fun e => HXB.out e.symm), Sl.keep hfin.s1 ty (fun i hi e => ?_), Sl.keep hfin.s2 ty (fun i hi e => ?_), Sl.keep hfin.s3 ty (fun i hi e => ?_)⟩
        · have := HN9.out i hi; have := lt_of_block HR4.out; omega
        · have := HNt.out i hi; have := lt_of_block HR4.out; have := HTz.out.size; omega
        · have := (show Sl _ _ _ _ _ _ from HC.out.s3).lt i hi; have := HBB.out; omega
      refine ⟨rfl, HC.out.done hst9 (((t0.mono (fun _ h => False.elim h)).trans HTU.out (fun _ h => Or.inl h)).trans ty (fun i hi => Or.inr (by have := HBB.out; omega))) (fun i hi => Or.inr ?_) (fun i hi => Or.inr ?_) (fun i hi => Or.inl hi)⟩
      · exact Nat.le_trans t0.size (HN9.out i hi)
      · exact Nat.le_trans t0.size (Nat.le_trans HTz.out.size (HNt.out i hi))
  ·
    refine bigC_mk rfl (fun K hK => ?_)
    go_wp2_with (with_reducible refine wpList_build_run rfl _ _ _ rfl #[(0, .agg (idc id).toArray)] (by kernel_rfl) (HBS.out _ hid _) ?_)
    obtain ⟨_, hg8, _, ht⟩ := grow_alloc hr (.cells (idc id).toArray 31)
    try simp only [World.size_alloc] at hg8
    try replace HE1 := Lib.hid (HE1.out.keep ht (fun _ _ h => h))
    try replace HG8 := Lib.hid (HG8.out.keep ht (fun _ _ h => h))
    try replace H6 := Lib.hid (H6.out.keep ht (fun _ _ h => h))
    replace hr := hr.trans ht (fun _ h => False.elim h)
    have HG8 := Lib.hid (src_one (id := id) hg8 hid)
    refine hK _ _ (fun _ => hr) ?_
    clear hK K hg8 ht
    refine plan_big ?_
    refine bigC_mk rfl (fun K hK => ?_)
    go_wp2
    obtain ⟨_, hg1, hle1, ht⟩ := grow_alloc hr (.cells #[] 31)
    try simp only [World.size_alloc] at hg1 hle1
    have HL1 := Lib.hid hle1
    clear hle1
    try replace HE1 := Lib.hid (HE1.out.keep ht (fun _ _ h => h))
    try replace HG8 := Lib.hid (HG8.out.keep ht (fun _ _ h => h))
    try replace H6 := Lib.hid (H6.out.keep ht (fun _ _ h => h))
    replace hr := hr.trans ht (fun _ h => False.elim h)
    have HE1 := Lib.hid (Sl.empty (sz := 32) hg1 (Nat.zero_le _))
    refine hK _ _ (fun _ => hr) ?_
    clear hK K hg1 ht
    refine plan_big ?_
    refine bigC_mk rfl (fun K hK => ?_)
    go_wp2_with (at_builtin; refine wpList_append_sl rfl _ _ 36 rfl Tryd.underlying36 hi hz0 hz1 hz2 (by rw [Value.cells]; simp [idc_len, zid_len]) (by decide) rfl rfl HE1.out (HIDS.out _ hr) (by unfold maxLen; omega) (by omega) ?_)
    intro v6 w6 h6 _ hn6 hc6
    try simp only [Nat.zero_add, List.nil_append] at h6
    have ht := (hc6 _ rfl).1
    have HF6 : Hid (∀ k, blk v6 k → w4.heap.size ≤ k) := Lib.hid (fun k hk => by
      have hh := HL1.out
      have hh2 := hr.size
      rcases hn6 k hk with h | h
      · simp only [blk, Value.ownBlock, Option.some.injEq] at h; omega
      · omega)
    try replace HE1 := Lib.hid (HE1.out.keep ht (fun _ _ h => h))
    try replace HG8 := Lib.hid (HG8.out.keep ht (fun _ _ h => h))
    try replace H6 := Lib.hid (H6.out.keep ht (fun _ _ h => h))
    replace hr := hr.trans ht (fun _ h => False.elim h)
    have H6 := Lib.hid h6
    refine hK _ _ (fun _ => hr) ?_
    clear hK K ht h6 hn6 hc6
    refine plan_big (bigC_mk rfl (fun K hK => ?_))
    go_wp2_with (at_builtin; refine wpList_append_sl rfl _ _ 36 rfl Tryd.underlying36 hi hz0 hz1 hz2 (by rw [Value.cells]; simp [idc_len, zid_len]) (by decide) rfl rfl H6.out HG8.out (by unfold maxLen; omega) (by omega) ?_)
    intro v90 w9 h9 ht9 hn9 _
    obtain ⟨ao9, cap9, rfl, _⟩ := (show Sl _ _ _ _ _ _ from h9).shape
    have HN9 : Hid (∀ k, blk (.slice ao9 (x.length + 1) cap9) k → w4.heap.size ≤ k) := Lib.hid fun k hk => by
      rcases hn9 k hk with h | h
      · exact HF6.out k h
      · exact Nat.le_trans hr.size h
    replace hr := hr.trans ht9 (fun k hk => Or.inr (HF6.out k hk))
    have HT9 := Lib.hid hr
    have HS9 : Hid (ISl w9 (.slice ao9 (x.length + 1) cap9) (x ++ [id])) := Lib.hid (by unfold ISl; rw [List.length_append, List.length_singleton, icells_append]; exact h9)
    have d9 := cells_of (HD4.out.still hr).hp 1 v1 rfl
    have f9 := free_of (HD4.out.still hr).hp 1
    have HDz := Lib.hid (HD4.out.put1 HT9.out (fun h => h) (fun _ _ h => h) (fun _ _ h => h) HS9.out (new_ne (w := w4) (lt_of_block HD4.out.hp) HN9.out))
    have HTz : Hid (Turns (fun i => i = X) w4 (w9.setCell ⟨X, 1, none⟩ (.slice ao9 (x.length + 1) cap9))) := Lib.hid ((HT9.out.mono (fun _ h => False.elim h)).trans (Turns.set _ _ _ _) (fun _ h => Or.inl h))
    refine hK _ _ (fun _ => hr) ?_
    clear hK K h9 ht9 hn9 hr
    repeat (refine plan_free (v := ?_) rfl ?_ ?_; rotate_left; (focus (intro w' hI; go_simp; try with_reducible rfl)); simp only [Act.put, List.setIfInBounds_toArray, List.set_cons_zero, List.set_cons_succ])
    refine plan_big (bigC_mk rfl (fun K hK => ?_))
    go_wp2
    obtain ⟨wz, hwz⟩ : ∃ wz, wz = w9.setCell ⟨X, 1, none⟩ (.slice ao9 (x.length + 1) cap9) := ⟨_, rfl⟩
    rw [← hwz] at HDz HTz ⊢
    refine hK _ _ (fun h => by cases h) ?_
    clear hK K d9 f9 hwz
    refine plan_done ?_
    have e2 : wz.cell? ⟨X, 2, none⟩ = some (.slice ay l.length cy) := cells_of HDz.out.hp 2 _ rfl
    obtain ⟨wo, hwo⟩ : ∃ wo, wo = wz.alloc (.cells #[] 9) := ⟨_, rfl⟩
    have tO : Turns nobody wz wo := by rw [hwo]; exact (Turns.refl _ _).alloc _
    have HEo := Lib.hid (Sl.empty (e := 9) (sz := 1) (g := wz.heap.size) (o := 0) (cur := #[]) (w := wo) (by rw [hwo]; exact heap_alloc_new wz _) (Nat.zero_le _))
    have HQl := Lib.hid (Sl.src (Sl.keep HDz.out.s2 tO (fun _ _ h => h)) (strs_one _))
    have e2o : (wz.alloc (.cells #[] 9)).cell? ⟨X, 2, none⟩ = some (.slice ay l.length cy) := by rw [← hwo]; exact cells_of (HDz.out.still tO).hp 2 _ rfl
    have HTo := Lib.hid tO
    have HWo := Lib.hid hwo
    clear hwo tO
    go_upto_region 11 with first
      | (at_builtin; rw [← HWo.out]; refine wpList_append_sl rfl _ _ 45 rfl Tryd.underlying45 ki kz0 kz1 kz2 rfl (by decide) rfl rfl HEo.out HQl.out (by unfold maxLen; omega) (by omega) ?_; intro vp wp hp tp np cp; try simp only [Nat.zero_add, List.nil_append] at hp; have HSp := Lib.hid hp; have HTp : Hid (Turns nobody wz wp) := Lib.hid (HTo.out.trans (cp _ rfl).1 (fun _ h => False.elim h)); have HNp : Hid (∀ i, blk vp i → wz.heap.size ≤ i) := Lib.hid (fun i hb => by rcases np i hb with h | h; (have := blk_slice h; omega); exact Nat.le_trans HTo.out.size h); obtain ⟨wr, hwr⟩ : ∃ wr, wr = wp.alloc (.cells #[.string body] 9) := ⟨_, rfl⟩; have HWr := Lib.hid hwr; have tr : Turns nobody wp wr := (by rw [hwr]; exact (Turns.refl _ _).alloc _); have HTr := Lib.hid tr; have HQr := Lib.hid (str_src (b := body) (by rw [hwr]; exact heap_alloc_new wp _ : wr.heap[wp.heap.size]? = _)); have HSr := Lib.hid (HSp.out.keep tr (fun _ _ h => h)); clear hp tp np cp hwr tr)
      | (at_builtin; rw [← HWr.out]; refine wpList_append_sl rfl _ _ 45 rfl Tryd.underlying45 ki kz0 kz1 kz2 rfl (by decide) rfl rfl HSr.out HQr.out (by unfold maxLen; omega) (by omega) ?_; intro vs0 wt ht2 tt nt _; obtain ⟨aot, capt, rfl, _⟩ := (show Sl _ _ _ _ _ _ from ht2).shape; have HNt : Hid (∀ i, blk (.slice aot (l.length + 1) capt) i → wz.heap.size ≤ i) := Lib.hid (fun i hb => by rcases nt i hb with h | h; exact HNp.out i h; exact Nat.le_trans HTp.out.size (Nat.le_trans HTr.out.size h)); have HTt : Hid (Turns nobody wz wt) := Lib.hid ((HTp.out.trans HTr.out (fun _ h => False.elim h)).trans tt (fun i h => Or.inr (HNp.out i h))); have HSt := Lib.hid ht2; have e9 := cells_of (HDz.out.still HTt.out).hp 2 (.slice ay l.length cy) rfl; have f9 := free_of (HDz.out.still HTt.out).hp 2; clear ht2 tt nt)
    have hst : SSl wt (.slice aot (l.length + 1) capt) (l ++ [body]) := by unfold SSl; rw [List.length_append, List.length_singleton, List.map_append]; exact HSt.out
    have hdu := HDz.out.put2 HTt.out (fun h => h) (fun _ _ h => h) (fun _ _ h => h) hst (new_ne (w := wz) (lt_of_block HDz.out.hp) HNt.out)
    have htu : Turns (fun i => i = X) w4 (wt.setCell ⟨X, 2, none⟩ (.slice aot (l.length + 1) capt)) := (HTz.out.trans HTt.out (fun _ h => False.elim h)).trans (Turns.set _ _ _ _) (fun _ h => Or.inl h)
    obtain ⟨wu, hwu⟩ : ∃ wu, wu = wt.setCell ⟨X, 2, none⟩ (.slice aot (l.length + 1) capt) := ⟨_, rfl⟩
    rw [← hwu] at hdu htu ⊢
    have HDU := Lib.hid hdu
    have HTU := Lib.hid htu
    have RJu := Lib.hid (range_of (heap_newer HJ4.out htu HXJ.out))
    have HRu := Lib.hid (heap_newer HR4.out htu HXB.out)
    clear hdu htu hwu hst e2 e2o e9 f9
    go_wp2_with first
      | (with_reducible refine wpList_load_mid rfl _ _ rfl _ _ rfl _ _ RJu.out Tryd.underlying31 rfl SI.out ?_)
      | (refine wpList_putc rfl _ _ _ rfl (idc id) HRu.out NI.out (idc_one _) rfl rfl SI.out ?_; intro wy ty ay' zy)
    refine bodyPost_ret (results_id rfl _ _ rfl rfl (range_of ay') hid) rfl ?_
    have hfin := HDU.out
    rw [HE1x.out, HE2x.out] at hfin
    have t0 : Turns nobody w w4 := HT04.out
    have hst9 : RefC X q (ids (E ++ [(id, body)])) (bodies (E ++ [(id, body)])) P (.slice ao9 (x.length + 1) cap9) (.slice aot (l.length + 1) capt) v3 wy := by
      refine ⟨heap_newer hfin.hp ty (fun e => HXB.out e.symm), Sl.keep hfin.s1 ty (fun i hi e => ?_), Sl.keep hfin.s2 ty (fun i hi e => ?_), Sl.keep hfin.s3 ty (fun i hi e => ?_)⟩
      · have := HN9.out i hi; have := lt_of_block HR4.out; omega
      · have := HNt.out i hi; have := lt_of_block HR4.out; have := HTz.out.size; omega
      · have := (show Sl _ _ _ _ _ _ from HC.out.s3).lt i hi; have := HBB.out; omega
    refine ⟨rfl, HC.out.done hst9 (((t0.mono (fun _ h => False.elim h)).trans HTU.out (fun _ h => Or.inl h)).trans ty (fun i hi => Or.inr (by have := HBB.out; omega))) (fun i hi => Or.inr ?_) (fun i hi => Or.inr ?_) (fun i hi => Or.inl hi)⟩
    · exact Nat.le_trans t0.size (HN9.out i hi)
    · exact Nat.le_trans t0.size (Nat.le_trans HTz.out.size (HNt.out i hi))

end Go.Proofs.YtjnplcajajdkiaaDoor.store
