/- The reference's store: what its calls do. Printed by gen_storef.py. -/
import Derived.Test.YtjnplcajajdkiaaDoorStoRef
import Derived.Test.YtjnplcajajdkiaaDoorFork
namespace Go.Proofs.YtjnplcajajdkiaaDoor.store
open Go.RowKit
open Go.Proofs.YtjnplcajajdkiaaDoor.stepkit Go.Proofs.YtjnplcajajdkiaaDoor.eqkit Go.Proofs.YtjnplcajajdkiaaDoor.idkit Go.Proofs.YtjnplcajajdkiaaDoor.obj Go.Proofs.YtjnplcajajdkiaaDoor.row Go.Proofs.YtjnplcajajdkiaaDoor.mapkit Go.Proofs.YtjnplcajajdkiaaDoor.mix Go.Proofs.YtjnplcajajdkiaaDoor.lru
open Go.Proofs.YtjnplcajajdkiaaDoor.sha (wpList_putc new32 range_of)

set_option maxHeartbeats 100000 in
theorem exec_hiId {op : Oper} {a : Act} {w : World} (x h : Operand) (ho : op.op = .slice 36 x none (some h) none) (g o n cap k : Nat) (hx : a.eval x = .slice (some ⟨g, o, none⟩) n cap) (hh : a.eval h = .int .i64 k) (hk : k ≤ cap) {v : Value} (hv : Go.sliced (some ⟨g, o, none⟩) 0 k cap 32 = v) :
    (execOp a.eval op).run Tryd.prog w = .ok (.value v) w := by
  have h1 : (0 : Int) ≤ (k : Int) := by omega
  have h2 : (k : Int) ≤ (cap : Int) := by omega
  rw [← hv]
  unfold execOp
  simp only [ho, hx, hh, Option.map]
  clear hx hh ho hk hv
  go_simp
set_option maxHeartbeats 100000 in
theorem exec_loId {op : Oper} {a : Act} {w : World} (x h : Operand) (ho : op.op = .slice 36 x (some h) none none) (g o n cap m : Nat) (hx : a.eval x = .slice (some ⟨g, o, none⟩) n cap) (j : Int) (hh : a.eval h = .int .i64 j) (hj : j = (m : Int)) (hk : m ≤ n) {v : Value} (hv : Go.sliced (some ⟨g, o, none⟩) m n cap 32 = v) :
    (execOp a.eval op).run Tryd.prog w = .ok (.value v) w := by
  subst hj
  have h1 : (0 : Int) ≤ (m : Int) := by omega
  have h2 : (m : Int) ≤ (n : Int) := by omega
  rw [← hv]
  unfold execOp
  simp only [ho, hx, hh, Option.map]
  clear hx hh ho hk hv
  go_simp

set_option maxHeartbeats 100000 in
theorem exec_hiSt {op : Oper} {a : Act} {w : World} (x h : Operand) (ho : op.op = .slice 45 x none (some h) none) (g o n cap k : Nat) (hx : a.eval x = .slice (some ⟨g, o, none⟩) n cap) (hh : a.eval h = .int .i64 k) (hk : k ≤ cap) {v : Value} (hv : Go.sliced (some ⟨g, o, none⟩) 0 k cap 1 = v) :
    (execOp a.eval op).run Tryd.prog w = .ok (.value v) w := by
  have h1 : (0 : Int) ≤ (k : Int) := by omega
  have h2 : (k : Int) ≤ (cap : Int) := by omega
  rw [← hv]
  unfold execOp
  simp only [ho, hx, hh, Option.map]
  clear hx hh ho hk hv
  go_simp
set_option maxHeartbeats 100000 in
theorem exec_loSt {op : Oper} {a : Act} {w : World} (x h : Operand) (ho : op.op = .slice 45 x (some h) none none) (g o n cap m : Nat) (hx : a.eval x = .slice (some ⟨g, o, none⟩) n cap) (j : Int) (hh : a.eval h = .int .i64 j) (hj : j = (m : Int)) (hk : m ≤ n) {v : Value} (hv : Go.sliced (some ⟨g, o, none⟩) m n cap 1 = v) :
    (execOp a.eval op).run Tryd.prog w = .ok (.value v) w := by
  subst hj
  have h1 : (0 : Int) ≤ (m : Int) := by omega
  have h2 : (m : Int) ≤ (n : Int) := by omega
  rw [← hv]
  unfold execOp
  simp only [ho, hx, hh, Option.map]
  clear hx hh ho hk hv
  go_simp

section
variable {X : Nat} {q : Int} {x x' : List (List Int)} {l l' : List ByteArray} {P P' : List (List Int)} {v1 v2 v3 u : Value} {w w' : World} {G : Nat → Prop}
theorem RefC.put1 (h : RefC X q x l P v1 v2 v3 w) (ht : Turns G w w') (hX : ¬ G X) (h2 : ∀ i, blk v2 i → ¬ G i) (h3 : ∀ i, blk v3 i → ¬ G i) (hs : ISl w' u x') (hn : ∀ i, blk u i → i ≠ X) : RefC X q x' l P u v2 v3 (w'.setCell ⟨X, 1, none⟩ u) := by
  have t := Turns.set w' X 1 u
  exact ⟨heap_setCell_at (heap_newer h.hp ht hX) 1 u, Sl.keep hs t hn, Sl.keep (Sl.keep h.s2 ht h2) t h.not2, Sl.keep (Sl.keep h.s3 ht h3) t h.not3⟩
theorem RefC.put2 (h : RefC X q x l P v1 v2 v3 w) (ht : Turns G w w') (hX : ¬ G X) (h1 : ∀ i, blk v1 i → ¬ G i) (h3 : ∀ i, blk v3 i → ¬ G i) (hs : SSl w' u l') (hn : ∀ i, blk u i → i ≠ X) : RefC X q x l' P v1 u v3 (w'.setCell ⟨X, 2, none⟩ u) := by
  have t := Turns.set w' X 2 u
  exact ⟨heap_setCell_at (heap_newer h.hp ht hX) 2 u, Sl.keep (Sl.keep h.s1 ht h1) t h.not1, Sl.keep hs t hn, Sl.keep (Sl.keep h.s3 ht h3) t h.not3⟩
theorem RefC.put3 (h : RefC X q x l P v1 v2 v3 w) (ht : Turns G w w') (hX : ¬ G X) (h1 : ∀ i, blk v1 i → ¬ G i) (h2 : ∀ i, blk v2 i → ¬ G i) (hs : ISl w' u P') (hn : ∀ i, blk u i → i ≠ X) : RefC X q x l P' v1 v2 u (w'.setCell ⟨X, 3, none⟩ u) := by
  have t := Turns.set w' X 3 u
  exact ⟨heap_setCell_at (heap_newer h.hp ht hX) 3 u, Sl.keep (Sl.keep h.s1 ht h1) t h.not1, Sl.keep (Sl.keep h.s2 ht h2) t h.not2, Sl.keep hs t hn⟩
end
theorem new_ne {u : Value} {X : Nat} {w : World} (hX : X < w.heap.size) (h : ∀ i, blk u i → w.heap.size ≤ i) : ∀ i, blk u i → i ≠ X := fun i hi e => by have := h i hi; omega
theorem blk_slice {g o n c i : Nat} (h : blk (.slice (some ⟨g, o, none⟩) n c) i) : i = g := by simp only [blk, Value.ownBlock, Option.some.injEq] at h; exact h.symm
theorem take_drop_len {α : Type} (l : List α) {k : Nat} (h : k < l.length) : (l.take k ++ l.drop (k + 1)).length = k + (l.length - (k + 1)) := by rw [List.length_append, List.length_take, List.length_drop]; omega

set_option maxRecDepth 10000 in
theorem drop_ref_no {X : Nat} {q : Int} {E : Held} {P : List (List Int)} {v1 v2 v3 : Value} {w : World} (hc : RefC X q (ids E) (bodies E) P v1 v2 v3 w) (hw : Wh (ids E)) (hl : E.length ≤ 1024) (id : List Int) (hid : id.length = 32) (hm : id ∉ ids E) :
    Calls Tryd.prog 45 #[.pointer (some ⟨X, 0, none⟩), .agg (idc id).toArray] w fun e w' => e = .returned (.int .i64 7) ∧ Turns nobody w w' := by
  obtain ⟨i0, hi, hz0, hz1, hz2⟩ := infoIds_parts
  obtain ⟨k0, ki, kz0, kz1, kz2⟩ := infoStr_parts
  obtain ⟨wa, hwa⟩ : ∃ wa, wa = w.alloc (.cells (idc id).toArray 31) := ⟨_, rfl⟩
  have ta : Turns nobody w wa := by rw [hwa]; exact (Turns.refl _ _).alloc _
  obtain ⟨B, hB⟩ : ∃ B, w.heap.size = B := ⟨_, rfl⟩
  have hba : wa.heap[B]? = some (.cells (idc id).toArray 31 (0, 0)) := by rw [hwa, ← hB]; exact heap_alloc_new w _
  have HBA := Lib.hid hba
  have ha := hc.still ta
  have HWA := Lib.hid hwa
  have HB := Lib.hid hB
  have HC := Lib.hid hc
  have HTA := Lib.hid ta
  have RI := Lib.hid (range_of hba)
  have SX := Lib.hid (sizeId hid)
  have hf := find_ref ha hw (by rw [ids_len]; exact hl) id hid
  unfold findI at hf
  rw [if_neg hm] at hf
  clear hwa ta hba ha hc hm hB
  go_enter Tryd.func45, Tryd.ntmps45
  go_upto_region 1 with fail
  rw [← HWA.out, HB.out]
  go_wp2_with first
    | (with_reducible refine wpList_load_mid rfl _ _ rfl _ _ rfl _ _ RI.out Tryd.underlying31 rfl SX.out ?_)
    | (go_at_call 48; refine hf.mono ?_; rintro e w1 ⟨rfl, t1⟩; have HT := Lib.hid (HTA.out.trans t1 (fun _ h => False.elim h)); clear t1)
  go_ret
  exact ⟨rfl, HT.out⟩

set_option maxRecDepth 10000 in
theorem use_ref_no {X : Nat} {q : Int} {E : Held} {P : List (List Int)} {v1 v2 v3 : Value} {w : World} (hc : RefC X q (ids E) (bodies E) P v1 v2 v3 w) (hw : Wh (ids E)) (hl : E.length ≤ 1024) (id : List Int) (hid : id.length = 32) (hm : id ∉ ids E) :
    Calls Tryd.prog 43 #[.pointer (some ⟨X, 0, none⟩), .agg (idc id).toArray] w fun e w' => e = .returned (.int .i64 7) ∧ Turns nobody w w' := by
  obtain ⟨i0, hi, hz0, hz1, hz2⟩ := infoIds_parts
  obtain ⟨k0, ki, kz0, kz1, kz2⟩ := infoStr_parts
  obtain ⟨wa, hwa⟩ : ∃ wa, wa = w.alloc (.cells (idc id).toArray 31) := ⟨_, rfl⟩
  have ta : Turns nobody w wa := by rw [hwa]; exact (Turns.refl _ _).alloc _
  obtain ⟨B, hB⟩ : ∃ B, w.heap.size = B := ⟨_, rfl⟩
  have hba : wa.heap[B]? = some (.cells (idc id).toArray 31 (0, 0)) := by rw [hwa, ← hB]; exact heap_alloc_new w _
  have HBA := Lib.hid hba
  have ha := hc.still ta
  have HWA := Lib.hid hwa
  have HB := Lib.hid hB
  have HC := Lib.hid hc
  have HTA := Lib.hid ta
  have RI := Lib.hid (range_of hba)
  have SX := Lib.hid (sizeId hid)
  have hf := find_ref ha hw (by rw [ids_len]; exact hl) id hid
  unfold findI at hf
  rw [if_neg hm] at hf
  clear hwa ta hba ha hc hm hB
  go_enter Tryd.func43, Tryd.ntmps43
  go_upto_region 1 with fail
  rw [← HWA.out, HB.out]
  go_wp2_with first
    | (with_reducible refine wpList_load_mid rfl _ _ rfl _ _ rfl _ _ RI.out Tryd.underlying31 rfl SX.out ?_)
    | (go_at_call 48; refine hf.mono ?_; rintro e w1 ⟨rfl, t1⟩; have HT := Lib.hid (HTA.out.trans t1 (fun _ h => False.elim h)); clear t1)
  go_ret
  exact ⟨rfl, HT.out⟩

set_option maxRecDepth 10000 in
theorem pin_ref_no {X : Nat} {q : Int} {E : Held} {P : List (List Int)} {v1 v2 v3 : Value} {w : World} (hc : RefC X q (ids E) (bodies E) P v1 v2 v3 w) (hw : Wh (ids E)) (hl : E.length ≤ 1024) (id : List Int) (hid : id.length = 32) (hm : id ∉ ids E) :
    Calls Tryd.prog 44 #[.pointer (some ⟨X, 0, none⟩), .agg (idc id).toArray] w fun e w' => e = .returned (.int .i64 7) ∧ Turns nobody w w' := by
  obtain ⟨i0, hi, hz0, hz1, hz2⟩ := infoIds_parts
  obtain ⟨k0, ki, kz0, kz1, kz2⟩ := infoStr_parts
  obtain ⟨wa, hwa⟩ : ∃ wa, wa = w.alloc (.cells (idc id).toArray 31) := ⟨_, rfl⟩
  have ta : Turns nobody w wa := by rw [hwa]; exact (Turns.refl _ _).alloc _
  obtain ⟨B, hB⟩ : ∃ B, w.heap.size = B := ⟨_, rfl⟩
  have hba : wa.heap[B]? = some (.cells (idc id).toArray 31 (0, 0)) := by rw [hwa, ← hB]; exact heap_alloc_new w _
  have HBA := Lib.hid hba
  have ha := hc.still ta
  have HWA := Lib.hid hwa
  have HB := Lib.hid hB
  have HC := Lib.hid hc
  have HTA := Lib.hid ta
  have RI := Lib.hid (range_of hba)
  have SX := Lib.hid (sizeId hid)
  have hf := find_ref ha hw (by rw [ids_len]; exact hl) id hid
  unfold findI at hf
  rw [if_neg hm] at hf
  clear hwa ta hba ha hc hm hB
  go_enter Tryd.func44, Tryd.ntmps44
  go_upto_region 1 with fail
  rw [← HWA.out, HB.out]
  go_wp2_with first
    | (with_reducible refine wpList_load_mid rfl _ _ rfl _ _ rfl _ _ RI.out Tryd.underlying31 rfl SX.out ?_)
    | (go_at_call 48; refine hf.mono ?_; rintro e w1 ⟨rfl, t1⟩; have HT := Lib.hid (HTA.out.trans t1 (fun _ h => False.elim h)); clear t1)
  go_ret
  exact ⟨rfl, HT.out⟩

set_option maxRecDepth 10000 in
set_option maxHeartbeats 2000000 in
theorem drop_ref_yes {X : Nat} {q : Int} {E : Held} {P : List (List Int)} {v1 v2 v3 : Value} {w : World} (hc : RefC X q (ids E) (bodies E) P v1 v2 v3 w) (hw : Wh (ids E)) (hnd : (ids E).Nodup) (hwp : Wh P) (hl0 : E.length ≤ 1000) (hpl : P.length ≤ 1000) (id : List Int) (hid : id.length = 32) (hm : id ∈ ids E) :
    Calls Tryd.prog 45 #[.pointer (some ⟨X, 0, none⟩), .agg (idc id).toArray] w fun e w' => e = .returned (.int .i64 0) ∧ Step (rfoot X v1 v2 v3) (RefAt X q (dropE E id) (dropL P id)) w w' := by
  have hl : E.length ≤ 1024 := by omega
  obtain ⟨i0, hi, hz0, hz1, hz2⟩ := infoIds_parts
  obtain ⟨k0, ki, kz0, kz1, kz2⟩ := infoStr_parts
  obtain ⟨wa, hwa⟩ : ∃ wa, wa = w.alloc (.cells (idc id).toArray 31) := ⟨_, rfl⟩
  have ta : Turns nobody w wa := by rw [hwa]; exact (Turns.refl _ _).alloc _
  obtain ⟨B, hB⟩ : ∃ B, w.heap.size = B := ⟨_, rfl⟩
  have hba : wa.heap[B]? = some (.cells (idc id).toArray 31 (0, 0)) := by rw [hwa, ← hB]; exact heap_alloc_new w _
  have HBA := Lib.hid hba
  have ha := hc.still ta
  have HWA := Lib.hid hwa
  have HB := Lib.hid hB
  have HC := Lib.hid hc
  have HTA := Lib.hid ta
  have RI := Lib.hid (range_of hba)
  have SX := Lib.hid (sizeId hid)
  have hf := find_ref ha hw (by rw [ids_len]; exact hl) id hid
  have hkl := place_lt hm
  have hkid := place_id hkl
  unfold findI at hf
  rw [if_pos hm, show idxX (ids E) id = placeE E id from rfl] at hf
  obtain ⟨x, hx⟩ : ∃ x, ids E = x := ⟨_, rfl⟩
  obtain ⟨l, hll⟩ : ∃ l, bodies E = l := ⟨_, rfl⟩
  have hxl : E.length = x.length := by rw [← hx, ids_len]
  have hbl : E.length = l.length := by rw [← hll, bodies_len]
  obtain ⟨k, hk⟩ : ∃ k, placeE E id = k := ⟨_, rfl⟩
  rw [hk] at hf hkl hkid
  have HKs1 : Hid (k < x.length) := Lib.hid (by omega)
  have HKs2 : Hid (k < l.length) := Lib.hid (by omega)
  have hx1k : x.length ≤ 1024 := by omega
  have hl1k : l.length ≤ 1024 := by omega
  have hk1k : (k : Int) + 1 ≤ 1025 := by omega
  have HKW : Hid (IntKind.i64.wrap ((k : Int) + 1) = ((k + 1 : Nat) : Int)) := Lib.hid (by rw [IntKind.wrap_i64]; omega)
  have HW : Hid (Wh x) := Lib.hid (by rw [← hx]; exact hw)
  have hdr := dropE_place hnd hkl
  rw [hkid] at hdr
  have HE1 : Hid (x.take k ++ x.drop (k + 1) = ids (dropE E id)) := Lib.hid (by rw [hdr, ← hx]; unfold ids; simp [List.map_take, List.map_drop])
  have HE2 : Hid (l.take k ++ l.drop (k + 1) = bodies (dropE E id)) := Lib.hid (by rw [hdr, ← hll]; unfold bodies; simp [List.map_take, List.map_drop])
  have hca := ha
  rw [hx, hll] at hca
  have HCA := Lib.hid hca
  clear hwa ta hba ha hc hm hB hw hkl hkid hdr hca hnd
  go_enter Tryd.func45, Tryd.ntmps45
  go_upto_region 1 with fail
  rw [← HWA.out, HB.out]
  go_upto_region 4 with first
    | (with_reducible refine wpList_load_mid rfl _ _ rfl _ _ rfl _ _ RI.out Tryd.underlying31 rfl SX.out ?_)
    | (go_at_call 48; refine hf.mono ?_; rintro e wf ⟨rfl, t1⟩; have HDf := Lib.hid (HCA.out.still t1); have HTf := Lib.hid t1; clear t1)
  have hsrcf := cut_src (show Sl _ _ _ _ _ _ from HDf.out.s1) (icells_one _) (i := k) HKs1.out
  obtain ⟨gf, of, capf, a1f, a2f, hvf, hncf, hcmf, ha1f, ha2f, hs1f, hs2f⟩ := hsrcf
  subst hvf
  have HA1f := Lib.hid ha1f
  have HA2f := Lib.hid ha2f
  have HQ1f := Lib.hid hs1f
  have HQ2f := Lib.hid hs2f
  have HNCf : Hid (k ≤ capf ∧ k + 1 ≤ x.length) := Lib.hid ⟨by have := HKs1.out; omega, by have := HKs1.out; omega⟩
  have HXFf : Hid (∀ W, Turns nobody wf W → W.cell? ⟨X, 1, none⟩ = some (.slice (some ⟨gf, of, none⟩) x.length capf) ∧ W.frozen? ⟨X, 1, none⟩ = false) := Lib.hid fun W ht => ⟨cells_of (HDf.out.still ht).hp 1 _ rfl, free_of (HDf.out.still ht).hp 1⟩
  have HXLf := Lib.hid (lt_of_block HDf.out.hp)
  clear ha1f ha2f hs1f hs2f hncf hcmf
  refine wp_region_mix [(0, true, true), (2, true, true), (3, true, true), (4, true, true), (5, true, true), (6, true, true), (7, true, true), (9, true, true), (10, true, true), (11, true, true), (12, true, true), (13, true, true), (14, true, true), (15, true, true), (1, false, true), (8, false, true), (16, false, true), (17, true, true), (18, true, true), (19, false, false)] (fun W => Turns nobody wf W) (by kernel_rfl) (by kernel_rfl) ((Turns.refl nobody wf).drew) ?_
  simp only [picked, List.filterMap_cons, List.filterMap_nil, List.getElem?_toArray, List.getElem?_cons_zero, List.getElem?_cons_succ, Option.map_some]
  iterate 5 (refine mix_free (v := ?_) rfl ?_ ?_; rotate_left; (focus (intro w' hI; have d := (HXFf.out _ hI).1; clear hI; go_simp; try with_reducible rfl)); simp only [Act.put, List.setIfInBounds_toArray, List.set_cons_zero, List.set_cons_succ])
  iterate 1 (refine mix_free (v := ?_) rfl ?_ ?_; rotate_left; (focus (intro w' hI; go_simp; try with_reducible rfl)); simp only [Act.put, List.setIfInBounds_toArray, List.set_cons_zero, List.set_cons_succ])
  refine mix_free (v := .slice a1f k capf) rfl (fun w' hI => exec_hiId _ _ rfl _ _ _ _ _ rfl rfl HNCf.out.1 HA1f.out) ?_
  simp only [Act.put, List.setIfInBounds_toArray, List.set_cons_zero, List.set_cons_succ]
  iterate 6 (refine mix_free (v := ?_) rfl ?_ ?_; rotate_left; (focus (intro w' hI; have d := (HXFf.out _ hI).1; clear hI; go_simp; try with_reducible rfl)); simp only [Act.put, List.setIfInBounds_toArray, List.set_cons_zero, List.set_cons_succ])
  refine mix_free (v := .slice a2f (x.length - (k + 1)) (capf - (k + 1))) rfl (fun w' hI => exec_loId _ _ rfl _ _ _ _ (k + 1) rfl _ rfl HKW.out HNCf.out.2 HA2f.out) ?_
  simp only [Act.put, List.setIfInBounds_toArray, List.set_cons_zero, List.set_cons_succ]
  refine mix_big rfl (fun K hK => ?_)
  go_wp2
  have tef : Turns nobody wf (wf.drew.alloc (.cells #[] 31)) := (Turns.refl _ _).drew.alloc _
  have HEf := Lib.hid (Sl.empty (sz := 32) (heap_alloc_new wf.drew (.cells #[] 31)) (Nat.zero_le _))
  have HTEf := Lib.hid tef
  refine hK _ _ (fun _ => tef) ?_
  clear hK K tef
  refine mix_big rfl (fun K hK => ?_)
  go_wp2_with (at_builtin; refine wpList_append_sl rfl _ _ 36 rfl Tryd.underlying36 hi hz0 hz1 hz2 (by rw [Value.cells]; simp [idc_len, zid_len]) (by decide) rfl rfl HEf.out (HQ1f.out.keep HTEf.out (fun _ _ h => h)) (by unfold maxLen; omega) (by omega) ?_)
  intro v8f w8f h8f _ n8f c8f
  try simp only [Nat.zero_add, List.nil_append] at h8f
  have t8f : Turns nobody wf w8f := HTEf.out.trans (c8f _ rfl).1 (fun _ h => False.elim h)
  have HN8f : Hid (∀ j, blk v8f j → wf.heap.size ≤ j) := Lib.hid fun j hj => by
    rcases n8f j hj with h | h
    · have := blk_slice h; try simp at this
      omega
    · exact Nat.le_trans HTEf.out.size h
  have HT8f := Lib.hid t8f
  have HS8f := Lib.hid h8f
  refine hK _ _ (fun _ => t8f) ?_
  clear hK K t8f h8f n8f c8f
  refine mix_big rfl (fun K hK => ?_)
  go_wp2_with (at_builtin; refine wpList_append_sl rfl _ _ 36 rfl Tryd.underlying36 hi hz0 hz1 hz2 (by rw [Value.cells]; simp [idc_len, zid_len]) (by decide) rfl rfl HS8f.out (HQ2f.out.keep HT8f.out (fun _ _ h => h)) (by unfold maxLen; omega) (by omega) ?_)
  intro v9f w9f h9f t9f n9f _
  have t9nf : Turns nobody wf w9f := HT8f.out.trans t9f (fun j hj => Or.inr (HN8f.out j hj))
  have HN9f : Hid (∀ j, blk v9f j → wf.heap.size ≤ j) := Lib.hid fun j hj => by
    rcases n9f j hj with h | h
    · exact HN8f.out j h
    · exact Nat.le_trans HT8f.out.size h
  have HS9f : Hid (ISl w9f v9f (x.take k ++ x.drop (k + 1))) := Lib.hid (by
    unfold ISl
    rw [take_drop_len _ HKs1.out, ← icells_cut HW.out k]
    first
      | exact h9f
      | simpa using h9f)
  obtain ⟨ao9f, cap9f, hv9f, _⟩ := (show Sl _ _ _ _ _ _ from h9f).shape
  subst hv9f
  have HT9f := Lib.hid t9nf
  have HDg := Lib.hid (HDf.out.put1 HT9f.out (fun h => h) (fun _ _ h => h) (fun _ _ h => h) HS9f.out (new_ne HXLf.out HN9f.out))
  have HTg : Hid (Turns (fun i => i = X) wf (w9f.setCell ⟨X, 1, none⟩ (.slice ao9f (k + (x.length - (k + 1))) cap9f))) := Lib.hid ((HT9f.out.mono (fun _ h => False.elim h)).trans (Turns.set _ _ _ _) (fun _ h => Or.inl h))
  obtain ⟨d9f, f9f⟩ := HXFf.out _ HT9f.out
  refine hK _ _ (fun _ => HT9f.out) ?_
  clear hK K t9f t9nf h9f n9f
  iterate 2 (refine mix_free (v := ?_) rfl ?_ ?_; rotate_left; (focus (intro w' hI; go_simp; try with_reducible rfl)); simp only [Act.put, List.setIfInBounds_toArray, List.set_cons_zero, List.set_cons_succ])
  refine mix_big rfl (fun K hK => ?_)
  go_wp2
  obtain ⟨wg, hwg⟩ : ∃ wg, wg = w9f.setCell ⟨X, 1, none⟩ (.slice ao9f (k + (x.length - (k + 1))) cap9f) := ⟨_, rfl⟩
  rw [← hwg] at HDg HTg ⊢
  refine hK _ _ (fun h => by cases h) ?_
  clear hK K d9f f9f hwg
  refine mix_nil ?_
  go_upto_region 5 with fail
  have hsrcg := cut_src (show Sl _ _ _ _ _ _ from HDg.out.s2) (strs_one _) (i := k) HKs2.out
  obtain ⟨gg, og, capg, a1g, a2g, hvg, hncg, hcmg, ha1g, ha2g, hs1g, hs2g⟩ := hsrcg
  subst hvg
  have HA1g := Lib.hid ha1g
  have HA2g := Lib.hid ha2g
  have HQ1g := Lib.hid hs1g
  have HQ2g := Lib.hid hs2g
  have HNCg : Hid (k ≤ capg ∧ k + 1 ≤ l.length) := Lib.hid ⟨by have := HKs2.out; omega, by have := HKs2.out; omega⟩
  have HXFg : Hid (∀ W, Turns nobody wg W → W.cell? ⟨X, 2, none⟩ = some (.slice (some ⟨gg, og, none⟩) l.length capg) ∧ W.frozen? ⟨X, 2, none⟩ = false) := Lib.hid fun W ht => ⟨cells_of (HDg.out.still ht).hp 2 _ rfl, free_of (HDg.out.still ht).hp 2⟩
  have HXLg := Lib.hid (lt_of_block HDg.out.hp)
  clear ha1g ha2g hs1g hs2g hncg hcmg
  refine wp_region_mix [(0, true, true), (2, true, true), (3, true, true), (4, true, true), (5, true, true), (6, true, true), (7, true, true), (9, true, true), (10, true, true), (11, true, true), (12, true, true), (13, true, true), (14, true, true), (15, true, true), (1, false, true), (8, false, true), (16, false, true), (17, true, true), (18, true, true), (19, false, false)] (fun W => Turns nobody wg W) (by kernel_rfl) (by kernel_rfl) ((Turns.refl nobody wg).drew) ?_
  simp only [picked, List.filterMap_cons, List.filterMap_nil, List.getElem?_toArray, List.getElem?_cons_zero, List.getElem?_cons_succ, Option.map_some]
  iterate 5 (refine mix_free (v := ?_) rfl ?_ ?_; rotate_left; (focus (intro w' hI; have d := (HXFg.out _ hI).1; clear hI; go_simp; try with_reducible rfl)); simp only [Act.put, List.setIfInBounds_toArray, List.set_cons_zero, List.set_cons_succ])
  iterate 1 (refine mix_free (v := ?_) rfl ?_ ?_; rotate_left; (focus (intro w' hI; go_simp; try with_reducible rfl)); simp only [Act.put, List.setIfInBounds_toArray, List.set_cons_zero, List.set_cons_succ])
  refine mix_free (v := .slice a1g k capg) rfl (fun w' hI => exec_hiSt _ _ rfl _ _ _ _ _ rfl rfl HNCg.out.1 HA1g.out) ?_
  simp only [Act.put, List.setIfInBounds_toArray, List.set_cons_zero, List.set_cons_succ]
  iterate 6 (refine mix_free (v := ?_) rfl ?_ ?_; rotate_left; (focus (intro w' hI; have d := (HXFg.out _ hI).1; clear hI; go_simp; try with_reducible rfl)); simp only [Act.put, List.setIfInBounds_toArray, List.set_cons_zero, List.set_cons_succ])
  refine mix_free (v := .slice a2g (l.length - (k + 1)) (capg - (k + 1))) rfl (fun w' hI => exec_loSt _ _ rfl _ _ _ _ (k + 1) rfl _ rfl HKW.out HNCg.out.2 HA2g.out) ?_
  simp only [Act.put, List.setIfInBounds_toArray, List.set_cons_zero, List.set_cons_succ]
  refine mix_big rfl (fun K hK => ?_)
  go_wp2
  have teg : Turns nobody wg (wg.drew.alloc (.cells #[] 9)) := (Turns.refl _ _).drew.alloc _
  have HEg := Lib.hid (Sl.empty (sz := 1) (heap_alloc_new wg.drew (.cells #[] 9)) (Nat.zero_le _))
  have HTEg := Lib.hid teg
  refine hK _ _ (fun _ => teg) ?_
  clear hK K teg
  refine mix_big rfl (fun K hK => ?_)
  go_wp2_with (at_builtin; refine wpList_append_sl rfl _ _ 45 rfl Tryd.underlying45 ki kz0 kz1 kz2 rfl (by decide) rfl rfl HEg.out (HQ1g.out.keep HTEg.out (fun _ _ h => h)) (by unfold maxLen; omega) (by omega) ?_)
  intro v8g w8g h8g _ n8g c8g
  try simp only [Nat.zero_add, List.nil_append] at h8g
  have t8g : Turns nobody wg w8g := HTEg.out.trans (c8g _ rfl).1 (fun _ h => False.elim h)
  have HN8g : Hid (∀ j, blk v8g j → wg.heap.size ≤ j) := Lib.hid fun j hj => by
    rcases n8g j hj with h | h
    · have := blk_slice h; try simp at this
      omega
    · exact Nat.le_trans HTEg.out.size h
  have HT8g := Lib.hid t8g
  have HS8g := Lib.hid h8g
  refine hK _ _ (fun _ => t8g) ?_
  clear hK K t8g h8g n8g c8g
  refine mix_big rfl (fun K hK => ?_)
  go_wp2_with (at_builtin; refine wpList_append_sl rfl _ _ 45 rfl Tryd.underlying45 ki kz0 kz1 kz2 rfl (by decide) rfl rfl HS8g.out (HQ2g.out.keep HT8g.out (fun _ _ h => h)) (by unfold maxLen; omega) (by omega) ?_)
  intro v9g w9g h9g t9g n9g _
  have t9ng : Turns nobody wg w9g := HT8g.out.trans t9g (fun j hj => Or.inr (HN8g.out j hj))
  have HN9g : Hid (∀ j, blk v9g j → wg.heap.size ≤ j) := Lib.hid fun j hj => by
    rcases n9g j hj with h | h
    · exact HN8g.out j h
    · exact Nat.le_trans HT8g.out.size h
  have HS9g : Hid (SSl w9g v9g (l.take k ++ l.drop (k + 1))) := Lib.hid (by
    unfold SSl
    rw [take_drop_len _ HKs2.out, ← strs_cut l k]
    first
      | exact h9g
      | simpa using h9g)
  obtain ⟨ao9g, cap9g, hv9g, _⟩ := (show Sl _ _ _ _ _ _ from h9g).shape
  subst hv9g
  have HT9g := Lib.hid t9ng
  have HDh := Lib.hid (HDg.out.put2 HT9g.out (fun h => h) (fun _ _ h => h) (fun _ _ h => h) HS9g.out (new_ne HXLg.out HN9g.out))
  have HTh : Hid (Turns (fun i => i = X) wg (w9g.setCell ⟨X, 2, none⟩ (.slice ao9g (k + (l.length - (k + 1))) cap9g))) := Lib.hid ((HT9g.out.mono (fun _ h => False.elim h)).trans (Turns.set _ _ _ _) (fun _ h => Or.inl h))
  obtain ⟨d9g, f9g⟩ := HXFg.out _ HT9g.out
  refine hK _ _ (fun _ => HT9g.out) ?_
  clear hK K t9g t9ng h9g n9g
  iterate 2 (refine mix_free (v := ?_) rfl ?_ ?_; rotate_left; (focus (intro w' hI; go_simp; try with_reducible rfl)); simp only [Act.put, List.setIfInBounds_toArray, List.set_cons_zero, List.set_cons_succ])
  refine mix_big rfl (fun K hK => ?_)
  go_wp2
  obtain ⟨wh, hwh⟩ : ∃ wh, wh = w9g.setCell ⟨X, 2, none⟩ (.slice ao9g (k + (l.length - (k + 1))) cap9g) := ⟨_, rfl⟩
  rw [← hwh] at HDh HTh ⊢
  refine hK _ _ (fun h => by cases h) ?_
  clear hK K d9g f9g hwh
  refine mix_nil ?_
  go_upto_region 6 with fail
  have HTfh : Hid (Turns (fun i => i = X) wf wh) := Lib.hid (HTg.out.trans HTh.out (fun _ h => Or.inl h))
  have HXB : Hid (¬ B = X) := Lib.hid (fun e => by have := lt_of_block HC.out.hp; have := HB.out; omega)
  have HBh := Lib.hid (heap_newer (heap_newer HBA.out HTf.out (fun h => h)) HTfh.out HXB.out)
  have HXF : Hid (∀ W, Turns nobody wh W → W.cell? ⟨X, 3, none⟩ = some v3 ∧ W.frozen? ⟨X, 3, none⟩ = false ∧ W.rangeAt B 0 (idc id)) := Lib.hid fun W ht => ⟨cells_of (HDh.out.still ht).hp 3 _ rfl, free_of (HDh.out.still ht).hp 3, range_of (heap_newer HBh.out ht (fun h => h))⟩
  obtain ⟨ap, cp, rfl, _⟩ := (show Sl _ _ _ _ _ _ from HDh.out.s3).shape
  have hdrop := fun W (ht : Turns nobody wh W) => ref_drop _ P hwp id hid W (Sl.keep HDh.out.s3 ht (fun _ _ h => h)) (by omega)
  have HDROP := Lib.hid hdrop
  clear hdrop
  refine wp_region_mix [(0, true, true), (1, true, true), (2, true, true), (3, true, true), (4, true, true), (5, true, true), (6, false, true), (7, true, true), (8, true, true), (9, false, false)] (fun W => Turns nobody wh W) (by kernel_rfl) (by kernel_rfl) ((Turns.refl nobody wh).drew) ?_
  simp only [picked, List.filterMap_cons, List.filterMap_nil, List.getElem?_toArray, List.getElem?_cons_zero, List.getElem?_cons_succ, Option.map_some]
  iterate 5 (refine mix_free (v := ?_) rfl ?_ ?_; rotate_left; (focus (intro w' hI; have d := (HXF.out _ hI).1; clear hI; go_simp; try with_reducible rfl)); simp only [Act.put, List.setIfInBounds_toArray, List.set_cons_zero, List.set_cons_succ])
  refine mix_free (v := .agg (idc id).toArray) rfl (fun w' hI => exec_load_mid _ _ rfl _ _ rfl (idc id) _ (HXF.out _ hI).2.2 Tryd.underlying31 rfl SX.out) ?_
  simp only [Act.put, List.setIfInBounds_toArray, List.set_cons_zero, List.set_cons_succ]
  refine mix_big rfl (fun K hK => ?_)
  go_wp2_with (go_at_call 19; refine (HDROP.out _ (Turns.refl _ _).drew).mono ?_; rintro e wi ⟨vi, rfl, hsi, hni, hti⟩; have HTi := Lib.hid ((Turns.refl nobody wh).drew.trans hti (fun _ h => False.elim h)); obtain ⟨aoi, capi, rfl, _⟩ := (show Sl _ _ _ _ _ _ from hsi).shape; have HSi := Lib.hid hsi; have HNi := Lib.hid hni; clear hsi hni hti)
  refine hK _ _ (fun _ => HTi.out) ?_
  clear hK K
  iterate 2 (refine mix_free (v := ?_) rfl ?_ ?_; rotate_left; (focus (intro w' hI; go_simp; try with_reducible rfl)); simp only [Act.put, List.setIfInBounds_toArray, List.set_cons_zero, List.set_cons_succ])
  obtain ⟨d9, f9, _⟩ := HXF.out _ HTi.out
  have HXLh := Lib.hid (lt_of_block HDh.out.hp)
  have HNi' : Hid (∀ i, blk (.slice aoi (dropL P id).length capi) i → i ≠ X) := Lib.hid (new_ne (w := wh) HXLh.out HNi.out)
  have HDz := Lib.hid (HDh.out.put3 HTi.out (fun h => h) (fun _ _ h => h) (fun _ _ h => h) HSi.out HNi'.out)
  have HTz : Hid (Turns (fun i => i = X) wh (wi.setCell ⟨X, 3, none⟩ (.slice aoi (dropL P id).length capi))) := Lib.hid ((HTi.out.mono (fun _ h => False.elim h)).trans (Turns.set _ _ _ _) (fun _ h => Or.inl h))
  refine mix_big rfl (fun K hK => ?_)
  go_wp2
  obtain ⟨wz, hwz⟩ : ∃ wz, wz = wi.setCell ⟨X, 3, none⟩ (.slice aoi (dropL P id).length capi) := ⟨_, rfl⟩
  rw [← hwz] at HDz HTz ⊢
  refine hK _ _ (fun h => by cases h) ?_
  clear hK K d9 f9 hwz
  refine mix_nil ?_
  go_wp2
  go_ret
  have hdz := HDz.out
  rw [HE1.out, HE2.out] at hdz
  have t0 : Turns nobody w wf := HTA.out.trans HTf.out (fun _ h => False.elim h)
  refine ⟨rfl, HC.out.done hdz (((t0.mono (fun _ h => False.elim h)).trans HTfh.out (fun _ h => Or.inl h)).trans HTz.out (fun _ h => Or.inl h)) (fun i hi => Or.inr ?_) (fun i hi => Or.inr ?_) (fun i hi => Or.inr ?_)⟩
  · exact Nat.le_trans t0.size (HN9f.out i hi)
  · exact Nat.le_trans t0.size (Nat.le_trans HTg.out.size (HN9g.out i hi))
  · exact Nat.le_trans t0.size (Nat.le_trans HTfh.out.size (HNi.out i hi))

set_option maxRecDepth 10000 in
set_option maxHeartbeats 2000000 in
theorem use_ref_yes {X : Nat} {q : Int} {E : Held} {P : List (List Int)} {v1 v2 v3 : Value} {w : World} (hc : RefC X q (ids E) (bodies E) P v1 v2 v3 w) (hw : Wh (ids E)) (hnd : (ids E).Nodup) (hwp : Wh P) (hl0 : E.length ≤ 1000) (hpl : P.length ≤ 1000) (id : List Int) (hid : id.length = 32) (hm : id ∈ ids E) :
    Calls Tryd.prog 43 #[.pointer (some ⟨X, 0, none⟩), .agg (idc id).toArray] w fun e w' => e = .returned (.int .i64 0) ∧ Step (rfoot X v1 v2 v3) (RefAt X q (dropE E id ++ [(id, (en E (placeE E id)).2)]) (P)) w w' := by
  have hl : E.length ≤ 1024 := by omega
  obtain ⟨i0, hi, hz0, hz1, hz2⟩ := infoIds_parts
  obtain ⟨k0, ki, kz0, kz1, kz2⟩ := infoStr_parts
  obtain ⟨wa, hwa⟩ : ∃ wa, wa = w.alloc (.cells (idc id).toArray 31) := ⟨_, rfl⟩
  have ta : Turns nobody w wa := by rw [hwa]; exact (Turns.refl _ _).alloc _
  obtain ⟨B, hB⟩ : ∃ B, w.heap.size = B := ⟨_, rfl⟩
  have hba : wa.heap[B]? = some (.cells (idc id).toArray 31 (0, 0)) := by rw [hwa, ← hB]; exact heap_alloc_new w _
  have HBA := Lib.hid hba
  have ha := hc.still ta
  have HWA := Lib.hid hwa
  have HB := Lib.hid hB
  have HC := Lib.hid hc
  have HTA := Lib.hid ta
  have RI := Lib.hid (range_of hba)
  have SX := Lib.hid (sizeId hid)
  have hf := find_ref ha hw (by rw [ids_len]; exact hl) id hid
  obtain ⟨body, hbody⟩ : ∃ b, (en E (placeE E id)).2 = b := ⟨_, rfl⟩
  have hlk : (bodies E).getD (placeE E id) ⟨#[]⟩ = body := by rw [List.getD, bodies_get E (place_lt hm), ← hbody]; rfl
  rw [hbody]
  have hkl := place_lt hm
  have hkid := place_id hkl
  unfold findI at hf
  rw [if_pos hm, show idxX (ids E) id = placeE E id from rfl] at hf
  obtain ⟨x, hx⟩ : ∃ x, ids E = x := ⟨_, rfl⟩
  obtain ⟨l, hll⟩ : ∃ l, bodies E = l := ⟨_, rfl⟩
  have hxl : E.length = x.length := by rw [← hx, ids_len]
  have hbl : E.length = l.length := by rw [← hll, bodies_len]
  obtain ⟨k, hk⟩ : ∃ k, placeE E id = k := ⟨_, rfl⟩
  rw [hk] at hf hkl hkid hlk
  rw [hll] at hlk
  have HLK := Lib.hid hlk
  clear hlk hbody
  have HKs1 : Hid (k < x.length) := Lib.hid (by omega)
  have HKs2 : Hid (k < l.length) := Lib.hid (by omega)
  have hx1k : x.length ≤ 1024 := by omega
  have hl1k : l.length ≤ 1024 := by omega
  have hk1k : (k : Int) + 1 ≤ 1025 := by omega
  have HKW : Hid (IntKind.i64.wrap ((k : Int) + 1) = ((k + 1 : Nat) : Int)) := Lib.hid (by rw [IntKind.wrap_i64]; omega)
  have HW : Hid (Wh x) := Lib.hid (by rw [← hx]; exact hw)
  have hdr := dropE_place hnd hkl
  rw [hkid] at hdr
  have HE1 : Hid (x.take k ++ x.drop (k + 1) = ids (dropE E id)) := Lib.hid (by rw [hdr, ← hx]; unfold ids; simp [List.map_take, List.map_drop])
  have HE2 : Hid (l.take k ++ l.drop (k + 1) = bodies (dropE E id)) := Lib.hid (by rw [hdr, ← hll]; unfold bodies; simp [List.map_take, List.map_drop])
  have hca := ha
  rw [hx, hll] at hca
  have HCA := Lib.hid hca
  clear hwa ta hba ha hc hm hB hw hkl hkid hdr hca hnd
  go_enter Tryd.func43, Tryd.ntmps43
  go_upto_region 1 with fail
  rw [← HWA.out, HB.out]
  go_upto_region 4 with first
    | (with_reducible refine wpList_load_mid rfl _ _ rfl _ _ rfl _ _ RI.out Tryd.underlying31 rfl SX.out ?_)
    | (go_at_call 48; refine hf.mono ?_; rintro e wf ⟨rfl, t1⟩; have HDf := Lib.hid (HCA.out.still t1); have HTf := Lib.hid t1; clear t1)
  have s2 := HDf.out.s2
  obtain ⟨ab, cb, rfl, _⟩ := (show Sl _ _ _ _ _ _ from s2).shape
  obtain ⟨gb, ob, rfl, rb⟩ := SSl.reads s2 k HKs2.out
  have r := rb wf (Turns.refl _ _)
  rw [HLK.out] at r
  have c2 : wf.cell? ⟨X, 2, none⟩ = some (.slice (some ⟨gb, ob, none⟩) l.length cb) := cells_of HDf.out.hp 2 _ rfl
  have hk2 := HKs2.out
  clear s2 rb
  go_upto_region 5 with fail
  clear r c2 hk2
  obtain ⟨v2, hv2⟩ : ∃ v2, v2 = Value.slice (some ⟨gb, ob, none⟩) l.length cb := ⟨_, rfl⟩
  rw [← hv2] at HDf ⊢
  clear hv2
  have hsrcf := cut_src (show Sl _ _ _ _ _ _ from HDf.out.s1) (icells_one _) (i := k) HKs1.out
  obtain ⟨gf, of, capf, a1f, a2f, hvf, hncf, hcmf, ha1f, ha2f, hs1f, hs2f⟩ := hsrcf
  subst hvf
  have HA1f := Lib.hid ha1f
  have HA2f := Lib.hid ha2f
  have HQ1f := Lib.hid hs1f
  have HQ2f := Lib.hid hs2f
  have HNCf : Hid (k ≤ capf ∧ k + 1 ≤ x.length) := Lib.hid ⟨by have := HKs1.out; omega, by have := HKs1.out; omega⟩
  have HXFf : Hid (∀ W, Turns nobody wf W → W.cell? ⟨X, 1, none⟩ = some (.slice (some ⟨gf, of, none⟩) x.length capf) ∧ W.frozen? ⟨X, 1, none⟩ = false) := Lib.hid fun W ht => ⟨cells_of (HDf.out.still ht).hp 1 _ rfl, free_of (HDf.out.still ht).hp 1⟩
  have HXLf := Lib.hid (lt_of_block HDf.out.hp)
  clear ha1f ha2f hs1f hs2f hncf hcmf
  refine wp_region_mix [(0, true, true), (2, true, true), (3, true, true), (4, true, true), (5, true, true), (6, true, true), (7, true, true), (9, true, true), (10, true, true), (11, true, true), (12, true, true), (13, true, true), (14, true, true), (15, true, true), (1, false, true), (8, false, true), (16, false, true), (17, true, true), (18, true, true), (19, false, false)] (fun W => Turns nobody wf W) (by kernel_rfl) (by kernel_rfl) ((Turns.refl nobody wf).drew) ?_
  simp only [picked, List.filterMap_cons, List.filterMap_nil, List.getElem?_toArray, List.getElem?_cons_zero, List.getElem?_cons_succ, Option.map_some]
  iterate 5 (refine mix_free (v := ?_) rfl ?_ ?_; rotate_left; (focus (intro w' hI; have d := (HXFf.out _ hI).1; clear hI; go_simp; try with_reducible rfl)); simp only [Act.put, List.setIfInBounds_toArray, List.set_cons_zero, List.set_cons_succ])
  iterate 1 (refine mix_free (v := ?_) rfl ?_ ?_; rotate_left; (focus (intro w' hI; go_simp; try with_reducible rfl)); simp only [Act.put, List.setIfInBounds_toArray, List.set_cons_zero, List.set_cons_succ])
  refine mix_free (v := .slice a1f k capf) rfl (fun w' hI => exec_hiId _ _ rfl _ _ _ _ _ rfl rfl HNCf.out.1 HA1f.out) ?_
  simp only [Act.put, List.setIfInBounds_toArray, List.set_cons_zero, List.set_cons_succ]
  iterate 6 (refine mix_free (v := ?_) rfl ?_ ?_; rotate_left; (focus (intro w' hI; have d := (HXFf.out _ hI).1; clear hI; go_simp; try with_reducible rfl)); simp only [Act.put, List.setIfInBounds_toArray, List.set_cons_zero, List.set_cons_succ])
  refine mix_free (v := .slice a2f (x.length - (k + 1)) (capf - (k + 1))) rfl (fun w' hI => exec_loId _ _ rfl _ _ _ _ (k + 1) rfl _ rfl HKW.out HNCf.out.2 HA2f.out) ?_
  simp only [Act.put, List.setIfInBounds_toArray, List.set_cons_zero, List.set_cons_succ]
  refine mix_big rfl (fun K hK => ?_)
  go_wp2
  have tef : Turns nobody wf (wf.drew.alloc (.cells #[] 31)) := (Turns.refl _ _).drew.alloc _
  have HEf := Lib.hid (Sl.empty (sz := 32) (heap_alloc_new wf.drew (.cells #[] 31)) (Nat.zero_le _))
  have HTEf := Lib.hid tef
  refine hK _ _ (fun _ => tef) ?_
  clear hK K tef
  refine mix_big rfl (fun K hK => ?_)
  go_wp2_with (at_builtin; refine wpList_append_sl rfl _ _ 36 rfl Tryd.underlying36 hi hz0 hz1 hz2 (by rw [Value.cells]; simp [idc_len, zid_len]) (by decide) rfl rfl HEf.out (HQ1f.out.keep HTEf.out (fun _ _ h => h)) (by unfold maxLen; omega) (by omega) ?_)
  intro v8f w8f h8f _ n8f c8f
  try simp only [Nat.zero_add, List.nil_append] at h8f
  have t8f : Turns nobody wf w8f := HTEf.out.trans (c8f _ rfl).1 (fun _ h => False.elim h)
  have HN8f : Hid (∀ j, blk v8f j → wf.heap.size ≤ j) := Lib.hid fun j hj => by
    rcases n8f j hj with h | h
    · have := blk_slice h; try simp at this
      omega
    · exact Nat.le_trans HTEf.out.size h
  have HT8f := Lib.hid t8f
  have HS8f := Lib.hid h8f
  refine hK _ _ (fun _ => t8f) ?_
  clear hK K t8f h8f n8f c8f
  refine mix_big rfl (fun K hK => ?_)
  go_wp2_with (at_builtin; refine wpList_append_sl rfl _ _ 36 rfl Tryd.underlying36 hi hz0 hz1 hz2 (by rw [Value.cells]; simp [idc_len, zid_len]) (by decide) rfl rfl HS8f.out (HQ2f.out.keep HT8f.out (fun _ _ h => h)) (by unfold maxLen; omega) (by omega) ?_)
  intro v9f w9f h9f t9f n9f _
  have t9nf : Turns nobody wf w9f := HT8f.out.trans t9f (fun j hj => Or.inr (HN8f.out j hj))
  have HN9f : Hid (∀ j, blk v9f j → wf.heap.size ≤ j) := Lib.hid fun j hj => by
    rcases n9f j hj with h | h
    · exact HN8f.out j h
    · exact Nat.le_trans HT8f.out.size h
  have HS9f : Hid (ISl w9f v9f (x.take k ++ x.drop (k + 1))) := Lib.hid (by
    unfold ISl
    rw [take_drop_len _ HKs1.out, ← icells_cut HW.out k]
    first
      | exact h9f
      | simpa using h9f)
  obtain ⟨ao9f, cap9f, hv9f, _⟩ := (show Sl _ _ _ _ _ _ from h9f).shape
  subst hv9f
  have HT9f := Lib.hid t9nf
  have HDg := Lib.hid (HDf.out.put1 HT9f.out (fun h => h) (fun _ _ h => h) (fun _ _ h => h) HS9f.out (new_ne HXLf.out HN9f.out))
  have HTg : Hid (Turns (fun i => i = X) wf (w9f.setCell ⟨X, 1, none⟩ (.slice ao9f (k + (x.length - (k + 1))) cap9f))) := Lib.hid ((HT9f.out.mono (fun _ h => False.elim h)).trans (Turns.set _ _ _ _) (fun _ h => Or.inl h))
  obtain ⟨d9f, f9f⟩ := HXFf.out _ HT9f.out
  refine hK _ _ (fun _ => HT9f.out) ?_
  clear hK K t9f t9nf h9f n9f
  iterate 2 (refine mix_free (v := ?_) rfl ?_ ?_; rotate_left; (focus (intro w' hI; go_simp; try with_reducible rfl)); simp only [Act.put, List.setIfInBounds_toArray, List.set_cons_zero, List.set_cons_succ])
  refine mix_big rfl (fun K hK => ?_)
  go_wp2
  obtain ⟨wg, hwg⟩ : ∃ wg, wg = w9f.setCell ⟨X, 1, none⟩ (.slice ao9f (k + (x.length - (k + 1))) cap9f) := ⟨_, rfl⟩
  rw [← hwg] at HDg HTg ⊢
  refine hK _ _ (fun h => by cases h) ?_
  clear hK K d9f f9f hwg
  refine mix_nil ?_
  go_upto_region 6 with fail
  have hsrcg := cut_src (show Sl _ _ _ _ _ _ from HDg.out.s2) (strs_one _) (i := k) HKs2.out
  obtain ⟨gg, og, capg, a1g, a2g, hvg, hncg, hcmg, ha1g, ha2g, hs1g, hs2g⟩ := hsrcg
  subst hvg
  have HA1g := Lib.hid ha1g
  have HA2g := Lib.hid ha2g
  have HQ1g := Lib.hid hs1g
  have HQ2g := Lib.hid hs2g
  have HNCg : Hid (k ≤ capg ∧ k + 1 ≤ l.length) := Lib.hid ⟨by have := HKs2.out; omega, by have := HKs2.out; omega⟩
  have HXFg : Hid (∀ W, Turns nobody wg W → W.cell? ⟨X, 2, none⟩ = some (.slice (some ⟨gg, og, none⟩) l.length capg) ∧ W.frozen? ⟨X, 2, none⟩ = false) := Lib.hid fun W ht => ⟨cells_of (HDg.out.still ht).hp 2 _ rfl, free_of (HDg.out.still ht).hp 2⟩
  have HXLg := Lib.hid (lt_of_block HDg.out.hp)
  clear ha1g ha2g hs1g hs2g hncg hcmg
  refine wp_region_mix [(0, true, true), (2, true, true), (3, true, true), (4, true, true), (5, true, true), (6, true, true), (7, true, true), (9, true, true), (10, true, true), (11, true, true), (12, true, true), (13, true, true), (14, true, true), (15, true, true), (1, false, true), (8, false, true), (16, false, true), (17, true, true), (18, true, true), (19, false, false)] (fun W => Turns nobody wg W) (by kernel_rfl) (by kernel_rfl) ((Turns.refl nobody wg).drew) ?_
  simp only [picked, List.filterMap_cons, List.filterMap_nil, List.getElem?_toArray, List.getElem?_cons_zero, List.getElem?_cons_succ, Option.map_some]
  iterate 5 (refine mix_free (v := ?_) rfl ?_ ?_; rotate_left; (focus (intro w' hI; have d := (HXFg.out _ hI).1; clear hI; go_simp; try with_reducible rfl)); simp only [Act.put, List.setIfInBounds_toArray, List.set_cons_zero, List.set_cons_succ])
  iterate 1 (refine mix_free (v := ?_) rfl ?_ ?_; rotate_left; (focus (intro w' hI; go_simp; try with_reducible rfl)); simp only [Act.put, List.setIfInBounds_toArray, List.set_cons_zero, List.set_cons_succ])
  refine mix_free (v := .slice a1g k capg) rfl (fun w' hI => exec_hiSt _ _ rfl _ _ _ _ _ rfl rfl HNCg.out.1 HA1g.out) ?_
  simp only [Act.put, List.setIfInBounds_toArray, List.set_cons_zero, List.set_cons_succ]
  iterate 6 (refine mix_free (v := ?_) rfl ?_ ?_; rotate_left; (focus (intro w' hI; have d := (HXFg.out _ hI).1; clear hI; go_simp; try with_reducible rfl)); simp only [Act.put, List.setIfInBounds_toArray, List.set_cons_zero, List.set_cons_succ])
  refine mix_free (v := .slice a2g (l.length - (k + 1)) (capg - (k + 1))) rfl (fun w' hI => exec_loSt _ _ rfl _ _ _ _ (k + 1) rfl _ rfl HKW.out HNCg.out.2 HA2g.out) ?_
  simp only [Act.put, List.setIfInBounds_toArray, List.set_cons_zero, List.set_cons_succ]
  refine mix_big rfl (fun K hK => ?_)
  go_wp2
  have teg : Turns nobody wg (wg.drew.alloc (.cells #[] 9)) := (Turns.refl _ _).drew.alloc _
  have HEg := Lib.hid (Sl.empty (sz := 1) (heap_alloc_new wg.drew (.cells #[] 9)) (Nat.zero_le _))
  have HTEg := Lib.hid teg
  refine hK _ _ (fun _ => teg) ?_
  clear hK K teg
  refine mix_big rfl (fun K hK => ?_)
  go_wp2_with (at_builtin; refine wpList_append_sl rfl _ _ 45 rfl Tryd.underlying45 ki kz0 kz1 kz2 rfl (by decide) rfl rfl HEg.out (HQ1g.out.keep HTEg.out (fun _ _ h => h)) (by unfold maxLen; omega) (by omega) ?_)
  intro v8g w8g h8g _ n8g c8g
  try simp only [Nat.zero_add, List.nil_append] at h8g
  have t8g : Turns nobody wg w8g := HTEg.out.trans (c8g _ rfl).1 (fun _ h => False.elim h)
  have HN8g : Hid (∀ j, blk v8g j → wg.heap.size ≤ j) := Lib.hid fun j hj => by
    rcases n8g j hj with h | h
    · have := blk_slice h; try simp at this
      omega
    · exact Nat.le_trans HTEg.out.size h
  have HT8g := Lib.hid t8g
  have HS8g := Lib.hid h8g
  refine hK _ _ (fun _ => t8g) ?_
  clear hK K t8g h8g n8g c8g
  refine mix_big rfl (fun K hK => ?_)
  go_wp2_with (at_builtin; refine wpList_append_sl rfl _ _ 45 rfl Tryd.underlying45 ki kz0 kz1 kz2 rfl (by decide) rfl rfl HS8g.out (HQ2g.out.keep HT8g.out (fun _ _ h => h)) (by unfold maxLen; omega) (by omega) ?_)
  intro v9g w9g h9g t9g n9g _
  have t9ng : Turns nobody wg w9g := HT8g.out.trans t9g (fun j hj => Or.inr (HN8g.out j hj))
  have HN9g : Hid (∀ j, blk v9g j → wg.heap.size ≤ j) := Lib.hid fun j hj => by
    rcases n9g j hj with h | h
    · exact HN8g.out j h
    · exact Nat.le_trans HT8g.out.size h
  have HS9g : Hid (SSl w9g v9g (l.take k ++ l.drop (k + 1))) := Lib.hid (by
    unfold SSl
    rw [take_drop_len _ HKs2.out, ← strs_cut l k]
    first
      | exact h9g
      | simpa using h9g)
  obtain ⟨ao9g, cap9g, hv9g, _⟩ := (show Sl _ _ _ _ _ _ from h9g).shape
  subst hv9g
  have HT9g := Lib.hid t9ng
  have HDh := Lib.hid (HDg.out.put2 HT9g.out (fun h => h) (fun _ _ h => h) (fun _ _ h => h) HS9g.out (new_ne HXLg.out HN9g.out))
  have HTh : Hid (Turns (fun i => i = X) wg (w9g.setCell ⟨X, 2, none⟩ (.slice ao9g (k + (l.length - (k + 1))) cap9g))) := Lib.hid ((HT9g.out.mono (fun _ h => False.elim h)).trans (Turns.set _ _ _ _) (fun _ h => Or.inl h))
  obtain ⟨d9g, f9g⟩ := HXFg.out _ HT9g.out
  refine hK _ _ (fun _ => HT9g.out) ?_
  clear hK K t9g t9ng h9g n9g
  iterate 2 (refine mix_free (v := ?_) rfl ?_ ?_; rotate_left; (focus (intro w' hI; go_simp; try with_reducible rfl)); simp only [Act.put, List.setIfInBounds_toArray, List.set_cons_zero, List.set_cons_succ])
  refine mix_big rfl (fun K hK => ?_)
  go_wp2
  obtain ⟨wh, hwh⟩ : ∃ wh, wh = w9g.setCell ⟨X, 2, none⟩ (.slice ao9g (k + (l.length - (k + 1))) cap9g) := ⟨_, rfl⟩
  rw [← hwh] at HDh HTh ⊢
  refine hK _ _ (fun h => by cases h) ?_
  clear hK K d9g f9g hwh
  refine mix_nil ?_
  go_upto_region 7 with fail
  have HTfh : Hid (Turns (fun i => i = X) wf wh) := Lib.hid (HTg.out.trans HTh.out (fun _ h => Or.inl h))
  have HXLf := HXLf
  have HXB : Hid (¬ B = X) := Lib.hid (fun e => by have := lt_of_block HC.out.hp; have := HB.out; omega)
  have HBh := Lib.hid (heap_newer (heap_newer HBA.out HTf.out (fun h => h)) HTfh.out HXB.out)
  have HBl : Hid (B < wf.heap.size) := Lib.hid (lt_of_block (heap_newer HBA.out HTf.out (fun h => h)))
  have s1h := HDh.out.s1
  rw [HE1.out] at s1h
  have hle1 : k + (x.length - (k + 1)) = (ids (dropE E id)).length := by rw [← HE1.out, take_drop_len _ HKs1.out]
  have hle2 : k + (l.length - (k + 1)) = (bodies (dropE E id)).length := by rw [← HE2.out, take_drop_len _ HKs2.out]
  rw [hle1] at s1h HN9f
  rw [hle1, hle2] at HDh
  rw [hle2] at HN9g
  rw [hle1, hle2]
  clear hle1 hle2
  have c1 : wh.drew.cell? ⟨X, 1, none⟩ = some (.slice ao9f (ids (dropE E id)).length cap9f) := cells_of HDh.out.hp 1 _ rfl
  have hlen : (ids (dropE E id)).length ≤ 1000 := by rw [ids_len]; exact Nat.le_trans (dropE_len E id) hl0
  have HS1h := Lib.hid s1h
  have HBS := Lib.hid slice_id
  obtain ⟨xe, hxe⟩ : ∃ xe, ids (dropE E id) = xe := ⟨_, rfl⟩
  rw [hxe] at HS1h hlen c1 HDh HN9f ⊢
  have HXE := Lib.hid hxe
  clear s1h hxe
  obtain ⟨wk, hwk⟩ : ∃ wk, wk = (wh.alloc (.cells (idc id).toArray 31)).drew := ⟨_, rfl⟩
  have tk : Turns nobody wh wk := by rw [hwk]; exact ((Turns.refl _ _).alloc _).drew
  have HQk := Lib.hid (src_one (id := id) (by rw [hwk]; exact heap_alloc_new wh _ : wk.heap[wh.heap.size]? = _) hid)
  have HSk := Lib.hid (Sl.keep HS1h.out tk (fun _ _ h => h))
  have HTk := Lib.hid tk
  have HWk := Lib.hid hwk
  have hIk : wk.cell? ⟨X, 1, none⟩ = some (.slice ao9f xe.length cap9f) ∧ wk.rangeAt B 0 (idc id) := ⟨cells_of (HDh.out.still tk).hp 1 _ rfl, range_of (heap_newer HBh.out tk (fun h => h))⟩
  have HIk := Lib.hid hIk
  clear hwk tk hIk
  refine wp_region_mix [(0, true, true), (1, true, true), (2, true, true), (3, true, true), (4, true, true), (5, true, true), (6, false, true), (7, false, true), (8, true, true), (9, true, true), (10, false, false)] (fun W => W.cell? ⟨X, 1, none⟩ = some (.slice ao9f xe.length cap9f) ∧ W.rangeAt B 0 (idc id)) (by kernel_rfl) (by kernel_rfl) (⟨c1, range_of (w := wh.drew) HBh.out⟩) ?_
  simp only [picked, List.filterMap_cons, List.filterMap_nil, List.getElem?_toArray, List.getElem?_cons_zero, List.getElem?_cons_succ, Option.map_some]
  iterate 5 (refine mix_free (v := ?_) rfl ?_ ?_; rotate_left; (focus (intro w' hI; obtain ⟨z1, z2⟩ := hI; go_simp; try with_reducible rfl)); simp only [Act.put, List.setIfInBounds_toArray, List.set_cons_zero, List.set_cons_succ])
  refine mix_free (v := .agg (idc id).toArray) rfl (fun w' hI => exec_load_mid _ _ rfl _ _ rfl (idc id) _ hI.2 Tryd.underlying31 rfl SX.out) ?_
  simp only [Act.put, List.setIfInBounds_toArray, List.set_cons_zero, List.set_cons_succ]
  refine mix_big rfl (fun K hK => ?_)
  go_wp2_with (with_reducible refine wpList_build_run rfl _ _ _ rfl #[(0, .agg (idc id).toArray)] (by kernel_rfl) (HBS.out _ hid _) ?_)
  rw [← HWk.out]
  refine hK _ _ (fun _ => HIk.out) ?_
  clear hK K c1
  refine mix_big rfl (fun K hK => ?_)
  go_wp2_with (at_builtin; refine wpList_append_sl rfl _ _ 36 rfl Tryd.underlying36 hi hz0 hz1 hz2 (by rw [Value.cells]; simp [idc_len, zid_len]) (by decide) rfl rfl HSk.out HQk.out (by unfold maxLen; omega) (by omega) ?_)
  intro vm0 wm hm tm nm _
  obtain ⟨aom, capm, rfl, _⟩ := (show Sl _ _ _ _ _ _ from hm).shape
  have tm' : Turns (blk (.slice ao9f xe.length cap9f)) wk wm := tm
  have HSm : Hid (ISl wm (.slice aom (xe.length + 1) capm) (xe ++ [id])) := Lib.hid (by unfold ISl; rw [List.length_append, List.length_singleton, icells_append]; exact hm)
  have HNm : Hid (∀ i, blk (.slice aom (xe.length + 1) capm) i → wf.heap.size ≤ i) := Lib.hid (fun i hb => by
    rcases nm i hb with h | h
    · exact HN9f.out i h
    · exact Nat.le_trans HTfh.out.size (Nat.le_trans HTk.out.size h))
  have HGm : Hid (∀ i, blk (.slice ao9f xe.length cap9f) i → wf.heap.size ≤ i) := Lib.hid (fun i hb => HN9f.out i hb)
  have HTm : Hid (Turns (blk (.slice ao9f xe.length cap9f)) wh wm) := Lib.hid ((HTk.out.mono (fun _ h => False.elim h)).trans tm' (fun _ h => Or.inl h))
  have HXG : Hid (¬ blk (.slice ao9f xe.length cap9f) X) := Lib.hid (fun h => by have := HGm.out X h; have := HXLf.out; omega)
  have hI9 : wm.cell? ⟨X, 1, none⟩ = some (.slice ao9f xe.length cap9f) ∧ wm.rangeAt B 0 (idc id) := ⟨cells_of (heap_newer HDh.out.hp HTm.out HXG.out) 1 _ rfl, range_of (heap_newer HBh.out HTm.out (fun h => by have := HGm.out B h; have := HBl.out; omega))⟩
  have HI9 := Lib.hid hI9
  refine hK _ _ (fun _ => hI9) ?_
  clear hK K hm tm tm' nm hI9
  iterate 2 (refine mix_free (v := ?_) rfl ?_ ?_; rotate_left; (focus (intro w' hI; obtain ⟨z1, z2⟩ := hI; go_simp; try with_reducible rfl)); simp only [Act.put, List.setIfInBounds_toArray, List.set_cons_zero, List.set_cons_succ])
  have d9 := HI9.out.1
  have f9 := free_of (heap_newer HDh.out.hp HTm.out HXG.out) 1
  have HDn := Lib.hid (HDh.out.put1 HTm.out HXG.out (fun i hi hg => by
      have h1 := HS1h.out
      obtain ⟨c, hc⟩ := ISl.elem' h1 i hg
      obtain ⟨c', hc'⟩ := SSl.elem' HDh.out.s2 i hi
      rw [hc] at hc'
      simp at hc') (fun i hi hg => by
      have h1 := HGm.out i hg
      have h2 := (show Sl _ _ _ _ _ _ from HDf.out.s3).lt i hi
      omega) HSm.out (new_ne (w := wf) HXLf.out HNm.out))
  have HTn : Hid (Turns (fun i => i = X ∨ wf.heap.size ≤ i) wh (wm.setCell ⟨X, 1, none⟩ (.slice aom (xe.length + 1) capm))) := Lib.hid ((HTm.out.mono (fun i h => Or.inl (Or.inr (HGm.out i h)))).trans (Turns.set _ _ _ _) (fun _ h => Or.inl (Or.inl h)))
  refine mix_big rfl (fun K hK => ?_)
  go_wp2
  obtain ⟨wn, hwn⟩ : ∃ wn, wn = wm.setCell ⟨X, 1, none⟩ (.slice aom (xe.length + 1) capm) := ⟨_, rfl⟩
  rw [← hwn] at HDn HTn ⊢
  refine hK _ _ (fun h => by cases h) ?_
  clear hK K d9 f9 hwn
  refine mix_nil ?_
  have hdn := HDn.out
  rw [HE2.out] at hdn
  have HDN := Lib.hid hdn
  have s2n := hdn.s2
  have e2 : wn.cell? ⟨X, 2, none⟩ = some (.slice ao9g (bodies (dropE E id)).length cap9g) := cells_of hdn.hp 2 _ rfl
  have hlen2 : (bodies (dropE E id)).length ≤ 1000 := by rw [bodies_len]; exact Nat.le_trans (dropE_len E id) hl0
  obtain ⟨le, hle⟩ : ∃ le, bodies (dropE E id) = le := ⟨_, rfl⟩
  rw [hle] at s2n hlen2 e2 HDN HN9g
  have HLE := Lib.hid hle
  obtain ⟨wo, hwo⟩ : ∃ wo, wo = wn.alloc (.cells #[.string body] 9) := ⟨_, rfl⟩
  have tO : Turns nobody wn wo := by rw [hwo]; exact (Turns.refl _ _).alloc _
  have HQo : Hid (Go.Proofs.YtjnplcajajdkiaaDoor.obj.Src wo 1 (.slice (some ⟨wn.heap.size, 0, none⟩) 1 1) 1 [.string body]) := Lib.hid ⟨rfl, (by intro u hu; rw [List.mem_singleton.1 hu]; rfl), Or.inr ⟨_, 1, rfl, fun j u hj => by
    have hj0 : j = 0 := by have := (List.getElem?_eq_some_iff.1 hj).1; simp at this; omega
    subst hj0
    have hb : wo.heap[wn.heap.size]? = some (.cells #[.string body] 9 (0, 0)) := by rw [hwo]; exact heap_alloc_new wn _
    have := range_of (cs := [.string body]) hb 0 u hj
    simpa [Addr.add] using this⟩⟩
  have HSo := Lib.hid (Sl.keep s2n tO (fun _ _ h => h))
  have HDo := Lib.hid (HDN.out.still tO)
  have HTo := Lib.hid tO
  have HWo := Lib.hid hwo
  have HNy : Hid (∀ i, blk (.slice ao9g le.length cap9g) i → wf.heap.size ≤ i) := Lib.hid (fun i hb => Nat.le_trans HTg.out.size (HN9g.out i hb))
  clear s2n hdn hle hwo tO
  go_wp2_with (at_builtin; rw [← HWo.out]; refine wpList_append_sl rfl _ _ 45 rfl Tryd.underlying45 ki kz0 kz1 kz2 rfl (by decide) rfl rfl HSo.out HQo.out (by unfold maxLen; omega) (by omega) ?_; intro vr0 wr hr tr nr _; obtain ⟨aor, capr, rfl, _⟩ := (show Sl _ _ _ _ _ _ from hr).shape; have HSr := Lib.hid hr; have HTr : Hid (Turns (blk (.slice ao9g le.length cap9g)) wo wr) := Lib.hid tr; have HNr : Hid (∀ i, blk (.slice aor (le.length + 1) capr) i → wf.heap.size ≤ i) := Lib.hid (fun i hb => by rcases nr i hb with h | h; exact HNy.out i h; exact Nat.le_trans (Nat.le_trans HTfh.out.size HTn.out.size) (Nat.le_trans HTo.out.size h)); have HXr : Hid (¬ blk (.slice ao9g le.length cap9g) X) := Lib.hid (fun h => by have := HNy.out X h; have := HXLf.out; omega); have e9 := cells_of (heap_newer HDo.out.hp HTr.out HXr.out) 2 _ rfl; have f9 := free_of (heap_newer HDo.out.hp HTr.out HXr.out) 2; clear hr tr nr)
  go_ret
  have hsr : SSl wr (.slice aor (le.length + 1) capr) (le ++ [body]) := by unfold SSl; rw [List.length_append, List.length_singleton, List.map_append]; exact HSr.out
  have hdr := HDo.out.put2 HTr.out HXr.out (fun i hi hg => by
      obtain ⟨c, hc⟩ := ISl.elem' HDo.out.s1 i hi
      obtain ⟨c', hc'⟩ := SSl.elem' HDo.out.s2 i hg
      rw [hc] at hc'
      simp at hc') (fun i hi hg => by
      have h1 := HNy.out i hg
      have h2 := (show Sl _ _ _ _ _ _ from HDf.out.s3).lt i hi
      omega) hsr (new_ne (w := wf) HXLf.out HNr.out)
  have e1 : xe ++ [id] = ids (dropE E id ++ [(id, body)]) := by rw [← HXE.out]; unfold ids; simp
  have e2' : le ++ [body] = bodies (dropE E id ++ [(id, body)]) := by rw [← HLE.out]; unfold bodies; simp
  rw [e1, e2'] at hdr
  have t0 : Turns nobody w wf := HTA.out.trans HTf.out (fun _ h => False.elim h)
  have tz : Turns (fun i => i = X) w wn := ((t0.mono (fun _ h => False.elim h)).trans HTfh.out (fun _ h => Or.inl h)).trans HTn.out (fun i h => by
    rcases h with h | h
    · exact Or.inl h
    · exact Or.inr (Nat.le_trans t0.size h))
  have tz2 : Turns (fun i => i = X) w wr := (tz.trans HTo.out (fun _ h => False.elim h)).trans HTr.out (fun i h => Or.inr (Nat.le_trans t0.size (HNy.out i h)))
  refine ⟨rfl, HC.out.done hdr (tz2.trans (Turns.set _ _ _ _) (fun _ h => Or.inl h)) (fun i hi => Or.inr ?_) (fun i hi => Or.inr ?_) (fun i hi => Or.inl hi)⟩
  · exact Nat.le_trans t0.size (HNm.out i hi)
  · exact Nat.le_trans t0.size (HNr.out i hi)

set_option maxRecDepth 10000 in
set_option maxHeartbeats 2000000 in
theorem pin_ref_yes {X : Nat} {q : Int} {E : Held} {P : List (List Int)} {v1 v2 v3 : Value} {w : World} (hc : RefC X q (ids E) (bodies E) P v1 v2 v3 w) (hw : Wh (ids E)) (hnd : (ids E).Nodup) (hwp : Wh P) (hl0 : E.length ≤ 1000) (hpl : P.length ≤ 1000) (id : List Int) (hid : id.length = 32) (hm : id ∈ ids E) :
    Calls Tryd.prog 44 #[.pointer (some ⟨X, 0, none⟩), .agg (idc id).toArray] w fun e w' => e = .returned (.int .i64 0) ∧ Step (rfoot X v1 v2 v3) (RefAt X q (E) (useL P id)) w w' := by
  have hl : E.length ≤ 1024 := by omega
  obtain ⟨i0, hi, hz0, hz1, hz2⟩ := infoIds_parts
  obtain ⟨k0, ki, kz0, kz1, kz2⟩ := infoStr_parts
  obtain ⟨wa, hwa⟩ : ∃ wa, wa = w.alloc (.cells (idc id).toArray 31) := ⟨_, rfl⟩
  have ta : Turns nobody w wa := by rw [hwa]; exact (Turns.refl _ _).alloc _
  obtain ⟨B, hB⟩ : ∃ B, w.heap.size = B := ⟨_, rfl⟩
  have hba : wa.heap[B]? = some (.cells (idc id).toArray 31 (0, 0)) := by rw [hwa, ← hB]; exact heap_alloc_new w _
  have HBA := Lib.hid hba
  have ha := hc.still ta
  have HWA := Lib.hid hwa
  have HB := Lib.hid hB
  have HC := Lib.hid hc
  have HTA := Lib.hid ta
  have RI := Lib.hid (range_of hba)
  have SX := Lib.hid (sizeId hid)
  have hf := find_ref ha hw (by rw [ids_len]; exact hl) id hid
  unfold findI at hf
  rw [if_pos hm] at hf
  have HCA := Lib.hid ha
  clear hwa ta hba ha hc hm hB hw hnd
  go_enter Tryd.func44, Tryd.ntmps44
  go_upto_region 1 with fail
  rw [← HWA.out, HB.out]
  go_upto_region 3 with first
    | (with_reducible refine wpList_load_mid rfl _ _ rfl _ _ rfl _ _ RI.out Tryd.underlying31 rfl SX.out ?_)
    | (go_at_call 48; refine hf.mono ?_; rintro e wf ⟨rfl, t1⟩; have HDf := Lib.hid (HCA.out.still t1); have HTf := Lib.hid t1; clear t1)
  have HXB : Hid (¬ B = X) := Lib.hid (fun e => by have := lt_of_block HC.out.hp; have := HB.out; omega)
  have HBh := Lib.hid (heap_newer HBA.out HTf.out (fun h => h))
  have HXF : Hid (∀ W, Turns nobody wf W → W.cell? ⟨X, 3, none⟩ = some v3 ∧ W.frozen? ⟨X, 3, none⟩ = false ∧ W.rangeAt B 0 (idc id)) := Lib.hid fun W ht => ⟨cells_of (HDf.out.still ht).hp 3 _ rfl, free_of (HDf.out.still ht).hp 3, range_of (heap_newer HBh.out ht (fun h => h))⟩
  obtain ⟨ap, cp, rfl, _⟩ := (show Sl _ _ _ _ _ _ from HDf.out.s3).shape
  have huse := fun W (ht : Turns nobody wf W) => ref_use _ P hwp id hid W (Sl.keep HDf.out.s3 ht (fun _ _ h => h)) (by omega)
  have HUSE := Lib.hid huse
  clear huse
  refine wp_region_mix [(0, true, true), (1, true, true), (2, true, true), (3, true, true), (4, true, true), (5, true, true), (6, false, true), (7, true, true), (8, true, true), (9, false, false)] (fun W => Turns nobody wf W) (by kernel_rfl) (by kernel_rfl) ((Turns.refl nobody wf).drew) ?_
  simp only [picked, List.filterMap_cons, List.filterMap_nil, List.getElem?_toArray, List.getElem?_cons_zero, List.getElem?_cons_succ, Option.map_some]
  iterate 5 (refine mix_free (v := ?_) rfl ?_ ?_; rotate_left; (focus (intro w' hI; have d := (HXF.out _ hI).1; clear hI; go_simp; try with_reducible rfl)); simp only [Act.put, List.setIfInBounds_toArray, List.set_cons_zero, List.set_cons_succ])
  refine mix_free (v := .agg (idc id).toArray) rfl (fun w' hI => exec_load_mid _ _ rfl _ _ rfl (idc id) _ (HXF.out _ hI).2.2 Tryd.underlying31 rfl SX.out) ?_
  simp only [Act.put, List.setIfInBounds_toArray, List.set_cons_zero, List.set_cons_succ]
  refine mix_big rfl (fun K hK => ?_)
  go_wp2_with (go_at_call 59; refine (HUSE.out _ (Turns.refl _ _).drew).mono ?_; rintro e wi ⟨vi, rfl, hsi, hni, hti⟩; have HTi := Lib.hid ((Turns.refl nobody wf).drew.trans hti (fun _ h => False.elim h)); obtain ⟨aoi, capi, rfl, _⟩ := (show Sl _ _ _ _ _ _ from hsi).shape; have HSi := Lib.hid hsi; have HNi := Lib.hid hni; clear hsi hni hti)
  refine hK _ _ (fun _ => HTi.out) ?_
  clear hK K
  iterate 2 (refine mix_free (v := ?_) rfl ?_ ?_; rotate_left; (focus (intro w' hI; go_simp; try with_reducible rfl)); simp only [Act.put, List.setIfInBounds_toArray, List.set_cons_zero, List.set_cons_succ])
  obtain ⟨d9, f9, _⟩ := HXF.out _ HTi.out
  have HXLf := Lib.hid (lt_of_block HDf.out.hp)
  have HNi' : Hid (∀ i, blk (.slice aoi (useL P id).length capi) i → i ≠ X) := Lib.hid (new_ne (w := wf) HXLf.out HNi.out)
  have HDz := Lib.hid (HDf.out.put3 HTi.out (fun h => h) (fun _ _ h => h) (fun _ _ h => h) HSi.out HNi'.out)
  have HTz : Hid (Turns (fun i => i = X) wf (wi.setCell ⟨X, 3, none⟩ (.slice aoi (useL P id).length capi))) := Lib.hid ((HTi.out.mono (fun _ h => False.elim h)).trans (Turns.set _ _ _ _) (fun _ h => Or.inl h))
  refine mix_big rfl (fun K hK => ?_)
  go_wp2
  obtain ⟨wz, hwz⟩ : ∃ wz, wz = wi.setCell ⟨X, 3, none⟩ (.slice aoi (useL P id).length capi) := ⟨_, rfl⟩
  rw [← hwz] at HDz HTz ⊢
  refine hK _ _ (fun h => by cases h) ?_
  clear hK K d9 f9 hwz
  refine mix_nil ?_
  go_wp2
  go_ret
  have t0 : Turns nobody w wf := HTA.out.trans HTf.out (fun _ h => False.elim h)
  refine ⟨rfl, HC.out.done HDz.out ((t0.mono (fun _ h => False.elim h)).trans HTz.out (fun _ h => Or.inl h)) (fun i hi => Or.inl hi) (fun i hi => Or.inl hi) (fun i hi => Or.inr ?_)⟩
  exact Nat.le_trans t0.size (HNi.out i hi)

end Go.Proofs.YtjnplcajajdkiaaDoor.store
