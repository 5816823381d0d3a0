/- The reference's journal: Sync, Crash. -/
import Derived.Test.YtlhcmgjkhkcgcaaDoorRefJ
namespace Go.Proofs.YtlhcmgjkhkcgcaaDoor.journal
open Go.RowKit
open Go.Proofs.YtlhcmgjkhkcgcaaDoor.stepkit Go.Proofs.YtlhcmgjkhkcgcaaDoor.obj Go.Proofs.YtlhcmgjkhkcgcaaDoor.row Go.Proofs.YtlhcmgjkhkcgcaaDoor.mix Go.Proofs.YtlhcmgjkhkcgcaaDoor.idkit Go.Proofs.YtlhcmgjkhkcgcaaDoor.bytes Go.Proofs.YtlhcmgjkhkcgcaaDoor.octet Go.Proofs.YtlhcmgjkhkcgcaaDoor.eqkit Go.Proofs.YtlhcmgjkhkcgcaaDoor.record
open Go.Proofs.YtlhcmgjkhkcgcaaDoor.block (BlockAt keepOf keepOf_le keepOf_ge RefAt txt txt_take)

set_option maxRecDepth 10000 in
set_option maxHeartbeats 1000000 in
theorem refsync_any (X : Nat) (T : TypeId) (o : Nat) (cur : Array Value) (S : ByteArray) (sb : Nat) (v : Value) (rl : List RV) (sn : Nat) (w : World) (h : RJ w X T o cur S sb v rl sn) (hT : T ≠ 23) (hrl : rl.length ≤ 1000000000) (hsn : sn ≤ 1000000000) :
    Calls Tryd.prog 36 #[.pointer (some ⟨X, o, none⟩)] w fun e w' => e = .returned (.int .i64 ((rl.length : Int) - sn)) ∧ ∃ cur', RJ w' X T o cur' S S.size v rl rl.length ∧ Outs o cur cur' ∧ Turns (fun i => i = X) w w' := by
  have HJ := Lib.hid h
  obtain ⟨ao, cap, rfl, -⟩ := Sl.shape h.s
  have hwr : IntKind.i64.wrap ((rl.length : Int) - (sn : Int)) = (rl.length : Int) - sn := IntWalk.i64_in _ (by omega)
  have HNX := Lib.hid (sl_not h.s h.h hT)
  clear h
  go_enter Tryd.func36, Tryd.ntmps36
  go_upto_region 1 with fail
  refine wp_region_mix [(0, true, true), (1, true, true), (2, true, true), (3, true, true), (4, true, true), (5, true, true), (6, true, true), (7, true, true), (8, true, true), (9, true, true), (10, true, true)] (fun W => W.heap[X]? = some (.cells cur T (0, 0))) (by kernel_rfl) (by kernel_rfl) (HJ.out.h) ?_
  simp only [picked, List.filterMap_cons, List.filterMap_nil, List.getElem?_toArray, List.getElem?_cons_zero, List.getElem?_cons_succ, Option.map_some]
  repeat (refine mix_free (v := ?_) rfl ?_ ?_; rotate_left; (focus (intro w' hI; have e2 := cells_of hI (o + 2) _ HJ.out.c2; have e3 := cells_of hI (o + 3) _ HJ.out.c3; clear hI; go_simp; try with_reducible rfl)); simp only [Act.put, List.setIfInBounds_toArray, List.set_cons_zero, List.set_cons_succ])
  refine mix_nil ?_
  obtain ⟨w1, hw1⟩ : ∃ w1, w1 = w.drew := ⟨_, rfl⟩
  have t1 : Turns nobody w w1 := by rw [hw1]; exact (Turns.refl _ _).drew
  rw [← hw1]
  have hj1 := HJ.out.still t1
  have c0 := cells_of hj1.h o _ hj1.c0
  have c1 := cells_of hj1.h (o + 1) _ hj1.c1
  have f1 := free_of hj1.h (o + 1)
  obtain ⟨w2, hw2⟩ : ∃ w2, w2 = w1.setCell ⟨X, o + 1, none⟩ (.int .i64 (S.size : Int)) := ⟨_, rfl⟩
  have t2 : Turns (fun i => i = X) w1 w2 := by rw [hw2]; exact Turns.set _ _ _ _
  have h2 : w2.heap[X]? = some (.cells (cur.setIfInBounds (o + 1) (.int .i64 (S.size : Int))) T (0, 0)) := by rw [hw2]; exact heap_setCell_at hj1.h (o + 1) _
  have HJ2 : Hid (RJ w2 X T o (cur.setIfInBounds (o + 1) (.int .i64 (S.size : Int))) S S.size (.slice ao rl.length cap) rl sn) := Lib.hid ⟨h2, get_other hj1.c0 (by omega), get_set hj1.c1, get_other hj1.c2 (by omega), get_other hj1.c3 (by omega), Sl.keep hj1.s t2 (fun i hi e => HNX.out i hi e)⟩
  have HTT := Lib.hid ((t1.mono (G := fun i => i = X) (fun _ h => h.elim)).trans t2 (fun _ h => Or.inl h))
  have HW2 := Lib.hid hw2
  clear hw1 t1 hj1 hw2 t2 h2
  go_upto_region 3 with fail
  rw [← HW2.out]
  clear c0 c1 f1
  have c2 := cells_of HJ2.out.h (o + 2) _ HJ2.out.c2
  have c3 := cells_of HJ2.out.h (o + 3) _ HJ2.out.c3
  have f3 := free_of HJ2.out.h (o + 3)
  have HO1 : Hid (Outs o cur (cur.setIfInBounds (o + 1) (.int .i64 (S.size : Int)))) := Lib.hid ((Outs.refl o cur).set 1 (by omega) _)
  generalize cur.setIfInBounds (o + 1) (.int .i64 (S.size : Int)) = cu1 at *
  obtain ⟨w3, hw3⟩ : ∃ w3, w3 = w2.setCell ⟨X, o + 3, none⟩ (.int .i64 (rl.length : Int)) := ⟨_, rfl⟩
  have t3 : Turns (fun i => i = X) w2 w3 := by rw [hw3]; exact Turns.set _ _ _ _
  have h3 : w3.heap[X]? = some (.cells (cu1.setIfInBounds (o + 3) (.int .i64 (rl.length : Int))) T (0, 0)) := by rw [hw3]; exact heap_setCell_at HJ2.out.h (o + 3) _
  have HF : Hid (RJ w3 X T o (cu1.setIfInBounds (o + 3) (.int .i64 (rl.length : Int))) S S.size (.slice ao rl.length cap) rl rl.length) := Lib.hid ⟨h3, get_other HJ2.out.c0 (by omega), get_other HJ2.out.c1 (by omega), get_other HJ2.out.c2 (by omega), get_set HJ2.out.c3, Sl.keep HJ2.out.s t3 (fun i hi e => HNX.out i hi e)⟩
  have HTF := Lib.hid (HTT.out.trans t3 (fun _ h => Or.inl h))
  have HW3 := Lib.hid hw3
  clear hw3 t3 h3
  go_wp2
  rw [← HW3.out]
  go_ret
  exact ⟨rfl, _, HF.out, HO1.out.set 3 (by omega) _, HTF.out⟩
set_option maxRecDepth 10000 in
set_option maxHeartbeats 2000000 in
theorem refcrash_any (X : Nat) (T : TypeId) (o : Nat) (cur : Array Value) (l : List UInt8) (sb : Nat) (v : Value) (rl : List RV) (sn : Nat) (k : Int) (w : World) (h : RJ w X T o cur ⟨l.toArray⟩ sb v rl sn) (hsb : sb ≤ l.length) (hl : l.length ≤ 16777216) (hk1 : -9223372036854775808 ≤ k) (hk2 : k ≤ 9223372036854775807) (m : Nat) (hm : keepOf l.length sb k = m) (s : ByteArray) (hs : ⟨(l.take m).toArray⟩ = s) :
    Calls Tryd.prog 37 #[.pointer (some ⟨X, o, none⟩), .int .i64 k] w fun e w' => e = .returned (.tuple #[]) ∧ ∃ j E v' cur', Done s j E ∧ RJ w' X T o cur' (s.extract 0 (pos s j)) (pos s j) v' (recs s j) j ∧ Outs o cur cur' ∧ (∀ i, blk v' i → w.heap.size ≤ i) ∧ Turns (fun i => i = X) w w' := by
  have c0 := cells_of h.h o _ h.c0
  have c1 := cells_of h.h (o + 1) _ h.c1
  have HJ := Lib.hid h
  have hl2 : (⟨l.toArray⟩ : ByteArray).data.toList = l := by simp
  have hsz : s.size ≤ 16777216 := by rw [← hs]; show (l.take m).toArray.size ≤ _; rw [List.size_toArray, List.length_take]; omega
  have hop := fun W => refopen_any s W hsz
  have HOP := Lib.hid hop
  have hcr := fun q W hW => block.ref_crash q l sb k W hW (by omega) hk1 hk2
  rw [hm] at hcr
  have HCR := Lib.hid hcr
  obtain ⟨S, hS⟩ : ∃ S : ByteArray, ⟨l.toArray⟩ = S := ⟨_, rfl⟩
  rw [hS] at c0 HJ hl2
  obtain ⟨B, hB⟩ : ∃ B, w.heap.size = B := ⟨_, rfl⟩
  obtain ⟨w0, hw0⟩ : ∃ w0, w0 = w.alloc (.cells #[.string S, .int .i64 (sb : Int)] 66) := ⟨_, rfl⟩
  have t0 : Turns nobody w w0 := by rw [hw0]; exact (Turns.refl _ _).alloc _
  have h0 : w0.heap[B]? = some (.cells #[.string S, .int .i64 (sb : Int)] 66 (0, 0)) := by rw [hw0, ← hB]; exact heap_alloc_new w _
  have r0 : RefAt w0 B l sb := ⟨hsb, S, hl2, h0⟩
  have HR0 := Lib.hid r0
  have HT0 := Lib.hid t0
  have HH0 := Lib.hid h0
  have HW0 := Lib.hid hw0
  have HXB : Hid (X ≠ B) := Lib.hid (by have := lt_of_block h.h; omega)
  have HSS : Hid (∀ t : ByteArray, txt t (l.take m) → t = s) := Lib.hid (fun t ht => by rw [← hs]; apply ByteArray.ext; apply Array.ext'; rw [ht])
  have HB := Lib.hid hB
  clear h hl2 hsz hop hcr hS hw0 t0 h0 r0 hs hm hk1 hk2 hB
  go_enter Tryd.func37, Tryd.ntmps37
  go_upto_region 1 with fail
  rw [← HW0.out, HB.out]
  clear c0 c1
  go_upto_region 2 with (go_at_call 81; refine (HCR.out _ _ HR0.out).mono ?_; rintro e w1 ⟨rfl, r1, g1⟩; have HR1 := Lib.hid r1; have HT1 := Lib.hid (turns_one g1); clear r1 g1)
  obtain ⟨s', hs1, hs2⟩ := HR1.out.2
  obtain rfl : s' = s := HSS.out s' hs1
  have d0 := cells_of hs2 0 _ rfl
  clear hs1 hs2
  go_upto_region 3 with (go_at_call 34; refine (HOP.out _).mono ?_; rintro e w2 ⟨j, E, v', hD, rfl, hsl, hn, t2⟩; obtain ⟨vo, vc, rfl, -⟩ := Sl.shape hsl; simp only [recs_len] at hsl hn ⊢; have HD := Lib.hid hD; have HSL := Lib.hid hsl; have HN := Lib.hid hn; have HT2 := Lib.hid t2; clear hD hsl hn t2)
  clear d0
  obtain ⟨P, hP⟩ : ∃ P, pos s' j = P := ⟨_, rfl⟩
  obtain ⟨S2, hS2⟩ : ∃ S2, s'.extract 0 P = S2 := ⟨_, rfl⟩
  rw [hP, hS2]
  have HP := Lib.hid hP
  have HS2 := Lib.hid hS2
  obtain ⟨D, hDD⟩ : ∃ D, w2.heap.size = D := ⟨_, rfl⟩
  obtain ⟨w3, hw3⟩ : ∃ w3, w3 = w2.alloc (.cells #[.string S2, .int .i64 (P : Int), (.slice vo j vc), .int .i64 (j : Int)] 68) := ⟨_, rfl⟩
  have t3 : Turns nobody w2 w3 := by rw [hw3]; exact (Turns.refl _ _).alloc _
  have h3 : w3.heap[D]? = some (.cells #[.string S2, .int .i64 (P : Int), (.slice vo j vc), .int .i64 (j : Int)] 68 (0, 0)) := by rw [hw3, ← hDD]; exact heap_alloc_new w2 _
  rw [← hw3, hDD]
  have hbX : ∀ i, i = B → ¬ i = X := fun i e e2 => HXB.out (e2.symm.trans e)
  have hx1 : w1.heap[X]? = some (.cells cur T (0, 0)) := heap_newer (HJ.out.still HT0.out).h HT1.out (fun e => HXB.out e)
  have hx3 : w3.heap[X]? = some (.cells cur T (0, 0)) := heap_newer (heap_newer hx1 HT2.out (fun h => h)) t3 (fun h => h)
  have HXD : Hid (X ≠ D) := Lib.hid (by have := lt_of_block (heap_newer hx1 HT2.out (fun h => h)); omega)
  have hvn : ∀ i, blk (.slice vo j vc) i → i ≠ X ∧ w.heap.size ≤ i := fun i hi => by
    have h1 := HN.out i hi
    have h2 := lt_of_block hx1
    have h3 := HT0.out.size
    have h4 := HT1.out.size
    exact ⟨by omega, by omega⟩
  have hsl3 : RSl w3 (.slice vo j vc) (recs s' j) := Sl.keep HSL.out t3 (fun _ _ h => h)
  have ht3 : Turns nobody w w3 := ((HT0.out.trans2 HT1.out (fun i hi => by have := HB.out; omega)).trans HT2.out (fun _ h => h.elim)).trans t3 (fun _ h => h.elim)
  have hj0 := HJ.out
  have c0 := cells_of hx3 o _ hj0.c0
  have c1 := cells_of hx3 (o + 1) _ hj0.c1
  have f0 := free_of hx3 o
  have f1 := free_of hx3 (o + 1)
  have d0 := cells_of h3 0 _ rfl
  have d1 := cells_of h3 1 _ rfl
  obtain ⟨cu1, hcu1⟩ : ∃ cu1, (cur.setIfInBounds o (.string S2)).setIfInBounds (o + 1) (.int .i64 (P : Int)) = cu1 := ⟨_, rfl⟩
  obtain ⟨w4, hw4⟩ : ∃ w4, w4 = (w3.setCell ⟨X, o, none⟩ (.string S2)).setCell ⟨X, o + 1, none⟩ (.int .i64 (P : Int)) := ⟨_, rfl⟩
  have t4 : Turns (fun i => i = X) w3 w4 := by rw [hw4]; exact (Turns.set _ _ _ _).trans (Turns.set _ _ _ _) (fun _ h => Or.inl h)
  have h4 : w4.heap[X]? = some (.cells cu1 T (0, 0)) := by rw [hw4, ← hcu1]; exact heap_setCell_at (heap_setCell_at hx3 o _) (o + 1) _
  have e4 := heap_newer h3 t4 (fun e => HXD.out e.symm)
  have k0 : cu1[o]? = some (.string S2) := by rw [← hcu1]; exact get_other (get_set hj0.c0) (by omega)
  have k1 : cu1[o + 1]? = some (.int .i64 (P : Int)) := by rw [← hcu1]; exact get_set (get_other hj0.c1 (by omega))
  have k2 : cu1[o + 2]? = some v := by rw [← hcu1]; exact get_other (get_other hj0.c2 (by omega)) (by omega)
  have k3 : cu1[o + 3]? = some (.int .i64 (sn : Int)) := by rw [← hcu1]; exact get_other (get_other hj0.c3 (by omega)) (by omega)
  have ho : Outs o cur cu1 := by rw [← hcu1]; exact ((Outs.refl o cur).set 0 (by omega) _).set 1 (by omega) _
  have HO1 := Lib.hid ho
  have HK0 := Lib.hid k0
  have HK1 := Lib.hid k1
  have HK2 := Lib.hid k2
  have HK3 := Lib.hid k3
  have HW4 := Lib.hid hw4
  have HH4 := Lib.hid h4
  have HE4 := Lib.hid e4
  have HSL4 := Lib.hid (Sl.keep hsl3 t4 (fun i hi e => (hvn i hi).1 e))
  have HT4 := Lib.hid ((ht3.mono (G := fun i => i = X) (fun _ h => h.elim)).trans t4 (fun _ h => Or.inl h))
  have HVN := Lib.hid hvn
  clear hP hS2 hDD hw3 t3 h3 hbX hx1 hx3 hvn hsl3 ht3 hj0 hcu1 hw4 t4 h4 e4 k0 k1 k2 k3 ho
  have HRL := Lib.hid (recs_len s' j)
  go_upto_region 4 with fail
  rw [← HW4.out]
  clear c0 c1 f0 f1 d0 d1
  have d2 := cells_of HE4.out 2 _ rfl
  have c2 := cells_of HH4.out (o + 2) _ HK2.out
  have f2 := free_of HH4.out (o + 2)
  obtain ⟨w5, hw5⟩ : ∃ w5, w5 = w4.setCell ⟨X, o + 2, none⟩ (.slice vo j vc) := ⟨_, rfl⟩
  have t5 : Turns (fun i => i = X) w4 w5 := by rw [hw5]; exact Turns.set _ _ _ _
  have h5 : w5.heap[X]? = some (.cells (cu1.setIfInBounds (o + 2) (.slice vo j vc)) T (0, 0)) := by rw [hw5]; exact heap_setCell_at HH4.out (o + 2) _
  have e5 := heap_newer HE4.out t5 (fun e => HXD.out e.symm)
  have HW5 := Lib.hid hw5
  have HH5 := Lib.hid h5
  have HE5 := Lib.hid e5
  have HSL5 := Lib.hid (Sl.keep HSL4.out t5 (fun i hi e => (HVN.out i hi).1 e))
  have HT5 := Lib.hid (HT4.out.trans t5 (fun _ h => Or.inl h))
  clear hw5 t5 h5 e5
  go_upto_region 5 with fail
  rw [← HW5.out]
  clear c2 f2 d2
  have d3 := cells_of HE5.out 3 _ rfl
  have c3 := cells_of HH5.out (o + 3) _ (get_other HK3.out (by omega))
  have f3 := free_of HH5.out (o + 3)
  obtain ⟨w6, hw6⟩ : ∃ w6, w6 = w5.setCell ⟨X, o + 3, none⟩ (.int .i64 (j : Int)) := ⟨_, rfl⟩
  have t6 : Turns (fun i => i = X) w5 w6 := by rw [hw6]; exact Turns.set _ _ _ _
  have h6 : w6.heap[X]? = some (.cells ((cu1.setIfInBounds (o + 2) (.slice vo j vc)).setIfInBounds (o + 3) (.int .i64 (j : Int))) T (0, 0)) := by rw [hw6]; exact heap_setCell_at HH5.out (o + 3) _
  have HW6 := Lib.hid hw6
  have HF : Hid (RJ w6 X T o ((cu1.setIfInBounds (o + 2) (.slice vo j vc)).setIfInBounds (o + 3) (.int .i64 (j : Int))) S2 P (.slice vo j vc) (recs s' j) j) := Lib.hid ⟨h6, get_other (get_other HK0.out (by omega)) (by omega), get_other (get_other HK1.out (by omega)) (by omega), get_other (get_set HK2.out) (by omega), get_set (get_other HK3.out (by omega)), Sl.keep HSL5.out t6 (fun i hi e => (HVN.out i hi).1 e)⟩
  have HT6 := Lib.hid (HT5.out.trans t6 (fun _ h => Or.inl h))
  clear hw6 t6 h6
  go_wp2
  rw [← HW6.out]
  go_end0
  refine ⟨rfl, j, E, .slice vo j vc, (cu1.setIfInBounds (o + 2) (.slice vo j vc)).setIfInBounds (o + 3) (.int .i64 (j : Int)), HD.out, ?_, (HO1.out.set 2 (by omega) _).set 3 (by omega) _, fun i hi => (HVN.out i hi).2, HT6.out⟩
  rw [HP.out, HS2.out]
  exact HF.out
end Go.Proofs.YtlhcmgjkhkcgcaaDoor.journal
