/- Package store: one that was made; Verify; that the program computes at all. -/
import Derived.Test.YtjnplcajajdkiaaDoorStoBoth
import Derived.Test.YtjnplcajajdkiaaDoorShaDef
namespace Go.Proofs.YtjnplcajajdkiaaDoor.store
open Go.RowKit
open Go.Proofs.YtjnplcajajdkiaaDoor.stepkit Go.Proofs.YtjnplcajajdkiaaDoor.eqkit Go.Proofs.YtjnplcajajdkiaaDoor.idkit Go.Proofs.YtjnplcajajdkiaaDoor.obj Go.Proofs.YtjnplcajajdkiaaDoor.row Go.Proofs.YtjnplcajajdkiaaDoor.mapkit Go.Proofs.YtjnplcajajdkiaaDoor.mix Go.Proofs.YtjnplcajajdkiaaDoor.lru
open Go.Proofs.YtjnplcajajdkiaaDoor.sha (Tabs wpList_putc new32 range_of)

set_option maxRecDepth 10000 in
theorem new_bad (n : Int) (h : n < 0 ∨ 4096 < n) (w : World) : Calls Tryd.prog 7 #[.int .i64 n] w fun e w' => e = .returned (.tuple #[.pointer none, .int .i64 1]) ∧ w = w' := by
  by_cases h1 : n < 0
  · go_enter Tryd.func7, Tryd.ntmps7
    go_wp2
    go_ret2
    exact ⟨rfl, rfl⟩
  · have h2 : 4096 < n := by omega
    go_enter Tryd.func7, Tryd.ntmps7
    go_wp2
    go_ret2
    exact ⟨rfl, rfl⟩

set_option maxRecDepth 10000 in
set_option maxHeartbeats 400000 in
theorem new_st (q : Nat) (hq : q ≤ 4096) (w : World) : Calls Tryd.prog 7 #[.int .i64 (q : Int)] w fun e w' => ∃ p F, e = .returned (.tuple #[.pointer (some ⟨p, 0, none⟩), .int .i64 0]) ∧ StAt p q [] [] F w' ∧ Turns nobody w w' ∧ (∀ i, F i → w.heap.size ≤ i) ∧ w.heap.size ≤ p := by
  have hn := lru.new_any w
  have hmm := @run_makeMap Tryd.prog
  have h1 : ¬ (q : Int) < 0 := by omega
  have h2 : ¬ 4096 < (q : Int) := by omega
  go_enter Tryd.func7, Tryd.ntmps7
  go_wp2_with (go_at_call 28; refine hn.mono ?_; rintro e w1 ⟨rfl, G, hg, t1, n1⟩; have HG := Lib.hid hg; have HT1 := Lib.hid t1; have HN1 := Lib.hid n1; clear hg t1 n1 hn)
  go_ret2
  obtain ⟨PL, hPL⟩ : ∃ PL, w.heap.size + 2 = PL := ⟨_, rfl⟩
  have hG0 := HG.out
  rw [hPL] at hG0 ⊢
  have hglt := ((local_lru _ _) _ _ hG0).1
  obtain ⟨w2, hw2⟩ : ∃ w2, w2 = w1.alloc (.map #[] 0) := ⟨_, rfl⟩
  rw [← hw2]
  have t12 : Turns nobody w1 w2 := by rw [hw2]; exact (Turns.refl _ _).alloc _
  have z2 : w2.heap.size = w1.heap.size + 1 := by rw [hw2]; simp
  have hm2 : w2.heap[w1.heap.size]? = some (.map #[] 0) := by rw [hw2]; exact heap_alloc_new w1 _
  have key : ∀ w3, w3 = w2.alloc (.cells (scs PL q 0 0 w1.heap.size) 61) → StAt w2.heap.size q [] [] (foot w2.heap.size w1.heap.size [] G) w3 ∧ Turns nobody w w3 := by
    rintro w3 rfl
    have t23 := (Turns.refl nobody w2).alloc (.cells (scs PL q 0 0 w1.heap.size) 61)
    have t13 := t12.trans t23 (fun _ h => h.elim)
    refine ⟨⟨PL, w1.heap.size, [], G, rfl, ⟨heap_alloc_new w2 _, ⟨[], rfl, (local_lru _ _).keep hG0 t13 (fun _ _ h => h)⟩, ⟨#[], 0, [], heap_newer hm2 t23 (fun h => h), rfl, List.Perm.refl _⟩, (fun x hx => by cases hx), List.nodup_nil, fun i hi => ⟨?_, ?_, fun x hx => by cases hx⟩⟩, rfl⟩, HT1.out.trans t13 (fun _ h => h.elim)⟩
    · have := hglt i hi; omega
    · have := hglt i hi; omega
  obtain ⟨k1, k2⟩ := key _ rfl
  refine ⟨w2.heap.size, _, ?_, k1, k2, ?_, ?_⟩
  · rw [z2]
    try rfl
  · have := HT1.out.size
    rintro i (rfl | rfl | hi | ⟨x, hx, rfl⟩)
    · omega
    · omega
    · exact HN1.out i hi
    · cases hx
  · have := HT1.out.size; omega

/-- What Verify answers. -/
def verE (c : List Int) (b : ByteArray) : Int := if checkE b ≠ 0 then checkE b else if sumB b = c then 0 else 13

set_option maxRecDepth 10000 in
set_option maxHeartbeats 400000 in
theorem verify_st {p q : Nat} {E : Held} {P : List (List Int)} {F : Nat → Prop} {w : World} (h : StAt p q E P F w) (htab : Tabs w) (c : List Int) (hc : c.length = 32) (b : ByteArray) (hb : b.size ≤ 1000000) :
    Calls Tryd.prog 26 #[.pointer (some ⟨p, 0, none⟩), .agg (idc c).toArray, .string b] w fun e w' => e = .returned (.int .i64 (verE c b)) ∧ Turns nobody w w' := by
  obtain ⟨pl, mb, L, G, rfl, hs, rfl⟩ := h
  obtain ⟨w0, hw0⟩ : ∃ w0, w0 = w.alloc (.cells (idc c).toArray 31) := ⟨_, rfl⟩
  have ht0 : Turns nobody w w0 := by rw [hw0]; exact (Turns.refl _ _).alloc _
  have hb0 : w0.heap[w.heap.size]? = some (.cells (idc c).toArray 31 (0, 0)) := by rw [hw0]; exact heap_alloc_new w _
  have c4 : w0.cell? ⟨p, 4, none⟩ = some (.map (some mb)) := cells_of (hs.still ht0).hp 4 _ rfl
  have hck := check_any b (by omega)
  have HW0 := Lib.hid hw0
  have HT0 := Lib.hid ht0
  have SX := Lib.hid (sizeId hc)
  have HR : Hid (∀ W, Turns nobody w0 W → W.rangeAt w.heap.size 0 (idc c)) := Lib.hid fun W ht => range_of (heap_newer hb0 ht (fun h => h))
  by_cases he : checkE b = 0
  · have hv : verE c b = if sumB b = c then 0 else 13 := by unfold verE; rw [if_neg (by simpa using he)]
    rw [hv]
    rw [he] at hck
    have hsum : ∀ W, Turns nobody w0 W → Calls Tryd.prog 34 #[.string b] W fun e w' => e = .returned (.agg (idc (sumB b)).toArray) ∧ Turns nobody W w' := fun W hW => sha.text_any b W hb (htab.turns (ht0.trans hW (fun _ h => h.elim)) ⟨fun h => h, fun h => h⟩)
    have HSUM := Lib.hid hsum
    have hsl := sumB_len b
    generalize sumB b = s at *
    clear hw0 ht0 hb0 hs htab hsum he hv
    by_cases hsc : s = c
    · rw [if_pos hsc]
      have HSC := Lib.hid hsc
      clear hsc
      go_enter Tryd.func26, Tryd.ntmps26
      go_upto_region 6 with first
        | (go_at_call 32; rw [← HW0.out]; refine (none_no _ _ _ c4).mono ?_; rintro e w' ⟨rfl, rfl⟩)
        | (go_at_call 33; refine (hck _).mono ?_; rintro e w' ⟨rfl, rfl⟩)
      try rw [← HW0.out]
      refine wp_region_mix [(0, true, true), (2, true, true), (1, false, true), (3, true, true)] (fun W => Turns nobody w0 W) (by kernel_rfl) (by kernel_rfl) ((Turns.refl nobody w0).drew) ?_
      simp only [picked, List.filterMap_cons, List.filterMap_nil, List.getElem?_toArray, List.getElem?_cons_zero, List.getElem?_cons_succ, Option.map_some]
      iterate 1 (refine mix_free (v := ?_) rfl ?_ ?_; rotate_left; (focus (intro w' hI; go_simp; try with_reducible rfl)); simp only [Act.put, List.setIfInBounds_toArray, List.set_cons_zero, List.set_cons_succ])
      refine mix_free (v := .agg (idc c).toArray) rfl (fun w' hI => exec_load_mid _ _ rfl _ _ rfl (idc c) _ (HR.out _ hI) Tryd.underlying31 rfl SX.out) ?_
      simp only [Act.put, List.setIfInBounds_toArray, List.set_cons_zero, List.set_cons_succ]
      refine mix_big rfl (fun K hK => ?_)
      go_wp2_with (go_at_call 34; refine (HSUM.out _ (Turns.refl nobody w0).drew).mono ?_; rintro e w1 ⟨rfl, t1⟩; have HT1 := Lib.hid ((Turns.refl nobody w0).drew.trans t1 (fun _ h => False.elim h)); clear t1)
      refine hK _ _ (fun _ => HT1.out) ?_
      clear hK K
      refine mix_free (v := .bool false) rfl (fun w' hI => exec_ne _ _ _ rfl s c rfl rfl hsl hc (by simp [HSC.out])) ?_
      simp only [Act.put, List.setIfInBounds_toArray, List.set_cons_zero, List.set_cons_succ]
      refine mix_nil ?_
      go_wp2
      go_ret
      exact ⟨rfl, HT0.out.trans HT1.out (fun _ h => h.elim)⟩
    · rw [if_neg hsc]
      have HSC := Lib.hid hsc
      clear hsc
      go_enter Tryd.func26, Tryd.ntmps26
      go_upto_region 6 with first
        | (go_at_call 32; rw [← HW0.out]; refine (none_no _ _ _ c4).mono ?_; rintro e w' ⟨rfl, rfl⟩)
        | (go_at_call 33; refine (hck _).mono ?_; rintro e w' ⟨rfl, rfl⟩)
      try rw [← HW0.out]
      refine wp_region_mix [(0, true, true), (2, true, true), (1, false, true), (3, true, true)] (fun W => Turns nobody w0 W) (by kernel_rfl) (by kernel_rfl) ((Turns.refl nobody w0).drew) ?_
      simp only [picked, List.filterMap_cons, List.filterMap_nil, List.getElem?_toArray, List.getElem?_cons_zero, List.getElem?_cons_succ, Option.map_some]
      iterate 1 (refine mix_free (v := ?_) rfl ?_ ?_; rotate_left; (focus (intro w' hI; go_simp; try with_reducible rfl)); simp only [Act.put, List.setIfInBounds_toArray, List.set_cons_zero, List.set_cons_succ])
      refine mix_free (v := .agg (idc c).toArray) rfl (fun w' hI => exec_load_mid _ _ rfl _ _ rfl (idc c) _ (HR.out _ hI) Tryd.underlying31 rfl SX.out) ?_
      simp only [Act.put, List.setIfInBounds_toArray, List.set_cons_zero, List.set_cons_succ]
      refine mix_big rfl (fun K hK => ?_)
      go_wp2_with (go_at_call 34; refine (HSUM.out _ (Turns.refl nobody w0).drew).mono ?_; rintro e w1 ⟨rfl, t1⟩; have HT1 := Lib.hid ((Turns.refl nobody w0).drew.trans t1 (fun _ h => False.elim h)); clear t1)
      refine hK _ _ (fun _ => HT1.out) ?_
      clear hK K
      refine mix_free (v := .bool true) rfl (fun w' hI => exec_ne _ _ _ rfl s c rfl rfl hsl hc (by simp [HSC.out])) ?_
      simp only [Act.put, List.setIfInBounds_toArray, List.set_cons_zero, List.set_cons_succ]
      refine mix_nil ?_
      go_wp2
      go_ret
      exact ⟨rfl, HT0.out.trans HT1.out (fun _ h => h.elim)⟩
  · have hv : verE c b = checkE b := by unfold verE; rw [if_pos he]
    rw [hv]
    have hne : ((checkE b : Int) != 0) = true := by simpa using he
    generalize checkE b = E' at *
    clear hw0 ht0 hb0 hs htab he hv
    go_enter Tryd.func26, Tryd.ntmps26
    go_wp2_with first
      | (go_at_call 32; rw [← HW0.out]; refine (none_no _ _ _ c4).mono ?_; rintro e w' ⟨rfl, rfl⟩)
      | (go_at_call 33; refine (hck _).mono ?_; rintro e w' ⟨rfl, rfl⟩)
    go_ret
    exact ⟨rfl, HT0.out⟩

set_option maxRecDepth 10000 in
set_option maxHeartbeats 400000 in
theorem verify_rf (w : World) (c : List Int) (hc : c.length = 32) (b : ByteArray) (hb : b.size ≤ 1000000) :
    Calls Tryd.prog 27 #[.agg (idc c).toArray, .string b] w fun e w' => e = .returned (.int .i64 (verE c b)) ∧ Turns nobody w w' := by
  obtain ⟨w0, hw0⟩ : ∃ w0, w0 = w.alloc (.cells (idc c).toArray 31) := ⟨_, rfl⟩
  have ht0 : Turns nobody w w0 := by rw [hw0]; exact (Turns.refl _ _).alloc _
  have hb0 : w0.heap[w.heap.size]? = some (.cells (idc c).toArray 31 (0, 0)) := by rw [hw0]; exact heap_alloc_new w _
  have hck := check_ref b (by omega)
  have HW0 := Lib.hid hw0
  have HT0 := Lib.hid ht0
  have SX := Lib.hid (sizeId hc)
  have HR : Hid (∀ W, Turns nobody w0 W → W.rangeAt w.heap.size 0 (idc c)) := Lib.hid fun W ht => range_of (heap_newer hb0 ht (fun h => h))
  by_cases he : checkE b = 0
  · have hv : verE c b = if sumB b = c then 0 else 13 := by unfold verE; rw [if_neg (by simpa using he)]
    rw [hv]
    rw [he] at hck
    have hsum : ∀ W, Calls Tryd.prog 9 #[.string b] W fun e w' => e = .returned (.agg (idc (sumB b)).toArray) ∧ Turns nobody W w' := fun W => sha.refsum_any b W hb
    have HSUM := Lib.hid hsum
    have hsl := sumB_len b
    generalize sumB b = s at *
    clear hw0 ht0 hb0 hsum he hv
    obtain ⟨r, hr⟩ : ∃ r, (!decide (s = c)) = r := ⟨_, rfl⟩
    have HRR := Lib.hid hr
    have hi : (if s = c then (0 : Int) else 13) = if r then 13 else 0 := by rw [← hr]; by_cases h : s = c <;> simp [h]
    rw [hi]
    clear hi hr
    cases r
    all_goals
      go_enter Tryd.func27, Tryd.ntmps27
      go_upto_region 2 with (go_at_call 49; rw [← HW0.out]; refine (hck _).mono ?_; rintro e w' ⟨rfl, rfl⟩)
      try rw [← HW0.out]
      refine wp_region_mix [(0, true, true), (1, true, true), (2, true, true), (3, true, true), (5, true, true), (4, false, true), (6, true, true), (7, true, true)] (fun W => Turns nobody w0 W) (by kernel_rfl) (by kernel_rfl) ((Turns.refl nobody w0).drew) ?_
      simp only [picked, List.filterMap_cons, List.filterMap_nil, List.getElem?_toArray, List.getElem?_cons_zero, List.getElem?_cons_succ, Option.map_some]
      iterate 4 (refine mix_free (v := ?_) rfl ?_ ?_; rotate_left; (focus (intro w' hI; go_simp; try with_reducible rfl)); simp only [Act.put, List.setIfInBounds_toArray, List.set_cons_zero, List.set_cons_succ])
      refine mix_free (v := .agg (idc c).toArray) rfl (fun w' hI => exec_load_mid _ _ rfl _ _ rfl (idc c) _ (HR.out _ hI) Tryd.underlying31 rfl SX.out) ?_
      simp only [Act.put, List.setIfInBounds_toArray, List.set_cons_zero, List.set_cons_succ]
      refine mix_big rfl (fun K hK => ?_)
      go_wp2_with (go_at_call 9; refine (HSUM.out _).mono ?_; rintro e w1 ⟨rfl, t1⟩; have HT1 := Lib.hid ((Turns.refl nobody w0).drew.trans t1 (fun _ h => False.elim h)); clear t1)
      refine hK _ _ (fun _ => HT1.out) ?_
      clear hK K
      refine mix_free (v := .bool _) rfl (fun w' hI => exec_ne _ _ _ rfl s c rfl rfl hsl hc HRR.out) ?_
      simp only [Act.put, List.setIfInBounds_toArray, List.set_cons_zero, List.set_cons_succ]
      repeat (refine mix_free (v := ?_) rfl ?_ ?_; rotate_left; (focus (intro w' hI; go_simp; try with_reducible rfl)); simp only [Act.put, List.setIfInBounds_toArray, List.set_cons_zero, List.set_cons_succ])
      refine mix_nil ?_
      go_wp2
      go_ret
      exact ⟨rfl, HT0.out.trans HT1.out (fun _ h => h.elim)⟩
  · have hv : verE c b = checkE b := by unfold verE; rw [if_pos he]
    rw [hv]
    have hne : ((checkE b : Int) == 0) = false := by simpa using he
    generalize checkE b = E' at *
    clear hw0 ht0 hb0 he hv
    go_enter Tryd.func27, Tryd.ntmps27
    go_upto_region 2 with (go_at_call 49; rw [← HW0.out]; refine (hck _).mono ?_; rintro e w' ⟨rfl, rfl⟩)
    try rw [← HW0.out]
    refine wp_region_mix [(0, true, true), (1, true, true), (2, true, true), (3, true, true), (5, true, true), (4, false, true), (6, true, true), (7, true, true)] (fun W => Turns nobody w0 W) (by kernel_rfl) (by kernel_rfl) ((Turns.refl nobody w0).drew) ?_
    simp only [picked, List.filterMap_cons, List.filterMap_nil, List.getElem?_toArray, List.getElem?_cons_zero, List.getElem?_cons_succ, Option.map_some]
    repeat (first | (refine mix_free (v := ?_) rfl ?_ ?_; rotate_left; (focus (intro w' hI; go_simp; try with_reducible rfl)); simp only [Act.put, List.setIfInBounds_toArray, List.set_cons_zero, List.set_cons_succ]) | (refine mix_skip rfl ?_; simp only [Act.put, List.setIfInBounds_toArray, List.set_cons_zero, List.set_cons_succ]))
    refine mix_nil ?_
    go_wp2
    go_ret
    exact ⟨rfl, HT0.out.drew⟩

end Go.Proofs.YtjnplcajajdkiaaDoor.store
