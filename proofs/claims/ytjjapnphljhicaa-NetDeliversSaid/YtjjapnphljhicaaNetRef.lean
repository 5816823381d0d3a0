/- Package petrelref36: doubling and delivering. -/
import Derived.Test.YtjjapnphljhicaaNet
import Derived.Deep.CutRange
namespace Go.Proofs.Ytjjapnphljhicaa.net
open Go.RowKit
open Go.Proofs.Ytjjapnphljhicaa.stepkit Go.Proofs.Ytjjapnphljhicaa.row Go.Proofs.Ytjjapnphljhicaa.mix Go.Proofs.Ytjjapnphljhicaa.obj Go.Proofs.Ytjjapnphljhicaa.eqkit

theorem ref_double_bad (v : Value) (k z : Int) (w : World) (hz : ¬ z = 0) (h : Calls Try.prog 21 #[v, .int .i64 k] w fun e w'' => e = .returned (.int .i64 z) ∧ w = w'') :
    Calls Try.prog 15 #[v, .int .i64 k] w fun e w' => e = .returned (.int .i64 z) ∧ w = w' := by
  have hzz : (z != 0) = true := by simpa using hz
  clear hz
  go_enter Try.func15, Try.ntmps15
  go_wp2_with (go_at_call 21; refine h.mono ?_; rintro e w' ⟨rfl, rfl⟩)
  go_ret
  exact ⟨rfl, rfl⟩

set_option maxRecDepth 10000 in
set_option maxHeartbeats 400000 in
theorem ref_double_put (p : Nat) (l : List Pc) (lost : Int) (k : Nat) (F : Nat → Prop) (w : World) (h : RefAt p l lost F w) (hl : 0 < l.length) (hl2 : l.length ≤ 256) (z : Int) (R : World → Prop)
    (hput : Calls Try.prog 14 #[.pointer (some ⟨p, 0, none⟩), (l.getD (k % l.length) pc0).val] w.drew fun e w' => e = .returned (.int .i64 z) ∧ R w') :
    Calls Try.prog 15 #[.pointer (some ⟨p, 0, none⟩), .int .i64 k] w fun e w' => e = .returned (.int .i64 z) ∧ R w' := by
  have hil : k % l.length < l.length := Nat.mod_lt _ hl
  have hmay := may_ok p l lost k F w h (by omega) hl
  obtain ⟨v, hp, hs, hne, hF⟩ := h
  obtain ⟨g, o, cap, rfl, hgl⟩ := hs.some_of_pos hl
  obtain ⟨x, hx⟩ : ∃ x, l.getD (k % l.length) pc0 = x := ⟨_, rfl⟩
  have hc := PSl.cell (l := l) hs (k % l.length) hil
  generalize hn : l.length = n at *
  rw [hx] at hc hput
  obtain ⟨x0, x1, x2⟩ := hc
  have c0 := cells_of hp 0 _ rfl
  unfold Pc.val at hput
  clear hx hs hp hF hn
  have HM : Hid (((k : Int)).tmod (n : Int) = ((k % n : Nat) : Int)) := by rw [Int.tmod_eq_emod_of_nonneg (by omega)]; rfl
  generalize k % n = i at *
  have hn0 : ¬ n = 0 := by omega
  have hn1 : (1 : Int) ≤ n := by omega
  go_enter Try.func15, Try.ntmps15
  go_wp2_with first | (go_at_call 21; refine hmay.mono ?_; rintro e w' ⟨rfl, rfl⟩)
  refine wp_region_mix [(0, true, true), (1, true, true), (2, true, true), (3, true, true), (4, true, true), (5, true, true), (6, true, true), (7, true, true), (8, true, true), (9, true, true), (10, true, true), (11, true, true), (12, true, true), (13, true, true), (14, false, false), (15, false, false)] (fun W => W = w.drew) (by kernel_rfl) (by kernel_rfl) (rfl) ?_
  simp only [picked, List.filterMap_cons, List.filterMap_nil, List.getElem?_toArray, List.getElem?_cons_zero, List.getElem?_cons_succ, Option.map_some]
  repeat (refine mix_free (v := ?_) rfl ?_ ?_; rotate_left; (focus (intro w' hI; subst hI; go_simp; try with_reducible rfl)); simp only [Act.put, List.setIfInBounds_toArray, List.set_cons_zero, List.set_cons_succ])
  rw [HM.out]
  have h0i : (0 : Int) ≤ i := by omega
  have hin : (i : Int) < n := by omega
  repeat (refine mix_free (v := ?_) rfl ?_ ?_; rotate_left; (focus (intro w' hI; subst hI; go_simp; try with_reducible rfl)); simp only [Act.put, List.setIfInBounds_toArray, List.set_cons_zero, List.set_cons_succ])
  refine mix_big rfl (fun K hK => ?_)
  go_wp2_with (go_at_call 14; refine hput.mono ?_; rintro e w' ⟨rfl, hr⟩)
  refine hK _ _ (fun h => by cases h) ?_
  clear hK K
  refine mix_big rfl (fun K hK => ?_)
  go_wp2
  refine hK _ _ (fun h => by cases h) ?_
  clear hK K
  refine mix_nil ?_
  go_wp2
  go_ret
  exact ⟨rfl, hr⟩

set_option maxRecDepth 10000 in
set_option maxHeartbeats 400000 in
theorem ref_deliver_bad (v : Value) (k z : Int) (w : World) (hz : ¬ z = 0) (h : ∀ w', Turns nobody w w' → Calls Try.prog 21 #[v, .int .i64 k] w' fun e w'' => e = .returned (.int .i64 z) ∧ w' = w'') :
    Calls Try.prog 16 #[v, .int .i64 k] w fun e w' => e = .returned (.tuple #[pc0.val, .int .i64 z]) ∧ Turns nobody w w' := by
  have hp := h (w.alloc (.cells #[.int .i64 0, .int .i64 0, .string ⟨#[]⟩] 30)) ((Turns.refl _ _).alloc _)
  have hzz : (z != 0) = true := by simpa using hz
  clear h hz
  go_enter Try.func16, Try.ntmps16
  go_wp2_with (go_at_call 21; refine hp.mono ?_; rintro e w' ⟨rfl, rfl⟩)
  exact bodyPost_ret (v := .tuple #[pc0.val, .int .i64 z]) (by simp [results, Try.results16, go_sem, pc0, Pc.val]) rfl ⟨rfl, (Turns.refl _ _).alloc _⟩

set_option maxRecDepth 10000 in
set_option maxHeartbeats 1000000 in
theorem ref_deliver_ok (p : Nat) (l : List Pc) (lost : Int) (k : Nat) (F : Nat → Prop) (w : World) (h : RefAt p l lost F w) (hl : 0 < l.length) (hl2 : l.length ≤ 256) :
    Calls Try.prog 16 #[.pointer (some ⟨p, 0, none⟩), .int .i64 k] w fun e w' => e = .returned (.tuple #[(l.getD (k % l.length) pc0).val, .int .i64 0]) ∧
      Step F (RefAt p (l.take (k % l.length) ++ l.drop (k % l.length + 1)) lost) w w' := by
  have hil : k % l.length < l.length := Nat.mod_lt _ hl
  obtain ⟨w1, hw1⟩ : ∃ w1, w1 = w.alloc (.cells #[.int .i64 0, .int .i64 0, .string ⟨#[]⟩] 30) := ⟨_, rfl⟩
  have ht1 : Turns nobody w w1 := by rw [hw1]; exact (Turns.refl _ _).alloc _
  have h1 := (local_ref p l lost).keep h ht1 (fun _ _ h => h)
  have hmay := may_ok p l lost k F w1 h1 (by omega) hl
  have HH := Lib.hid h
  obtain ⟨v, hp, hs, hne, hF⟩ := h
  obtain ⟨ao, cap, rfl, hnc, hcm, _⟩ := hs.shape
  obtain ⟨g, o, cap', hv, hgl⟩ := hs.some_of_pos hl
  cases hv
  have hpl := lt_of_block hp
  obtain ⟨x, hx⟩ : ∃ x, l.getD (k % l.length) pc0 = x := ⟨_, rfl⟩
  have HM : Hid (((k : Int)).tmod (l.length : Int) = ((k % l.length : Nat) : Int)) := by rw [Int.tmod_eq_emod_of_nonneg (by omega)]; rfl
  have HM2 : Hid (((k : Int)) % (l.length : Int) = ((k % l.length : Nat) : Int)) := rfl
  generalize hi : k % l.length = i at *
  clear hi
  have hc := PSl.cell (l := l) hs i hil
  rw [hx] at hc ⊢
  have hgp : g ≠ p := fun e => hne (by rw [blk, Value.ownBlock, e])
  have HW := Lib.hid hw1
  have c0 : w1.cell? ⟨p, 0, none⟩ = some (.slice (some ⟨g, o, none⟩) l.length cap) := (ht1.cell (p := ⟨p, 0, none⟩) hpl (fun h => h)).trans (cells_of hp 0 _ rfl)
  have x0 := (ht1.cell (p := ⟨g, o + i * 3, none⟩) hgl (fun h => h)).trans hc.1
  have x1 := (ht1.cell (p := ⟨g, o + i * 3 + 1, none⟩) hgl (fun h => h)).trans hc.2.1
  have x2 := (ht1.cell (p := ⟨g, o + i * 3 + 2, none⟩) hgl (fun h => h)).trans hc.2.2
  have HX := Lib.hid hx
  have HS := Lib.hid hs
  have HP := Lib.hid hp
  have HF := Lib.hid hF
  clear hw1 hx hs hp hF hc h1
  have hn1 : (1 : Int) ≤ l.length := by omega
  have hn0 : ¬ l.length = 0 := by omega
  go_enter Try.func16, Try.ntmps16
  go_wp2_with fail
  rw [← HW.out]
  go_upto_region 5 with (go_at_call 21; refine hmay.mono ?_; rintro e w' ⟨rfl, rfl⟩)
  rw [HM2.out]
  go_wp2_with fail
  have HZ1 : Hid (w1.heap.size = w.heap.size + 1) := Lib.hid (by rw [HW.out]; simp)
  have h01 : w1.heap[w.heap.size]? = some (.cells #[.int .i64 0, .int .i64 0, .string ⟨#[]⟩] 30 (0, 0)) := by rw [HW.out]; exact heap_alloc_new _ _
  obtain ⟨w2, hw2⟩ : ∃ w2, w2 = w1.alloc (.cells #[.int .i64 x.f, .int .i64 x.t, .string x.b] 30) := ⟨_, rfl⟩
  have ht2 : Turns nobody w w2 := by rw [hw2]; exact ht1.alloc _
  have hp2 : w2.heap[p]? = some (.cells #[.slice (some ⟨g, o, none⟩) l.length cap, .int .i64 lost] 41 (0, 0)) := by rw [ht2.block p hpl (fun h => h)]; exact HP.out
  have hx2 : w2.heap[w1.heap.size]? = some (.cells #[.int .i64 x.f, .int .i64 x.t, .string x.b] 30 (0, 0)) := by rw [hw2]; exact heap_alloc_new _ _
  have h02 : w2.heap[w.heap.size]? = some (.cells #[.int .i64 0, .int .i64 0, .string ⟨#[]⟩] 30 (0, 0)) := by rw [hw2]; exact (heap_alloc_old _ _ (lt_of_block h01)).trans h01
  have HZ2 : Hid (w2.heap.size = w.heap.size + 2) := Lib.hid (by rw [hw2]; simp; have := HZ1.out; omega)
  rw [← hw2]
  clear hw2 hmay c0 x0 x1 x2 h01
  unfold maxLen at hcm
  obtain ⟨a1, ha1⟩ : ∃ a1, Go.sliced (some ⟨g, o, none⟩) 0 i cap 3 = .slice a1 i cap := ⟨_, rfl⟩
  obtain ⟨a2, ha2⟩ : ∃ a2, Go.sliced (some ⟨g, o, none⟩) (i + 1) l.length cap 3 = .slice a2 (l.length - (i + 1)) (cap - (i + 1)) := ⟨_, rfl⟩
  have hs2 : Sl w2 30 3 (.slice (some ⟨g, o, none⟩) l.length cap) l.length (pcells l) := HS.out.keep ht2 (fun _ _ h => h)
  have hd1 := hs2.sliced 0 i cap (by omega) (by omega) (by omega) (by omega)
  have hd2 := hs2.sliced (i + 1) l.length cap (by omega) (by omega) (by omega) (by omega)
  rw [ha1] at hd1
  rw [ha2] at hd2
  simp only [Nat.zero_mul, List.drop_zero, Nat.sub_zero, pcells_take] at hd1
  rw [pcells_drop, List.take_of_length_le (by rw [pcells_len, List.length_drop]; omega)] at hd2
  have hsrc1 := hd1.src (pcells_one _)
  have hsrc2 := hd2.src (pcells_one _)
  have HA1 := Lib.hid ha1
  have HA2 := Lib.hid ha2
  have HSRC1 := Lib.hid hsrc1
  have HSRC2 := Lib.hid hsrc2
  clear ha1 ha2 hs2 hd1 hd2 hsrc1 hsrc2
  obtain ⟨i0, hi, hz0, hzz1, hzz2⟩ := info_parts infoPc
  refine wp_region_mix [(0, true, true), (2, true, true), (3, true, true), (4, true, true), (5, true, true), (6, true, true), (7, true, true), (9, true, true), (10, true, true), (11, true, true), (12, true, true), (13, true, true), (14, true, true), (15, true, true), (1, false, true), (8, false, true), (16, false, true), (17, true, true), (18, true, true), (19, false, false)] (fun w' => w'.heap[p]? = some (.cells #[.slice (some ⟨g, o, none⟩) l.length cap, .int .i64 lost] 41 (0, 0))) (by kernel_rfl) (by kernel_rfl) (hp2) ?_
  simp only [picked, List.filterMap_cons, List.filterMap_nil, List.getElem?_toArray, List.getElem?_cons_zero, List.getElem?_cons_succ, Option.map_some]
  obtain ⟨W0, hW0⟩ : ∃ W0, W0 = w2.drew := ⟨_, rfl⟩
  rw [← hW0]
  have ht0 : Turns nobody w2 W0 := by rw [hW0]; exact (Turns.refl _ _).drew
  have HZ0 : Hid (W0.heap.size = w2.heap.size) := Lib.hid (by rw [hW0]; rfl)
  clear hW0
  repeat (refine mix_free (v := ?_) rfl ?_ ?_; rotate_left; (focus (intro w' hI; have d0 := cells_of hI 0 _ rfl; clear hI; go_simp; try with_reducible rfl)); simp only [Act.put, List.setIfInBounds_toArray, List.set_cons_zero, List.set_cons_succ])
  refine mix_free (v := .slice a1 i cap) rfl (fun w' hI => by have n1 : (0 : Int) ≤ (i : Int) := (by omega); have n2 : (i : Int) ≤ (cap : Int) := (by omega); rw [← HA1.out]; go_simp) ?_
  simp only [Act.put, List.setIfInBounds_toArray, List.set_cons_zero, List.set_cons_succ]
  repeat (refine mix_free (v := ?_) rfl ?_ ?_; rotate_left; (focus (intro w' hI; have d0 := cells_of hI 0 _ rfl; clear hI; go_simp; try with_reducible rfl)); simp only [Act.put, List.setIfInBounds_toArray, List.set_cons_zero, List.set_cons_succ])
  refine mix_free (v := .slice a2 (l.length - (i + 1)) (cap - (i + 1))) rfl (fun w' hI => by have n1 : (0 : Int) ≤ (i : Int) + 1 := (by omega); have n2 : (i : Int) + 1 ≤ (l.length : Int) := (by omega); have n3 : IntKind.i64.wrap ((i : Int) + 1) = (i : Int) + 1 := (IntWalk.i64_in _ (by omega)); have n4 : ((i : Int) + 1).toNat = i + 1 := (by omega); rw [← HA2.out]; go_simp) ?_
  simp only [Act.put, List.setIfInBounds_toArray, List.set_cons_zero, List.set_cons_succ]
  refine mix_big rfl (fun K hK => ?_)
  go_wp2
  have ht0a := ht0.alloc (.cells #[] 30)
  have HE1 : Hid (Sl _ 30 3 _ 0 []) := Lib.hid (Sl.empty (sz := 3) (heap_alloc_new W0 (.cells #[] 30)) (Nat.zero_le _))
  refine hK _ _ (fun _ => heap_newer hp2 ht0a (fun h => h)) ?_
  clear hK K
  have HQ1 := Lib.hid (HSRC1.out.keep ht0a (fun _ _ h => h))
  refine mix_big rfl (fun K hK => ?_)
  go_wp2_with (at_builtin; refine wpList_append_sl rfl _ _ 22 rfl Try.underlying22 hi hz0 hzz1 hzz2 rfl (by decide) rfl rfl HE1.out HQ1.out (by unfold maxLen; omega) (by omega) ?_)
  intro v6 w6 h6 _ hn6 hc6
  try simp only [Nat.zero_add, List.nil_append] at h6
  have ht6 := ht0a.trans (hc6 _ rfl).1 (fun _ h => h.elim)
  have HF6 : Hid (∀ k, blk v6 k → w2.heap.size ≤ k) := fun k hk => by
    have hh := HZ0.out
    rcases hn6 k hk with h | h
    · simp only [blk, Value.ownBlock, Option.some.injEq] at h; omega
    · rw [World.size_alloc] at h; omega
  have H6 := Lib.hid h6
  refine hK _ _ (fun _ => heap_newer hp2 ht6 (fun h => h)) ?_
  clear hK K h6 hn6 hc6
  have HQ2 := Lib.hid (HSRC2.out.keep ht6 (fun _ _ h => h))
  refine mix_big rfl (fun K hK => ?_)
  go_wp2_with (at_builtin; refine wpList_append_sl rfl _ _ 22 rfl Try.underlying22 hi hz0 hzz1 hzz2 rfl (by decide) rfl rfl H6.out HQ2.out (by unfold maxLen; omega) (by omega) ?_)
  intro v' w3 hsl3 ht9 hnew3 _
  obtain ⟨ao', cap', rfl, _⟩ := hsl3.shape
  have hn : i + (l.length - (i + 1)) = (l.take i ++ l.drop (i + 1)).length := by rw [List.length_append, List.length_take, List.length_drop]; omega
  have hz1 := HZ1.out
  have hz2 := HZ2.out
  have ht3 : Turns (fun k => w2.heap.size ≤ k) w2 w3 := (ht6.mono (fun _ h => h.elim)).trans ht9 (fun k hk => Or.inl (HF6.out k hk))
  have hp3 : w3.heap[p]? = some (.cells #[.slice (some ⟨g, o, none⟩) l.length cap, .int .i64 lost] 41 (0, 0)) := heap_newer hp2 ht3 (by omega)
  have hx3 := heap_newer hx2 ht3 (by omega)
  have h03 := heap_newer h02 ht3 (by omega)
  have hstep : Step F (RefAt p (l.take i ++ l.drop (i + 1)) lost) w2 (w3.setCell ⟨p, 0, none⟩ (.slice ao' (i + (l.length - (i + 1))) cap')) := by
    unfold RefAt
    rw [pcells_append]
    rw [hn] at hsl3 hnew3 ⊢
    refine Box1.put ((local_ref p l lost).keep HH.out ht2 (fun _ _ h => h)) (ht3.mono (fun k hk => Or.inr hk)) hp3 hsl3 (fun k hk => ?_) 0 rfl
    rcases hnew3 k hk with h | h
    · exact Or.inr (HF6.out k h)
    · have := ht6.size
      exact Or.inr (by omega)
  clear hz1 hz2 hn
  have d0 := cells_of hp3 0 _ rfl
  have df := free_of hp3 0
  refine hK _ _ (fun _ => hp3) ?_
  clear hK K
  repeat (refine mix_free (v := ?_) rfl ?_ ?_; rotate_left; (focus (intro w' hI; go_simp; try with_reducible rfl)); simp only [Act.put, List.setIfInBounds_toArray, List.set_cons_zero, List.set_cons_succ])
  refine mix_big rfl (fun K hK => ?_)
  go_wp2
  refine hK _ _ (fun h => by cases h) ?_
  clear hK K
  refine mix_nil ?_
  have hz1 := HZ1.out
  obtain ⟨w4, hw4⟩ : ∃ w4, w4 = w3.setCell ⟨p, 0, none⟩ (.slice ao' (i + (l.length - (i + 1))) cap') := ⟨_, rfl⟩
  have hx4 : w4.heap[w1.heap.size]? = some (.cells #[.int .i64 x.f, .int .i64 x.t, .string x.b] 30 (0, 0)) := by rw [hw4, Below.heap_setCell _ _ _ _ (by simp only; omega)]; exact hx3
  have h04 : w4.heap[w.heap.size]? = some (.cells #[.int .i64 0, .int .i64 0, .string ⟨#[]⟩] 30 (0, 0)) := by rw [hw4, Below.heap_setCell _ _ _ _ (by simp only; omega)]; exact h03
  rw [← hw4] at hstep ⊢
  have HE := Lib.hid hstep
  clear hz1 hw4 hstep d0 df hp3 hx3 h03 hsl3 ht3 ht9 hnew3 hx2 h02 hp2 ht6 ht0a ht0
  have x0 := cells_of hx4 0 _ rfl
  have x1 := cells_of hx4 1 _ rfl
  have x2 := cells_of hx4 2 _ rfl
  have y0 := cells_of h04 0 _ rfl
  have y1 := cells_of h04 1 _ rfl
  have y2 := cells_of h04 2 _ rfl
  have q0 := free_of h04 0
  have q1 := free_of h04 1
  have q2 := free_of h04 2
  go_wp2
  obtain ⟨w5, hw5⟩ : ∃ w5, w5 = ((w4.setCell ⟨w.heap.size, 0, none⟩ (.int .i64 x.f)).setCell ⟨w.heap.size, 1, none⟩ (.int .i64 x.t)).setCell ⟨w.heap.size, 2, none⟩ (.string x.b) := ⟨_, rfl⟩
  have h05 : w5.heap[w.heap.size]? = some (.cells #[.int .i64 x.f, .int .i64 x.t, .string x.b] 30 (0, 0)) := by rw [hw5]; exact heap_setCell_at (heap_setCell_at (heap_setCell_at h04 0 _) 1 _) 2 _
  have hfin : Step F (RefAt p (l.take i ++ l.drop (i + 1)) lost) w w5 := by
    refine HE.out.aside (G := fun k => k = w.heap.size) (local_ref _ _ _) ht2 ?_ ?_
    · rw [hw5]
      exact (((Turns.refl (fun k => k = w.heap.size) w4).setCell _ _ _ (Or.inl rfl)).setCell _ _ _ (Or.inl rfl)).setCell _ _ _ (Or.inl rfl)
    · rintro i rfl
      have := HZ2.out
      refine ⟨by omega, by omega, fun hf => ?_⟩
      rw [HF.out] at hf
      rcases hf with hf | hf
      · omega
      · simp only [blk, Value.ownBlock, Option.some.injEq] at hf
        omega
  rw [← hw5]
  clear hw5 x0 x1 x2 y0 y1 y2 q0 q1 q2
  have z0 := cells_of h05 0 _ rfl
  have z1 := cells_of h05 1 _ rfl
  have z2 := cells_of h05 2 _ rfl
  exact bodyPost_ret (v := .tuple #[x.val, .int .i64 0]) (by simp [results, Try.results16, go_sem, Pc.val, z0, z1, z2]) rfl ⟨rfl, hfin⟩

end Go.Proofs.Ytjjapnphljhicaa.net
