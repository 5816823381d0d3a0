/- Package chase: cut, and the methods. -/
import Derived.Test.YtcgnadihjbdolabChaseFind
namespace Go.Proofs.Ytcgnadihjbdolab.chase
open Go.RowKit
open Go.Proofs.Ytcgnadihjbdolab.stepkit Go.Proofs.Ytcgnadihjbdolab.row Go.Proofs.Ytcgnadihjbdolab.mix Go.Proofs.Ytcgnadihjbdolab.obj Go.Proofs.Ytcgnadihjbdolab.eqkit Go.Proofs.Ytcgnadihjbdolab.idkit

def ChAt (p : Nat) (l : List Ch) : (Nat → Prop) → World → Prop := Box1 42 34 34 p (fun v => #[v, .bool true]) l.length (ccells l)
theorem local_ch (p : Nat) (l : List Ch) : Local (ChAt p l) := local_box1 _ _ _ _ _ _ _
theorem free_of {w : World} {p : Nat} {cs : Array Value} {t : TypeId} (h : w.heap[p]? = some (.cells cs t (0, 0))) (i : Nat) : w.frozen? ⟨p, i, none⟩ = false := by simp [World.frozen?, h]
theorem whole_take {l : List Ch} (h : Whole l) (k : Nat) : Whole (l.take k) := fun c hc => h c (List.mem_of_mem_take hc)
theorem whole_drop {l : List Ch} (h : Whole l) (k : Nat) : Whole (l.drop k) := fun c hc => h c (List.mem_of_mem_drop hc)

set_option maxRecDepth 10000 in
set_option maxHeartbeats 1000000 in
theorem cut_any (p : Nat) (l : List Ch) (i : Nat) (F : Nat → Prop) (w : World) (h : ChAt p l F w) (hw : Whole l) (hil : i < l.length) (hl2 : l.length ≤ 1024) :
    Calls Try.prog 15 #[.pointer (some ⟨p, 0, none⟩), .int .i64 i] w fun e w' => e = .returned (.tuple #[]) ∧ Step F (ChAt p (l.take i ++ l.drop (i + 1))) w w' := by
  have HH := Lib.hid h
  obtain ⟨v, hp, hs, hne, hF⟩ := h
  obtain ⟨ao, cap, rfl, hnc, hcm, _⟩ := hs.shape
  obtain ⟨g, o, cap', hv, hgl⟩ := hs.some_of_pos (by omega)
  cases hv
  have hpl := lt_of_block hp
  obtain ⟨a1, ha1⟩ : ∃ a1, Go.sliced (some ⟨g, o, none⟩) 0 i cap 34 = .slice a1 i cap := ⟨_, rfl⟩
  obtain ⟨a2, ha2⟩ : ∃ a2, Go.sliced (some ⟨g, o, none⟩) (i + 1) l.length cap 34 = .slice a2 (l.length - (i + 1)) (cap - (i + 1)) := ⟨_, rfl⟩
  have hd1 := hs.sliced 0 i cap (by omega) (by omega) (by omega) (by omega)
  have hd2 := hs.sliced (i + 1) l.length cap (by omega) (by omega) (by omega) (by omega)
  rw [ha1] at hd1
  rw [ha2] at hd2
  simp only [Nat.zero_mul, List.drop_zero, Nat.sub_zero, ccells_take hw] at hd1
  rw [ccells_drop hw, List.take_of_length_le (by rw [ccells_len (whole_drop hw _), List.length_drop]; omega)] at hd2
  have hd1' : CSl w (.slice a1 i cap) (l.take i) := by unfold CSl; rw [List.length_take, Nat.min_eq_left (by omega)]; exact hd1
  have hd2' : CSl w (.slice a2 (l.length - (i + 1)) (cap - (i + 1))) (l.drop (i + 1)) := by unfold CSl; rw [List.length_drop]; exact hd2
  have HA1 := Lib.hid ha1
  have HA2 := Lib.hid ha2
  have HD1 := Lib.hid hd1'
  have HD2 := Lib.hid hd2'
  have HF := Lib.hid hF
  unfold maxLen at hcm
  clear hF hs ha1 ha2 hd1 hd2 hd1' hd2'
  go_enter Try.func15, Try.ntmps15
  refine wp_region_mix [(0, true, true), (1, true, true), (2, true, true), (3, true, true), (4, true, true), (5, true, true), (6, true, true), (7, true, true), (8, true, true), (9, true, true), (10, true, true), (11, true, true), (12, true, true), (13, true, true), (14, false, true), (15, false, true), (16, true, true), (17, true, true), (18, false, false)] (fun w' => w'.heap[p]? = some (.cells #[.slice (some ⟨g, o, none⟩) l.length cap, .bool true] 42 (0, 0))) (by kernel_rfl) (by kernel_rfl) (hp) ?_
  simp only [picked, List.filterMap_cons, List.filterMap_nil, List.getElem?_toArray, List.getElem?_cons_zero, List.getElem?_cons_succ, Option.map_some]
  repeat (refine mix_free (v := ?_) rfl ?_ ?_; rotate_left; (focus (intro w' hI; have d0 := cells_of hI 0 _ rfl; clear hI; go_simp; try with_reducible rfl)); simp only [Act.put, List.setIfInBounds_toArray, List.set_cons_zero, List.set_cons_succ])
  refine mix_free (v := .slice a1 i cap) rfl (fun w' hI => by have n1 : (0 : Int) ≤ (i : Int) := (by omega); have n2 : (i : Int) ≤ (cap : Int) := (by omega); rw [← HA1.out]; go_simp) ?_
  simp only [Act.put, List.setIfInBounds_toArray, List.set_cons_zero, List.set_cons_succ]
  repeat (refine mix_free (v := ?_) rfl ?_ ?_; rotate_left; (focus (intro w' hI; have d0 := cells_of hI 0 _ rfl; clear hI; go_simp; try with_reducible rfl)); simp only [Act.put, List.setIfInBounds_toArray, List.set_cons_zero, List.set_cons_succ])
  refine mix_free (v := .slice a2 (l.length - (i + 1)) (cap - (i + 1))) rfl (fun w' hI => by have n1 : (0 : Int) ≤ (i : Int) + 1 := (by omega); have n2 : (i : Int) + 1 ≤ (l.length : Int) := (by omega); have n3 : IntKind.i64.wrap ((i : Int) + 1) = (i : Int) + 1 := (IntWalk.i64_in _ (by omega)); have n4 : ((i : Int) + 1).toNat = i + 1 := (by omega); rw [← HA2.out]; go_simp) ?_
  simp only [Act.put, List.setIfInBounds_toArray, List.set_cons_zero, List.set_cons_succ]
  refine mix_big rfl (fun K hK => ?_)
  go_wp2
  obtain ⟨w1, hw1⟩ : ∃ w1, w1 = (w.alloc (.cells #[.slice a1 i cap, .slice a2 (l.length - (i + 1)) (cap - (i + 1))] 31)).drew := ⟨_, rfl⟩
  have ht1 : Turns nobody w w1 := by rw [hw1]; exact ((Turns.refl _ _).alloc _).drew
  have hg1 : w1.heap[w.heap.size]? = some (.cells #[.slice a1 i cap, .slice a2 (l.length - (i + 1)) (cap - (i + 1))] 31 (0, 0)) := by rw [hw1]; exact heap_alloc_new w _
  have hp1 := heap_newer hp ht1 (fun h => h)
  have hcc := concat_any w.heap.size _ _ (l.take i) (l.drop (i + 1)) (whole_take hw _) (whole_drop hw _) w1 hg1 (HD1.out.keep ht1 (fun _ _ h => h)) (HD2.out.keep ht1 (fun _ _ h => h)) (by rw [List.length_take, List.length_drop]; omega)
  rw [← hw1]
  refine hK _ _ (fun _ => hp1) ?_
  clear hK K hw1 hg1 hp
  refine mix_big rfl (fun K hK => ?_)
  go_wp2_with (go_at_call 21; refine hcc.mono ?_; rintro e w2 ⟨v, rfl, g1, g2, g3⟩)
  obtain ⟨ao', cap', rfl, _⟩ := (show Sl _ _ _ _ _ _ from g1).shape
  have hp2 := heap_newer hp1 g2 (fun h => h)
  have ht2 := ht1.trans g2 (fun _ h => False.elim h)
  have hstep : Step F (ChAt p (l.take i ++ l.drop (i + 1))) w (w2.setCell ⟨p, 0, none⟩ (.slice ao' (l.take i ++ l.drop (i + 1)).length cap')) := by
    refine Box1.put HH.out (ht2.mono (fun k hk => False.elim hk)) hp2 g1 (fun k hk => Or.inr (Nat.le_trans ht1.size (g3 k hk))) 0 rfl
  refine hK _ _ (fun _ => hp2) ?_
  have d0 := cells_of hp2 0 _ rfl
  have df := free_of hp2 0
  have HE := Lib.hid hstep
  clear hK K hstep g1 g2 g3 hp1 hp2 ht1 ht2 hcc
  repeat (refine mix_free (v := ?_) rfl ?_ ?_; rotate_left; (focus (intro w' hI; go_simp; try with_reducible rfl)); simp only [Act.put, List.setIfInBounds_toArray, List.set_cons_zero, List.set_cons_succ])
  refine mix_big rfl (fun K hK => ?_)
  go_wp2
  refine hK _ _ (fun h => by cases h) ?_
  clear hK K
  refine mix_nil ?_
  go_wp2
  go_end0
  have he := HE.out
  rw [List.length_append, List.length_take, List.length_drop] at he
  exact ⟨rfl, he⟩

/-- A time within the limits. -/
def clk (n : Int) : Int := max 0 (min n 1073741824)
theorem clk_lo (n : Int) : 0 ≤ clk n := by unfold clk; omega
theorem clk_hi (n : Int) : clk n ≤ 1073741824 := by unfold clk; omega
theorem clock_any (n : Int) (w : World) : Calls Try.prog 16 #[.int .i64 n] w fun e w' => e = .returned (.int .i64 (clk n)) ∧ w = w' := by
  go_enter Try.func16, Try.ntmps16
  go_wp2
  all_goals go_ret
  all_goals refine ⟨?_, rfl⟩
  all_goals show Ending.returned (Value.int .i64 _) = Ending.returned (Value.int .i64 _)
  all_goals congr 2
  all_goals unfold clk
  all_goals first | omega | (split at * <;> omega)

theorem none_no (p : Nat) (w : World) (h : w.cell? ⟨p, 1, none⟩ = some (.bool true)) :
    Calls Try.prog 13 #[.pointer (some ⟨p, 0, none⟩)] w fun e w' => e = .returned (.bool false) ∧ w = w' := by
  go_enter Try.func13, Try.ntmps13
  go_wp2
  go_ret
  exact ⟨rfl, rfl⟩
theorem none_unmade (p : Nat) (w : World) (h : w.cell? ⟨p, 1, none⟩ = some (.bool false)) :
    Calls Try.prog 13 #[.pointer (some ⟨p, 0, none⟩)] w fun e w' => e = .returned (.bool true) ∧ w = w' := by
  go_enter Try.func13, Try.ntmps13
  go_wp2
  go_ret
  exact ⟨rfl, rfl⟩
theorem none_nil (w : World) :
    Calls Try.prog 13 #[.pointer none] w fun e w' => e = .returned (.bool true) ∧ w = w' := by
  go_enter Try.func13, Try.ntmps13
  go_wp2
  go_ret
  exact ⟨rfl, rfl⟩

theorem find_any (p : Nat) (l : List Ch) (id : List Int) (F : Nat → Prop) (w : World) (h : ChAt p l F w) (hw : Whole l) (hid : id.length = 32) (hl2 : l.length ≤ 1024) :
    Calls Try.prog 14 #[.pointer (some ⟨p, 0, none⟩), idv id] w fun e w' => e = .returned (.int .i64 (placeOf (findAt l id))) ∧ Turns nobody w w' := by
  obtain ⟨v, hp, hs, hne, hF⟩ := h
  have ht := (Turns.refl nobody w).alloc (.cells (idc id).toArray 26)
  have hx := index_any v l hw w.heap.size id hid _ (show CSl _ v l from Sl.keep hs ht (fun _ _ h => h)) hl2 (heap_alloc_new w _)
  have hp1 := heap_newer hp ht (fun h => h)
  have c0 := cells_of hp1 0 _ rfl
  obtain ⟨ao, cap, rfl, _⟩ := hs.shape
  clear hs hp hp1 hF
  unfold idv
  go_enter Try.func14, Try.ntmps14
  go_wp2_with (go_at_call 19; refine hx.mono ?_; rintro e w2 ⟨rfl, h1⟩)
  go_ret
  exact ⟨rfl, ht.trans h1 (fun _ h => False.elim h)⟩

theorem CSl.nil (w : World) : CSl w (.slice none 0 0) [] := Sl.nil _ _ _
theorem clone_any (v : Value) (l : List Ch) (w : World) (h : CSl w v l) (hl : l.length ≤ 1024) :
    Calls Try.prog 17 #[v] w fun e w' => ∃ v', e = .returned v' ∧ CSl w' v' l ∧ Turns nobody w w' ∧ ∀ k, blk v' k → w.heap.size ≤ k := by
  unfold CSl at *
  obtain ⟨ao, cap, rfl, hnc, hcm, hao, _⟩ := h.shape
  obtain ⟨i0, z0, hi, hz0, hz1, hz2, hz3⟩ := infoChs_parts
  have HS := Lib.hid (h.src (ccells_one l))
  have q22 : ∀ (w : World) (a : Option Addr) (n c n' c' : Nat), (binOp .eql 31 (.slice a n c) (.slice none n' c')).run Try.prog w = .ok (.bool a.isNone) w := fun w a n c n' c' => Lib.run_eql_slice_nil w _ _ a n c n' c' Try.underlying31
  cases ao with
  | none =>
    obtain ⟨h0, rfl⟩ := hao rfl
    clear h hao
    obtain rfl : l = [] := List.eq_nil_of_length_eq_zero h0
    go_enter Try.func17, Try.ntmps17
    go_wp2_with fail
    go_ret
    exact ⟨_, rfl, Sl.nil _ _ _, Turns.refl _ _, fun k hk => by cases hk⟩
  | some a =>
    clear h hao
    go_enter Try.func17, Try.ntmps17
    go_wp2_with (at_builtin; refine wpList_append_sl rfl _ _ 31 rfl Try.underlying31 hi hz0 hz1 hz2 hz3 (by decide) rfl rfl (Sl.empty (heap_alloc_new _ _) (Nat.zero_le _)) (HS.out.alloc _) (by unfold maxLen; omega) (by omega) ?_)
    intro v' w2 h1 h2 h3 h4
    go_wp2
    go_ret
    refine ⟨_, rfl, by simpa using h1, ((Turns.refl _ _).alloc _).trans (h4 _ rfl).1 (fun _ h => h.elim), fun k hk => ?_⟩
    rcases h3 k hk with h | h
    · simp only [blk, Value.ownBlock, Option.some.injEq] at h
      omega
    · simp at h
      omega

theorem all_any (p : Nat) (l : List Ch) (F : Nat → Prop) (w : World) (h : ChAt p l F w) (hl : l.length ≤ 1024) :
    Calls Try.prog 9 #[.pointer (some ⟨p, 0, none⟩)] w fun e w' => ∃ v', e = .returned v' ∧ CSl w' v' l ∧ Turns nobody w w' ∧ ∀ k, blk v' k → w.heap.size ≤ k := by
  obtain ⟨v, hp, hs, hne, hF⟩ := h
  have hc := clone_any v l w hs hl
  have c0 := cells_of hp 0 _ rfl
  have c1 := cells_of hp 1 _ rfl
  obtain ⟨ao, cap, rfl, _⟩ := hs.shape
  clear hp hs hF
  go_enter Try.func9, Try.ntmps9
  go_wp2_with first | (go_at_call 13; refine (none_no _ _ c1).mono ?_; rintro e w' ⟨rfl, rfl⟩) | (go_at_call 17; refine hc.mono ?_; rintro e w' ⟨v', rfl, h1, h2, h3⟩)
  go_ret
  exact ⟨_, rfl, h1, h2, h3⟩

theorem len_any (p : Nat) (l : List Ch) (F : Nat → Prop) (w : World) (h : ChAt p l F w) :
    Calls Try.prog 12 #[.pointer (some ⟨p, 0, none⟩)] w fun e w' => e = .returned (.int .i64 l.length) ∧ w = w' := by
  obtain ⟨v, hp, hs, hne, hF⟩ := h
  have c0 := cells_of hp 0 _ rfl
  have c1 := cells_of hp 1 _ rfl
  obtain ⟨ao, cap, rfl, _⟩ := hs.shape
  clear hp hs hF
  go_enter Try.func12, Try.ntmps12
  go_wp2_with (go_at_call 13; refine (none_no _ _ c1).mono ?_; rintro e w' ⟨rfl, rfl⟩)
  go_ret
  exact ⟨rfl, rfl⟩

/-- What is left, where one is found. -/
def dropAt (l : List Ch) : Option Nat → List Ch
  | none => l
  | some k => l.take k ++ l.drop (k + 1)

theorem done_any (p : Nat) (l : List Ch) (id : List Int) (F : Nat → Prop) (w : World) (h : ChAt p l F w) (hw : Whole l) (hid : id.length = 32) (hl2 : l.length ≤ 1024) :
    Calls Try.prog 7 #[.pointer (some ⟨p, 0, none⟩), idv id] w fun e w' => e = .returned (.bool (findAt l id).isSome) ∧ Step F (ChAt p (dropAt l (findAt l id))) w w' := by
  have ht := (Turns.refl nobody w).alloc (.cells (idc id).toArray 26)
  obtain ⟨w1, hw1⟩ : ∃ w1, w1 = w.alloc (.cells (idc id).toArray 26) := ⟨_, rfl⟩
  rw [← hw1] at ht
  have h1 := (local_ch p l).keep h ht (fun _ _ h => h)
  have hf := find_any p l id F w1 h1 hw hid hl2
  have h1' := h1
  obtain ⟨v, hp, hs, hne, hF⟩ := h1'
  have c1 := cells_of hp 1 _ rfl
  clear hp hs hne hF
  have hx : w1.rangeAt w.heap.size 0 (idc id) := by have := range_block (w := w1) (b := w.heap.size) (cs := (idc id).toArray) (by rw [hw1]; exact heap_alloc_new w _); rw [List.toList_toArray] at this; exact this
  have HX := Lib.hid hx
  have S1 := Lib.hid (show (Try.prog.info? 26).map (·.size) = some (idc id).length by rw [infoId, idc_len, hid])
  have HW := Lib.hid hw1
  have HH := Lib.hid h
  clear hx hw1 h
  cases hfa : findAt l id with
  | none =>
    rw [hfa] at hf
    clear hfa
    unfold idv at *
    go_enter Try.func7, Try.ntmps7
    go_wp2_with fail
    rw [← HW.out]
    go_wp2_with first
      | (go_at_call 13; refine (none_no _ _ c1).mono ?_; rintro e w' ⟨rfl, rfl⟩)
      | (with_reducible refine wpList_load_mid rfl _ _ rfl _ _ rfl _ _ HX.out Try.underlying26 rfl S1.out ?_)
      | (go_at_call 14; refine hf.mono ?_; rintro e w2 ⟨rfl, g1⟩; simp only [placeOf])
    go_ret
    exact ⟨rfl, (Step.same HH.out (Turns.refl _ _)).still (local_ch _ _) (ht.trans g1 (fun _ h => False.elim h))⟩
  | some k =>
    have hk := (findAt_lt hfa).1
    have hcut : ∀ W, Turns nobody w1 W → Calls Try.prog 15 #[.pointer (some ⟨p, 0, none⟩), .int .i64 k] W fun e w' => e = .returned (.tuple #[]) ∧ Step F (ChAt p (l.take k ++ l.drop (k + 1))) W w' := fun W hW => cut_any p l k F W ((local_ch p l).keep h1 hW (fun _ _ h => h)) hw hk hl2
    rw [hfa] at hf
    clear hfa
    unfold idv at *
    go_enter Try.func7, Try.ntmps7
    go_wp2_with fail
    rw [← HW.out]
    go_wp2_with first
      | (go_at_call 13; refine (none_no _ _ c1).mono ?_; rintro e w' ⟨rfl, rfl⟩)
      | (with_reducible refine wpList_load_mid rfl _ _ rfl _ _ rfl _ _ HX.out Try.underlying26 rfl S1.out ?_)
      | (go_at_call 14; refine hf.mono ?_; rintro e w2 ⟨rfl, g1⟩; simp only [placeOf])
      | (go_at_call 15; refine (hcut w2 g1).mono ?_; rintro e w3 ⟨rfl, g3⟩)
    go_ret
    exact ⟨rfl, g3.before (ht.trans g1 (fun _ h => False.elim h))⟩

end Go.Proofs.Ytcgnadihjbdolab.chase
