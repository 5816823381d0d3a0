/- Package chase: Over. -/
import Derived.Test.YtcgnadihjbdolabChaseWant
namespace Go.Proofs.Ytcgnadihjbdolab.chase
open Go.RowKit
open Go.Proofs.Ytcgnadihjbdolab.stepkit Go.Proofs.Ytcgnadihjbdolab.row Go.Proofs.Ytcgnadihjbdolab.mix Go.Proofs.Ytcgnadihjbdolab.obj Go.Proofs.Ytcgnadihjbdolab.eqkit Go.Proofs.Ytcgnadihjbdolab.idkit

def overOf (l : List Ch) (t : Int) : List Ch := l.filter fun c => decide (c.due ≤ t)
def leftOf (l : List Ch) (t : Int) : List Ch := l.filter fun c => !decide (c.due ≤ t)

theorem over_fn (c : Ch) (hc : c.id.length = 32) (b : Nat) (t : Int) (w : World) (h : w.heap[b]? = some (.cells #[.int .i64 t] 3 (0, 0))) :
    Calls Try.prog 18 #[.agg c.cs.toArray, .pointer (some ⟨b, 0, none⟩)] w fun e w' => e = .returned (.bool (decide (c.due ≤ t))) ∧ Turns nobody w w' := by
  have ht := (Turns.refl nobody w).alloc (.cells c.cs.toArray 34)
  have e0 := cells_of (heap_newer h ht (fun h => h)) 0 _ rfl
  have e1 : (w.alloc (.cells c.cs.toArray 34)).cell? ⟨w.heap.size, 33, none⟩ = some (.int .i64 c.due) := by
    refine cells_of (heap_alloc_new w _) 33 _ ?_
    unfold Ch.cs
    simp only [List.getElem?_toArray]
    rw [List.getElem?_append_right (by rw [idc_len, hc]; omega), idc_len, hc]
    rfl
  clear h
  go_enter Try.func18, Try.ntmps18
  go_wp2
  refine ⟨rfl, _, results_tmp (t := 3) ?_ _ _ _, ?_⟩
  · kernel_rfl
  · exact ⟨rfl, ht⟩

/-- Behind k rounds. -/
structure Ov (w1 : World) (l : List Ch) (t : Int) (k : Nat) (a b : Value) (wr : World) : Prop where
  out : CSl wr a (overOf (l.take k) t)
  left : CSl wr b (leftOf (l.take k) t)
  still : Turns nobody w1 wr
  newA : ∀ j, blk a j → w1.heap.size ≤ j
  newB : ∀ j, blk b j → w1.heap.size ≤ j
  apart : ∀ j, blk a j → ¬ blk b j

theorem over_take {l : List Ch} {k : Nat} (hk : k < l.length) (t : Int) : overOf (l.take (k + 1)) t = overOf (l.take k) t ++ (if (l.getD k ch0).due ≤ t then [l.getD k ch0] else []) := by
  unfold overOf
  rw [List.take_succ_eq_append_getElem hk, List.filter_append, List.getD, List.getElem?_eq_getElem hk]
  by_cases h : l[k].due ≤ t <;> simp [List.filter, h]
theorem left_take {l : List Ch} {k : Nat} (hk : k < l.length) (t : Int) : leftOf (l.take (k + 1)) t = leftOf (l.take k) t ++ (if (l.getD k ch0).due ≤ t then [] else [l.getD k ch0]) := by
  unfold leftOf
  rw [List.take_succ_eq_append_getElem hk, List.filter_append, List.getD, List.getElem?_eq_getElem hk]
  by_cases h : l[k].due ≤ t <;> simp [List.filter, h]
theorem over_len (l : List Ch) (t : Int) : (overOf l t).length ≤ l.length := List.length_filter_le _ _
theorem left_len (l : List Ch) (t : Int) : (leftOf l t).length ≤ l.length := List.length_filter_le _ _

set_option maxRecDepth 10000 in
set_option maxHeartbeats 1000000 in
theorem over_any (p : Nat) (l : List Ch) (now : Int) (F : Nat → Prop) (w : World) (h : ChAt p l F w) (hw : Whole l) (hl2 : l.length ≤ 1024) :
    Calls Try.prog 11 #[.pointer (some ⟨p, 0, none⟩), .int .i64 now] w fun e w' => ∃ v, e = .returned v ∧ CSl w' v (overOf l (clk now)) ∧ (∀ j, blk v j → w.heap.size ≤ j) ∧ Step F (ChAt p (leftOf l (clk now))) w w' := by
  obtain ⟨t, ht'⟩ : ∃ t, clk now = t := ⟨_, rfl⟩
  simp only [ht']
  obtain ⟨i0, z0, hi, hz0, hz1, hz2, hz3⟩ := infoChs_parts
  have HH := Lib.hid h
  obtain ⟨v, hp, hs, hne, hF⟩ := h
  obtain ⟨ao, cap, rfl, hnc, hcm, _⟩ := hs.shape
  have hpl := lt_of_block hp
  have c1 := cells_of hp 1 _ rfl
  obtain ⟨w1, hw1⟩ : ∃ w1, w1 = w.alloc (.cells #[.int .i64 t] 3) := ⟨_, rfl⟩
  have ht1 : Turns nobody w w1 := by rw [hw1]; exact (Turns.refl _ _).alloc _
  have htb : w1.heap[w.heap.size]? = some (.cells #[.int .i64 t] 3 (0, 0)) := by rw [hw1]; exact heap_alloc_new w _
  have hp1 := heap_newer hp ht1 (fun h => h)
  have hs1 := Sl.keep hs ht1 (fun _ _ h => h)
  have HL : ∀ k, k < l.length → ∃ g o, ao = some ⟨g, o, none⟩ ∧ ∀ W, Turns nobody w1 W → W.rangeAt g (o + k * 34) (l.getD k ch0).cs := fun k hk => by
    obtain ⟨g, o, c, hv, _⟩ := hs.some_of_pos (by omega)
    cases hv
    exact ⟨g, o, rfl, fun W ht => range_turns (CSl.range hw hs1 k hk) ht⟩
  have HC : ∀ k, k < l.length → (l.getD k ch0).id.length = 32 := fun k hk => hw _ (by rw [List.getD, List.getElem?_eq_getElem hk]; exact List.getElem_mem _)
  have C0 : Hid (∀ W, Turns nobody w1 W → W.cell? ⟨p, 0, none⟩ = some (.slice ao l.length cap)) := Lib.hid fun W hW => cells_of (heap_newer hp1 hW (fun h => h)) 0 _ rfl
  have C2 : Hid (∀ W, Turns nobody w1 W → W.heap[w.heap.size]? = some (.cells #[.int .i64 t] 3 (0, 0))) := Lib.hid fun W hW => heap_newer htb hW (fun h => h)
  have C3 : Hid (∀ W, Turns nobody w1 W → W.heap[p]? = some (.cells #[.slice ao l.length cap, .bool true] 42 (0, 0))) := Lib.hid fun W hW => heap_newer hp1 hW (fun h => h)
  have HHL := Lib.hid HL
  have HW := Lib.hid hw1
  have HT1 := Lib.hid ht1
  have c0 : w.cell? ⟨p, 0, none⟩ = some (.slice ao l.length cap) := cells_of hp 0 _ rfl
  clear HL hs hs1 hp hp1 hF htb hw1 ht1 hne
  go_enter Try.func11, Try.ntmps11
  go_wp2_with first
    | (go_at_call 13; refine (none_no _ _ c1).mono ?_; rintro e w' ⟨rfl, rfl⟩)
    | (go_at_call 16; refine (clock_any _ _).mono ?_; rintro e w' ⟨rfl, rfl⟩; try rw [ht'])
  rw [← HW.out]
  go_loopw [7, 8, 20] (fun a b i wr => ∃ k : Nat, k ≤ l.length ∧ i = .int .i64 k ∧ Ov w1 l t k a b wr) (fun _ _ i _ => l.length - (intOf i).toNat)
  case atStart => exact ⟨0, Nat.zero_le _, rfl, ⟨CSl.nil _, CSl.nil _, Turns.refl _ _, (fun j h => by cases h), (fun j h => by cases h), (fun j h => by cases h)⟩⟩
  case round =>
    obtain ⟨k, hk, rfl, hO⟩ := hrel
    by_cases hlt : k < l.length
    · obtain ⟨g, o, rfl, hr⟩ := HHL.out k hlt
      have hc := HC k hlt
      have S1 := Lib.hid (show (Try.prog.info? 34).map (·.size) = some (l.getD k ch0).cs.length by rw [infoCh, cs_len hc])
      have H1 := Lib.hid (hr _ hO.still)
      have d0 := C0.out wr hO.still
      have hov := over_fn (l.getD k ch0) hc w.heap.size t wr (C2.out wr hO.still)
      have eo := over_take hlt t
      have el := left_take hlt t
      have hb := fun W => slice_ch (l.getD k ch0) hc W
      have sone := fun (b : Nat) (W : World) (h : W.heap[b]? = _) => src_one (w := W) (b := b) (c := l.getD k ch0) h hc
      have hla := over_len (l.take k) t
      have hlb := left_len (l.take k) t
      have hlk : (l.take k).length = k := by rw [List.length_take]; omega
      generalize l.getD k ch0 = x at *
      have HB := Lib.hid hb
      clear hb
      by_cases hx : x.due ≤ t
      · rw [if_pos hx] at eo el
        rw [List.append_nil] at el
        rw [decide_eq_true hx] at hov
        go_wp2_with first
          | (with_reducible refine wpList_load_mid rfl _ _ rfl _ _ rfl _ _ H1.out Try.underlying34 rfl S1.out ?_)
          | (go_at_call 18; refine hov.mono ?_; rintro e w2 ⟨rfl, h1⟩; have d0 := C0.out w2 (hO.still.trans h1 (fun _ h => False.elim h)); replace H1 := Lib.hid (range_turns H1.out h1))
          | (with_reducible refine wpList_build_run rfl _ _ _ rfl #[(0, .agg x.cs.toArray)] (by kernel_rfl) (HB.out _) ?_)
          | (at_builtin; refine wpList_append_sl rfl _ _ 31 rfl Try.underlying31 hi hz0 hz1 hz2 hz3 (by decide) rfl rfl (Sl.keep (show Sl wr 34 34 u7 _ _ from hO.out) (h1.alloc _) (fun _ _ h => h)) (sone _ _ (heap_alloc_new _ _)) (by unfold maxLen; omega) (by omega) ?_; intro v3 w3 g1 g2 g3 g4)
        have hT : Turns (blk u7) wr w3 := ((h1.alloc _).mono (fun _ h => False.elim h)).trans g2 (fun i h => Or.inl h)
        have hz := (h1.alloc (.cells x.cs.toArray 34)).size
        refine ⟨⟨k + 1, by omega, by go_num, ⟨?_, ?_, hO.still.trans hT (fun i h => Or.inr (hO.newA i h)), ?_, ?_, ?_⟩⟩, by simp [intOf]; omega⟩
        · show Sl _ _ _ _ _ _
          rw [eo, List.length_append, ccells_append]
          exact g1
        · rw [el]
          exact Sl.keep (show Sl _ _ _ _ _ _ from hO.left) hT (fun i hb ha => hO.apart i ha hb)
        · intro j hj
          rcases g3 j hj with h | h
          · exact hO.newA j h
          · exact Nat.le_trans hO.still.size (Nat.le_trans hz h)
        · exact hO.newB
        · intro j ha hb
          rcases g3 j ha with h | h
          · exact hO.apart j h hb
          · have := Sl.lt (show Sl _ _ _ _ _ _ from hO.left) j hb
            omega
      · rw [if_neg hx] at eo el
        rw [List.append_nil] at eo
        rw [decide_eq_false hx] at hov
        go_wp2_with first
          | (with_reducible refine wpList_load_mid rfl _ _ rfl _ _ rfl _ _ H1.out Try.underlying34 rfl S1.out ?_)
          | (go_at_call 18; refine hov.mono ?_; rintro e w2 ⟨rfl, h1⟩; have d0 := C0.out w2 (hO.still.trans h1 (fun _ h => False.elim h)); replace H1 := Lib.hid (range_turns H1.out h1))
          | (with_reducible refine wpList_build_run rfl _ _ _ rfl #[(0, .agg x.cs.toArray)] (by kernel_rfl) (HB.out _) ?_)
          | (at_builtin; refine wpList_append_sl rfl _ _ 31 rfl Try.underlying31 hi hz0 hz1 hz2 hz3 (by decide) rfl rfl (Sl.keep (show Sl wr 34 34 u8 _ _ from hO.left) (h1.alloc _) (fun _ _ h => h)) (sone _ _ (heap_alloc_new _ _)) (by unfold maxLen; omega) (by omega) ?_; intro v3 w3 g1 g2 g3 g4)
        have hT : Turns (blk u8) wr w3 := ((h1.alloc _).mono (fun _ h => False.elim h)).trans g2 (fun i h => Or.inl h)
        have hz := (h1.alloc (.cells x.cs.toArray 34)).size
        refine ⟨⟨k + 1, by omega, by go_num, ⟨?_, ?_, hO.still.trans hT (fun i h => Or.inr (hO.newB i h)), ?_, ?_, ?_⟩⟩, by simp [intOf]; omega⟩
        · rw [eo]
          exact Sl.keep (show Sl _ _ _ _ _ _ from hO.out) hT (fun i hb ha => hO.apart i hb ha)
        · show Sl _ _ _ _ _ _
          rw [el, List.length_append, ccells_append]
          exact g1
        · exact hO.newA
        · intro j hj
          rcases g3 j hj with h | h
          · exact hO.newB j h
          · exact Nat.le_trans hO.still.size (Nat.le_trans hz h)
        · intro j ha hb
          rcases g3 j hb with h | h
          · exact hO.apart j ha h
          · have := Sl.lt (show Sl _ _ _ _ _ _ from hO.out) j ha
            omega
    · have hkl : k = l.length := by omega
      subst hkl
      have d0 := C3.out wr hO.still
      have ho := hO.out
      have hl := hO.left
      rw [List.take_length] at ho hl
      obtain ⟨a8, c8, h8, _⟩ := (show Sl _ _ _ _ _ _ from hl).shape
      have hz := HT1.out.size
      have hz1 : w1.heap.size = w.heap.size + 1 := by rw [HW.out]; simp
      have HE := Lib.hid (show Step F (ChAt p (leftOf l t)) w (wr.setCell ⟨p, 0, none⟩ u8) from
        Box1.put HH.out ((HT1.out.trans hO.still (fun _ h => False.elim h)).mono (fun _ h => False.elim h)) d0 hl (fun k hk => Or.inr (Nat.le_trans hz (hO.newB k hk))) 0 rfl)
      have HO' := Lib.hid (show CSl (wr.setCell ⟨p, 0, none⟩ u8) u7 (overOf l t) from Sl.keep ho (Turns.set wr p 0 u8) (fun i hi e => by have := hO.newA i hi; omega))
      have HN := Lib.hid (fun j (hj : blk u7 j) => Nat.le_trans hz (hO.newA j hj))
      have e0 := cells_of d0 0 _ rfl
      have e1 := free_of d0 0
      subst h8
      clear d0 hO ho hl
      go_wp2
      go_ret
      exact ⟨_, rfl, HO'.out, HN.out, HE.out⟩

end Go.Proofs.Ytcgnadihjbdolab.chase
