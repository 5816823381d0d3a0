/- Package outbox: what is taken. -/
import Derived.Test.YtjjapnphljhicabOutbox
namespace Go.Proofs.Ytjjapnphljhicab.outbox
open Go.RowKit Go.Conc
open Go.Proofs.Ytjjapnphljhicab.stepkit Go.Proofs.Ytjjapnphljhicab.row Go.Proofs.Ytjjapnphljhicab.mix Go.Proofs.Ytjjapnphljhicab.obj Go.Proofs.Ytjjapnphljhicab.eqkit Go.Proofs.Ytjjapnphljhicab.commkit

theorem one_src {w : World} {g : Nat} {x : Ou} (h : w.heap[g]? = some (.cells #[.int .i64 x.t, .string x.b] 29 (0, 0))) : Src w 2 (.slice (some ⟨g, 0, none⟩) 1 1) 1 (ocells [x]) :=
  Src.of_row (by rfl) (ocells_one [x]) (by
    intro j u hj
    have e : ocells [x] = [.int .i64 x.t, .string x.b] := rfl
    rw [e] at hj
    obtain rfl | rfl | hj3 : j = 0 ∨ j = 1 ∨ 2 ≤ j := by omega
    · cases hj; rw [Addr.add_lit]; exact cells_of h _ _ rfl
    · cases hj; rw [Addr.add_lit]; exact cells_of h _ _ rfl
    · have := (List.getElem?_eq_some_iff.1 hj).1; simp at this; omega)

def lenOf : Value → Nat
  | .slice _ n _ => n
  | _ => 0

/-- At a round's head. -/
def TakeInv (p most c k : Nat) (l : List Ou) (lost n : Int) (F : Nat → Prop) (w : World) (a : Act) (wr : World) : Prop := ∃ (i : Nat) (v : Value) (u2 u3 u4 u6 u7 u8 u9 u10 u11 u12 u13 u14 u15 u16 u17 u18 u19 u20 u21 u22 u23 u24 u25 u26 : Value), i ≤ k ∧ a = ⟨#[.pointer (some ⟨p, 0, none⟩), .int .i64 n, u2, u3, u4, v, u6, u7, u8, u9, u10, u11, u12, u13, u14, u15, u16, u17, u18, u19, u20, u21, u22, u23, u24, u25, u26], []⟩ ∧ Sl wr 29 2 v i (ocells (l.take i)) ∧ (∀ j, blk v j → w.heap.size ≤ j) ∧ (∃ s r, wr.heap[p]? = some (.cells #[.chan (some c), .int .i64 lost] 47 (0, 0)) ∧ wr.heap[c]? = some (.chan most ((l.drop i).map Ou.val).toArray false s r false)) ∧ Turns F w wr
def takeMu (k : Nat) (a : Act) (_ : World) : Nat := k - lenOf (a.tmps.getD 5 undef)
theorem extract_tail (x : Value) (xs : List Value) : (x :: xs).toArray.extract 1 (x :: xs).toArray.size = xs.toArray := by
  apply Array.ext'
  simp

set_option maxRecDepth 10000 in
set_option maxHeartbeats 1000000 in
theorem take_any (p most : Nat) (l : List Ou) (lost : Int) (n : Int) (F : Nat → Prop) (w : World) (h : OutAt p most l lost F w) (hl2 : l.length ≤ 1024) (k : Nat) (hk : k = min n.toNat l.length) :
    Calls Try.prog 9 #[.pointer (some ⟨p, 0, none⟩), .int .i64 n] w fun e w' => ∃ v, e = .returned v ∧ OSl w' v (l.take k) ∧ (∀ j, blk v j → w.heap.size ≤ j) ∧ Step F (OutAt p most (l.drop k) lost) w w' := by
  have hk1 : k ≤ l.length := by omega
  have hk2 : n ≤ (k : Int) ∨ k = l.length := by omega
  have hk3 : (k : Int) ≤ n ∨ k = 0 := by omega
  clear hk
  obtain ⟨i0, hi, hz0, hzz1, hzz2⟩ := info_parts infoOu
  obtain ⟨c, s, r, hp, hc, hne, hF⟩ := h
  have c0 : w.cell? ⟨p, 0, none⟩ = some (.chan (some c)) := cells_of hp 0 _ rfl
  have HC := Lib.hid hc
  have HP := Lib.hid hp
  have HF := Lib.hid hF
  clear hp hc hF
  refine calls_of_wpN Try.func9 rfl ?_
  simp only [Try.ntmps9, List.size_toArray, List.length_cons, List.length_nil, Nat.reduceAdd, Nat.reduceSub, Array.replicate_succ, Array.replicate_zero, List.push_toArray, List.append_toArray, List.nil_append, List.cons_append]
  apply wpN_seq_k; intro K hK
  refine wpN_of ?_
  go_wp2
  try clear hK K
  apply wpN_seq_k; intro K hK
  refine wpN_of ?_
  go_wp2_with (go_at_call 16; refine (none_no _ _ _ c0).mono ?_; rintro e w' ⟨rfl, rfl⟩)
  try clear hK K
  apply wpN_seq_k; intro K hK
  refine wpN_of ?_
  go_wp2
  try clear hK K
  apply wpN_seq_k; intro K hK
  refine wpN_block ?_
  have hpl := lt_of_block HP.out
  have hcl := lt_of_block HC.out
  have hpF : F p := by rw [HF.out]; exact Or.inl rfl
  have hcF : F c := by rw [HF.out]; exact Or.inr rfl
  have HPF := Lib.hid (And.intro hpF hcF)
  clear hpF hcF
  refine wpN_loop (TakeInv p most c k l lost n F w) (takeMu k) ?_ ?_
  · exact ⟨0, .slice none 0 0, _, _, _, _, _, _, _, _, _, _, _, _, _, _, _, _, _, _, _, _, _, _, _, _, by omega, rfl, by rw [List.take_zero]; exact Sl.nil _ _ _, (fun j hj => by cases hj), ⟨s, r, HP.out, by rw [List.drop_zero]; exact HC.out⟩, Turns.refl _ _⟩
  rintro a wr ⟨i, v, u2, u3, u4, u6, u7, u8, u9, u10, u11, u12, u13, u14, u15, u16, u17, u18, u19, u20, u21, u22, u23, u24, u25, u26, hik, rfl, hs, hnew, ⟨s1, r1, hp1, hc1⟩, ht⟩
  have c0 : wr.cell? ⟨p, 0, none⟩ = some (.chan (some c)) := cells_of hp1 0 _ rfl
  obtain ⟨ao, cap, rfl, hic, hcm, _⟩ := hs.shape
  unfold maxLen at hcm
  have HS := Lib.hid hs
  have HN := Lib.hid hnew
  have HP1 := Lib.hid hp1
  have HC1 := Lib.hid hc1
  have HT1 := Lib.hid ht
  clear hs hnew hp1 hc1 ht
  apply wpN_seq_k; intro K2 hK2
  by_cases hin : (i : Int) < n
  · by_cases hil : i < l.length
    · refine wpN_of ?_
      go_wp2
      try clear hK2 K2
      refine wpN_block ?_
      apply wpN_seq_k; intro K2 hK2
      refine wpN_of ?_
      go_wp2
      try clear hK2 K2
      have hb0 : ((l.drop i).map Ou.val).toArray.getD 0 undef = .agg #[.int .i64 (l.getD i ou0).t, .string (l.getD i ou0).b] := by
        rw [List.drop_eq_getElem_cons hil, List.getD, List.getElem?_eq_getElem hil]
        rfl
      have hb1 : ((l.drop i).map Ou.val).toArray.extract 1 ((l.drop i).map Ou.val).toArray.size = ((l.drop (i + 1)).map Ou.val).toArray := by
        rw [List.drop_eq_getElem_cons hil]
        exact extract_tail _ _
      obtain ⟨x, hx⟩ : ∃ x, l.getD i ou0 = x := ⟨_, rfl⟩
      rw [hx] at hb0
      obtain ⟨W2, hW2⟩ : ∃ W2, W2 = wr.setChan c most ((l.drop (i + 1)).map Ou.val).toArray false s1 (r1 + 1) false := ⟨_, rfl⟩
      have hstep : ∀ (fr : Frame) (cs : List Frame) (es : Array Event), stepG Try.prog true (G fr cs) wr = .comm (G fr cs) #[rcase c (.agg #[.int .i64 0, .string ⟨#[]⟩])] false .select wr es → step Try.prog (solo (G fr cs) wr) = .next (solo (G (fr.finish (.tuple #[goInt 0, .bool true, .agg #[.int .i64 x.t, .string x.b]])) cs) W2) := fun fr cs es h => by
        have := step_lone_select_recv_buf h HC1.out (by simp; omega)
        rw [hb0, hb1, ← hW2] at this
        exact this
      have ht2 : Turns F w W2 := by rw [hW2]; exact Turns.setChan HT1.out _ _ _ _ _ _ _ (Or.inl HPF.out.2)
      have hp2 : W2.heap[p]? = some (.cells #[.chan (some c), .int .i64 lost] 47 (0, 0)) := by
        rw [hW2]
        simp only [World.setChan]
        rw [Array.getElem?_setIfInBounds_ne (fun e => hne e.symm)]
        exact HP1.out
      have hc2 : W2.heap[c]? = some (.chan most ((l.drop (i + 1)).map Ou.val).toArray false s1 (r1 + 1) false) := by rw [hW2]; exact heap_setChan _ _ _ _ _ _ _ _ (lt_of_block HC1.out)
      have hz2 : W2.heap.size = wr.heap.size := by rw [hW2]; exact size_setChan ..
      have hs2 : Sl W2 29 2 (.slice ao i cap) i (ocells (l.take i)) := HS.out.of_heap fun g hg => by
        rw [hW2]
        simp only [World.setChan]
        rw [Array.getElem?_setIfInBounds_ne (fun e => by have := HN.out g hg; omega)]
      have HST := Lib.hid hstep
      obtain ⟨W3, hW3⟩ : ∃ W3, W3 = (W2.alloc (.cells #[.int .i64 x.t, .string x.b] 29)).alloc (.cells #[.int .i64 x.t, .string x.b] 29) := ⟨_, rfl⟩
      have ht23 : Turns nobody W2 W3 := by rw [hW3]; exact ((Turns.refl _ _).alloc _).alloc _
      have hb3 : W3.heap[W2.heap.size + 1]? = some (.cells #[.int .i64 x.t, .string x.b] 29 (0, 0)) := by
        have := heap_alloc_new (W2.alloc (.cells #[.int .i64 x.t, .string x.b] 29)) (.cells #[.int .i64 x.t, .string x.b] 29)
        rw [World.size_alloc] at this
        rw [hW3]; exact this
      have HQ := Lib.hid (one_src (x := x) hb3)
      have HS3 := Lib.hid (hs2.keep ht23 (fun _ _ h => h))
      have HW3 := Lib.hid hW3
      have HT2 := Lib.hid ht2
      have HT23 := Lib.hid ht23
      have HP2 := Lib.hid hp2
      have HC2 := Lib.hid hc2
      have HZ2 := Lib.hid hz2
      have HX := Lib.hid hx
      clear hstep hb0 hb1 hW2 ht2 hp2 hc2 hz2 hs2 hW3 ht23 hb3 hx
      apply wpN_seq_k; intro K2 hK2
      refine wpN_region_comm rfl (v := .tuple #[goInt 0, .bool true, .agg #[.int .i64 x.t, .string x.b]]) (w' := W2) (cases := #[rcase c (.agg #[.int .i64 0, .string ⟨#[]⟩])]) (blocking := false) (shape := .select) (w₁ := wr) (by simp [go_sem, execOp, rcase, Act.eval]) HST.out ?_
      go_wp2
      refine wpN_of ?_
      go_wp2_with (at_builtin; rw [← HW3.out]; refine wpList_append_sl rfl _ _ 30 rfl Try.underlying30 hi hz0 hzz1 hzz2 rfl (by decide) rfl rfl HS3.out HQ.out (by unfold maxLen; omega) (by omega) ?_; intro v' w4 hs4 ht4 hn4 _)
      have ht5 : Turns (blk (.slice ao i cap)) W3 w4 := ht4
      have ht6 := (HT23.out.mono (G := blk (.slice ao i cap)) (fun _ h => h.elim)).trans ht5 (fun _ h => Or.inl h)
      refine ⟨⟨i + 1, v', _, _, _, _, _, _, _, _, _, _, _, _, _, _, _, _, _, _, _, _, _, _, _, _, by omega, rfl, ?_, ?_, ⟨s1, r1 + 1, ?_, ?_⟩, ?_⟩, ?_⟩
      · have e : l.take (i + 1) = l.take i ++ [x] := by rw [List.take_add_one, ← HX.out, List.getD, List.getElem?_eq_getElem hil]; rfl
        rw [e, ocells_append]
        exact hs4
      · intro j hj
        rcases hn4 j hj with h | h
        · exact HN.out j h
        · have := HT23.out.size
          have := HT2.out.size
          omega
      · refine heap_newer HP2.out ht6 ?_
        exact fun h => by have := HN.out _ h; omega
      · refine heap_newer HC2.out ht6 ?_
        exact fun h => by have := HN.out _ h; omega
      · exact HT2.out.trans ht6 (fun j h => Or.inr (HN.out j h))
      · obtain ⟨ao4, cap4, rfl, _⟩ := hs4.shape
        simp only [takeMu, lenOf]
        show k - (i + 1) < k - i
        omega
    · have hik : i = k := by omega
      subst hik
      refine wpN_of ?_
      go_wp2
      try clear hK2 K2
      refine wpN_block ?_
      apply wpN_seq_k; intro K2 hK2
      refine wpN_of ?_
      go_wp2
      try clear hK2 K2
      apply wpN_seq_k; intro K2 hK2
      have he : ((l.drop i).map Ou.val).toArray = #[] := by rw [List.drop_of_length_le (by omega)]; rfl
      have HC3 := HC1.out
      rw [he] at HC3
      have HST := Lib.hid (show ∀ (fr : Frame) (cs : List Frame) (es : Array Event), stepG Try.prog true (G fr cs) wr = .comm (G fr cs) #[rcase c (.agg #[.int .i64 0, .string ⟨#[]⟩])] false .select wr es → _ from fun fr cs es h => step_lone_select_default h HC3)
      clear he HC3
      refine wpN_region_comm rfl (v := .tuple #[goInt (-1), .bool false, .agg #[.int .i64 0, .string ⟨#[]⟩]]) (w' := wr) (cases := #[rcase c (.agg #[.int .i64 0, .string ⟨#[]⟩])]) (blocking := false) (shape := .select) (w₁ := wr) (by simp [go_sem, execOp, rcase, Act.eval]) HST.out ?_
      go_wp2
      refine wpN_of ?_
      go_wp2
      go_ret
      refine ⟨_, rfl, ?_, HN.out, F, ⟨c, s1, r1, HP1.out, HC1.out, hne, HF.out⟩, HT1.out, fun _ h => Or.inl h⟩
      have e : (l.take i).length = i := by rw [List.length_take]; omega
      unfold OSl
      rw [e]
      exact HS.out
  · have hik : i = k := by omega
    subst hik
    refine wpN_of ?_
    go_wp2
    refine wpN_of ?_
    go_wp2
    go_ret
    refine ⟨_, rfl, ?_, HN.out, F, ⟨c, s1, r1, HP1.out, HC1.out, hne, HF.out⟩, HT1.out, fun _ h => Or.inl h⟩
    have e : (l.take i).length = i := by rw [List.length_take]; omega
    unfold OSl
    rw [e]
    exact HS.out

end Go.Proofs.Ytjjapnphljhicab.outbox
