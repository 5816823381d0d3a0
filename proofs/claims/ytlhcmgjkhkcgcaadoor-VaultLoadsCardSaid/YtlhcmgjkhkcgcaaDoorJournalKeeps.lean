/- JournalKeeps. -/
import Derived.Test.YtlhcmgjkhkcgcaaDoorJournalZero
import Derived.Test.YtlhcmgjkhkcgcaaDoorRecBack
namespace Go.Proofs.YtlhcmgjkhkcgcaaDoor.journal
open Go.RowKit
open Go.Proofs.YtlhcmgjkhkcgcaaDoor.stepkit Go.Proofs.YtlhcmgjkhkcgcaaDoor.obj Go.Proofs.YtlhcmgjkhkcgcaaDoor.row Go.Proofs.YtlhcmgjkhkcgcaaDoor.mix Go.Proofs.YtlhcmgjkhkcgcaaDoor.idkit Go.Proofs.YtlhcmgjkhkcgcaaDoor.bytes Go.Proofs.YtlhcmgjkhkcgcaaDoor.octet Go.Proofs.YtlhcmgjkhkcgcaaDoor.eqkit Go.Proofs.YtlhcmgjkhkcgcaaDoor.record Go.Proofs.YtlhcmgjkhkcgcaaDoor.argkit
open Go.Proofs.YtlhcmgjkhkcgcaaDoor.block (BlockAt keepOf keepOf_le keepOf_ge keepOf_all)

/-! ### Plain -/
theorem exists_cut (L : List RV) (m : Nat) : ∃ n, n ≤ L.length ∧ endOf L n ≤ m ∧ (n = L.length ∨ m < endOf L (n + 1)) := by
  have h : ∀ k, ∃ n, n ≤ k ∧ endOf L n ≤ m ∧ (n = k ∨ m < endOf L (n + 1)) := by
    intro k
    induction k with
    | zero => exact ⟨0, Nat.le_refl _, Nat.zero_le _, Or.inl rfl⟩
    | succ k ih =>
      obtain ⟨n, h1, h2, h3⟩ := ih
      rcases h3 with rfl | h3
      · rcases Nat.lt_or_ge m (endOf L (n + 1)) with h | h
        · exact ⟨n, by omega, h2, Or.inr h⟩
        · exact ⟨n + 1, Nat.le_refl _, h, Or.inl rfl⟩
      · exact ⟨n, by omega, h2, Or.inr h3⟩
  exact h L.length
theorem good_of {K : Int} {b : ByteArray} (he : putE K b = 0) (hb : b.size < 300) : good (K, b) = true := by
  unfold good
  have h : (putS K b).size < 3000 := by
    unfold putS
    rw [if_pos he]
    show (putL K.toNat b).toArray.size < _
    rw [List.size_toArray, putL_len]; omega
  simp only [he, h, decide_true, Bool.and_self]
theorem take_cat (L : List RV) (j : Nat) : (cat L).take (endOf L j) = cat (L.take j) := by
  have h : cat L = cat (L.take j) ++ cat (L.drop j) := by rw [← cat_append, List.take_append_drop]
  unfold endOf
  rw [h, List.take_left]
/-- What is left behind a crash. -/
theorem crash_tells {L : List RV} (hg : record.Good L) {m sn : Nat} (hm : m ≤ (cat L).length) (hsn : endOf L sn ≤ m) (hs : sn ≤ L.length) {s : ByteArray} (hsl : s.data.toList = (cat L).take m) {j E : Nat} (hD : Done s j E) :
    sn ≤ j ∧ j ≤ L.length ∧ recs s j = L.take j ∧ pos s j = endOf L j ∧ endOf L j ≤ m := by
  obtain ⟨n, h1, h2, h3⟩ := exists_cut L m
  have h := torn_done hg hsl hm n h1 h2 h3
  obtain ⟨rfl, _⟩ := hD.uniq h.1
  refine ⟨?_, h1, h.2.1, h.2.2, h2⟩
  rcases h3 with h3 | h3
  · omega
  · rcases Nat.lt_or_ge j sn with h4 | h4
    · have := endOf_le L (j + 1) sn h4; omega
    · exact h4

/-! ### The texts that came in -/
def boolKinds : List TypeDesc := [.bool]
theorem bool_rows : ∀ (rows : List (List Value)), (∀ r ∈ rows, Fits boolKinds r) → ∃ l : List Bool, rows = l.map fun b => [.bool b]
  | [], _ => ⟨[], rfl⟩
  | r :: rows, h => by
    obtain ⟨l, hl⟩ := bool_rows rows (fun r hr => h r (by simp [hr]))
    obtain ⟨_, q1, rfl, ⟨b, rfl⟩, f1⟩ := (h r (by simp)).cons
    obtain rfl := f1.nil
    exact ⟨b :: l, by rw [hl]; rfl⟩
def BIn (w : World) (B : Nat) (ao : Option Addr) (l : List Bool) : Prop := 0 < l.length → ∃ b o, ao = some ⟨b, o, none⟩ ∧ b < B ∧ ∀ i, i < l.length → w.cell? ⟨b, o + i, none⟩ = some (.bool (l.getD i false))
theorem bin_at {w : World} {B : Nat} {ao : Option Addr} {l : List Bool} (h : RowsAt w B 1 ao (l.map fun b => [.bool b])) : BIn w B ao l := by
  intro h0
  obtain ⟨b, o, h1, h2, h3⟩ := h (by simpa using h0)
  refine ⟨b, o, h1, h2, fun i hi => ?_⟩
  have hc := h3 i (by simpa using hi) 0 (by omega)
  have hg : (l.map fun b => [Value.bool b]).getD i [] = [.bool (l.getD i false)] := by simp [List.getD, hi]
  rw [hg] at hc
  simpa using hc
theorem BIn.at_ {w w' : World} {B : Nat} {ao : Option Addr} {l : List Bool} (h : BIn w B ao l) (ht : Turns nobody w w') (hB : B ≤ w.heap.size) (i : Nat) (hi : i < l.length) : ∃ b o, ao = some ⟨b, o, none⟩ ∧ w'.cell? ⟨b, o + i, none⟩ = some (.bool (l.getD i false)) := by
  obtain ⟨b, o, h1, h2, h3⟩ := h (by omega)
  exact ⟨b, o, h1, (ht.cell (p := ⟨b, _, none⟩) (by show b < _; omega) (fun h => h)).trans (h3 i hi)⟩

theorem sl_not' {w : World} {e T : TypeId} {sz n : Nat} {v : Value} {xs : List Value} {X : Nat} {cur : Array Value} (h : Sl w e sz v n xs) (hX : w.heap[X]? = some (.cells cur T (0, 0))) (hT : T ≠ e) : ∀ i, blk v i → i ≠ X := fun i hi e => by
  subst e
  obtain ⟨c, hc⟩ := Sl.elem h i hi
  rw [hX] at hc
  simp at hc
  exact hT hc.2
structure KI (w0 : World) (q p : Nat) (L : List RV) (sb sn : Nat) (v : Value) (W : World) : Prop where
  j : JAt W p q (cat L) sb L.length sn
  hb : sb = endOf L sn
  hs : sn ≤ L.length
  gd : record.Good L
  sl : RSl W v L
  nv : ∀ i, blk v i → w0.heap.size ≤ i
  tt : Turns nobody w0 W
  nq : w0.heap.size ≤ q
  np : w0.heap.size ≤ p
theorem KI.apart {w0 : World} {q p : Nat} {L : List RV} {sb sn : Nat} {v : Value} {W : World} (h : KI w0 q p L sb sn v W) : ∀ i, blk v i → ¬ two p q i := by
  obtain ⟨_, u, hq, _⟩ := h.j.b
  intro i hi e
  rcases e with e | e
  · exact sl_not' h.sl h.j.h (by decide) i hi e
  · exact sl_not' h.sl hq (by decide) i hi e
theorem KI.still {w0 : World} {q p : Nat} {L : List RV} {sb sn : Nat} {v : Value} {W W' : World} (h : KI w0 q p L sb sn v W) (ht : Turns nobody W W') : KI w0 q p L sb sn v W' :=
  ⟨h.j.still ht, h.hb, h.hs, h.gd, Sl.keep h.sl ht (fun _ _ h => h), h.nv, h.tt.trans ht (fun _ h => h.elim), h.nq, h.np⟩
theorem KI.sync {w0 : World} {q p : Nat} {L : List RV} {sb sn : Nat} {v : Value} {W W' : World} (h : KI w0 q p L sb sn v W) (hj : JAt W' p q (cat L) (cat L).length L.length L.length) (ht : Turns (two p q) W W') : KI w0 q p L (cat L).length L.length v W' :=
  ⟨hj, (endOf_all L).symm, Nat.le_refl _, h.gd, Sl.keep h.sl ht h.apart, h.nv, h.tt.trans2 ht (fun i hi => by rcases hi with e | e; rw [e]; exact h.np; rw [e]; exact h.nq), h.nq, h.np⟩
set_option maxRecDepth 20000 in
set_option maxHeartbeats 8000000 in
theorem keeps_any (ao : Option Addr) (l : List RV) (ca : Nat) (bo : Option Addr) (bl : List Bool) (cb : Nat) (n : Int) (w : World) (hn1 : -9223372036854775808 ≤ n) (hn2 : n ≤ 9223372036854775807) (hin : RIn w w.heap.size ao l) (hbin : BIn w w.heap.size bo bl) (ht : crc.TabAt w) :
    Calls Tryd.prog 8 #[.slice ao l.length ca, .slice bo bl.length cb, .int .i64 n] w fun e w' => e = .returned (.bool true) ∧ Turns nobody w w' := by
  obtain ⟨i1, hi1, hz10, hz11, hz12⟩ := infoRec2
  obtain ⟨q, hq⟩ : ∃ q, w.heap.size = q := ⟨_, rfl⟩
  have HIN := Lib.hid hin
  have HBI := Lib.hid hbin
  have HTB := Lib.hid ht
  have HQ := Lib.hid hq
  have HN := Lib.hid (And.intro hn1 hn2)
  clear hin hbin ht hn1 hn2
  go_enter Tryd.func8, Tryd.ntmps8
  go_upto_region 5 with first
    | (go_at_call 27; refine (block.new_any _).mono ?_; rintro e w1 ⟨rfl, hw1⟩; have hb := (block.new_at hw1).1; rw [hq] at hb ⊢; have HB1 := Lib.hid hb; have HT1 : Hid (Turns nobody w w1) := Lib.hid (by rw [hw1]; exact (Turns.refl _ _).alloc _); clear hw1 hb)
    | (go_at_call 26; refine (open_new q _ HB1.out (Tab.turns HTB.out HT1.out (fun h => h))).mono ?_; rintro e w2 ⟨xo, xc, p, rfl, hj, hP, t2⟩; have HJ := Lib.hid hj; have HT2 := Lib.hid (HT1.out.trans2 t2 (fun i hi => by have := HQ.out; omega)); have HPP : Hid (w.heap.size ≤ p) := Lib.hid (Nat.le_trans HT1.out.size hP); clear hj hP t2)
  have HK0 : Hid (KI w q p [] 0 0 (.slice none 0 0) w2) := Lib.hid ⟨HJ.out, rfl, Nat.le_refl _, (fun _ h => by cases h), Sl.nil _ _ _, (fun i h => by cases h), HT2.out, by have := HQ.out; omega, HPP.out⟩
  clear hq
  go_loopw [9, 10, 11] (fun u x k wr => ∃ i : Nat, i ≤ l.length ∧ i ≤ 40 ∧ k = .int .i64 i ∧ ∃ L sb sn v, u = v ∧ x = .int .i64 (sn : Nat) ∧ L.length ≤ i ∧ KI w q p L sb sn v wr) (fun u x k wr => 40 - (intOf k).toNat)
  case atStart => exact ⟨0, Nat.zero_le _, Nat.zero_le _, rfl, [], 0, 0, _, rfl, rfl, Nat.zero_le _, HK0.out⟩
  case round =>
    obtain ⟨i, hil, hi40, rfl, L, sb, sn, v, rfl, rfl, hLi, hk⟩ := hrel
    have HKA := Lib.hid (And.intro hk hLi)
    clear hk hLi HK0 HJ HT1 HT2 HB1
    by_cases hlt : i < l.length ∧ i < 40
    · obtain ⟨h1, h2⟩ := hlt
      obtain ⟨vo, vc, rfl, -⟩ := Sl.shape HKA.out.1.sl
      have hin1 := HIN.out.keep HKA.out.1.tt (Nat.le_refl _) (fun _ h => h.elim)
      obtain ⟨b0, o0, rfl, c0, c1⟩ := hin1.at_ i h1
      obtain ⟨r, hr⟩ : ∃ r, l.getD i (0, nil) = r := ⟨_, rfl⟩
      rw [hr] at c0 c1
      obtain ⟨rk, rbd⟩ := r
      simp only at c0 c1
      clear hin1
      have h1I : (i : Int) < (l.length : Int) := by omega
      have h2I : (i : Int) < 40 := by omega
      by_cases hs3 : rbd.size < 300
      · have hs3I : (rbd.size : Int) < 300 := by omega
        rcases Nat.eq_zero_or_pos (putE rk rbd) with he | he
        · have hap := append_ok p q (cat L) sb L.length sn rk rbd wr HKA.out.1.j (by have := HKA.out.2; omega) (by have := cat_small HKA.out.1.gd; have := HKA.out.2; omega) (by omega) (Tab.turns HTB.out HKA.out.1.tt (fun h => h)) he
          have hgd := good_of he hs3
          have hcat : cat L ++ (putS rk rbd).data.toList = cat (L ++ [(rk, rbd)]) := by
            have h0 := good_rb hgd
            rw [show putS rk rbd = putS (rk, rbd).1 (rk, rbd).2 from rfl, h0, cat_append]
            simp [cat]
          rw [hcat] at hap
          have HGD := Lib.hid hgd
          unfold recV at hap
          clear hcat hgd he
          go_upto_region 8 with (go_at_call 28; refine hap.mono ?_; rintro e w3 ⟨rfl, hj3, t3⟩; have HJ3 := Lib.hid hj3; have HT3 := Lib.hid t3; clear hj3 t3)
          have HSP : Hid (∀ o, Sl (w3.alloc o) 23 2 (.slice vo L.length vc) L.length (rcells L)) := Lib.hid (fun o => Sl.keep (Sl.keep HKA.out.1.sl HT3.out HKA.out.1.apart) ((Turns.refl nobody _).alloc o) (fun _ _ h => h))
          have htt3 : Turns nobody w w3 := HKA.out.1.tt.trans2 HT3.out (fun i hi => by rcases hi with e | e; rw [e]; exact HKA.out.1.np; rw [e]; exact HKA.out.1.nq)
          have hin3 := HIN.out.keep htt3 (Nat.le_refl _) (fun _ h => h.elim)
          obtain ⟨b0', o0', hb0, d0, d1⟩ := hin3.at_ i h1
          cases hb0
          rw [hr] at d0 d1
          simp only at d0 d1
          have HTT3 := Lib.hid htt3
          have hLb : L.length ≤ 40 := by have := HKA.out.2; omega
          clear hin3 htt3 c0 c1 hap
          go_upto_region 9 with first
            | (at_builtin; refine wpList_append_sl (n := L.length) (m := 1) rfl _ _ 41 rfl Tryd.underlying41 hi1 hz10 hz11 hz12 rfl (by decide) rfl rfl (HSP.out (.cells #[.int .i64 rk, .string rbd] 23)) (src_rec (r := (rk, rbd)) (heap_alloc_new _ _)) (by unfold maxLen; omega) (by omega) ?_; intro v5 wt h5 t5 n5 _; have H5 := Lib.hid h5; have T5 := Lib.hid t5; have N5 := Lib.hid n5; clear h5 t5 n5; obtain ⟨ap5, cp5, rfl, -⟩ := H5.out.shape)
          obtain ⟨L', hL'⟩ : ∃ L', L ++ [(rk, rbd)] = L' := ⟨_, rfl⟩
          have hll : L'.length = L.length + 1 := by rw [← hL', List.length_append]; rfl
          have HK : Hid (KI w q p L' sb sn (.slice ap5 (L.length + 1) cp5) wt ∧ L'.length ≤ i + 1) := Lib.hid (by
            have hal : Turns nobody w3 (w3.alloc (.cells #[.int .i64 rk, .string rbd] 23)) := (Turns.refl _ _).alloc _
            have hta := HTT3.out.trans hal (fun _ h => h.elim)
            have hapb : NoBytes (w3.alloc (.cells #[.int .i64 rk, .string rbd] 23)) (blk (.slice vo L.length vc)) := fun b hb cur hc => by
              obtain ⟨c, h1⟩ := Sl.elem (HSP.out (.cells #[.int .i64 rk, .string rbd] 23)) b hb
              rw [h1] at hc
              simp at hc
            have hj := (HJ3.out.still hal).keep T5.out (fun h => HKA.out.1.apart _ h (Or.inl rfl)) (fun h => HKA.out.1.apart _ h (Or.inr rfl)) hapb
            rw [hL', ← hll] at hj
            refine ⟨⟨hj, ?_, by have := HKA.out.1.hs; omega, ?_, ?_, ?_, hta.trans2 T5.out (fun b hb => HKA.out.1.nv b hb), HKA.out.1.nq, HKA.out.1.np⟩, by have := HKA.out.2; omega⟩
            · rw [HKA.out.1.hb, ← hL']
              unfold endOf
              rw [List.take_append_of_le_length HKA.out.1.hs]
            · rw [← hL']
              intro x hx
              rcases List.mem_append.1 hx with hx | hx
              · exact HKA.out.1.gd x hx
              · rw [List.mem_singleton.1 hx]; exact HGD.out
            · have h5 := H5.out
              unfold RSl
              rw [← hL', List.length_append, List.length_singleton, rcells_append]
              exact h5
            · intro b hb
              rcases N5.out b hb with h | h
              · exact HKA.out.1.nv b h
              · exact Nat.le_trans hta.size h)
          rw [← hll] at HK ⊢
          clear hL' hll d0 d1 HSP HJ3 HT3 H5 T5 N5 HKA HGD HTT3 hLb
          have hsI : (i : Int) < 40 := by omega
          by_cases hb1 : i < bl.length
          · obtain ⟨b1, o1, hb1a, b0⟩ := HBI.out.at_ HK.out.1.tt (Nat.le_refl _) i hb1
            subst hb1a
            have hb1I : (i : Int) < (bl.length : Int) := by omega
            obtain ⟨y, hy⟩ : ∃ y, bl.getD i false = y := ⟨_, rfl⟩
            rw [hy] at b0
            clear hy
            cases y with
            | false =>
              have HK2 := HK
              clear HK
              go_wp2
              go_roundw
              case rel => exact ⟨i + 1, by omega, by omega, by go_num, _, _, _, _, rfl, rfl, by have := HK2.out.2; omega, HK2.out.1⟩
              case measure => simp [intOf]; omega
            | true =>
              have hsy := sync_any p q (cat L') sb L'.length sn wt HK.out.1.j (by have := HK.out.2; omega) (by have := HK.out.1.hs; have := HK.out.2; omega) (by have := cat_small HK.out.1.gd; have := HK.out.2; omega)
              go_wp2_with (go_at_call 29; refine hsy.mono ?_; rintro e w9 ⟨rfl, hj9, t9⟩; have HK2 := Lib.hid (And.intro (HK.out.1.sync hj9 t9) HK.out.2); clear hj9 t9)
              clear hsy HK
              go_roundw
              case rel => exact ⟨i + 1, by omega, by omega, by go_num, _, _, _, _, rfl, rfl, by have := HK2.out.2; omega, HK2.out.1⟩
              case measure => simp [intOf]; omega
          · have hb1I : ¬ (i : Int) < (bl.length : Int) := by omega
            have HK2 := HK
            clear HK
            go_wp2
            go_roundw
            case rel => exact ⟨i + 1, by omega, by omega, by go_num, _, _, _, _, rfl, rfl, by have := HK2.out.2; omega, HK2.out.1⟩
            case measure => simp [intOf]; omega
        · have hap := append_bad p q rk rbd wr (cells_of HKA.out.1.j.h 0 _ rfl) (by omega) (Tab.turns HTB.out HKA.out.1.tt (fun h => h)) (by omega)
          have hez : ((putE rk rbd : Int) == 0) = false := by simpa using Nat.pos_iff_ne_zero.1 he
          unfold recV at hap
          generalize putE rk rbd = E at *
          clear he
          go_upto_region 9 with (go_at_call 28; refine hap.mono ?_; rintro e wt ⟨rfl, t3⟩; have HK : Hid (KI w q p L sb sn (.slice vo L.length vc) wt ∧ L.length ≤ i + 1) := Lib.hid ⟨HKA.out.1.still t3, by have := HKA.out.2; omega⟩; clear t3)
          clear hap c0 c1 hez HKA
          have hsI : (i : Int) < 40 := by omega
          by_cases hb1 : i < bl.length
          · obtain ⟨b1, o1, hb1a, b0⟩ := HBI.out.at_ HK.out.1.tt (Nat.le_refl _) i hb1
            subst hb1a
            have hb1I : (i : Int) < (bl.length : Int) := by omega
            obtain ⟨y, hy⟩ : ∃ y, bl.getD i false = y := ⟨_, rfl⟩
            rw [hy] at b0
            clear hy
            cases y with
            | false =>
              have HK2 := HK
              clear HK
              go_wp2
              go_roundw
              case rel => exact ⟨i + 1, by omega, by omega, by go_num, _, _, _, _, rfl, rfl, by have := HK2.out.2; omega, HK2.out.1⟩
              case measure => simp [intOf]; omega
            | true =>
              have hsy := sync_any p q (cat L) sb L.length sn wt HK.out.1.j (by have := HK.out.2; omega) (by have := HK.out.1.hs; have := HK.out.2; omega) (by have := cat_small HK.out.1.gd; have := HK.out.2; omega)
              go_wp2_with (go_at_call 29; refine hsy.mono ?_; rintro e w9 ⟨rfl, hj9, t9⟩; have HK2 := Lib.hid (And.intro (HK.out.1.sync hj9 t9) HK.out.2); clear hj9 t9)
              clear hsy HK
              go_roundw
              case rel => exact ⟨i + 1, by omega, by omega, by go_num, _, _, _, _, rfl, rfl, by have := HK2.out.2; omega, HK2.out.1⟩
              case measure => simp [intOf]; omega
          · have hb1I : ¬ (i : Int) < (bl.length : Int) := by omega
            have HK2 := HK
            clear HK
            go_wp2
            go_roundw
            case rel => exact ⟨i + 1, by omega, by omega, by go_num, _, _, _, _, rfl, rfl, by have := HK2.out.2; omega, HK2.out.1⟩
            case measure => simp [intOf]; omega
      · have hs3I : ¬ (rbd.size : Int) < 300 := by omega
        have HK : Hid (KI w q p L sb sn (.slice vo L.length vc) wr ∧ L.length ≤ i + 1) := Lib.hid ⟨HKA.out.1, by have := HKA.out.2; omega⟩
        obtain ⟨wt, hwt⟩ : ∃ x, x = wr := ⟨_, rfl⟩
        go_upto_region 9 with fail
        rw [← hwt] at HK ⊢
        clear hwt c0 c1 HKA
        have hsI : (i : Int) < 40 := by omega
        by_cases hb1 : i < bl.length
        · obtain ⟨b1, o1, hb1a, b0⟩ := HBI.out.at_ HK.out.1.tt (Nat.le_refl _) i hb1
          subst hb1a
          have hb1I : (i : Int) < (bl.length : Int) := by omega
          obtain ⟨y, hy⟩ : ∃ y, bl.getD i false = y := ⟨_, rfl⟩
          rw [hy] at b0
          clear hy
          cases y with
          | false =>
            have HK2 := HK
            clear HK
            go_wp2
            go_roundw
            case rel => exact ⟨i + 1, by omega, by omega, by go_num, _, _, _, _, rfl, rfl, by have := HK2.out.2; omega, HK2.out.1⟩
            case measure => simp [intOf]; omega
          | true =>
            have hsy := sync_any p q (cat L) sb L.length sn wt HK.out.1.j (by have := HK.out.2; omega) (by have := HK.out.1.hs; have := HK.out.2; omega) (by have := cat_small HK.out.1.gd; have := HK.out.2; omega)
            go_wp2_with (go_at_call 29; refine hsy.mono ?_; rintro e w9 ⟨rfl, hj9, t9⟩; have HK2 := Lib.hid (And.intro (HK.out.1.sync hj9 t9) HK.out.2); clear hj9 t9)
            clear hsy HK
            go_roundw
            case rel => exact ⟨i + 1, by omega, by omega, by go_num, _, _, _, _, rfl, rfl, by have := HK2.out.2; omega, HK2.out.1⟩
            case measure => simp [intOf]; omega
        · have hb1I : ¬ (i : Int) < (bl.length : Int) := by omega
          have HK2 := HK
          clear HK
          go_wp2
          go_roundw
          case rel => exact ⟨i + 1, by omega, by omega, by go_num, _, _, _, _, rfl, rfl, by have := HK2.out.2; omega, HK2.out.1⟩
          case measure => simp [intOf]; omega
    · obtain ⟨vo, vc, rfl, hvc, -⟩ := Sl.shape HKA.out.1.sl
      obtain ⟨m, hm⟩ : ∃ m, keepOf (cat L).length sb n = m := ⟨_, rfl⟩
      obtain ⟨s1, hs1⟩ : ∃ s1 : ByteArray, ⟨((cat L).take m).toArray⟩ = s1 := ⟨_, rfl⟩
      have hLb : L.length ≤ 40 := by have := HKA.out.2; omega
      have hcl := cat_small HKA.out.1.gd
      have hcr := crash_any p q (cat L) sb L.length sn n wr HKA.out.1.j (by omega) (Tab.turns HTB.out HKA.out.1.tt (fun h => h)) HN.out.1 HN.out.2 m hm s1 hs1
      have hml : m ≤ (cat L).length := by rw [← hm]; exact keepOf_le HKA.out.1.j.b.1 n
      have hsm : endOf L sn ≤ m := by rw [← hm, ← HKA.out.1.hb]; exact keepOf_ge _ _ _
      have hs1l : s1.data.toList = (cat L).take m := by rw [← hs1]
      have hct := fun j E (hD : Done s1 j E) => crash_tells HKA.out.1.gd hml hsm HKA.out.1.hs hs1l hD
      have hsa := safe_any p q L.length sn wr HKA.out.1.j.h
      have HCT := Lib.hid hct
      have HVC := Lib.hid hvc
      have HCL := Lib.hid hcl
      clear hm hs1 hml hsm hs1l hct hvc hcl
      by_cases hj2 : i < l.length
      · have hj2I : (i : Int) < (l.length : Int) := by omega
        have hj4 : ¬ (i : Int) < 40 := by omega
        clear hlt hj2
        go_upto_region 14 with (go_at_call 30; refine hsa.mono ?_; rintro e w' ⟨rfl, rfl⟩)
        clear hsa
        go_upto_region 15 with (go_at_call 31; refine hcr.mono ?_; rintro e w3 ⟨j, E, v3, hD, rfl, hj3, hsl3, hn3, t3⟩; have HC := Lib.hid (HCT.out _ _ hD); have HJ3 := Lib.hid hj3; rw [HC.out.2.2.1] at hsl3; have HSL3 := Lib.hid hsl3; have HA3 := Lib.hid (Sl.keep HKA.out.1.sl t3 HKA.out.1.apart); have HT3 := Lib.hid (HKA.out.1.tt.trans2 t3 (fun b hb => by rcases hb with e | e; rw [e]; exact HKA.out.1.np; rw [e]; exact HKA.out.1.nq)); clear hD hj3 hsl3 hn3 t3)
        clear hcr
        obtain ⟨yo, yc, rfl, -⟩ := Sl.shape HSL3.out
        have htl : (L.take j).length = j := by rw [List.length_take]; have := HC.out.2.1; omega
        rw [htl] at HSL3 ⊢
        have HTL := Lib.hid htl
        have hj1 : ¬ (j : Int) < (sn : Int) := by have := HC.out.1; omega
        have hj3 : ¬ (L.length : Int) < (j : Int) := by have := HC.out.2.1; omega
        obtain ⟨a1, ha1⟩ : ∃ a1, Go.sliced vo 0 j vc 2 = a1 := ⟨_, rfl⟩
        have hsm := same_any (.slice yo j yc) a1 (L.take j) w3 HSL3.out (by rw [← ha1]; exact RSl.cut HA3.out j HC.out.2.1 HVC.out) (by rw [HTL.out]; have := HC.out.2.1; omega)
        have hjv : j ≤ vc := by have := HC.out.2.1; have := HVC.out; omega
        have HJV := Lib.hid hjv
        clear htl hjv
        go_upto_region 17 with first
          | (refine wpList_exec (exec_cut_h Tryd.underlying41 sizeRec _ _ rfl rfl rfl HJV.out ha1) rfl ?_)
          | (go_at_call 24; refine hsm.mono ?_; rintro e w4 ⟨rfl, t4⟩; have HT4 : Hid (Turns nobody w3 w4) := Lib.hid (Turns.drawn t4); clear t4)
        have hbt : ((cat L).take m).take (pos s1 j) = cat (L.take j) := by rw [HC.out.2.2.2.1, List.take_take, Nat.min_eq_left HC.out.2.2.2.2, take_cat]
        have hbl : (cat (L.take j)).length = pos s1 j := by rw [HC.out.2.2.2.1]; rfl
        have hj4b := HJ3.out.still HT4.out
        rw [hbt, ← hbl] at hj4b
        have hcl2 : (cat (L.take j)).length ≤ 16777216 := by have h1 := endOf_le L j L.length HC.out.2.1; rw [endOf_all] at h1; have := HCL.out; have h2 : (cat (L.take j)).length = endOf L j := rfl; omega
        have hcr2 := crash_any p q (cat (L.take j)) (cat (L.take j)).length j j n w4 hj4b hcl2 (Tab.turns HTB.out (HT3.out.trans HT4.out (fun _ h => h.elim)) (fun h => h)) HN.out.1 HN.out.2 _ (keepOf_all _ _) ⟨(cat (L.take j)).toArray⟩ (by rw [List.take_length])
        have hwd := whole_done (l := L.take j) (s := ⟨(cat (L.take j)).toArray⟩) (fun x hx => HKA.out.1.gd x (List.mem_of_mem_take hx)) (by simp)
        rw [HTL.out] at hwd
        have HWD := Lib.hid hwd
        have HS4 := Lib.hid (Sl.keep HSL3.out HT4.out (fun _ _ h => h))
        have HAPT : Hid (∀ b, blk (.slice yo j yc) b → ¬ two p q b) := Lib.hid (fun b hb e => by
          obtain ⟨_, u, hq2, _⟩ := hj4b.b
          rcases e with e | e
          · exact sl_not' HS4.out hj4b.h (by decide) b hb e
          · exact sl_not' HS4.out hq2 (by decide) b hb e)
        clear hbt hbl hj4b hcl2 hwd hsm ha1 hj1 hj3
        go_wp2_with first
          | (go_at_call 31; refine hcr2.mono ?_; rintro e w5 ⟨k, E2, v5, hD, rfl, hj5, hsl5, hn5, t5⟩; obtain ⟨rfl, rfl⟩ := hD.uniq HWD.out.1; have HJ5 := Lib.hid hj5; rw [HWD.out.2.1] at hsl5; have HSL5 := Lib.hid hsl5; have HS5 := Lib.hid (Sl.keep HS4.out t5 HAPT.out); have HT5 := Lib.hid ((HT3.out.trans HT4.out (fun _ h => h.elim)).trans2 t5 (fun b hb => by rcases hb with e | e; rw [e]; exact HKA.out.1.np; rw [e]; exact HKA.out.1.nq)); clear hD hj5 hsl5 hn5 t5)
          | (go_at_call 24; refine (same_any _ _ (L.take k) _ HSL5.out HS5.out (by rw [HTL.out]; have := HC.out.2.1; omega)).mono ?_; rintro e w6 ⟨rfl, t6⟩; have HT6 : Hid (Turns nobody w5 w6) := Lib.hid (Turns.drawn t6); clear t6)
          | (go_at_call 30; refine (safe_any p q k k _ (HJ5.out.still HT6.out).h).mono ?_; rintro e w' ⟨rfl, rfl⟩)
          | (go_at_call 32; refine (awake_any _ (Tab.turns HTB.out (HT5.out.trans HT6.out (fun _ h => h.elim)) (fun h => h))).mono ?_; rintro e w9 ⟨rfl, t9⟩; have HT9 := Lib.hid ((HT5.out.trans HT6.out (fun _ h => h.elim)).trans t9 (fun _ h => h.elim)); clear t9)
        go_ret
        exact ⟨rfl, HT9.out⟩
      · have hj2I : ¬ (i : Int) < (l.length : Int) := by omega
        clear hlt hj2
        go_upto_region 14 with (go_at_call 30; refine hsa.mono ?_; rintro e w' ⟨rfl, rfl⟩)
        clear hsa
        go_upto_region 15 with (go_at_call 31; refine hcr.mono ?_; rintro e w3 ⟨j, E, v3, hD, rfl, hj3, hsl3, hn3, t3⟩; have HC := Lib.hid (HCT.out _ _ hD); have HJ3 := Lib.hid hj3; rw [HC.out.2.2.1] at hsl3; have HSL3 := Lib.hid hsl3; have HA3 := Lib.hid (Sl.keep HKA.out.1.sl t3 HKA.out.1.apart); have HT3 := Lib.hid (HKA.out.1.tt.trans2 t3 (fun b hb => by rcases hb with e | e; rw [e]; exact HKA.out.1.np; rw [e]; exact HKA.out.1.nq)); clear hD hj3 hsl3 hn3 t3)
        clear hcr
        obtain ⟨yo, yc, rfl, -⟩ := Sl.shape HSL3.out
        have htl : (L.take j).length = j := by rw [List.length_take]; have := HC.out.2.1; omega
        rw [htl] at HSL3 ⊢
        have HTL := Lib.hid htl
        have hj1 : ¬ (j : Int) < (sn : Int) := by have := HC.out.1; omega
        have hj3 : ¬ (L.length : Int) < (j : Int) := by have := HC.out.2.1; omega
        obtain ⟨a1, ha1⟩ : ∃ a1, Go.sliced vo 0 j vc 2 = a1 := ⟨_, rfl⟩
        have hsm := same_any (.slice yo j yc) a1 (L.take j) w3 HSL3.out (by rw [← ha1]; exact RSl.cut HA3.out j HC.out.2.1 HVC.out) (by rw [HTL.out]; have := HC.out.2.1; omega)
        have hjv : j ≤ vc := by have := HC.out.2.1; have := HVC.out; omega
        have HJV := Lib.hid hjv
        clear htl hjv
        go_upto_region 17 with first
          | (refine wpList_exec (exec_cut_h Tryd.underlying41 sizeRec _ _ rfl rfl rfl HJV.out ha1) rfl ?_)
          | (go_at_call 24; refine hsm.mono ?_; rintro e w4 ⟨rfl, t4⟩; have HT4 : Hid (Turns nobody w3 w4) := Lib.hid (Turns.drawn t4); clear t4)
        have hbt : ((cat L).take m).take (pos s1 j) = cat (L.take j) := by rw [HC.out.2.2.2.1, List.take_take, Nat.min_eq_left HC.out.2.2.2.2, take_cat]
        have hbl : (cat (L.take j)).length = pos s1 j := by rw [HC.out.2.2.2.1]; rfl
        have hj4b := HJ3.out.still HT4.out
        rw [hbt, ← hbl] at hj4b
        have hcl2 : (cat (L.take j)).length ≤ 16777216 := by have h1 := endOf_le L j L.length HC.out.2.1; rw [endOf_all] at h1; have := HCL.out; have h2 : (cat (L.take j)).length = endOf L j := rfl; omega
        have hcr2 := crash_any p q (cat (L.take j)) (cat (L.take j)).length j j n w4 hj4b hcl2 (Tab.turns HTB.out (HT3.out.trans HT4.out (fun _ h => h.elim)) (fun h => h)) HN.out.1 HN.out.2 _ (keepOf_all _ _) ⟨(cat (L.take j)).toArray⟩ (by rw [List.take_length])
        have hwd := whole_done (l := L.take j) (s := ⟨(cat (L.take j)).toArray⟩) (fun x hx => HKA.out.1.gd x (List.mem_of_mem_take hx)) (by simp)
        rw [HTL.out] at hwd
        have HWD := Lib.hid hwd
        have HS4 := Lib.hid (Sl.keep HSL3.out HT4.out (fun _ _ h => h))
        have HAPT : Hid (∀ b, blk (.slice yo j yc) b → ¬ two p q b) := Lib.hid (fun b hb e => by
          obtain ⟨_, u, hq2, _⟩ := hj4b.b
          rcases e with e | e
          · exact sl_not' HS4.out hj4b.h (by decide) b hb e
          · exact sl_not' HS4.out hq2 (by decide) b hb e)
        clear hbt hbl hj4b hcl2 hwd hsm ha1 hj1 hj3
        go_wp2_with first
          | (go_at_call 31; refine hcr2.mono ?_; rintro e w5 ⟨k, E2, v5, hD, rfl, hj5, hsl5, hn5, t5⟩; obtain ⟨rfl, rfl⟩ := hD.uniq HWD.out.1; have HJ5 := Lib.hid hj5; rw [HWD.out.2.1] at hsl5; have HSL5 := Lib.hid hsl5; have HS5 := Lib.hid (Sl.keep HS4.out t5 HAPT.out); have HT5 := Lib.hid ((HT3.out.trans HT4.out (fun _ h => h.elim)).trans2 t5 (fun b hb => by rcases hb with e | e; rw [e]; exact HKA.out.1.np; rw [e]; exact HKA.out.1.nq)); clear hD hj5 hsl5 hn5 t5)
          | (go_at_call 24; refine (same_any _ _ (L.take k) _ HSL5.out HS5.out (by rw [HTL.out]; have := HC.out.2.1; omega)).mono ?_; rintro e w6 ⟨rfl, t6⟩; have HT6 : Hid (Turns nobody w5 w6) := Lib.hid (Turns.drawn t6); clear t6)
          | (go_at_call 30; refine (safe_any p q k k _ (HJ5.out.still HT6.out).h).mono ?_; rintro e w' ⟨rfl, rfl⟩)
          | (go_at_call 32; refine (awake_any _ (Tab.turns HTB.out (HT5.out.trans HT6.out (fun _ h => h.elim)) (fun h => h))).mono ?_; rintro e w9 ⟨rfl, t9⟩; have HT9 := Lib.hid ((HT5.out.trans HT6.out (fun _ h => h.elim)).trans t9 (fun _ h => h.elim)); clear t9)
        go_ret
        exact ⟨rfl, HT9.out⟩
end Go.Proofs.YtlhcmgjkhkcgcaaDoor.journal
