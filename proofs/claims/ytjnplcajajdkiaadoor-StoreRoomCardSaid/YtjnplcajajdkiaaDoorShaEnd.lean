/- What stands behind the last whole block. -/
import Derived.Test.YtjnplcajajdkiaaDoorShaWrite
import Derived.Deep.Cut
namespace Go.Proofs.YtjnplcajajdkiaaDoor.sha
open Go.RowKit
open Go.Proofs.YtjnplcajajdkiaaDoor.stepkit Go.Proofs.YtjnplcajajdkiaaDoor.obj Go.Proofs.YtjnplcajajdkiaaDoor.row Go.Proofs.YtjnplcajajdkiaaDoor.mix Go.Proofs.YtjnplcajajdkiaaDoor.idkit

theorem src_one (W : World) (x : Int) : obj.Src (W.alloc (.cells #[.int .u8 x] 5)) 1 (.slice (some ⟨W.heap.size, 0, none⟩) 1 1) 1 [.int .u8 x] := by
  refine obj.Src.of_row (by rfl) (fun u hu => by simp only [List.mem_singleton] at hu; subst hu; rfl) (fun j u hj => ?_)
  have hj0 : j = 0 := by have := (List.getElem?_eq_some_iff.1 hj).1; simp at this; omega
  subst hj0
  simp only [List.getElem?_cons_zero, Option.some.injEq] at hj
  rw [Addr.add_lit, ← hj]
  simp only [World.cell?, Nat.add_zero]
  rw [heap_alloc_new]
  rfl
/-- Where the mark and the noughts stand, and so many bytes of the length. -/
def endB (m t i : Nat) : List UInt8 := 0x80 :: List.replicate (pad m) 0 ++ lenB t i
theorem endB_succ (m t i : Nat) : endB m t (i + 1) = endB m t i ++ [UInt8.ofNat (t / 2 ^ (8 * (7 - i)))] := by
  unfold endB lenB
  rw [List.range_succ, List.map_append, ← List.append_assoc]
  rfl
theorem endB_len (m t i : Nat) : (endB m t i).length = pad m + 1 + i := by unfold endB; simp [lenB_len]; omega
theorem repl_succ (j : Nat) : (0x80 :: List.replicate (j + 1) 0 : List UInt8) = (0x80 :: List.replicate j 0) ++ [0] := by
  rw [List.replicate_succ', List.cons_append]
theorem pad_mod (m n : Nat) (h : m = n % 64) : pad m = pad n := by unfold pad; omega
theorem end_tail (m n : Nat) (h : m = n % 64) : endB m (n * 8 % 2 ^ 64) 8 = tail n := by unfold endB tail; rw [pad_mod m n h]
theorem shift_byte (t k : Nat) : (t : Int) / 2 ^ k % 256 = ((UInt8.ofNat (t / 2 ^ k)).toNat : Int) := by
  rw [show ((t : Int) / 2 ^ k) = ((t / 2 ^ k : Nat) : Int) by simp]
  simp
/-- A slice of bytes that was made since. -/
structure GN (w W : World) (v : Value) (l : List UInt8) : Prop where
  s : BSl W v l
  t : Turns nobody w W
  n : ∀ j, blk v j → w.heap.size ≤ j
theorem GN.app {w W w2 : World} {v v2 : Value} {l r : List UInt8} {k : Nat} {xs : List Value} {o : Obj} (h : GN w W v l) (hs : Sl w2 5 1 v2 k xs) (hk : k = (l ++ r).length) (hx : xs = bcs (l ++ r)) (ht : Turns (blk v) (W.alloc o) w2) (hn : Newer v v2 (W.alloc o)) : GN w w2 v2 (l ++ r) := by
  subst hk hx
  refine ⟨hs, (h.t.alloc o).trans ht (fun i hi => Or.inr (h.n i hi)), fun j hj => ?_⟩
  rcases hn j hj with h1 | h1
  · exact h.n j h1
  · have := h.t.size; rw [World.size_alloc] at h1; omega
theorem GN.still {w W W' : World} {v : Value} {l : List UInt8} (h : GN w W v l) (ht : Turns nobody W W') : GN w W' v l := ⟨Sl.keep h.s ht (fun _ _ h => h), h.t.trans ht (fun _ h => h.elim), h.n⟩
theorem GN.first {w w1 : World} {v1 : Value} {l : List UInt8} {m : Nat} {o : Obj} {sp : Option Nat} (hm : l.length = m) (h1 : Sl w1 5 1 v1 (0 + m) ([] ++ bcs l)) (t1 : Turns nobody (w.alloc o) w1) (n1 : Newer (.slice (some ⟨w.heap.size, 0, sp⟩) 0 0) v1 (w.alloc o)) : GN w w1 v1 l := by
  subst hm
  refine ⟨by simpa using h1, ((Turns.refl nobody w).alloc o).trans t1 (fun _ h => h.elim), fun j hj => ?_⟩
  rcases n1 j hj with h | h
  · simp only [blk, Value.ownBlock, Option.some.injEq] at h; omega
  · rw [World.size_alloc] at h; omega
def lenOfV : Value → Nat
  | .slice _ n _ => n
  | _ => 0
theorem len_app1 (l : List UInt8) (x : UInt8) : l.length + 1 = (l ++ [x]).length := by simp
theorem bcs_app1 (l : List UInt8) (x : UInt8) : bcs l ++ [.int .u8 (x.toNat : Int)] = bcs (l ++ [x]) := by simp [bcs, bc]
theorem u8_128 : ((0x80 : UInt8).toNat : Int) = 128 := by decide

set_option maxRecDepth 10000 in
set_option maxHeartbeats 1000000 in
theorem end_any (v : Value) (rl : List UInt8) (n : Nat) (w : World) (hv : BSl w v rl) (hn : n ≤ 1000000) (hr : rl.length ≤ 1000000) :
    Calls Tryd.prog 62 #[v, .int .i64 n] w fun e w' => ∃ v', e = .returned v' ∧ BSl w' v' (rl ++ endB rl.length (n * 8 % 2 ^ 64) 8) ∧ Turns nobody w w' ∧ ∀ j, blk v' j → w.heap.size ≤ j := by
  obtain ⟨i0, hi, hz0, hz1, hz2⟩ := info_parts infoU8
  have hE := Sl.empty (sz := 1) (heap_alloc_new w (.cells #[] 5)) (Nat.zero_le _)
  have hS := ((show Sl _ _ _ _ _ _ from hv).src (bcs_one rl)).keep ((Turns.refl nobody w).alloc (.cells #[] 5)) (fun _ _ h => h)
  have HE := Lib.hid hE
  have HS := Lib.hid hS
  obtain ⟨m, hm⟩ : ∃ m, rl.length = m := ⟨_, rfl⟩
  rw [hm] at HS hr ⊢
  have HM := Lib.hid hm
  obtain ⟨T, hT⟩ : ∃ T, n * 8 % 2 ^ 64 = T := ⟨_, rfl⟩
  have hTn : (n : Int) * 8 = T := by omega
  rw [hT]
  clear hv hE hS hm hT
  go_enter Tryd.func62, Tryd.ntmps62
  go_upto_region 2 with first
    | (at_builtin; refine wpList_append_sl rfl _ _ 64 rfl Tryd.underlying64 hi hz0 hz1 hz2 rfl (by decide) rfl rfl (Sl.keep HQ1.out.s ((Turns.refl nobody _).alloc _) (fun _ _ h => h)) (src_one _ _) (by unfold maxLen; rw [HM.out]; omega) (by rw [HM.out]; omega) ?_; intro v2 w2 h2 t2 n2 c2; have HG := Lib.hid (HQ1.out.app (r := [0x80]) h2 (by simp) (by simp [bcs, bc]) t2 n2); clear h2 t2 n2 c2 HQ1)
    | (at_builtin; refine wpList_append_sl rfl _ _ 64 rfl Tryd.underlying64 hi hz0 hz1 hz2 rfl (by decide) rfl rfl HE.out HS.out (by unfold maxLen; omega) (by omega) ?_; intro v1 w1 h1 t1 n1 c1; have HQ1 := Lib.hid (GN.first HM.out h1 (c1 _ rfl).1 n1); clear h1 t1 n1 c1)
  have HPM := Lib.hid (pad_eq m)
  have HPL := Lib.hid (pad_least m)
  have hpad := pad_lt m
  obtain ⟨q, hq⟩ : ∃ q, pad m = q := ⟨_, rfl⟩
  have HQ := Lib.hid hq
  rw [hq] at HPM HPL hpad
  clear hq
  go_loopw [5] (fun v wr => ∃ j : Nat, j ≤ q ∧ GN w wr v (rl ++ (0x80 :: List.replicate j 0))) (fun v _ => q + m + 1 - lenOfV v)
  case atStart => exact ⟨0, by omega, HG.out⟩
  case round =>
    obtain ⟨j, hj, hg⟩ := hrel
    have hlj : (rl ++ (0x80 :: List.replicate j 0)).length = m + 1 + j := by simp [HM.out]; omega
    obtain ⟨ao, cap, hv, hnc, hcm, _, _⟩ := (show Sl _ _ _ _ _ _ from hg.s).shape
    rw [hlj] at hv hnc
    subst hv
    have HG2 := Lib.hid hg
    have HL := Lib.hid hlj
    obtain ⟨N, hN⟩ : ∃ N, m + 1 + j = N := ⟨_, rfl⟩
    have hN1 : N ≤ 1000100 := by omega
    have HN := Lib.hid hN
    clear hg hlj HG
    by_cases hjq : j < q
    · have hne := HPL.out j hjq
      rw [hN] at hne HG2 HL hnc ⊢
      have hne' : ¬ ((N : Int) % 64 = 56) := by omega
      clear hN hne
      go_wp2_with (at_builtin; (refine wpList_append_sl rfl _ _ 64 rfl Tryd.underlying64 hi hz0 hz1 hz2 rfl (by decide) rfl rfl (Sl.keep HG2.out.s ((Turns.refl nobody _).alloc _) (fun _ _ h => h)) (src_one _ _) (by unfold maxLen; rw [HL.out]; omega) (by rw [HL.out]; omega) ?_; intro v2 w2 h2 t2 n2 c2; have HG3 := Lib.hid (HG2.out.app (r := [0]) h2 (len_app1 _ 0) (bcs_app1 _ 0) t2 n2); have hs2 := h2.shape; clear h2 t2 n2 c2))
      rw [List.append_assoc, ← repl_succ] at HG3
      obtain ⟨ao2, cap2, rfl, _⟩ := hs2
      refine ⟨⟨j + 1, by omega, HG3.out⟩, ?_⟩
      have := HN.out
      have := HL.out
      simp only [lenOfV]
      omega
    · obtain rfl : j = q := by omega
      have hne := HPM.out
      rw [hN] at hne HG2 HL hnc ⊢
      have hne' : (N : Int) % 64 = 56 := by omega
      have hb : Hid (rl ++ (0x80 :: List.replicate j 0) = rl ++ endB m T 0) := Lib.hid (by unfold endB; rw [HQ.out]; simp [lenB])
      have HG3 : Hid (GN w wr (.slice ao N cap) (rl ++ endB m T 0)) := by rw [← hb.out]; exact HG2
      clear hN hne HG2 HL hb
      have htot : IntKind.u64.wrap (n : Int) = n := by simp only [IntKind.wrap, IntKind.bits, IntKind.signed]; simp; omega
      have htn : (0 : Int) ≤ (n : Int) * 8 := by omega
      have htb : (n : Int) * 8 < 18446744073709551616 := by omega
      have HGA : Hid (GN w wr (.slice ao N cap) (rl ++ endB m T 0)) := HG3
      clear HG3
      go_wp2
      obtain ⟨wa, hwa⟩ : ∃ wa, wa = wr := ⟨_, rfl⟩
      have hva : ∃ va, va = Value.slice ao N cap := ⟨_, rfl⟩
      go_loopw [23, 5] (fun i v wr => ∃ k : Nat, k ≤ 8 ∧ i = .int .i64 k ∧ GN w wr v (rl ++ endB m T k)) (fun i _ _ => 8 - (intOf i).toNat)
      case atStart => exact ⟨0, by omega, rfl, HGA.out⟩
      case round =>
        clear HGA hnc hcm hN1 HN hva hwa hne' hTn htn htb htot hj hjq
        obtain ⟨k, hk, rfl, hg⟩ := hrel
        have hlk : (rl ++ endB m T k).length = m + pad m + 1 + k := by rw [List.length_append, endB_len, HM.out]; omega
        have hlk2 : m + pad m + 1 + k ≤ 1000100 := by have := pad_lt m; omega
        have HG2 := Lib.hid hg
        have HL := Lib.hid hlk
        have HL2 := Lib.hid hlk2
        clear hg hlk hlk2
        by_cases hk8 : k < 8
        · have hsh : (T : Int) / 2 ^ (8 * (7 - k)) % 256 = ((UInt8.ofNat (T / 2 ^ (8 * (7 - k)))).toNat : Int) := shift_byte _ _
          have hES := endB_succ m T k
          generalize UInt8.ofNat (T / 2 ^ (8 * (7 - k))) = z at hsh hES
          have HSH := Lib.hid hsh
          have HES := Lib.hid hES
          have hz := z.toNat_lt
          obtain ⟨e, he⟩ : ∃ e, 8 * (7 - k) = e := ⟨_, rfl⟩
          obtain ⟨j, hj⟩ : ∃ j, 7 - k = j := ⟨_, rfl⟩
          have h7 : (7 : Int) - (k : Int) = (j : Int) := by omega
          have h8 : (8 : Int) * (j : Int) = (e : Int) := by omega
          have he6 : e < 64 := by omega
          have hj7 : j ≤ 7 := by omega
          rw [he] at HSH
          obtain ⟨ao3, cap3, hv3, _⟩ := (show Sl _ _ _ _ _ _ from HG2.out.s).shape
          rw [HL.out] at hv3
          subst hv3
          clear hsh hES hj he
          go_upto_region 9 with (at_builtin; go_loud (refine wpList_append_sl rfl _ _ 64 rfl Tryd.underlying64 hi hz0 hz1 hz2 rfl (by decide) rfl rfl (Sl.keep HG2.out.s ((Turns.refl nobody _).alloc _) (fun _ _ h => h)) (src_one _ _) (by unfold maxLen; rw [HL.out]; have := HL2.out; omega) (by rw [HL.out]; have := HL2.out; omega) ?_; intro v2 w2 h2 t2 n2 c2; rw [HSH.out] at h2; have HG3 := Lib.hid (HG2.out.app (r := [z]) h2 (len_app1 _ z) (bcs_app1 _ z) t2 n2); clear h2 t2 n2 c2))
          rw [List.append_assoc, ← HES.out] at HG3
          go_wp2
          exact ⟨⟨k + 1, by omega, by go_num, HG3.out⟩, by simp [intOf]; omega⟩
        · obtain rfl : k = 8 := by omega
          go_wp2
          go_ret
          exact ⟨_, rfl, HG2.out.s, HG2.out.t, HG2.out.n⟩
end Go.Proofs.YtjnplcajajdkiaaDoor.sha
