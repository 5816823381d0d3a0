/- The reference's sum of a text. -/
import Derived.Test.YtjnplcajajdkiaaDoorShaConv
namespace Go.Proofs.YtjnplcajajdkiaaDoor.sha
open Go.RowKit
open Go.Proofs.YtjnplcajajdkiaaDoor.stepkit Go.Proofs.YtjnplcajajdkiaaDoor.obj Go.Proofs.YtjnplcajajdkiaaDoor.row Go.Proofs.YtjnplcajajdkiaaDoor.mix Go.Proofs.YtjnplcajajdkiaaDoor.idkit

theorem exec_conv {P : Program} {op : Oper} {a : Act} {w w' : World} (src dst : TypeId) (x : Operand) (ho : op.op = .convert src dst x) {u v : Value} (hx : a.eval x = u) (hr : (convert src dst u).run P w = .ok v w') : (execOp a.eval op).run P w = .ok (.value v) w' := by
  unfold execOp
  simp only [ho, hx, Sem.run_bind, hr, Sem.run_pure, Result.andThen_ok]
theorem srcG_one (W : World) (x : Int) : _root_.Go.Src Tryd.prog 1 64 (.slice (some ⟨W.heap.size, 0, none⟩) 1 1) 1 [.int .u8 x] (W.alloc (.cells #[.int .u8 x] 5)) := by
  refine _root_.Go.Src.ofSlice _ Tryd.underlying64 _ 1 1 _ rfl (fun j u hj => ?_) (fun u hu => by simp only [List.mem_singleton] at hu; subst hu; rfl)
  have hj0 : j = 0 := by have := (List.getElem?_eq_some_iff.1 hj).1; simp at this; omega
  subst hj0
  simp only [List.getElem?_cons_zero, Option.some.injEq] at hj
  rw [Addr.add_lit, ← hj]
  simp only [World.cell?, Nat.add_zero]
  rw [heap_alloc_new]
  rfl
/-- A slice of bytes that was made since, in whatever block. -/
structure GNG (w W : World) (v : Value) (l : List UInt8) : Prop where
  s : SlG W 5 1 v l.length (bcs l)
  t : Turns nobody w W
  n : ∀ j, blk v j → w.heap.size ≤ j
theorem GNG.app {w W w2 : World} {v v2 : Value} {l r : List UInt8} {k : Nat} {xs : List Value} {o : Obj} (h : GNG w W v l) (hs : SlG w2 5 1 v2 k xs) (hk : k = (l ++ r).length) (hx : xs = bcs (l ++ r)) (ht : Turns (blk v) (W.alloc o) w2) (hn : Newer v v2 (W.alloc o)) : GNG w w2 v2 (l ++ r) := by
  subst hk hx
  refine ⟨hs, (h.t.alloc o).trans ht (fun i hi => Or.inr (h.n i hi)), fun j hj => ?_⟩
  rcases hn j hj with h1 | h1
  · exact h.n j h1
  · have := h.t.size; rw [World.size_alloc] at h1; omega
theorem GNG.still {w W W' : World} {v : Value} {l : List UInt8} (h : GNG w W v l) (ht : Turns nobody W W') : GNG w W' v l := ⟨h.s.keep ht (fun _ _ h => h), h.t.trans ht (fun _ h => h.elim), h.n⟩

def outP (v : Nat → W32) (n : Nat) : List Int := (List.range 32).map fun i => if i < n then byteAt v i else 0
theorem outP_len (v : Nat → W32) (n : Nat) : (outP v n).length = 32 := by simp [outP]
theorem outP_zero (v : Nat → W32) : outP v 0 = List.replicate 32 0 := by
  unfold outP
  simp only [Nat.not_lt_zero, if_false]
  rfl
theorem outP_all (v : Nat → W32) : outP v 32 = out v := by
  refine List.map_congr_left fun i hi => ?_
  rw [if_pos (List.mem_range.1 hi)]
theorem outP_succ (v : Nat → W32) (n : Nat) : (outP v n).set n (byteAt v n) = outP v (n + 1) := by
  refine List.ext_getElem (by simp [outP]) fun i h1 h2 => ?_
  simp only [List.getElem_set, outP, List.getElem_map, List.getElem_range]
  by_cases e0 : n = i
  · subst e0; rw [if_pos rfl, if_pos (by omega)]
  · rw [if_neg e0]
    by_cases hl : i < n
    · rw [if_pos hl, if_pos (by omega)]
    · rw [if_neg hl, if_neg (by omega)]
theorem put_byte {w : World} {B : Nat} {v : Nat → W32} {n : Nat} (h : w.heap[B]? = some (.cells (idc (outP v n)).toArray 31 (0, 0))) :
    (w.setCell ⟨B, n, none⟩ (.int .u8 (byteAt v n))).heap[B]? = some (.cells (idc (outP v (n + 1))).toArray 31 (0, 0)) := by
  have h1 := heap_setCell_at h n (.int .u8 (byteAt v n))
  rw [h1]
  simp only [List.setIfInBounds_toArray, set_outC, outP_succ]
theorem byte_sh (v : Nat → W32) (i : Nat) : wi (v (i / 4)) / 2 ^ (24 - 8 * (i % 4)) % 256 = byteAt v i := by
  unfold byteAt wi
  simp

theorem range_keep' {w w' : World} {p o : Nat} {cs : List Value} {F : Nat → Prop} (h : w.rangeAt p o cs) (ht : Turns F w w') (hn : ¬ F p) : w'.rangeAt p o cs := fun j v hj => (ht.cell (p := ⟨p, o + j, none⟩) (Go.Proofs.YtjnplcajajdkiaaDoor.obj.lt_of_cell' (h j v hj)) hn).trans (h j v hj)

set_option maxRecDepth 10000 in
set_option maxHeartbeats 2000000 in
theorem refsum_any (s : ByteArray) (w : World) (hs : s.size ≤ 1000000) :
    Calls Tryd.prog 9 #[.string s] w fun e w' => e = .returned (idv (sum s.data.toList)) ∧ Turns nobody w w' := by
  obtain ⟨H, hH⟩ : ∃ H, w.heap.size = H := ⟨_, rfl⟩
  obtain ⟨wa, hwa⟩ : ∃ wa, wa = w.alloc (.cells #[.int .u8 0, .int .u8 0, .int .u8 0, .int .u8 0, .int .u8 0, .int .u8 0, .int .u8 0, .int .u8 0, .int .u8 0, .int .u8 0, .int .u8 0, .int .u8 0, .int .u8 0, .int .u8 0, .int .u8 0, .int .u8 0, .int .u8 0, .int .u8 0, .int .u8 0, .int .u8 0, .int .u8 0, .int .u8 0, .int .u8 0, .int .u8 0, .int .u8 0, .int .u8 0, .int .u8 0, .int .u8 0, .int .u8 0, .int .u8 0, .int .u8 0, .int .u8 0] 31) := ⟨_, rfl⟩
  have ta : Turns nobody w wa := by rw [hwa]; exact (Turns.refl _ _).alloc _
  have za : wa.heap.size = H + 1 := by rw [hwa, ← hH]; simp
  have hra : wa.heap[H]? = some (.cells (idc (List.replicate 32 0)).toArray 31 (0, 0)) := by rw [hwa, ← hH]; exact new32 w
  obtain ⟨cap, wc, hconv, hsc, tc⟩ := conv_slG wa s (by unfold maxLen; omega)
  obtain ⟨l, hl⟩ : ∃ l, s.data.toList = l := ⟨_, rfl⟩
  have hss : l.length = s.size := by rw [← hl]; exact Array.length_toList
  rw [hl] at hsc ⊢
  obtain ⟨m, hm⟩ : ∃ m, s.size = m := ⟨_, rfl⟩
  rw [hm] at hconv hsc hss hs
  rw [za] at hconv hsc
  have HG0 : Hid (GNG wa wc (.slice (some ⟨H + 1, 0, none⟩) m cap) l) := Lib.hid ⟨by rw [hss]; exact hsc, tc, fun j hj => by simp only [blk, Value.ownBlock, Option.some.injEq] at hj; omega⟩
  have HCV := Lib.hid hconv
  have HR0 := Lib.hid hra
  have HTA := Lib.hid ta
  have HWA := Lib.hid hwa
  have HSS := Lib.hid hss
  obtain ⟨i0, hi, hz0, hz1, hz2⟩ := info_parts infoU8
  clear hwa hra hconv hsc ta tc hl hss
  go_enter Tryd.func9, Tryd.ntmps9
  go_upto_region 1 with fail
  rw [← HWA.out]
  go_upto_region 2 with first
    | (refine wpList_exec (exec_conv _ _ _ rfl rfl HCV.out) rfl ?_)
    | (at_builtin; refine wpList_append_srcG rfl _ _ 64 64 rfl Tryd.underlying64 hi hz0 hz1 hz2 rfl (by decide) rfl rfl (SlG.keep HG0.out.s ((Turns.refl nobody _).alloc _) (fun _ _ h => h)) (srcG_one _ _) (by unfold maxLen; rw [HSS.out]; omega) (by rw [HSS.out]; omega) ?_; intro v2 w2 h2 t2 n2; have HG := Lib.hid (HG0.out.app (r := [0x80]) h2 (len_app1 _ 0x80) (bcs_app1 _ 0x80) t2 n2); clear h2 t2 n2)
  have HRW : Hid (∀ W, Turns nobody w W → W.heap[H]? = some (.cells (idc (List.replicate 32 0)).toArray 31 (0, 0)) → True) := Lib.hid fun _ _ _ => trivial
  have HPM := Lib.hid (pad_eq m)
  have HPL := Lib.hid (pad_least m)
  have hpad := pad_lt m
  obtain ⟨q, hq⟩ : ∃ q, pad m = q := ⟨_, rfl⟩
  have HQ := Lib.hid hq
  rw [hq] at HPM HPL hpad
  clear hq HRW
  obtain ⟨T, hT⟩ : ∃ T, m * 8 % 2 ^ 64 = T := ⟨_, rfl⟩
  have hTn : (m : Int) * 8 = T := by omega
  have HTT := Lib.hid hT
  clear hT
  go_loopw [3] (fun v wr => ∃ j : Nat, j ≤ q ∧ GNG wa wr v (l ++ (0x80 :: List.replicate j 0))) (fun v _ => q + m + 1 - lenOfV v)
  case atStart => exact ⟨0, by omega, HG.out⟩
  case round =>
    clear HG HG0 HCV
    obtain ⟨j, hj, hg⟩ := hrel
    have hlj : (l ++ (0x80 :: List.replicate j 0)).length = m + 1 + j := by simp [HSS.out]; omega
    obtain ⟨ao, cap0, hv, hnc, hcm, _, _⟩ := hg.s.shape
    rw [hlj] at hv hnc
    subst hv
    have HG2 := Lib.hid hg
    have HL := Lib.hid hlj
    obtain ⟨N, hN⟩ : ∃ N, m + 1 + j = N := ⟨_, rfl⟩
    have hN1 : N ≤ 1000100 := by omega
    have HN := Lib.hid hN
    clear hg hlj
    by_cases hjq : j < q
    · have hne := HPL.out j hjq
      rw [hN] at hne HG2 HL hnc ⊢
      have hne' : ¬ ((N : Int) % 64 = 56) := by omega
      clear hN hne
      go_wp2_with (at_builtin; refine wpList_append_srcG rfl _ _ 64 64 rfl Tryd.underlying64 hi hz0 hz1 hz2 rfl (by decide) rfl rfl (SlG.keep HG2.out.s ((Turns.refl nobody _).alloc _) (fun _ _ h => h)) (srcG_one _ _) (by unfold maxLen; rw [HL.out]; omega) (by rw [HL.out]; omega) ?_; intro v2 w2 h2 t2 n2; have HG3 := Lib.hid (HG2.out.app (r := [0]) h2 (len_app1 _ 0) (bcs_app1 _ 0) t2 n2); have hs2 := h2.shape; clear h2 t2 n2)
      rw [List.append_assoc, ← repl_succ] at HG3
      obtain ⟨ao2, cap2, rfl, _⟩ := hs2
      refine ⟨⟨j + 1, by omega, HG3.out⟩, ?_⟩
      have := HN.out
      have := HL.out
      simp only [lenOfV]
      omega
    · obtain rfl : j = q := by omega
      have hne := HPM.out
      rw [hN] at hne HG2 HL hnc ⊢
      have hne' : (N : Int) % 64 = 56 := by omega
      have hb : Hid (l ++ (0x80 :: List.replicate j 0) = l ++ endB m T 0) := Lib.hid (by unfold endB; rw [HQ.out]; simp [lenB])
      have HGA : Hid (GNG wa wr (.slice ao N cap0) (l ++ endB m T 0)) := by rw [← hb.out]; exact HG2
      clear hN hne HG2 HL hb
      have htot : IntKind.u64.wrap (m : Int) = m := by simp only [IntKind.wrap, IntKind.bits, IntKind.signed]; simp; omega
      have htn : (0 : Int) ≤ (m : Int) * 8 := by omega
      have htb : (m : Int) * 8 < 18446744073709551616 := by omega
      go_wp2
      clear hnc hcm hN1 HN hne' hTn htn htb htot hj hjq
      go_loopw [5, 3] (fun i v wr => ∃ (k : Nat) (z : Int), k ≤ 8 ∧ z = 7 - (k : Int) ∧ i = .int .i64 z ∧ GNG wa wr v (l ++ endB m T k)) (fun i _ _ => (intOf i + 1).toNat)
      case atStart => exact ⟨0, 7, by omega, by omega, rfl, HGA.out⟩
      case round =>
        clear HGA
        obtain ⟨k, z, hk, hz, rfl, hg⟩ := hrel
        have hlk : (l ++ endB m T k).length = m + pad m + 1 + k := by rw [List.length_append, endB_len, HSS.out]; omega
        have hlk2 : m + pad m + 1 + k ≤ 1000100 := by have := pad_lt m; omega
        have HG2 := Lib.hid hg
        have HL := Lib.hid hlk
        have HL2 := Lib.hid hlk2
        clear hg hlk hlk2
        by_cases hk8 : k < 8
        · have hsh : (T : Int) / 2 ^ (8 * (7 - k)) % 256 = ((UInt8.ofNat (T / 2 ^ (8 * (7 - k)))).toNat : Int) := shift_byte _ _
          have hES := endB_succ m T k
          generalize UInt8.ofNat (T / 2 ^ (8 * (7 - k))) = x at hsh hES
          have HSH := Lib.hid hsh
          have HES := Lib.hid hES
          obtain ⟨e, he⟩ : ∃ e, 8 * (7 - k) = e := ⟨_, rfl⟩
          obtain ⟨j, rfl⟩ : ∃ j : Nat, z = (j : Int) := ⟨7 - k, by omega⟩
          have h8 : (8 : Int) * (j : Int) = (e : Int) := by omega
          have he6 : e < 64 := by omega
          have hj7 : j ≤ 7 := by omega
          have hwe : IntKind.u64.wrap (e : Int) = e := by simp only [IntKind.wrap, IntKind.bits, IntKind.signed]; simp; omega
          rw [he] at HSH
          obtain ⟨ao3, cap3, hv3, _⟩ := HG2.out.s.shape
          rw [HL.out] at hv3
          subst hv3
          have hjk : Hid ((j : Int) - 1 = 7 - ((k + 1 : Nat) : Int)) := Lib.hid (by omega)
          clear hsh hES he hz
          go_upto_region 7 with (at_builtin; refine wpList_append_srcG rfl _ _ 64 64 rfl Tryd.underlying64 hi hz0 hz1 hz2 rfl (by decide) rfl rfl (SlG.keep HG2.out.s ((Turns.refl nobody _).alloc _) (fun _ _ h => h)) (srcG_one _ _) (by unfold maxLen; rw [HL.out]; have := HL2.out; omega) (by rw [HL.out]; have := HL2.out; omega) ?_; intro v2 w2 h2 t2 n2; rw [HSH.out] at h2; have HG3 := Lib.hid (HG2.out.app (r := [x]) h2 (len_app1 _ x) (bcs_app1 _ x) t2 n2); clear h2 t2 n2)
          rw [List.append_assoc, ← HES.out] at HG3
          go_wp2
          exact ⟨⟨k + 1, _, by omega, hjk.out, by go_num, HG3.out⟩, by simp [intOf]⟩
        · obtain rfl : k = 8 := by omega
          obtain rfl : z = -1 := by omega
          have hbe : l ++ endB m T 8 = l ++ tail l.length := by rw [← HTT.out, ← HSS.out]; rfl
          have hg := HG2.out
          rw [hbe] at hg
          obtain ⟨buf, hbuf⟩ : ∃ buf, l ++ tail l.length = buf := ⟨_, rfl⟩
          have hblen : buf.length % 64 = 0 := by rw [← hbuf, List.length_append]; exact whole l.length
          have hbmax : buf.length ≤ 1000100 := by rw [← hbuf, List.length_append, tail_len]; have := pad_lt l.length; have := HSS.out; omega
          have hb72 : 0 < buf.length := by rw [← hbuf, List.length_append, tail_len]; omega
          have hwd : words l = turns (buf.length / 64) first buf := by rw [← hbuf]; rfl
          rw [hbuf] at hg
          obtain ⟨g, o, capb, rfl⟩ := hg.s.some_of_pos hb72
          have hgs := hg.s
          obtain ⟨_, _, hvv, hnc, hcm, _⟩ := hgs.shape
          cases hvv
          have HB := Lib.hid hg
          have HWD := Lib.hid hwd
          clear HG2 HL HL2 hbe hbuf hg hgs hwd hk hk8 hz
          have HRB : Hid (∀ W, Turns nobody w W → True) := Lib.hid fun _ _ => trivial
          clear HRB
          clear hpad HPL HPM HQ HTT
          go_wp2_with first
            | (go_at_call 29; refine (start_any _).mono ?_; rintro e w5 ⟨rfl, t5⟩; have HT5 := Lib.hid t5; clear t5; obtain ⟨V, hV⟩ : ∃ V, w5.heap.size = V := ⟨_, rfl⟩)
            | ((with_reducible refine at_alloc ?_); refine wpList_new8 rfl _ _ _ rfl first hV rfl rfl info8 ?_; intro w6 t6 a6 z6; have HA6 := Lib.hid a6; have HT6 := Lib.hid t6; clear t6 a6)
            | (go_at_call 30; refine (consts_any _).mono ?_; rintro e w7 ⟨rfl, hw7⟩)
          obtain ⟨w8, hw8⟩ : ∃ w8, w8 = w6.alloc (.cells (arr 64 kAt).toArray 67) := ⟨_, rfl⟩
          rw [← hw8]
          clear hw7
          have t8 : Turns nobody wr w8 := by rw [hw8]; exact (HT5.out.trans HT6.out (fun _ h => h.elim)).alloc _
          have t68 : Turns nobody w6 w8 := by rw [hw8]; exact (Turns.refl _ _).alloc _
          have hb8 := HB.out.still t8
          have hgl : g < V := by have := HB.out.s.lt g rfl; have := HT5.out.size; omega
          have HK8 : Hid (w8.rangeAt (V + 1) 0 (arr 64 kAt)) := Lib.hid (range_of (by rw [hw8, ← z6]; exact heap_alloc_new w6 _))
          have HA8 : Hid (Arr w8 V 8 68 (turns 0 first buf)) := Lib.hid (HA6.out.turns t68 (fun h => h))
          have hz8 : w8.heap.size = V + 2 := by rw [hw8]; simp [z6]
          have HG8 : Hid (RB w8 g o buf) := Lib.hid fun i hi => by
            rw [SlG.cell hb8.s i (by rw [bcs_len]; exact hi), bcs_get _ _ hi]
          have HT8 : Hid (Turns nobody w w8) := Lib.hid (HTA.out.trans hb8.t (fun _ h => h.elim))
          have hHV : H < V := by have := HB.out.n g rfl; have := HB.out.t.size; have := HT5.out.size; omega
          have HR8 : Hid (w8.heap[H]? = some (.cells (idc (List.replicate 32 0)).toArray 31 (0, 0))) := Lib.hid (heap_newer HR0.out hb8.t (fun h => h))
          clear hw8 t8 t68 hb8 z6 HA6 HT6 HT5 HB hV
          go_loopw [8] (fun i w2 => ∃ k : Nat, 64 * k ≤ buf.length ∧ i = .int .i64 ((64 * k : Nat) : Int) ∧ Arr w2 V 8 68 (turns k first buf) ∧ Turns (fun i => i = V) w8 w2) (fun i _ => buf.length + 64 - (intOf i).toNat)
          case atStart => exact ⟨0, by omega, rfl, HA8.out, Turns.refl _ _⟩
          case round =>
            clear HA8
            obtain ⟨k, hk, rfl, ha, ht⟩ := hrel
            have HA := Lib.hid ha
            have HT := Lib.hid ht
            obtain ⟨e, he⟩ : ∃ e, 64 * k = e := ⟨_, rfl⟩
            obtain ⟨n, hn⟩ : ∃ n, buf.length = n := ⟨_, rfl⟩
            have HE := Lib.hid he
            have HN := Lib.hid hn
            rw [he] at hk ⊢
            rw [hn] at hbmax hnc hb72 hk hblen ⊢
            by_cases h64 : e + 64 ≤ n
            · have ha1 : Go.sliced (some ⟨g, o, none⟩) e (e + 64) capb 1 = .slice (some ⟨g, o + e, none⟩) 64 (capb - e) := by
                unfold Go.sliced
                rw [if_neg (by omega), Option.map_some, Addr.add_lit, Nat.mul_one, Nat.add_sub_cancel_left]
              have hrb : ∀ W, Turns nobody wr W → RB W g (o + e) ((buf.drop e).take 64) := fun W hW i hi => by
                have hi2 : i < 64 := by rw [List.length_take] at hi; omega
                have h1 := (HG8.out.keep ht (fun e => by omega)).keep hW (fun h => h) (e + i) (by omega)
                rw [Nat.add_assoc, h1]
                congr 3
                simp [List.getD, hi2]
              have hl64 : ((buf.drop e).take 64).length = 64 := by rw [List.length_take, List.length_drop]; omega
              have hcall := fun W (hW : Turns nobody wr W) => block_ref (turns k first buf) g (o + e) (capb - e) (V + 1) 0 64 _ hl64 W (hrb W hW) (range_keep (range_keep' HK8.out ht (by omega)) hW)
              have HA1 := Lib.hid ha1
              have HCALL := Lib.hid hcall
              have HRR := Lib.hid ha.range
              have SZ := Lib.hid (size8 (turns k first buf))
              have h64c : e + 64 ≤ capb := by omega
              have hg1 : (e : Int) + 64 ≤ (n : Int) := by omega
              have hwe : IntKind.i64.wrap ((e : Int) + 64) = (e : Int) + 64 := IntWalk.i64_in _ (by omega)
              clear ha ht ha1 hrb hl64 hcall he hn hk
              go_wp2
              refine wp_region_mix [(0, true, true), (1, true, true), (2, true, true), (3, true, true), (4, true, true), (5, true, true), (6, true, true), (7, false, false), (8, false, false)] (fun W => W = wr.drew) (by kernel_rfl) (by kernel_rfl) (rfl) ?_
              simp only [picked, List.filterMap_cons, List.filterMap_nil, List.getElem?_toArray, List.getElem?_cons_zero, List.getElem?_cons_succ, Option.map_some]
              refine mix_free (v := .agg (arr 8 (turns k first buf)).toArray) rfl (fun w' hI => by rw [hI]; exact exec_load_mid _ _ rfl _ _ rfl _ _ HRR.out Tryd.underlying68 rfl SZ.out) ?_
              simp only [Act.put, List.setIfInBounds_toArray, List.set_cons_zero, List.set_cons_succ]
              iterate 4 (refine mix_free (v := ?_) rfl ?_ ?_; rotate_left; (focus (intro w' hI; clear hI; go_simp; try with_reducible rfl)); simp only [Act.put, List.setIfInBounds_toArray, List.set_cons_zero, List.set_cons_succ])
              refine mix_free (v := .slice (some ⟨g, o + e, none⟩) 64 (capb - e)) rfl (fun w' _ => exec_cut_lh (i := e) (j := e + 64) Tryd.underlying64 sizeU8 _ _ _ rfl rfl rfl rfl (by omega) h64c HA1.out) ?_
              simp only [Act.put, List.setIfInBounds_toArray, List.set_cons_zero, List.set_cons_succ]
              (refine mix_free (v := ?_) rfl ?_ ?_; rotate_left; (focus (intro w' hI; clear hI; go_simp; try with_reducible rfl)); simp only [Act.put, List.setIfInBounds_toArray, List.set_cons_zero, List.set_cons_succ])
              refine mix_big rfl (fun K hK => ?_)
              go_wp2_with (go_at_call 31; refine (HCALL.out _ (Turns.refl _ _).drew).mono ?_; rintro e1 w5 ⟨rfl, t5⟩; have HT5 := Lib.hid t5; clear t5)
              refine hK _ _ (fun h => by cases h) ?_
              clear hK K
              refine mix_big rfl (fun K hK => ?_)
              have HA5 : Hid (Arr w5 V 8 68 (turns k first buf)) := Lib.hid (HA.out.turns ((Turns.refl nobody wr).drew.trans HT5.out (fun _ h => h.elim)) (fun h => h))
              go_wp2_with (refine wpList_put rfl _ _ _ rfl (turn (turns k first buf) ((buf.drop e).take 64)) HA5.out rfl rfl info8 ?_; intro w9 t9 a9 z9; have HA9 := Lib.hid a9; have HT9 := Lib.hid t9; clear t9 a9)
              refine hK _ _ (fun h => by cases h) ?_
              clear hK K
              refine mix_nil ?_
              go_wp2
              have hfin : Turns (fun i => i = V) w8 w9 := ((HT.out.drew).trans HT5.out (fun _ h => h.elim)).trans HT9.out (fun i hi => Or.inl hi)
              exact ⟨⟨k + 1, by have := HE.out; have := HN.out; omega, by have := HE.out; go_num, by rw [turns_succ, HE.out]; exact HA9.out, hfin⟩, by simp [intOf]; omega⟩
            · have hk8 : k = buf.length / 64 := by omega
              have HAF : Hid (Arr wr V 8 68 (words l)) := Lib.hid (by rw [HWD.out, ← hk8]; exact ha)
              have HTF : Hid (Turns nobody w wr) := Lib.hid (HT8.out.trans ht (fun i hi => Or.inr (by omega)))
              have HRF : Hid (wr.heap[H]? = some (.cells (idc (List.replicate 32 0)).toArray 31 (0, 0))) := Lib.hid (heap_newer HR8.out ht (by omega))
              have hzr : V + 2 ≤ wr.heap.size := by have := ht.size; omega
              have hg1 : ¬ (e : Int) + 64 ≤ (n : Int) := by omega
              have hwe : IntKind.i64.wrap ((e : Int) + 64) = (e : Int) + 64 := IntWalk.i64_in _ (by omega)
              clear ha ht HA HT hk8 HWD HG8 HK8 HR8 HT8 he hn hk h64
              obtain ⟨f, hf⟩ : ∃ f, words l = f := ⟨_, rfl⟩
              have HFF := Lib.hid hf
              rw [hf] at HAF
              clear hf
              obtain ⟨X, hX⟩ : ∃ X, wr.heap.size = X := ⟨_, rfl⟩
              obtain ⟨wx, hwx⟩ : ∃ wx, wx = wr.alloc (.cells #[.int .u8 0, .int .u8 0, .int .u8 0, .int .u8 0, .int .u8 0, .int .u8 0, .int .u8 0, .int .u8 0, .int .u8 0, .int .u8 0, .int .u8 0, .int .u8 0, .int .u8 0, .int .u8 0, .int .u8 0, .int .u8 0, .int .u8 0, .int .u8 0, .int .u8 0, .int .u8 0, .int .u8 0, .int .u8 0, .int .u8 0, .int .u8 0, .int .u8 0, .int .u8 0, .int .u8 0, .int .u8 0, .int .u8 0, .int .u8 0, .int .u8 0, .int .u8 0] 31) := ⟨_, rfl⟩
              have hx : wx.heap[X]? = some (.cells (idc (outP f 0)).toArray 31 (0, 0)) := by rw [hwx, ← hX, outP_zero]; exact new32 wr
              have tx : Turns nobody wr wx := by rw [hwx]; exact (Turns.refl _ _).alloc _
              rw [hX] at hzr
              have HXX := Lib.hid hx
              have HAX := Lib.hid (HAF.out.turns tx (fun h => h))
              have HRX := Lib.hid (heap_newer HRF.out tx (fun h => h))
              have HTX : Hid (Turns nobody w wx) := Lib.hid (HTF.out.trans tx (fun _ h => h.elim))
              have HWX := Lib.hid hwx
              clear hx tx hwx HAF HRF HTF
              go_wp2
              rw [← HWX.out]
              clear HWX hwe hg1
              go_loopw [10] (fun i w2 => ∃ n : Nat, n ≤ 32 ∧ i = .int .i64 n ∧ w2.heap[X]? = some (.cells (idc (outP f n)).toArray 31 (0, 0)) ∧ Turns (fun b => b = X) wx w2) (fun i _ => 32 - (intOf i).toNat)
              case atStart => exact ⟨0, by omega, rfl, HXX.out, Turns.refl _ _⟩
              case round =>
                clear HXX hX
                obtain ⟨i, hi32, rfl, hv2, ht2⟩ := hrel
                have HV2 := Lib.hid hv2
                have HT2 := Lib.hid ht2
                by_cases hi3 : i < 32
                · obtain ⟨y, hy⟩ : ∃ y, wr.cell? ⟨X, i, none⟩ = some y := ⟨_, cells_of hv2 i _ (List.getElem?_toArray.trans (List.getElem?_eq_getElem (by rw [idc_len, outP_len]; exact hi3)))⟩
                  have hfr := free_of hv2 i
                  have hc := (HAX.out.turns ht2 (by omega)).cell (i / 4) (by omega)
                  have hbs := byte_sh f i
                  have HPB := Lib.hid (put_byte hv2)
                  obtain ⟨a, ha⟩ : ∃ a, i / 4 = a := ⟨_, rfl⟩
                  obtain ⟨b, hb⟩ : ∃ b, i % 4 = b := ⟨_, rfl⟩
                  have h4 : (i : Int) / 4 = (a : Int) := by omega
                  have hr4 : (i : Int) % 4 = (b : Int) := by omega
                  have ha8 : a < 8 := by omega
                  have hb4 : b < 4 := by omega
                  rw [ha] at hc hbs
                  rw [hb] at hbs
                  obtain ⟨sh, hsh⟩ : ∃ sh, 24 - 8 * b = sh := ⟨_, rfl⟩
                  have hsh' : (24 : Int) - 8 * (b : Int) = (sh : Int) := by omega
                  have hsh3 : sh < 32 := by omega
                  have hwe : IntKind.u64.wrap (sh : Int) = sh := by simp only [IntKind.wrap, IntKind.bits, IntKind.signed]; simp; omega
                  have h8b : IntKind.i64.wrap (8 * (b : Int)) = 8 * (b : Int) := IntWalk.i64_in _ (by omega)
                  rw [hsh] at hbs
                  have HBS := Lib.hid hbs
                  clear hv2 ht2 ha hb hsh hbs
                  generalize f a = z at hc HBS
                  go_wp2
                  rw [HBS.out]
                  exact ⟨⟨i + 1, by omega, by go_num, HPB.out, HT2.out.setCell X _ _ (Or.inl rfl)⟩, by simp [intOf]; omega⟩
                · obtain rfl : i = 32 := by omega
                  have HRO := Lib.hid (range_of hv2)
                  have SZ8 : Hid ((Tryd.prog.info? 31).map (·.size) = some (idc (outP f 32)).length) := Lib.hid (by rw [infoI, idc_len, outP_len])
                  have HR9 := Lib.hid (heap_newer HRX.out ht2 (by omega))
                  clear hv2 ht2
                  go_wp2_with first
                    | (with_reducible refine wpList_load_mid rfl _ _ rfl _ _ rfl _ _ HRO.out Tryd.underlying31 rfl SZ8.out ?_)
                    | (refine wpList_putc rfl _ _ _ rfl (idc (outP f 32)) HR9.out (by rw [idc_len, outP_len]; rfl) (idc_one _) rfl rfl SZ8.out ?_; intro w9 t9 a9 z9)
                  refine bodyPost_ret (results_one rfl _ _ rfl (range_of a9) Tryd.underlying31 rfl SZ8.out) rfl ?_
                  refine ⟨?_, (HTX.out.trans HT2.out (fun i hi => Or.inr (by omega))).trans t9 (fun i hi => Or.inr (by omega))⟩
                  unfold sum idv
                  rw [outP_all, HFF.out]
end Go.Proofs.YtjnplcajajdkiaaDoor.sha
