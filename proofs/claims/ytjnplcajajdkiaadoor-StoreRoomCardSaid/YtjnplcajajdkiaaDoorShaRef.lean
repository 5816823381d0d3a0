/- The reference's block. -/
import Derived.Test.YtjnplcajajdkiaaDoorShaMem
namespace Go.Proofs.YtjnplcajajdkiaaDoor.sha
open Go.RowKit
open Go.Proofs.YtjnplcajajdkiaaDoor.stepkit Go.Proofs.YtjnplcajajdkiaaDoor.obj Go.Proofs.YtjnplcajajdkiaaDoor.row Go.Proofs.YtjnplcajajdkiaaDoor.mix Go.Proofs.YtjnplcajajdkiaaDoor.idkit

def schedF (l : List UInt8) (i : Nat) : Nat → W32 := fun j => if j < i then wdAt l j else 0
theorem schedF_succ (l : List UInt8) (i : Nat) : upd (schedF l i) i (wdAt l i) = schedF l (i + 1) := by
  funext j
  unfold upd schedF
  by_cases h : j = i
  · subst h; rw [if_pos rfl, if_pos (by omega)]
  · rw [if_neg h]
    by_cases h2 : j < i
    · rw [if_pos h2, if_pos (by omega)]
    · rw [if_neg h2, if_neg (by omega)]
theorem schedF_lt {l : List UInt8} {i j : Nat} (h : j < i) : schedF l i j = wdAt l j := by unfold schedF; rw [if_pos h]

theorem wd_low (l : List UInt8) (n : Nat) (h : n < 16) : wd4 l (4 * n) = wdAt l n := by rw [wdAt_eq, if_pos h]
theorem wd_next (l : List UInt8) (m : Nat) : nxt (wdAt l m) (wdAt l (m + 1)) (wdAt l (m + 9)) (wdAt l (m + 14)) = wdAt l (m + 16) := by
  rw [wdAt_eq l (m + 16), if_neg (by omega)]; rfl
theorem wi_tt (v : Nat → W32) (k w : W32) : wi (wp (wp (wp (wp (v 7) (wx (wx (rotr (v 4) 6) (rotr (v 4) 11)) (rotr (v 4) 25))) (wx (wa (v 4) (v 5)) (wa (wn (v 4)) (v 6)))) k) w) = wi (tt v k w) := rfl
theorem wi_uu (v : Nat → W32) : wi (wp (wx (wx (rotr (v 0) 2) (rotr (v 0) 13)) (rotr (v 0) 22)) (wx (wx (wa (v 0) (v 1)) (wa (v 0) (v 2))) (wa (v 1) (v 2)))) = wi (uu v) := rfl
def sh (v : Nat → W32) (j : Nat) : Nat → W32 := fun i => if i ≤ j then v i else v (i - 1)
theorem sh_step (v : Nat → W32) (j : Nat) : upd (sh v (j + 1)) (j + 1) (v j) = sh v j := by
  funext i
  unfold upd sh
  by_cases h : i = j + 1
  · subst h; rw [if_pos rfl, if_neg (by omega)]; rfl
  · rw [if_neg h]
    by_cases h2 : i ≤ j
    · rw [if_pos h2, if_pos (by omega)]
    · rw [if_neg h2, if_neg (by omega)]
theorem sh_rnd (v : Nat → W32) (k w : W32) : upd (upd (sh v 0) 4 (wp (v 3) (tt v k w))) 0 (wp (tt v k w) (uu v)) = rnd v k w := by
  funext i
  unfold upd sh rnd
  by_cases h : i = 0
  · rw [if_pos h, if_pos h]; rfl
  · rw [if_neg h, if_neg h]
    by_cases h4 : i = 4
    · rw [if_pos h4, if_pos h4]; rfl
    · rw [if_neg h4, if_neg h4, if_neg (by omega)]
/-- The words behind j sums. -/
def sm (l : List UInt8) (h : Nat → W32) (j : Nat) : Nat → W32 := fun i => if i < j then turn h l i else rounds l h 64 i
theorem sm_step (l : List UInt8) (h : Nat → W32) (j : Nat) : upd (sm l h j) j (wp (rounds l h 64 j) (h j)) = sm l h (j + 1) := by
  funext i
  unfold upd sm
  by_cases hi : i = j
  · subst hi; rw [if_pos rfl, if_pos (by omega)]; exact BitVec.add_comm _ _
  · rw [if_neg hi]
    by_cases h2 : i < j
    · rw [if_pos h2, if_pos (by omega)]
    · rw [if_neg h2, if_neg (by omega)]
theorem wi_nxt (a b c d : W32) : wi (wp (wp (wp a (wx (wx (rotr b 7) (rotr b 18)) (ws 3 b))) c) (wx (wx (rotr d 17) (rotr d 19)) (ws 10 d))) = wi (nxt a b c d) := rfl

set_option maxRecDepth 10000 in
set_option maxHeartbeats 2000000 in
theorem block_ref (h : Nat → W32) (g o cap kg ko kcap : Nat) (l : List UInt8) (hl : l.length = 64) (w : World) (hb : RB w g o l) (hk : w.rangeAt kg ko (arr 64 kAt)) :
    Calls Tryd.prog 31 #[.agg (arr 8 h).toArray, .slice (some ⟨g, o, none⟩) 64 cap, .slice (some ⟨kg, ko, none⟩) 64 kcap] w fun e w' => e = .returned (.agg (arr 8 (turn h l)).toArray) ∧ Turns nobody w w' := by
  obtain ⟨H, hH⟩ : ∃ H, w.heap.size = H := ⟨_, rfl⟩
  obtain ⟨w3, hw3⟩ : ∃ w3, w3 = ((w.alloc (.cells (arr 8 h).toArray 68)).alloc (.cells #[.int .u32 0, .int .u32 0, .int .u32 0, .int .u32 0, .int .u32 0, .int .u32 0, .int .u32 0, .int .u32 0] 68)).alloc (.cells #[.int .u32 0, .int .u32 0, .int .u32 0, .int .u32 0, .int .u32 0, .int .u32 0, .int .u32 0, .int .u32 0, .int .u32 0, .int .u32 0, .int .u32 0, .int .u32 0, .int .u32 0, .int .u32 0, .int .u32 0, .int .u32 0, .int .u32 0, .int .u32 0, .int .u32 0, .int .u32 0, .int .u32 0, .int .u32 0, .int .u32 0, .int .u32 0, .int .u32 0, .int .u32 0, .int .u32 0, .int .u32 0, .int .u32 0, .int .u32 0, .int .u32 0, .int .u32 0, .int .u32 0, .int .u32 0, .int .u32 0, .int .u32 0, .int .u32 0, .int .u32 0, .int .u32 0, .int .u32 0, .int .u32 0, .int .u32 0, .int .u32 0, .int .u32 0, .int .u32 0, .int .u32 0, .int .u32 0, .int .u32 0, .int .u32 0, .int .u32 0, .int .u32 0, .int .u32 0, .int .u32 0, .int .u32 0, .int .u32 0, .int .u32 0, .int .u32 0, .int .u32 0, .int .u32 0, .int .u32 0, .int .u32 0, .int .u32 0, .int .u32 0, .int .u32 0] 98) := ⟨_, rfl⟩
  have a1 : Arr w3 H 8 68 h := by
    rw [hw3, ← hH]
    exact (show Arr (w.alloc (.cells (arr 8 h).toArray 68)) w.heap.size 8 _ h from heap_alloc_new w _).turns (((Turns.refl nobody _).alloc _).alloc _) (fun h => h)
  have a2 : Arr w3 (H + 1) 8 68 (fun _ => 0) := by
    rw [hw3, ← hH, show w.heap.size + 1 = (w.alloc (.cells (arr 8 h).toArray 68)).heap.size by simp]
    exact (new8 _ _).turns ((Turns.refl nobody _).alloc _) (fun h => h)
  have a3 : Arr w3 (H + 2) 64 98 (schedF l 0) := by
    rw [hw3, ← hH, show w.heap.size + 2 = ((w.alloc (.cells (arr 8 h).toArray 68)).alloc (.cells #[.int .u32 0, .int .u32 0, .int .u32 0, .int .u32 0, .int .u32 0, .int .u32 0, .int .u32 0, .int .u32 0] 68)).heap.size by simp]
    exact heap_alloc_new _ _
  have t3 : Turns nobody w w3 := by rw [hw3]; exact (((Turns.refl nobody _).alloc _).alloc _).alloc _
  have z3 : w3.heap.size = H + 3 := by rw [hw3, ← hH]; simp
  have HB : Hid (∀ W, Turns nobody w W → RB W g o l) := Lib.hid fun W ht => hb.keep ht (fun h => h)
  have HK : Hid (∀ W, Turns nobody w W → W.rangeAt kg ko (arr 64 kAt)) := Lib.hid fun W ht => range_keep hk ht
  have HZ := Lib.hid hH
  have HT3 := Lib.hid t3
  have HA1 := Lib.hid a1
  have HA2 := Lib.hid a2
  have HA3 := Lib.hid a3
  have HW3 := Lib.hid hw3
  clear hb hk a1 a2 a3 t3 hw3
  go_enter Tryd.func31, Tryd.ntmps31
  go_wp2
  rw [← HW3.out]
  go_loopw [8] (fun i wr => ∃ n : Nat, n ≤ 64 ∧ i = .int .i64 n ∧ Arr wr (H + 2) 64 98 (schedF l n) ∧ Turns (fun b => b = H + 2) w3 wr ∧ wr.heap.size = H + 3) (fun i _ => 64 - (intOf i).toNat)
  case atStart => exact ⟨0, by omega, rfl, HA3.out, Turns.refl _ _, z3⟩
  case round =>
    obtain ⟨n, hn, rfl, ha, ht, hz⟩ := hrel
    have HT := Lib.hid ht
    have hTW : Turns nobody w wr := HT3.out.trans ht (fun i hi => Or.inr (by rw [hi]; omega))
    have HTW := Lib.hid hTW
    have HA := Lib.hid ha
    have fr := ha.free n
    by_cases hlt : n < 64
    · have cn := ha.cell n hlt
      by_cases h16 : n < 16
      · clear ha ht hTW
        go_wp2_with (go_at_call 50; refine (word_w g o 64 cap l _ (HB.out _ HTW.out) (4 * n) hl.symm (by unfold maxLen; omega) (by omega)).mono ?_; rintro e w5 ⟨rfl, m, rfl⟩)
        rw [wd_low l n h16]
        have hs := Arr.set (w := wr.drewN m) (HA.out : Arr (wr.drewN m) _ _ _ _) n (wdAt l n)
        rw [schedF_succ] at hs
        exact ⟨⟨n + 1, by omega, by go_num, hs, (HT.out.drewN m).setCell (H + 2) n _ (Or.inl rfl), by rw [← hz]; simp [World.setCell]⟩, by simp [intOf]; omega⟩
      · obtain ⟨m, rfl⟩ : ∃ m, n = m + 16 := ⟨n - 16, by omega⟩
        have c0 := ha.cell m (by omega)
        have c1 := ha.cell (m + 1) (by omega)
        have c7 := ha.cell (m + 9) (by omega)
        have c2 := ha.cell (m + 14) (by omega)
        rw [schedF_lt (by omega)] at c0 c1 c7 c2
        have hwm : IntKind.i64.wrap (m : Int) = m := IntWalk.i64_in _ (by omega)
        have hw7 : IntKind.i64.wrap ((m : Int) + 16 - 7) = m + 9 := by rw [IntWalk.i64_in _ (by omega)]; omega
        have hp9 : (0 : Int) ≤ (m : Int) + 9 := by omega
        have ht9 : ((m : Int) + 9).toNat = m + 9 := by omega
        have hp16 : (0 : Int) ≤ (m : Int) + 16 := by omega
        have ht16 : ((m : Int) + 16).toNat = m + 16 := by omega
        have hm1 : (m : Int) < 64 := by omega
        have hm2 : (m : Int) + 9 < 64 := by omega
        clear ha ht hTW
        go_wp2
        refine wp_region_mix [(0, true, true), (1, true, true), (2, true, true), (3, true, true), (4, true, true), (5, true, true), (7, true, true), (10, true, true), (11, true, true), (14, true, true), (15, true, true), (16, true, true), (17, true, true), (19, true, true), (21, true, true), (24, true, true), (25, true, true), (6, false, true), (8, false, true), (9, true, true), (12, true, true), (13, true, true), (18, true, true), (20, false, true), (22, false, true), (23, true, true), (26, true, true), (27, true, true), (28, true, true), (29, false, false)] (fun W => W = wr.drew) (by kernel_rfl) (by kernel_rfl) (rfl) ?_
        simp only [picked, List.filterMap_cons, List.filterMap_nil, List.getElem?_toArray, List.getElem?_cons_zero, List.getElem?_cons_succ, Option.map_some]
        repeat (refine mix_free (v := ?_) rfl ?_ ?_; rotate_left; (focus (intro w' hI; subst hI; go_simp; (try simp only [wi_xor, wi_add, wi_addw, wi_shr3, wi_shr10]); with_reducible rfl)); simp only [Act.put, List.setIfInBounds_toArray, List.set_cons_zero, List.set_cons_succ])
        refine mix_big rfl (fun K hK => ?_)
        go_wp2_with (go_at_call 51; refine (rotr_w (wdAt l (m + 1)) 7 (by decide) (by decide) _).mono ?_; rintro e w5 ⟨rfl, rfl⟩)
        refine hK _ _ (fun _ => rfl) ?_
        clear hK K
        refine mix_big rfl (fun K hK => ?_)
        go_wp2_with (go_at_call 51; refine (rotr_w (wdAt l (m + 1)) 18 (by decide) (by decide) _).mono ?_; rintro e w5 ⟨rfl, rfl⟩)
        refine hK _ _ (fun _ => rfl) ?_
        clear hK K
        repeat (refine mix_free (v := ?_) rfl ?_ ?_; rotate_left; (focus (intro w' hI; subst hI; go_simp; (try simp only [wi_xor, wi_add, wi_addw, wi_shr3, wi_shr10]); with_reducible rfl)); simp only [Act.put, List.setIfInBounds_toArray, List.set_cons_zero, List.set_cons_succ])
        refine mix_big rfl (fun K hK => ?_)
        go_wp2_with (go_at_call 51; refine (rotr_w (wdAt l (m + 14)) 17 (by decide) (by decide) _).mono ?_; rintro e w5 ⟨rfl, rfl⟩)
        refine hK _ _ (fun _ => rfl) ?_
        clear hK K
        refine mix_big rfl (fun K hK => ?_)
        go_wp2_with (go_at_call 51; refine (rotr_w (wdAt l (m + 14)) 19 (by decide) (by decide) _).mono ?_; rintro e w5 ⟨rfl, rfl⟩)
        refine hK _ _ (fun _ => rfl) ?_
        clear hK K
        repeat (refine mix_free (v := ?_) rfl ?_ ?_; rotate_left; (focus (intro w' hI; subst hI; go_simp; (try simp only [wi_xor, wi_add, wi_addw, wi_shr3, wi_shr10]); with_reducible rfl)); simp only [Act.put, List.setIfInBounds_toArray, List.set_cons_zero, List.set_cons_succ])
        clear c0 c1 c7 c2
        refine mix_big rfl (fun K hK => ?_)
        go_wp2
        refine hK _ _ (fun h => by cases h) ?_
        clear hK K
        refine mix_nil ?_
        go_wp2
        rw [wi_nxt, wd_next]
        have hs := Arr.set (w := wr.drew) (HA.out : Arr wr.drew _ _ _ _) (m + 16) (wdAt l (m + 16))
        rw [schedF_succ] at hs
        exact ⟨⟨m + 16 + 1, by omega, by go_num, hs, (HT.out.drew).setCell (H + 2) (m + 16) _ (Or.inl rfl), by rw [← hz]; simp [World.setCell]⟩, by simp [intOf]; omega⟩
    · obtain rfl : n = 64 := by omega
      have HA64 : Hid (Arr wr (H + 2) 64 98 (wdAt l)) := Lib.hid (ha.congr fun i hi => schedF_lt hi)
      have HB1 : Hid (Arr wr H 8 68 h) := Lib.hid (HA1.out.turns ht (by omega))
      have HB2 : Hid (Arr wr (H + 1) 8 68 (fun _ => 0)) := Lib.hid (HA2.out.turns ht (by omega))
      have HR1 := Lib.hid HB1.out.range
      have SZ8 := Lib.hid (size8 h)
      clear ha ht hTW HA
      go_wp2_with first
        | (with_reducible refine wpList_load_mid rfl _ _ rfl _ _ rfl _ _ HR1.out Tryd.underlying68 rfl SZ8.out ?_)
        | ((with_reducible refine at_alloc ?_); refine wpList_new8 rfl _ _ _ rfl h hz rfl rfl info8 ?_; intro w5 t5 a5 z5)
      have HA5 := Lib.hid a5
      have HW : Hid (Arr w5 (H + 2) 64 98 (wdAt l)) := Lib.hid (HA64.out.turns t5 (fun h => h))
      have HH : Hid (Arr w5 H 8 68 h) := Lib.hid (HB1.out.turns t5 (fun h => h))
      have HO : Hid (Arr w5 (H + 1) 8 68 (fun _ => 0)) := Lib.hid (HB2.out.turns t5 (fun h => h))
      have HT5 : Hid (Turns nobody w w5) := Lib.hid (HTW.out.trans t5 (fun _ h => h.elim))
      clear a5 t5 HA64 HB1 HB2 HR1 HTW HT
      go_loopw [12] (fun i wr => ∃ n : Nat, n ≤ 64 ∧ i = .int .i64 n ∧ Arr wr (H + 3) 8 68 (rounds l h n) ∧ Turns (fun b => b = H + 3) w5 wr ∧ wr.heap.size = H + 4) (fun i _ => 64 - (intOf i).toNat)
      case atStart => exact ⟨0, by omega, rfl, HA5.out, Turns.refl _ _, z5⟩
      case round =>
        clear HA5
        obtain ⟨n, hn, rfl, ha, ht, hz6⟩ := hrel
        have HT := Lib.hid ht
        have HA := Lib.hid ha
        by_cases hlt : n < 64
        · obtain ⟨v, hv⟩ : ∃ v, rounds l h n = v := ⟨_, rfl⟩
          obtain ⟨kn, hkn⟩ : ∃ kn, kAt n = kn := ⟨_, rfl⟩
          obtain ⟨wn, hwn⟩ : ∃ wn, wdAt l n = wn := ⟨_, rfl⟩
          rw [hv] at ha
          have ck : wr.cell? ⟨kg, ko + n, none⟩ = some (.int .u32 (wi kn)) := by
            rw [← hkn]
            exact (HK.out _ (HT5.out.trans ht (fun i hi => Or.inr (by rw [hi]; omega)))) n _ (arr_get 64 kAt n hlt)
          have cw : wr.cell? ⟨H + 2, n, none⟩ = some (.int .u32 (wi wn)) := by
            rw [← hwn]
            exact (HW.out.turns ht (by omega)).cell n hlt
          have c0 := ha.cell 0 (by decide)
          have c1 := ha.cell 1 (by decide)
          have c2 := ha.cell 2 (by decide)
          have c4 := ha.cell 4 (by decide)
          have c5 := ha.cell 5 (by decide)
          have c6 := ha.cell 6 (by decide)
          have c7 := ha.cell 7 (by decide)
          have hn1 : (n : Int) < 64 := by omega
          have HAV : Hid (Arr wr (H + 3) 8 68 v) := Lib.hid ha
          have HV := Lib.hid hv
          have HKN := Lib.hid hkn
          have HWN := Lib.hid hwn
          clear ha ht HA hv hkn hwn
          go_wp2
          refine wp_region_mix [(0, true, true), (1, true, true), (2, true, true), (4, true, true), (7, true, true), (11, true, true), (12, true, true), (13, true, true), (14, true, true), (15, true, true), (16, true, true), (17, true, true), (18, true, true), (19, true, true), (20, true, true), (22, true, true), (23, true, true), (24, true, true), (25, true, true), (27, true, true), (28, true, true), (29, true, true), (3, false, true), (5, false, true), (6, true, true), (8, false, true), (9, true, true), (10, true, true), (21, true, true), (26, true, true), (30, true, true), (31, true, true)] (fun W => W = wr.drew) (by kernel_rfl) (by kernel_rfl) (rfl) ?_
          simp only [picked, List.filterMap_cons, List.filterMap_nil, List.getElem?_toArray, List.getElem?_cons_zero, List.getElem?_cons_succ, Option.map_some]
          repeat (refine mix_free (v := ?_) rfl ?_ ?_; rotate_left; (focus (intro w' hI; subst hI; go_simp; (try simp only [wi_xor, wi_and, wi_not, wi_add, wi_addw]); with_reducible rfl)); simp only [Act.put, List.setIfInBounds_toArray, List.set_cons_zero, List.set_cons_succ])
          refine mix_big rfl (fun K hK => ?_)
          go_wp2_with (go_at_call 51; refine (rotr_w (v 4) 6 (by decide) (by decide) _).mono ?_; rintro e w5 ⟨rfl, rfl⟩)
          refine hK _ _ (fun _ => rfl) ?_
          clear hK K
          refine mix_big rfl (fun K hK => ?_)
          go_wp2_with (go_at_call 51; refine (rotr_w (v 4) 11 (by decide) (by decide) _).mono ?_; rintro e w5 ⟨rfl, rfl⟩)
          refine hK _ _ (fun _ => rfl) ?_
          clear hK K
          repeat (refine mix_free (v := ?_) rfl ?_ ?_; rotate_left; (focus (intro w' hI; subst hI; go_simp; (try simp only [wi_xor, wi_and, wi_not, wi_add, wi_addw]); with_reducible rfl)); simp only [Act.put, List.setIfInBounds_toArray, List.set_cons_zero, List.set_cons_succ])
          refine mix_big rfl (fun K hK => ?_)
          go_wp2_with (go_at_call 51; refine (rotr_w (v 4) 25 (by decide) (by decide) _).mono ?_; rintro e w5 ⟨rfl, rfl⟩)
          refine hK _ _ (fun _ => rfl) ?_
          clear hK K
          repeat (refine mix_free (v := ?_) rfl ?_ ?_; rotate_left; (focus (intro w' hI; subst hI; go_simp; (try simp only [wi_xor, wi_and, wi_not, wi_add, wi_addw]); with_reducible rfl)); simp only [Act.put, List.setIfInBounds_toArray, List.set_cons_zero, List.set_cons_succ])
          refine mix_nil ?_
          rw [wi_tt]
          obtain ⟨t, ht0⟩ : ∃ t, tt v kn wn = t := ⟨_, rfl⟩
          have HTT := Lib.hid ht0
          rw [ht0]
          clear ht0
          clear ck cw c4 c5 c6 c7
          go_wp2
          refine wp_region_mix [(0, true, true), (2, true, true), (5, true, true), (8, true, true), (9, true, true), (10, true, true), (11, true, true), (12, true, true), (13, true, true), (14, true, true), (15, true, true), (16, true, true), (17, true, true), (18, true, true), (19, true, true), (20, true, true), (21, true, true), (22, true, true), (1, false, true), (3, false, true), (4, true, true), (6, false, true), (7, true, true), (23, true, true), (24, true, true)] (fun W => W = wr.drew.drew) (by kernel_rfl) (by kernel_rfl) (rfl) ?_
          simp only [picked, List.filterMap_cons, List.filterMap_nil, List.getElem?_toArray, List.getElem?_cons_zero, List.getElem?_cons_succ, Option.map_some]
          repeat (refine mix_free (v := ?_) rfl ?_ ?_; rotate_left; (focus (intro w' hI; subst hI; go_simp; (try simp only [wi_xor, wi_and, wi_not, wi_add, wi_addw]); with_reducible rfl)); simp only [Act.put, List.setIfInBounds_toArray, List.set_cons_zero, List.set_cons_succ])
          refine mix_big rfl (fun K hK => ?_)
          go_wp2_with (go_at_call 51; refine (rotr_w (v 0) 2 (by decide) (by decide) _).mono ?_; rintro e w5 ⟨rfl, rfl⟩)
          refine hK _ _ (fun _ => rfl) ?_
          clear hK K
          refine mix_big rfl (fun K hK => ?_)
          go_wp2_with (go_at_call 51; refine (rotr_w (v 0) 13 (by decide) (by decide) _).mono ?_; rintro e w5 ⟨rfl, rfl⟩)
          refine hK _ _ (fun _ => rfl) ?_
          clear hK K
          repeat (refine mix_free (v := ?_) rfl ?_ ?_; rotate_left; (focus (intro w' hI; subst hI; go_simp; (try simp only [wi_xor, wi_and, wi_not, wi_add, wi_addw]); with_reducible rfl)); simp only [Act.put, List.setIfInBounds_toArray, List.set_cons_zero, List.set_cons_succ])
          refine mix_big rfl (fun K hK => ?_)
          go_wp2_with (go_at_call 51; refine (rotr_w (v 0) 22 (by decide) (by decide) _).mono ?_; rintro e w5 ⟨rfl, rfl⟩)
          refine hK _ _ (fun _ => rfl) ?_
          clear hK K
          repeat (refine mix_free (v := ?_) rfl ?_ ?_; rotate_left; (focus (intro w' hI; subst hI; go_simp; (try simp only [wi_xor, wi_and, wi_not, wi_add, wi_addw]); with_reducible rfl)); simp only [Act.put, List.setIfInBounds_toArray, List.set_cons_zero, List.set_cons_succ])
          refine mix_nil ?_
          rw [wi_uu]
          obtain ⟨u, hu⟩ : ∃ u, uu v = u := ⟨_, rfl⟩
          have HU := Lib.hid hu
          rw [hu]
          clear c0 c1 c2 hu
          go_wp2
          have HAD : Hid (Arr wr.drew.drew (H + 3) 8 68 (sh v 7)) := Lib.hid ((show Arr wr.drew.drew _ _ _ v from HAV.out).congr fun i hi => by unfold sh; rw [if_pos (by omega)])
          have HTD : Hid (Turns (fun b => b = H + 3) w5 wr.drew.drew) := Lib.hid HT.out.drew.drew
          have hzd : wr.drew.drew.heap.size = H + 4 := hz6
          obtain ⟨wd, hwd⟩ : ∃ wd, wd = wr.drew.drew := ⟨_, rfl⟩
          rw [← hwd] at HAD HTD hzd ⊢
          clear hwd HT HAV hz6
          go_loopw [17] (fun i w2 => ∃ j : Nat, j ≤ 7 ∧ i = .int .i64 j ∧ Arr w2 (H + 3) 8 68 (sh v j) ∧ Turns (fun b => b = H + 3) w5 w2 ∧ w2.heap.size = H + 4) (fun i _ => (intOf i).toNat)
          case atStart => exact ⟨7, by omega, rfl, HAD.out, HTD.out, hzd⟩
          case round =>
            clear HAD HTD hzd
            obtain ⟨j, hj, rfl, ha, ht, hzj⟩ := hrel
            have HT := Lib.hid ht
            have HA := Lib.hid ha
            by_cases hj0 : j = 0
            · subst hj0
              have c4 := ha.cell 4 (by decide)
              rw [show sh v 0 4 = v 3 from rfl] at c4
              have c0 := ha.cell 0 (by decide)
              have f4 := ha.free 4
              have f0 := ha.free 0
              clear ha ht
              go_wp2
              simp only [wi_add, wi_addw]
              have hs := (HA.out.set 4 (wp (v 3) t)).set 0 (wp t u)
              rw [← HTT.out, ← HU.out, sh_rnd] at hs
              refine ⟨⟨n + 1, by omega, by go_num, ?_, (HT.out.setCell (H + 3) 4 _ (Or.inl rfl)).setCell (H + 3) 0 _ (Or.inl rfl), by rw [← hzj]; simp [World.setCell]⟩, by simp [intOf]; omega⟩
              rw [rounds, HV.out, HKN.out, HWN.out, ← HTT.out, ← HU.out]
              exact hs
            · obtain ⟨i, rfl⟩ : ∃ i, j = i + 1 := ⟨j - 1, by omega⟩
              have ci := ha.cell i (by omega)
              have ci1 := ha.cell (i + 1) (by omega)
              rw [show sh v (i + 1) i = v i by unfold sh; rw [if_pos (by omega)]] at ci
              have fi := ha.free (i + 1)
              have hi8 : (i : Int) < 8 := by omega
              have hi9 : (i : Int) + 1 < 8 := by omega
              have hp9 : (0 : Int) ≤ (i : Int) + 1 := by omega
              have ht9 : ((i : Int) + 1).toNat = i + 1 := by omega
              have hwi : IntKind.i64.wrap (i : Int) = i := IntWalk.i64_in _ (by omega)
              clear ha ht
              go_wp2
              have hs := HA.out.set (i + 1) (v i)
              rw [sh_step] at hs
              exact ⟨⟨i, by omega, by go_num, hs, HT.out.setCell (H + 3) (i + 1) _ (Or.inl rfl), by rw [← hzj]; simp [World.setCell]⟩, by simp [intOf]⟩
        · obtain rfl : n = 64 := by omega
          clear hlt
          have HT6 : Hid (Turns nobody w wr) := Lib.hid (HT5.out.trans ht (fun i hi => Or.inr (by rw [hi]; omega)))
          have HH6 : Hid (Arr wr H 8 68 h) := Lib.hid (HH.out.turns ht (by omega))
          have HO6 : Hid (Arr wr (H + 1) 8 68 (fun _ => 0)) := Lib.hid (HO.out.turns ht (by omega))
          have HAS : Hid (Arr wr (H + 3) 8 68 (sm l h 0)) := Lib.hid (ha.congr fun i _ => by unfold sm; rw [if_neg (by omega)])
          clear ha ht HA HT HH HO HW HT5
          go_wp2
          obtain ⟨w6, hw6⟩ : ∃ w6, w6 = wr := ⟨_, rfl⟩
          go_loopw [18] (fun i w2 => ∃ j : Nat, j ≤ 8 ∧ i = .int .i64 j ∧ Arr w2 (H + 3) 8 68 (sm l h j) ∧ Turns (fun b => b = H + 3) wr w2 ∧ w2.heap.size = H + 4) (fun i _ => 8 - (intOf i).toNat)
          case atStart => exact ⟨0, by omega, rfl, HAS.out, Turns.refl _ _, hz6⟩
          case round =>
            clear HAS hw6 w6
            obtain ⟨j, hj, rfl, ha, ht, hzj⟩ := hrel
            have HT := Lib.hid ht
            have HA := Lib.hid ha
            by_cases hj8 : j < 8
            · have cj := ha.cell j hj8
              obtain ⟨r, hr⟩ : ∃ r, rounds l h 64 j = r := ⟨_, rfl⟩
              rw [show sm l h j j = rounds l h 64 j by unfold sm; rw [if_neg (by omega)], hr] at cj
              have ch := (HH6.out.turns ht (by omega)).cell j hj8
              have fj := ha.free j
              have hjz : (j : Int) < 8 := by omega
              have HR := Lib.hid hr
              clear ha ht hr
              go_wp2
              refine wp_region_mix [(0, true, true), (1, true, true), (2, true, true), (3, true, true), (4, true, true), (5, true, true), (6, true, true), (7, true, true), (8, true, true), (9, false, false)] (fun W => W = wr.drew) (by kernel_rfl) (by kernel_rfl) (rfl) ?_
              simp only [picked, List.filterMap_cons, List.filterMap_nil, List.getElem?_toArray, List.getElem?_cons_zero, List.getElem?_cons_succ, Option.map_some]
              repeat (refine mix_free (v := ?_) rfl ?_ ?_; rotate_left; (focus (intro w' hI; subst hI; go_simp; (try simp only [wi_xor, wi_and, wi_not, wi_add, wi_addw]); with_reducible rfl)); simp only [Act.put, List.setIfInBounds_toArray, List.set_cons_zero, List.set_cons_succ])
              refine mix_big rfl (fun K hK => ?_)
              go_wp2
              refine hK _ _ (fun h => by cases h) ?_
              clear hK K
              refine mix_nil ?_
              go_wp2
              have hs := Arr.set (w := wr.drew) (HA.out : Arr wr.drew _ _ _ _) j (wp r (h j))
              rw [← HR.out, sm_step] at hs
              refine ⟨⟨j + 1, by omega, by go_num, ?_, HT.out.drew.setCell (H + 3) j _ (Or.inl rfl), by rw [← hzj]; simp [World.setCell]⟩, by simp [intOf]; omega⟩
              rw [← HR.out]
              exact hs
            · obtain rfl : j = 8 := by omega
              have HR9 := Lib.hid ha.range
              have SZ9 := Lib.hid (size8 (sm l h 8))
              have HO9 : Hid (Arr wr (H + 1) 8 68 (fun _ => 0)) := Lib.hid (HO6.out.turns ht (by omega))
              have HT9 : Hid (Turns nobody w wr) := Lib.hid (HT6.out.trans ht (fun i hi => Or.inr (by rw [hi]; omega)))
              clear ha ht
              go_wp2_with first
                | (with_reducible refine wpList_load_mid rfl _ _ rfl _ _ rfl _ _ HR9.out Tryd.underlying68 rfl SZ9.out ?_)
                | (refine wpList_put rfl _ _ _ rfl (sm l h 8) HO9.out rfl rfl info8 ?_; intro w9 t9 a9 z9)
              have e : arr 8 (sm l h 8) = arr 8 (turn h l) := arr_congr fun i hi => by unfold sm; rw [if_pos hi]
              refine bodyPost_ret (results_one rfl _ _ rfl a9.range Tryd.underlying68 rfl (size8 _)) rfl ?_
              exact ⟨by rw [e], HT9.out.trans t9 (fun i hi => Or.inr (by rw [hi]; omega))⟩
end Go.Proofs.YtjnplcajajdkiaaDoor.sha
