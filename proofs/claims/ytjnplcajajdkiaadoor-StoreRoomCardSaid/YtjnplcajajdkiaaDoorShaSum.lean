/- The sum. -/
import Derived.Test.YtjnplcajajdkiaaDoorShaEnd
namespace Go.Proofs.YtjnplcajajdkiaaDoor.sha
open Go.RowKit
open Go.Proofs.YtjnplcajajdkiaaDoor.stepkit Go.Proofs.YtjnplcajajdkiaaDoor.obj Go.Proofs.YtjnplcajajdkiaaDoor.row Go.Proofs.YtjnplcajajdkiaaDoor.mix Go.Proofs.YtjnplcajajdkiaaDoor.idkit

theorem put_cells {w : World} {b : Nat} {old : Array Value} {t : TypeId} (h : w.heap[b]? = some (.cells old t (0, 0))) (cs : List Value) (hn : old.size = cs.length) : (w.setCells b 0 cs).heap[b]? = some (.cells cs.toArray t (0, 0)) := by
  obtain ⟨cs', h1, h2⟩ := block_setCells b cs 0 w _ t (0, 0) h
  have hth : w.there b 0 cs.length := fun j hj => ⟨by
    have hj' : j < old.size := by omega
    rw [Nat.zero_add]; simp only [World.cell?, h]; simp [hj'], by simp [World.frozen?, h]⟩
  have hr := World.rangeAt_setCells_same w b 0 cs hth
  rw [h1]
  have hs : cs'.size = cs.length := by rw [h2, hn]
  have : cs' = cs.toArray := by
    refine Array.ext (by rw [hs, List.size_toArray]) fun i hi hi' => ?_
    have hi2 : i < cs.length := by omega
    have := hr i _ (List.getElem?_eq_getElem hi2)
    rw [Nat.zero_add] at this
    simp only [World.cell?, h1] at this
    have e : cs'[i]? = some cs[i] := by simpa using this
    rw [Array.getElem?_eq_getElem hi] at e
    simpa using Option.some.inj e
  rw [this]
/-- A whole value goes into a block of its size. -/
theorem wpList_putc {ops : Array Oper} {rest : List Oper} {op : Oper} {a : Act} {w : World} {Q : Exit → Act → World → Prop} (hgd : op.guard = none) (ty : TypeId) (x y : Operand) (ho : op.op = .store ty x y)
    {b : Nat} {t : TypeId} {old : Array Value} (cs : List Value) (ha : w.heap[b]? = some (.cells old t (0, 0))) (hn : old.size = cs.length) (h1 : ∀ v ∈ cs, v.oneCell' = true) (hx : a.eval x = .pointer (some ⟨b, 0, none⟩)) (hy : a.eval y = .agg cs.toArray)
    (hi : (Tryd.prog.info? ty).map (·.size) = some cs.length)
    (h : ∀ w', Turns (fun i => i = b) w w' → w'.heap[b]? = some (.cells cs.toArray t (0, 0)) → w'.heap.size = w.heap.size → wpList Tryd.prog ops Q rest (a.put op.dst undef) w') : wpList Tryd.prog ops Q (op :: rest) a w := by
  refine wpList_store_mid hgd ty x y ho _ _ _ hx hy ?_ (by rw [List.size_toArray]; exact hi) (all_oneCell_toArray h1) ?_
  · rw [List.size_toArray]
    exact fun j hj => ⟨by
      have hj' : j < old.size := by omega
      rw [Nat.zero_add]; simp only [World.cell?, ha]; simp [hj'], by simp [World.frozen?, ha]⟩
  · rw [List.toList_toArray]
    exact h _ (turns_cells b _ 0 w) (put_cells ha cs hn) (size_setCells b _ 0 w)
theorem range_of {w : World} {b : Nat} {cs : List Value} {t : TypeId} (h : w.heap[b]? = some (.cells cs.toArray t (0, 0))) : w.rangeAt b 0 cs := fun j v hj => by
  rw [Nat.zero_add]; simp only [World.cell?, h]; simpa using hj

/-- So many words as bytes. -/
def outF (v : Nat → W32) (n : Nat) : List Int := (List.range 32).map fun i => if i < 4 * n then byteAt v i else 0
def outC (v : Nat → W32) (n : Nat) : List Value := idc (outF v n)
theorem outF_len (v : Nat → W32) (n : Nat) : (outF v n).length = 32 := by simp [outF]
theorem outC_len (v : Nat → W32) (n : Nat) : (outC v n).length = 32 := by rw [outC, idc_len, outF_len]
theorem outF_zero (v : Nat → W32) : outF v 0 = List.replicate 32 0 := by
  unfold outF
  simp only [Nat.mul_zero, Nat.not_lt_zero, if_false]
  rfl
theorem outF_eight (v : Nat → W32) : outF v 8 = out v := by
  refine List.map_congr_left fun i hi => ?_
  rw [if_pos (by have := List.mem_range.1 hi; omega)]
theorem outF_succ (v : Nat → W32) (n : Nat) (hn : n < 8) : ((((outF v n).set (4 * n) (byteAt v (4 * n))).set (4 * n + 1) (byteAt v (4 * n + 1))).set (4 * n + 2) (byteAt v (4 * n + 2))).set (4 * n + 3) (byteAt v (4 * n + 3)) = outF v (n + 1) := by
  refine List.ext_getElem (by simp [outF]) fun i h1 h2 => ?_
  have hi : i < 32 := by simpa [outF] using h2
  simp only [List.getElem_set, outF, List.getElem_map, List.getElem_range]
  by_cases e3 : 4 * n + 3 = i
  · subst e3; rw [if_pos rfl, if_pos (by omega)]
  · rw [if_neg e3]
    by_cases e2 : 4 * n + 2 = i
    · subst e2; rw [if_pos rfl, if_pos (by omega)]
    · rw [if_neg e2]
      by_cases e1 : 4 * n + 1 = i
      · subst e1; rw [if_pos rfl, if_pos (by omega)]
      · rw [if_neg e1]
        by_cases e0 : 4 * n = i
        · subst e0; rw [if_pos rfl, if_pos (by omega)]
        · rw [if_neg e0]
          by_cases hl : i < 4 * n
          · rw [if_pos hl, if_pos (by omega)]
          · rw [if_neg hl, if_neg (by omega)]
theorem byte_at (v : Nat → W32) (n : Nat) : wi (v n) / 16777216 % 256 = byteAt v (4 * n) ∧ wi (v n) / 65536 % 256 = byteAt v (4 * n + 1) ∧ wi (v n) / 256 % 256 = byteAt v (4 * n + 2) ∧ wi (v n) % 256 = byteAt v (4 * n + 3) := by
  unfold byteAt wi
  rw [show 4 * n / 4 = n by omega, show (4 * n + 1) / 4 = n by omega, show (4 * n + 2) / 4 = n by omega, show (4 * n + 3) / 4 = n by omega, show 4 * n % 4 = 0 by omega, show (4 * n + 1) % 4 = 1 by omega, show (4 * n + 2) % 4 = 2 by omega, show (4 * n + 3) % 4 = 3 by omega]
  refine ⟨by simp, by simp, by simp, by simp⟩
theorem set_outC (l : List Int) (i : Nat) (x : Int) : (idc l).set i (.int .u8 x) = idc (l.set i x) := by unfold idc; rw [List.map_set]
/-- The bytes of a word go to their places. -/
theorem put_word {w : World} {B : Nat} {v : Nat → W32} {n : Nat} (hn : n < 8) (h : w.heap[B]? = some (.cells (outC v n).toArray 31 (0, 0))) :
    ((((w.setCell ⟨B, 4 * n, none⟩ (.int .u8 (wi (v n) / 16777216 % 256))).setCell ⟨B, 4 * n + 1, none⟩ (.int .u8 (wi (v n) / 65536 % 256))).setCell ⟨B, 4 * n + 2, none⟩ (.int .u8 (wi (v n) / 256 % 256))).setCell ⟨B, 4 * n + 3, none⟩ (.int .u8 (wi (v n) % 256))).heap[B]? = some (.cells (outC v (n + 1)).toArray 31 (0, 0)) := by
  have h1 := heap_setCell_at (heap_setCell_at (heap_setCell_at (heap_setCell_at h (4 * n) (.int .u8 (wi (v n) / 16777216 % 256))) (4 * n + 1) (.int .u8 (wi (v n) / 65536 % 256))) (4 * n + 2) (.int .u8 (wi (v n) / 256 % 256))) (4 * n + 3) (.int .u8 (wi (v n) % 256))
  rw [h1]
  obtain ⟨b0, b1, b2, b3⟩ := byte_at v n
  simp only [List.setIfInBounds_toArray, outC, set_outC, b0, b1, b2, b3, outF_succ v n hn]
theorem idxS (f : Nat → W32) : ∀ (n : Nat) (_ : n < 8) (w : World), (Instr.index 108 (.agg (arr 8 f).toArray) (.int .i64 n)).run Tryd.prog w = .ok (.int .u32 (wi (f n))) w
  | 0, _, w => by kernel_rfl
  | 1, _, w => by kernel_rfl
  | 2, _, w => by kernel_rfl
  | 3, _, w => by kernel_rfl
  | 4, _, w => by kernel_rfl
  | 5, _, w => by kernel_rfl
  | 6, _, w => by kernel_rfl
  | 7, _, w => by kernel_rfl
theorem ArrR.of {w : World} {b : Nat} {t : TypeId} {f : Nat → W32} (h : Arr w b 8 t f) : ArrR w b t f [] := by unfold ArrR; rw [List.append_nil]; exact h
theorem ArrR.to {w : World} {b : Nat} {t : TypeId} {f : Nat → W32} (h : ArrR w b t f []) : Arr w b 8 t f := by unfold ArrR at h; rw [List.append_nil] at h; exact h
theorem infoI : (Tryd.prog.info? 31).map (·.size) = some 32 := by kernel_rfl
theorem new32 (w : World) : (w.alloc (.cells #[.int .u8 0, .int .u8 0, .int .u8 0, .int .u8 0, .int .u8 0, .int .u8 0, .int .u8 0, .int .u8 0, .int .u8 0, .int .u8 0, .int .u8 0, .int .u8 0, .int .u8 0, .int .u8 0, .int .u8 0, .int .u8 0, .int .u8 0, .int .u8 0, .int .u8 0, .int .u8 0, .int .u8 0, .int .u8 0, .int .u8 0, .int .u8 0, .int .u8 0, .int .u8 0, .int .u8 0, .int .u8 0, .int .u8 0, .int .u8 0, .int .u8 0, .int .u8 0] 31)).heap[w.heap.size]? = some (.cells (idc (List.replicate 32 0)).toArray 31 (0, 0)) := heap_alloc_new w _

set_option maxRecDepth 10000 in
set_option maxHeartbeats 1000000 in
theorem sum_made (p : Nat) (l : List UInt8) (F : Nat → Prop) (w : World) (h : HashAt p l F w) (ht : Tabs w) (hl : l.length ≤ 1000000) :
    Calls Tryd.prog 54 #[.pointer (some ⟨p, 0, none⟩)] w fun e w' => e = .returned (idv (sum l)) ∧ Turns nobody w w' := by
  obtain ⟨H, hH⟩ : ∃ H, w.heap.size = H := ⟨_, rfl⟩
  obtain ⟨wa, hwa⟩ : ∃ wa, wa = w.alloc (.cells #[.int .u8 0, .int .u8 0, .int .u8 0, .int .u8 0, .int .u8 0, .int .u8 0, .int .u8 0, .int .u8 0, .int .u8 0, .int .u8 0, .int .u8 0, .int .u8 0, .int .u8 0, .int .u8 0, .int .u8 0, .int .u8 0, .int .u8 0, .int .u8 0, .int .u8 0, .int .u8 0, .int .u8 0, .int .u8 0, .int .u8 0, .int .u8 0, .int .u8 0, .int .u8 0, .int .u8 0, .int .u8 0, .int .u8 0, .int .u8 0, .int .u8 0, .int .u8 0] 31) := ⟨_, rfl⟩
  have ta : Turns nobody w wa := by rw [hwa]; exact (Turns.refl _ _).alloc _
  have za : wa.heap.size = H + 1 := by rw [hwa, ← hH]; simp
  have hra : wa.heap[H]? = some (.cells (idc (List.replicate 32 0)).toArray 31 (0, 0)) := by rw [hwa, ← hH]; exact new32 w
  have ha : HashAt p l F wa := (local_hash p l).keep h ta (fun _ _ h => h)
  have Ha := Lib.hid ha
  have HTA := Lib.hid ta
  have HRA := Lib.hid hra
  have HWA := Lib.hid hwa
  have HT := Lib.hid (ht.turns ta off_none)
  obtain ⟨r, hp, hs, hne, hF⟩ := ha
  have hpl := lt_of_block hp
  have hpw := (local_hash p l F w h).1 p (by rw [hF]; exact Or.inl rfl)
  have HS := Lib.hid hs
  have HP := Lib.hid hp
  have HR0 := Lib.hid (ArrR.range (w := wa) (b := p) (f := wordsOf l) (rest := [r, .int .i64 l.length, .bool true]) hp)
  have SZ := Lib.hid (sizeS (wordsOf l))
  have hgk : 1 < H := by rw [← hH]; exact ht.k.lt
  have hgf : 0 < H := by rw [← hH]; exact ht.first.lt
  clear h ht ta hwa hra hp hs hF hne
  go_enter Tryd.func54, Tryd.ntmps54
  go_upto_region 1 with fail
  rw [← HWA.out]
  go_wp2_with first
    | (go_at_call 60; refine (none_no _ _ _ _ _ _ Ha.out).mono ?_; rintro e w' ⟨rfl, rfl⟩)
    | (with_reducible refine wpList_load_mid rfl _ _ rfl _ _ rfl _ _ HR0.out Tryd.underlying108 rfl SZ.out ?_)
    | ((with_reducible refine at_alloc ?_); refine wpList_new8 rfl _ _ _ rfl (wordsOf l) za rfl rfl infoS ?_; intro w5 t5 a5 z5)
  obtain ⟨rao, rcap, rfl, _⟩ := HS.out.shape
  obtain ⟨w6, hw6⟩ : ∃ w6, w6 = w5 := ⟨_, rfl⟩
  have hp5 := heap_newer HP.out t5 (fun h => h)
  have hs5 : BSl w5 (.slice rao (restOf l).length rcap) (restOf l) := Sl.keep HS.out t5 (fun _ _ h => h)
  have hend := fun W (hW : Turns nobody w5 W) => end_any (.slice rao (restOf l).length rcap) (restOf l) l.length W (Sl.keep hs5 hW (fun _ _ h => h)) hl (by rw [rest_len]; omega)
  rw [end_tail _ _ (rest_len l)] at hend
  have hblen : (restOf l ++ tail l.length).length % 64 = 0 := by have := whole l.length; rw [List.length_append, rest_len]; omega
  have hbmax : (restOf l ++ tail l.length).length ≤ 200 := by have := pad_lt l.length; rw [List.length_append, rest_len, tail_len]; omega
  have hwords := words_eq l
  obtain ⟨buf, hbuf⟩ : ∃ buf, restOf l ++ tail l.length = buf := ⟨_, rfl⟩
  rw [hbuf] at hend hblen hbmax hwords
  have HWO := Lib.hid hwords
  have HT5 := Lib.hid (HT.out.turns t5 off_none)
  have HTA5 : Hid (Turns nobody w w5) := Lib.hid (HTA.out.trans t5 (fun _ h => h.elim))
  have HR5 := Lib.hid (heap_newer HRA.out t5 (fun h => h))
  have HP5 := Lib.hid hp5
  have HA5 := Lib.hid a5
  have d8 := cells_of hp5 8 _ (hmk_get _ _ _).1
  have d9 := cells_of hp5 9 _ (hmk_get _ _ _).2.1
  clear hp5 hs5 hwords hbuf t5 a5 HRA HTA HT HR0 SZ HP HS hw6
  go_wp2
  refine wp_region_mix [(0, true, true), (1, true, true), (2, true, true), (3, true, true), (4, true, true), (5, true, true), (6, true, true), (7, true, true), (8, false, true), (9, true, true)] (fun W => W.heap[p]? = some (.cells (hmk (wordsOf l) l.length (.slice rao (restOf l).length rcap)) 110 (0, 0))) (by kernel_rfl) (by kernel_rfl) (HP5.out) ?_
  simp only [picked, List.filterMap_cons, List.filterMap_nil, List.getElem?_toArray, List.getElem?_cons_zero, List.getElem?_cons_succ, Option.map_some]
  repeat (refine mix_free (v := ?_) rfl ?_ ?_; rotate_left; (focus (intro w' hI; have d8 := cells_of hI 8 _ (hmk_get _ _ _).1; have d9 := cells_of hI 9 _ (hmk_get _ _ _).2.1; clear hI; go_simp; try with_reducible rfl)); simp only [Act.put, List.setIfInBounds_toArray, List.set_cons_zero, List.set_cons_succ])
  refine mix_big rfl (fun K hK => ?_)
  go_wp2_with (go_at_call 62; refine (hend _ (Turns.refl _ _).drew).mono ?_; rintro e w6 ⟨v6, rfl, hb6, t6, n6⟩)
  have t6' : Turns nobody w5 w6 := (Turns.refl _ _).drew.trans t6 (fun _ h => h.elim)
  refine hK _ _ (fun _ => heap_newer HP5.out t6' (fun h => h)) ?_
  clear hK K hend d8 d9
  (refine mix_free (v := ?_) rfl ?_ ?_; rotate_left; (focus (intro w' hI; clear hI; go_simp; try with_reducible rfl)); simp only [Act.put, List.setIfInBounds_toArray, List.set_cons_zero, List.set_cons_succ])
  refine mix_nil ?_
  have hz6 : H + 2 ≤ w6.heap.size := by have := t6'.size; omega
  have HV0 : Hid (BSl w6 v6 (buf.drop (64 * 0)) ∧ (∀ j, blk v6 j → H + 2 ≤ j)) := Lib.hid ⟨hb6, fun j hj => by have := n6 j hj; rw [show w5.drew.heap.size = w5.heap.size from rfl] at this; omega⟩
  have HA6 : Hid (Arr w6 (H + 1) 8 108 (turns 0 (wordsOf l) buf)) := Lib.hid (HA5.out.turns t6' (fun h => h))
  have HR6 := Lib.hid (heap_newer HR5.out t6' (fun h => h))
  have HTA6 : Hid (Turns nobody w w6) := Lib.hid (HTA5.out.trans t6' (fun _ h => h.elim))
  have HT6 := Lib.hid (HT5.out.turns t6' off_none)
  have hkk : H + 1 ≠ 1 := by omega
  clear hb6 t6 t6' n6 HT5 HTA5 HR5 HA5 HP5
  go_wp2
  go_loopw [4] (fun v wr => ∃ k : Nat, 64 * k ≤ buf.length ∧ (BSl wr v (buf.drop (64 * k)) ∧ (∀ j, blk v j → H + 2 ≤ j)) ∧ Arr wr (H + 1) 8 108 (turns k (wordsOf l) buf) ∧ Turns (fun i => i = H + 1) w6 wr) (fun v _ => lenOfV v)
  case atStart => exact ⟨0, by omega, HV0.out, HA6.out, Turns.refl _ _⟩
  case round =>
    clear HV0 HA6
    obtain ⟨k, hk, ⟨hb, hn⟩, ha, ht⟩ := hrel
    have hlen : (buf.drop (64 * k)).length = buf.length - 64 * k := List.length_drop
    obtain ⟨ao, cap, hv, hnc, hcm, _, _⟩ := (show Sl _ _ _ _ _ _ from hb).shape
    rw [hlen] at hv hnc
    subst hv
    obtain ⟨q, hq⟩ : ∃ q, buf.length - 64 * k = q := ⟨_, rfl⟩
    have hb0 : Sl wr 5 1 (.slice ao q cap) q (bcs (buf.drop (64 * k))) := by
      have h := (show Sl _ _ _ _ _ _ from hb)
      rw [hlen, hq] at h
      exact h
    rw [hq] at hn hnc hlen ⊢
    have hq6 : q ≤ 200 := by omega
    have hq64 : q = 0 ∨ 64 ≤ q := by omega
    by_cases h64 : q = 0
    · subst h64
      have hkk2 : k = buf.length / 64 := by omega
      have HAF : Hid (Arr wr (H + 1) 8 108 (words l)) := Lib.hid (by rw [HWO.out, ← hkk2]; exact ha)
      have HTF : Hid (Turns nobody w wr) := Lib.hid (HTA6.out.trans ht (fun i hi => Or.inr (by rw [hi]; omega)))
      have hzr : H + 2 ≤ wr.heap.size := by have := ht.size; omega
      have HRF : Hid (wr.heap[H]? = some (.cells (idc (List.replicate 32 0)).toArray 31 (0, 0))) := Lib.hid (heap_newer HR6.out ht (fun e => by omega))
      clear hb hb0 hn ha ht hq hlen hk hkk2 HWO HR6 HTA6 HT6 hkk hq64
      obtain ⟨f, hf⟩ : ∃ f, words l = f := ⟨_, rfl⟩
      have HFF := Lib.hid hf
      rw [hf] at HAF
      clear hf
      obtain ⟨V, hV⟩ : ∃ V, wr.heap.size = V := ⟨_, rfl⟩
      obtain ⟨w8, hw8⟩ : ∃ w8, w8 = wr.alloc (.cells #[.int .u8 0, .int .u8 0, .int .u8 0, .int .u8 0, .int .u8 0, .int .u8 0, .int .u8 0, .int .u8 0, .int .u8 0, .int .u8 0, .int .u8 0, .int .u8 0, .int .u8 0, .int .u8 0, .int .u8 0, .int .u8 0, .int .u8 0, .int .u8 0, .int .u8 0, .int .u8 0, .int .u8 0, .int .u8 0, .int .u8 0, .int .u8 0, .int .u8 0, .int .u8 0, .int .u8 0, .int .u8 0, .int .u8 0, .int .u8 0, .int .u8 0, .int .u8 0] 31) := ⟨_, rfl⟩
      have h8 : w8.heap[V]? = some (.cells (outC f 0).toArray 31 (0, 0)) := by rw [hw8, ← hV, outC, outF_zero]; exact new32 wr
      have t8 : Turns nobody wr w8 := by rw [hw8]; exact (Turns.refl _ _).alloc _
      rw [hV] at hzr
      have H8 := Lib.hid h8
      have HRR := Lib.hid (Arr.range (HAF.out.turns t8 (fun h => h)))
      have HR8 := Lib.hid (heap_newer HRF.out t8 (fun h => h))
      have HT8 : Hid (Turns nobody w w8) := Lib.hid (HTF.out.trans t8 (fun _ h => h.elim))
      have HW8 := Lib.hid hw8
      have SZ := Lib.hid (sizeS f)
      have HX := Lib.hid (idxS f)
      clear h8 t8 hw8 HAF HRF HTF
      rw [HW8.out] at HRR
      go_wp2_with (with_reducible refine wpList_load_mid rfl _ _ rfl _ _ rfl _ _ HRR.out Tryd.underlying108 rfl SZ.out ?_)
      rw [← HW8.out]
      clear HRR SZ HW8
      go_loopw [34] (fun i w2 => ∃ n : Nat, n ≤ 8 ∧ i = .int .i64 n ∧ w2.heap[V]? = some (.cells (outC f n).toArray 31 (0, 0)) ∧ Turns (fun b => b = V) w8 w2) (fun i _ => 8 - (intOf i).toNat)
      case atStart => exact ⟨0, by omega, rfl, H8.out, Turns.refl _ _⟩
      case round =>
        clear H8 hV
        obtain ⟨n, hn, rfl, hv2, ht2⟩ := hrel
        have HV2 := Lib.hid hv2
        have HT2 := Lib.hid ht2
        by_cases hn8 : n < 8
        · have hix := HX.out n hn8
          have hfr := fun i => free_of hv2 i
          have hsome : ∀ i, i < 32 → ∃ x, wr.cell? ⟨V, i, none⟩ = some x := fun i hi => ⟨_, cells_of hv2 i _ (List.getElem?_toArray.trans (List.getElem?_eq_getElem (by rw [outC_len]; exact hi)))⟩
          have HPW := Lib.hid (put_word hn8 hv2)
          have hn32 : 4 * n + 3 < 32 := by omega
          obtain ⟨e, he⟩ : ∃ e, 4 * n = e := ⟨_, rfl⟩
          have he4 : 4 * (n : Int) = (e : Int) := by omega
          rw [he] at HPW hn32
          obtain ⟨x0, e0⟩ := hsome e (by omega)
          obtain ⟨x1, e1⟩ := hsome (e + 1) (by omega)
          obtain ⟨x2, e2⟩ := hsome (e + 2) (by omega)
          obtain ⟨x3, e3⟩ := hsome (e + 3) (by omega)
          have f0 := hfr e
          have f1 := hfr (e + 1)
          have f2 := hfr (e + 2)
          have f3 := hfr (e + 3)
          clear hv2 ht2 hfr hsome he
          go_wp2
          exact ⟨⟨n + 1, by omega, by go_num, HPW.out, (((HT2.out.setCell V _ _ (Or.inl rfl)).setCell V _ _ (Or.inl rfl)).setCell V _ _ (Or.inl rfl)).setCell V _ _ (Or.inl rfl)⟩, by simp [intOf]; omega⟩
        · obtain rfl : n = 8 := by omega
          have HRO := Lib.hid (range_of hv2)
          have SZ8 : Hid ((Tryd.prog.info? 31).map (·.size) = some (outC f 8).length) := Lib.hid (by rw [infoI, outC_len])
          have HR9 := Lib.hid (heap_newer HR8.out ht2 (fun e => by omega))
          clear hv2 ht2
          go_wp2_with first
            | (with_reducible refine wpList_load_mid rfl _ _ rfl _ _ rfl _ _ HRO.out Tryd.underlying31 rfl SZ8.out ?_)
            | (refine wpList_putc rfl _ _ _ rfl (outC f 8) HR9.out (by rw [outC_len]; rfl) (idc_one _) rfl rfl SZ8.out ?_; intro w9 t9 a9 z9)
          refine bodyPost_ret (results_one rfl _ _ rfl (range_of a9) Tryd.underlying31 rfl SZ8.out) rfl ?_
          refine ⟨?_, (HT8.out.trans HT2.out (fun i hi => Or.inr (by rw [hi]; omega))).trans t9 (fun i hi => Or.inr (by rw [hi]; omega))⟩
          unfold outC sum idv
          rw [outF_eight, HFF.out]
    · have h64' : 64 ≤ q := by omega
      obtain ⟨g, o, c0, hv, _⟩ := hb0.some_of_pos (by omega)
      cases hv
      have hk1 : 64 * (k + 1) ≤ buf.length := by omega
      obtain ⟨a2, ha2⟩ : ∃ a2, Go.sliced (some ⟨g, o, none⟩) 64 q cap 1 = .slice a2 (q - 64) (cap - 64) := ⟨_, rfl⟩
      have ha1 : Go.sliced (some ⟨g, o, none⟩) 0 64 cap 1 = .slice (some ⟨g, o, none⟩) 64 cap := by
        unfold Go.sliced
        rw [if_neg (by omega), Option.map_some, Addr.add_lit]
        rfl
      have hd1 := hb0.sliced 0 64 cap (by omega) (by omega) (by omega) (by omega)
      have hd2 := hb0.sliced 64 q cap (by omega) (by omega) (by omega) (by omega)
      have hb2 := sliced_own (some ⟨g, o, none⟩) q cap 64 q cap 1
      rw [ha1] at hd1
      rw [ha2] at hd2 hb2
      simp only [Nat.zero_mul, List.drop_zero, Nat.sub_zero, Nat.mul_one, bcs_take] at hd1
      simp only [Nat.mul_one, bcs_drop, bcs_take, List.drop_drop] at hd2
      rw [show 64 * k + 64 = 64 * (k + 1) by omega, List.take_of_length_le (by rw [List.length_drop]; omega)] at hd2
      have hbl64 : ((buf.drop (64 * k)).take 64).length = 64 := by rw [List.length_take, hlen]; omega
      have hb1 : BSl wr (.slice (some ⟨g, o, none⟩) 64 cap) ((buf.drop (64 * k)).take 64) := by
        show Sl _ _ _ _ ((buf.drop (64 * k)).take 64).length _
        rw [hbl64]
        exact hd1
      have hq2 : q - 64 = (buf.drop (64 * (k + 1))).length := by rw [List.length_drop]; omega
      have htab : Tabs wr := HT6.out.turns ht ⟨fun e => hkk e.symm, fun e => by have := hgf; omega⟩
      have hcall := turn_any (H + 1) _ _ _ g o cap _ hbl64 wr (ArrR.of ha) hb1 htab.k hkk
      have HA1 := Lib.hid ha1
      have HA2 := Lib.hid ha2
      have HD2 := Lib.hid hd2
      have HB2 := Lib.hid hb2
      have HQ2 := Lib.hid hq2
      have HTT := Lib.hid ht
      have HNN := Lib.hid hn
      have HK1 := Lib.hid hk1
      have hc64 : 64 ≤ cap := by omega
      clear ha1 ha2 hd1 hd2 hb2 hb1 hq2 hb0 hb hn ht hlen hbl64 htab hq hk hq64 h64 ha hk1
      go_wp2_with first
        | (refine wpList_exec (exec_cut_h Tryd.underlying64 sizeU8 _ _ rfl rfl rfl hc64 HA1.out) rfl ?_)
        | (refine wpList_exec (exec_cut_l Tryd.underlying64 sizeU8 _ _ rfl rfl rfl h64' HA2.out) rfl ?_)
        | (go_at_call 61; refine hcall.mono ?_; rintro e w7 ⟨rfl, h7, t7⟩; have HA7 := Lib.hid h7; have HT7 := Lib.hid t7; clear h7 t7 hcall)
      refine ⟨⟨k + 1, HK1.out, ⟨?_, fun j hj => HNN.out j ((HB2.out j).1 hj)⟩, ?_, HTT.out.trans HT7.out (fun i hi => Or.inl hi)⟩, ?_⟩
      · show Sl _ _ _ _ (buf.drop (64 * (k + 1))).length _
        rw [← HQ2.out]
        exact HD2.out.keep HT7.out (fun j hj e => by have := HNN.out j ((HB2.out j).1 hj); omega)
      · rw [turns_succ]; exact ArrR.to HA7.out
      · simp only [Array.getD_eq_getD_getElem?, List.getElem?_toArray, List.getElem?_cons_zero, List.getElem?_cons_succ, Option.getD_some, lenOfV]
        omega
end Go.Proofs.YtjnplcajajdkiaaDoor.sha
