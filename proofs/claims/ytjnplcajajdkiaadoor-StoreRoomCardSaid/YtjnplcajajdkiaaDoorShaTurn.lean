/- The program's block. -/
import Derived.Test.YtjnplcajajdkiaaDoorShaSched
namespace Go.Proofs.YtjnplcajajdkiaaDoor.sha
open Go.RowKit
open Go.Proofs.YtjnplcajajdkiaaDoor.stepkit Go.Proofs.YtjnplcajajdkiaaDoor.obj Go.Proofs.YtjnplcajajdkiaaDoor.row Go.Proofs.YtjnplcajajdkiaaDoor.mix Go.Proofs.YtjnplcajajdkiaaDoor.idkit

/-- Eight words at the beginning of a block, and the rest. -/
def ArrR (w : World) (b : Nat) (t : TypeId) (f : Nat → W32) (rest : List Value) : Prop := w.heap[b]? = some (.cells (arr 8 f ++ rest).toArray t (0, 0))
section
variable {w w' : World} {b : Nat} {t : TypeId} {f g : Nat → W32} {rest : List Value}
theorem ArrR.lt (h : ArrR w b t f rest) : b < w.heap.size := by
  rcases Nat.lt_or_ge b w.heap.size with h1 | h1
  · exact h1
  · unfold ArrR at h; rw [Array.getElem?_eq_none h1] at h; cases h
theorem ArrR.cell (h : ArrR w b t f rest) (i : Nat) (hi : i < 8) : w.cell? ⟨b, i, none⟩ = some (.int .u32 (wi (f i))) := by
  have := arr_get 8 f i hi
  unfold ArrR at h
  simp only [World.cell?, h]
  rw [List.getElem?_toArray, List.getElem?_append_left (by rw [arr_len]; exact hi), this]
  simp [wc]
theorem ArrR.free (h : ArrR w b t f rest) (i : Nat) : w.frozen? ⟨b, i, none⟩ = false := by
  unfold ArrR at h
  simp [World.frozen?, h]
theorem ArrR.keep (h : ArrR w b t f rest) (hb : w'.heap[b]? = w.heap[b]?) : ArrR w' b t f rest := by unfold ArrR; rw [hb]; exact h
theorem ArrR.turns {F : Nat → Prop} (h : ArrR w b t f rest) (ht : Turns F w w') (hn : ¬ F b) : ArrR w' b t f rest := h.keep (ht.block b h.lt hn)
theorem ArrR.set (h : ArrR w b t f rest) (i : Nat) (hi : i < 8) (x : W32) : ArrR (w.setCell ⟨b, i, none⟩ (.int .u32 (wi x))) b t (upd f i x) rest := by
  have := heap_setCell_at h i (wc x)
  rw [List.setIfInBounds_toArray, List.set_append_left _ _ (by rw [arr_len]; exact hi), arr_set] at this
  exact this
theorem ArrR.congr (h : ArrR w b t f rest) (hf : ∀ i, i < 8 → f i = g i) : ArrR w b t g rest := by unfold ArrR at *; rw [← arr_congr hf]; exact h
theorem ArrR.range (h : ArrR w b t f rest) : w.rangeAt b 0 (arr 8 f) := fun j v hj => by
  have hj8 : j < 8 := by have := (List.getElem?_eq_some_iff.1 hj).1; rwa [arr_len] at this
  rw [Nat.zero_add, h.cell j hj8]
  rw [arr_get 8 f j hj8] at hj
  exact hj
end

/-- The package's tables. -/
def KAt (w : World) : Prop := ∀ i, i < 64 → w.cell? ⟨1, i, none⟩ = some (.int .u32 (wi (kAt i)))
theorem KAt.lt {w : World} (h : KAt w) : 1 < w.heap.size := lt_of_cell' (h 0 (by decide))
theorem KAt.turns {w w' : World} {F : Nat → Prop} (h : KAt w) (ht : Turns F w w') (hn : ¬ F 1) : KAt w' := fun i hi => (ht.cell (p := ⟨1, i, none⟩) h.lt hn).trans (h i hi)

/-- The words behind j sums. -/
def sv (l : List UInt8) (h : Nat → W32) (j : Nat) : Nat → W32 := fun i => if i < j then turn h l i else h i
theorem sv_step (l : List UInt8) (h : Nat → W32) (j : Nat) : upd (sv l h j) j (wp (h j) (rounds l h 64 j)) = sv l h (j + 1) := by
  funext i
  unfold upd sv
  by_cases hi : i = j
  · subst hi; rw [if_pos rfl, if_pos (by omega)]; rfl
  · rw [if_neg hi]
    by_cases h2 : i < j
    · rw [if_pos h2, if_pos (by omega)]
    · rw [if_neg h2, if_neg (by omega)]
theorem idx8 (f : Nat → W32) : ∀ (n : Nat) (_ : n < 8) (w : World), (Instr.index 68 (.agg (arr 8 f).toArray) (.int .i64 n)).run Tryd.prog w = .ok (.int .u32 (wi (f n))) w
  | 0, _, w => by kernel_rfl
  | 1, _, w => by kernel_rfl
  | 2, _, w => by kernel_rfl
  | 3, _, w => by kernel_rfl
  | 4, _, w => by kernel_rfl
  | 5, _, w => by kernel_rfl
  | 6, _, w => by kernel_rfl
  | 7, _, w => by kernel_rfl
theorem build8 (f : Nat → W32) (w : World) : (Instr.build 68 #[(0, .int .u32 (wi (f 0))), (1, .int .u32 (wi (f 1))), (2, .int .u32 (wi (f 2))), (3, .int .u32 (wi (f 3))), (4, .int .u32 (wi (f 4))), (5, .int .u32 (wi (f 5))), (6, .int .u32 (wi (f 6))), (7, .int .u32 (wi (f 7)))]).run Tryd.prog w = .ok (.agg (arr 8 f).toArray) w := by kernel_rfl

theorem wi_notm (a : W32) : bits .xor .u32 IntKind.u32.max (wi a) = wi (wn a) := by rw [show IntKind.u32.max = 4294967295 by decide]; exact wi_not a

set_option maxRecDepth 10000 in
set_option maxHeartbeats 2000000 in
theorem turn_any (p : Nat) (ty : TypeId) (v : Nat → W32) (rest : List Value) (g o cap : Nat) (l : List UInt8) (hl : l.length = 64) (w : World) (hp : ArrR w p ty v rest) (hb : BSl w (.slice (some ⟨g, o, none⟩) 64 cap) l) (hk : KAt w) (hpk : p ≠ 1) :
    Calls Tryd.prog 61 #[.pointer (some ⟨p, 0, none⟩), .slice (some ⟨g, o, none⟩) 64 cap] w fun e w' => e = .returned (.tuple #[]) ∧ ArrR w' p ty (turn v l) rest ∧ Turns (fun i => i = p) w w' := by
  obtain ⟨H, hH⟩ : ∃ H, w.heap.size = H := ⟨_, rfl⟩
  have hpl := hp.lt
  rw [hH] at hpl
  have HP : Hid (∀ W, Turns nobody w W → ArrR W p ty v rest) := Lib.hid fun W ht => hp.turns ht (fun h => h)
  have HK : Hid (∀ W, Turns nobody w W → KAt W) := Lib.hid fun W ht => hk.turns ht (fun h => h)
  have HB := Lib.hid hb
  have HV8 := Lib.hid (build8 (rounds l v 64))
  clear hp hk hb
  go_enter Tryd.func61, Tryd.ntmps61
  go_wp2_with first
    | (go_at_call 63; refine (schedule_any g o cap l hl _ HB.out).mono ?_; rintro e w1 ⟨rfl, ht1⟩; have hz1 := ht1.size; have HT1 := Lib.hid ht1; clear ht1)
    | ((with_reducible refine at_alloc ?_); refine wpList_new64 rfl _ _ _ rfl (wdAt l) rfl rfl rfl info64 ?_; intro w5 t5 a5 z5)
  obtain ⟨V, hV⟩ : ∃ V, w1.heap.size = V := ⟨_, rfl⟩
  rw [hV] at a5 z5 hz1 ⊢
  have hT5 : Turns nobody w w5 := HT1.out.trans t5 (fun _ h => h.elim)
  have HT5 := Lib.hid hT5
  have HA5 := Lib.hid a5
  have c0 := (HP.out _ hT5).cell 0 (by decide)
  have c1 := (HP.out _ hT5).cell 1 (by decide)
  have c2 := (HP.out _ hT5).cell 2 (by decide)
  have c3 := (HP.out _ hT5).cell 3 (by decide)
  have c4 := (HP.out _ hT5).cell 4 (by decide)
  have c5 := (HP.out _ hT5).cell 5 (by decide)
  have c6 := (HP.out _ hT5).cell 6 (by decide)
  have c7 := (HP.out _ hT5).cell 7 (by decide)
  clear t5 a5 hT5 HT1 HB
  go_quiet (fail)
  clear c0 c1 c2 c3 c4 c5 c6 c7
  go_wp2
  go_loopw [52, 5, 6, 7, 8, 9, 10, 11, 12] (fun i x0 x1 x2 x3 x4 x5 x6 x7 wr => ∃ n : Nat, n ≤ 64 ∧ i = .int .i64 n ∧ x0 = .int .u32 (wi (rounds l v n 0)) ∧ x1 = .int .u32 (wi (rounds l v n 1)) ∧ x2 = .int .u32 (wi (rounds l v n 2)) ∧ x3 = .int .u32 (wi (rounds l v n 3)) ∧ x4 = .int .u32 (wi (rounds l v n 4)) ∧ x5 = .int .u32 (wi (rounds l v n 5)) ∧ x6 = .int .u32 (wi (rounds l v n 6)) ∧ x7 = .int .u32 (wi (rounds l v n 7)) ∧ ∃ m, wr = w5.drewN m) (fun i _ _ _ _ _ _ _ _ _ => 64 - (intOf i).toNat)
  case atStart => exact ⟨0, by omega, rfl, rfl, rfl, rfl, rfl, rfl, rfl, rfl, rfl, _, rfl⟩
  case round =>
    obtain ⟨n, hn, rfl, rfl, rfl, rfl, rfl, rfl, rfl, rfl, rfl, m, rfl⟩ := hrel
    by_cases hlt : n < 64
    · have ck : w5.cell? ⟨1, n, none⟩ = some (.int .u32 (wi (kAt n))) := (HK.out _ HT5.out) n hlt
      have cw : w5.cell? ⟨V, n, none⟩ = some (.int .u32 (wi (wdAt l n))) := HA5.out.cell n hlt
      have HR : Hid (rounds l v (n + 1) = rnd (rounds l v n) (kAt n) (wdAt l n)) := Lib.hid rfl
      generalize rounds l v n = u at *
      obtain ⟨kn, hkn⟩ : ∃ kn, kAt n = kn := ⟨_, rfl⟩
      obtain ⟨wn, hwn⟩ : ∃ wn, wdAt l n = wn := ⟨_, rfl⟩
      rw [hkn] at ck HR
      rw [hwn] at cw HR
      have D2 : ∀ W, Calls Tryd.prog 64 #[.int .u32 (wi (u 0)), .int .i64 2] W fun e w' => e = .returned (.int .u32 (wi (rotr (u 0) 2))) ∧ W = w' := fun W => down_w _ 2 (by decide) (by decide) W
      have D13 : ∀ W, Calls Tryd.prog 64 #[.int .u32 (wi (u 0)), .int .i64 13] W fun e w' => e = .returned (.int .u32 (wi (rotr (u 0) 13))) ∧ W = w' := fun W => down_w _ 13 (by decide) (by decide) W
      have D22 : ∀ W, Calls Tryd.prog 64 #[.int .u32 (wi (u 0)), .int .i64 22] W fun e w' => e = .returned (.int .u32 (wi (rotr (u 0) 22))) ∧ W = w' := fun W => down_w _ 22 (by decide) (by decide) W
      have hn1 : (n : Int) < 64 := by omega
      clear hkn hwn
      go_wp2
      refine wp_region_mix [(0, true, true), (1, true, true), (3, true, true), (6, true, true), (10, true, true), (11, true, true), (12, true, true), (13, true, true), (14, true, true), (15, true, true), (16, true, true), (17, true, true), (19, true, true), (20, true, true), (21, true, true), (23, true, true), (24, true, true), (25, true, true), (2, false, true), (4, false, true), (5, true, true), (7, false, true), (8, true, true), (9, true, true), (18, true, true), (22, true, true), (26, true, true), (27, true, true)] (fun W => W = (w5.drewN m).drew) (by kernel_rfl) (by kernel_rfl) (rfl) ?_
      simp only [picked, List.filterMap_cons, List.filterMap_nil, List.getElem?_toArray, List.getElem?_cons_zero, List.getElem?_cons_succ, Option.map_some]
      repeat (refine mix_free (v := ?_) rfl ?_ ?_; rotate_left; (focus (intro w' hI; subst hI; go_simp; (try simp only [wi_xor, wi_and, wi_notm, wi_add, wi_addw]); with_reducible rfl)); simp only [Act.put, List.setIfInBounds_toArray, List.set_cons_zero, List.set_cons_succ])
      refine mix_big rfl (fun K hK => ?_)
      go_wp2_with (go_at_call 64; refine (down_w (u 4) 6 (by decide) (by decide) _).mono ?_; rintro e w5 ⟨rfl, rfl⟩)
      refine hK _ _ (fun _ => rfl) ?_
      clear hK K
      refine mix_big rfl (fun K hK => ?_)
      go_wp2_with (go_at_call 64; refine (down_w (u 4) 11 (by decide) (by decide) _).mono ?_; rintro e w5 ⟨rfl, rfl⟩)
      refine hK _ _ (fun _ => rfl) ?_
      clear hK K
      repeat (refine mix_free (v := ?_) rfl ?_ ?_; rotate_left; (focus (intro w' hI; subst hI; go_simp; (try simp only [wi_xor, wi_and, wi_notm, wi_add, wi_addw]); with_reducible rfl)); simp only [Act.put, List.setIfInBounds_toArray, List.set_cons_zero, List.set_cons_succ])
      refine mix_big rfl (fun K hK => ?_)
      go_wp2_with (go_at_call 64; refine (down_w (u 4) 25 (by decide) (by decide) _).mono ?_; rintro e w5 ⟨rfl, rfl⟩)
      refine hK _ _ (fun _ => rfl) ?_
      clear hK K
      repeat (refine mix_free (v := ?_) rfl ?_ ?_; rotate_left; (focus (intro w' hI; subst hI; go_simp; (try simp only [wi_xor, wi_and, wi_notm, wi_add, wi_addw]); with_reducible rfl)); simp only [Act.put, List.setIfInBounds_toArray, List.set_cons_zero, List.set_cons_succ])
      refine mix_nil ?_
      rw [wi_tt]
      obtain ⟨t, ht0⟩ : ∃ t, tt u kn wn = t := ⟨_, rfl⟩
      have HTT := Lib.hid ht0
      rw [ht0]
      clear ht0
      clear ck cw
      go_wp2_with first
        | (go_at_call 64; (with_reducible refine (D2 _).mono ?_); rintro e w5 ⟨rfl, rfl⟩)
        | (go_at_call 64; (with_reducible refine (D13 _).mono ?_); rintro e w5 ⟨rfl, rfl⟩)
        | (go_at_call 64; (with_reducible refine (D22 _).mono ?_); rintro e w5 ⟨rfl, rfl⟩)
      simp only [wi_xor, wi_and, wi_notm, wi_add, wi_addw]
      have E : ∀ i, rounds l v (n + 1) i = rnd u kn wn i := fun i => by rw [HR.out]
      have e0 : wp t (wp (wx (wx (rotr (u 0) 2) (rotr (u 0) 13)) (rotr (u 0) 22)) (wx (wx (wa (u 0) (u 1)) (wa (u 0) (u 2))) (wa (u 1) (u 2)))) = rounds l v (n + 1) 0 := by rw [E, ← HTT.out]; rfl
      have e4 : wp (u 3) t = rounds l v (n + 1) 4 := by rw [E, ← HTT.out]; rfl
      rw [e0, e4]
      refine ⟨⟨n + 1, by omega, by go_num, rfl, by rw [E]; rfl, by rw [E]; rfl, by rw [E]; rfl, rfl, by rw [E]; rfl, by rw [E]; rfl, by rw [E]; rfl, _, rfl⟩, by simp [intOf]; omega⟩
    · obtain rfl : n = 64 := by omega
      clear hlt
      obtain ⟨w7, hw7⟩ : ∃ w7, w7 = w5.drewN m := ⟨_, rfl⟩
      have HT7 : Hid (Turns nobody w w7) := Lib.hid (by rw [hw7]; exact HT5.out.drewN m)
      have HP7 : Hid (ArrR w7 p ty (sv l v 0) rest) := Lib.hid ((HP.out _ HT7.out).congr fun i _ => by unfold sv; rw [if_neg (by omega)])
      have HST := Lib.hid (sv_step l v)
      rw [← hw7]
      clear hw7 HT5 HA5 HK HP
      obtain ⟨r, hr⟩ : ∃ r, rounds l v 64 = r := ⟨_, rfl⟩
      rw [hr] at HST HV8 ⊢
      clear hr
      go_wp2_with (with_reducible refine wpList_exec (exec_build _ _ rfl #[(0, .int .u32 (wi (r 0))), (1, .int .u32 (wi (r 1))), (2, .int .u32 (wi (r 2))), (3, .int .u32 (wi (r 3))), (4, .int .u32 (wi (r 4))), (5, .int .u32 (wi (r 5))), (6, .int .u32 (wi (r 6))), (7, .int .u32 (wi (r 7)))] (by kernel_rfl) (HV8.out _)) (by first | rfl | go_simp) ?_)
      go_loopw [124] (fun i wr => ∃ j : Nat, j ≤ 8 ∧ i = .int .i64 j ∧ ArrR wr p ty (sv l v j) rest ∧ Turns (fun b => b = p) w7 wr) (fun i _ => 8 - (intOf i).toNat)
      case atStart => exact ⟨0, by omega, rfl, HP7.out, Turns.refl _ _⟩
      case round =>
        obtain ⟨j, hj, rfl, ha, ht⟩ := hrel
        have HA := Lib.hid ha
        have HT := Lib.hid ht
        by_cases hj8 : j < 8
        · have cj := ha.cell j hj8
          have fj := ha.free j
          have hix := idx8 r j hj8
          rw [show sv l v j j = v j by unfold sv; rw [if_neg (by omega)]] at cj
          have hjz : (j : Int) < 8 := by omega
          clear ha ht
          go_wp2
          refine wp_region_mix [(0, true, true), (1, true, true), (2, true, true), (3, true, true), (4, true, true), (5, true, true), (6, true, true), (7, true, true), (8, true, true), (9, false, false)] (fun W => W = wr.drew) (by kernel_rfl) (by kernel_rfl) (rfl) ?_
          simp only [picked, List.filterMap_cons, List.filterMap_nil, List.getElem?_toArray, List.getElem?_cons_zero, List.getElem?_cons_succ, Option.map_some]
          repeat (refine mix_free (v := ?_) rfl ?_ ?_; rotate_left; (focus (intro w' hI; subst hI; go_simp; (try simp only [wi_xor, wi_and, wi_notm, wi_add, wi_addw]); with_reducible rfl)); simp only [Act.put, List.setIfInBounds_toArray, List.set_cons_zero, List.set_cons_succ])
          refine mix_big rfl (fun K hK => ?_)
          go_wp2
          refine hK _ _ (fun h => by cases h) ?_
          clear hK K
          refine mix_nil ?_
          go_wp2
          have hs := ArrR.set (w := wr.drew) (HA.out : ArrR wr.drew _ _ _ _) j hj8 (wp (v j) (r j))
          have := HST.out j
          rw [this] at hs
          exact ⟨⟨j + 1, by omega, by go_num, hs, HT.out.drew.setCell p j _ (Or.inl rfl)⟩, by simp [intOf]; omega⟩
        · obtain rfl : j = 8 := by omega
          clear ha ht
          go_wp2
          go_end0
          refine ⟨rfl, HA.out.congr fun i hi => ?_, (HT7.out.mono (fun _ h => h.elim)).trans HT.out (fun i hi => Or.inl hi)⟩
          unfold sv
          rw [if_pos hi]
end Go.Proofs.YtjnplcajajdkiaaDoor.sha
