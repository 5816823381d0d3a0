/- Write. -/
import Derived.Test.YtjnplcajajdkiaaDoorShaHash
namespace Go.Proofs.YtjnplcajajdkiaaDoor.sha
open Go.RowKit
open Go.Proofs.YtjnplcajajdkiaaDoor.stepkit Go.Proofs.YtjnplcajajdkiaaDoor.obj Go.Proofs.YtjnplcajajdkiaaDoor.row Go.Proofs.YtjnplcajajdkiaaDoor.mix Go.Proofs.YtjnplcajajdkiaaDoor.idkit

theorem Step.next {F F' : Nat → Prop} {A : (Nat → Prop) → World → Prop} {w w1 w2 : World} (ht : Turns F w w1) (hn : ∀ i, F' i → F i ∨ w.heap.size ≤ i) (h : Step F' A w1 w2) : Step F A w w2 := by
  obtain ⟨F2, h1, h2, h3⟩ := h
  refine ⟨F2, h1, ht.trans h2 hn, fun i hi => ?_⟩
  rcases h3 i hi with h | h
  · exact hn i h
  · exact Or.inr (Nat.le_trans ht.size h)
theorem words_append (l s : List UInt8) : wordsOf (l ++ s) = turns ((restOf l ++ s).length / 64) (wordsOf l) (restOf l ++ s) := by
  have hr := rest_len l
  unfold wordsOf
  have h1 : (l ++ s).length / 64 = l.length / 64 + (restOf l ++ s).length / 64 := by
    rw [List.length_append, List.length_append, hr]; omega
  rw [h1, turns_add, turns_append _ _ _ _ (by omega), List.drop_append_of_le_length (by omega)]
  rfl
theorem rest_append (l s : List UInt8) : restOf (l ++ s) = (restOf l ++ s).drop (64 * ((restOf l ++ s).length / 64)) := by
  have hr := rest_len l
  have h1 : (l ++ s).length / 64 = l.length / 64 + (restOf l ++ s).length / 64 := by
    rw [List.length_append, List.length_append, hr]; omega
  have h2 : restOf l ++ s = (l ++ s).drop (64 * (l.length / 64)) := by rw [List.drop_append_of_le_length (by omega)]; rfl
  rw [restOf, h1, h2, List.drop_drop, ← h2]
  congr 1
  omega
theorem infoU8 : (Tryd.prog.info? 5).map (fun i => (i.zero, i.size, i.bytes)) = some (some (.int .u8 0), 1, 1) := by kernel_rfl
theorem sizeU8 : (Tryd.prog.info? 5).map (·.size) = some 1 := by kernel_rfl
theorem byteCells_bcs (s : ByteArray) : byteCells s = bcs s.data.toList := rfl
theorem info_parts {t : TypeId} {z : Value} {s b : Nat} (h : (Tryd.prog.info? t).map (fun i => (i.zero, i.size, i.bytes)) = some (some z, s, b)) : ∃ i, Tryd.prog.info? t = some i ∧ i.zero = some z ∧ i.size = s ∧ i.bytes = b := by
  obtain ⟨i, hi, h⟩ := Option.map_eq_some_iff.1 h
  simp only [Prod.mk.injEq] at h
  exact ⟨i, hi, h.1, h.2.1, h.2.2⟩
theorem bcs_append (a b : List UInt8) : bcs (a ++ b) = bcs a ++ bcs b := by simp [bcs]
theorem bcs_one (l : List UInt8) : ∀ u ∈ bcs l, u.oneCell' = true := by
  intro u hu
  obtain ⟨x, _, rfl⟩ := List.mem_map.1 hu
  rfl
theorem bcs_drop (l : List UInt8) (k : Nat) : (bcs l).drop k = bcs (l.drop k) := by simp [bcs]
theorem bcs_take (l : List UInt8) (k : Nat) : (bcs l).take k = bcs (l.take k) := by simp [bcs]

/-- How long the rest is, in memory. -/
def restLen (p : Nat) (w : World) : Nat := match w.cell? ⟨p, 8, none⟩ with
  | some (.slice _ n _) => n
  | _ => 0

set_option maxRecDepth 10000 in
set_option maxHeartbeats 1000000 in
theorem write_any (p : Nat) (l : List UInt8) (F : Nat → Prop) (w : World) (h : HashAt p l F w) (hoff : off F) (s : ByteArray) (hsz : l.length + s.size ≤ 1000000) (ht : Tabs w) :
    Calls Tryd.prog 53 #[.pointer (some ⟨p, 0, none⟩), .string s] w fun e w' => e = .returned (.int .i64 s.size) ∧ Step F (HashAt p (l ++ s.data.toList)) w w' := by
  have H := Lib.hid h
  have HT := Lib.hid ht
  have HO := Lib.hid hoff
  have hrl := rest_len l
  obtain ⟨r, hp, hs, hne, hF⟩ := h
  obtain ⟨ao, cap, rfl, hnc, hcm, _, _⟩ := hs.shape
  obtain ⟨i0, hi, hz0, hz1, hz2⟩ := info_parts infoU8
  have c9 := cells_of hp 9 _ (hmk_get _ _ _).2.1
  have f9 := free_of hp 9
  have HP := Lib.hid hp
  have HS := Lib.hid hs
  have HF := Lib.hid hF
  have HN := Lib.hid hne
  have HI := Lib.hid hi
  obtain ⟨m, hm⟩ : ∃ m, (restOf l).length = m := ⟨_, rfl⟩
  rw [hm] at HP HS HN HF hnc hrl
  obtain ⟨N, hN⟩ : ∃ N, l.length = N := ⟨_, rfl⟩
  rw [hN] at HP hsz c9
  have hm64 : m < 64 := by omega
  have hss : s.data.toList.length = s.size := Array.length_toList
  have HM := Lib.hid hm
  have HNN := Lib.hid hN
  have HSS := Lib.hid hss
  have hpl := lt_of_block hp
  clear hp hs hF hne hrl ht hoff hi hm hN hss
  go_enter Tryd.func53, Tryd.ntmps53
  go_wp2_with (go_at_call 60; refine (none_no _ _ _ _ _ _ H.out).mono ?_; rintro e w' ⟨rfl, rfl⟩)
  obtain ⟨w1, hw1⟩ : ∃ w1, w1 = w.setCell ⟨p, 9, none⟩ (.int .i64 ((N : Int) + (s.size : Int))) := ⟨_, rfl⟩
  rw [← hw1]
  have hp1 : w1.heap[p]? = some (.cells (hmk (wordsOf l) (N + s.size) (.slice ao m cap)) 110 (0, 0)) := by
    rw [hw1]
    have := heap_setCell_at HP.out 9 (.int .i64 ((N + s.size : Nat) : Int))
    rw [hmk_set9] at this
    exact this
  have ht1 : Turns F w w1 := by rw [hw1]; exact (Turns.refl _ _).setCell p 9 _ (Or.inl (by rw [HF.out]; exact Or.inl rfl))
  have hs1 : Sl w1 5 1 (.slice ao m cap) m (bcs (restOf l)) := HS.out.keep (Turns.set w p 9 _) (fun k hk e => HN.out (e ▸ hk)) |> fun h => by rw [hw1]; exact h
  obtain ⟨a1, ha1⟩ : ∃ a1, Go.sliced ao 0 m m 1 = .slice a1 m m := ⟨_, rfl⟩
  have hd1 := hs1.sliced 0 m m (by omega) (by omega) (by omega) (by omega)
  have hb1 := sliced_own ao m cap 0 m m 1
  rw [ha1] at hd1 hb1
  simp only [Nat.zero_mul, List.drop_zero, Nat.sub_zero, Nat.mul_one] at hd1
  rw [List.take_of_length_le (by rw [bcs_len, HM.out]; exact Nat.le_refl _)] at hd1
  have HW1 := Lib.hid hw1
  have HP1 := Lib.hid hp1
  have HT1 := Lib.hid ht1
  have HA1 := Lib.hid ha1
  have HD1 := Lib.hid hd1
  have HB1 := Lib.hid hb1
  have hz1 : w1.heap.size = w.heap.size := by rw [hw1]; simp [World.setCell]
  have HZ1 := Lib.hid hz1
  clear hw1 hp1 ht1 hs1 ha1 hd1 hb1 c9 f9 hz1
  refine wp_region_mix [(0, true, true), (1, true, true), (2, true, true), (3, true, true), (4, true, true), (5, true, true), (6, true, true), (7, true, true), (8, true, true), (9, true, true), (10, true, true), (11, true, true), (12, true, true), (13, true, true), (14, true, true), (15, true, true), (16, true, true), (17, false, true), (18, true, true), (19, true, true), (20, false, false)] (fun W => W.heap[p]? = some (.cells (hmk (wordsOf l) (N + s.size) (.slice ao m cap)) 110 (0, 0))) (by kernel_rfl) (by kernel_rfl) (HP1.out) ?_
  simp only [picked, List.filterMap_cons, List.filterMap_nil, List.getElem?_toArray, List.getElem?_cons_zero, List.getElem?_cons_succ, Option.map_some]
  iterate 15 (refine mix_free (v := ?_) rfl ?_ ?_; rotate_left; (focus (intro w' hI; have d8 := cells_of hI 8 _ (hmk_get _ _ _).1; clear hI; go_simp; try with_reducible rfl)); simp only [Act.put, List.setIfInBounds_toArray, List.set_cons_zero, List.set_cons_succ])
  refine mix_free (v := .slice a1 m m) rfl (fun w' _ => exec_cut_hm Tryd.underlying64 sizeU8 _ _ _ rfl rfl rfl rfl (Nat.le_refl _) hnc HA1.out) ?_
  simp only [Act.put, List.setIfInBounds_toArray, List.set_cons_zero, List.set_cons_succ]
  (refine mix_free (v := ?_) rfl ?_ ?_; rotate_left; (focus (intro w' hI; clear hI; go_simp; try with_reducible rfl)); simp only [Act.put, List.setIfInBounds_toArray, List.set_cons_zero, List.set_cons_succ])
  refine mix_big rfl (fun K hK => ?_)
  go_wp2_with (at_builtin; refine wpList_append_src rfl _ _ 64 9 rfl Tryd.underlying64 HI.out hz0 hz1 hz2 rfl (by decide) rfl rfl HD1.out (_root_.Go.Src.ofString _ Tryd.underlying9 s) (by unfold maxLen; omega) (by omega) ?_)
  intro v' w3 hsl3 ht3 hnew3 hclip3
  obtain ⟨ao', cap', rfl, _⟩ := hsl3.shape
  have ht3' : Turns nobody w1 w3 := (Turns.refl _ _).drew.trans (hclip3 _ rfl).1 (fun _ h => h.elim)
  have hp3 := heap_newer HP1.out ht3' (fun h => h)
  have hnew : ∀ k, blk (.slice ao' (m + s.size) cap') k → (F k ∧ k ≠ p) ∨ w.heap.size ≤ k := fun k hk => by
    rcases hnew3 k hk with h | h
    · have h' := (HB1.out k).1 h
      exact Or.inl ⟨by rw [HF.out]; exact Or.inr h', fun e => HN.out (e ▸ h')⟩
    · have := HZ1.out
      exact Or.inr (by simp at h; omega)
  rw [byteCells_bcs, ← bcs_append] at hsl3
  obtain ⟨buf, hbuf⟩ : ∃ buf, restOf l ++ s.data.toList = buf := ⟨_, rfl⟩
  have hbl : m + s.size = buf.length := by rw [← hbuf, List.length_append, HM.out, HSS.out]
  rw [hbuf] at hsl3
  rw [hbl] at hsl3 hnew ⊢
  have hstep : Step F (HX p (wordsOf l) (N + s.size) buf) w (w3.setCell ⟨p, 8, none⟩ (.slice ao' buf.length cap')) :=
    Box1.put H.out (HT1.out.trans ht3' (fun _ h => h.elim)) hp3 hsl3 hnew 8 (hmk_set8 _ _ _ _)
  have d8 := cells_of hp3 8 _ (hmk_get _ _ _).1
  have df := free_of hp3 8
  refine hK _ _ (fun _ => hp3) ?_
  clear hK K
  repeat (refine mix_free (v := ?_) rfl ?_ ?_; rotate_left; (focus (intro w' hI; go_simp; try with_reducible rfl)); simp only [Act.put, List.setIfInBounds_toArray, List.set_cons_zero, List.set_cons_succ])
  refine mix_big rfl (fun K hK => ?_)
  go_wp2
  refine hK _ _ (fun h => by cases h) ?_
  clear hK K
  refine mix_nil ?_
  have HSTEP := Lib.hid hstep
  have HBUF := Lib.hid hbuf
  have HBL := Lib.hid hbl
  have hbig : buf.length ≤ 1000064 := by omega
  have hpz := HZ1.out
  clear hstep d8 df hp3 hnew ht3' hsl3 ht3 hnew3 hclip3 hbuf hbl hpz HB1 HD1 HA1 HT1 HP1 HW1 HZ1
  go_wp2
  go_loopw [] (fun wr => ∃ k : Nat, 64 * k ≤ buf.length ∧ Step F (HX p (turns k (wordsOf l) buf) (N + s.size) (buf.drop (64 * k))) w wr) (fun wr => restLen p wr)
  case atStart => exact ⟨0, by omega, HSTEP.out⟩
  case round =>
    obtain ⟨k, hk, hst⟩ := hrel
    obtain ⟨F', ha, htt, hnn⟩ := hst
    have hoff' : off F' := ⟨fun h => by rcases hnn _ h with h | h; exact HO.out.1 h; have := HT.out.k.lt; omega, fun h => by rcases hnn _ h with h | h; exact HO.out.2 h; have := HT.out.first.lt; omega⟩
    have htab : Tabs wr := HT.out.turns htt HO.out
    have HA := Lib.hid ha
    obtain ⟨r, hp, hs, hne, hF⟩ := ha
    obtain ⟨aor, capr, rfl, hncr, hcmr, _, _⟩ := hs.shape
    have hFp : F' p := by rw [hF]; exact Or.inl rfl
    have hlen : (buf.drop (64 * k)).length = buf.length - 64 * k := List.length_drop
    rw [hlen] at hp hs hne hF hncr
    obtain ⟨q, hq⟩ : ∃ q, buf.length - 64 * k = q := ⟨_, rfl⟩
    rw [hq] at hp hs hne hF hncr
    have hq6 : q ≤ 1000064 := by omega
    have d8 := cells_of hp 8 _ (hmk_get _ _ _).1
    have hrl : restLen p wr = q := by unfold restLen; rw [d8]
    by_cases h64 : 64 ≤ q
    · have hs' := hs
      obtain ⟨g, o, c0, hv, _⟩ := hs'.some_of_pos (by omega)
      cases hv
      have hk1 : 64 * (k + 1) ≤ buf.length := by omega
      obtain ⟨a2, ha2⟩ : ∃ a2, Go.sliced (some ⟨g, o, none⟩) 64 q capr 1 = .slice a2 (q - 64) (capr - 64) := ⟨_, rfl⟩
      have ha1 : Go.sliced (some ⟨g, o, none⟩) 0 64 capr 1 = .slice (some ⟨g, o, none⟩) 64 capr := by
        unfold Go.sliced
        rw [if_neg (by omega), Option.map_some, Addr.add_lit]
        rfl
      have hd1 := hs.sliced 0 64 capr (by omega) (by omega) (by omega) (by omega)
      have hd2 := hs.sliced 64 q capr (by omega) (by omega) (by omega) (by omega)
      have hb2 := sliced_own (some ⟨g, o, none⟩) q capr 64 q capr 1
      rw [ha1] at hd1
      rw [ha2] at hd2 hb2
      simp only [Nat.zero_mul, List.drop_zero, Nat.sub_zero, Nat.mul_one, bcs_take] at hd1
      simp only [Nat.mul_one, bcs_drop, bcs_take, List.drop_drop] at hd2
      rw [show 64 * k + 64 = 64 * (k + 1) by omega, List.take_of_length_le (by rw [List.length_drop]; omega)] at hd2
      have hbl64 : ((buf.drop (64 * k)).take 64).length = 64 := by rw [List.length_take, hlen]; omega
      have hb1 : BSl wr (.slice (some ⟨g, o, none⟩) 64 capr) ((buf.drop (64 * k)).take 64) := by
        show Sl _ _ _ _ ((buf.drop (64 * k)).take 64).length _
        rw [hbl64]
        exact hd1
      have hq2 : q - 64 = (buf.drop (64 * (k + 1))).length := by rw [List.length_drop]; omega
      have hcall : ∀ W, Turns nobody wr W → Calls Tryd.prog 61 #[.pointer (some ⟨p, 0, none⟩), .slice (some ⟨g, o, none⟩) 64 capr] W fun e w' => e = .returned (.tuple #[]) ∧ ArrR w' p 110 (turn (turns k (wordsOf l) buf) ((buf.drop (64 * k)).take 64)) [.slice (some ⟨g, o, none⟩) q capr, .int .i64 ((N + s.size : Nat) : Int), .bool true] ∧ Turns (fun i => i = p) W w' := fun W hW =>
        turn_any p _ _ _ g o capr _ hbl64 W (heap_newer hp hW (fun h => h)) (Sl.keep hb1 hW (fun _ _ h => h)) (htab.turns hW off_none).k (fun e => hoff'.1 (e ▸ hFp))
      have HP := Lib.hid hp
      have HA1 := Lib.hid ha1
      have HA2 := Lib.hid ha2
      have HD2 := Lib.hid hd2
      have HB2 := Lib.hid hb2
      have HQ2 := Lib.hid hq2
      have HFP := Lib.hid hFp
      have HF' := Lib.hid hF
      have HNE := Lib.hid hne
      have HTT := Lib.hid htt
      have HNN' := Lib.hid hnn
      have HRL := Lib.hid hrl
      clear hp ha1 ha2 hd1 hd2 hb2 hb1 hq2 hs hs' hF hne htt hnn hlen hbl64 htab hoff' hFp hq hk hrl
      go_wp2
      refine wp_region_mix [(0, true, true), (1, true, true), (2, true, true), (3, true, true), (4, true, true), (5, true, true), (6, true, true), (7, true, true), (8, false, false)] (fun W => W.heap[p]? = some (.cells (hmk (turns k (wordsOf l) buf) (N + s.size) (.slice (some ⟨g, o, none⟩) q capr)) 110 (0, 0))) (by kernel_rfl) (by kernel_rfl) (HP.out) ?_
      simp only [picked, List.filterMap_cons, List.filterMap_nil, List.getElem?_toArray, List.getElem?_cons_zero, List.getElem?_cons_succ, Option.map_some]
      iterate 7 (refine mix_free (v := ?_) rfl ?_ ?_; rotate_left; (focus (intro w' hI; have d8 := cells_of hI 8 _ (hmk_get _ _ _).1; clear hI; go_simp; try with_reducible rfl)); simp only [Act.put, List.setIfInBounds_toArray, List.set_cons_zero, List.set_cons_succ])
      refine mix_free (v := .slice (some ⟨g, o, none⟩) 64 capr) rfl (fun w' _ => exec_cut_h Tryd.underlying64 sizeU8 _ _ rfl rfl rfl (by omega) HA1.out) ?_
      simp only [Act.put, List.setIfInBounds_toArray, List.set_cons_zero, List.set_cons_succ]
      refine mix_big rfl (fun K hK => ?_)
      go_wp2_with (go_at_call 61; refine (hcall _ (Turns.refl _ _).drew).mono ?_; rintro e w5 ⟨rfl, h5, t5⟩)
      refine hK _ _ (fun h => by cases h) ?_
      clear hK K hcall d8
      refine mix_nil ?_
      have hp5 : w5.heap[p]? = some (.cells (hmk (turns (k + 1) (wordsOf l) buf) (N + s.size) (.slice (some ⟨g, o, none⟩) q capr)) 110 (0, 0)) := by rw [turns_succ]; exact h5
      have d8 := cells_of hp5 8 _ (hmk_get _ _ _).1
      have df := free_of hp5 8
      have t5' : Turns (fun i => i = p) wr w5 := (Turns.refl _ _).drew.trans t5 (fun _ h => Or.inl h)
      have hstep : Step F (HX p (turns (k + 1) (wordsOf l) buf) (N + s.size) (buf.drop (64 * (k + 1)))) w (w5.setCell ⟨p, 8, none⟩ (.slice a2 (q - 64) (capr - 64))) := by
        refine Step.next HTT.out HNN'.out (Box1.put HA.out (t5'.mono fun i hi => Or.inl (by rw [hi]; exact HFP.out)) hp5 (n' := (buf.drop (64 * (k + 1))).length) (xs' := bcs (buf.drop (64 * (k + 1)))) ?_ (fun j hj => ?_) 8 (hmk_set8 _ _ _ _))
        · rw [← HQ2.out]
          exact HD2.out.keep t5' (fun j hj e => HNE.out (e ▸ (HB2.out j).1 hj))
        · have h' := (HB2.out j).1 hj
          exact Or.inl ⟨by rw [HF'.out]; exact Or.inr h', fun e => HNE.out (e ▸ h')⟩
      have hm : restLen p (w5.setCell ⟨p, 8, none⟩ (.slice a2 (q - 64) (capr - 64))) = q - 64 := by
        have h8 := heap_setCell_at hp5 8 (.slice a2 (q - 64) (capr - 64))
        rw [hmk_set8] at h8
        unfold restLen
        rw [cells_of h8 8 _ (hmk_get _ _ _).1]
      have HSTEP' := Lib.hid hstep
      have HM' := Lib.hid hm
      clear hstep hm hp5 h5 t5 t5'
      go_wp2_with (refine wpList_exec (exec_cut_l Tryd.underlying64 sizeU8 _ _ rfl rfl rfl h64 HA2.out) rfl ?_)
      exact ⟨⟨k + 1, hk1, HSTEP'.out⟩, by rw [HM'.out, HRL.out]; omega⟩
    · have hkk : k = buf.length / 64 := by omega
      have hw : wordsOf (l ++ s.data.toList) = turns k (wordsOf l) buf := by rw [words_append, HBUF.out, hkk]
      have hr : restOf (l ++ s.data.toList) = buf.drop (64 * k) := by rw [rest_append, HBUF.out, hkk]
      have hl : (l ++ s.data.toList).length = N + s.size := by rw [List.length_append, HNN.out, HSS.out]
      have hfin : Step F (HashAt p (l ++ s.data.toList)) w wr := by
        unfold HashAt
        rw [hw, hr, hl]
        exact ⟨F', HA.out, htt, hnn⟩
      have HFIN := Lib.hid hfin
      clear hw hr hl hfin hp hs hF hne htt hnn hlen htab hoff' hFp hq hk hkk hrl
      go_wp2
      go_ret
      exact ⟨rfl, HFIN.out⟩
end Go.Proofs.YtjnplcajajdkiaaDoor.sha
