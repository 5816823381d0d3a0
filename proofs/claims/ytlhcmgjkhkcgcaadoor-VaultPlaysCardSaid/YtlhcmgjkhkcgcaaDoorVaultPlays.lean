/- VaultPlays. -/
import Derived.Test.YtlhcmgjkhkcgcaaDoorVaultDoc
import Derived.Test.YtlhcmgjkhkcgcaaDoorActKit
namespace Go.Proofs.YtlhcmgjkhkcgcaaDoor.vault
open Go.RowKit
open Go.Proofs.YtlhcmgjkhkcgcaaDoor.stepkit Go.Proofs.YtlhcmgjkhkcgcaaDoor.obj Go.Proofs.YtlhcmgjkhkcgcaaDoor.row Go.Proofs.YtlhcmgjkhkcgcaaDoor.mix Go.Proofs.YtlhcmgjkhkcgcaaDoor.idkit Go.Proofs.YtlhcmgjkhkcgcaaDoor.bytes Go.Proofs.YtlhcmgjkhkcgcaaDoor.octet Go.Proofs.YtlhcmgjkhkcgcaaDoor.eqkit Go.Proofs.YtlhcmgjkhkcgcaaDoor.record Go.Proofs.YtlhcmgjkhkcgcaaDoor.argkit
open Go.Proofs.YtlhcmgjkhkcgcaaDoor.journal (RJ Outs get_set get_other at_store sl_not)
open Go.Proofs.YtlhcmgjkhkcgcaaDoor.block (keepOf keepOf_le keepOf_ge keepOf_all)

/-! ### The calls that came in -/
def actKinds : List TypeDesc := [.int .i64, .string, .slice 9, .int .i64]
def AIn (w : World) (ao : Option Addr) (len : Nat) : Prop := ∀ i, i < len → ∃ b o K S v T N, ao = some ⟨b, o, none⟩ ∧ w.cell? ⟨b, o + i * 4, none⟩ = some (.int .i64 K) ∧ w.cell? ⟨b, o + i * 4 + 1, none⟩ = some (.string S) ∧ w.cell? ⟨b, o + i * 4 + 2, none⟩ = some v ∧ w.cell? ⟨b, o + i * 4 + 3, none⟩ = some (.int .i64 N) ∧ TAt w v T ∧ T.length ≤ 9223372036854775807 ∧ -9223372036854775808 ≤ N ∧ N ≤ 9223372036854775807
theorem tat_row' {w : World} {ao : Option Addr} {l : List ByteArray} {cap : Nat} (h : RowAt w w.heap.size ao (l.map Value.string)) : TAt w (.slice ao l.length cap) l := by
  refine ⟨ao, cap, rfl, fun i hi => ?_⟩
  obtain ⟨b, o, h1, h2, h3⟩ := h (by rw [List.length_map]; omega)
  refine ⟨b, o, h1, ?_⟩
  rw [h3 i (by rw [List.length_map]; exact hi)]
  simp [List.getD, hi]
theorem ain_of {w : World} {ao : Option Addr} {rows : List (List Value)} (h : RowsAt w w.heap.size 4 ao rows) (hf : ∀ r ∈ rows, Fits actKinds r)
    (hs : ∀ r ∈ rows, ∃ (ao' : Option Addr) (ss : List ByteArray) (cap' : Nat), r[2]? = some (.slice ao' ss.length cap') ∧ ss.length ≤ maxLen ∧ RowAt w w.heap.size ao' (ss.map Value.string) ∧ ∀ s ∈ ss, s.size ≤ maxLen) : AIn w ao rows.length := by
  intro i hi
  obtain ⟨b, o, h1, h2, h3⟩ := h (by omega)
  have hm : rows.getD i [] ∈ rows := by rw [List.getD_eq_getElem?_getD, List.getElem?_eq_getElem hi]; exact List.getElem_mem hi
  have hc := h3 i hi
  have hf := hf _ hm
  obtain ⟨ao', ss, cap', e1, e2, e3, e4⟩ := hs _ hm
  generalize rows.getD i [] = r at *
  obtain ⟨_, r1, rfl, ⟨K, rfl, hK⟩, f1⟩ := hf.cons
  obtain ⟨_, r2, rfl, ⟨S, rfl, hS⟩, f2⟩ := f1.cons
  obtain ⟨_, r3, rfl, ⟨ao2, len2, cap2, rfl⟩, f3⟩ := f2.cons
  obtain ⟨_, r4, rfl, ⟨N, rfl, hN⟩, f4⟩ := f3.cons
  obtain rfl := f4.nil
  have hb := Go.bounds_i64 hN
  injection e1 with e1
  have c0 := hc 0 (by omega)
  have c1 := hc 1 (by omega)
  have c2 := hc 2 (by omega)
  have c3 := hc 3 (by omega)
  refine ⟨b, o, K, S, .slice ao' ss.length cap', ss, N, h1, c0, c1, by rw [← e1]; exact c2, c3, tat_row' e3, by unfold maxLen at e2; omega, hb.1, hb.2⟩
theorem TAt.go {w w' : World} {v : Value} {l : List ByteArray} (h : TAt w v l) (ht : Turns nobody w w') : TAt w' v l := tat_turns h ht

/-! ### Side by side -/
structure PE (w0 : World) (V X : Nat) (m : M) (k : Nat) (W : World) : Prop where
  v : VM W w0.heap.size V m
  x : XM W w0.heap.size X m
  t : Turns nobody w0 W
  f : Fine m
  l : Len m (30 + k)
theorem PE.still {w0 : World} {V X : Nat} {m : M} {k : Nat} {W W' : World} (h : PE w0 V X m k W) (ht : Turns nobody W W') : PE w0 V X m k W' := ⟨h.v.still ht, h.x.still ht, h.t.trans ht (fun _ h => h.elim), h.f, h.l⟩
theorem PE.le {w0 : World} {V X : Nat} {m : M} {k k' : Nat} {W : World} (h : PE w0 V X m k W) (hk : k ≤ k') : PE w0 V X m k' W := ⟨h.v, h.x, h.t, h.f, h.l.le (by omega)⟩
/-- Both have turned. -/
theorem PE.both {w0 : World} {V X : Nat} {m m' : M} {k k' : Nat} {W W1 W2 : World} (h : PE w0 V X m k W) (hv : VM W1 w0.heap.size V m') (t1 : TS okV w0.heap.size W W1) (hx : XM W2 w0.heap.size X m') (t2 : TS okX w0.heap.size W1 W2) (hf : Fine m') (hl : Len m' (30 + k')) : PE w0 V X m' k' W2 :=
  ⟨hv.tsx t2, hx, t2.turns (t1.turns h.t), hf, hl⟩
theorem act_keep {ok : TypeId → Prop} {B : Nat} {w w' : World} {A : Nat} {cur : Array Value} (h : w.heap[A]? = some (.cells cur 89 (0, 0))) (ht : TS ok B w w') (hn : ¬ ok 89) : w'.heap[A]? = some (.cells cur 89 (0, 0)) := ht.heap h hn
theorem not_okV_act : ¬ okV 89 := by unfold okV; decide
theorem not_okX_act : ¬ okX 89 := by unfold okX; decide
theorem fine_M0 : Fine M0 := by
  show 0 ≤ numOf [genR 0, sealR]
  rw [numOf_new]; decide
theorem not_okX_str : ¬ okX 9 := by unfold okX; decide
theorem crashT_len {m : M} (hu : m.u = 0 ∨ m.u = 1) (h : Len m 5000) (k : Int) : (m.crashT k).length ≤ 16777216 := by
  obtain ⟨L0, n0, L1, n1, u, no⟩ := m
  have h0 := h.1
  have h1 := h.2
  simp only at hu h0 h1
  rcases hu with rfl | rfl
  · show (loadT (leftOf L0 n0 k) L1).length ≤ _
    have := heldOf_len (leftOf L0 n0 k)
    have := heldOf_len L1
    have := left_len L0 n0 k
    unfold loadT
    split
    · omega
    · split
      · omega
      · simp
  · show (loadT L0 (leftOf L1 n1 k)).length ≤ _
    have := heldOf_len (leftOf L1 n1 k)
    have := heldOf_len L0
    have := left_len L1 n1 k
    unfold loadT
    split
    · omega
    · split
      · omega
      · simp
theorem dieT_len {m : M} (hu : m.u = 0 ∨ m.u = 1) (h : Len m 5000) {T : List ByteArray} (hT : T.length ≤ 100) (k : Int) : (m.dieT T k).length ≤ 16777216 := by
  obtain ⟨L0, n0, L1, n1, u, no⟩ := m
  have h0 := h.1
  have h1 := h.2
  simp only at hu h0 h1
  have h2 := left_len (snap (no + 1) T) 0 k
  rw [snap_len] at h2
  rcases hu with rfl | rfl
  · show (loadT L0 (leftOf (snap (no + 1) T) 0 k)).length ≤ _
    have := heldOf_len (leftOf (snap (no + 1) T) 0 k)
    have := heldOf_len L0
    unfold loadT
    split
    · omega
    · split
      · omega
      · simp
  · show (loadT (leftOf (snap (no + 1) T) 0 k) L1).length ≤ _
    have := heldOf_len (leftOf (snap (no + 1) T) 0 k)
    have := heldOf_len L1
    unfold loadT
    split
    · omega
    · split
      · omega
      · simp
theorem nil_at (w : World) : TAt w (.slice none 0 0) [] := ⟨none, 0, rfl, fun i hi => absurd hi (Nat.not_lt_zero i)⟩
set_option maxRecDepth 20000 in
set_option maxHeartbeats 16000000 in
theorem plays_any (ao : Option Addr) (len cap : Nat) (w : World) (hin : AIn w ao len) (ht : TabB w.heap.size w) :
    Calls Tryd.prog 13 #[.slice ao len cap] w fun e w' => e = .returned (.bool true) ∧ Turns nobody w w' := by
  have hnew := new_any w ht
  have HIN := Lib.hid hin
  have HTB := Lib.hid ht
  clear hin ht
  go_enter Tryd.func13, Tryd.ntmps13
  go_upto_region 2 with (go_at_call 41; refine hnew.mono ?_; rintro e w1 ⟨V, rfl, hm1, ts1⟩; have HM1 := Lib.hid hm1; have HT1 := Lib.hid (ts1.turns (Turns.refl _ _)); clear hm1 ts1)
  clear hnew
  have hxn := xnew_any w1
  go_upto_region 3 with first
    | (go_at_call 51; refine hxn.mono ?_; rintro e w2 ⟨u0, u1, rfl, hu0, hu1, t2⟩; have HU := Lib.hid (And.intro hu0 hu1); have HT2 := Lib.hid (HT1.out.trans t2 (fun _ h => h.elim)); have HM2 := Lib.hid (HM1.out.still t2); clear hu0 hu1 t2)
    | ((with_reducible refine at_store ?_); refine wpList_putc rfl _ _ _ rfl (xcells M0 u0 u1) (heap_alloc_new w2 (.cells Z10.toArray 98)) rfl (xcells_one HU.out.1 HU.out.2) rfl rfl size10 ?_; intro w3 t3 h3 z3; have HT3 := Lib.hid t3; have HH3 := Lib.hid h3; clear t3 h3 z3)
  clear hxn
  obtain ⟨X, hX⟩ : ∃ X, w2.heap.size = X := ⟨_, rfl⟩
  rw [hX] at HT3 HH3 ⊢
  have HE0 : Hid (PE w V X M0 0 w3) := Lib.hid (by
    have hal : Turns nobody w2 (w2.alloc (.cells Z10.toArray 98)) := (Turns.refl _ _).alloc _
    have hwX : w.heap.size ≤ X := by rw [← hX]; exact HT2.out.size
    have h0 := Sl.keep (Sl.keep HU.out.1 hal (fun _ _ h => h)) HT3.out (fun i hi e => by have := Sl.lt HU.out.1 i hi; have e : i = X := e; omega)
    have h1 := Sl.keep (Sl.keep HU.out.2 hal (fun _ _ h => h)) HT3.out (fun i hi e => by have := Sl.lt HU.out.2 i hi; have e : i = X := e; omega)
    have hts : TS okX w.heap.size (w2.alloc (.cells Z10.toArray 98)) w3 := TS.oneX HT3.out hwX (by have := heap_alloc_new w2 (.cells Z10.toArray 98); rw [hX] at this; exact this)
    exact ⟨(HM2.out.still hal).tsx hts, ⟨xv_of HH3.out h0 h1 hwX, Or.inl rfl, (fun r hr => by
      rcases List.mem_cons.1 hr with rfl | hr
      · exact good_gen 0
      · rw [List.mem_singleton.1 hr]; exact good_seal), (fun _ h => by cases h), Nat.le_refl _, Nat.le_refl _⟩, hts.turns (HT2.out.trans hal (fun _ h => h.elim)), fine_M0, ⟨by show 2 ≤ 30 + 0; omega, by show 0 ≤ 30 + 0; omega⟩⟩)
  clear hX HM1 HM2 HT1 HT2 HU HT3 HH3
  go_upto_region 4 with fail
  go_loopw [5] (fun i wr => ∃ k : Nat, k ≤ len ∧ k ≤ 30 ∧ i = .int .i64 k ∧ ∃ m, PE w V X m k wr) (fun i wr => 30 - (intOf i).toNat)
  case atStart => exact ⟨0, Nat.zero_le _, Nat.zero_le _, rfl, _, HE0.out⟩
  case round =>
    obtain ⟨k, hkl, hk30, rfl, m, hpe⟩ := hrel
    have HP := Lib.hid hpe
    clear hpe HE0
    by_cases hlt : k < len ∧ k < 30
    · obtain ⟨h1, h2⟩ := hlt
      have h1I : (k : Int) < (len : Int) := by omega
      have h2I : (k : Int) < 30 := by omega
      obtain ⟨b, o, KK, S, v, T, N, rfl, c0, c1, c2, c3, hta, htl, hn1, hn2⟩ := HIN.out k h1
      have hta2 := hta
      obtain ⟨vo, vc, rfl, -⟩ := hta
      have hc := fun (a : Addr) u (h : w.cell? a = some u) => (HP.out.t.cell (p := a) (lt_of_cell' h) (fun h => h)).trans h
      have d0 := hc _ _ c0
      have d1 := hc _ _ c1
      have d2 := hc _ _ c2
      have d3 := hc _ _ c3
      have HN := Lib.hid (And.intro hn1 hn2)
      have HTA := Lib.hid hta2
      have HTL := Lib.hid htl
      clear c0 c1 c2 c3 hc hn1 hn2 hta2 htl
      obtain ⟨A, hA⟩ : ∃ A, wr.heap.size = A := ⟨_, rfl⟩
      obtain ⟨wa, hwa⟩ : ∃ wa, wa = wr.alloc (.cells #[.int .i64 KK, .string S, .slice vo T.length vc, .int .i64 N] 89) := ⟨_, rfl⟩
      have ta : Turns nobody wr wa := by rw [hwa]; exact (Turns.refl _ _).alloc _
      have ha : wa.heap[A]? = some (.cells #[.int .i64 KK, .string S, .slice vo T.length vc, .int .i64 N] 89 (0, 0)) := by rw [hwa, ← hA]; exact heap_alloc_new wr _
      have HAA := Lib.hid ha
      have HPA := Lib.hid (HP.out.still ta)
      have HWA := Lib.hid hwa
      have HAS := Lib.hid hA
      clear ta ha hwa hA
      go_upto_region 7 with fail
      rw [← HWA.out, HAS.out]
      clear d0 d1 d2 d3 HWA HAS
      have hlo := long_any KK N S _ T wa (HTA.out.go HPA.out.t) HTL.out
      have e0 := cells_of HAA.out 0 _ rfl
      have e1 := cells_of HAA.out 1 _ rfl
      have e2 := cells_of HAA.out 2 _ rfl
      have e3 := cells_of HAA.out 3 _ rfl
      obtain ⟨Q, hQ⟩ : ∃ Q, longB S T = Q := ⟨_, rfl⟩
      rw [hQ] at hlo
      have HQ := Lib.hid hQ
      clear hQ
      cases Q with
      | true =>
        go_wp2_with (go_at_call 47; refine hlo.mono ?_; rintro e wl ⟨rfl, tl⟩; have HL := Lib.hid (HPA.out.still tl); clear tl)
        go_roundw
        case rel => exact ⟨k + 1, by omega, by omega, by go_num, _, HL.out.le (Nat.le_succ _)⟩
        case measure => simp [intOf]; omega
      | false =>
        have HZ := Lib.hid (longB_no HQ.out)
        have HSM : Hid (small m) := Lib.hid (HP.out.l.small (by omega))
        clear HQ
        go_upto_region 8 with (go_at_call 47; refine hlo.mono ?_; rintro e wl ⟨rfl, tl⟩; have HL := Lib.hid (HPA.out.still tl); have HA := Lib.hid (heap_newer HAA.out tl (fun h => h)); clear tl)
        clear hlo e0 e1 e2 e3 HPA HAA
        have e0 := cells_of HA.out 0 _ rfl
        by_cases hK0 : KK = 0
        · subst hK0
          go_upto_region 15 with fail
          clear e0
          obtain ⟨KK, hKK⟩ : ∃ KK : Int, KK = 0 := ⟨_, rfl⟩
          rw [← hKK] at HA
          clear hKK
          have hap := append_any _ V m S wl.drew (HL.out.v.still (Turns.refl nobody wl).drew) HSM.out HZ.out.1 (HTB.out.still (HL.out.t.trans (Turns.refl nobody wl).drew (fun _ h => h.elim)))
          have HAP := Lib.hid hap
          clear hap
          refine wp_region_mix [(0, true, true), (1, true, true), (2, true, true), (4, true, true), (5, true, true), (3, false, true), (6, false, true), (7, true, true), (8, true, true)] (fun W => W.heap[A]? = some (.cells #[.int .i64 KK, .string S, .slice vo T.length vc, .int .i64 N] 89 (0, 0))) (by kernel_rfl) (by kernel_rfl) (HA.out) ?_
          simp only [picked, List.filterMap_cons, List.filterMap_nil, List.getElem?_toArray, List.getElem?_cons_zero, List.getElem?_cons_succ, Option.map_some]
          repeat (refine mix_free (v := ?_) rfl ?_ ?_; rotate_left; (focus (intro w' hI; have e1 := cells_of hI 1 _ rfl; clear hI; go_simp; try with_reducible rfl)); simp only [Act.put, List.setIfInBounds_toArray, List.set_cons_zero, List.set_cons_succ])
          refine mix_big rfl (fun K hK => ?_)
          go_wp2_with (go_at_call 42; refine HAP.out.mono ?_; rintro e w7 ⟨rfl, hm7, t7⟩; have HM7 := Lib.hid hm7; have HT7 := Lib.hid ((TS.still (ok := okV) (B := w.heap.size) (Turns.refl nobody wl).drew).trans t7); clear hm7 t7)
          have HA7 := Lib.hid (act_keep HA.out HT7.out not_okV_act)
          refine hK _ _ (fun _ => HA7.out) ?_
          clear hK K
          repeat (refine mix_free (v := ?_) rfl ?_ ?_; rotate_left; (focus (intro w' hI; have e1 := cells_of hI 1 _ rfl; clear hI; go_simp; try with_reducible rfl)); simp only [Act.put, List.setIfInBounds_toArray, List.set_cons_zero, List.set_cons_succ])
          have hxa := xappend_any _ X m S w7 (HL.out.x.ts HT7.out) HSM.out HZ.out.1
          refine mix_big rfl (fun K hK => ?_)
          go_wp2_with (go_at_call 52; refine hxa.mono ?_; rintro e w8 ⟨rfl, hx8, t8⟩; have HX8 := Lib.hid hx8; have HT8 := Lib.hid t8; clear hx8 t8)
          refine hK _ _ (fun _ => act_keep HA7.out HT8.out not_okX_act) ?_
          clear hK K hxa
          repeat (refine mix_free (v := ?_) rfl ?_ ?_; rotate_left; (focus (intro w' hI; clear hI; go_simp; try with_reducible rfl)); simp only [Act.put, List.setIfInBounds_toArray, List.set_cons_zero, List.set_cons_succ])
          refine mix_nil ?_
          have HE : Hid (PE w V X (m.app S) (k + 1) w8) := Lib.hid (HL.out.both HM7.out HT7.out HX8.out HT8.out (app_ok HL.out.v.u HL.out.f HL.out.v.le.1 HL.out.v.le.2 S) (by have := app_len HL.out.v.u HL.out.l S; exact this.le (by omega)))
          obtain ⟨wt, hwt⟩ : ∃ wt, wt = w8 := ⟨_, rfl⟩
          rw [← hwt] at HE ⊢
          clear hwt
          have hal := alike_any _ V X _ wt HE.out.v HE.out.x
          go_wp2_with (go_at_call 57; refine hal.mono ?_; rintro e w9 ⟨rfl, t9⟩; have HE9 := Lib.hid (HE.out.still t9); clear t9)
          clear hal
          go_roundw
          case rel => exact ⟨k + 1, by omega, by omega, by go_num, _, HE9.out⟩
          case measure => simp [intOf]; omega
        · by_cases hK1 : KK = 1
          · subst hK1
            clear hK0
            go_upto_region 15 with fail
            clear e0
            obtain ⟨KK, hKK⟩ : ∃ KK : Int, KK = 1 := ⟨_, rfl⟩
            rw [← hKK] at HA
            clear hKK
            have hap := append_any _ V m S wl.drew (HL.out.v.still (Turns.refl nobody wl).drew) HSM.out HZ.out.1 (HTB.out.still (HL.out.t.trans (Turns.refl nobody wl).drew (fun _ h => h.elim)))
            have HAP := Lib.hid hap
            clear hap
            refine wp_region_mix [(0, true, true), (1, true, true), (2, true, true), (4, true, true), (5, true, true), (3, false, true), (6, false, true), (7, true, true), (8, true, true)] (fun W => W.heap[A]? = some (.cells #[.int .i64 KK, .string S, .slice vo T.length vc, .int .i64 N] 89 (0, 0))) (by kernel_rfl) (by kernel_rfl) (HA.out) ?_
            simp only [picked, List.filterMap_cons, List.filterMap_nil, List.getElem?_toArray, List.getElem?_cons_zero, List.getElem?_cons_succ, Option.map_some]
            repeat (refine mix_free (v := ?_) rfl ?_ ?_; rotate_left; (focus (intro w' hI; have e1 := cells_of hI 1 _ rfl; clear hI; go_simp; try with_reducible rfl)); simp only [Act.put, List.setIfInBounds_toArray, List.set_cons_zero, List.set_cons_succ])
            refine mix_big rfl (fun K hK => ?_)
            go_wp2_with (go_at_call 42; refine HAP.out.mono ?_; rintro e w7 ⟨rfl, hm7, t7⟩; have HM7 := Lib.hid hm7; have HT7 := Lib.hid ((TS.still (ok := okV) (B := w.heap.size) (Turns.refl nobody wl).drew).trans t7); clear hm7 t7)
            have HA7 := Lib.hid (act_keep HA.out HT7.out not_okV_act)
            refine hK _ _ (fun _ => HA7.out) ?_
            clear hK K
            repeat (refine mix_free (v := ?_) rfl ?_ ?_; rotate_left; (focus (intro w' hI; have e1 := cells_of hI 1 _ rfl; clear hI; go_simp; try with_reducible rfl)); simp only [Act.put, List.setIfInBounds_toArray, List.set_cons_zero, List.set_cons_succ])
            have hxa := xappend_any _ X m S w7 (HL.out.x.ts HT7.out) HSM.out HZ.out.1
            refine mix_big rfl (fun K hK => ?_)
            go_wp2_with (go_at_call 52; refine hxa.mono ?_; rintro e w8 ⟨rfl, hx8, t8⟩; have HX8 := Lib.hid hx8; have HT8 := Lib.hid t8; clear hx8 t8)
            refine hK _ _ (fun _ => act_keep HA7.out HT8.out not_okX_act) ?_
            clear hK K hxa
            repeat (refine mix_free (v := ?_) rfl ?_ ?_; rotate_left; (focus (intro w' hI; clear hI; go_simp; try with_reducible rfl)); simp only [Act.put, List.setIfInBounds_toArray, List.set_cons_zero, List.set_cons_succ])
            refine mix_nil ?_
            have HE : Hid (PE w V X (m.app S) (k + 1) w8) := Lib.hid (HL.out.both HM7.out HT7.out HX8.out HT8.out (app_ok HL.out.v.u HL.out.f HL.out.v.le.1 HL.out.v.le.2 S) (by have := app_len HL.out.v.u HL.out.l S; exact this.le (by omega)))
            obtain ⟨wt, hwt⟩ : ∃ wt, wt = w8 := ⟨_, rfl⟩
            rw [← hwt] at HE ⊢
            clear hwt
            have hal := alike_any _ V X _ wt HE.out.v HE.out.x
            go_wp2_with (go_at_call 57; refine hal.mono ?_; rintro e w9 ⟨rfl, t9⟩; have HE9 := Lib.hid (HE.out.still t9); clear t9)
            clear hal
            go_roundw
            case rel => exact ⟨k + 1, by omega, by omega, by go_num, _, HE9.out⟩
            case measure => simp [intOf]; omega
          · by_cases hK2 : KK = 2
            · subst hK2
              clear hK0 hK1
              go_upto_region 17 with fail
              clear e0
              have hsy := sync_any _ V m wl HL.out.v HSM.out
              go_upto_region 22 with first
                | (go_at_call 43; refine hsy.mono ?_; rintro e w7 ⟨rfl, hm7, t7⟩; have HM7 := Lib.hid hm7; have HT7 := Lib.hid t7; clear hm7 t7)
                | (go_at_call 53; refine (xsync_any _ X m w7 (HL.out.x.ts HT7.out) HSM.out).mono ?_; rintro e w8 ⟨rfl, hx8, t8⟩; have HX8 := Lib.hid hx8; have HT8 := Lib.hid t8; clear hx8 t8)
              clear hsy
              have HE : Hid (PE w V X m.sync (k + 1) w8) := Lib.hid (HL.out.both HM7.out HT7.out HX8.out HT8.out (sync_ok HL.out.v.u HL.out.f HL.out.v.le.1 HL.out.v.le.2) ((sync_len HL.out.v.u HL.out.l).le (by omega)))
              obtain ⟨wt, hwt⟩ : ∃ wt, wt = w8 := ⟨_, rfl⟩
              rw [← hwt] at HE ⊢
              clear hwt
              have hal := alike_any _ V X _ wt HE.out.v HE.out.x
              go_wp2_with (go_at_call 57; refine hal.mono ?_; rintro e w9 ⟨rfl, t9⟩; have HE9 := Lib.hid (HE.out.still t9); clear t9)
              clear hal
              go_roundw
              case rel => exact ⟨k + 1, by omega, by omega, by go_num, _, HE9.out⟩
              case measure => simp [intOf]; omega
            · by_cases hK3 : KK = 3
              · subst hK3
                clear hK0 hK1 hK2
                go_upto_region 19 with fail
                clear e0
                obtain ⟨KK, hKK⟩ : ∃ KK : Int, KK = 3 := ⟨_, rfl⟩
                rw [← hKK] at HA
                clear hKK
                have hcr := crash_any _ V m N wl.drew (HL.out.v.still (Turns.refl nobody wl).drew) HSM.out HN.out.1 HN.out.2 (HTB.out.still (HL.out.t.trans (Turns.refl nobody wl).drew (fun _ h => h.elim)))
                have HCR := Lib.hid hcr
                have HOK := Lib.hid (crash_ok HL.out.v.u HL.out.f HL.out.v.le.1 HL.out.v.le.2 N)
                clear hcr
                refine wp_region_mix [(0, true, true), (1, true, true), (2, true, true), (4, true, true), (5, true, true), (3, false, true), (6, false, true), (7, false, true), (8, true, true)] (fun W => W.heap[A]? = some (.cells #[.int .i64 KK, .string S, .slice vo T.length vc, .int .i64 N] 89 (0, 0))) (by kernel_rfl) (by kernel_rfl) (HA.out) ?_
                simp only [picked, List.filterMap_cons, List.filterMap_nil, List.getElem?_toArray, List.getElem?_cons_zero, List.getElem?_cons_succ, Option.map_some]
                repeat (refine mix_free (v := ?_) rfl ?_ ?_; rotate_left; (focus (intro w' hI; have e3 := cells_of hI 3 _ rfl; clear hI; go_simp; try with_reducible rfl)); simp only [Act.put, List.setIfInBounds_toArray, List.set_cons_zero, List.set_cons_succ])
                refine mix_big rfl (fun K hK => ?_)
                go_wp2_with (go_at_call 44; refine HCR.out.mono ?_; rintro e w7 ⟨v7, rfl, hs7, hn7, hm7, t7⟩; have HS7 := Lib.hid hs7; have HM7 := Lib.hid hm7; have HT7 := Lib.hid ((TS.still (ok := okV) (B := w.heap.size) (Turns.refl nobody wl).drew).trans t7); clear hs7 hn7 hm7 t7)
                have HA7 := Lib.hid (act_keep HA.out HT7.out not_okV_act)
                refine hK _ _ (fun _ => HA7.out) ?_
                clear hK K
                repeat (refine mix_free (v := ?_) rfl ?_ ?_; rotate_left; (focus (intro w' hI; have e3 := cells_of hI 3 _ rfl; clear hI; go_simp; try with_reducible rfl)); simp only [Act.put, List.setIfInBounds_toArray, List.set_cons_zero, List.set_cons_succ])
                have hxa := xcrash_any _ X m N w7 (HL.out.x.ts HT7.out) HSM.out HN.out.1 HN.out.2 HOK.out.1
                refine mix_big rfl (fun K hK => ?_)
                go_wp2_with (go_at_call 54; refine hxa.mono ?_; rintro e w8 ⟨v8, rfl, hs8, hn8, hx8, t8⟩; have HX8 := Lib.hid hx8; have HT8 := Lib.hid t8; have HS8 := Lib.hid hs8; have HS78 := Lib.hid (t8.sl HS7.out not_okX_str : TSl w8 _ _); clear hx8 t8 hs8 hn8)
                have HA8 := Lib.hid (act_keep HA7.out HT8.out not_okX_act)
                refine hK _ _ (fun _ => HA8.out) ?_
                clear hK K hxa
                repeat (refine mix_free (v := ?_) rfl ?_ ?_; rotate_left; (focus (intro w' hI; clear hI; go_simp; try with_reducible rfl)); simp only [Act.put, List.setIfInBounds_toArray, List.set_cons_zero, List.set_cons_succ])
                have HTL : Hid ((m.crashT N).length ≤ 16777216) := Lib.hid (crashT_len HL.out.v.u (HL.out.l.le (show 30 + k ≤ 5000 by omega)) N)
                have htx := texts_any _ _ _ w8 (TSl.at_ HS78.out) (TSl.at_ HS8.out) HTL.out
                refine mix_big rfl (fun K hK => ?_)
                go_wp2_with (go_at_call 45; refine htx.mono ?_; rintro e wt ⟨rfl, t9⟩; have HT9 : Hid (Turns nobody w8 wt) := Lib.hid (Turns.drawn (F := nobody) t9); clear t9)
                refine hK _ _ (fun _ => heap_newer HA8.out HT9.out (fun h => h)) ?_
                clear hK K htx
                repeat (refine mix_free (v := ?_) rfl ?_ ?_; rotate_left; (focus (intro w' hI; clear hI; go_simp; try with_reducible rfl)); simp only [Act.put, List.setIfInBounds_toArray, List.set_cons_zero, List.set_cons_succ])
                refine mix_nil ?_
                have HE : Hid (PE w V X (m.crash N) (k + 1) wt) := Lib.hid ((HL.out.both (k' := k + 1) HM7.out HT7.out HX8.out HT8.out HOK.out.2 ((crash_len HL.out.v.u HL.out.l N).le (by omega))).still HT9.out)
                have hal := alike_any _ V X _ wt HE.out.v HE.out.x
                go_wp2_with (go_at_call 57; refine hal.mono ?_; rintro e w9 ⟨rfl, t9⟩; have HE9 := Lib.hid (HE.out.still t9); clear t9)
                clear hal
                go_roundw
                case rel => exact ⟨k + 1, by omega, by omega, by go_num, _, HE9.out⟩
                case measure => simp [intOf]; omega
              · by_cases hK4 : KK = 4
                · subst hK4
                  clear hK0 hK1 hK2 hK3
                  go_upto_region 21 with fail
                  clear e0
                  obtain ⟨KK, hKK⟩ : ∃ KK : Int, KK = 4 := ⟨_, rfl⟩
                  rw [← hKK] at HA
                  clear hKK
                  rcases Nat.lt_or_ge m.no 2147483647 with hno | hno
                  ·
                    have hsn := snap_ok _ V m _ T wl.drew (HL.out.v.still (Turns.refl nobody wl).drew) HSM.out (fun W hW => HTA.out.go (hW.turns (HL.out.t.trans (Turns.refl nobody wl).drew (fun _ h => h.elim)))) (by have := HZ.out.2.1; omega) HZ.out.2.2 hno (HTB.out.still (HL.out.t.trans (Turns.refl nobody wl).drew (fun _ h => h.elim)))
                    have HSN := Lib.hid hsn
                    have HNO := Lib.hid hno
                    clear hsn hno
                    refine wp_region_mix [(0, true, true), (1, true, true), (2, true, true), (4, true, true), (5, true, true), (3, false, true), (6, false, true), (7, true, true), (8, true, true)] (fun W => W.heap[A]? = some (.cells #[.int .i64 KK, .string S, .slice vo T.length vc, .int .i64 N] 89 (0, 0))) (by kernel_rfl) (by kernel_rfl) (HA.out) ?_
                    simp only [picked, List.filterMap_cons, List.filterMap_nil, List.getElem?_toArray, List.getElem?_cons_zero, List.getElem?_cons_succ, Option.map_some]
                    repeat (refine mix_free (v := ?_) rfl ?_ ?_; rotate_left; (focus (intro w' hI; have e2 := cells_of hI 2 _ rfl; clear hI; go_simp; try with_reducible rfl)); simp only [Act.put, List.setIfInBounds_toArray, List.set_cons_zero, List.set_cons_succ])
                    refine mix_big rfl (fun K hK => ?_)
                    go_wp2_with (go_at_call 50; refine HSN.out.mono ?_; rintro e w7 ⟨rfl, hm7, t7⟩; have HM7 := Lib.hid hm7; have HT7 := Lib.hid ((TS.still (ok := okV) (B := w.heap.size) (Turns.refl nobody wl).drew).trans t7); clear hm7 t7)
                    have HA7 := Lib.hid (act_keep HA.out HT7.out not_okV_act)
                    refine hK _ _ (fun _ => HA7.out) ?_
                    clear hK K
                    repeat (refine mix_free (v := ?_) rfl ?_ ?_; rotate_left; (focus (intro w' hI; have e2 := cells_of hI 2 _ rfl; clear hI; go_simp; try with_reducible rfl)); simp only [Act.put, List.setIfInBounds_toArray, List.set_cons_zero, List.set_cons_succ])
                    have hxa := xsnap_ok _ X m _ T w7 (HL.out.x.ts HT7.out) HSM.out (HTA.out.go (HT7.out.turns HL.out.t)) (by have := HZ.out.2.1; omega) HZ.out.2.2 HNO.out (HT7.out.turns HL.out.t).size
                    refine mix_big rfl (fun K hK => ?_)
                    go_wp2_with (go_at_call 55; refine hxa.mono ?_; rintro e w8 ⟨rfl, hx8, t8⟩; have HX8 := Lib.hid hx8; have HT8 := Lib.hid t8; clear hx8 t8)
                    refine hK _ _ (fun _ => act_keep HA7.out HT8.out not_okX_act) ?_
                    clear hK K hxa
                    repeat (refine mix_free (v := ?_) rfl ?_ ?_; rotate_left; (focus (intro w' hI; clear hI; go_simp; try with_reducible rfl)); simp only [Act.put, List.setIfInBounds_toArray, List.set_cons_zero, List.set_cons_succ])
                    refine mix_nil ?_
                    have HE : Hid (PE w V X (m.snp T) (k + 1) w8) := Lib.hid (HL.out.both HM7.out HT7.out HX8.out HT8.out (snp_ok HL.out.v.u HNO.out T) (snp_len HL.out.v.u (HL.out.l.le (by omega)) (by have := HZ.out.2.1; omega)))
                    obtain ⟨wt, hwt⟩ : ∃ wt, wt = w8 := ⟨_, rfl⟩
                    rw [← hwt] at HE ⊢
                    clear hwt
                    have hal := alike_any _ V X _ wt HE.out.v HE.out.x
                    go_wp2_with (go_at_call 57; refine hal.mono ?_; rintro e w9 ⟨rfl, t9⟩; have HE9 := Lib.hid (HE.out.still t9); clear t9)
                    clear hal
                    go_roundw
                    case rel => exact ⟨k + 1, by omega, by omega, by go_num, _, HE9.out⟩
                    case measure => simp [intOf]; omega
                  ·
                    have hsn := snap_bad _ V m _ T wl.drew (HL.out.v.still (Turns.refl nobody wl).drew) (fun W hW => HTA.out.go (hW.turns (HL.out.t.trans (Turns.refl nobody wl).drew (fun _ h => h.elim)))) (by have := HZ.out.2.1; omega) (fun s h => by have := HZ.out.2.2 s h; omega) hno
                    have HSN := Lib.hid hsn
                    have HNO := Lib.hid hno
                    clear hsn hno
                    refine wp_region_mix [(0, true, true), (1, true, true), (2, true, true), (4, true, true), (5, true, true), (3, false, true), (6, false, true), (7, true, true), (8, true, true)] (fun W => W.heap[A]? = some (.cells #[.int .i64 KK, .string S, .slice vo T.length vc, .int .i64 N] 89 (0, 0))) (by kernel_rfl) (by kernel_rfl) (HA.out) ?_
                    simp only [picked, List.filterMap_cons, List.filterMap_nil, List.getElem?_toArray, List.getElem?_cons_zero, List.getElem?_cons_succ, Option.map_some]
                    repeat (refine mix_free (v := ?_) rfl ?_ ?_; rotate_left; (focus (intro w' hI; have e2 := cells_of hI 2 _ rfl; clear hI; go_simp; try with_reducible rfl)); simp only [Act.put, List.setIfInBounds_toArray, List.set_cons_zero, List.set_cons_succ])
                    refine mix_big rfl (fun K hK => ?_)
                    go_wp2_with (go_at_call 50; refine HSN.out.mono ?_; rintro e w7 ⟨rfl, t7⟩; have HT7 := Lib.hid (((Turns.refl nobody wl).drew).trans t7 (fun _ h => h.elim)); clear t7)
                    have HA7 := Lib.hid (heap_newer HA.out HT7.out (fun h => h))
                    refine hK _ _ (fun _ => HA7.out) ?_
                    clear hK K
                    repeat (refine mix_free (v := ?_) rfl ?_ ?_; rotate_left; (focus (intro w' hI; have e2 := cells_of hI 2 _ rfl; clear hI; go_simp; try with_reducible rfl)); simp only [Act.put, List.setIfInBounds_toArray, List.set_cons_zero, List.set_cons_succ])
                    have HL7 := Lib.hid (HL.out.still HT7.out)
                    have hxa := xsnap_bad _ X m _ T w7 HL7.out.x (HTA.out.go HL7.out.t) HNO.out
                    refine mix_big rfl (fun K hK => ?_)
                    go_wp2_with (go_at_call 55; refine hxa.mono ?_; rintro e wt ⟨rfl, t8⟩; have HT8 := Lib.hid t8; have HE := Lib.hid ((HL7.out.still t8).le (Nat.le_succ k)); clear t8)
                    refine hK _ _ (fun _ => heap_newer HA7.out HT8.out (fun h => h)) ?_
                    clear hK K hxa
                    repeat (refine mix_free (v := ?_) rfl ?_ ?_; rotate_left; (focus (intro w' hI; clear hI; go_simp; try with_reducible rfl)); simp only [Act.put, List.setIfInBounds_toArray, List.set_cons_zero, List.set_cons_succ])
                    refine mix_nil ?_
                    have hal := alike_any _ V X _ wt HE.out.v HE.out.x
                    go_wp2_with (go_at_call 57; refine hal.mono ?_; rintro e w9 ⟨rfl, t9⟩; have HE9 := Lib.hid (HE.out.still t9); clear t9)
                    clear hal
                    go_roundw
                    case rel => exact ⟨k + 1, by omega, by omega, by go_num, _, HE9.out⟩
                    case measure => simp [intOf]; omega
                · have b0 : (KK == 0) = false := beq_eq_false_iff_ne.2 hK0
                  have b1 : (KK == 1) = false := beq_eq_false_iff_ne.2 hK1
                  have b2 : (KK == 2) = false := beq_eq_false_iff_ne.2 hK2
                  have b3 : (KK == 3) = false := beq_eq_false_iff_ne.2 hK3
                  have b4 : (KK == 4) = false := beq_eq_false_iff_ne.2 hK4
                  clear hK0 hK1 hK2 hK3 hK4
                  go_upto_region 10 with fail
                  clear e0 b0 b1 b2 b3 b4
                  have e2 := cells_of HA.out 2 _ rfl
                  have e3 := cells_of HA.out 3 _ rfl
                  rcases Nat.lt_or_ge m.no 2147483647 with hno | hno
                  ·
                    have hdi := die_ok _ V m _ T N wl HL.out.v HSM.out (fun W hW => HTA.out.go (hW.turns HL.out.t)) (by have := HZ.out.2.1; omega) HZ.out.2.2 hno HN.out.1 HN.out.2 (HTB.out.still HL.out.t)
                    have HOK := Lib.hid (die_ok' HL.out.v.u HL.out.f HL.out.v.le.1 HL.out.v.le.2 T N)
                    have HNO := Lib.hid hno
                    clear hno
                    go_upto_region 11 with (go_at_call 48; refine hdi.mono ?_; rintro e w7 ⟨v7, rfl, hs7, hn7, hm7, t7⟩; have HS7 := Lib.hid hs7; have HM7 := Lib.hid hm7; have HT7 := Lib.hid t7; clear hs7 hn7 hm7 t7)
                    clear hdi e2 e3
                    have HA7 := Lib.hid (act_keep HA.out HT7.out not_okV_act)
                    have e2 := cells_of HA7.out 2 _ rfl
                    have e3 := cells_of HA7.out 3 _ rfl
                    have hxa := xdie_ok _ X m _ T N w7 (HL.out.x.ts HT7.out) HSM.out (HTA.out.go (HT7.out.turns HL.out.t)) (by have := HZ.out.2.1; omega) HZ.out.2.2 HNO.out HN.out.1 HN.out.2 HOK.out.1 (HT7.out.turns HL.out.t).size
                    go_upto_region 12 with (go_at_call 56; refine hxa.mono ?_; rintro e w8 ⟨v8, rfl, hs8, hn8, hx8, t8⟩; have HX8 := Lib.hid hx8; have HT8 := Lib.hid t8; have HS8 := Lib.hid hs8; have HS78 := Lib.hid (t8.sl HS7.out not_okX_str : TSl w8 _ _); clear hx8 t8 hs8 hn8)
                    clear hxa e2 e3
                    have HTLL : Hid ((m.dieT T N).length ≤ 16777216) := Lib.hid (dieT_len HL.out.v.u (HL.out.l.le (show 30 + k ≤ 5000 by omega)) (by have := HZ.out.2.1; omega) N)
                    have htx := texts_any _ _ _ w8 (TSl.at_ HS78.out) (TSl.at_ HS8.out) HTLL.out
                    go_upto_region 22 with (go_at_call 45; refine htx.mono ?_; rintro e wt ⟨rfl, t9⟩; have HT9 : Hid (Turns nobody w8 wt) := Lib.hid (Turns.drawn (F := nobody) t9); clear t9)
                    clear htx
                    have HE : Hid (PE w V X (m.die T N) (k + 1) wt) := Lib.hid ((HL.out.both (k' := k + 1) HM7.out HT7.out HX8.out HT8.out HOK.out.2 ((die_len HL.out.v.u (HL.out.l.le (show 30 + k ≤ 30 + (k + 1) by omega)) (by have := HZ.out.2.1; omega) N))).still HT9.out)
                    have hal := alike_any _ V X _ wt HE.out.v HE.out.x
                    go_wp2_with (go_at_call 57; refine hal.mono ?_; rintro e w9 ⟨rfl, t9⟩; have HE9 := Lib.hid (HE.out.still t9); clear t9)
                    clear hal
                    go_roundw
                    case rel => exact ⟨k + 1, by omega, by omega, by go_num, _, HE9.out⟩
                    case measure => simp [intOf]; omega
                  ·
                    have hdi := die_bad _ V m _ T N wl HL.out.v (fun W hW => HTA.out.go (hW.turns HL.out.t)) (by have := HZ.out.2.1; omega) (fun s h => by have := HZ.out.2.2 s h; omega) hno
                    have HNO := Lib.hid hno
                    clear hno
                    go_upto_region 11 with (go_at_call 48; refine hdi.mono ?_; rintro e w7 ⟨rfl, t7⟩; have HT7 := Lib.hid t7; have HL7 := Lib.hid (HL.out.still t7); clear t7)
                    clear hdi e2 e3
                    have HA7 := Lib.hid (heap_newer HA.out HT7.out (fun h => h))
                    have e2 := cells_of HA7.out 2 _ rfl
                    have e3 := cells_of HA7.out 3 _ rfl
                    have hxa := xdie_bad _ X m _ T N w7 HL7.out.x (HTA.out.go HL7.out.t) HNO.out
                    go_upto_region 12 with (go_at_call 56; refine hxa.mono ?_; rintro e w8 ⟨rfl, t8⟩; have HL8 := Lib.hid ((HL7.out.still t8).le (Nat.le_succ k)); clear t8)
                    clear hxa e2 e3
                    have htx := texts_any _ _ [] w8 (nil_at w8) (nil_at w8) (by decide)
                    go_upto_region 22 with (go_at_call 45; refine htx.mono ?_; rintro e wt ⟨rfl, t9⟩; have HE := Lib.hid (HL8.out.still (Turns.drawn (F := nobody) t9)); clear t9)
                    clear htx
                    have hal := alike_any _ V X _ wt HE.out.v HE.out.x
                    go_wp2_with (go_at_call 57; refine hal.mono ?_; rintro e w9 ⟨rfl, t9⟩; have HE9 := Lib.hid (HE.out.still t9); clear t9)
                    clear hal
                    go_roundw
                    case rel => exact ⟨k + 1, by omega, by omega, by go_num, _, HE9.out⟩
                    case measure => simp [intOf]; omega
    · have HAW := Lib.hid (awake_any wr ⟨(HTB.out.still HP.out.t).t, Nat.lt_of_lt_of_le HTB.out.lt HP.out.t.size⟩)
      by_cases hj2 : k < len
      · have hj2I : (k : Int) < (len : Int) := by omega
        have hj4 : ¬ (k : Int) < 30 := by omega
        clear hlt hj2
        go_wp2_with (go_at_call 46; refine HAW.out.mono ?_; rintro e w9 ⟨rfl, t9⟩; have HT9 := Lib.hid (HP.out.t.trans t9 (fun _ h => h.elim)); clear t9)
        go_ret
        exact ⟨rfl, HT9.out⟩
      · have hj2I : ¬ (k : Int) < (len : Int) := by omega
        clear hlt hj2
        go_wp2_with (go_at_call 46; refine HAW.out.mono ?_; rintro e w9 ⟨rfl, t9⟩; have HT9 := Lib.hid (HP.out.t.trans t9 (fun _ h => h.elim)); clear t9)
        go_ret
        exact ⟨rfl, HT9.out⟩
end Go.Proofs.YtlhcmgjkhkcgcaaDoor.vault
