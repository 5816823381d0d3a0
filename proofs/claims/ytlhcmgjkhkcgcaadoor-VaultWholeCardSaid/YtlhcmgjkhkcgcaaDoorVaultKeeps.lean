/- VaultKeeps. -/
import Derived.Test.YtlhcmgjkhkcgcaaDoorVaultProg
namespace Go.Proofs.YtlhcmgjkhkcgcaaDoor.vault
open Go.RowKit
open Go.Proofs.YtlhcmgjkhkcgcaaDoor.stepkit Go.Proofs.YtlhcmgjkhkcgcaaDoor.obj Go.Proofs.YtlhcmgjkhkcgcaaDoor.row Go.Proofs.YtlhcmgjkhkcgcaaDoor.mix Go.Proofs.YtlhcmgjkhkcgcaaDoor.idkit Go.Proofs.YtlhcmgjkhkcgcaaDoor.bytes Go.Proofs.YtlhcmgjkhkcgcaaDoor.octet Go.Proofs.YtlhcmgjkhkcgcaaDoor.eqkit Go.Proofs.YtlhcmgjkhkcgcaaDoor.record Go.Proofs.YtlhcmgjkhkcgcaaDoor.argkit
open Go.Proofs.YtlhcmgjkhkcgcaaDoor.journal (JAt two NoBytes turns_one block_keep block_still block_lt at_store BIn)
open Go.Proofs.YtlhcmgjkhkcgcaaDoor.block (BlockAt keepOf keepOf_le keepOf_ge keepOf_all)

/-! ### Plain -/
/-- The first file: a beginning, and texts. -/
def KM (A : List ByteArray) (s : Nat) : M := ⟨genR 0 :: sealR :: A.map entR, 2 + s, [], 0, 0, 0⟩
theorem KM_app (A : List ByteArray) (s : Nat) (t : ByteArray) : (KM A s).app t = KM (A ++ [t]) s := by
  show (⟨(genR 0 :: sealR :: A.map entR) ++ [entR t], 2 + s, [], 0, 0, 0⟩ : M) = _
  unfold KM
  rw [List.map_append]
  rfl
theorem KM_len (A : List ByteArray) (s : Nat) : (KM A s).L0.length = 2 + A.length := by
  show (A.map entR).length + 1 + 1 = _
  rw [List.length_map]; omega
theorem KM_sync (A : List ByteArray) (s : Nat) : (KM A s).sync = KM A A.length := by
  show (⟨genR 0 :: sealR :: A.map entR, (KM A s).L0.length, [], 0, 0, 0⟩ : M) = _
  rw [KM_len]
  rfl
theorem KM_small {A : List ByteArray} {s : Nat} (h : A.length ≤ 4000) : small (KM A s) := ⟨by rw [KM_len]; omega, by show 0 ≤ 5000; omega⟩
theorem KM_take (A : List ByteArray) (k : Nat) : (genR 0 :: sealR :: A.map entR).take (2 + k) = genR 0 :: sealR :: (A.take k).map entR := by
  rw [show 2 + k = k + 1 + 1 by omega, List.take_succ_cons, List.take_succ_cons, List.map_take]
theorem KM_crash {A : List ByteArray} {s : Nat} (hs : s ≤ A.length) (hsz : endOf (KM A s).L0 (2 + s) ≤ (cat (KM A s).L0).length) (n : Int) : ∃ k, s ≤ k ∧ k ≤ A.length ∧ (KM A s).crash n = KM (A.take k) k ∧ (KM A s).crashT n = A.take k := by
  obtain ⟨j, h1, h2, h3⟩ := leftOf_ge (L := (KM A s).L0) (n := 2 + s) (by rw [KM_len]; omega) hsz n
  rw [KM_len] at h2
  obtain ⟨k, rfl⟩ : ∃ k, j = 2 + k := ⟨j - 2, by omega⟩
  have h4 : leftOf (KM A s).L0 (2 + s) n = genR 0 :: sealR :: (A.take k).map entR := by rw [h3]; exact KM_take A k
  refine ⟨k, by omega, by omega, ?_, ?_⟩
  · show M.load (KM A s) (leftOf (KM A s).L0 (2 + s) n) [] = _
    rw [h4]
    unfold M.load useOf noOf
    rw [numOf_new, numOf_nil]
    have : (genR 0 :: sealR :: (A.take k).map entR).length = 2 + k := by
      show ((A.take k).map entR).length + 1 + 1 = _
      rw [List.length_map, List.length_take]; omega
    rw [this]
    rfl
  · show loadT (leftOf (KM A s).L0 (2 + s) n) [] = _
    rw [h4]
    unfold loadT
    rw [numOf_new, numOf_nil, heldOf_new, heldOf_ents]
    rfl
theorem end_le (L : List RV) (n : Nat) (h : n ≤ L.length) : endOf L n ≤ (cat L).length := by
  have := endOf_le L n L.length h
  rw [endOf_all] at this
  exact this

/-! ### Texts that came in -/
theorem tat_row {w : World} {ao : Option Addr} {l : List ByteArray} {cap : Nat} (h : RowAt w w.heap.size ao (l.map Value.string)) : TAt w (.slice ao l.length cap) l := by
  refine ⟨ao, cap, rfl, fun i hi => ?_⟩
  obtain ⟨b, o, h1, h2, h3⟩ := h (by rw [List.length_map]; omega)
  refine ⟨b, o, h1, ?_⟩
  rw [h3 i (by rw [List.length_map]; exact hi)]
  simp [List.getD, hi]
theorem TAt.turns {w w' : World} {v : Value} {l : List ByteArray} (h : TAt w v l) (ht : Turns nobody w w') : TAt w' v l := by
  obtain ⟨ao, cap, rfl, hc⟩ := h
  refine ⟨ao, cap, rfl, fun i hi => ?_⟩
  obtain ⟨b, o, h1, h2⟩ := hc i hi
  exact ⟨b, o, h1, (ht.cell (p := ⟨b, _, none⟩) (lt_of_cell' h2) (fun h => h)).trans h2⟩

/-! ### Strings' blocks turned -/
def okS (T : TypeId) : Prop := T = 9
theorem TS.str {B : Nat} {w w' : World} {v : Value} {n : Nat} {xs : List Value} (h : Sl w 9 1 v n xs) (hn : ∀ i, blk v i → B ≤ i) (ht : Turns (blk v) w w') : TS okS B w w' :=
  ⟨_, ht, fun i hi => by
    obtain ⟨c, hc⟩ := Sl.elem h i hi
    exact ⟨hn i hi, c, _, hc, rfl⟩⟩
theorem BlockAt.tss {B : Nat} {w w' : World} {q : Nat} {l : List UInt8} {sb : Nat} (h : BlockAt w q l sb) (ht : TS okS B w w') : BlockAt w' q l sb := by
  obtain ⟨F, h1, h2⟩ := ht.out
  refine block_keep h h1 (fun hf => ?_) (fun i hi cur hc => ?_)
  · obtain ⟨-, c, U, h3, h4⟩ := h2 q hf
    obtain ⟨_, v, h5, _⟩ := h
    rw [h5] at h3
    simp at h3
    have h6 : U = 9 := h4
    rw [h6] at h3
    exact absurd h3.2 (by decide)
  · obtain ⟨-, c, U, h3, h4⟩ := h2 i hi
    rw [hc] at h3
    simp at h3
    have h6 : U = 9 := h4
    rw [h6] at h3
    exact absurd h3.2 (by decide)
theorem VM.tss {w w' : World} {B V : Nat} {m : M} (hm : VM w B V m) (ht : TS okS B w w') : VM w' B V m := by
  obtain ⟨⟨q0, q1, p0, p1, h⟩, hu⟩ := hm
  exact ⟨⟨q0, q1, p0, p1, ⟨ht.heap h.h (by unfold okS; decide), ⟨ht.heap h.j0.h (by unfold okS; decide), BlockAt.tss h.j0.b ht⟩, ⟨ht.heap h.j1.h (by unfold okS; decide), BlockAt.tss h.j1.b ht⟩, h.g0, h.g1, h.s0, h.s1, h.ne, h.bV, h.bq0, h.bq1, h.bp0, h.bp1⟩⟩, hu⟩

structure KV (w0 : World) (V : Nat) (A : List ByteArray) (s : Nat) (v : Value) (W : World) : Prop where
  m : VM W w0.heap.size V (KM A s)
  hs : s ≤ A.length
  sl : TSl W v A
  nv : ∀ i, blk v i → w0.heap.size ≤ i
  tt : Turns nobody w0 W
theorem KV.ts {w0 : World} {V : Nat} {A : List ByteArray} {s s' : Nat} {v : Value} {W W' : World} (h : KV w0 V A s v W) (hm : VM W' w0.heap.size V (KM A s')) (hs : s' ≤ A.length) (ht : TS okV w0.heap.size W W') : KV w0 V A s' v W' :=
  ⟨hm, hs, ht.sl h.sl not_okV_str, h.nv, ht.turns h.tt⟩

theorem sizeStr1 : (Tryd.prog.info? 9).map (·.size) = some 1 := by kernel_rfl
set_option maxRecDepth 20000 in
set_option maxHeartbeats 8000000 in
theorem keeps_any (ao : Option Addr) (l : List ByteArray) (ca : Nat) (bo : Option Addr) (bl : List Bool) (cb : Nat) (n : Int) (w : World) (hn1 : -9223372036854775808 ≤ n) (hn2 : n ≤ 9223372036854775807) (hin : TAt w (.slice ao l.length ca) l) (hbin : BIn w w.heap.size bo bl) (ht : TabB w.heap.size w) :
    Calls Tryd.prog 11 #[.slice ao l.length ca, .slice bo bl.length cb, .int .i64 n] w fun e w' => e = .returned (.bool true) ∧ Turns nobody w w' := by
  obtain ⟨i1, hi1, hz10, hz11, hz12⟩ := info_parts infoStr1
  have hnew := new_any w ht
  have HIN := Lib.hid hin
  have HBI := Lib.hid hbin
  have HTB := Lib.hid ht
  have HN := Lib.hid (And.intro hn1 hn2)
  clear hin hbin ht hn1 hn2
  go_enter Tryd.func11, Tryd.ntmps11
  go_upto_region 5 with (go_at_call 41; refine hnew.mono ?_; rintro e w1 ⟨V, rfl, hm1, ts1⟩; have HK0 : Hid (KV w V [] 0 (.slice none 0 0) w1) := Lib.hid ⟨hm1, Nat.le_refl _, Sl.nil _ _ _, (fun i h => by cases h), ts1.turns (Turns.refl _ _)⟩; clear hm1 ts1)
  clear hnew
  go_loopw [8, 9, 10] (fun u x k wr => ∃ i : Nat, i ≤ l.length ∧ i ≤ 30 ∧ k = .int .i64 i ∧ ∃ A s v, u = v ∧ x = .int .i64 (s : Nat) ∧ A.length ≤ i ∧ KV w V A s v wr) (fun u x k wr => 30 - (intOf k).toNat)
  case atStart => exact ⟨0, Nat.zero_le _, Nat.zero_le _, rfl, [], 0, _, rfl, rfl, Nat.zero_le _, HK0.out⟩
  case round =>
    obtain ⟨i, hil, hi40, rfl, A, s, v, rfl, rfl, hLi, hk⟩ := hrel
    have HKA := Lib.hid (And.intro hk hLi)
    clear hk hLi HK0
    by_cases hlt : i < l.length ∧ i < 30
    · obtain ⟨h1, h2⟩ := hlt
      obtain ⟨vo, vc, rfl, -⟩ := Sl.shape HKA.out.1.sl
      obtain ⟨ao', ca', hv, hc⟩ := HIN.out.turns HKA.out.1.tt
      cases hv
      obtain ⟨b0, o0, rfl, c0⟩ := hc i h1
      obtain ⟨r, hr⟩ : ∃ r, l.getD i nil = r := ⟨_, rfl⟩
      rw [hr] at c0
      clear hc
      have h1I : (i : Int) < (l.length : Int) := by omega
      have h2I : (i : Int) < 30 := by omega
      by_cases hs3 : r.size < 300
      · have hs3I : (r.size : Int) < 300 := by omega
        have hap := append_any _ V _ r wr HKA.out.1.m (KM_small (by have := HKA.out.2; omega)) (by omega) (HTB.out.still HKA.out.1.tt)
        rw [KM_app] at hap
        go_upto_region 8 with (go_at_call 42; refine hap.mono ?_; rintro e w3 ⟨rfl, hm3, t3⟩; have HM3 := Lib.hid hm3; have HT3 := Lib.hid t3; clear hm3 t3)
        have HSP : Hid (∀ o, Sl (w3.alloc o) 9 1 (.slice vo A.length vc) A.length (tcells A)) := Lib.hid (fun o => Sl.keep (HT3.out.sl HKA.out.1.sl not_okV_str) ((Turns.refl nobody _).alloc o) (fun _ _ h => h))
        have htt3 : Turns nobody w w3 := HT3.out.turns HKA.out.1.tt
        obtain ⟨ao', ca', hv, hc⟩ := HIN.out.turns htt3
        cases hv
        obtain ⟨b0', o0', hb0, d0⟩ := hc i h1
        cases hb0
        rw [hr] at d0
        have HTT3 := Lib.hid htt3
        have hLb : A.length ≤ 30 := by have := HKA.out.2; omega
        clear hc htt3 c0 hap
        go_upto_region 9 with (at_builtin; refine wpList_append_sl (n := A.length) (m := 1) rfl _ _ 81 rfl Tryd.underlying81 hi1 hz10 hz11 hz12 rfl (by decide) rfl rfl (HSP.out (.cells #[.string r] 9)) (src_str (s := r) (heap_alloc_new _ _)) (by unfold maxLen; omega) (by omega) ?_; intro v5 wt h5 t5 n5 _; have H5 := Lib.hid h5; have T5 := Lib.hid t5; have N5 := Lib.hid n5; clear h5 t5 n5; obtain ⟨ap5, cp5, rfl, -⟩ := H5.out.shape)
        obtain ⟨A', hA'⟩ : ∃ A', A ++ [r] = A' := ⟨_, rfl⟩
        have hll : A'.length = A.length + 1 := by rw [← hA', List.length_append]; rfl
        have HK : Hid (KV w V A' s (.slice ap5 (A.length + 1) cp5) wt ∧ A'.length ≤ i + 1) := Lib.hid (by
          have hal : Turns nobody w3 (w3.alloc (.cells #[.string r] 9)) := (Turns.refl _ _).alloc _
          have hta := HTT3.out.trans hal (fun _ h => h.elim)
          have hm := (HM3.out.still hal).tss (TS.str (HSP.out (.cells #[.string r] 9)) HKA.out.1.nv T5.out)
          rw [hA'] at hm
          refine ⟨⟨hm, by have := HKA.out.1.hs; omega, ?_, ?_, hta.trans2 T5.out (fun b hb => HKA.out.1.nv b hb)⟩, by have := HKA.out.2; omega⟩
          · have h5 := H5.out
            unfold TSl
            rw [← hA', List.length_append, List.length_singleton, tcells_append]
            exact h5
          · intro b hb
            rcases N5.out b hb with h | h
            · exact HKA.out.1.nv b h
            · exact Nat.le_trans hta.size h)
        rw [← hll] at HK ⊢
        clear hA' hll d0 HSP HM3 HT3 H5 T5 N5 HKA HTT3 hLb hr
        have hsI : (i : Int) < 30 := by omega
        by_cases hb1 : i < bl.length
        · obtain ⟨b1, o1, hb1a, b0⟩ := HBI.out.at_ HK.out.1.tt (Nat.le_refl _) i hb1
          subst hb1a
          have hb1I : (i : Int) < (bl.length : Int) := by omega
          obtain ⟨y, hy⟩ : ∃ y, bl.getD i false = y := ⟨_, rfl⟩
          rw [hy] at b0
          clear hy
          cases y with
          | false =>
            have HK2 := HK
            clear HK
            go_wp2
            go_roundw
            case rel => exact ⟨i + 1, by omega, by omega, by go_num, _, _, _, rfl, rfl, by have := HK2.out.2; omega, HK2.out.1⟩
            case measure => simp [intOf]; omega
          | true =>
            have hsy := sync_any _ V _ wt HK.out.1.m (KM_small (by have := HK.out.2; omega))
            rw [KM_sync] at hsy
            go_wp2_with (go_at_call 43; refine hsy.mono ?_; rintro e w9 ⟨rfl, hm9, t9⟩; have HK2 := Lib.hid (And.intro (HK.out.1.ts hm9 (Nat.le_refl _) t9) HK.out.2); clear hm9 t9)
            clear hsy HK
            go_roundw
            case rel => exact ⟨i + 1, by omega, by omega, by go_num, _, _, _, rfl, rfl, by have := HK2.out.2; omega, HK2.out.1⟩
            case measure => simp [intOf]; omega
        · have hb1I : ¬ (i : Int) < (bl.length : Int) := by omega
          have HK2 := HK
          clear HK
          go_wp2
          go_roundw
          case rel => exact ⟨i + 1, by omega, by omega, by go_num, _, _, _, rfl, rfl, by have := HK2.out.2; omega, HK2.out.1⟩
          case measure => simp [intOf]; omega
      · have hs3I : ¬ (r.size : Int) < 300 := by omega
        obtain ⟨A', hA'⟩ : ∃ A', A = A' := ⟨_, rfl⟩
        have HK : Hid (KV w V A' s (.slice vo A'.length vc) wr ∧ A'.length ≤ i + 1) := Lib.hid (by rw [← hA']; exact ⟨HKA.out.1, by have := HKA.out.2; omega⟩)
        rw [hA']
        obtain ⟨wt, hwt⟩ : ∃ x, x = wr := ⟨_, rfl⟩
        go_upto_region 9 with fail
        rw [← hwt] at HK ⊢
        clear hwt c0 HKA hr hA'
        have hsI : (i : Int) < 30 := by omega
        by_cases hb1 : i < bl.length
        · obtain ⟨b1, o1, hb1a, b0⟩ := HBI.out.at_ HK.out.1.tt (Nat.le_refl _) i hb1
          subst hb1a
          have hb1I : (i : Int) < (bl.length : Int) := by omega
          obtain ⟨y, hy⟩ : ∃ y, bl.getD i false = y := ⟨_, rfl⟩
          rw [hy] at b0
          clear hy
          cases y with
          | false =>
            have HK2 := HK
            clear HK
            go_wp2
            go_roundw
            case rel => exact ⟨i + 1, by omega, by omega, by go_num, _, _, _, rfl, rfl, by have := HK2.out.2; omega, HK2.out.1⟩
            case measure => simp [intOf]; omega
          | true =>
            have hsy := sync_any _ V _ wt HK.out.1.m (KM_small (by have := HK.out.2; omega))
            rw [KM_sync] at hsy
            go_wp2_with (go_at_call 43; refine hsy.mono ?_; rintro e w9 ⟨rfl, hm9, t9⟩; have HK2 := Lib.hid (And.intro (HK.out.1.ts hm9 (Nat.le_refl _) t9) HK.out.2); clear hm9 t9)
            clear hsy HK
            go_roundw
            case rel => exact ⟨i + 1, by omega, by omega, by go_num, _, _, _, rfl, rfl, by have := HK2.out.2; omega, HK2.out.1⟩
            case measure => simp [intOf]; omega
        · have hb1I : ¬ (i : Int) < (bl.length : Int) := by omega
          have HK2 := HK
          clear HK
          go_wp2
          go_roundw
          case rel => exact ⟨i + 1, by omega, by omega, by go_num, _, _, _, rfl, rfl, by have := HK2.out.2; omega, HK2.out.1⟩
          case measure => simp [intOf]; omega
    · obtain ⟨vo, vc, rfl, hvc, -⟩ := Sl.shape HKA.out.1.sl
      have hLb : A.length ≤ 30 := by have := HKA.out.2; omega
      have hcr := crash_any _ V _ n wr HKA.out.1.m (KM_small (by omega)) HN.out.1 HN.out.2 (HTB.out.still HKA.out.1.tt)
      obtain ⟨k, hka, hkb, hkc, hkd⟩ := KM_crash HKA.out.1.hs (end_le _ _ (by rw [KM_len]; have := HKA.out.1.hs; omega)) n
      have HC := Lib.hid (And.intro hka (And.intro hkb (And.intro hkc hkd)))
      have HVC := Lib.hid hvc
      clear hka hkb hkc hkd hvc
      by_cases hj2 : i < l.length
      · have hj2I : (i : Int) < (l.length : Int) := by omega
        have hj4 : ¬ (i : Int) < 30 := by omega
        clear hlt hj2
        go_upto_region 13 with (go_at_call 44; refine hcr.mono ?_; rintro e w3 ⟨v3, rfl, hs3, hn3, hm3, t3⟩; rw [HC.out.2.2.1] at hm3; rw [HC.out.2.2.2] at hs3; have HM3 := Lib.hid hm3; have HS3 := Lib.hid hs3; have HA3 := Lib.hid (t3.sl HKA.out.1.sl not_okV_str); have HT3 := Lib.hid (t3.turns HKA.out.1.tt); clear hs3 hn3 hm3 t3)
        clear hcr
        obtain ⟨yo, yc, rfl, -⟩ := Sl.shape HS3.out
        have htl : (A.take k).length = k := by rw [List.length_take]; have := HC.out.2.1; omega
        have HTL := Lib.hid htl
        have hS3' : TSl w3 (.slice yo k yc) (A.take k) := by have h := HS3.out; rw [htl] at h; exact h
        have HS3' := Lib.hid hS3'
        rw [htl]
        have hj1 : ¬ (k : Int) < (s : Int) := by have := HC.out.1; omega
        have hj3 : ¬ (A.length : Int) < (k : Int) := by have := HC.out.2.1; omega
        obtain ⟨a1, ha1⟩ : ∃ a1, Go.sliced vo 0 k vc 1 = a1 := ⟨_, rfl⟩
        have hcut : TSl w3 a1 (A.take k) := by
          have h1 := Sl.sliced HA3.out 0 k vc (Nat.zero_le _) HC.out.2.1 (by have := HVC.out; omega) (Nat.le_refl _)
          rw [ha1] at h1
          unfold TSl
          rw [htl]
          have h2 : tcells (A.take k) = (tcells A).take k := by unfold tcells; rw [List.map_take]
          rw [h2]
          simpa using h1
        have hsm := texts_any (.slice yo k yc) a1 (A.take k) w3 hS3'.at_ hcut.at_ (by rw [htl]; have := HC.out.2.1; omega)
        have hjv : k ≤ vc := by have := HC.out.2.1; have := HVC.out; omega
        have HJV := Lib.hid hjv
        clear htl hjv hS3' hcut
        go_upto_region 15 with first
          | (refine wpList_exec (exec_cut_h Tryd.underlying81 sizeStr1 _ _ rfl rfl rfl HJV.out ha1) rfl ?_)
          | (go_at_call 45; refine hsm.mono ?_; rintro e w4 ⟨rfl, t4⟩; have HT4 : Hid (Turns nobody w3 w4) := Lib.hid (Turns.drawn t4); clear t4)
        have hm4 := HM3.out.still HT4.out
        obtain ⟨k2, hk2a, hk2b, hk2c, hk2d⟩ := KM_crash (A := A.take k) (s := k) (by rw [HTL.out]; exact Nat.le_refl _) (end_le _ _ (by rw [KM_len, HTL.out]; exact Nat.le_refl _)) n
        rw [HTL.out] at hk2b
        obtain rfl : k2 = k := by omega
        rw [List.take_take, Nat.min_self] at hk2c hk2d
        have HC2 := Lib.hid (And.intro hk2c hk2d)
        have hcr2 := crash_any _ V _ n w4 hm4 (KM_small (by rw [HTL.out]; have := HC.out.2.1; omega)) HN.out.1 HN.out.2 (HTB.out.still (HT3.out.trans HT4.out (fun _ h => h.elim)))
        have HS4 := Lib.hid (Sl.keep HS3'.out HT4.out (fun _ _ h => h) : TSl w4 _ _)
        clear hm4 hk2a hk2b hk2c hk2d hsm ha1 hj1 hj3
        go_wp2_with first
          | (go_at_call 44; refine hcr2.mono ?_; rintro e w5 ⟨v5, rfl, hs5, hn5, hm5, t5⟩; rw [HC2.out.2] at hs5; have HS5 := Lib.hid hs5; have HS6 : Hid (TSl w5 _ _) := Lib.hid (t5.sl HS4.out not_okV_str); have HT5 := Lib.hid (t5.turns (HT3.out.trans HT4.out (fun _ h => h.elim))); clear hs5 hn5 hm5 t5)
          | (go_at_call 45; refine (texts_any _ _ (A.take k2) _ (TSl.at_ HS5.out) (TSl.at_ HS6.out) (by rw [HTL.out]; have := HC.out.2.1; omega)).mono ?_; rintro e w6 ⟨rfl, t6⟩; have HT6 : Hid (Turns nobody w w6) := Lib.hid (HT5.out.trans (Turns.drawn (F := nobody) t6) (fun _ h => h.elim)); clear t6)
          | (go_at_call 46; refine (awake_any _ ⟨(HTB.out.still HT6.out).t, Nat.lt_of_lt_of_le HTB.out.lt HT6.out.size⟩).mono ?_; rintro e w9 ⟨rfl, t9⟩; have HT9 := Lib.hid (HT6.out.trans t9 (fun _ h => h.elim)); clear t9)
        go_ret
        exact ⟨rfl, HT9.out⟩
      · have hj2I : ¬ (i : Int) < (l.length : Int) := by omega
        clear hlt hj2
        go_upto_region 13 with (go_at_call 44; refine hcr.mono ?_; rintro e w3 ⟨v3, rfl, hs3, hn3, hm3, t3⟩; rw [HC.out.2.2.1] at hm3; rw [HC.out.2.2.2] at hs3; have HM3 := Lib.hid hm3; have HS3 := Lib.hid hs3; have HA3 := Lib.hid (t3.sl HKA.out.1.sl not_okV_str); have HT3 := Lib.hid (t3.turns HKA.out.1.tt); clear hs3 hn3 hm3 t3)
        clear hcr
        obtain ⟨yo, yc, rfl, -⟩ := Sl.shape HS3.out
        have htl : (A.take k).length = k := by rw [List.length_take]; have := HC.out.2.1; omega
        have HTL := Lib.hid htl
        have hS3' : TSl w3 (.slice yo k yc) (A.take k) := by have h := HS3.out; rw [htl] at h; exact h
        have HS3' := Lib.hid hS3'
        rw [htl]
        have hj1 : ¬ (k : Int) < (s : Int) := by have := HC.out.1; omega
        have hj3 : ¬ (A.length : Int) < (k : Int) := by have := HC.out.2.1; omega
        obtain ⟨a1, ha1⟩ : ∃ a1, Go.sliced vo 0 k vc 1 = a1 := ⟨_, rfl⟩
        have hcut : TSl w3 a1 (A.take k) := by
          have h1 := Sl.sliced HA3.out 0 k vc (Nat.zero_le _) HC.out.2.1 (by have := HVC.out; omega) (Nat.le_refl _)
          rw [ha1] at h1
          unfold TSl
          rw [htl]
          have h2 : tcells (A.take k) = (tcells A).take k := by unfold tcells; rw [List.map_take]
          rw [h2]
          simpa using h1
        have hsm := texts_any (.slice yo k yc) a1 (A.take k) w3 hS3'.at_ hcut.at_ (by rw [htl]; have := HC.out.2.1; omega)
        have hjv : k ≤ vc := by have := HC.out.2.1; have := HVC.out; omega
        have HJV := Lib.hid hjv
        clear htl hjv hS3' hcut
        go_upto_region 15 with first
          | (refine wpList_exec (exec_cut_h Tryd.underlying81 sizeStr1 _ _ rfl rfl rfl HJV.out ha1) rfl ?_)
          | (go_at_call 45; refine hsm.mono ?_; rintro e w4 ⟨rfl, t4⟩; have HT4 : Hid (Turns nobody w3 w4) := Lib.hid (Turns.drawn t4); clear t4)
        have hm4 := HM3.out.still HT4.out
        obtain ⟨k2, hk2a, hk2b, hk2c, hk2d⟩ := KM_crash (A := A.take k) (s := k) (by rw [HTL.out]; exact Nat.le_refl _) (end_le _ _ (by rw [KM_len, HTL.out]; exact Nat.le_refl _)) n
        rw [HTL.out] at hk2b
        obtain rfl : k2 = k := by omega
        rw [List.take_take, Nat.min_self] at hk2c hk2d
        have HC2 := Lib.hid (And.intro hk2c hk2d)
        have hcr2 := crash_any _ V _ n w4 hm4 (KM_small (by rw [HTL.out]; have := HC.out.2.1; omega)) HN.out.1 HN.out.2 (HTB.out.still (HT3.out.trans HT4.out (fun _ h => h.elim)))
        have HS4 := Lib.hid (Sl.keep HS3'.out HT4.out (fun _ _ h => h) : TSl w4 _ _)
        clear hm4 hk2a hk2b hk2c hk2d hsm ha1 hj1 hj3
        go_wp2_with first
          | (go_at_call 44; refine hcr2.mono ?_; rintro e w5 ⟨v5, rfl, hs5, hn5, hm5, t5⟩; rw [HC2.out.2] at hs5; have HS5 := Lib.hid hs5; have HS6 : Hid (TSl w5 _ _) := Lib.hid (t5.sl HS4.out not_okV_str); have HT5 := Lib.hid (t5.turns (HT3.out.trans HT4.out (fun _ h => h.elim))); clear hs5 hn5 hm5 t5)
          | (go_at_call 45; refine (texts_any _ _ (A.take k2) _ (TSl.at_ HS5.out) (TSl.at_ HS6.out) (by rw [HTL.out]; have := HC.out.2.1; omega)).mono ?_; rintro e w6 ⟨rfl, t6⟩; have HT6 : Hid (Turns nobody w w6) := Lib.hid (HT5.out.trans (Turns.drawn (F := nobody) t6) (fun _ h => h.elim)); clear t6)
          | (go_at_call 46; refine (awake_any _ ⟨(HTB.out.still HT6.out).t, Nat.lt_of_lt_of_le HTB.out.lt HT6.out.size⟩).mono ?_; rintro e w9 ⟨rfl, t9⟩; have HT9 := Lib.hid (HT6.out.trans t9 (fun _ h => h.elim)); clear t9)
        go_ret
        exact ⟨rfl, HT9.out⟩
end Go.Proofs.YtlhcmgjkhkcgcaaDoor.vault
