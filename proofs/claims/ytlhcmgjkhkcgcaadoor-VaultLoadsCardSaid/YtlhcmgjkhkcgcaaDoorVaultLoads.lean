/- VaultLoads. -/
import Derived.Test.YtlhcmgjkhkcgcaaDoorVaultDoc
namespace Go.Proofs.YtlhcmgjkhkcgcaaDoor.vault
open Go.RowKit
open Go.Proofs.YtlhcmgjkhkcgcaaDoor.stepkit Go.Proofs.YtlhcmgjkhkcgcaaDoor.obj Go.Proofs.YtlhcmgjkhkcgcaaDoor.row Go.Proofs.YtlhcmgjkhkcgcaaDoor.mix Go.Proofs.YtlhcmgjkhkcgcaaDoor.idkit Go.Proofs.YtlhcmgjkhkcgcaaDoor.bytes Go.Proofs.YtlhcmgjkhkcgcaaDoor.octet Go.Proofs.YtlhcmgjkhkcgcaaDoor.eqkit Go.Proofs.YtlhcmgjkhkcgcaaDoor.record Go.Proofs.YtlhcmgjkhkcgcaaDoor.argkit
open Go.Proofs.YtlhcmgjkhkcgcaaDoor.journal (RJ Outs get_set get_other at_store sl_not)
open Go.Proofs.YtlhcmgjkhkcgcaaDoor.block (keepOf keepOf_le keepOf_ge keepOf_all)

theorem tat_row' {w : World} {ao : Option Addr} {l : List ByteArray} {cap : Nat} (h : RowAt w w.heap.size ao (l.map Value.string)) : TAt w (.slice ao l.length cap) l := by
  refine ⟨ao, cap, rfl, fun i hi => ?_⟩
  obtain ⟨b, o, h1, h2, h3⟩ := h (by rw [List.length_map]; omega)
  refine ⟨b, o, h1, ?_⟩
  rw [h3 i (by rw [List.length_map]; exact hi)]
  simp [List.getD, hi]
theorem TAt.go {w w' : World} {v : Value} {l : List ByteArray} (h : TAt w v l) (ht : Turns nobody w w') : TAt w' v l := tat_turns h ht

/-! ### Side by side -/
structure PE (w0 : World) (V X : Nat) (m : M) (k : Nat) (W : World) : Prop where
  v : VM W w0.heap.size V m
  x : XM W w0.heap.size X m
  t : Turns nobody w0 W
  f : Fine m
  l : Len m (30 + k)
theorem PE.still {w0 : World} {V X : Nat} {m : M} {k : Nat} {W W' : World} (h : PE w0 V X m k W) (ht : Turns nobody W W') : PE w0 V X m k W' := ⟨h.v.still ht, h.x.still ht, h.t.trans ht (fun _ h => h.elim), h.f, h.l⟩
theorem PE.le {w0 : World} {V X : Nat} {m : M} {k k' : Nat} {W : World} (h : PE w0 V X m k W) (hk : k ≤ k') : PE w0 V X m k' W := ⟨h.v, h.x, h.t, h.f, h.l.le (by omega)⟩
/-- Both have turned. -/
theorem PE.both {w0 : World} {V X : Nat} {m m' : M} {k k' : Nat} {W W1 W2 : World} (h : PE w0 V X m k W) (hv : VM W1 w0.heap.size V m') (t1 : TS okV w0.heap.size W W1) (hx : XM W2 w0.heap.size X m') (t2 : TS okX w0.heap.size W1 W2) (hf : Fine m') (hl : Len m' (30 + k')) : PE w0 V X m' k' W2 :=
  ⟨hv.tsx t2, hx, t2.turns (t1.turns h.t), hf, hl⟩
theorem not_okX_str : ¬ okX 9 := by unfold okX; decide
theorem dieT_len {m : M} (hu : m.u = 0 ∨ m.u = 1) (h : Len m 5000) {T : List ByteArray} (hT : T.length ≤ 100) (k : Int) : (m.dieT T k).length ≤ 16777216 := by
  obtain ⟨L0, n0, L1, n1, u, no⟩ := m
  have h0 := h.1
  have h1 := h.2
  simp only at hu h0 h1
  have h2 := left_len (snap (no + 1) T) 0 k
  rw [snap_len] at h2
  rcases hu with rfl | rfl
  · show (loadT L0 (leftOf (snap (no + 1) T) 0 k)).length ≤ _
    have := heldOf_len (leftOf (snap (no + 1) T) 0 k)
    have := heldOf_len L0
    unfold loadT
    split
    · omega
    · split
      · omega
      · simp
  · show (loadT (leftOf (snap (no + 1) T) 0 k) L1).length ≤ _
    have := heldOf_len (leftOf (snap (no + 1) T) 0 k)
    have := heldOf_len L1
    unfold loadT
    split
    · omega
    · split
      · omega
      · simp
theorem nil_at (w : World) : TAt w (.slice none 0 0) [] := ⟨none, 0, rfl, fun i hi => absurd hi (Nat.not_lt_zero i)⟩
theorem build_actL (ao : Option Addr) (n c : Nat) (W : World) : (Instr.build 89 #[(2, .slice ao n c)]).run Tryd.prog W = .ok (.agg #[.int .i64 0, .string nil, .slice ao n c, .int .i64 0]) W := by kernel_rfl
theorem done_len {s : ByteArray} {k E : Nat} (hD : Done s k E) : (recs s k).length ≤ s.size := by rw [recs_len]; exact Ok.bound hD.1
/-- No file is whole. -/
def NoneWhole (a b : ByteArray) : Prop := ∃ k0 E0 k1 E1, Done a k0 E0 ∧ Done b k1 E1 ∧ pick (numOf (recs a k0)) (numOf (recs b k1)) = 2
theorem none_of {a b : ByteArray} (h : NoneWhole a b) {k0 E0 k1 E1 : Nat} (h0 : Done a k0 E0) (h1 : Done b k1 E1) : pick (numOf (recs a k0)) (numOf (recs b k1)) = 2 := by
  obtain ⟨i0, F0, i1, F1, g0, g1, g2⟩ := h
  obtain ⟨rfl, _⟩ := h0.uniq g0
  obtain ⟨rfl, _⟩ := h1.uniq g1
  exact g2
theorem vload_no {a b : ByteArray} (hP : NoneWhole a b) (w : World) (ha : a.size ≤ 2000) (hb : b.size ≤ 2000) (ht : TabB w.heap.size w) :
    Calls Tryd.prog 60 #[.string a, .string b] w fun e w' => e = .returned (.tuple #[.pointer none, .slice none 0 0, .int .i64 4]) ∧ Turns nobody w w' := by
  refine (vload_any a b w ha hb ht).mono ?_
  rintro e w' ⟨k0, E0, k1, E1, h0, h1, ts, h | h⟩
  · exact ⟨h.2, ts.turns (Turns.refl _ _)⟩
  · exact absurd (none_of hP h0 h1) h.1
theorem xload_no {a b : ByteArray} (hP : NoneWhole a b) (w : World) (ha : a.size ≤ 2000) (hb : b.size ≤ 2000) :
    Calls Tryd.prog 61 #[.string a, .string b] w fun e w' => e = .returned (.tuple #[.agg Z10.toArray, .slice none 0 0, .int .i64 4]) ∧ Turns nobody w w' := by
  refine (xload_any a b w (by omega) (by omega)).mono ?_
  rintro e w' ⟨k0, E0, k1, E1, h0, h1, ht, h | h⟩
  · exact ⟨h.2, ht⟩
  · exact absurd (none_of hP h0 h1) h.1
theorem vload_yes {a b : ByteArray} (hP : ¬ NoneWhole a b) (w : World) (ha : a.size ≤ 2000) (hb : b.size ≤ 2000) (ht : TabB w.heap.size w) :
    Calls Tryd.prog 60 #[.string a, .string b] w fun e w' => ∃ k0 E0 k1 E1 V v, Done a k0 E0 ∧ Done b k1 E1 ∧ pick (numOf (recs a k0)) (numOf (recs b k1)) ≠ 2 ∧ e = .returned (.tuple #[.pointer (some ⟨V, 0, none⟩), v, .int .i64 0]) ∧ TSl w' v (loadT (recs a k0) (recs b k1)) ∧ (∀ i, blk v i → w.heap.size ≤ i) ∧ VM w' w.heap.size V (M.load ME (recs a k0) (recs b k1)) ∧ TS okV w.heap.size w w' := by
  refine (vload_any a b w ha hb ht).mono ?_
  rintro e w' ⟨k0, E0, k1, E1, h0, h1, ts, h | ⟨h2, V, v, h3, h4, h5, h6⟩⟩
  · exact absurd ⟨k0, E0, k1, E1, h0, h1, h.1⟩ hP
  · exact ⟨k0, E0, k1, E1, V, v, h0, h1, h2, h3, h4, h5, h6, ts⟩
theorem xload_yes {a b : ByteArray} {k0 E0 k1 E1 : Nat} (h0 : Done a k0 E0) (h1 : Done b k1 E1) (hp : pick (numOf (recs a k0)) (numOf (recs b k1)) ≠ 2) (w : World) (ha : a.size ≤ 2000) (hb : b.size ≤ 2000) :
    Calls Tryd.prog 61 #[.string a, .string b] w fun e w' => ∃ v0 v1 vt, e = .returned (.tuple #[.agg (xcells (M.load ME (recs a k0) (recs b k1)) v0 v1).toArray, vt, .int .i64 0]) ∧ RSl w' v0 (recs a k0) ∧ RSl w' v1 (recs b k1) ∧ TSl w' vt (loadT (recs a k0) (recs b k1)) ∧ (∀ i, blk vt i → w.heap.size ≤ i) ∧ Turns nobody w w' := by
  refine (xload_any a b w (by omega) (by omega)).mono ?_
  rintro e w' ⟨i0, F0, i1, F1, g0, g1, ht, h⟩
  obtain ⟨rfl, _⟩ := g0.uniq h0
  obtain ⟨rfl, _⟩ := g1.uniq h1
  rcases h with h | ⟨-, v0, v1, vt, h3, h4, h5, h6, h7⟩
  · exact absurd h.1 hp
  · exact ⟨v0, v1, vt, h3, h4, h5, h6, h7, ht⟩
set_option maxRecDepth 20000 in
set_option maxHeartbeats 16000000 in
theorem loads_any (a b : ByteArray) (ao : Option Addr) (T : List ByteArray) (ca : Nat) (N : Int) (w : World) (hn1 : -9223372036854775808 ≤ N) (hn2 : N ≤ 9223372036854775807) (hin : TAt w (.slice ao T.length ca) T) (hl : T.length ≤ 9223372036854775807) (ht : TabB w.heap.size w) :
    Calls Tryd.prog 15 #[.string a, .string b, .slice ao T.length ca, .int .i64 N] w fun e w' => e = .returned (.bool true) ∧ Turns nobody w w' := by
  have hb1 := build_actL ao T.length ca
  have hlo := long_any 0 0 ⟨#[]⟩ _ T w hin hl
  have HIN := Lib.hid hin
  have HTB := Lib.hid ht
  have HN := Lib.hid (And.intro hn1 hn2)
  clear hin ht hn1 hn2
  by_cases ha : 1500 < a.size
  · have haI : (1500 : Int) < (a.size : Int) := by omega
    have HAW : Hid (Turns nobody w w) := Lib.hid (Turns.refl _ _)
    clear ha
    go_enter Tryd.func15, Tryd.ntmps15
    go_wp2_with (go_at_call 46; refine (awake_any _ ⟨(HTB.out.still HAW.out).t, Nat.lt_of_lt_of_le HTB.out.lt HAW.out.size⟩).mono ?_; rintro e w9 ⟨rfl, t9⟩; have HT9 := Lib.hid (HAW.out.trans t9 (fun _ h => h.elim)); clear t9)
    go_ret
    exact ⟨rfl, HT9.out⟩
  · have haI : ¬ (1500 : Int) < (a.size : Int) := by omega
    by_cases hb : 1500 < b.size
    · have hbI : (1500 : Int) < (b.size : Int) := by omega
      have HAW : Hid (Turns nobody w w) := Lib.hid (Turns.refl _ _)
      clear ha hb
      go_enter Tryd.func15, Tryd.ntmps15
      go_wp2_with (go_at_call 46; refine (awake_any _ ⟨(HTB.out.still HAW.out).t, Nat.lt_of_lt_of_le HTB.out.lt HAW.out.size⟩).mono ?_; rintro e w9 ⟨rfl, t9⟩; have HT9 := Lib.hid (HAW.out.trans t9 (fun _ h => h.elim)); clear t9)
      go_ret
      exact ⟨rfl, HT9.out⟩
    · have hbI : ¬ (1500 : Int) < (b.size : Int) := by omega
      have HSZ : Hid (a.size ≤ 1500 ∧ b.size ≤ 1500) := Lib.hid ⟨by omega, by omega⟩
      clear ha hb
      obtain ⟨Q, hQ⟩ : ∃ Q, longB ⟨#[]⟩ T = Q := ⟨_, rfl⟩
      rw [hQ] at hlo
      have HQ := Lib.hid hQ
      clear hQ
      cases Q with
      | true =>
        go_enter Tryd.func15, Tryd.ntmps15
        go_upto_region 2 with (go_at_call 47; refine hlo.mono ?_; rintro e w1 ⟨rfl, t1⟩; have HAW := Lib.hid t1; clear t1)
        go_wp2_with (go_at_call 46; refine (awake_any _ ⟨(HTB.out.still HAW.out).t, Nat.lt_of_lt_of_le HTB.out.lt HAW.out.size⟩).mono ?_; rintro e w9 ⟨rfl, t9⟩; have HT9 := Lib.hid (HAW.out.trans t9 (fun _ h => h.elim)); clear t9)
        go_ret
        exact ⟨rfl, HT9.out⟩
      | false =>
        have HZ := Lib.hid (longB_no HQ.out)
        clear HQ
        go_enter Tryd.func15, Tryd.ntmps15
        go_upto_region 3 with (go_at_call 47; refine hlo.mono ?_; rintro e wb ⟨rfl, t1⟩; have HBASE := Lib.hid t1; clear t1)
        clear hlo hb1 haI hbI
        have HTBB : Hid (TabB wb.heap.size wb) := Lib.hid ⟨(HTB.out.still HBASE.out).t, Nat.lt_of_lt_of_le HTB.out.lt HBASE.out.size⟩
        have HINB := Lib.hid (HIN.out.go HBASE.out)
        by_cases hP : NoneWhole a b
        · have hvl := vload_no hP wb (by have := HSZ.out.1; omega) (by have := HSZ.out.2; omega) HTBB.out
          have hxl := fun W => xload_no hP W (by have := HSZ.out.1; omega) (by have := HSZ.out.2; omega)
          have HXL := Lib.hid hxl
          clear hxl hP
          go_upto_region 5 with first
            | (go_at_call 60; refine hvl.mono ?_; rintro e w2 ⟨rfl, t2⟩; have HT2 := Lib.hid t2; clear t2)
            | (go_at_call 61; refine (HXL.out _).mono ?_; rintro e w3 ⟨rfl, t3⟩; have HT3 := Lib.hid (HT2.out.trans t3 (fun _ h => h.elim)); clear t3)
            | ((with_reducible refine at_store ?_); refine wpList_putc rfl _ _ _ rfl Z10 (heap_alloc_new w3 (.cells Z10.toArray 98)) rfl z10_one rfl rfl size10 ?_; intro w4 t4 h4 z4; have HT4 : Hid (Turns nobody wb w4) := Lib.hid ((HT3.out.alloc _).trans2 t4 (fun i hi => by rw [hi]; exact HT3.out.size)); clear t4 h4 z4)
          clear hvl
          have htx := texts_any _ _ [] w4 (nil_at w4) (nil_at w4) (by decide)
          go_upto_region 8 with (go_at_call 45; refine htx.mono ?_; rintro e w5 ⟨rfl, t5⟩; have HAW : Hid (Turns nobody w w5) := Lib.hid ((HBASE.out.trans HT4.out (fun _ h => h.elim)).trans (Turns.drawn (F := nobody) t5) (fun _ h => h.elim)); clear t5)
          go_wp2_with (go_at_call 46; refine (awake_any _ ⟨(HTB.out.still HAW.out).t, Nat.lt_of_lt_of_le HTB.out.lt HAW.out.size⟩).mono ?_; rintro e w9 ⟨rfl, t9⟩; have HT9 := Lib.hid (HAW.out.trans t9 (fun _ h => h.elim)); clear t9)
          go_ret
          exact ⟨rfl, HT9.out⟩
        · have hvl := vload_yes hP wb (by have := HSZ.out.1; omega) (by have := HSZ.out.2; omega) HTBB.out
          go_upto_region 4 with (go_at_call 60; refine hvl.mono ?_; rintro e w2 ⟨k0, E0, k1, E1, V, v2, hD0, hD1, hpk, rfl, hs2, hn2, hm2, ts2⟩; have HDD := Lib.hid (And.intro hD0 (And.intro hD1 hpk)); have HS2 := Lib.hid hs2; have HM2 := Lib.hid hm2; have HTS2 := Lib.hid ts2; clear hD0 hD1 hpk hs2 hn2 hm2 ts2)
          clear hvl
          have hxl := xload_yes HDD.out.1 HDD.out.2.1 HDD.out.2.2 w2 (by have := HSZ.out.1; omega) (by have := HSZ.out.2; omega)
          obtain ⟨A, hA⟩ : ∃ A, recs a k0 = A := ⟨_, rfl⟩
          obtain ⟨B, hB⟩ : ∃ B, recs b k1 = B := ⟨_, rfl⟩
          rw [hA, hB] at hxl HS2 HM2 HDD
          have HGL : Hid (record.Good A ∧ record.Good B ∧ A.length ≤ 1500 ∧ B.length ≤ 1500) := Lib.hid (by
            rw [← hA, ← hB]
            exact ⟨ok_good HDD.out.1.1 (by have := HSZ.out.1; omega), ok_good HDD.out.2.1.1 (by have := HSZ.out.2; omega), Nat.le_trans (done_len HDD.out.1) HSZ.out.1, Nat.le_trans (done_len HDD.out.2.1) HSZ.out.2⟩)
          have HPK := Lib.hid HDD.out.2.2
          clear hA hB HDD hP
          go_upto_region 5 with first
            | (go_at_call 61; refine hxl.mono ?_; rintro e w3 ⟨u0, u1, v3, rfl, hu0, hu1, hs3, hn3, t3⟩; have HU := Lib.hid (And.intro hu0 hu1); have HS3 := Lib.hid hs3; have HT3 := Lib.hid t3; clear hu0 hu1 hs3 hn3 t3)
            | ((with_reducible refine at_store ?_); refine wpList_putc rfl _ _ _ rfl (xcells (M.load ME A B) u0 u1) (heap_alloc_new w3 (.cells Z10.toArray 98)) rfl (xcells_one (m := M.load ME A B) HU.out.1 HU.out.2) rfl rfl size10 ?_; intro w4 t4 h4 z4; have HT4 := Lib.hid t4; have HH4 := Lib.hid h4; clear t4 h4 z4)
          clear hxl
          obtain ⟨X, hX⟩ : ∃ X, w3.heap.size = X := ⟨_, rfl⟩
          rw [hX] at HT4 HH4 ⊢
          have hal : Turns nobody w3 (w3.alloc (.cells Z10.toArray 98)) := (Turns.refl _ _).alloc _
          have hwb3 : Turns nobody wb w3 := (HTS2.out.turns (Turns.refl _ _)).trans HT3.out (fun _ h => h.elim)
          have hwX : wb.heap.size ≤ X := by rw [← hX]; exact hwb3.size
          have hz0 := Sl.keep (Sl.keep HU.out.1 hal (fun _ _ h => h)) HT4.out (fun i hi e => by have := Sl.lt HU.out.1 i hi; have e : i = X := e; omega)
          have hz1 := Sl.keep (Sl.keep HU.out.2 hal (fun _ _ h => h)) HT4.out (fun i hi e => by have := Sl.lt HU.out.2 i hi; have e : i = X := e; omega)
          have hts : TS okX wb.heap.size (w3.alloc (.cells Z10.toArray 98)) w4 := TS.oneX HT4.out hwX (by have := heap_alloc_new w3 (.cells Z10.toArray 98); rw [hX] at this; exact this)
          have HE4 : Hid (PE wb V X (M.load ME A B) 1500 w4) := Lib.hid ⟨((HM2.out.still HT3.out).still hal).tsx hts, ⟨xv_of HH4.out hz0 hz1 hwX, useOf_01 (Or.inl rfl), HGL.out.1, HGL.out.2.1, Nat.le_refl _, Nat.le_refl _⟩, hts.turns (hwb3.trans hal (fun _ h => h.elim)), fine_load HPK.out, ⟨by show A.length ≤ 30 + 1500; have := HGL.out.2.2.1; omega, by show B.length ≤ 30 + 1500; have := HGL.out.2.2.2; omega⟩⟩
          have HS24 : Hid (TSl w4 v2 (loadT A B)) := Lib.hid (hts.sl (Sl.keep (Sl.keep HS2.out HT3.out (fun _ _ h => h)) hal (fun _ _ h => h)) not_okX_str)
          have HS34 : Hid (TSl w4 v3 (loadT A B)) := Lib.hid (hts.sl (Sl.keep HS3.out hal (fun _ _ h => h)) not_okX_str)
          have HLT : Hid ((loadT A B).length ≤ 16777216) := Lib.hid (by
            have h1 := heldOf_len A
            have h2 := heldOf_len B
            have h3 := HGL.out.2.2
            unfold loadT
            split
            · omega
            · split
              · omega
              · simp)
          clear hX hal hwb3 hwX hz0 hz1 hts HM2 HS2 HS3 HTS2 HT3 HT4 HH4 HU
          have htx := texts_any _ _ _ w4 (TSl.at_ HS24.out) (TSl.at_ HS34.out) HLT.out
          obtain ⟨vo2, vc2, rfl, -⟩ := Sl.shape HS24.out
          obtain ⟨vo3, vc3, rfl, -⟩ := Sl.shape HS34.out
          go_upto_region 9 with (go_at_call 45; refine htx.mono ?_; rintro e w5 ⟨rfl, t5⟩; have HE5 := Lib.hid (HE4.out.still (Turns.drawn (F := nobody) t5)); clear t5)
          clear htx
          have hal := alike_any _ V X _ w5 HE5.out.v HE5.out.x
          go_upto_region 12 with (go_at_call 57; refine hal.mono ?_; rintro e w6 ⟨rfl, t6⟩; have HE6 := Lib.hid (HE5.out.still t6); clear t6)
          clear hal HE4 HE5 HS24 HS34
          go_loopw [15] (fun i wr => ∃ k : Nat, k ≤ T.length ∧ i = .int .i64 k ∧ ∃ m, PE wb V X m (1500 + k) wr) (fun i wr => T.length - (intOf i).toNat)
          case atStart => exact ⟨0, Nat.zero_le _, rfl, _, HE6.out⟩
          case round =>
            obtain ⟨k, hk, rfl, m, hpe⟩ := hrel
            have HL := Lib.hid hpe
            clear hpe HE6
            have hTl : T.length ≤ 20 := HZ.out.2.1
            have HSM : Hid (small m) := Lib.hid (HL.out.l.small (by omega))
            by_cases hlt : k < T.length
            · obtain ⟨ao', ca', hv, hc⟩ := HINB.out
              cases hv
              obtain ⟨b0, o0, rfl, c0⟩ := hc k hlt
              have hsz := HZ.out.2.2 (T.getD k nil) (by rw [List.getD_eq_getElem?_getD, List.getElem?_eq_getElem hlt]; exact List.getElem_mem hlt)
              generalize T.getD k nil = S at *
              have hltI : (k : Int) < (T.length : Int) := by omega
              have HCB : Hid (∀ W, Turns nobody wb W → W.cell? ⟨b0, o0 + k, none⟩ = some (.string S)) := Lib.hid (fun W hW => (hW.cell (p := ⟨b0, o0 + k, none⟩) (lt_of_cell' c0) (fun h => h)).trans c0)
              have HAP := Lib.hid (append_any _ V m S wr.drew (HL.out.v.still (Turns.refl nobody wr).drew) HSM.out hsz (HTBB.out.still (HL.out.t.trans (Turns.refl nobody wr).drew (fun _ h => h.elim))))
              have HSS := Lib.hid hsz
              have HKL := Lib.hid (And.intro hlt hTl)
              clear hc c0 hsz
              go_upto_region 14 with fail
              refine wp_region_mix [(0, true, true), (1, true, true), (2, true, true), (3, true, true), (4, true, true), (6, true, true), (7, true, true), (8, true, true), (9, true, true), (5, false, true), (10, false, true), (11, true, true)] (fun W => W.cell? ⟨b0, o0 + k, none⟩ = some (.string S)) (by kernel_rfl) (by kernel_rfl) (HCB.out _ (HL.out.t.trans (Turns.refl nobody wr).drew (fun _ h => h.elim))) ?_
              simp only [picked, List.filterMap_cons, List.filterMap_nil, List.getElem?_toArray, List.getElem?_cons_zero, List.getElem?_cons_succ, Option.map_some]
              repeat (refine mix_free (v := ?_) rfl ?_ ?_; rotate_left; (focus (intro w' hI; go_simp; try with_reducible rfl)); simp only [Act.put, List.setIfInBounds_toArray, List.set_cons_zero, List.set_cons_succ])
              refine mix_big rfl (fun K hK => ?_)
              go_wp2_with (go_at_call 42; refine HAP.out.mono ?_; rintro e w7 ⟨rfl, hm7, t7⟩; have HM7 := Lib.hid hm7; have HT7 := Lib.hid ((TS.still (ok := okV) (B := wb.heap.size) (Turns.refl nobody wr).drew).trans t7); clear hm7 t7)
              refine hK _ _ (fun _ => HCB.out _ (HT7.out.turns HL.out.t)) ?_
              clear hK K
              repeat (refine mix_free (v := ?_) rfl ?_ ?_; rotate_left; (focus (intro w' hI; go_simp; try with_reducible rfl)); simp only [Act.put, List.setIfInBounds_toArray, List.set_cons_zero, List.set_cons_succ])
              have hxa := xappend_any _ X m S w7 (HL.out.x.ts HT7.out) HSM.out HSS.out
              refine mix_big rfl (fun K hK => ?_)
              go_wp2_with (go_at_call 52; refine hxa.mono ?_; rintro e w8 ⟨rfl, hx8, t8⟩; have HX8 := Lib.hid hx8; have HT8 := Lib.hid t8; clear hx8 t8)
              refine hK _ _ (fun _ => HCB.out _ (HT8.out.turns (HT7.out.turns HL.out.t))) ?_
              clear hK K hxa
              repeat (refine mix_free (v := ?_) rfl ?_ ?_; rotate_left; (focus (intro w' hI; go_simp; try with_reducible rfl)); simp only [Act.put, List.setIfInBounds_toArray, List.set_cons_zero, List.set_cons_succ])
              refine mix_nil ?_
              have HE : Hid (PE wb V X (m.app S) (1500 + (k + 1)) w8) := Lib.hid (HL.out.both HM7.out HT7.out HX8.out HT8.out (app_ok HL.out.v.u HL.out.f HL.out.v.le.1 HL.out.v.le.2 S) (by have := app_len HL.out.v.u HL.out.l S; exact this.le (by omega)))
              go_wp2
              go_roundw
              case rel => exact ⟨k + 1, by have := HKL.out.1; omega, by go_num, _, HE.out⟩
              case measure => simp [intOf]; have := HKL.out.1; omega
            · have hltI : ¬ (k : Int) < (T.length : Int) := by omega
              have HB20 : Hid (1500 + k ≤ 1520 ∧ T.length ≤ 20) := Lib.hid ⟨by omega, hTl⟩
              clear hlt hTl hk
              rcases Nat.lt_or_ge m.no 2147483647 with hno | hno
              ·
                have hdi := die_ok _ V m _ T N wr HL.out.v HSM.out (fun W hW => HINB.out.go (hW.turns HL.out.t)) (by have := HZ.out.2.1; omega) HZ.out.2.2 hno HN.out.1 HN.out.2 (HTBB.out.still HL.out.t)
                have HOK := Lib.hid (die_ok' HL.out.v.u HL.out.f HL.out.v.le.1 HL.out.v.le.2 T N)
                have HNO := Lib.hid hno
                clear hno
                go_upto_region 17 with (go_at_call 48; refine hdi.mono ?_; rintro e w7 ⟨v7, rfl, hs7, hn7, hm7, t7⟩; have HS7 := Lib.hid hs7; have HM7 := Lib.hid hm7; have HT7 := Lib.hid t7; clear hs7 hn7 hm7 t7)
                clear hdi
                have hxa := xdie_ok _ X m _ T N w7 (HL.out.x.ts HT7.out) HSM.out (HINB.out.go (HT7.out.turns HL.out.t)) (by have := HZ.out.2.1; omega) HZ.out.2.2 HNO.out HN.out.1 HN.out.2 HOK.out.1 (HT7.out.turns HL.out.t).size
                go_upto_region 18 with (go_at_call 56; refine hxa.mono ?_; rintro e w8 ⟨v8, rfl, hs8, hn8, hx8, t8⟩; have HX8 := Lib.hid hx8; have HT8 := Lib.hid t8; have HS8 := Lib.hid hs8; have HS78 := Lib.hid (t8.sl HS7.out not_okX_str : TSl w8 _ _); clear hx8 t8 hs8 hn8)
                clear hxa
                have HTLL : Hid ((m.dieT T N).length ≤ 16777216) := Lib.hid (dieT_len HL.out.v.u (HL.out.l.le (by have := HB20.out.1; omega)) (by have := HZ.out.2.1; omega) N)
                have htx := texts_any _ _ _ w8 (TSl.at_ HS78.out) (TSl.at_ HS8.out) HTLL.out
                have HE8 : Hid (PE wb V X (m.die T N) (1500 + k) w8) := Lib.hid (HL.out.both (k' := 1500 + k) HM7.out HT7.out HX8.out HT8.out HOK.out.2 (die_len HL.out.v.u HL.out.l (by have := HZ.out.2.1; omega) N))
                clear HL HM7 HX8 HS7
                go_wp2_with first
                  | (go_at_call 45; refine htx.mono ?_; rintro e w9 ⟨rfl, t9⟩; have HE9 := Lib.hid (HE8.out.still (Turns.drawn (F := nobody) t9)); clear t9)
                  | (go_at_call 57; refine (alike_any _ V X _ w9 HE9.out.v HE9.out.x).mono ?_; rintro e w10 ⟨rfl, t10⟩; have HT10 := Lib.hid ((HBASE.out.trans HE9.out.t (fun _ h => h.elim)).trans t10 (fun _ h => h.elim)); clear t10)
                  | (go_at_call 46; refine (awake_any _ ⟨(HTB.out.still HT10.out).t, Nat.lt_of_lt_of_le HTB.out.lt HT10.out.size⟩).mono ?_; rintro e w11 ⟨rfl, t11⟩; have HT11 := Lib.hid (HT10.out.trans t11 (fun _ h => h.elim)); clear t11)
                go_ret
                exact ⟨rfl, HT11.out⟩
              ·
                have hdi := die_bad _ V m _ T N wr HL.out.v (fun W hW => HINB.out.go (hW.turns HL.out.t)) (by have := HZ.out.2.1; omega) (fun s h => by have := HZ.out.2.2 s h; omega) hno
                have HNO := Lib.hid hno
                clear hno
                go_upto_region 17 with (go_at_call 48; refine hdi.mono ?_; rintro e w7 ⟨rfl, t7⟩; have HT7 := Lib.hid t7; have HL7 := Lib.hid (HL.out.still t7); clear t7)
                clear hdi
                have hxa := xdie_bad _ X m _ T N w7 HL7.out.x (HINB.out.go HL7.out.t) HNO.out
                go_upto_region 18 with (go_at_call 56; refine hxa.mono ?_; rintro e w8 ⟨rfl, t8⟩; have HE8 := Lib.hid (HL7.out.still t8); clear t8)
                clear hxa
                have htx := texts_any _ _ [] w8 (nil_at w8) (nil_at w8) (by decide)
                go_wp2_with first
                  | (go_at_call 45; refine htx.mono ?_; rintro e w9 ⟨rfl, t9⟩; have HE9 := Lib.hid (HE8.out.still (Turns.drawn (F := nobody) t9)); clear t9)
                  | (go_at_call 57; refine (alike_any _ V X _ w9 HE9.out.v HE9.out.x).mono ?_; rintro e w10 ⟨rfl, t10⟩; have HT10 := Lib.hid ((HBASE.out.trans HE9.out.t (fun _ h => h.elim)).trans t10 (fun _ h => h.elim)); clear t10)
                  | (go_at_call 46; refine (awake_any _ ⟨(HTB.out.still HT10.out).t, Nat.lt_of_lt_of_le HTB.out.lt HT10.out.size⟩).mono ?_; rintro e w11 ⟨rfl, t11⟩; have HT11 := Lib.hid (HT10.out.trans t11 (fun _ h => h.elim)); clear t11)
                go_ret
                exact ⟨rfl, HT11.out⟩
end Go.Proofs.YtlhcmgjkhkcgcaaDoor.vault
