/- VaultWhole. -/
import Derived.Test.YtlhcmgjkhkcgcaaDoorVaultKeeps
namespace Go.Proofs.YtlhcmgjkhkcgcaaDoor.vault
open Go.RowKit
open Go.Proofs.YtlhcmgjkhkcgcaaDoor.stepkit Go.Proofs.YtlhcmgjkhkcgcaaDoor.obj Go.Proofs.YtlhcmgjkhkcgcaaDoor.row Go.Proofs.YtlhcmgjkhkcgcaaDoor.mix Go.Proofs.YtlhcmgjkhkcgcaaDoor.idkit Go.Proofs.YtlhcmgjkhkcgcaaDoor.bytes Go.Proofs.YtlhcmgjkhkcgcaaDoor.octet Go.Proofs.YtlhcmgjkhkcgcaaDoor.eqkit Go.Proofs.YtlhcmgjkhkcgcaaDoor.record Go.Proofs.YtlhcmgjkhkcgcaaDoor.argkit
open Go.Proofs.YtlhcmgjkhkcgcaaDoor.journal (JAt two NoBytes turns_one block_keep block_still block_lt at_store BIn)
open Go.Proofs.YtlhcmgjkhkcgcaaDoor.block (BlockAt keepOf keepOf_le keepOf_ge keepOf_all)

/-! ### long -/
abbrev sizes (T : List ByteArray) : Prop := T.length ≤ 20 ∧ ∀ s ∈ T, s.size ≤ 300
def longB (S : ByteArray) (T : List ByteArray) : Bool := decide (¬ (S.size ≤ 300 ∧ sizes T))
theorem longB_no {S : ByteArray} {T : List ByteArray} (h : longB S T = false) : S.size ≤ 300 ∧ sizes T := by
  unfold longB at h
  exact Classical.not_not.1 (of_decide_eq_false h)
theorem longB_yes {S : ByteArray} {T : List ByteArray} {R : Bool} (hR : longB S T = R) (h : ¬ (S.size ≤ 300 ∧ sizes T)) : R = true := by
  rw [← hR]; unfold longB; exact decide_eq_true h
theorem longB_not {S : ByteArray} {T : List ByteArray} {R : Bool} (hR : longB S T = R) (h : S.size ≤ 300 ∧ sizes T) : R = false := by
  rw [← hR]; unfold longB; exact decide_eq_false (fun h' => h' h)
set_option maxRecDepth 10000 in
set_option maxHeartbeats 1000000 in
theorem long_any (K N : Int) (S : ByteArray) (v : Value) (T : List ByteArray) (w : World) (hT : TAt w v T) (hl : T.length ≤ 9223372036854775807) :
    Calls Tryd.prog 47 #[.agg #[.int .i64 K, .string S, v, .int .i64 N]] w fun e w' => e = .returned (.bool (longB S T)) ∧ Turns nobody w w' := by
  obtain ⟨R, hR⟩ : ∃ R, longB S T = R := ⟨_, rfl⟩
  rw [hR]
  have HR := Lib.hid hR
  clear hR
  obtain ⟨ao, cap, rfl, -⟩ := id hT
  obtain ⟨P, hP⟩ : ∃ P, w.heap.size = P := ⟨_, rfl⟩
  obtain ⟨w1, hw1⟩ : ∃ w1, w1 = w.alloc (.cells #[.int .i64 K, .string S, .slice ao T.length cap, .int .i64 N] 89) := ⟨_, rfl⟩
  have t1 : Turns nobody w w1 := by rw [hw1]; exact (Turns.refl _ _).alloc _
  have h1 : w1.heap[P]? = some (.cells #[.int .i64 K, .string S, .slice ao T.length cap, .int .i64 N] 89 (0, 0)) := by rw [hw1, ← hP]; exact heap_alloc_new w _
  obtain ⟨ao', cap', hv, hc⟩ := hT.turns t1
  cases hv
  have c1 := cells_of h1 1 _ rfl
  have c2 := cells_of h1 2 _ rfl
  have HW1 := Lib.hid hw1
  have HT1 := Lib.hid t1
  have HC := Lib.hid hc
  clear hw1 t1 h1 hc hT
  go_enter Tryd.func47, Tryd.ntmps47
  go_upto_region 1 with fail
  rw [← HW1.out]
  clear hP
  go_upto_region 3 with fail
  go_loopw [4] (fun i wr => ∃ k : Nat, k ≤ T.length ∧ k ≤ 20 ∧ i = .int .i64 k ∧ wr = w1 ∧ ∀ j, j < k → (T.getD j nil).size ≤ 300) (fun i _ => 20 - (intOf i).toNat)
  case atStart => exact ⟨0, Nat.zero_le _, Nat.zero_le _, rfl, rfl, fun j hj => absurd hj (Nat.not_lt_zero j)⟩
  case round =>
    obtain ⟨k, hk, hk2, rfl, hw, hall⟩ := hrel
    subst hw
    have HALL := Lib.hid hall
    clear hall
    by_cases hlt : k < T.length
    · have hltI : (k : Int) < (T.length : Int) := by omega
      by_cases h20 : k < 20
      · have h20I : (k : Int) < 20 := by omega
        obtain ⟨b, o, rfl, c0⟩ := HC.out k hlt
        obtain ⟨s, hs⟩ : ∃ s, T.getD k nil = s := ⟨_, rfl⟩
        rw [hs] at c0
        have HS := Lib.hid hs
        clear hs
        by_cases h3 : 300 < s.size
        · have h3I : (300 : Int) < (s.size : Int) := by omega
          obtain rfl : R = true := longB_yes HR.out (fun h => by
            have := h.2.2 s (by rw [← HS.out, List.getD_eq_getElem?_getD, List.getElem?_eq_getElem hlt]; exact List.getElem_mem hlt)
            omega)
          go_wp2
          go_ret
          exact ⟨rfl, HT1.out⟩
        · have h3I : ¬ (300 : Int) < (s.size : Int) := by omega
          go_wp2
          go_roundw
          case rel => exact ⟨k + 1, by omega, by omega, by go_num, by first | rfl | trivial, fun j hj => by
            rcases Nat.lt_or_ge j k with h | h
            · exact HALL.out j h
            · obtain rfl : j = k := by omega
              rw [HS.out]; omega⟩
          case measure => simp [intOf]; omega
      · have h20I : ¬ (k : Int) < 20 := by omega
        have htl : (20 : Int) < (T.length : Int) := by omega
        obtain rfl : R = true := longB_yes HR.out (fun h => by have := h.2.1; omega)
        by_cases hs3 : 300 < S.size
        · have hs3I : (300 : Int) < (S.size : Int) := by omega
          go_wp2
          go_ret
          exact ⟨rfl, HT1.out⟩
        · have hs3I : ¬ (300 : Int) < (S.size : Int) := by omega
          go_wp2
          go_ret
          exact ⟨rfl, HT1.out⟩
    · have hltI : ¬ (k : Int) < (T.length : Int) := by omega
      by_cases hs3 : 300 < S.size
      · have hs3I : (300 : Int) < (S.size : Int) := by omega
        obtain rfl : R = true := longB_yes HR.out (fun h => by have := h.1; omega)
        go_wp2
        go_ret
        exact ⟨rfl, HT1.out⟩
      · have hs3I : ¬ (300 : Int) < (S.size : Int) := by omega
        have htl : ¬ (20 : Int) < (T.length : Int) := by omega
        obtain rfl : R = false := longB_not HR.out ⟨by omega, by omega, fun s hs => by
          obtain ⟨j, hj, rfl⟩ := List.getElem_of_mem hs
          have := HALL.out j (by omega)
          rw [List.getD_eq_getElem?_getD, List.getElem?_eq_getElem hj] at this
          exact this⟩
        go_wp2
        go_ret
        exact ⟨rfl, HT1.out⟩

/-! ### Plain -/
theorem snp_no (m : M) (R : List ByteArray) : (m.snp R).no = m.no + 1 := by
  unfold M.snp M.sync M.set
  split <;> rfl
theorem pick_01a : pick 0 (-1) = 0 := by decide
theorem pick_01b : pick 0 1 = 1 := by decide
theorem pick_21 : pick 2 1 = 0 := by decide
/-- A snapshot, a crash within: all that was held, or just the snapshot; and on from there. -/
theorem whole_plain {l T : List ByteArray} (hl : sizes l) (hT : sizes T) (n : Int) : ∃ m R, (KM l 0).die T n = m ∧ (KM l 0).dieT T n = R ∧ (R = l ∨ R = T) ∧ m.no ≤ 1 ∧ small m ∧ (∀ k, m.crash k = m ∧ m.crashT k = R) ∧ small (m.snp R) ∧ ∀ k, (m.snp R).crashT k = R := by
  obtain ⟨j, h1, h2, h3⟩ := leftOf_ge (L := snap 1 T) (n := 0) (Nat.zero_le _) (Nat.zero_le _) n
  rw [snap_len] at h2
  have hn0 : numOf (KM l 0).L0 = 0 := numOf_new _
  have hh0 : heldOf (KM l 0).L0 = l := by show heldOf (genR 0 :: sealR :: l.map entR) = l; rw [heldOf_new, heldOf_ents]
  have hlen0 : (KM l 0).L0.length = 2 + l.length := KM_len l 0
  have hn1 : numOf (snap 1 T) = 1 := numOf_snap (by decide) T
  have hlen1 : (snap 1 T).length = T.length + 2 := snap_len 1 T
  rcases Nat.lt_or_ge j (T.length + 2) with hj | hj
  · have hn : numOf ((snap 1 T).take j) = -1 := numOf_torn 1 T j hj
    have hcrash : ∀ k, M.crash ⟨(KM l 0).L0, (KM l 0).L0.length, (snap 1 T).take j, ((snap 1 T).take j).length, 0, 0⟩ k = ⟨(KM l 0).L0, (KM l 0).L0.length, (snap 1 T).take j, ((snap 1 T).take j).length, 0, 0⟩ ∧ M.crashT ⟨(KM l 0).L0, (KM l 0).L0.length, (snap 1 T).take j, ((snap 1 T).take j).length, 0, 0⟩ k = l := by
      intro k
      constructor
      · show M.load ⟨(KM l 0).L0, (KM l 0).L0.length, (snap 1 T).take j, ((snap 1 T).take j).length, 0, 0⟩ (leftOf (KM l 0).L0 (KM l 0).L0.length k) ((snap 1 T).take j) = _
        rw [leftOf_all]
        unfold M.load useOf noOf
        rw [hn0, hn, pick_01a]
        rfl
      · show loadT (leftOf (KM l 0).L0 (KM l 0).L0.length k) ((snap 1 T).take j) = _
        rw [leftOf_all]
        unfold loadT
        rw [hn0, hn, pick_01a, hh0]
        rfl
    refine ⟨⟨(KM l 0).L0, (KM l 0).L0.length, (snap 1 T).take j, ((snap 1 T).take j).length, 0, 0⟩, l, ?_, ?_, Or.inl rfl, Nat.zero_le _, ⟨?_, ?_⟩, hcrash, ⟨?_, ?_⟩, ?_⟩
    · show M.load ((KM l 0).lay T) (KM l 0).L0 (leftOf (snap 1 T) 0 n) = _
      rw [h3]
      unfold M.load useOf noOf
      rw [hn0, hn, pick_01a]
      rfl
    · show loadT (KM l 0).L0 (leftOf (snap 1 T) 0 n) = l
      rw [h3]
      unfold loadT
      rw [hn0, hn, pick_01a, hh0]
      rfl
    · show (KM l 0).L0.length ≤ 5000
      rw [hlen0]; have := hl.1; omega
    · show ((snap 1 T).take j).length ≤ 5000
      rw [List.length_take, hlen1]; have := hT.1; omega
    · show (KM l 0).L0.length ≤ 5000
      rw [hlen0]; have := hl.1; omega
    · show (snap 1 l).length ≤ 5000
      rw [snap_len]; have := hl.1; omega
    · intro k
      show loadT (KM l 0).L0 (leftOf (snap 1 l) (snap 1 l).length k) = l
      rw [leftOf_all]
      unfold loadT
      rw [hn0, numOf_snap (by decide) l, show ((1 : Nat) : Int) = 1 from rfl, pick_01b, heldOf_snap]
      rfl
  · have hjj : (snap 1 T).take j = snap 1 T := List.take_of_length_le (by rw [hlen1]; omega)
    rw [hjj] at h3
    have hcrash : ∀ k, M.crash ⟨(KM l 0).L0, (KM l 0).L0.length, snap 1 T, (snap 1 T).length, 1, 1⟩ k = ⟨(KM l 0).L0, (KM l 0).L0.length, snap 1 T, (snap 1 T).length, 1, 1⟩ ∧ M.crashT ⟨(KM l 0).L0, (KM l 0).L0.length, snap 1 T, (snap 1 T).length, 1, 1⟩ k = T := by
      intro k
      constructor
      · show M.load ⟨(KM l 0).L0, (KM l 0).L0.length, snap 1 T, (snap 1 T).length, 1, 1⟩ (KM l 0).L0 (leftOf (snap 1 T) (snap 1 T).length k) = _
        rw [leftOf_all]
        unfold M.load useOf noOf
        rw [hn0, hn1, pick_01b]
        rfl
      · show loadT (KM l 0).L0 (leftOf (snap 1 T) (snap 1 T).length k) = _
        rw [leftOf_all]
        unfold loadT
        rw [hn0, hn1, pick_01b, heldOf_snap]
        rfl
    refine ⟨⟨(KM l 0).L0, (KM l 0).L0.length, snap 1 T, (snap 1 T).length, 1, 1⟩, T, ?_, ?_, Or.inr rfl, Nat.le_refl _, ⟨?_, ?_⟩, hcrash, ⟨?_, ?_⟩, ?_⟩
    · show M.load ((KM l 0).lay T) (KM l 0).L0 (leftOf (snap 1 T) 0 n) = _
      rw [h3]
      unfold M.load useOf noOf
      rw [hn0, hn1, pick_01b]
      rfl
    · show loadT (KM l 0).L0 (leftOf (snap 1 T) 0 n) = T
      rw [h3]
      unfold loadT
      rw [hn0, hn1, pick_01b, heldOf_snap]
      rfl
    · show (KM l 0).L0.length ≤ 5000
      rw [hlen0]; have := hl.1; omega
    · show (snap 1 T).length ≤ 5000
      rw [hlen1]; have := hT.1; omega
    · show (snap 2 T).length ≤ 5000
      rw [snap_len]; have := hT.1; omega
    · show (snap 1 T).length ≤ 5000
      rw [hlen1]; have := hT.1; omega
    · intro k
      show loadT (leftOf (snap 2 T) (snap 2 T).length k) (snap 1 T) = T
      rw [leftOf_all]
      unfold loadT
      rw [hn1, numOf_snap (by decide) T, show ((2 : Nat) : Int) = 2 from rfl, pick_21, heldOf_snap]
      rfl

theorem tgetD_take {l : List ByteArray} {k : Nat} (hk : k < l.length) : l.take (k + 1) = l.take k ++ [l.getD k nil] := by
  rw [List.take_add_one, List.getElem?_eq_getElem hk, List.getD_eq_getElem?_getD, List.getElem?_eq_getElem hk]
  rfl
/-! ### The walk -/
theorem build_actL (ao : Option Addr) (n c : Nat) (W : World) : (Instr.build 89 #[(2, .slice ao n c)]).run Tryd.prog W = .ok (.agg #[.int .i64 0, .string nil, .slice ao n c, .int .i64 0]) W := by kernel_rfl
structure WI (w0 : World) (V : Nat) (A : List ByteArray) (W : World) : Prop where
  m : VM W w0.heap.size V (KM A 0)
  tt : Turns nobody w0 W
set_option maxRecDepth 20000 in
set_option maxHeartbeats 8000000 in
theorem whole_any (ao : Option Addr) (l : List ByteArray) (ca : Nat) (bo : Option Addr) (T : List ByteArray) (cb : Nat) (n : Int) (w : World) (hn1 : -9223372036854775808 ≤ n) (hn2 : n ≤ 9223372036854775807) (hin : TAt w (.slice ao l.length ca) l) (hin2 : TAt w (.slice bo T.length cb) T) (hl : l.length ≤ 9223372036854775807) (hl2 : T.length ≤ 9223372036854775807) (ht : TabB w.heap.size w) :
    Calls Tryd.prog 12 #[.slice ao l.length ca, .slice bo T.length cb, .int .i64 n] w fun e w' => e = .returned (.bool true) ∧ Turns nobody w w' := by
  have hb1 := build_actL ao l.length ca
  have hb2 := build_actL bo T.length cb
  have hlo := long_any 0 0 ⟨#[]⟩ _ l w hin hl
  have HIN := Lib.hid hin
  have HIN2 := Lib.hid hin2
  have HTB := Lib.hid ht
  have HN := Lib.hid (And.intro hn1 hn2)
  obtain ⟨R1, hR1⟩ : ∃ R1, longB ⟨#[]⟩ l = R1 := ⟨_, rfl⟩
  obtain ⟨R2, hR2⟩ : ∃ R2, longB ⟨#[]⟩ T = R2 := ⟨_, rfl⟩
  rw [hR1] at hlo
  have HR1 := Lib.hid hR1
  have HR2 := Lib.hid hR2
  have HL2L := Lib.hid hl2
  clear hin hin2 ht hn1 hn2 hR1 hR2 hl hl2
  cases R1 with
  | true =>
    go_enter Tryd.func12, Tryd.ntmps12
    go_upto_region 2 with (go_at_call 47; refine hlo.mono ?_; rintro e w1 ⟨rfl, t1⟩; have HL2 := Lib.hid (And.intro True.intro t1); clear t1)
    go_wp2_with (go_at_call 46; refine (awake_any _ ⟨(HTB.out.still HL2.out.2).t, Nat.lt_of_lt_of_le HTB.out.lt HL2.out.2.size⟩).mono ?_; rintro e w9 ⟨rfl, t9⟩; have HT9 := Lib.hid (HL2.out.2.trans t9 (fun _ h => h.elim)); clear t9)
    go_ret
    exact ⟨rfl, HT9.out⟩
  | false =>
    have hsl := (longB_no HR1.out).2
    have HSL := Lib.hid hsl
    clear hsl
    cases R2 with
    | true =>
      go_enter Tryd.func12, Tryd.ntmps12
      go_upto_region 2 with first
        | (go_at_call 47; (with_reducible refine hlo.mono ?_); rintro e w1 ⟨rfl, t1⟩; have HL1 := Lib.hid t1; clear t1 hlo)
        | (go_at_call 47; refine (long_any 0 0 ⟨#[]⟩ _ T w1 (HIN2.out.turns HL1.out) HL2L.out).mono ?_; rintro e w2 ⟨rfl, t2⟩; rw [HR2.out]; have HL2 := Lib.hid (And.intro True.intro (HL1.out.trans t2 (fun _ h => h.elim))); clear t2)
      go_wp2_with (go_at_call 46; refine (awake_any _ ⟨(HTB.out.still HL2.out.2).t, Nat.lt_of_lt_of_le HTB.out.lt HL2.out.2.size⟩).mono ?_; rintro e w9 ⟨rfl, t9⟩; have HT9 := Lib.hid (HL2.out.2.trans t9 (fun _ h => h.elim)); clear t9)
      go_ret
      exact ⟨rfl, HT9.out⟩
    | false =>
      have hst := (longB_no HR2.out).2
      have HSTT := Lib.hid hst
      clear hst
      go_enter Tryd.func12, Tryd.ntmps12
      go_upto_region 3 with first
        | (go_at_call 47; (with_reducible refine hlo.mono ?_); rintro e w1 ⟨rfl, t1⟩; have HL1 := Lib.hid t1; clear t1 hlo)
        | (go_at_call 47; refine (long_any 0 0 ⟨#[]⟩ _ T w1 (HIN2.out.turns HL1.out) HL2L.out).mono ?_; rintro e w2 ⟨rfl, t2⟩; rw [HR2.out]; have HL2 := Lib.hid (And.intro True.intro (HL1.out.trans t2 (fun _ h => h.elim))); clear t2)
      clear HR1 HR2 hb1 hb2
      have hnew := new_any w2 ⟨(HTB.out.still HL2.out.2).t, Nat.lt_of_lt_of_le HTB.out.lt HL2.out.2.size⟩
      have HT2 := Lib.hid HL2.out.2
      go_upto_region 5 with (go_at_call 41; refine hnew.mono ?_; rintro e w3 ⟨V, rfl, hm3, ts3⟩; have HW0 : Hid (WI w2 V [] w3) := Lib.hid ⟨hm3, ts3.turns (Turns.refl _ _)⟩; clear hm3 ts3)
      have HTB2 : Hid (TabB w2.heap.size w2) := Lib.hid ⟨(HTB.out.still HL2.out.2).t, Nat.lt_of_lt_of_le HTB.out.lt HL2.out.2.size⟩
      have HI2 := Lib.hid (HIN.out.turns HL2.out.2)
      have HJ2 := Lib.hid (HIN2.out.turns HL2.out.2)
      clear hnew HL2 HL1 HIN HIN2
      go_loopw [8] (fun k wr => ∃ i : Nat, i ≤ l.length ∧ k = .int .i64 i ∧ WI w2 V (l.take i) wr) (fun k wr => l.length - (intOf k).toNat)
      case atStart => exact ⟨0, Nat.zero_le _, rfl, HW0.out⟩
      case round =>
        obtain ⟨i, hil, rfl, hk⟩ := hrel
        have HK := Lib.hid hk
        clear hk HW0
        by_cases hlt : i < l.length
        · obtain ⟨ao', ca', hv, hc⟩ := HI2.out.turns HK.out.tt
          cases hv
          obtain ⟨b0, o0, rfl, c0⟩ := hc i hlt
          have hrs := HSL.out.2 (l.getD i nil) (by rw [List.getD_eq_getElem?_getD, List.getElem?_eq_getElem hlt]; exact List.getElem_mem hlt)
          have hll := HSL.out.1
          have hap := append_any _ V _ (l.getD i nil) wr HK.out.m (KM_small (by rw [List.length_take]; omega)) hrs (HTB2.out.still HK.out.tt)
          rw [KM_app, ← tgetD_take hlt] at hap
          have h1I : (i : Int) < (l.length : Int) := by omega
          generalize l.getD i nil = r at *
          clear hc
          go_wp2_with (go_at_call 42; refine hap.mono ?_; rintro e w4 ⟨rfl, hm4, t4⟩; have HK2 : Hid (WI w2 V (l.take (i + 1)) w4) := Lib.hid ⟨hm4, t4.turns HK.out.tt⟩; clear hm4 t4)
          go_roundw
          case rel => exact ⟨i + 1, by omega, by go_num, HK2.out⟩
          case measure => simp [intOf]; omega
        · obtain rfl : i = l.length := by omega
          rw [List.take_length] at HK
          have hltI : ¬ (l.length : Int) < (l.length : Int) := by omega
          have hpl := whole_plain HSL.out HSTT.out n
          obtain ⟨m, R, hp1, hp2, hp3, hp4⟩ := hpl
          have hdi := die_ok _ V _ _ T n wr HK.out.m (KM_small (by have := HSL.out.1; omega)) (fun W hW => HJ2.out.turns (hW.turns HK.out.tt)) (by have := HSTT.out.1; omega) HSTT.out.2 (by show 0 < 2147483647; decide) HN.out.1 HN.out.2 (HTB2.out.still HK.out.tt)
          rw [hp1, hp2] at hdi
          have HPL := Lib.hid (And.intro hp3 hp4)
          have HRS : Hid (sizes R) := Lib.hid (by rcases hp3 with h | h; rw [h]; exact HSL.out; rw [h]; exact HSTT.out)
          clear hp1 hp2 hp3 hp4 hlt
          go_upto_region 10 with (go_at_call 48; refine hdi.mono ?_; rintro e w5 ⟨v5, rfl, hs5, hn5, hm5, t5⟩; have HM5 := Lib.hid hm5; have HS5 := Lib.hid hs5; have HT5 := Lib.hid (t5.turns HK.out.tt); clear hs5 hn5 hm5 t5)
          clear hdi
          obtain ⟨vo, vc, rfl, -⟩ := Sl.shape HS5.out
          have htx := texts_all _ _ R l w5 (TSl.at_ HS5.out) (HI2.out.turns HT5.out) (by have := HRS.out.1; omega) (by have := HSL.out.1; omega)
          obtain ⟨b1, hb1⟩ : ∃ b1, same R l = b1 := ⟨_, rfl⟩
          rw [hb1] at htx
          have HB1 := Lib.hid hb1
          clear hb1
          cases b1 with
          | true =>
            go_upto_region 12 with (go_at_call 45; refine htx.mono ?_; rintro e wt ⟨rfl, tt⟩; have HTT := Lib.hid (HT5.out.trans tt (fun _ h => h.elim)); have HMT := Lib.hid (HM5.out.still tt); have HST := Lib.hid (Sl.keep HS5.out tt (fun _ _ h => h) : TSl wt _ _); clear tt)
            clear htx
            have huse := use_any _ V m wt HMT.out
            have hnI : ¬ (1 : Int) < (m.no : Int) := by have := HPL.out.2.1; omega
            have hcr := crash_any _ V m n wt HMT.out HPL.out.2.2.1 HN.out.1 HN.out.2 (HTB2.out.still HTT.out)
            rw [(HPL.out.2.2.2.1 n).1, (HPL.out.2.2.2.1 n).2] at hcr
            go_upto_region 13 with (go_at_call 49; refine huse.mono ?_; rintro e w6 ⟨rfl, t6⟩; have HM6 := Lib.hid (HMT.out.still t6); have HS6 := Lib.hid (Sl.keep HST.out t6 (fun _ _ h => h) : TSl w6 _ _); have HT6 := Lib.hid (HTT.out.trans t6 (fun _ h => h.elim)); clear t6)
            clear huse hcr
            have hcr := crash_any _ V m n w6 HM6.out HPL.out.2.2.1 HN.out.1 HN.out.2 (HTB2.out.still HT6.out)
            rw [(HPL.out.2.2.2.1 n).1, (HPL.out.2.2.2.1 n).2] at hcr
            go_upto_region 15 with first
              | (go_at_call 44; refine hcr.mono ?_; rintro e w7 ⟨v7, rfl, hs7, hn7, hm7, t7⟩; have HM7 := Lib.hid hm7; have HS7 := Lib.hid hs7; have HSL7 : Hid (TSl w7 _ _) := Lib.hid (t7.sl HS6.out not_okV_str); have HT7 := Lib.hid (t7.turns HT6.out); clear hs7 hn7 hm7 t7)
              | (go_at_call 45; refine (texts_any _ _ R _ (TSl.at_ HS7.out) (TSl.at_ HSL7.out) (by have := HRS.out.1; omega)).mono ?_; rintro e w8 ⟨rfl, t8⟩; have HT8 : Hid (Turns nobody w7 w8) := Lib.hid (Turns.drawn (F := nobody) t8); clear t8)
            clear hcr hnI
            have HM8 := Lib.hid (HM7.out.still HT8.out)
            have HS8 : Hid (TSl w8 _ _) := Lib.hid (Sl.keep HSL7.out HT8.out (fun _ _ h => h))
            have HTT8 := Lib.hid (HT7.out.trans HT8.out (fun _ h => h.elim))
            have hsn := snap_ok _ V m _ R w8 HM8.out HPL.out.2.2.1 (fun W hW => TSl.at_ (hW.sl HS8.out not_okV_str)) (by have := HRS.out.1; omega) HRS.out.2 (by have := HPL.out.2.1; omega) (HTB2.out.still HTT8.out)
            go_upto_region 16 with (go_at_call 50; refine hsn.mono ?_; rintro e w9 ⟨rfl, hm9, t9⟩; have HM9 := Lib.hid hm9; have HS9 : Hid (TSl w9 _ _) := Lib.hid (t9.sl HS8.out not_okV_str); have HT9 := Lib.hid (t9.turns HTT8.out); clear hm9 t9)
            clear hsn
            have huse := use_any _ V _ w9 HM9.out
            have hno := snp_no m R
            rw [hno] at huse
            have hnI : (((m.no + 1 : Nat) : Int) == (m.no : Int) + 1) = true := by rw [beq_iff_eq]; push_cast; rfl
            have hno1 : m.no ≤ 1 := HPL.out.2.1
            go_upto_region 17 with (go_at_call 49; refine huse.mono ?_; rintro e w10 ⟨rfl, t10⟩; have HM10 := Lib.hid (HM9.out.still t10); have HS10 := Lib.hid (Sl.keep HS9.out t10 (fun _ _ h => h) : TSl w10 _ _); have HT10 := Lib.hid (HT9.out.trans t10 (fun _ h => h.elim)); clear t10)
            clear huse
            have hcr := crash_any _ V _ 0 w10 HM10.out HPL.out.2.2.2.2.1 (by decide) (by decide) (HTB2.out.still HT10.out)
            rw [HPL.out.2.2.2.2.2 0] at hcr
            go_wp2_with first
              | (go_at_call 44; refine hcr.mono ?_; rintro e w11 ⟨v11, rfl, hs11, hn11, hm11, t11⟩; have HS11 := Lib.hid hs11; have HSL11 : Hid (TSl w11 _ _) := Lib.hid (t11.sl HS10.out not_okV_str); have HT11 := Lib.hid (t11.turns HT10.out); clear hs11 hn11 hm11 t11)
              | (go_at_call 45; refine (texts_any _ _ R _ (TSl.at_ HS11.out) (TSl.at_ HSL11.out) (by have := HRS.out.1; omega)).mono ?_; rintro e w12 ⟨rfl, t12⟩; have HT12 : Hid (Turns nobody w2 w12) := Lib.hid (HT11.out.trans (Turns.drawn (F := nobody) t12) (fun _ h => h.elim)); clear t12)
              | (go_at_call 46; refine (awake_any _ ⟨(HTB2.out.still HT12.out).t, Nat.lt_of_lt_of_le HTB2.out.lt HT12.out.size⟩).mono ?_; rintro e w13 ⟨rfl, t13⟩; have HT13 := Lib.hid (HT12.out.trans t13 (fun _ h => h.elim)); clear t13)
            go_ret
            exact ⟨rfl, HT2.out.trans HT13.out (fun _ h => h.elim)⟩
          | false =>
            have hRT : same R T = true := by
              rcases HPL.out.1 with h | h
              · have h1 := HB1.out
                rw [h, same_self] at h1
                cases h1
              · rw [h]; exact same_self T
            have HRT := Lib.hid hRT
            clear hRT
            go_upto_region 12 with first
              | (go_at_call 45; (with_reducible refine htx.mono ?_); rintro e w6 ⟨rfl, t6⟩; have HT6 := Lib.hid t6; clear t6 htx)
              | (go_at_call 45; refine (texts_all _ _ R T w6 (TSl.at_ (Sl.keep HS5.out HT6.out (fun _ _ h => h) : TSl w6 _ _)) (HJ2.out.turns (HT5.out.trans HT6.out (fun _ h => h.elim))) (by have := HRS.out.1; omega) (by have := HSTT.out.1; omega)).mono ?_; rintro e wt ⟨rfl, tt⟩; rw [HRT.out]; have HT7 := Lib.hid (HT6.out.trans tt (fun _ h => h.elim)); have HTT := Lib.hid (HT5.out.trans HT7.out (fun _ h => h.elim)); have HMT := Lib.hid (HM5.out.still HT7.out); have HST := Lib.hid (Sl.keep HS5.out HT7.out (fun _ _ h => h) : TSl wt _ _); clear tt)
            have huse := use_any _ V m wt HMT.out
            have hnI : ¬ (1 : Int) < (m.no : Int) := by have := HPL.out.2.1; omega
            have hcr := crash_any _ V m n wt HMT.out HPL.out.2.2.1 HN.out.1 HN.out.2 (HTB2.out.still HTT.out)
            rw [(HPL.out.2.2.2.1 n).1, (HPL.out.2.2.2.1 n).2] at hcr
            go_upto_region 13 with (go_at_call 49; refine huse.mono ?_; rintro e w6 ⟨rfl, t6⟩; have HM6 := Lib.hid (HMT.out.still t6); have HS6 := Lib.hid (Sl.keep HST.out t6 (fun _ _ h => h) : TSl w6 _ _); have HT6 := Lib.hid (HTT.out.trans t6 (fun _ h => h.elim)); clear t6)
            clear huse hcr
            have hcr := crash_any _ V m n w6 HM6.out HPL.out.2.2.1 HN.out.1 HN.out.2 (HTB2.out.still HT6.out)
            rw [(HPL.out.2.2.2.1 n).1, (HPL.out.2.2.2.1 n).2] at hcr
            go_upto_region 15 with first
              | (go_at_call 44; refine hcr.mono ?_; rintro e w7 ⟨v7, rfl, hs7, hn7, hm7, t7⟩; have HM7 := Lib.hid hm7; have HS7 := Lib.hid hs7; have HSL7 : Hid (TSl w7 _ _) := Lib.hid (t7.sl HS6.out not_okV_str); have HT7 := Lib.hid (t7.turns HT6.out); clear hs7 hn7 hm7 t7)
              | (go_at_call 45; refine (texts_any _ _ R _ (TSl.at_ HS7.out) (TSl.at_ HSL7.out) (by have := HRS.out.1; omega)).mono ?_; rintro e w8 ⟨rfl, t8⟩; have HT8 : Hid (Turns nobody w7 w8) := Lib.hid (Turns.drawn (F := nobody) t8); clear t8)
            clear hcr hnI
            have HM8 := Lib.hid (HM7.out.still HT8.out)
            have HS8 : Hid (TSl w8 _ _) := Lib.hid (Sl.keep HSL7.out HT8.out (fun _ _ h => h))
            have HTT8 := Lib.hid (HT7.out.trans HT8.out (fun _ h => h.elim))
            have hsn := snap_ok _ V m _ R w8 HM8.out HPL.out.2.2.1 (fun W hW => TSl.at_ (hW.sl HS8.out not_okV_str)) (by have := HRS.out.1; omega) HRS.out.2 (by have := HPL.out.2.1; omega) (HTB2.out.still HTT8.out)
            go_upto_region 16 with (go_at_call 50; refine hsn.mono ?_; rintro e w9 ⟨rfl, hm9, t9⟩; have HM9 := Lib.hid hm9; have HS9 : Hid (TSl w9 _ _) := Lib.hid (t9.sl HS8.out not_okV_str); have HT9 := Lib.hid (t9.turns HTT8.out); clear hm9 t9)
            clear hsn
            have huse := use_any _ V _ w9 HM9.out
            have hno := snp_no m R
            rw [hno] at huse
            have hnI : (((m.no + 1 : Nat) : Int) == (m.no : Int) + 1) = true := by rw [beq_iff_eq]; push_cast; rfl
            have hno1 : m.no ≤ 1 := HPL.out.2.1
            go_upto_region 17 with (go_at_call 49; refine huse.mono ?_; rintro e w10 ⟨rfl, t10⟩; have HM10 := Lib.hid (HM9.out.still t10); have HS10 := Lib.hid (Sl.keep HS9.out t10 (fun _ _ h => h) : TSl w10 _ _); have HT10 := Lib.hid (HT9.out.trans t10 (fun _ h => h.elim)); clear t10)
            clear huse
            have hcr := crash_any _ V _ 0 w10 HM10.out HPL.out.2.2.2.2.1 (by decide) (by decide) (HTB2.out.still HT10.out)
            rw [HPL.out.2.2.2.2.2 0] at hcr
            go_wp2_with first
              | (go_at_call 44; refine hcr.mono ?_; rintro e w11 ⟨v11, rfl, hs11, hn11, hm11, t11⟩; have HS11 := Lib.hid hs11; have HSL11 : Hid (TSl w11 _ _) := Lib.hid (t11.sl HS10.out not_okV_str); have HT11 := Lib.hid (t11.turns HT10.out); clear hs11 hn11 hm11 t11)
              | (go_at_call 45; refine (texts_any _ _ R _ (TSl.at_ HS11.out) (TSl.at_ HSL11.out) (by have := HRS.out.1; omega)).mono ?_; rintro e w12 ⟨rfl, t12⟩; have HT12 : Hid (Turns nobody w2 w12) := Lib.hid (HT11.out.trans (Turns.drawn (F := nobody) t12) (fun _ h => h.elim)); clear t12)
              | (go_at_call 46; refine (awake_any _ ⟨(HTB2.out.still HT12.out).t, Nat.lt_of_lt_of_le HTB2.out.lt HT12.out.size⟩).mono ?_; rintro e w13 ⟨rfl, t13⟩; have HT13 := Lib.hid (HT12.out.trans t13 (fun _ h => h.elim)); clear t13)
            go_ret
            exact ⟨rfl, HT2.out.trans HT13.out (fun _ h => h.elim)⟩
end Go.Proofs.YtlhcmgjkhkcgcaaDoor.vault
