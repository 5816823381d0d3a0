/- RecordPuts. -/
import Derived.Test.YtlhcmgjkhkcgcaaDoorRecLaw1
import Derived.Test.YtlhcmgjkhkcgcaaDoorRefPut
namespace Go.Proofs.YtlhcmgjkhkcgcaaDoor.record
open Go.RowKit
open Go.Proofs.YtlhcmgjkhkcgcaaDoor.stepkit Go.Proofs.YtlhcmgjkhkcgcaaDoor.obj Go.Proofs.YtlhcmgjkhkcgcaaDoor.row Go.Proofs.YtlhcmgjkhkcgcaaDoor.mix Go.Proofs.YtlhcmgjkhkcgcaaDoor.idkit Go.Proofs.YtlhcmgjkhkcgcaaDoor.bytes Go.Proofs.YtlhcmgjkhkcgcaaDoor.octet Go.Proofs.YtlhcmgjkhkcgcaaDoor.eqkit

set_option maxRecDepth 10000 in
set_option maxHeartbeats 1000000 in
theorem puts_any (K : Int) (b s : ByteArray) (k : Int) (w : World) (ht : crc.TabAt w) (hb : b.size ≤ maxLen) (hs : s.size ≤ maxLen) :
    Calls Tryd.prog 3 #[recV K b, .string s, .int .i64 k] w fun e w' => e = .returned (.bool true) ∧ Turns nobody w w' := by
  obtain ⟨wa, hwa⟩ : ∃ wa, wa = w.alloc (.cells #[.int .i64 K, .string b] 23) := ⟨_, rfl⟩
  have ta : Turns nobody w wa := by rw [hwa]; exact (Turns.refl _ _).alloc _
  obtain ⟨H, hH⟩ : ∃ H, w.heap.size = H := ⟨_, rfl⟩
  have hca : wa.heap[H]? = some (.cells #[.int .i64 K, .string b] 23 (0, 0)) := by rw [hwa, ← hH]; exact heap_alloc_new w _
  have c0 := cells_of hca 0 _ rfl
  have c1 := cells_of hca 1 _ rfl
  have HWA := Lib.hid hwa
  have HTA := Lib.hid ta
  have HCA := Lib.hid hca
  have HHH := Lib.hid hH
  clear hwa ta hca
  unfold recV
  rcases Classical.em (5000 < b.size ∨ 5000 < s.size) with hl | hl
  · have hawk := awake_any wa (Tab.turns ht HTA.out (fun h => h))
    clear ht
    rcases Classical.em (5000 < b.size) with h1 | h1
    · have h1' : (5000 : Int) < (b.size : Int) := by omega
      go_enter Tryd.func3, Tryd.ntmps3
      go_upto_region 1 with fail
      rw [← HWA.out]
      go_wp2_with first
        | (go_at_call 16; refine hawk.mono ?_; rintro e w9 ⟨rfl, t9⟩)
      go_ret
      exact ⟨rfl, HTA.out.trans t9 (fun _ h => h.elim)⟩
    · have h2' : (5000 : Int) < (s.size : Int) := by omega
      have h1' : ¬ (5000 : Int) < (b.size : Int) := by omega
      go_enter Tryd.func3, Tryd.ntmps3
      go_upto_region 1 with fail
      rw [← HWA.out]
      go_wp2_with first
        | (go_at_call 16; refine hawk.mono ?_; rintro e w9 ⟨rfl, t9⟩)
      go_ret
      exact ⟨rfl, HTA.out.trans t9 (fun _ h => h.elim)⟩
  · have hb' : ¬ (5000 : Int) < (b.size : Int) := by omega
    have hs' : ¬ (5000 : Int) < (s.size : Int) := by omega
    have hpu := fun W hW => put_any K b W hW (by omega)
    have hrp := fun W => refput_any K b W (by omega)
    have hnx := fun W hW => next_any s k W (by omega) hW
    have hrn := fun W => refnext_any s k W (by omega)
    have hsz := fun W => size_any b.size (by omega) W
    have hgo : putE K b ≠ 0 ∨ (putE K b = 0 ∧ (putS K b).size = b.size + 9) := by
      rcases Nat.eq_zero_or_pos (putE K b) with h | h
      · refine Or.inr ⟨h, ?_⟩
        unfold putS
        rw [if_pos h, ← str_len]
        simp [putL_len]
      · exact Or.inl (by omega)
    obtain ⟨p, hp⟩ : ∃ p, putS K b = p := ⟨_, rfl⟩
    obtain ⟨pe, hpe⟩ : ∃ p, putE K b = p := ⟨_, rfl⟩
    obtain ⟨nk, hnk⟩ : ∃ p : Int, (nxK s k : Int) = p := ⟨_, rfl⟩
    obtain ⟨nb, hnb⟩ : ∃ p, nxB s k = p := ⟨_, rfl⟩
    obtain ⟨nn, hnn⟩ : ∃ p, nxN s k = p := ⟨_, rfl⟩
    obtain ⟨ne, hne⟩ : ∃ p, nxE s k = p := ⟨_, rfl⟩
    rw [hp, hpe] at hpu hrp hgo
    rw [hnk, hnb, hnn, hne] at hnx hrn
    unfold recV at hpu hrp hnx hrn
    have heq := fun W => (eq_rec2 W nk nb).2
    have HTB := Lib.hid ht
    have HPU := Lib.hid hpu
    have HRP := Lib.hid hrp
    have HNX := Lib.hid hnx
    have HRN := Lib.hid hrn
    have HSZ := Lib.hid hsz
    clear ht hpu hrp hnx hrn hsz hp hpe hnk hnb hnn hne hl
    go_enter Tryd.func3, Tryd.ntmps3
    go_upto_region 1 with fail
    rw [← HWA.out]
    go_upto_region 3 with fail
    go_upto_region 4 with (go_at_call 17; refine (HPU.out _ (Tab.turns HTB.out HTA.out (fun h => h))).mono ?_; rintro e w1 ⟨rfl, t1⟩; have HC1 := Lib.hid (heap_newer HCA.out t1 (fun h => h)); have HT1 := Lib.hid (HTA.out.trans t1 (fun _ h => h.elim)); clear t1)
    have c0 := cells_of HC1.out 0 _ rfl
    have c1 := cells_of HC1.out 1 _ rfl
    go_upto_region 5 with (go_at_call 18; refine (HRP.out _).mono ?_; rintro e w2 ⟨rfl, t2⟩; have HC2 := Lib.hid (heap_newer HC1.out t2 (fun h => h)); have HT2 := Lib.hid (HT1.out.trans t2 (fun _ h => h.elim)); clear t2)
    clear c0 c1
    go_upto_region 6 with (go_at_call 19; refine (HNX.out _ (Tab.turns HTB.out HT2.out (fun h => h))).mono ?_; rintro e w3 ⟨rfl, t3⟩; have HC3 := Lib.hid (heap_newer HC2.out t3 (fun h => h)); have HT3 := Lib.hid (HT2.out.trans t3 (fun _ h => h.elim)); clear t3)
    obtain ⟨P, hP⟩ : ∃ P, w3.heap.size = P := ⟨_, rfl⟩
    obtain ⟨w4, hw4⟩ : ∃ w4, w4 = w3.alloc (.cells #[.int .i64 nk, .string nb] 23) := ⟨_, rfl⟩
    have t4 : Turns nobody w3 w4 := by rw [hw4]; exact (Turns.refl _ _).alloc _
    have e4 : w4.heap[P]? = some (.cells #[.int .i64 nk, .string nb] 23 (0, 0)) := by rw [hw4, ← hP]; exact heap_alloc_new w3 _
    have HC4 := Lib.hid (heap_newer HC3.out t4 (fun h => h))
    have HT4 := Lib.hid (HT3.out.trans t4 (fun _ h => h.elim))
    have HE4 := Lib.hid e4
    rw [← hw4, hP]
    clear hw4 t4 hP e4
    go_upto_region 7 with (go_at_call 20; refine (HRN.out _).mono ?_; rintro e w5 ⟨rfl, t5⟩; have HC5 := Lib.hid (heap_newer HC4.out t5 (fun h => h)); have HE5 := Lib.hid (heap_newer HE4.out t5 (fun h => h)); have HT5 := Lib.hid (HT4.out.trans t5 (fun _ h => h.elim)); clear t5)
    obtain ⟨R, hR⟩ : ∃ R, w5.heap.size = R := ⟨_, rfl⟩
    obtain ⟨w6, hw6⟩ : ∃ w6, w6 = w5.alloc (.cells #[.int .i64 nk, .string nb] 23) := ⟨_, rfl⟩
    have t6 : Turns nobody w5 w6 := by rw [hw6]; exact (Turns.refl _ _).alloc _
    have e6 : w6.heap[R]? = some (.cells #[.int .i64 nk, .string nb] 23 (0, 0)) := by rw [hw6, ← hR]; exact heap_alloc_new w5 _
    have c6 := heap_newer HC5.out t6 (fun h => h)
    have d6 := heap_newer HE5.out t6 (fun h => h)
    have HT6 := Lib.hid (HT5.out.trans t6 (fun _ h => h.elim))
    rw [← hw6, hR]
    clear hw6 t6 hR
    have c0 := cells_of c6 0 _ rfl
    have c1 := cells_of c6 1 _ rfl
    have d0 := cells_of d6 0 _ rfl
    have d1 := cells_of d6 1 _ rfl
    have e0 := cells_of e6 0 _ rfl
    have e1 := cells_of e6 1 _ rfl
    clear c6 d6 e6
    have HSN : Hid (∀ W, Calls Tryd.prog 21 #[.int .i64 (-1)] W fun e w' => e = .returned (.int .i64 0) ∧ W = w') := Lib.hid (fun W => size_neg W)
    have HAW : Hid (Calls Tryd.prog 16 #[] w6 fun e w' => e = .returned (.bool true) ∧ Turns nobody w6 w') := Lib.hid (awake_any w6 (Tab.turns HTB.out HT6.out (fun h => h)))
    rcases hgo with hz | ⟨hz, hz2⟩
    · have hz' : ((pe : Int) != 0) = true := by simpa using hz
      go_wp2_with first
        | (go_at_call 21; refine (HSN.out _).mono ?_; rintro e w7 ⟨rfl, rfl⟩)
        | (go_at_call 16; refine HAW.out.mono ?_; rintro e w9 ⟨rfl, t9⟩)
      go_ret
      exact ⟨rfl, HT6.out.trans t9 (fun _ h => h.elim)⟩
    · subst hz
      have hz3 : (p.size : Int) = ((b.size + 9 : Nat) : Int) := by omega
      go_wp2_with first
        | (with_reducible go_at_call 21; refine (HSN.out _).mono ?_; rintro e w7 ⟨rfl, rfl⟩)
        | (with_reducible go_at_call 21; refine (HSZ.out _).mono ?_; rintro e w7 ⟨rfl, rfl⟩)
        | (go_at_call 16; refine HAW.out.mono ?_; rintro e w9 ⟨rfl, t9⟩)
      go_ret
      exact ⟨rfl, HT6.out.trans t9 (fun _ h => h.elim)⟩
end Go.Proofs.YtlhcmgjkhkcgcaaDoor.record
