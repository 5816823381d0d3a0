/- BlockSafe: what is safe stays, whatever the crash. -/
import Derived.Test.YtndgggodkfealaaBlockZero
import Derived.Test.YtndgggodkfealaaJoin
namespace Go.Proofs.Ytndgggodkfealaa.block
open Go.RowKit
open Go.Proofs.Ytndgggodkfealaa.stepkit Go.Proofs.Ytndgggodkfealaa.mix Go.Proofs.Ytndgggodkfealaa.row Go.Proofs.Ytndgggodkfealaa.join Go.Proofs.Ytndgggodkfealaa.argkit

/-- The text with these bytes. -/
def txt (b : ByteArray) (l : List UInt8) : Prop := b.data.toList = l
theorem txt_size {b : ByteArray} {l : List UInt8} (h : txt b l) : b.size = l.length := by rw [← h]; exact Array.length_toList.symm
theorem txt_add {b s : ByteArray} {l : List UInt8} (h : txt b l) : txt (b ++ s) (l ++ s.data.toList) := by
  unfold txt at *; rw [← h]; simp
theorem txt_nil : txt (ByteArray.mk #[]) [] := rfl
theorem txt_take {b : ByteArray} {l : List UInt8} (h : txt b l) (k : Nat) (hk : k ≤ l.length) : b.extract 0 k = ⟨(l.take k).toArray⟩ := by
  unfold txt at h
  subst h
  apply ByteArray.ext
  apply Array.ext'
  simp

theorem keepOf_ge (len safe : Nat) (k : Int) : safe ≤ keepOf len safe k := by unfold keepOf; omega
theorem keepOf_in {len safe : Nat} {k : Int} (h0 : 0 ≤ k) (h1 : k ≤ (len : Int) - safe) : (keepOf len safe k : Int) = safe + k := by unfold keepOf; omega
theorem keepOf_all (len : Nat) (k : Int) : keepOf len len k = len := by unfold keepOf; omega

set_option maxHeartbeats 1000000 in
theorem safe_any (ao bo : Option Addr) (ss ts : List ByteArray) (ca cb : Nat) (n : Int) (w : World) (hca : ss.length ≤ maxLen) (hcb : ts.length ≤ maxLen) (hra : RowAt w w.heap.size ao (ss.map Value.string)) (hrb : RowAt w w.heap.size bo (ts.map Value.string))
    (hs : total ss ≤ 1048576) (ht : total ts ≤ 1048576) (hn1 : -9223372036854775808 ≤ n) (hn2 : n ≤ 9223372036854775807) :
    Calls Try.prog 3 #[.slice ao ss.length ca, .slice bo ts.length cb, .int .i64 n] w fun e w' => e = .returned (.bool true) ∧ Below w.heap.size w w' := by
  unfold maxLen at hca hcb
  have HSS : ∀ k, (joined ss k).length ≤ 1048576 := fun k => Nat.le_trans (joined_le ss k) hs
  have HTS : ∀ k, (joined ts k).length ≤ 1048576 := fun k => Nat.le_trans (joined_le ts k) ht
  clear hs ht
  obtain ⟨B, hB⟩ : ∃ B, w.heap.size = B := ⟨_, rfl⟩
  rw [hB] at hra hrb ⊢
  go_enter Try.func3, Try.ntmps3
  go_wp2_with (go_at_call 6; refine (new_any _).mono ?_; rintro e w1 ⟨rfl, hw1⟩; have hb := Held.new hw1; rw [hB] at hb ⊢; clear hw1 hB)
  go_loopw [8, 9] (fun a i wr => ∃ (k : Nat) (b : ByteArray), k ≤ ss.length ∧ k ≤ 20 ∧ i = .int .i64 k ∧ a = .string b ∧ txt b (joined ss k) ∧ Held B w B (joined ss k) 0 wr) (fun _ i _ => 20 - (intOf i).toNat)
  case atStart => exact ⟨0, ByteArray.mk #[], by omega, by omega, rfl, rfl, txt_nil, hb⟩
  case round =>
    clear hb
    obtain ⟨k, b, hk, hk20, rfl, rfl, htx, hb⟩ := hrel
    have hl1 := HSS k
    by_cases hlt : k < ss.length ∧ k < 20
    · obtain ⟨h1, h2⟩ := hlt
      obtain ⟨bb, oo, rfl, hbb, hcell⟩ := hra (by simp; omega)
      have hc := hcell k (by simpa using h1)
      obtain ⟨s, hs⟩ : ∃ s, s = ss.getD k ByteArray.empty := ⟨_, rfl⟩
      have hcw : w.cell? ⟨bb, oo + k, none⟩ = some (.string s) := by rw [hc, hs]; simp [List.getD, h1]
      have hcs := (hb.2.1.cell (p := ⟨bb, oo + k, none⟩) hbb).trans hcw
      have hj := joined_succ ss k h1
      rw [← hs] at hj
      have hl2 := HSS (k + 1)
      rw [hj, List.length_append] at hl2
      have hsz : s.data.toList.length = s.size := Array.length_toList
      have hbz := txt_size htx
      have hno : ¬ 9223372036854775807 < b.size + s.size := by omega
      clear hc hcell hs
      have HJ := Lib.hid hj
      clear hj
      go_wp2_with (go_at_call 7; refine (write_any _ _ _ _ _ hb.1 (by omega)).mono ?_; rintro e w2 ⟨rfl, hb2, hg2⟩; replace hb := hb.step hb2 hg2; clear hb2 hg2; clear hcs; have hcs := (hb.2.1.cell (p := ⟨bb, oo + k, none⟩) hbb).trans hcw)
      go_roundw
      case rel => exact ⟨k + 1, _, by omega, by omega, by go_num, rfl, by rw [HJ.out]; exact txt_add htx, by rw [HJ.out]; exact hb⟩
      case measure => simp [intOf]; omega
    · have hex : ss.length ≤ k ∨ (k < ss.length ∧ 20 ≤ k) := by omega
      clear hlt
      obtain ⟨L, hL⟩ : ∃ L, L = joined ss k := ⟨_, rfl⟩
      rw [← hL] at htx hb hl1
      have hLs := txt_size htx
      clear hL HSS hra
      rcases hex with hex | ⟨hex1, hex2⟩
      all_goals (
        go_wp2_with (go_at_call 8; refine (sync_any _ _ _ _ hb.1 (by omega)).mono ?_; rintro e w2 ⟨rfl, hb2, hg2⟩; replace hb := hb.step hb2 hg2; clear hb2 hg2)
        go_loopw [10, 11] (fun a i wt => ∃ (m : Nat) (c : ByteArray), m ≤ ts.length ∧ m ≤ 20 ∧ i = .int .i64 m ∧ a = .string c ∧ txt c (L ++ joined ts m) ∧ Held B w B (L ++ joined ts m) L.length wt) (fun _ i _ => 20 - (intOf i).toNat)
        case atStart => exact ⟨0, b, by omega, by omega, rfl, rfl, by simpa [joined_zero] using htx, by simpa [joined_zero] using hb⟩
        case round =>
          clear hb
          obtain ⟨m, c, hm, hm20, rfl, rfl, htc, hb⟩ := hrel
          have hl3 := HTS m
          have hcz := txt_size htc
          rw [List.length_append] at hcz
          by_cases hlt : m < ts.length ∧ m < 20
          · obtain ⟨h1, h2⟩ := hlt
            obtain ⟨bb, oo, rfl, hbb, hcell⟩ := hrb (by simp; omega)
            have hc := hcell m (by simpa using h1)
            obtain ⟨s, hs⟩ : ∃ s, s = ts.getD m ByteArray.empty := ⟨_, rfl⟩
            have hcw : w.cell? ⟨bb, oo + m, none⟩ = some (.string s) := by rw [hc, hs]; simp [List.getD, h1]
            have hcs := (hb.2.1.cell (p := ⟨bb, oo + m, none⟩) hbb).trans hcw
            have hj := joined_succ ts m h1
            rw [← hs] at hj
            have hl2 := HTS (m + 1)
            rw [hj, List.length_append] at hl2
            have hsz : s.data.toList.length = s.size := Array.length_toList
            have hno : ¬ 9223372036854775807 < c.size + s.size := by omega
            clear hc hcell hs
            have HJ := Lib.hid hj
            clear hj
            go_wp2_with (go_at_call 7; refine (write_any _ _ _ _ _ hb.1 (by rw [List.length_append]; omega)).mono ?_; rintro e w2 ⟨rfl, hb2, hg2⟩; replace hb := hb.step hb2 hg2; clear hb2 hg2; clear hcs; have hcs := (hb.2.1.cell (p := ⟨bb, oo + m, none⟩) hbb).trans hcw)
            go_roundw
            case rel => exact ⟨m + 1, _, by omega, by omega, by go_num, rfl, by rw [HJ.out, ← List.append_assoc]; exact txt_add htc, by rw [HJ.out, ← List.append_assoc]; exact hb⟩
            case measure => simp [intOf]; omega
          · have hex : ts.length ≤ m ∨ (m < ts.length ∧ 20 ≤ m) := by omega
            clear hlt
            obtain ⟨A, hA⟩ : ∃ A, A = L ++ joined ts m := ⟨_, rfl⟩
            have hAl : A.length = L.length + (joined ts m).length := by rw [hA, List.length_append]
            rw [← hA] at htc hb
            rw [← hAl] at hcz
            have hAm : A.length ≤ 2097152 := by omega
            have hAL : L.length ≤ A.length := by omega
            clear hA HTS hrb hl3 hAl
            obtain ⟨K, hK⟩ : ∃ K, keepOf A.length L.length n = K := ⟨_, rfl⟩
            have hK1 : L.length ≤ K := by rw [← hK]; exact keepOf_ge _ _ _
            have hK2 : K ≤ A.length := by rw [← hK]; exact keepOf_le hAL _
            have hK3 : 0 ≤ n → n ≤ (A.length : Int) - L.length → (K : Int) = L.length + n := by rw [← hK]; exact keepOf_in
            have HK := Lib.hid hK
            clear hK
            have hK4 : ¬ K < L.length := by omega
            have hK5 : ¬ A.length < K := by omega
            have hcut := txt_take htc K hK2
            obtain ⟨D, hD⟩ : ∃ D, D = A.take K := ⟨_, rfl⟩
            have hDl : D.length = K := by rw [hD, List.length_take, Nat.min_eq_left hK2]
            have hDt : D.take K = D := by rw [← hDl]; exact List.take_length
            have hDz : keepOf D.length K 0 = K := by rw [hDl]; exact keepOf_all _ _
            have hDs : (ByteArray.mk D.toArray).size = K := by rw [bytes_size]; exact hDl
            rw [← hD] at hcut
            have HD := Lib.hid hD
            clear hD
            rcases hex with hex | ⟨hex1, hex2⟩
            all_goals (
              go_wp2_with first
                | (go_at_call 9; refine (crash_any _ _ _ _ _ hb.1 (by omega) (by omega) (by omega)).mono ?_; rintro e w3 ⟨rfl, hb2, hg2⟩; replace hb := hb.step hb2 hg2; clear hb2 hg2; first | (rw [HK.out, ← HD.out] at hb; rw [HK.out]) | (rw [hDz, hDt] at hb; rw [hDz, hDl, Int.sub_self]))
                | (go_at_call 10; refine (data_any _ _ _ _ hb.1).mono ?_; rintro e w5 ⟨rfl, rfl⟩)
                | (go_at_call 8; refine (sync_any _ _ _ _ hb.1 (by omega)).mono ?_; rintro e w2 ⟨rfl, hb2, hg2⟩; replace hb := hb.step hb2 hg2; clear hb2 hg2; rw [hDl, Int.sub_self])
                | (go_at_call 11; refine (awake_any _).mono ?_; rintro e w4 ⟨rfl, hw4⟩)
              all_goals (go_ret; exact ⟨rfl, hb.2.1.trans (hw4.mono hb.2.2.2)⟩)))
end Go.Proofs.Ytndgggodkfealaa.block
