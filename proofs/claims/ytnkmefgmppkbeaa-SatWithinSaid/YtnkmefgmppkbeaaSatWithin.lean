/- SatWithin: within the limits. -/
import Derived.Test.YtnkmefgmppkbeaaSatAll
namespace Go.Proofs.Ytnkmefgmppkbeaa.sat
open Go.RowKit
open Go.Proofs.Ytnkmefgmppkbeaa.stepkit Go.Proofs.Ytnkmefgmppkbeaa.mix Go.Proofs.Ytnkmefgmppkbeaa.row

set_option maxHeartbeats 4000000 in
theorem within_any (n d e least most : Int) (w : World) (hn1 : -9223372036854775808 ≤ n) (hn2 : n ≤ 9223372036854775807) (hd1 : -9223372036854775808 ≤ d) (hd2 : d ≤ 9223372036854775807) (he1 : -9223372036854775808 ≤ e) (he2 : e ≤ 9223372036854775807)
    (hm1 : -9223372036854775808 ≤ most) (hm2 : most ≤ 9223372036854775807) (hl1 : -9223372036854775808 ≤ least) (hl2 : least ≤ 9223372036854775807) :
    Calls Try.prog 4 #[.int .i64 n, .int .i64 d, .int .i64 e, .int .i64 least, .int .i64 most] w fun e w' => e = .returned (.bool true) ∧ Below w.heap.size w w' := by
  by_cases hlm : most < least
  · have hs : satAdd n d least most = least := by unfold satAdd; omega
    go_enter Try.func4, Try.ntmps4
    go_wp2_with first
      | (go_at_call 7; refine (add_any _ _ _ _ _ hn1 hn2 hd1 hd2).mono ?_; rintro e w2 ⟨rfl, rfl⟩; rw [hs])
      | (go_at_call 11; refine (awake_any _).mono ?_; rintro e w2 ⟨rfl, h2⟩)
    go_ret
    exact ⟨rfl, h2⟩
  · obtain ⟨a, ha⟩ : ∃ a, satAdd n d least most = a := ⟨_, rfl⟩
    obtain ⟨b, hb⟩ : ∃ b, satAdd n e least most = b := ⟨_, rfl⟩
    have f1 : least ≤ a ∧ a ≤ most := by rw [← ha]; unfold satAdd; omega
    have f2 : d ≤ e → a ≤ b := by rw [← ha, ← hb]; unfold satAdd clamp; omega
    have f3 : e ≤ d → b ≤ a := by rw [← ha, ← hb]; unfold satAdd clamp; omega
    have f4 : (-1000000 < n ∧ n < 1000000) ∧ (-1000000 < d ∧ d < 1000000) → (least ≤ n + d ∧ n + d ≤ most) → a = n + d := by rw [← ha]; unfold satAdd clamp; omega
    have HA := Lib.hid ha
    have HB := Lib.hid hb
    have F4 := Lib.hid f4
    clear ha hb f4
    obtain ⟨g1, g2⟩ := f1
    have g3 : ¬ a < least := by omega
    have g4 : ¬ most < a := by omega
    have k3 : (d < e ∧ a ≤ b) ∨ (d = e ∧ a ≤ b ∧ b ≤ a) ∨ (e < d ∧ b ≤ a) := by omega
    clear f2 f3
    have cs : (n ≤ -1000000) ∨ (-1000000 < n ∧ 1000000 ≤ n) ∨ ((-1000000 < n ∧ n < 1000000) ∧ d ≤ -1000000) ∨ ((-1000000 < n ∧ n < 1000000) ∧ -1000000 < d ∧ 1000000 ≤ d) ∨
        ((-1000000 < n ∧ n < 1000000) ∧ (-1000000 < d ∧ d < 1000000) ∧ n + d < least) ∨ ((-1000000 < n ∧ n < 1000000) ∧ (-1000000 < d ∧ d < 1000000) ∧ least ≤ n + d ∧ most < n + d) ∨
        ((-1000000 < n ∧ n < 1000000) ∧ (-1000000 < d ∧ d < 1000000) ∧ least ≤ n + d ∧ n + d ≤ most ∧ a = n + d) := by have f4 := F4.out; omega
    clear F4
    rcases k3 with ⟨k1, k2⟩ | ⟨rfl, k2, k3⟩ | ⟨k1, k2⟩
    all_goals (
      rcases cs with cs | ⟨cs, cs1⟩ | ⟨⟨cs, cs1⟩, cs2⟩ | ⟨⟨cs, cs1⟩, cs2, cs3⟩ | ⟨⟨cs, cs1⟩, ⟨cs2, cs3⟩, cs4⟩ | ⟨⟨cs, cs1⟩, ⟨cs2, cs3⟩, cs4, cs5⟩ | ⟨⟨cs, cs1⟩, ⟨cs2, cs3⟩, cs4, cs5, cs6⟩
      all_goals (
        go_enter Try.func4, Try.ntmps4
        go_wp2_with first
          | (go_at_call 7; first | (with_reducible refine (add_any n d least most _ hn1 hn2 hd1 hd2).mono ?_; rintro e w2 ⟨rfl, rfl⟩; rw [HA.out]) | (with_reducible refine (add_any n e least most _ hn1 hn2 he1 he2).mono ?_; rintro e w2 ⟨rfl, rfl⟩; rw [HB.out]))
          | (go_at_call 11; refine (awake_any _).mono ?_; rintro e w2 ⟨rfl, h2⟩)
        go_ret
        exact ⟨rfl, h2⟩))
end Go.Proofs.Ytnkmefgmppkbeaa.sat
