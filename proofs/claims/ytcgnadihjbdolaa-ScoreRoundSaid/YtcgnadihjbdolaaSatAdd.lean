/- sat.Add and its document's answer. -/
import Derived.Test.YtcgnadihjbdolaaMix
import Derived.Test.YtcgnadihjbdolaaStepKit
import Derived.Test.YtcgnadihjbdolaaRow
namespace Go.Proofs.Ytcgnadihjbdolaa.sat
open Go.RowKit
open Go.Proofs.Ytcgnadihjbdolaa.stepkit Go.Proofs.Ytcgnadihjbdolaa.mix Go.Proofs.Ytcgnadihjbdolaa.row

def clamp (x : Int) : Int := max (-9223372036854775808) (min x 9223372036854775807)
def satAdd (n d least most : Int) : Int := max least (min (clamp (n + d)) most)

theorem ite_min1 (a b : Int) {i : Decidable (a ≤ b)} : (@ite Int (a ≤ b) i a b) = min a b := by split <;> omega
theorem ite_min2 (a b : Int) {i : Decidable (b < a)} : (@ite Int (b < a) i b a) = min a b := by split <;> omega
theorem ite_max1 (a b : Int) {i : Decidable (a ≤ b)} : (@ite Int (a ≤ b) i b a) = max a b := by split <;> omega
theorem ite_max2 (a b : Int) {i : Decidable (a < b)} : (@ite Int (a < b) i b a) = max a b := by split <;> omega

theorem sum_any (n d : Int) (w : World) (hn1 : -9223372036854775808 ≤ n) (hn2 : n ≤ 9223372036854775807) (hd1 : -9223372036854775808 ≤ d) (hd2 : d ≤ 9223372036854775807) :
    Calls Try.prog 20 #[.int .i64 n, .int .i64 d] w fun e w' => e = .returned (.int .i64 (clamp (n + d))) ∧ w = w' := by
  rcases Int.lt_trichotomy d 0 with hd | hd | hd
  · by_cases h : n < -9223372036854775808 - d
    · have hc : clamp (n + d) = -9223372036854775808 := by unfold clamp; omega
      rw [hc]
      go_enter Try.func20, Try.ntmps20
      go_wp2
      go_ret
      exact ⟨rfl, rfl⟩
    · have hc : clamp (n + d) = n + d := by unfold clamp; omega
      rw [hc]
      go_enter Try.func20, Try.ntmps20
      go_wp2
      go_ret
      exact ⟨rfl, rfl⟩
  · subst hd
    have hc : clamp (n + 0) = n + 0 := by unfold clamp; omega
    rw [hc]
    go_enter Try.func20, Try.ntmps20
    go_wp2
    go_ret
    simp
  · by_cases h : 9223372036854775807 - d < n
    · have hc : clamp (n + d) = 9223372036854775807 := by unfold clamp; omega
      rw [hc]
      go_enter Try.func20, Try.ntmps20
      go_wp2
      go_ret
      exact ⟨rfl, rfl⟩
    · have hc : clamp (n + d) = n + d := by unfold clamp; omega
      rw [hc]
      go_enter Try.func20, Try.ntmps20
      go_wp2
      go_ret
      exact ⟨rfl, rfl⟩

theorem add_any (n d least most : Int) (w : World) (hn1 : -9223372036854775808 ≤ n) (hn2 : n ≤ 9223372036854775807) (hd1 : -9223372036854775808 ≤ d) (hd2 : d ≤ 9223372036854775807) :
    Calls Try.prog 17 #[.int .i64 n, .int .i64 d, .int .i64 least, .int .i64 most] w fun e w' => e = .returned (.int .i64 (satAdd n d least most)) ∧ w = w' := by
  obtain ⟨c, hc⟩ : ∃ c, clamp (n + d) = c := ⟨_, rfl⟩
  have HC := Lib.hid hc
  have hs : satAdd n d least most = max least (min c most) := by unfold satAdd; rw [hc]
  rw [hs]
  go_enter Try.func17, Try.ntmps17
  go_wp2_with (go_at_call 20; refine (sum_any _ _ _ hn1 hn2 hd1 hd2).mono ?_; rintro e w1 ⟨rfl, rfl⟩; rw [HC.out])
  all_goals (go_ret; refine ⟨?_, rfl⟩; show Ending.returned (Value.int .i64 _) = Ending.returned (Value.int .i64 _); congr 2; simp only [ite_min2] at *; omega)

set_option maxHeartbeats 1000000 in
theorem ref_add_any (n d least most : Int) (w : World) (hn1 : -9223372036854775808 ≤ n) (hn2 : n ≤ 9223372036854775807) (hd1 : -9223372036854775808 ≤ d) (hd2 : d ≤ 9223372036854775807)
    (hm1 : -9223372036854775808 ≤ most) (hm2 : most ≤ 9223372036854775807) (hl1 : -9223372036854775808 ≤ least) (hl2 : least ≤ 9223372036854775807) :
    Calls Try.prog 18 #[.int .i64 n, .int .i64 d, .int .i64 least, .int .i64 most] w fun e w' => e = .returned (.int .i64 (satAdd n d least most)) ∧ w = w' := by
  obtain ⟨c, hc⟩ : ∃ c, satAdd n d least most = c := ⟨_, rfl⟩
  have HC := Lib.hid hc
  rw [hc]
  clear hc
  by_cases h1 : most < least
  · have hcc : c = least := by rw [← HC.out]; unfold satAdd clamp; omega
    rw [hcc]
    go_enter Try.func18, Try.ntmps18
    go_wp2
    go_ret
    exact ⟨rfl, rfl⟩
  · by_cases h2 : most ≤ n ∧ 0 ≤ d
    · have hcc : c = most := by rw [← HC.out]; unfold satAdd clamp; omega
      rw [hcc]
      obtain ⟨h2, h3⟩ := h2
      go_enter Try.func18, Try.ntmps18
      go_wp2
      go_ret
      exact ⟨rfl, rfl⟩
    · by_cases h3 : n ≤ least ∧ d ≤ 0
      · have hcc : c = least := by rw [← HC.out]; unfold satAdd clamp; omega
        rw [hcc]
        obtain ⟨h4, h5⟩ := h3
        by_cases h6 : most ≤ n
        · have h7 : ¬ 0 ≤ d := fun h => h2 ⟨h6, h⟩
          go_enter Try.func18, Try.ntmps18
          go_wp2
          go_ret
          exact ⟨rfl, rfl⟩
        · go_enter Try.func18, Try.ntmps18
          go_wp2
          go_ret
          exact ⟨rfl, rfl⟩
      · go_enter Try.func18, Try.ntmps18
        go_wp2_with fail
        all_goals (go_ret; refine ⟨?_, rfl⟩; show Ending.returned (Value.int .i64 _) = Ending.returned (Value.int .i64 _); congr 2; rw [← HC.out]; unfold satAdd clamp; clear HC; simp only [ite_min2, wrap64, IntKind.wrap_u64] at *; omega)

end Go.Proofs.Ytcgnadihjbdolaa.sat
