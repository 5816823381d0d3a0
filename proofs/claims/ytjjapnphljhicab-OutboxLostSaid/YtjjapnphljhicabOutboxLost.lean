/- OutboxLost: the walk. -/
import Derived.Test.YtjjapnphljhicabOutboxZero
namespace Go.Proofs.Ytjjapnphljhicab.outbox
open Go.RowKit Go.Conc
open Go.Proofs.Ytjjapnphljhicab.stepkit Go.Proofs.Ytjjapnphljhicab.row Go.Proofs.Ytjjapnphljhicab.mix Go.Proofs.Ytjjapnphljhicab.obj Go.Proofs.Ytjjapnphljhicab.eqkit Go.Proofs.Ytjjapnphljhicab.commkit

set_option maxRecDepth 10000 in
set_option maxHeartbeats 1000000 in
theorem lost_law (n : Nat) (hn : n ≤ 65535) (w : World) : Calls Try.prog 3 #[.int .u16 n] w fun e w' => e = .returned (.bool true) ∧ Below w.heap.size w w' := by
  have N : Calls Try.prog 7 #[.int .i64 1] w _ := new_live 1 w (by omega) (by omega)
  obtain ⟨q, hq⟩ : ∃ q, n % 1200 = q := ⟨_, rfl⟩
  have hq20 : q < 1200 := by rw [← hq]; exact Nat.mod_lt _ (by decide)
  have hqm : Int.tmod (n : Int) 1200 = (q : Int) := by rw [Int.tmod_eq_emod_of_nonneg (by omega)]; omega
  clear hq
  have q1 : ∀ W, Live w (w.heap.size + 1) 1 [] 0 W → _ := fun W h => put_live (t := 1) (b := ⟨#[]⟩) (r := 0) (l' := [⟨1, ⟨#[]⟩⟩]) (lost' := 0) h (by omega) (by omega) rfl rfl rfl
  have q2 : ∀ (j : Nat), j < 1200 → ∀ W, Live w (w.heap.size + 1) 1 [⟨1, ⟨#[]⟩⟩] (min (j : Int) 1000) W → _ := fun j hj W h => put_live (t := 2) (b := ⟨#[]⟩) (r := 6) (l' := [⟨1, ⟨#[]⟩⟩]) (lost' := min ((j + 1 : Nat) : Int) 1000) h (by omega) (by omega) rfl rfl (by simp [putC]; omega)
  have q3 : ∀ W, Live w (w.heap.size + 1) 1 [⟨1, ⟨#[]⟩⟩] (min (q : Int) 1000) W → _ := fun W h => take_live (n := 2) (l1 := [⟨1, ⟨#[]⟩⟩]) (l2 := []) h (by simp) rfl rfl
  go_enter Try.func3, Try.ntmps3
  go_wp2_with first
    | (go_at_call 8; (with_reducible refine (q1 _ h1).mono ?_); rintro e w2 ⟨rfl, h2⟩)
    | (go_at_call 7; refine N.mono ?_; rintro e w1 ⟨rfl, h1⟩)
  go_loopw [6] (fun i wr => ∃ j : Nat, j ≤ q ∧ i = .int .i64 j ∧ Live w (w.heap.size + 1) 1 [⟨1, ⟨#[]⟩⟩] (min (j : Int) 1000) wr) (fun i _ => 1200 - (intOf i).toNat)
  case atStart => exact ⟨0, Nat.zero_le _, rfl, h2⟩
  case round =>
    obtain ⟨j, hj, rfl, hL⟩ := hrel
    by_cases hlt : j < q
    · have qq := q2 j (by omega) _ hL
      clear q1 q2 q3 N h1 h2
      go_wp2_with (go_at_call 8; (with_reducible refine qq.mono ?_); rintro e w3 ⟨rfl, h3⟩)
      go_roundw
      case rel => exact ⟨j + 1, by omega, by go_num, h3⟩
      case measure => simp [intOf]; omega
    · obtain rfl : j = q := by omega
      have q4 := q3 _ hL
      obtain ⟨m, hm⟩ : ∃ m, min (j : Int) 1000 = m := ⟨_, rfl⟩
      rw [hm] at q4
      clear q1 q2 q3 N h1 h2 hlt
      go_wp2_with first
        | (go_at_call 9; (with_reducible refine q4.mono ?_); rintro e w4 ⟨⟨ao, cap, rfl, hs⟩, h4⟩; obtain ⟨g, o, c, hv, _⟩ := Sl.some_of_pos hs (by simp); cases hv; have hc := (OSl.cell (l := [⟨1, ⟨#[]⟩⟩]) hs 0 (by simp)).1; simp only [Nat.zero_mul, Nat.add_zero, List.getD_cons_zero] at hc; have HT4 := Lib.hid h4.turns; clear hs)
        | (go_at_call 10; (with_reducible refine (lost_live h4).mono ?_); rintro e w5 ⟨rfl, rfl⟩)
        | (go_at_call 11; refine (awake_any _).mono ?_; rintro e w6 ⟨rfl, g6⟩)
      all_goals go_ret
      all_goals exact ⟨rfl, (HT4.out.trans g6 (fun _ h => False.elim h)).below (Nat.le_refl _) (fun _ h => False.elim h)⟩

end Go.Proofs.Ytjjapnphljhicab.outbox
