/- NetBound: never more are on their way than may be. -/
import Derived.Test.YtjjapnphljhicaaNetBoth
namespace Go.Proofs.Ytjjapnphljhicaa.net
open Go.RowKit
open Go.Proofs.Ytjjapnphljhicaa.stepkit Go.Proofs.Ytjjapnphljhicaa.row Go.Proofs.Ytjjapnphljhicaa.mix Go.Proofs.Ytjjapnphljhicaa.obj Go.Proofs.Ytjjapnphljhicaa.eqkit

/-- A block of its own. -/
def BoxAt (b : Nat) (cs : Array Value) (t : TypeId) : (Nat → Prop) → World → Prop := fun F w => w.heap[b]? = some (.cells cs t (0, 0)) ∧ F = fun i => i = b
theorem local_box (b : Nat) (cs : Array Value) (t : TypeId) : Local (BoxAt b cs t) := by
  rintro F w ⟨h, rfl⟩
  exact ⟨fun i hi => by rw [hi]; exact lt_of_block h, fun w' _ hh => ⟨by rw [hh b rfl]; exact h, rfl⟩⟩

/-- So many of one, and so many lost. -/
def many (x : Pc) (j : Nat) : List Pc := List.replicate (min j 256) x
def lostOf (j : Nat) : Int := ((j - 256 : Nat) : Int)
theorem many_len (x : Pc) (j : Nat) : (many x j).length = min j 256 := List.length_replicate ..
theorem many_succ (x : Pc) (j : Nat) (h : j < 256) : many x j ++ [x] = many x (j + 1) := by
  unfold many
  rw [Nat.min_eq_left (by omega), Nat.min_eq_left (by omega), List.replicate_succ']
theorem many_full (x : Pc) (j : Nat) (h : 256 ≤ j) : many x (j + 1) = many x j := by
  unfold many
  rw [Nat.min_eq_right (by omega), Nat.min_eq_right (by omega)]

theorem put_many (p : Nat) (x : Pc) (j : Nat) (hj : j < 400) (F : Nat → Prop) (w : World) (h : NetAt p (many x j) (lostOf j) F w) :
    Calls Try.prog 9 #[.pointer (some ⟨p, 0, none⟩), x.val] w fun e w' => e = .returned (.int .i64 (if j < 256 then 0 else 6)) ∧ Step F (NetAt p (many x (j + 1)) (lostOf (j + 1))) w w' := by
  by_cases hl : j < 256
  · rw [if_pos hl, ← many_succ x j hl, show lostOf (j + 1) = lostOf j from by unfold lostOf; omega]
    exact put_ok p _ _ x F w h (by rw [many_len]; omega)
  · rw [if_neg hl, many_full x j (by omega), show lostOf (j + 1) = min (lostOf j + 1) 1000 from by unfold lostOf; omega]
    exact put_full p _ _ x F w h (by rw [many_len]; omega) (by unfold lostOf; omega) (by unfold lostOf; omega)

/-- What doubling answers. -/
def dblOf (i : Int) (N : Nat) : Int := if i < 0 then 1 else if N = 0 then 7 else if N < 256 then 0 else 6

theorem double_many (p : Nat) (x : Pc) (N : Nat) (hN : N < 400) (i : Int) (F : Nat → Prop) (w : World) (h : NetAt p (many x N) (lostOf N) F w) :
    Calls Try.prog 13 #[.pointer (some ⟨p, 0, none⟩), .int .i64 i] w fun e w' => e = .returned (.int .i64 (dblOf i N)) ∧ ∃ l lost, l.length ≤ 256 ∧ Step F (NetAt p l lost) w w' := by
  have hml := many_len x N
  unfold dblOf
  by_cases hi : i < 0
  · rw [if_pos hi]
    exact (double_bad p _ i 1 w (by decide) (place_arg p _ _ i F w h hi)).mono fun e w' ⟨he, hw⟩ => ⟨he, many x N, lostOf N, by rw [hml]; omega, hw ▸ Step.same h (Turns.refl _ _)⟩
  · rw [if_neg hi]
    by_cases h0 : N = 0
    · rw [if_pos h0]
      subst h0
      exact (double_bad p _ i 7 w (by decide) (place_none p _ i F w h (by omega))).mono fun e w' ⟨he, hw⟩ => ⟨he, [], lostOf 0, by simp, hw ▸ Step.same (A := NetAt p [] (lostOf 0)) h (Turns.refl _ _)⟩
    · rw [if_neg h0]
      obtain ⟨n, rfl⟩ : ∃ n : Nat, i = n := ⟨i.toNat, by omega⟩
      refine double_put p _ _ n F w h (by omega) (by omega) _ _ ?_
      by_cases hl : N < 256
      · rw [if_pos hl]
        exact (put_ok p _ _ _ F w h (by omega)).mono fun e w' ⟨he, hw⟩ => ⟨he, _, _, by rw [List.length_append, hml]; simp; omega, hw⟩
      · rw [if_neg hl]
        exact (put_full p _ _ _ F w h (by omega) (by unfold lostOf; omega) (by unfold lostOf; omega)).mono fun e w' ⟨he, hw⟩ => ⟨he, _, _, by omega, hw⟩

set_option maxRecDepth 10000 in
set_option maxHeartbeats 4000000 in
theorem bound_any (f t : Int) (b : ByteArray) (k : Nat) (i : Int) (w : World) (hk : k ≤ 65535) :
    Calls Try.prog 4 #[.agg #[.int .i64 f, .int .i64 t, .string b], .int .u16 (k : Int), .int .i64 i] w fun e w' => e = .returned (.bool true) ∧ Below w.heap.size w w' := by
  obtain ⟨B, hB⟩ : ∃ B, w.heap.size = B := ⟨_, rfl⟩
  obtain ⟨N, hN⟩ : ∃ N, k % 400 = N := ⟨_, rfl⟩
  have HN : Hid ((k : Int) % 400 = (N : Int)) := by rw [← hN]; rfl
  have hN4 : N < 400 := by omega
  clear hN
  obtain ⟨x, hx⟩ : ∃ x : Pc, x = ⟨f, t, b⟩ := ⟨_, rfl⟩
  have HX := Lib.hid hx
  have h0 : many x 0 = [] := rfl
  have HM0 := Lib.hid h0
  clear hx h0
  rw [hB]
  go_enter Try.func4, Try.ntmps4
  go_wp2_with fail
  refine (new_any _).mono ?_
  rintro e w2 ⟨rfl, hw2⟩
  have hd : ∃ F G, Duo B w (NetAt (B + 1) (many x 0) (lostOf 0)) (BoxAt B #[.int .i64 f, .int .i64 t, .string b] 30) F G w2 := by
    have hn := new_at hw2
    have hz : (w.alloc (.cells #[.int .i64 f, .int .i64 t, .string b] 30)).heap.size = B + 1 := by simp [hB]
    rw [hz] at hn
    refine ⟨_, _, hn, ⟨?_, rfl⟩, fun i hi hg => ?_, fun i hi => ?_, fun i hi => ?_, ?_, ?_⟩
    · rw [hw2, ← hB]; exact heap_alloc2_old _ _ _
    · rcases hi with rfl | hi
      · omega
      · cases hi
    · rcases hi with rfl | hi
      · omega
      · cases hi
    · omega
    · rw [hw2]; exact ((Below.refl _ _).alloc (by omega) _).alloc (by rw [hz]; omega) _
    · rw [hw2]; simp; omega
  obtain ⟨F, G, hd⟩ := hd
  clear hw2
  go_wp2_with fail
  rw [HN.out]
  have hv : x.val = .agg #[.int .i64 f, .int .i64 t, .string b] := by rw [HX.out]; rfl
  have HV := Lib.hid hv
  clear hv
  go_loopw [9] (fun c wr => ∃ j : Nat, j ≤ N ∧ c = .int .i64 j ∧ ∃ F G, Duo B w (NetAt (B + 1) (many x j) (lostOf j)) (BoxAt B #[.int .i64 f, .int .i64 t, .string b] 30) F G wr) (fun c _ => N - (intOf c).toNat)
  case atStart => exact ⟨0, Nat.zero_le _, rfl, F, G, hd⟩
  case round =>
    clear hd F G
    obtain ⟨j, hj, rfl, F, G, hd⟩ := hrel
    have x0 := cells_of hd.c.1 0 _ rfl
    have x1 := cells_of hd.c.1 1 _ rfl
    have x2 := cells_of hd.c.1 2 _ rfl
    by_cases hlt : j < N
    · have hput := put_many (B + 1) x j (by omega) F wr hd.a
      rw [HV.out] at hput
      by_cases h256 : j < 256
      · rw [if_pos h256] at hput
        have hdj : decide ((j : Int) < 256) = true := by simp; omega
        go_wp2_with (go_at_call 9; refine hput.mono ?_; rintro e w3 ⟨rfl, hs⟩)
        obtain ⟨F2, hd2⟩ := hd.left (local_box _ _ _) hs
        go_roundw
        case rel => exact ⟨j + 1, by omega, by go_num, _, _, hd2⟩
        case measure => simp [intOf]; omega
      · rw [if_neg h256] at hput
        have hdj : decide ((j : Int) < 256) = false := by simp; omega
        go_wp2_with (go_at_call 9; refine hput.mono ?_; rintro e w3 ⟨rfl, hs⟩)
        obtain ⟨F2, hd2⟩ := hd.left (local_box _ _ _) hs
        go_roundw
        case rel => exact ⟨j + 1, by omega, by go_num, _, _, hd2⟩
        case measure => simp [intOf]; omega
    · obtain rfl : j = N := by omega
      have hdb := double_many (B + 1) x j hN4 i F wr hd.a
      have hlen := len_any (B + 1) _ _ F wr hd.a
      have hlost := lost_any (B + 1) _ _ F wr hd.a
      rw [many_len] at hlen
      clear x0 x1 x2 hlt HN
      have hdl : ∀ l lost w3, l.length ≤ 256 → Step F (NetAt (B + 1) l lost) wr w3 → Below B w w3 ∧ B ≤ w3.heap.size ∧ ∃ m : Nat, m ≤ 256 ∧ Calls Try.prog 11 #[.pointer (some ⟨B + 1, 0, none⟩)] w3 fun e w' => e = .returned (.int .i64 m) ∧ w3 = w' := fun l lost w3 hl hs => by
        obtain ⟨F2, hd2⟩ := hd.left (local_box _ _ _) hs
        exact ⟨hd2.below, hd2.size, _, hl, len_any (B + 1) _ _ F2 w3 hd2.a⟩
      have HDL := Lib.hid hdl
      clear hdl
      have hcase : (i < 0 ∧ dblOf i j = 1) ∨ (¬ i < 0 ∧ j = 0 ∧ dblOf i j = 7) ∨ (¬ i < 0 ∧ 0 < j ∧ j < 256 ∧ dblOf i j = 0) ∨ (¬ i < 0 ∧ 256 ≤ j ∧ dblOf i j = 6) := by
        unfold dblOf
        by_cases a1 : i < 0
        · exact Or.inl ⟨a1, if_pos a1⟩
        · rw [if_neg a1]
          by_cases a2 : j = 0
          · exact Or.inr (Or.inl ⟨a1, a2, if_pos a2⟩)
          · rw [if_neg a2]
            by_cases a3 : j < 256
            · exact Or.inr (Or.inr (Or.inl ⟨a1, by omega, a3, if_pos a3⟩))
            · exact Or.inr (Or.inr (Or.inr ⟨a1, by omega, if_neg a3⟩))
      have hsz : (j < 256 ∧ min j 256 = j ∧ lostOf j = 0) ∨ (256 ≤ j ∧ min j 256 = 256 ∧ lostOf j = (j : Int) - 256) := by
        unfold lostOf
        omega
      rcases hcase with ⟨c1, c2⟩ | ⟨c1, rfl, c2⟩ | ⟨c1, c3, c4, c2⟩ | ⟨c1, c3, c2⟩
      all_goals rw [c2] at hdb
      all_goals clear c2
      all_goals rcases hsz with ⟨s1, s2, s3⟩ | ⟨s1, s2, s3⟩
      all_goals first | (exfalso; omega) | skip
      all_goals
        rw [s2] at hlen
        rw [s3] at hlost
        clear s2 s3
        go_wp2_with first
          | (go_at_call 13; refine hdb.mono ?_; rintro e w3 ⟨rfl, l, lost, hl, hs⟩; obtain ⟨hb3, hz3, m, hm, hlen3⟩ := HDL.out _ _ _ hl hs)
          | (go_at_call 11; (first | with_reducible refine hlen.mono ?_ | with_reducible refine hlen3.mono ?_); rintro e w4 ⟨rfl, rfl⟩)
          | (go_at_call 12; refine hlost.mono ?_; rintro e w4 ⟨rfl, rfl⟩)
          | (go_at_call 8; refine (awake_any _).mono ?_; rintro e w5 ⟨rfl, hw5⟩)
      all_goals first
        | (go_ret; exact ⟨rfl, hb3.trans (hw5.mono hz3)⟩)
        | (exfalso; rename_i hh; rcases hh with hh | hh <;> (split at hh <;> (simp at hh; try omega)))

end Go.Proofs.Ytjjapnphljhicaa.net
