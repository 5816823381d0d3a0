/- Package crc's other functions: Sum, Fits; the law's awake. -/
import Derived.Test.YtjecikojdbiloaaDoorCrcWalks
namespace Go.Proofs.YtjecikojdbiloaaDoor.crc
open Go.RowKit

set_option maxHeartbeats 400000 in
theorem sum_any (s : ByteArray) (w : World) (hs : s.size ≤ maxLen) (ht : TabAt w) :
    Calls Tryd.prog 10 #[.string s] w fun e w' => e = .returned (.int .u32 ((add 0#32 s.data.toList).toNat : Int)) ∧ ∃ n, w' = w.drewN n := by
  go_enter Tryd.func10, Tryd.ntmps10
  go_wp2_with (go_at_call 9; refine (add_any 0#32 0 _ _ rfl hs ht).mono ?_; rintro e w' ⟨rfl, hw⟩)
  go_ret
  exact ⟨rfl, hw⟩

set_option maxHeartbeats 400000 in
theorem fits_any (s : ByteArray) (c : Int) (w : World) (hs : s.size ≤ maxLen) (ht : TabAt w) :
    Calls Tryd.prog 11 #[.string s, .int .u32 c] w fun e w' => e = .returned (.bool (((add 0#32 s.data.toList).toNat : Int) == c)) ∧ ∃ n, w' = w.drewN n := by
  go_enter Tryd.func11, Tryd.ntmps11
  go_wp2_with (go_at_call 10; refine (sum_any _ _ hs ht).mono ?_; rintro e w' ⟨rfl, hw⟩)
  go_ret
  exact ⟨rfl, hw⟩

theorem TabAt.drawn {w w' : World} (h : TabAt w) (hw : ∃ n, w' = w.drewN n) : TabAt w' := by obtain ⟨n, rfl⟩ := hw; exact h.drewN n
theorem drawn_below {w w' : World} (B : Nat) (h : ∃ n, w' = w.drewN n) : Below B w w' := by
  obtain ⟨n, rfl⟩ := h
  exact ⟨rfl, rfl, rfl, Nat.le_refl _, fun _ _ => rfl⟩
theorem drawn_cell {w w' : World} (h : ∃ n, w' = w.drewN n) (a : Addr) : w'.cell? a = w.cell? a := by
  obtain ⟨n, rfl⟩ := h
  rfl
theorem drawn_row {w w' : World} (h : ∃ n, w' = w.drewN n) {base : Nat} {e : TypeId} {size : Nat} {v : Value} {n : Nat} {xs : List Value} (ho : w.ownsRow base e size v n xs) : w'.ownsRow base e size v n xs := by
  obtain ⟨n, rfl⟩ := h
  exact ho
theorem drawn_trans {a b c : World} (h : ∃ n, b = a.drewN n) (k : ∃ n, c = b.drewN n) : ∃ n, c = a.drewN n := by obtain ⟨n, rfl⟩ := k; exact drewN_more h n

set_option maxHeartbeats 400000 in
theorem awake_any (w : World) (ht : TabAt w) :
    Calls Tryd.prog 7 #[] w fun e w' => e = .returned (.bool true) ∧ ∃ n, w' = w.drewN n := by
  have e1 : (((add 0#32 (ByteArray.mk #[49, 50, 51, 52, 53, 54, 55, 56, 57]).data.toList).toNat : Int) == 3421780262) = true := by
    show (((sum [49, 50, 51, 52, 53, 54, 55, 56, 57]).toNat : Int) == 3421780262) = true
    rw [sum_awake]; rfl
  have e2 : (((add 0#32 (ByteArray.mk #[]).data.toList).toNat : Int) == 0) = true := by
    show (((sum []).toNat : Int) == 0) = true
    rw [sum_nil]; rfl
  go_enter Tryd.func7, Tryd.ntmps7
  go_wp2_with (first | (go_at_call 10; refine (sum_any _ _ (by decide) ht).mono ?_; rintro e w1 ⟨rfl, hw1⟩) | (go_at_call 11; refine (fits_any _ _ _ (by decide) (ht.drawn hw1)).mono ?_; rintro e w2 ⟨rfl, hw2⟩))
  go_ret
  exact ⟨rfl, drawn_trans hw1 hw2⟩
set_option maxHeartbeats 400000 in
theorem plays_long (c : Int) (s : ByteArray) (d : Int) (w : World) (hl : 3000 < s.size) (ht : TabAt w) :
    Calls Tryd.prog 3 #[.int .u32 c, .string s, .int .u32 d] w fun e w' => e = .returned (.bool true) ∧ ∃ n, w' = w.drewN n := by
  go_enter Tryd.func3, Tryd.ntmps3
  go_wp2_with (go_at_call 7; refine (awake_any _ ht).mono ?_; rintro e w1 ⟨rfl, hw1⟩)
  go_ret
  exact ⟨rfl, hw1⟩

set_option maxHeartbeats 400000 in
theorem plays_short (c : BitVec 32) (s : ByteArray) (d : Int) (w : World) (hs : s.size ≤ maxLen) (hl : ¬ 3000 < s.size) (ht : TabAt w) :
    Calls Tryd.prog 3 #[.int .u32 (c.toNat : Int), .string s, .int .u32 d] w fun e w' => e = .returned (.bool true) ∧ ∃ n, w' = w.drewN n := by
  go_enter Tryd.func3, Tryd.ntmps3
  go_wp2_with fail
  refine (refAdd_any 0#32 0 _ _ rfl hs).mono ?_; rintro e w' ⟨rfl, rfl⟩
  go_wp2_with fail
  refine (add_any c _ _ _ rfl hs ht).mono ?_; rintro e w1 ⟨rfl, hw1⟩
  go_wp2_with fail
  refine (refAdd_any c _ _ _ rfl hs).mono ?_; rintro e w' ⟨rfl, rfl⟩
  have ht1 := ht.drawn hw1
  go_wp2_with fail
  refine (sum_any _ _ hs ht1).mono ?_; rintro e w2 ⟨rfl, hw2⟩
  have ht2 := ht1.drawn hw2
  go_wp2_with fail
  refine (fits_any _ _ _ hs ht2).mono ?_; rintro e w3 ⟨rfl, hw3⟩
  have ht3 := ht2.drawn hw3
  have hsym : (((add 0#32 s.data.toList).toNat : Int) == d) = (d == ((add 0#32 s.data.toList).toNat : Int)) := Bool.beq_comm
  go_wp2_with fail
  refine (fits_any _ _ _ hs ht3).mono ?_; rintro e w4 ⟨rfl, hw4⟩
  have ht4 := ht3.drawn hw4
  go_wp2_with fail
  refine (awake_any _ ht4).mono ?_; rintro e w5 ⟨rfl, hw5⟩
  go_wp2
  go_ret
  exact ⟨rfl, drawn_trans hw1 (drawn_trans hw2 (drawn_trans hw3 (drawn_trans hw4 hw5)))⟩
end Go.Proofs.YtjecikojdbiloaaDoor.crc
