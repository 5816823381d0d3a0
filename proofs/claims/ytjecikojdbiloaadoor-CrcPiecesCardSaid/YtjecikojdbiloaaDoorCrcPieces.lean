/- The walk of CrcPieces: in whatever pieces a text comes, the checksum goes on. -/
import Derived.Test.YtjecikojdbiloaaDoorCrcSum
import Derived.Test.YtjecikojdbiloaaDoorArgKit
namespace Go.Proofs.YtjecikojdbiloaaDoor.crc
open Go.RowKit
open Go.Proofs.YtjecikojdbiloaaDoor.argkit

def joined (ss : List ByteArray) (k : Nat) : List UInt8 := (ss.take k).flatMap (·.data.toList)
theorem joined_zero (ss : List ByteArray) : joined ss 0 = [] := rfl
theorem joined_succ (ss : List ByteArray) (k : Nat) (h : k < ss.length) : joined ss (k + 1) = joined ss k ++ (ss.getD k ByteArray.empty).data.toList := by
  unfold joined
  rw [List.take_succ_eq_append_getElem h, List.flatMap_append]
  simp [List.getD, h]

def piece (c : Int) (l : List UInt8) : Prop := c = ((add 0#32 l).toNat : Int)

set_option maxHeartbeats 400000 in
theorem pieces_any (ao : Option Addr) (ss : List ByteArray) (cap : Nat) (w : World) (hcap : ss.length ≤ maxLen) (hrow : RowAt w w.heap.size ao (ss.map Value.string)) (hss : ∀ s ∈ ss, s.size ≤ 140737488351232) (ht : TabAt w) :
    Calls Tryd.prog 4 #[.slice ao ss.length cap] w fun e w' => e = .returned (.bool true) ∧ ∃ n, w' = w.drewN n := by
  unfold maxLen at hcap
  go_enter Tryd.func4, Tryd.ntmps4
  go_wp2
  go_loopw [3, 4, 5] (fun c a i wr => ∃ (k : Nat) (b : ByteArray) (x : Int), k ≤ ss.length ∧ k ≤ 40 ∧ i = .int .i64 k ∧ a = .string b ∧ b.data.toList = joined ss k ∧ b.size ≤ 3000 ∧ c = .int .u32 x ∧ piece x (joined ss k) ∧ ∃ n, wr = w.drewN n) (fun _ _ i _ => 40 - (intOf i).toNat)
  case atStart => exact ⟨0, ByteArray.mk #[], 0, by omega, by omega, rfl, rfl, rfl, by decide, rfl, by unfold piece; rw [joined_zero]; decide +kernel, 0, rfl⟩
  case round =>
    obtain ⟨k, b, x, hk, hk40, rfl, rfl, hb, hb3, rfl, hx, hwr⟩ := hrel
    have HB := Lib.hid hb
    clear hb
    have htr : TabAt wr := ht.drawn hwr
    have hrr := hrow.below (drawn_below _ hwr)
    by_cases hlt : k < ss.length ∧ k < 40
    · obtain ⟨h1, h2⟩ := hlt
      obtain ⟨bb, oo, rfl, _, hcell⟩ := hrr (by simp; omega)
      have hc := hcell k (by simpa using h1)
      obtain ⟨s, hs⟩ : ∃ s, s = ss.getD k ByteArray.empty := ⟨_, rfl⟩
      have hcs : wr.cell? ⟨bb, oo + k, none⟩ = some (.string s) := by rw [hc, hs]; simp [List.getD, h1]
      have hsz := hss s (by rw [hs]; simp [List.getD, h1])
      have HS := Lib.hid hs
      clear hs hc hcell hss hrow
      by_cases h3 : b.size + s.size ≤ 3000
      · have HJ := Lib.hid (joined_succ ss k h1)
        rw [← HS.out] at HJ
        go_wp2_with (go_at_call 9; refine (add_any _ _ _ _ hx (by unfold maxLen; omega) htr).mono ?_; rintro e w1 ⟨rfl, hw1⟩; have hcs1 := (drawn_cell hw1 _).trans hcs)
        go_roundw
        case rel => exact ⟨k + 1, _, _, by omega, by omega, by go_num, rfl, by rw [HJ.out, ← HB.out]; first | rfl | simp, by first | omega | (simp; omega), rfl, by unfold piece; rw [HJ.out, add_append], drawn_trans hwr hw1⟩
        case measure => simp [intOf]; omega
      · go_wp2_with (go_at_call 7; refine (awake_any _ htr).mono ?_; rintro e w1 ⟨rfl, hw1⟩)
        go_ret
        exact ⟨rfl, drawn_trans hwr hw1⟩
    · have hx' : (add 0#32 (b.data.toList)).toNat = x := by rw [HB.out]; exact hx.symm
      have hx2 : (x == ((add 0#32 b.data.toList).toNat : Int)) = true := by rw [hx']; exact beq_self_eq_true x
      clear hx'
      by_cases hk4 : k < 40
      · have hge : ¬ k < ss.length := fun h => hlt ⟨h, hk4⟩
        go_wp2_with (first | (go_at_call 10; refine (sum_any _ _ (by unfold maxLen; omega) htr).mono ?_; rintro e w1 ⟨rfl, hw1⟩) | (go_at_call 7; refine (awake_any _ (htr.drawn hw1)).mono ?_; rintro e w2 ⟨rfl, hw2⟩))
        go_ret
        exact ⟨rfl, drawn_trans hwr (drawn_trans hw1 hw2)⟩
      · by_cases hge : k < ss.length
        · go_wp2_with (first | (go_at_call 10; refine (sum_any _ _ (by unfold maxLen; omega) htr).mono ?_; rintro e w1 ⟨rfl, hw1⟩) | (go_at_call 7; refine (awake_any _ (htr.drawn hw1)).mono ?_; rintro e w2 ⟨rfl, hw2⟩))
          go_ret
          exact ⟨rfl, drawn_trans hwr (drawn_trans hw1 hw2)⟩
        · go_wp2_with (first | (go_at_call 10; refine (sum_any _ _ (by unfold maxLen; omega) htr).mono ?_; rintro e w1 ⟨rfl, hw1⟩) | (go_at_call 7; refine (awake_any _ (htr.drawn hw1)).mono ?_; rintro e w2 ⟨rfl, hw2⟩))
          go_ret
          exact ⟨rfl, drawn_trans hwr (drawn_trans hw1 hw2)⟩
end Go.Proofs.YtjecikojdbiloaaDoor.crc
