/- Package crc's other functions: Sum, Fits; the law's awake. -/
import Derived.Test.YtlhcmgjkhkcgcaaDoorCrcWalks
namespace Go.Proofs.YtlhcmgjkhkcgcaaDoor.crc
open Go.RowKit

set_option maxHeartbeats 400000 in
theorem sum_any (s : ByteArray) (w : World) (hs : s.size ≤ maxLen) (ht : TabAt w) :
    Calls Tryd.prog 67 #[.string s] w fun e w' => e = .returned (.int .u32 ((add 0#32 s.data.toList).toNat : Int)) ∧ ∃ n, w' = w.drewN n := by
  go_enter Tryd.func67, Tryd.ntmps67
  go_wp2_with (go_at_call 97; refine (add_any 0#32 0 _ _ rfl hs ht).mono ?_; rintro e w' ⟨rfl, hw⟩)
  go_ret
  exact ⟨rfl, hw⟩

set_option maxHeartbeats 400000 in
theorem fits_any (s : ByteArray) (c : Int) (w : World) (hs : s.size ≤ maxLen) (ht : TabAt w) :
    Calls Tryd.prog 103 #[.string s, .int .u32 c] w fun e w' => e = .returned (.bool (((add 0#32 s.data.toList).toNat : Int) == c)) ∧ ∃ n, w' = w.drewN n := by
  go_enter Tryd.func103, Tryd.ntmps103
  go_wp2_with (go_at_call 67; refine (sum_any _ _ hs ht).mono ?_; rintro e w' ⟨rfl, hw⟩)
  go_ret
  exact ⟨rfl, hw⟩

theorem TabAt.drawn {w w' : World} (h : TabAt w) (hw : ∃ n, w' = w.drewN n) : TabAt w' := by obtain ⟨n, rfl⟩ := hw; exact h.drewN n
theorem drawn_below {w w' : World} (B : Nat) (h : ∃ n, w' = w.drewN n) : Below B w w' := by
  obtain ⟨n, rfl⟩ := h
  exact ⟨rfl, rfl, rfl, Nat.le_refl _, fun _ _ => rfl⟩
theorem drawn_cell {w w' : World} (h : ∃ n, w' = w.drewN n) (a : Addr) : w'.cell? a = w.cell? a := by
  obtain ⟨n, rfl⟩ := h
  rfl
theorem drawn_row {w w' : World} (h : ∃ n, w' = w.drewN n) {base : Nat} {e : TypeId} {size : Nat} {v : Value} {n : Nat} {xs : List Value} (ho : w.ownsRow base e size v n xs) : w'.ownsRow base e size v n xs := by
  obtain ⟨n, rfl⟩ := h
  exact ho
theorem drawn_trans {a b c : World} (h : ∃ n, b = a.drewN n) (k : ∃ n, c = b.drewN n) : ∃ n, c = a.drewN n := by obtain ⟨n, rfl⟩ := k; exact drewN_more h n


end Go.Proofs.YtlhcmgjkhkcgcaaDoor.crc
