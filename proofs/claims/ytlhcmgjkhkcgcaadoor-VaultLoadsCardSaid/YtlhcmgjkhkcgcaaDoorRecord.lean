/- Package record: the plain answers; what is summed; a record read. -/
import Derived.Test.YtlhcmgjkhkcgcaaDoorOctetR
import Derived.Test.YtlhcmgjkhkcgcaaDoorCrcSum
namespace Go.Proofs.YtlhcmgjkhkcgcaaDoor.record
open Go.RowKit
open Go.Proofs.YtlhcmgjkhkcgcaaDoor.stepkit Go.Proofs.YtlhcmgjkhkcgcaaDoor.obj Go.Proofs.YtlhcmgjkhkcgcaaDoor.row Go.Proofs.YtlhcmgjkhkcgcaaDoor.mix Go.Proofs.YtlhcmgjkhkcgcaaDoor.idkit Go.Proofs.YtlhcmgjkhkcgcaaDoor.bytes Go.Proofs.YtlhcmgjkhkcgcaaDoor.octet

/-- A record's value. -/
def recV (K : Int) (b : ByteArray) : Value := .agg #[.int .i64 K, .string b]
def nil : ByteArray := ⟨#[]⟩
/-- What is summed. -/
def innerB (K : Nat) (b : ByteArray) : ByteArray := ⟨#[UInt8.ofNat K]⟩ ++ b
theorem inner_list (K : Nat) (b : ByteArray) : (innerB K b).data.toList = UInt8.ofNat K :: b.data.toList := by unfold innerB; simp
theorem inner_size (K : Nat) (b : ByteArray) : (innerB K b).size = b.size + 1 := by unfold innerB; rw [ByteArray.size_append]; show 1 + b.size = _; omega
def crcOf (K : Nat) (b : ByteArray) : Nat := (crc.add 0#32 (innerB K b).data.toList).toNat
theorem crc_lt (K : Nat) (b : ByteArray) : crcOf K b < 4294967296 := (crc.add 0#32 (innerB K b).data.toList).isLt

def n4 (s : ByteArray) : Nat := val (s.data.toList.take 4)
def kOf (s : ByteArray) : Nat := val ((s.data.toList.drop 4).take 1)
def bodyOf (s : ByteArray) : ByteArray := s.extract 5 (5 + n4 s)
def sumOf (s : ByteArray) : Nat := val ((s.data.toList.drop (5 + n4 s)).take 4)
/-- Why there is no record at the beginning; nought: there is one. -/
def errOf (s : ByteArray) : Nat :=
  if s.size < 4 then 2 else if 1048576 < n4 s then 3 else if s.size < n4 s + 9 then 2 else if ¬ (1 ≤ kOf s ∧ kOf s ≤ 3) then 10 else if crcOf (kOf s) (bodyOf s) ≠ sumOf s then 13 else 0
def recK (s : ByteArray) : Nat := if errOf s = 0 then kOf s else 0
def recB (s : ByteArray) : ByteArray := if errOf s = 0 then bodyOf s else nil
theorem n4_lt (s : ByteArray) : n4 s < 4294967296 := by
  refine Nat.lt_of_lt_of_le (val_lt _) ?_
  have : (s.data.toList.take 4).length ≤ 4 := by rw [List.length_take]; omega
  exact Nat.pow_le_pow_right (by decide) this
theorem k_lt (s : ByteArray) : kOf s < 256 := by
  refine Nat.lt_of_lt_of_le (val_lt _) ?_
  have : ((s.data.toList.drop 4).take 1).length ≤ 1 := by rw [List.length_take]; omega
  exact Nat.pow_le_pow_right (by decide) this
theorem sum_lt (s : ByteArray) : sumOf s < 4294967296 := by
  refine Nat.lt_of_lt_of_le (val_lt _) ?_
  have : ((s.data.toList.drop (5 + n4 s)).take 4).length ≤ 4 := by rw [List.length_take]; omega
  exact Nat.pow_le_pow_right (by decide) this

theorem Tab.turns {w w' : World} {F : Nat → Prop} (h : crc.TabAt w) (ht : Turns F w w') (hn : ¬ F 0) : crc.TabAt w' := fun i hi => (ht.cell (p := ⟨0, i, none⟩) (lt_of_cell' (h i hi)) hn).trans (h i hi)
theorem Tab.lt {w : World} (h : crc.TabAt w) : 0 < w.heap.size := lt_of_cell' (h 0 (by decide))

theorem known_any (K : Int) (w : World) : Calls Tryd.prog 62 #[.int .i64 K] w fun e w' => e = .returned (.bool (decide (1 ≤ K ∧ K ≤ 3))) ∧ w = w' := by
  by_cases h1 : K = 1
  · subst h1
    go_enter Tryd.func62, Tryd.ntmps62
    go_wp2
    go_ret
    exact ⟨rfl, rfl⟩
  · have e1 : (K == 1) = false := by simpa using h1
    by_cases h2 : K = 2
    · subst h2
      go_enter Tryd.func62, Tryd.ntmps62
      go_wp2
      go_ret
      exact ⟨rfl, rfl⟩
    · have e2 : (K == 2) = false := by simpa using h2
      by_cases h3 : K = 3
      · subst h3
        go_enter Tryd.func62, Tryd.ntmps62
        go_wp2
        go_ret
        exact ⟨rfl, rfl⟩
      · have e3 : (K == 3) = false := by simpa using h3
        rw [decide_eq_false (p := 1 ≤ K ∧ K ≤ 3) (by omega)]
        go_enter Tryd.func62, Tryd.ntmps62
        go_wp2
        go_ret
        exact ⟨rfl, rfl⟩
theorem size_any (n : Nat) (hn : n ≤ 16777216) (w : World) : Calls Tryd.prog 21 #[.int .i64 n] w fun e w' => e = .returned (.int .i64 ((n + 9 : Nat) : Int)) ∧ w = w' := by
  go_enter Tryd.func21, Tryd.ntmps21
  go_wp2
  go_ret
  exact ⟨rfl, rfl⟩
theorem size_neg (w : World) : Calls Tryd.prog 21 #[.int .i64 (-1)] w fun e w' => e = .returned (.int .i64 0) ∧ w = w' := by
  go_enter Tryd.func21, Tryd.ntmps21
  go_wp2
  go_ret
  exact ⟨rfl, rfl⟩

theorem conv_one (X : UInt8) (W : World) : (convert 38 9 (.slice (some ⟨W.heap.size, 0, none⟩) 1 1)).run Tryd.prog (W.alloc (.cells #[.int .u8 (X.toNat : Int)] 5)) = .ok (.string ⟨#[X]⟩) (W.alloc (.cells #[.int .u8 (X.toNat : Int)] 5)) :=
  BSl.conv (l := [X]) ⟨by simp [bcs], Or.inr ⟨W.heap.size, 0, 1, _, rfl, heap_alloc_new W _, Nat.le_refl _, by decide, by simp, by simp [bcs, bc]⟩⟩
set_option maxRecDepth 10000 in
theorem inner_any (K : Nat) (b : ByteArray) (hK : K ≤ 3) (hb : b.size ≤ 16777216) (w : World) :
    Calls Tryd.prog 63 #[recV K b] w fun e w' => e = .returned (.string (innerB K b)) ∧ Turns nobody w w' := by
  obtain ⟨X, hX⟩ : ∃ X : UInt8, UInt8.ofNat K = X := ⟨_, rfl⟩
  have hXK : (K : Int) = (X.toNat : Int) := by rw [← hX]; simp; omega
  have hm : (X.toNat : Int) % 256 = (X.toNat : Int) := by have := X.toNat_lt; omega
  have hc := conv_one X (w.alloc (.cells #[.int .i64 (X.toNat : Int), .string b] 23))
  rw [World.size_alloc] at hc
  have HC := Lib.hid hc
  clear hc
  unfold innerB recV
  rw [hX, hXK]
  clear hX hXK hK
  go_enter Tryd.func63, Tryd.ntmps63
  go_wp2_with (refine wpList_exec (exec_conv _ _ _ rfl rfl HC.out) rfl ?_)
  go_ret
  exact ⟨rfl, ((Turns.refl _ _).alloc _).alloc _⟩
set_option maxRecDepth 10000 in
theorem refinner_any (K : Nat) (b : ByteArray) (hK : K ≤ 3) (hb : b.size ≤ 16777216) (w : World) :
    Calls Tryd.prog 69 #[recV K b] w fun e w' => e = .returned (.string (innerB K b)) ∧ Turns nobody w w' := by
  obtain ⟨X, hX⟩ : ∃ X : UInt8, UInt8.ofNat K = X := ⟨_, rfl⟩
  have hXK : (K : Int) = (X.toNat : Int) := by rw [← hX]; simp; omega
  have hm : (X.toNat : Int) % 256 = (X.toNat : Int) := by have := X.toNat_lt; omega
  have hc := conv_one X (w.alloc (.cells #[.int .i64 (X.toNat : Int), .string b] 23))
  rw [World.size_alloc] at hc
  have HC := Lib.hid hc
  clear hc
  unfold innerB recV
  rw [hX, hXK]
  clear hX hXK hK
  go_enter Tryd.func69, Tryd.ntmps69
  go_wp2_with (refine wpList_exec (exec_conv _ _ _ rfl rfl HC.out) rfl ?_)
  go_ret
  exact ⟨rfl, ((Turns.refl _ _).alloc _).alloc _⟩
end Go.Proofs.YtlhcmgjkhkcgcaaDoor.record
