/- The walks through the bit movers of the sum, the program's and the reference's. -/
import Derived.Test.YtjnplcajajdkiaaDoorShaMath
import Derived.Test.YtjnplcajajdkiaaDoorObj
import Derived.Test.YtjnplcajajdkiaaDoorIdKit
namespace Go.Proofs.YtjnplcajajdkiaaDoor.sha
open Go.RowKit
open Go.Proofs.YtjnplcajajdkiaaDoor.stepkit Go.Proofs.YtjnplcajajdkiaaDoor.obj

theorem ofInt_toNat (a : BitVec 32) : BitVec.ofInt 32 (a.toNat : Int) = a := by
  rw [BitVec.ofInt_natCast, BitVec.ofNat_toNat, BitVec.setWidth_eq]
theorem wrap_toNat (a : BitVec 32) : IntKind.u32.wrap (a.toNat : Int) = (a.toNat : Int) := by
  have := a.isLt
  simp only [IntKind.wrap, IntKind.bits, IntKind.signed]
  simp
  omega
theorem bits_xor_bv (a b : BitVec 32) : bits .xor .u32 (a.toNat : Int) (b.toNat : Int) = ((a ^^^ b).toNat : Int) := by
  show IntKind.u32.wrap ((BitVec.ofInt 32 (a.toNat : Int) ^^^ BitVec.ofInt 32 (b.toNat : Int)).toNat : Int) = _
  rw [ofInt_toNat, ofInt_toNat, wrap_toNat]
theorem bits_and_bv (a b : BitVec 32) : bits .and .u32 (a.toNat : Int) (b.toNat : Int) = ((a &&& b).toNat : Int) := by
  show IntKind.u32.wrap ((BitVec.ofInt 32 (a.toNat : Int) &&& BitVec.ofInt 32 (b.toNat : Int)).toNat : Int) = _
  rw [ofInt_toNat, ofInt_toNat, wrap_toNat]
theorem bits_or_bv (a b : BitVec 32) : bits .or .u32 (a.toNat : Int) (b.toNat : Int) = ((a ||| b).toNat : Int) := by
  show IntKind.u32.wrap ((BitVec.ofInt 32 (a.toNat : Int) ||| BitVec.ofInt 32 (b.toNat : Int)).toNat : Int) = _
  rw [ofInt_toNat, ofInt_toNat, wrap_toNat]

theorem div_bv (a : BitVec 32) (n : Nat) : (a.toNat : Int) / 2 ^ n = ((a >>> n).toNat : Int) := by
  rw [BitVec.toNat_ushiftRight, Nat.shiftRight_eq_div_pow]; simp
theorem mul_bv (a : BitVec 32) (n : Nat) : (a.toNat : Int) * 2 ^ n % 4294967296 = ((a <<< n).toNat : Int) := by
  rw [BitVec.toNat_shiftLeft, Nat.shiftLeft_eq]; simp
theorem or_comm (a b : BitVec 32) : a ||| b = b ||| a := BitVec.or_comm a b
theorem and31 : ∀ n : Nat, n < 32 → 1 ≤ n → bits .and .u64 (IntKind.u64.wrap (-(n : Int))) 31 = ((32 - n : Nat) : Int) := by decide +kernel

set_option maxHeartbeats 400000 in
theorem rotr_ref (x : W32) (n : Nat) (h1 : 1 ≤ n) (h2 : n ≤ 31) (w : World) :
    Calls Tryd.prog 51 #[.int .u32 x.toNat, .int .i64 n] w fun e w' => e = .returned (.int .u32 (rotr x n).toNat) ∧ w = w' := by
  have hx := x.isLt
  have H : Hid (bits .or .u32 ((x.toNat : Int) / 2 ^ n) ((x.toNat : Int) * 2 ^ (32 - n) % 4294967296) = ((rotr x n).toNat : Int)) := Lib.hid (by rw [div_bv, mul_bv, bits_or_bv]; rfl)
  go_enter Tryd.func51, Tryd.ntmps51
  go_wp2
  go_ret
  exact ⟨by rw [← H.out]; rfl, rfl⟩
set_option maxHeartbeats 400000 in
theorem rotl_any (x : W32) (n : Nat) (h1 : 1 ≤ n) (h2 : n ≤ 31) (w : World) :
    Calls Tryd.prog 65 #[.int .u32 x.toNat, .int .i64 (-(n : Int))] w fun e w' => e = .returned (.int .u32 (rotr x n).toNat) ∧ w = w' := by
  have hx := x.isLt
  have he := and31 n (by omega) h1
  obtain ⟨m, hm⟩ : ∃ m, 32 - n = m := ⟨_, rfl⟩
  have H : Hid (bits .or .u32 ((x.toNat : Int) * 2 ^ m % 4294967296) ((x.toNat : Int) / 2 ^ (32 - m)) = ((rotr x n).toNat : Int)) := Lib.hid (by rw [div_bv, mul_bv, bits_or_bv, or_comm, ← hm, show 32 - (32 - n) = n by omega]; rfl)
  rw [hm] at he
  have hm1 : m ≤ 31 := by omega
  have hm2 : 1 ≤ m := by omega
  clear hm h1 h2
  go_enter Tryd.func65, Tryd.ntmps65
  go_wp2
  go_ret
  exact ⟨by rw [← H.out]; rfl, rfl⟩
set_option maxHeartbeats 400000 in
theorem down_any (x : W32) (n : Nat) (h1 : 1 ≤ n) (h2 : n ≤ 31) (w : World) :
    Calls Tryd.prog 64 #[.int .u32 x.toNat, .int .i64 n] w fun e w' => e = .returned (.int .u32 (rotr x n).toNat) ∧ w = w' := by
  have hn : IntKind.i64.wrap (-(n : Int)) = -(n : Int) := IntWalk.i64_in _ (by omega)
  go_enter Tryd.func64, Tryd.ntmps64
  go_wp2_with (go_at_call 65; refine (rotl_any x n h1 h2 _).mono ?_; rintro e w2 ⟨rfl, rfl⟩)
  go_ret
  exact ⟨rfl, rfl⟩

/-- A byte's cell. -/
def bc (x : UInt8) : Value := .int .u8 (x.toNat : Int)
def bcs (l : List UInt8) : List Value := l.map bc
theorem bcs_len (l : List UInt8) : (bcs l).length = l.length := by simp [bcs]
theorem bcs_get (l : List UInt8) (i : Nat) (h : i < l.length) : (bcs l).getD i undef = .int .u8 ((l.getD i 0).toNat : Int) := by
  simp [bcs, bc, List.getD, h]
abbrev BSl (w : World) (v : Value) (l : List UInt8) : Prop := Sl w 5 1 v l.length (bcs l)
theorem BSl.cell {w : World} {g o cap n : Nat} {l : List UInt8} (h : BSl w (.slice (some ⟨g, o, none⟩) n cap) l) (i : Nat) (hi : i < l.length) : w.cell? ⟨g, o + i, none⟩ = some (.int .u8 ((l.getD i 0).toNat : Int)) := by
  obtain ⟨ao, c, hv, _⟩ := (show Sl _ _ _ _ _ _ from h).shape
  cases hv
  rw [← bcs_get l i hi]
  exact Sl.cell h i (by rw [bcs_len]; exact hi)
/-- Bytes that are read, from a place on. -/
def RB (w : World) (g o : Nat) (l : List UInt8) : Prop := ∀ i, i < l.length → w.cell? ⟨g, o + i, none⟩ = some (.int .u8 ((l.getD i 0).toNat : Int))
theorem RB.keep {w w' : World} {g o : Nat} {l : List UInt8} {F : Nat → Prop} (h : RB w g o l) (ht : Turns F w w') (hn : ¬ F g) : RB w' g o l := fun i hi => (ht.cell (p := ⟨g, o + i, none⟩) (Go.Proofs.YtjnplcajajdkiaaDoor.obj.lt_of_cell' (h i hi)) hn).trans (h i hi)
theorem BSl.rb {w : World} {g o cap n : Nat} {l : List UInt8} (h : BSl w (.slice (some ⟨g, o, none⟩) n cap) l) : RB w g o l := fun i hi => BSl.cell h i hi
theorem bw_toNat (x : UInt8) : (bw x).toNat = x.toNat := by
  unfold bw; rw [BitVec.toNat_ofNat]; have := x.toNat_lt; omega
theorem byte_shl (x : UInt8) (n : Nat) : ((x.toNat : Nat) : Int) * 2 ^ n % 4294967296 = ((bw x <<< n).toNat : Int) := by
  rw [← bw_toNat, mul_bv]
theorem wd_or (x0 x1 x2 x3 : UInt8) : bits .or .u32 (bits .or .u32 (bits .or .u32 ((x0.toNat : Int) * 16777216) ((x1.toNat : Int) * 65536)) ((x2.toNat : Int) * 256)) (x3.toNat : Int) =
    (((((bw x0 <<< 24) ||| (bw x1 <<< 16)) ||| (bw x2 <<< 8)) ||| bw x3).toNat : Int) := by
  have h0 := byte_shl x0 24
  have h1 := byte_shl x1 16
  have h2 := byte_shl x2 8
  rw [show (2 : Int) ^ 24 = 16777216 by decide] at h0
  rw [show (2 : Int) ^ 16 = 65536 by decide] at h1
  rw [show (2 : Int) ^ 8 = 256 by decide] at h2
  have y0 := x0.toNat_lt
  have y1 := x1.toNat_lt
  have y2 := x2.toNat_lt
  rw [Int.emod_eq_of_lt (by omega) (by omega)] at h0 h1 h2
  rw [h0, h1, h2, bits_or_bv, bits_or_bv, ← bw_toNat x3, bits_or_bv]

set_option maxHeartbeats 800000 in
theorem word_any (g o n cap : Nat) (l : List UInt8) (w : World) (h : RB w g o l) (k : Nat) (hn : n = l.length) (hm : n ≤ maxLen) (hk : k + 3 < l.length) :
    Calls Tryd.prog 50 #[.slice (some ⟨g, o, none⟩) n cap, .int .i64 k] w fun e w' => e = .returned (.int .u32 (wd4 l k).toNat) ∧ ∃ m, w' = w.drewN m := by
  unfold maxLen at hm
  have c0 := h k (by omega)
  have c1 := h (k + 1) (by omega)
  have c2 := h (k + 2) (by omega)
  have c3 := h (k + 3) (by omega)
  have H : Hid (bits .or .u32 (bits .or .u32 (bits .or .u32 (((l.getD k 0).toNat : Int) * 16777216) (((l.getD (k + 1) 0).toNat : Int) * 65536)) (((l.getD (k + 2) 0).toNat : Int) * 256)) ((l.getD (k + 3) 0).toNat : Int) = ((wd4 l k).toNat : Int)) := Lib.hid (wd_or _ _ _ _)
  generalize l.getD k 0 = x0 at *
  generalize l.getD (k + 1) 0 = x1 at *
  generalize l.getD (k + 2) 0 = x2 at *
  generalize l.getD (k + 3) 0 = x3 at *
  have y0 := x0.toNat_lt
  have y1 := x1.toNat_lt
  have y2 := x2.toNat_lt
  have y3 := x3.toNat_lt
  go_enter Tryd.func50, Tryd.ntmps50
  go_wp2
  go_quiet (fail)
  go_wp2
  go_ret
  exact ⟨by rw [← H.out]; rfl, _, rfl⟩
end Go.Proofs.YtjnplcajajdkiaaDoor.sha
