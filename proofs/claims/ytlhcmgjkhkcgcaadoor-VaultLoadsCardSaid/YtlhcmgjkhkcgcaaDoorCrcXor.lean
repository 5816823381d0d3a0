/- Bursts: what is turned has another checksum; plain. -/
import Derived.Test.YtlhcmgjkhkcgcaaDoorCrcBits
import Derived.Test.YtlhcmgjkhkcgcaaDoorCrcSum
namespace Go.Proofs.YtlhcmgjkhkcgcaaDoor.crc
open Go.RowKit
/-- Byte by byte. -/
def xorBytes (a b : List UInt8) : List UInt8 := List.zipWith (fun x y => x ^^^ y) a b

theorem bits_xor_u8 (x y : UInt8) : bits .xor .u8 (x.toNat : Int) (y.toNat : Int) = ((x ^^^ y).toNat : Int) := by
  have hx := x.toNat_lt
  have hy := y.toNat_lt
  have h1 : (BitVec.ofInt 8 (x.toNat : Int)).toNat = x.toNat := by rw [BitVec.ofInt_natCast, BitVec.toNat_ofNat]; exact Nat.mod_eq_of_lt hx
  have h2 : (BitVec.ofInt 8 (y.toNat : Int)).toNat = y.toNat := by rw [BitVec.ofInt_natCast, BitVec.toNat_ofNat]; exact Nat.mod_eq_of_lt hy
  show IntKind.u8.wrap ((BitVec.ofInt 8 (x.toNat : Int) ^^^ BitVec.ofInt 8 (y.toNat : Int)).toNat : Int) = _
  rw [BitVec.toNat_xor, h1, h2, UInt8.toNat_xor]
  have h3 : x.toNat ^^^ y.toNat < 2 ^ 8 := Nat.xor_lt_two_pow hx hy
  simp only [IntKind.wrap, IntKind.bits, IntKind.signed]
  simp
  omega

theorem xorBytes_length (a b : List UInt8) (h : a.length = b.length) : (xorBytes a b).length = a.length := by simp [xorBytes, h]

theorem xorBytes_snoc (a b : ByteArray) (k : Nat) (ha : k < a.size) (hb : k < b.size) : xorBytes (a.data.toList.take (k + 1)) (b.data.toList.take (k + 1)) = xorBytes (a.data.toList.take k) (b.data.toList.take k) ++ [a[k] ^^^ b[k]] := by
  rw [take_snoc a k ha, take_snoc b k hb]
  unfold xorBytes
  rw [List.zipWith_append (by simp; omega)]
  rfl

theorem byteStep_xor (w v : BitVec 32) (x y : UInt8) : byteStep (w ^^^ v) (wd (x ^^^ y)) = byteStep w (wd x) ^^^ byteStep v (wd y) := by
  have h : wd (x ^^^ y) = wd x ^^^ wd y := by
    apply BitVec.eq_of_toNat_eq
    rw [wd_toNat, BitVec.toNat_xor, wd_toNat, wd_toNat, UInt8.toNat_xor]
  unfold byteStep
  rw [h, ← Tn_xor, xor4]

theorem reg_xor : ∀ (a b : List UInt8) (w v : BitVec 32), a.length = b.length → reg (w ^^^ v) (xorBytes a b) = reg w a ^^^ reg v b
  | [], [], _, _, _ => rfl
  | x :: a, y :: b, w, v, h => by
    show reg (byteStep (w ^^^ v) (wd (x ^^^ y))) (xorBytes a b) = reg (byteStep w (wd x)) a ^^^ reg (byteStep v (wd y)) b
    rw [byteStep_xor]
    exact reg_xor a b _ _ (by simpa using h)
  | [], _ :: _, _, _, h => by simp at h
  | _ :: _, [], _, _, h => by simp at h

theorem xor_noughts (a : List UInt8) : xorBytes a (List.replicate a.length 0) = a := by
  induction a with
  | nil => rfl
  | cons x a ih =>
    show (x ^^^ 0) :: xorBytes a (List.replicate a.length 0) = x :: a
    rw [ih]; simp

theorem not_xor_not (a b : BitVec 32) : ~~~ a ^^^ ~~~ b = a ^^^ b := by
  ext i hi; simp only [BitVec.getElem_xor, BitVec.getElem_not]; cases a[i] <;> cases b[i] <;> rfl

theorem two_eq (a b : List UInt8) (h : a.length = b.length) : add 0#32 a ^^^ add 0#32 b = add 0#32 (xorBytes a b) ^^^ add 0#32 (List.replicate a.length 0) := by
  unfold add
  rw [not_xor_not, not_xor_not, ← reg_xor a b _ _ h]
  have h2 := reg_xor (xorBytes a b) (List.replicate a.length 0) (~~~ 0#32) (~~~ 0#32) (by rw [xorBytes_length a b h]; simp)
  rw [← h2]
  have h3 := xor_noughts (xorBytes a b)
  rw [xorBytes_length a b h] at h3
  rw [h3]
/-- The pattern's bit i, as the law asks for it. -/
def pb (p : Int) (i : Nat) : Bool := bits .and .u32 (p / 2 ^ i) 1 == 1

theorem burst_eq (l : List UInt8) (f : Nat) (b : Nat → Bool) (i : Nat) : burst l f b i = xorBytes l ((List.range l.length).map (byteOf (turned f b i))) := by
  apply List.ext_getElem
  · simp [burst, xorBytes]
  · intro q h1 h2
    have hq : q < l.length := by simpa [burst] using h1
    simp [burst, xorBytes, nowByte, List.getD, hq]

theorem burst_found (l : List UInt8) (f m : Nat) (b : Nat → Bool) (hm : 0 < m) (hm2 : m ≤ 32) (hf : f + m ≤ 8 * l.length) : add 0#32 (burst l f b m) ≠ add 0#32 l := by
  intro h
  have h1 : reg (~~~ 0#32) (burst l f b m) = reg (~~~ 0#32) l := by
    unfold add at h
    have := congrArg (fun x : BitVec 32 => ~~~ x) h
    simpa only [BitVec.not_not] using this
  have h2 := reg_xor l ((List.range l.length).map (byteOf (turned f b m))) (~~~ 0#32) 0#32 (by simp)
  rw [← burst_eq, BitVec.xor_zero, h1, reg_bits] at h2
  have h3 : regBits (turned f b m) (8 * l.length) = 0#32 := by
    have h4 := congrArg (fun x => reg (~~~ 0#32) l ^^^ x) h2
    rw [BitVec.xor_self, ← BitVec.xor_assoc, BitVec.xor_self, BitVec.zero_xor] at h4
    exact h4.symm
  exact regBits_ne (turned f b m) f m (fun i hi => turned_out f b m i (Or.inl hi)) (by
      obtain ⟨k, rfl⟩ : ∃ k, m = k + 1 := ⟨m - 1, by omega⟩
      unfold turned; simp) hm hm2 (fun i hi => turned_out f b m i (Or.inr hi)) (8 * l.length) hf h3

theorem bit_val (x : UInt8) (r : Nat) (hr : r < 8) : bits .xor .u8 (x.toNat : Int) (2 ^ r % 256) = ((x ^^^ UInt8.ofNat (2 ^ r)).toNat : Int) := by
  rw [← bits_xor_u8]
  have : r = 0 ∨ r = 1 ∨ r = 2 ∨ r = 3 ∨ r = 4 ∨ r = 5 ∨ r = 6 ∨ r = 7 := by omega
  rcases this with rfl | rfl | rfl | rfl | rfl | rfl | rfl | rfl <;> rfl

end Go.Proofs.YtlhcmgjkhkcgcaaDoor.crc
