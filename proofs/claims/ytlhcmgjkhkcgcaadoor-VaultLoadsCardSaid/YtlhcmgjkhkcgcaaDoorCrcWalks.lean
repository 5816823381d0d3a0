/- The walks through package crc and the reference's checksum: what each call answers, from any world that holds the table. -/
import Derived.Test.YtlhcmgjkhkcgcaaDoorCrcMath
import Derived.Test.YtlhcmgjkhkcgcaaDoorRows
import Derived.WalkKit
import Derived.WalkSpells
import Derived.WalkLawsBesides
import Derived.Deep.QuietTactic
import Derived.BigQuiet
import Derived.Lib.Hide
namespace Go.Proofs.YtlhcmgjkhkcgcaaDoor.crc
open Go.RowKit

/-- The table's cells. -/
def TabAt (w : World) : Prop := ∀ i, i < 16 → w.cell? ⟨0, i, none⟩ = some (.int .u32 ((tab i).toNat : Int))

theorem TabAt.drewN {w : World} (h : TabAt w) (n : Nat) : TabAt (w.drewN n) := fun i hi => h i hi

theorem TabAt.below {w w' : World} {B : Nat} (h : TabAt w) (hb : Below B w w') (hB : 0 < B) : TabAt w' := fun i hi => (hb.cell (p := ⟨0, i, none⟩) hB).trans (h i hi)

theorem drewN_more {w w' : World} (h : ∃ n, w' = w.drewN n) (m : Nat) : ∃ n, w'.drewN m = w.drewN n := by
  obtain ⟨n, rfl⟩ := h
  exact ⟨n + m, by rw [World.drewN_drewN]⟩

theorem exists_bv (x : Int) (h0 : 0 ≤ x) (h1 : x < 4294967296) : ∃ a : BitVec 32, x = (a.toNat : Int) :=
  ⟨BitVec.ofNat 32 x.toNat, by simp; omega⟩

theorem ofInt_toNat (a : BitVec 32) : BitVec.ofInt 32 (a.toNat : Int) = a := by
  rw [BitVec.ofInt_natCast, BitVec.ofNat_toNat, BitVec.setWidth_eq]

theorem wrap_toNat (a : BitVec 32) : IntKind.u32.wrap (a.toNat : Int) = (a.toNat : Int) := by
  have := a.isLt
  simp only [IntKind.wrap, IntKind.bits, IntKind.signed]
  simp
  omega

theorem bits_xor_bv (a b : BitVec 32) : bits .xor .u32 (a.toNat : Int) (b.toNat : Int) = ((a ^^^ b).toNat : Int) := by
  show IntKind.u32.wrap ((BitVec.ofInt 32 (a.toNat : Int) ^^^ BitVec.ofInt 32 (b.toNat : Int)).toNat : Int) = _
  rw [ofInt_toNat, ofInt_toNat, wrap_toNat]

theorem bits_and_bv (a b : BitVec 32) : bits .and .u32 (a.toNat : Int) (b.toNat : Int) = ((a &&& b).toNat : Int) := by
  show IntKind.u32.wrap ((BitVec.ofInt 32 (a.toNat : Int) &&& BitVec.ofInt 32 (b.toNat : Int)).toNat : Int) = _
  rw [ofInt_toNat, ofInt_toNat, wrap_toNat]

theorem div_bv (a : BitVec 32) (n : Nat) : (a.toNat : Int) / 2 ^ n = ((a >>> n).toNat : Int) := by
  rw [BitVec.toNat_ushiftRight, Nat.shiftRight_eq_div_pow]; simp

theorem and15_lt (a : BitVec 32) : (a &&& 15#32).toNat < 16 := by
  rw [BitVec.toNat_and, show (15#32).toNat = 2 ^ 4 - 1 from rfl, Nat.and_two_pow_sub_one_eq_mod]
  omega

/-- The half-byte step on numbers. -/
def nibI (x y : Int) : Int := ((nib (BitVec.ofInt 32 x) (BitVec.ofInt 32 y)).toNat : Int)
theorem nibI_lo (x y : Int) : 0 ≤ nibI x y := by unfold nibI; omega
theorem nibI_hi (x y : Int) : nibI x y < 4294967296 := by unfold nibI; have := (nib (BitVec.ofInt 32 x) (BitVec.ofInt 32 y)).isLt; omega

/-- What the half-byte step reckons, in the walk's own words. -/
theorem nibI_eq (x y : Int) (h0 : 0 ≤ x) (h1 : x < 4294967296) (h2 : 0 ≤ y) (h3 : y < 256) :
    bits .xor .u32 (x / 16) ((tab (bits .and .u32 (bits .xor .u32 x y) 15).toNat).toNat : Int) = nibI x y ∧ 0 ≤ bits .and .u32 (bits .xor .u32 x y) 15 ∧ bits .and .u32 (bits .xor .u32 x y) 15 < 16 := by
  obtain ⟨a, rfl⟩ := exists_bv x h0 h1
  obtain ⟨b, rfl⟩ := exists_bv y h2 (by omega)
  have e15 : (15 : Int) = ((15#32).toNat : Int) := rfl
  have ed : Int.ofNat a.toNat / (16 : Int) = ((a >>> 4).toNat : Int) := div_bv a 4
  simp only [Int.ofNat_eq_natCast] at ed
  have hlt := and15_lt (a ^^^ b)
  rw [e15, bits_xor_bv, bits_and_bv, ed, bits_xor_bv, nibI, ofInt_toNat, ofInt_toNat]
  refine ⟨?_, by omega, by omega⟩
  rw [Int.toNat_natCast]; rfl

set_option maxHeartbeats 400000 in
theorem nibble_any (x y : Int) (w : World) (hx : 0 ≤ x) (hx2 : x < 4294967296) (hy : 0 ≤ y) (hy2 : y < 256) (ht : TabAt w) :
    Calls Tryd.prog 112 #[.int .u32 x, .int .u8 y] w fun e w' => e = .returned (.int .u32 (nibI x y)) ∧ w = w' := by
  obtain ⟨h1, h2, h3⟩ := nibI_eq x y hx hx2 hy hy2
  have hc := ht (bits .and .u32 (bits .xor .u32 x y) 15).toNat (by omega)
  have H1 := Lib.hid h1
  clear h1 ht
  go_enter Tryd.func112, Tryd.ntmps112
  go_wp2
  go_ret
  exact ⟨by rw [← H1.out]; rfl, rfl⟩

/-- The register behind the first k bytes, as a number. -/
def regI (c : BitVec 32) (s : ByteArray) (k : Nat) : Int := ((reg (~~~ c) (s.data.toList.take k)).toNat : Int)
theorem regI_lo (c : BitVec 32) (s : ByteArray) (k : Nat) : 0 ≤ regI c s k := by unfold regI; omega
theorem regI_hi (c : BitVec 32) (s : ByteArray) (k : Nat) : regI c s k < 4294967296 := by unfold regI; have := (reg (~~~ c) (s.data.toList.take k)).isLt; omega

theorem take_snoc (s : ByteArray) (k : Nat) (h : k < s.size) : s.data.toList.take (k + 1) = s.data.toList.take k ++ [s[k]] := by
  rw [List.take_succ_eq_append_getElem (by simpa using h)]; rfl

theorem byte_bv (x : UInt8) : BitVec.ofInt 32 (x.toNat : Int) = wd x := by
  rw [BitVec.ofInt_natCast]; rfl

theorem byte_shr (x : UInt8) : BitVec.ofInt 32 ((x.toNat : Int) / 16) = wd x >>> 4 := by
  have h : (x.toNat : Int) / 16 = ((x.toNat / 16 : Nat) : Int) := rfl
  rw [h, BitVec.ofInt_natCast]
  have := x.toNat_lt
  apply BitVec.eq_of_toNat_eq
  rw [BitVec.toNat_ushiftRight, wd_toNat, Nat.shiftRight_eq_div_pow]
  simp
  omega

theorem regI_succ (c : BitVec 32) (s : ByteArray) (k : Nat) (h : k < s.size) : nibI (nibI (regI c s k) (s[k].toNat : Int)) ((s[k].toNat : Int) / 16) = regI c s (k + 1) := by
  unfold nibI
  rw [ofInt_toNat, byte_shr, byte_bv]
  unfold regI
  rw [ofInt_toNat, nib_nib _ _ (by rw [wd_toNat]; exact s[k].toNat_lt), take_snoc s k h, reg_snoc]


theorem bits_not_bv (a : BitVec 32) : bits .xor .u32 IntKind.u32.max (a.toNat : Int) = ((~~~ a).toNat : Int) := by
  have h : IntKind.u32.max = ((BitVec.allOnes 32).toNat : Int) := by decide
  rw [h, bits_xor_bv, BitVec.allOnes_xor]

set_option maxHeartbeats 400000 in
theorem add_any (c : BitVec 32) (x : Int) (s : ByteArray) (w : World) (hx : x = (c.toNat : Int)) (hs : s.size ≤ maxLen) (ht : TabAt w) :
    Calls Tryd.prog 97 #[.int .u32 x, .string s] w fun e w' => e = .returned (.int .u32 ((add c s.data.toList).toNat : Int)) ∧ ∃ n, w' = w.drewN n := by
  unfold maxLen at hs
  subst hx
  have hn0 : bits .xor .u32 IntKind.u32.max (c.toNat : Int) = regI c s 0 := by rw [bits_not_bv]; rfl
  have HN0 := Lib.hid hn0
  have hfin : bits .xor .u32 IntKind.u32.max (regI c s s.size) = ((add c s.data.toList).toNat : Int) := by
    unfold regI add
    rw [bits_not_bv, List.take_of_length_le (by simp)]
  have HF := Lib.hid hfin
  clear hn0 hfin
  go_enter Tryd.func97, Tryd.ntmps97
  go_wp2
  go_loopw [5, 11] (fun v i wr => ∃ k : Nat, k ≤ s.size ∧ i = .int .i64 k ∧ v = .int .u32 (regI c s k) ∧ ∃ n, wr = w.drewN n) (fun _ i _ => s.size - (intOf i).toNat)
  case atStart => exact ⟨0, by omega, rfl, by rw [HN0.out], 0, rfl⟩
  case round =>
    obtain ⟨k, hk, rfl, rfl, hwr⟩ := hrel
    have htr : TabAt wr := by obtain ⟨n, rfl⟩ := hwr; exact ht.drewN n
    have b0 := regI_lo c s k
    have b1 := regI_hi c s k
    by_cases hlt : k < s.size
    · have HS := Lib.hid (regI_succ c s k hlt)
      have b2 := nibI_lo (regI c s k) (s[k].toNat : Int)
      have b3 := nibI_hi (regI c s k) (s[k].toNat : Int)
      have b4 := s[k].toNat_lt
      go_wp2
      go_quiet ((go_at_call 112; exact Calls.quiet_of_same ((nibble_any _ _ _ (by omega) (by omega) (by omega) (by omega) (htr.drewN _)).mono fun _ _ ⟨h1, h2⟩ => ⟨h1, h2.symm⟩)))
      go_wp2
      go_roundw
      case rel => exact ⟨k + 1, by omega, by go_num, by rw [HS.out], drewN_more hwr _⟩
      case measure => simp [intOf]; omega
    · go_wp2
      go_ret
      obtain rfl : k = s.size := by omega
      exact ⟨by rw [← HF.out]; rfl, hwr⟩

/-- The reference's register inside a byte, behind b bits. -/
def rI (w : BitVec 32) (x : UInt8) (b : Nat) : Int := ((rfold w (wd x) b).toNat : Int)
theorem rI_lo (w : BitVec 32) (x : UInt8) (b : Nat) : 0 ≤ rI w x b := by unfold rI; omega
theorem rI_hi (w : BitVec 32) (x : UInt8) (b : Nat) : rI w x b < 4294967296 := by unfold rI; have := (rfold w (wd x) b).isLt; omega

theorem rI_zero (w : BitVec 32) (x : UInt8) : rI w x 0 = (w.toNat : Int) := rfl

theorem rI_eight (c : BitVec 32) (s : ByteArray) (k : Nat) (h : k < s.size) : rI (reg (~~~ c) (s.data.toList.take k)) s[k] 8 = regI c s (k + 1) := by
  unfold rI regI
  rw [take_snoc s k h, reg_snoc, rfold8 _ _ (by rw [wd_toNat]; exact s[k].toNat_lt)]

theorem byte_pow (x : UInt8) (j : Nat) : (x.toNat : Int) / 2 ^ j = ((wd x >>> j).toNat : Int) := by
  rw [← wd_toNat, div_bv]

theorem rI_step (w : BitVec 32) (x : UInt8) (j : Nat) :
    ((bits .and .u32 (bits .xor .u32 (rI w x j) ((x.toNat : Int) / 2 ^ j)) 1 == 1) = true → bits .xor .u32 (rI w x j / 2) 3988292384 = rI w x (j + 1)) ∧
    ((bits .and .u32 (bits .xor .u32 (rI w x j) ((x.toNat : Int) / 2 ^ j)) 1 == 1) = false → rI w x j / 2 = rI w x (j + 1)) := by
  have e1 : (1 : Int) = ((1#32).toNat : Int) := rfl
  have e2 : (3988292384 : Int) = ((0xedb88320#32).toNat : Int) := rfl
  have ed : rI w x j / (2 : Int) = ((rfold w (wd x) j >>> 1).toNat : Int) := div_bv (rfold w (wd x) j) 1
  have ht : (bits .and .u32 (bits .xor .u32 (rI w x j) ((x.toNat : Int) / 2 ^ j)) 1 == 1) = decide ((rfold w (wd x) j ^^^ (wd x >>> j)) &&& 1#32 = 1#32) := by
    unfold rI
    rw [byte_pow, bits_xor_bv, e1, bits_and_bv, Bool.eq_iff_iff]
    simp only [beq_iff_eq, decide_eq_true_eq]
    constructor
    · intro h; exact BitVec.eq_of_toNat_eq (by omega)
    · intro h; rw [h]
  rw [ht, ed]
  constructor
  · intro h
    rw [e2, bits_xor_bv]
    show _ = ((rbit (rfold w (wd x) j) (wd x) j).toNat : Int)
    unfold rbit
    rw [if_pos (by simpa using h)]
  · intro h
    show _ = ((rbit (rfold w (wd x) j) (wd x) j).toNat : Int)
    unfold rbit
    rw [if_neg (by simpa using h)]

theorem xor_all (a : BitVec 32) : bits .xor .u32 (a.toNat : Int) 4294967295 = ((~~~ a).toNat : Int) := by
  have e : (4294967295 : Int) = ((BitVec.allOnes 32).toNat : Int) := rfl
  rw [e, bits_xor_bv, BitVec.xor_allOnes]

theorem start_eq (c : BitVec 32) (s : ByteArray) : bits .xor .u32 (c.toNat : Int) 4294967295 = regI c s 0 := by rw [xor_all]; rfl
theorem end_eq (c : BitVec 32) (s : ByteArray) : bits .xor .u32 (regI c s s.size) 4294967295 = ((add c s.data.toList).toNat : Int) := by
  unfold regI add
  rw [xor_all, List.take_of_length_le (by simp)]
theorem regI_reg (c : BitVec 32) (s : ByteArray) (k : Nat) : regI c s k = ((reg (~~~ c) (s.data.toList.take k)).toNat : Int) := rfl

attribute [irreducible] rI regI nibI

set_option maxHeartbeats 400000 in
theorem refAdd_any (c : BitVec 32) (x : Int) (s : ByteArray) (w : World) (hx : x = (c.toNat : Int)) (hs : s.size ≤ maxLen) :
    Calls Tryd.prog 71 #[.int .u32 x, .string s] w fun e w' => e = .returned (.int .u32 ((add c s.data.toList).toNat : Int)) ∧ w = w' := by
  unfold maxLen at hs
  subst hx
  have HN0 := Lib.hid (start_eq c s)
  have HF := Lib.hid (end_eq c s)
  go_enter Tryd.func71, Tryd.ntmps71
  go_wp2
  go_loopw [5, 6, 7, 8] (fun v i _ _ wr => ∃ k : Nat, k ≤ s.size ∧ i = .int .i64 k ∧ v = .int .u32 (regI c s k) ∧ w = wr) (fun _ i _ _ _ => s.size - (intOf i).toNat)
  case atStart => exact ⟨0, by omega, rfl, by rw [HN0.out], rfl⟩
  case round =>
    obtain ⟨k, hk, rfl, rfl, rfl⟩ := hrel
    by_cases hlt : k < s.size
    · have H8 := Lib.hid (rI_eight c s k hlt)
      have H0 := Lib.hid ((rI_zero (reg (~~~ c) (s.data.toList.take k)) s[k]).trans (regI_reg c s k).symm)
      obtain ⟨x, hx⟩ : ∃ x, s[k] = x := ⟨_, rfl⟩
      rw [hx] at H8 H0
      generalize reg (~~~ c) (s.data.toList.take k) = R at H8 H0
      go_wp2
      go_loopw [5, 7, 8] (fun v b _ wr => ∃ j : Nat, j ≤ 8 ∧ b = .int .i64 j ∧ v = .int .u32 (rI R x j) ∧ w = wr) (fun _ i _ _ => 8 - (intOf i).toNat)
      case atStart => exact ⟨0, by omega, rfl, by rw [H0.out], rfl⟩
      case round =>
        obtain ⟨j, hj, rfl, rfl, rfl⟩ := hrel
        have b0 := rI_lo R x j
        have b1 := rI_hi R x j
        have b4 := x.toNat_lt
        have HS := Lib.hid (rI_step R x j)
        by_cases hj8 : j < 8
        · go_wp2
          all_goals go_roundw
          case rel => exact ⟨j + 1, by omega, by go_num, by rw [HS.out.1 (by assumption)], by trivial⟩
          case measure => simp [intOf]; omega
          case rel => exact ⟨j + 1, by omega, by go_num, by rw [HS.out.2 (by assumption)], by trivial⟩
          case measure => simp [intOf]; omega
        · go_wp2
          obtain rfl : j = 8 := by omega
          go_roundw
          case rel => exact ⟨k + 1, by omega, by go_num, by rw [H8.out], by trivial⟩
          case measure => simp [intOf]; omega
    · go_wp2
      go_ret
      obtain rfl : k = s.size := by omega
      exact ⟨by rw [← HF.out]; rfl, rfl⟩
end Go.Proofs.YtlhcmgjkhkcgcaaDoor.crc
