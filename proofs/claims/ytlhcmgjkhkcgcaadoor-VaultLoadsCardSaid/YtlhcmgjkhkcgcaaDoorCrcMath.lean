/- The plain mathematics of the checksum of 32 bits: the register's step, linearity, the half-byte table, the reference's bit loop. No program in sight. -/
import Derived.Laws.Entries
namespace Go.Proofs.YtlhcmgjkhkcgcaaDoor.crc

/-- One bit of the register. -/
def T (w : BitVec 32) : BitVec 32 := (w >>> 1) ^^^ (if w.getLsbD 0 then 0xedb88320#32 else 0#32)

theorem xor4 (a b c d : BitVec 32) : (a ^^^ b) ^^^ (c ^^^ d) = (a ^^^ c) ^^^ (b ^^^ d) := by
  ext i hi; simp only [BitVec.getElem_xor]; cases a[i] <;> cases b[i] <;> cases c[i] <;> cases d[i] <;> rfl

theorem T_xor (a b : BitVec 32) : T (a ^^^ b) = T a ^^^ T b := by
  unfold T
  rw [BitVec.ushiftRight_xor_distrib, xor4, BitVec.getLsbD_xor]
  congr 1
  cases a.getLsbD 0 <;> cases b.getLsbD 0 <;> simp

theorem T_zero : T 0#32 = 0#32 := by decide

theorem T_ne (a : BitVec 32) (h : a ≠ 0#32) : T a ≠ 0#32 := by
  intro hz
  apply h
  unfold T at hz
  cases hl : a.getLsbD 0
  · rw [hl] at hz
    simp only [Bool.false_eq_true, if_false, BitVec.xor_zero] at hz
    have h1 : a.toNat / 2 = 0 := by
      have := congrArg BitVec.toNat hz
      simpa [BitVec.toNat_ushiftRight, Nat.shiftRight_eq_div_pow] using this
    have h2 : a.toNat % 2 = 0 := by
      have : a.toNat.testBit 0 = false := hl
      rw [Nat.testBit_zero] at this
      simp at this; omega
    apply BitVec.eq_of_toNat_eq
    simp; omega
  · rw [hl] at hz
    have := congrArg (fun x : BitVec 32 => x.getLsbD 31) hz
    simp at this

/-- n bits of the register. -/
def Tn : Nat → BitVec 32 → BitVec 32
  | 0, w => w
  | n + 1, w => T (Tn n w)

theorem Tn_xor (n : Nat) (a b : BitVec 32) : Tn n (a ^^^ b) = Tn n a ^^^ Tn n b := by
  induction n with
  | zero => rfl
  | succ n ih => simp only [Tn, ih, T_xor]

theorem Tn_zero (n : Nat) : Tn n 0#32 = 0#32 := by
  induction n with
  | zero => rfl
  | succ n ih => simp only [Tn, ih, T_zero]

theorem Tn_ne (n : Nat) (a : BitVec 32) (h : a ≠ 0#32) : Tn n a ≠ 0#32 := by
  induction n with
  | zero => exact h
  | succ n ih => exact T_ne _ ih

theorem Tn_add (m n : Nat) (w : BitVec 32) : Tn (m + n) w = Tn m (Tn n w) := by
  induction m with
  | zero => simp [Tn]
  | succ m ih => rw [show m + 1 + n = (m + n) + 1 from by omega]; simp only [Tn, ih]

theorem T_low (w : BitVec 32) (h : w.getLsbD 0 = false) : T w = w >>> 1 := by
  unfold T; rw [h]; simp

/-- Where the low n bits are nought, n steps only shift. -/
theorem Tn_low (n : Nat) (w : BitVec 32) (h : ∀ i, i < n → w.getLsbD i = false) : Tn n w = w >>> n := by
  induction n with
  | zero => simp [Tn]
  | succ n ih =>
    rw [Tn, ih (fun i hi => h i (by omega)), T_low, ← BitVec.shiftRight_add]
    rw [BitVec.getLsbD_ushiftRight, Nat.add_zero]
    exact h n (by omega)

/-- The half-byte table. -/
def tab (i : Nat) : BitVec 32 := Tn 4 (BitVec.ofNat 32 i)

def tabNat : List Nat := [0, 498536548, 997073096, 651767980, 1994146192, 1802195444, 1303535960, 1342533948, 3988292384, 4027552580, 3604390888, 3412177804, 2607071920, 2262029012, 2685067896, 3183342108]

theorem tab_ok : ∀ i, i < 16 → (tab i).toNat = tabNat.getD i 0 := by decide +kernel

theorem getLsbD_15 (i : Nat) : (15#32).getLsbD i = decide (i < 4) := by
  by_cases h : i < 4
  · have : i = 0 ∨ i = 1 ∨ i = 2 ∨ i = 3 := by omega
    rcases this with rfl | rfl | rfl | rfl <;> rfl
  · simp only [h, decide_false]
    by_cases h2 : i < 32
    · have : ∀ j, j < 32 → ¬ j < 4 → (15#32).getLsbD j = false := by decide
      exact this i h2 h
    · exact BitVec.getLsbD_of_ge _ _ (by omega)

/-- One half byte, by the table. -/
def nib (w x : BitVec 32) : BitVec 32 := (w >>> 4) ^^^ tab ((w ^^^ x) &&& 15#32).toNat

theorem shr4_low (w : BitVec 32) : (w &&& 15#32) >>> 4 = 0#32 := by
  apply BitVec.eq_of_getLsbD_eq
  intro i _
  simp only [BitVec.getLsbD_ushiftRight, BitVec.getLsbD_and, getLsbD_15]
  simp

theorem Tn4_high (w : BitVec 32) : Tn 4 (w ^^^ (w &&& 15#32)) = w >>> 4 := by
  rw [Tn_low 4]
  · rw [BitVec.ushiftRight_xor_distrib, shr4_low, BitVec.xor_zero]
  · intro i hi
    simp only [BitVec.getLsbD_xor, BitVec.getLsbD_and, getLsbD_15, hi, decide_true, Bool.and_true, Bool.xor_self]

theorem xor_cancel (a b : BitVec 32) : (a ^^^ b) ^^^ b = a := by
  rw [BitVec.xor_assoc, BitVec.xor_self, BitVec.xor_zero]

theorem Tn4 (w : BitVec 32) : Tn 4 w = (w >>> 4) ^^^ tab (w &&& 15#32).toNat := by
  have h : w = (w ^^^ (w &&& 15#32)) ^^^ (w &&& 15#32) := (xor_cancel w _).symm
  conv => lhs; rw [h]
  rw [Tn_xor, Tn4_high]
  congr 1
  unfold tab
  rw [BitVec.ofNat_toNat, BitVec.setWidth_eq]

theorem nib_eq (w x : BitVec 32) : nib w x = Tn 4 (w ^^^ (x &&& 15#32)) := by
  rw [Tn4]
  unfold nib
  congr 1
  · rw [BitVec.ushiftRight_xor_distrib, shr4_low, BitVec.xor_zero]
  · congr 2
    apply BitVec.eq_of_getLsbD_eq
    intro i _
    simp only [BitVec.getLsbD_and, BitVec.getLsbD_xor, getLsbD_15]
    cases w.getLsbD i <;> cases x.getLsbD i <;> cases decide (i < 4) <;> rfl

/-- One byte. -/
def byteStep (w x : BitVec 32) : BitVec 32 := Tn 8 (w ^^^ x)

theorem nib_nib (w x : BitVec 32) (hx : x.toNat < 256) : nib (nib w x) (x >>> 4) = byteStep w x := by
  have e1 : (x >>> 4) &&& 15#32 = x >>> 4 := by
    apply BitVec.eq_of_toNat_eq
    rw [BitVec.toNat_and, BitVec.toNat_ushiftRight, Nat.shiftRight_eq_div_pow, show (15#32).toNat = 2 ^ 4 - 1 from rfl, Nat.and_two_pow_sub_one_eq_mod]
    omega
  rw [nib_eq, nib_eq, e1, ← Tn4_high x, ← Tn_xor, byteStep, ← Tn_add]
  congr 1
  ext i hi
  simp only [BitVec.getElem_xor, BitVec.getElem_and]
  cases w[i] <;> cases x[i] <;> cases (15#32)[i] <;> rfl

/-- What the reference does with one bit. -/
def rbit (w x : BitVec 32) (b : Nat) : BitVec 32 :=
  if (w ^^^ (x >>> b)) &&& 1#32 = 1#32 then (w >>> 1) ^^^ 0xedb88320#32 else w >>> 1

def rfold (w x : BitVec 32) : Nat → BitVec 32
  | 0 => w
  | b + 1 => rbit (rfold w x b) x b

theorem getLsbD_1 (i : Nat) : (1#32).getLsbD i = decide (i = 0) := by
  by_cases h : i = 0
  · subst h; rfl
  · simp only [h, decide_false]
    by_cases h2 : i < 32
    · have : ∀ j, j < 32 → ¬ j = 0 → (1#32).getLsbD j = false := by decide
      exact this i h2 h
    · exact BitVec.getLsbD_of_ge _ _ (by omega)

theorem and_one (v : BitVec 32) : (v &&& 1#32 = 1#32) ↔ v.getLsbD 0 = true := by
  constructor
  · intro h
    have := congrArg (fun x : BitVec 32 => x.getLsbD 0) h
    simpa [BitVec.getLsbD_and] using this
  · intro h
    apply BitVec.eq_of_getLsbD_eq
    intro i _
    rw [BitVec.getLsbD_and, getLsbD_1]
    by_cases hi : i = 0
    · subst hi; simp [h]
    · simp [hi]

theorem rbit_eq (w x : BitVec 32) (b : Nat) : rbit w x b = T (w ^^^ ((x >>> b) &&& 1#32)) := by
  have hs : (w ^^^ ((x >>> b) &&& 1#32)) >>> 1 = w >>> 1 := by
    rw [BitVec.ushiftRight_xor_distrib]
    have : ((x >>> b) &&& 1#32) >>> 1 = 0#32 := by
      apply BitVec.eq_of_getLsbD_eq
      intro i _
      simp only [BitVec.getLsbD_ushiftRight, BitVec.getLsbD_and, getLsbD_1]
      simp
    rw [this, BitVec.xor_zero]
  have hb : (w ^^^ ((x >>> b) &&& 1#32)).getLsbD 0 = (w ^^^ (x >>> b)).getLsbD 0 := by
    simp only [BitVec.getLsbD_xor, BitVec.getLsbD_and, getLsbD_1, decide_true, Bool.and_true]
  unfold rbit T
  rw [hs, hb]
  by_cases h : (w ^^^ (x >>> b)).getLsbD 0 = true
  · rw [if_pos ((and_one _).2 h), if_pos h]
  · rw [if_neg (fun h' => h ((and_one _).1 h')), if_neg h, BitVec.xor_zero]

/-- The low b bits of a word. -/
def low (x : BitVec 32) (b : Nat) : BitVec 32 := BitVec.ofNat 32 (x.toNat % 2 ^ b)

theorem low_succ (x : BitVec 32) (b : Nat) (hb : b < 32) : low x (b + 1) = low x b ^^^ (((x >>> b) &&& 1#32) <<< b) := by
  apply BitVec.eq_of_getLsbD_eq
  intro i hi
  rw [low, low, BitVec.getLsbD_xor, BitVec.getLsbD_ofNat, BitVec.getLsbD_ofNat, BitVec.getLsbD_shiftLeft, BitVec.getLsbD_and, BitVec.getLsbD_ushiftRight, getLsbD_1, Nat.testBit_mod_two_pow, Nat.testBit_mod_two_pow]
  by_cases h1 : i < b
  · simp [h1, hi, show i < b + 1 by omega]
  · by_cases h3 : i = b
    · subst h3; simp [hi, BitVec.getLsbD]
    · simp [h1, show ¬ i < b + 1 by omega, show ¬ i - b = 0 by omega]

theorem Tn_shl (b : Nat) (v : BitVec 32) (hv : v.toNat ≤ 1) (hb : b < 32) : Tn b (v <<< b) = v := by
  rw [Tn_low]
  · apply BitVec.eq_of_toNat_eq
    rw [BitVec.toNat_ushiftRight, BitVec.toNat_shiftLeft, Nat.shiftLeft_eq, Nat.shiftRight_eq_div_pow]
    have h1 : 2 ^ b < 2 ^ 32 := Nat.pow_lt_pow_right (by omega) hb
    have h2 : v.toNat * 2 ^ b < 2 ^ 32 := Nat.lt_of_le_of_lt (Nat.mul_le_mul_right _ hv) (by simpa using h1)
    rw [Nat.mod_eq_of_lt h2, Nat.mul_div_cancel _ (Nat.two_pow_pos b)]
  · intro i hi
    rw [BitVec.getLsbD_shiftLeft]
    simp [hi]

theorem and_one_le (v : BitVec 32) : (v &&& 1#32).toNat ≤ 1 := by
  rw [BitVec.toNat_and, show (1#32).toNat = 2 ^ 1 - 1 from rfl, Nat.and_two_pow_sub_one_eq_mod]
  omega

theorem rfold_eq (w x : BitVec 32) (b : Nat) (hb : b ≤ 32) : rfold w x b = Tn b (w ^^^ low x b) := by
  induction b with
  | zero =>
    have h0 : low x 0 = 0#32 := by simp [low, Nat.mod_one]
    simp [rfold, Tn, h0]
  | succ b ih =>
    rw [rfold, rbit_eq, ih (by omega), Tn]
    congr 1
    conv => lhs; rw [← Tn_shl b ((x >>> b) &&& 1#32) (and_one_le _) (by omega)]
    rw [← Tn_xor, BitVec.xor_assoc, ← low_succ x b (by omega)]

theorem rfold8 (w x : BitVec 32) (hx : x.toNat < 256) : rfold w x 8 = byteStep w x := by
  rw [rfold_eq w x 8 (by omega), byteStep]
  congr 2
  unfold low
  rw [Nat.mod_eq_of_lt (by omega)]
  simp

/-- A byte as a word. -/
def wd (x : UInt8) : BitVec 32 := BitVec.ofNat 32 x.toNat

theorem wd_toNat (x : UInt8) : (wd x).toNat = x.toNat := by
  simp [wd]

/-- The register behind a text. -/
def reg (w : BitVec 32) (l : List UInt8) : BitVec 32 := l.foldl (fun w x => byteStep w (wd x)) w

theorem reg_append (w : BitVec 32) (a b : List UInt8) : reg w (a ++ b) = reg (reg w a) b := by
  simp [reg, List.foldl_append]

theorem reg_snoc (w : BitVec 32) (a : List UInt8) (x : UInt8) : reg w (a ++ [x]) = byteStep (reg w a) (wd x) := by
  simp [reg, List.foldl_append]

/-- The checksum of a text, from one on. -/
def add (c : BitVec 32) (l : List UInt8) : BitVec 32 := ~~~ (reg (~~~ c) l)
def sum (l : List UInt8) : BitVec 32 := add 0#32 l

theorem add_append (c : BitVec 32) (a b : List UInt8) : add c (a ++ b) = add (add c a) b := by
  simp [add, reg_append]

theorem sum_awake : sum [49, 50, 51, 52, 53, 54, 55, 56, 57] = 3421780262#32 := by decide +kernel
theorem sum_nil : sum [] = 0#32 := by decide +kernel

end Go.Proofs.YtlhcmgjkhkcgcaaDoor.crc
