/- The plain mathematics of a burst: bits, bytes, the register behind them. -/
import Derived.Test.YtlhcmgjkhkcgcaaDoorCrcMath
namespace Go.Proofs.YtlhcmgjkhkcgcaaDoor.crc

/-- The byte number q of a text of bits. -/
def byteOf (e : Nat → Bool) (q : Nat) : UInt8 :=
  UInt8.ofNat ((List.range 8).foldl (fun s j => s + if e (8 * q + j) then 2 ^ j else 0) 0)

/-- The register behind n bits, from nought on. -/
def regBits (e : Nat → Bool) : Nat → BitVec 32
  | 0 => 0#32
  | n + 1 => T (regBits e n ^^^ (if e n then 1#32 else 0#32))

/-- The first j bits of a window as a word. -/
def win (e : Nat → Bool) (s : Nat) : Nat → BitVec 32
  | 0 => 0#32
  | j + 1 => win e s j ^^^ ((if e (s + j) then 1#32 else 0#32) <<< j)

theorem regBits_zero (e : Nat → Bool) (s : Nat) (h : ∀ i, i < s → e i = false) : regBits e s = 0#32 := by
  induction s with
  | zero => rfl
  | succ s ih => simp [regBits, ih (fun i hi => h i (by omega)), h s (by omega), T_zero]

theorem regBits_win (e : Nat → Bool) (s : Nat) (h : ∀ i, i < s → e i = false) (j : Nat) (hj : j ≤ 32) : regBits e (s + j) = Tn j (win e s j) := by
  induction j with
  | zero => exact regBits_zero e s h
  | succ j ih =>
    rw [← Nat.add_assoc, regBits, ih (by omega), win, Tn]
    congr 1
    rw [Tn_xor, Tn_shl j _ (by split <;> decide) (by omega)]

theorem win_bit (e : Nat → Bool) (s : Nat) (h0 : e s = true) (j : Nat) : (win e s (j + 1)).getLsbD 0 = true := by
  induction j with
  | zero => simp [win, h0]
  | succ j ih =>
    rw [win, BitVec.getLsbD_xor, ih]
    have : ((if e (s + (j + 1)) then 1#32 else 0#32) <<< (j + 1)).getLsbD 0 = false := by simp
    rw [this]; rfl

theorem win_ne (e : Nat → Bool) (s : Nat) (h0 : e s = true) (j : Nat) (hj : 0 < j) : win e s j ≠ 0#32 := by
  obtain ⟨j, rfl⟩ : ∃ i, j = i + 1 := ⟨j - 1, by omega⟩
  intro hz
  have := win_bit e s h0 j
  rw [hz] at this
  simp at this

/-- Behind the window nothing is turned: the register never comes to nought. -/
theorem regBits_ne (e : Nat → Bool) (s m : Nat) (h : ∀ i, i < s → e i = false) (h0 : e s = true) (hm : 0 < m) (hm2 : m ≤ 32) (h2 : ∀ i, s + m ≤ i → e i = false) (n : Nat) (hn : s + m ≤ n) : regBits e n ≠ 0#32 := by
  obtain ⟨d, rfl⟩ : ∃ d, n = s + m + d := ⟨n - (s + m), by omega⟩
  clear hn
  induction d with
  | zero => rw [Nat.add_zero, regBits_win e s h m hm2]; exact Tn_ne _ _ (win_ne e s h0 m hm)
  | succ d ih =>
    rw [← Nat.add_assoc, regBits, h2 (s + m + d) (by omega)]
    simp only [Bool.false_eq_true, if_false, BitVec.xor_zero]
    exact T_ne _ ih

theorem bitSum (b : Nat → Bool) : (List.range 8).foldl (fun s j => s + if b j then 2 ^ j else 0) 0 = (if b 0 then 1 else 0) + (if b 1 then 2 else 0) + (if b 2 then 4 else 0) + (if b 3 then 8 else 0) + (if b 4 then 16 else 0) + (if b 5 then 32 else 0) + (if b 6 then 64 else 0) + (if b 7 then 128 else 0) := by
  simp [List.range_succ]

/-- Eight bits are a byte. -/
theorem eight (w : BitVec 32) (b0 b1 b2 b3 b4 b5 b6 b7 : Bool) :
    T (T (T (T (T (T (T (T (w ^^^ (if b0 then 1#32 else 0#32)) ^^^ (if b1 then 1#32 else 0#32)) ^^^ (if b2 then 1#32 else 0#32)) ^^^ (if b3 then 1#32 else 0#32)) ^^^ (if b4 then 1#32 else 0#32)) ^^^ (if b5 then 1#32 else 0#32)) ^^^ (if b6 then 1#32 else 0#32)) ^^^ (if b7 then 1#32 else 0#32)) =
    byteStep w (wd (UInt8.ofNat ((if b0 then 1 else 0) + (if b1 then 2 else 0) + (if b2 then 4 else 0) + (if b3 then 8 else 0) + (if b4 then 16 else 0) + (if b5 then 32 else 0) + (if b6 then 64 else 0) + (if b7 then 128 else 0)))) := by
  unfold byteStep
  simp only [T_xor, Tn_xor]
  have h : T (T (T (T (T (T (T (T (if b0 then 1#32 else 0#32)))))))) ^^^ T (T (T (T (T (T (T (if b1 then 1#32 else 0#32))))))) ^^^ T (T (T (T (T (T (if b2 then 1#32 else 0#32)))))) ^^^ T (T (T (T (T (if b3 then 1#32 else 0#32))))) ^^^ T (T (T (T (if b4 then 1#32 else 0#32)))) ^^^
      T (T (T (if b5 then 1#32 else 0#32))) ^^^ T (T (if b6 then 1#32 else 0#32)) ^^^ T (if b7 then 1#32 else 0#32) =
    Tn 8 (wd (UInt8.ofNat ((if b0 then 1 else 0) + (if b1 then 2 else 0) + (if b2 then 4 else 0) + (if b3 then 8 else 0) + (if b4 then 16 else 0) + (if b5 then 32 else 0) + (if b6 then 64 else 0) + (if b7 then 128 else 0)))) := by
    revert b0 b1 b2 b3 b4 b5 b6 b7
    decide +kernel
  rw [← h]
  simp only [BitVec.xor_assoc]
  rfl

theorem regBits_byte (e : Nat → Bool) (q : Nat) : regBits e (8 * q + 8) = byteStep (regBits e (8 * q)) (wd (byteOf e q)) := by
  unfold byteOf
  rw [bitSum (fun j => e (8 * q + j))]
  have := eight (regBits e (8 * q)) (e (8 * q + 0)) (e (8 * q + 1)) (e (8 * q + 2)) (e (8 * q + 3)) (e (8 * q + 4)) (e (8 * q + 5)) (e (8 * q + 6)) (e (8 * q + 7))
  rw [← this]
  rfl

theorem reg_bits (e : Nat → Bool) (n : Nat) : reg 0#32 ((List.range n).map (byteOf e)) = regBits e (8 * n) := by
  induction n with
  | zero => rfl
  | succ n ih =>
    rw [List.range_succ, List.map_append, reg_append, ih, Nat.mul_succ, regBits_byte]
    rfl


theorem byteOf_congr (e e' : Nat → Bool) (q : Nat) (h : ∀ j, j < 8 → e (8 * q + j) = e' (8 * q + j)) : byteOf e q = byteOf e' q := by
  unfold byteOf
  rw [bitSum (fun j => e (8 * q + j)), bitSum (fun j => e' (8 * q + j))]
  simp only [h 0 (by omega), h 1 (by omega), h 2 (by omega), h 3 (by omega), h 4 (by omega), h 5 (by omega), h 6 (by omega), h 7 (by omega)]

theorem bit_in : ∀ (b0 b1 b2 b3 b4 b5 b6 b7 : Bool),
    (b0 = false → UInt8.ofNat ((if true then 1 else 0) + (if b1 then 2 else 0) + (if b2 then 4 else 0) + (if b3 then 8 else 0) + (if b4 then 16 else 0) + (if b5 then 32 else 0) + (if b6 then 64 else 0) + (if b7 then 128 else 0)) =
      UInt8.ofNat ((if b0 then 1 else 0) + (if b1 then 2 else 0) + (if b2 then 4 else 0) + (if b3 then 8 else 0) + (if b4 then 16 else 0) + (if b5 then 32 else 0) + (if b6 then 64 else 0) + (if b7 then 128 else 0)) ^^^ UInt8.ofNat (2 ^ 0)) ∧
    (b1 = false → UInt8.ofNat ((if b0 then 1 else 0) + (if true then 2 else 0) + (if b2 then 4 else 0) + (if b3 then 8 else 0) + (if b4 then 16 else 0) + (if b5 then 32 else 0) + (if b6 then 64 else 0) + (if b7 then 128 else 0)) =
      UInt8.ofNat ((if b0 then 1 else 0) + (if b1 then 2 else 0) + (if b2 then 4 else 0) + (if b3 then 8 else 0) + (if b4 then 16 else 0) + (if b5 then 32 else 0) + (if b6 then 64 else 0) + (if b7 then 128 else 0)) ^^^ UInt8.ofNat (2 ^ 1)) ∧
    (b2 = false → UInt8.ofNat ((if b0 then 1 else 0) + (if b1 then 2 else 0) + (if true then 4 else 0) + (if b3 then 8 else 0) + (if b4 then 16 else 0) + (if b5 then 32 else 0) + (if b6 then 64 else 0) + (if b7 then 128 else 0)) =
      UInt8.ofNat ((if b0 then 1 else 0) + (if b1 then 2 else 0) + (if b2 then 4 else 0) + (if b3 then 8 else 0) + (if b4 then 16 else 0) + (if b5 then 32 else 0) + (if b6 then 64 else 0) + (if b7 then 128 else 0)) ^^^ UInt8.ofNat (2 ^ 2)) ∧
    (b3 = false → UInt8.ofNat ((if b0 then 1 else 0) + (if b1 then 2 else 0) + (if b2 then 4 else 0) + (if true then 8 else 0) + (if b4 then 16 else 0) + (if b5 then 32 else 0) + (if b6 then 64 else 0) + (if b7 then 128 else 0)) =
      UInt8.ofNat ((if b0 then 1 else 0) + (if b1 then 2 else 0) + (if b2 then 4 else 0) + (if b3 then 8 else 0) + (if b4 then 16 else 0) + (if b5 then 32 else 0) + (if b6 then 64 else 0) + (if b7 then 128 else 0)) ^^^ UInt8.ofNat (2 ^ 3)) ∧
    (b4 = false → UInt8.ofNat ((if b0 then 1 else 0) + (if b1 then 2 else 0) + (if b2 then 4 else 0) + (if b3 then 8 else 0) + (if true then 16 else 0) + (if b5 then 32 else 0) + (if b6 then 64 else 0) + (if b7 then 128 else 0)) =
      UInt8.ofNat ((if b0 then 1 else 0) + (if b1 then 2 else 0) + (if b2 then 4 else 0) + (if b3 then 8 else 0) + (if b4 then 16 else 0) + (if b5 then 32 else 0) + (if b6 then 64 else 0) + (if b7 then 128 else 0)) ^^^ UInt8.ofNat (2 ^ 4)) ∧
    (b5 = false → UInt8.ofNat ((if b0 then 1 else 0) + (if b1 then 2 else 0) + (if b2 then 4 else 0) + (if b3 then 8 else 0) + (if b4 then 16 else 0) + (if true then 32 else 0) + (if b6 then 64 else 0) + (if b7 then 128 else 0)) =
      UInt8.ofNat ((if b0 then 1 else 0) + (if b1 then 2 else 0) + (if b2 then 4 else 0) + (if b3 then 8 else 0) + (if b4 then 16 else 0) + (if b5 then 32 else 0) + (if b6 then 64 else 0) + (if b7 then 128 else 0)) ^^^ UInt8.ofNat (2 ^ 5)) ∧
    (b6 = false → UInt8.ofNat ((if b0 then 1 else 0) + (if b1 then 2 else 0) + (if b2 then 4 else 0) + (if b3 then 8 else 0) + (if b4 then 16 else 0) + (if b5 then 32 else 0) + (if true then 64 else 0) + (if b7 then 128 else 0)) =
      UInt8.ofNat ((if b0 then 1 else 0) + (if b1 then 2 else 0) + (if b2 then 4 else 0) + (if b3 then 8 else 0) + (if b4 then 16 else 0) + (if b5 then 32 else 0) + (if b6 then 64 else 0) + (if b7 then 128 else 0)) ^^^ UInt8.ofNat (2 ^ 6)) ∧
    (b7 = false → UInt8.ofNat ((if b0 then 1 else 0) + (if b1 then 2 else 0) + (if b2 then 4 else 0) + (if b3 then 8 else 0) + (if b4 then 16 else 0) + (if b5 then 32 else 0) + (if b6 then 64 else 0) + (if true then 128 else 0)) =
      UInt8.ofNat ((if b0 then 1 else 0) + (if b1 then 2 else 0) + (if b2 then 4 else 0) + (if b3 then 8 else 0) + (if b4 then 16 else 0) + (if b5 then 32 else 0) + (if b6 then 64 else 0) + (if b7 then 128 else 0)) ^^^ UInt8.ofNat (2 ^ 7)) := by
  decide +kernel

/-- One bit more is turned. -/
theorem byteOf_add (e e' : Nat → Bool) (k q : Nat) (hk : e k = false) (hk' : e' k = true) (hne : ∀ t, t ≠ k → e' t = e t) :
    byteOf e' q = if q = k / 8 then byteOf e q ^^^ UInt8.ofNat (2 ^ (k % 8)) else byteOf e q := by
  by_cases hq : q = k / 8
  · rw [if_pos hq]
    have hkq : k = 8 * q + k % 8 := by omega
    have hr : k % 8 < 8 := Nat.mod_lt _ (by omega)
    generalize hrr : k % 8 = r at *
    subst hkq
    unfold byteOf
    rw [bitSum (fun j => e (8 * q + j)), bitSum (fun j => e' (8 * q + j))]
    obtain ⟨f0, f1, f2, f3, f4, f5, f6, f7⟩ := bit_in (e (8 * q + 0)) (e (8 * q + 1)) (e (8 * q + 2)) (e (8 * q + 3)) (e (8 * q + 4)) (e (8 * q + 5)) (e (8 * q + 6)) (e (8 * q + 7))
    have hcase : r = 0 ∨ r = 1 ∨ r = 2 ∨ r = 3 ∨ r = 4 ∨ r = 5 ∨ r = 6 ∨ r = 7 := by omega
    rcases hcase with rfl | rfl | rfl | rfl | rfl | rfl | rfl | rfl
    · rw [hk', hne (8 * q + 1) (by omega), hne (8 * q + 2) (by omega), hne (8 * q + 3) (by omega), hne (8 * q + 4) (by omega), hne (8 * q + 5) (by omega), hne (8 * q + 6) (by omega), hne (8 * q + 7) (by omega)]; exact f0 hk
    · rw [hk', hne (8 * q + 0) (by omega), hne (8 * q + 2) (by omega), hne (8 * q + 3) (by omega), hne (8 * q + 4) (by omega), hne (8 * q + 5) (by omega), hne (8 * q + 6) (by omega), hne (8 * q + 7) (by omega)]; exact f1 hk
    · rw [hk', hne (8 * q + 0) (by omega), hne (8 * q + 1) (by omega), hne (8 * q + 3) (by omega), hne (8 * q + 4) (by omega), hne (8 * q + 5) (by omega), hne (8 * q + 6) (by omega), hne (8 * q + 7) (by omega)]; exact f2 hk
    · rw [hk', hne (8 * q + 0) (by omega), hne (8 * q + 1) (by omega), hne (8 * q + 2) (by omega), hne (8 * q + 4) (by omega), hne (8 * q + 5) (by omega), hne (8 * q + 6) (by omega), hne (8 * q + 7) (by omega)]; exact f3 hk
    · rw [hk', hne (8 * q + 0) (by omega), hne (8 * q + 1) (by omega), hne (8 * q + 2) (by omega), hne (8 * q + 3) (by omega), hne (8 * q + 5) (by omega), hne (8 * q + 6) (by omega), hne (8 * q + 7) (by omega)]; exact f4 hk
    · rw [hk', hne (8 * q + 0) (by omega), hne (8 * q + 1) (by omega), hne (8 * q + 2) (by omega), hne (8 * q + 3) (by omega), hne (8 * q + 4) (by omega), hne (8 * q + 6) (by omega), hne (8 * q + 7) (by omega)]; exact f5 hk
    · rw [hk', hne (8 * q + 0) (by omega), hne (8 * q + 1) (by omega), hne (8 * q + 2) (by omega), hne (8 * q + 3) (by omega), hne (8 * q + 4) (by omega), hne (8 * q + 5) (by omega), hne (8 * q + 7) (by omega)]; exact f6 hk
    · rw [hk', hne (8 * q + 0) (by omega), hne (8 * q + 1) (by omega), hne (8 * q + 2) (by omega), hne (8 * q + 3) (by omega), hne (8 * q + 4) (by omega), hne (8 * q + 5) (by omega), hne (8 * q + 6) (by omega)]; exact f7 hk
  · rw [if_neg hq]
    exact byteOf_congr e' e q fun j hj => hne _ (by omega)

/-- Which bits are turned behind i rounds: a window from f on; its first bit always. -/
def turned (f : Nat) (b : Nat → Bool) (i t : Nat) : Bool := decide (f ≤ t) && decide (t < f + i) && (t == f || b (t - f))

theorem turned_zero (f : Nat) (b : Nat → Bool) (t : Nat) : turned f b 0 t = false := by
  unfold turned
  by_cases h : f ≤ t
  · rw [show decide (t < f + 0) = false from decide_eq_false (by omega)]; simp
  · rw [decide_eq_false h]; simp

theorem turned_out (f : Nat) (b : Nat → Bool) (i t : Nat) (h : t < f ∨ f + i ≤ t) : turned f b i t = false := by
  unfold turned
  rcases h with h | h
  · simp [show ¬ f ≤ t by omega]
  · simp [show ¬ t < f + i by omega]

theorem turned_ne (f : Nat) (b : Nat → Bool) (i t : Nat) (h : t ≠ f + i) : turned f b (i + 1) t = turned f b i t := by
  unfold turned
  by_cases h1 : t < f + i
  · simp [h1, show t < f + (i + 1) by omega]
  · simp [h1, show ¬ t < f + (i + 1) by omega]

theorem turned_at (f : Nat) (b : Nat → Bool) (i : Nat) (h : i = 0 ∨ b i = true) : turned f b (i + 1) (f + i) = true := by
  unfold turned
  simp only [Bool.and_eq_true, decide_eq_true_eq, Bool.or_eq_true, beq_iff_eq]
  refine ⟨by omega, ?_⟩
  rcases h with rfl | h
  · left; omega
  · right; rw [Nat.add_sub_cancel_left]; exact h

theorem turned_not (f : Nat) (b : Nat → Bool) (i : Nat) (h0 : i ≠ 0) (h : b i = false) (t : Nat) : turned f b (i + 1) t = turned f b i t := by
  by_cases ht : t = f + i
  · subst ht
    rw [turned_out f b i _ (Or.inr (Nat.le_refl _))]
    unfold turned
    rw [Nat.add_sub_cancel_left, h]
    simp; omega
  · exact turned_ne f b i t ht

/-- What byte q is then. -/
def nowByte (l : List UInt8) (f : Nat) (b : Nat → Bool) (i q : Nat) : UInt8 := l.getD q 0 ^^^ byteOf (turned f b i) q

theorem byteOf_none (e : Nat → Bool) (q : Nat) (h : ∀ t, e t = false) : byteOf e q = 0 := by
  unfold byteOf
  rw [bitSum (fun j => e (8 * q + j))]
  simp [h]

theorem nowByte_zero (l : List UInt8) (f : Nat) (b : Nat → Bool) (q : Nat) : nowByte l f b 0 q = l.getD q 0 := by
  unfold nowByte
  rw [byteOf_none _ _ (turned_zero f b)]
  simp

theorem nowByte_yes (l : List UInt8) (f : Nat) (b : Nat → Bool) (i q : Nat) (h : i = 0 ∨ b i = true) :
    nowByte l f b (i + 1) q = if q = (f + i) / 8 then nowByte l f b i q ^^^ UInt8.ofNat (2 ^ ((f + i) % 8)) else nowByte l f b i q := by
  unfold nowByte
  rw [byteOf_add (turned f b i) (turned f b (i + 1)) (f + i) q (turned_out f b i _ (Or.inr (Nat.le_refl _))) (turned_at f b i h) (fun t ht => turned_ne f b i t ht)]
  split
  · rw [UInt8.xor_assoc]
  · rfl

theorem nowByte_no (l : List UInt8) (f : Nat) (b : Nat → Bool) (i q : Nat) (h0 : i ≠ 0) (h : b i = false) : nowByte l f b (i + 1) q = nowByte l f b i q := by
  unfold nowByte
  rw [show turned f b (i + 1) = turned f b i from funext fun t => turned_not f b i h0 h t]

/-- The text with the burst in it. -/
def burst (l : List UInt8) (f : Nat) (b : Nat → Bool) (i : Nat) : List UInt8 := (List.range l.length).map (nowByte l f b i)

theorem burst_length (l : List UInt8) (f : Nat) (b : Nat → Bool) (i : Nat) : (burst l f b i).length = l.length := by simp [burst]

end Go.Proofs.YtlhcmgjkhkcgcaaDoor.crc
