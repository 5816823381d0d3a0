/- The plain mathematics of the sum of 32 bytes: words, the words of all rounds, a round, a block, the end, the sum. No program in sight. -/
import Derived.Laws.Entries
namespace Go.Proofs.YtjnplcajajdkiaaDoor.sha

abbrev W32 := BitVec 32
def rotr (x : W32) (n : Nat) : W32 := (x >>> n) ||| (x <<< (32 - n))
def sg0 (x : W32) : W32 := (rotr x 7 ^^^ rotr x 18) ^^^ (x >>> 3)
def sg1 (x : W32) : W32 := (rotr x 17 ^^^ rotr x 19) ^^^ (x >>> 10)
def bsg0 (x : W32) : W32 := (rotr x 2 ^^^ rotr x 13) ^^^ rotr x 22
def bsg1 (x : W32) : W32 := (rotr x 6 ^^^ rotr x 11) ^^^ rotr x 25
def bw (x : UInt8) : W32 := BitVec.ofNat 32 x.toNat
/-- Four bytes. -/
def wd4 (l : List UInt8) (i : Nat) : W32 := (((bw (l.getD i 0) <<< 24) ||| (bw (l.getD (i + 1) 0) <<< 16)) ||| (bw (l.getD (i + 2) 0) <<< 8)) ||| bw (l.getD (i + 3) 0)
def nxt (x16 x15 x7 x2 : W32) : W32 := ((x16 + sg0 x15) + x7) + sg1 x2
/-- The first n words of a block. -/
def sched (l : List UInt8) : Nat → List W32
  | 0 => []
  | i + 1 => sched l i ++ [if i < 16 then wd4 l (4 * i) else nxt ((sched l i).getD (i - 16) 0) ((sched l i).getD (i - 15) 0) ((sched l i).getD (i - 7) 0) ((sched l i).getD (i - 2) 0)]
theorem sched_len (l : List UInt8) : ∀ n, (sched l n).length = n
  | 0 => rfl
  | i + 1 => by rw [sched, List.length_append, sched_len l i]; rfl
/-- The i-th word. -/
def wdAt (l : List UInt8) (i : Nat) : W32 := (sched l (i + 1)).getD i 0
theorem getD_left {α : Type} (a b : List α) (d : α) (i : Nat) (h : i < a.length) : (a ++ b).getD i d = a.getD i d := by rw [List.getD, List.getD, List.getElem?_append_left h]
theorem getD_right {α : Type} (a b : List α) (d : α) (i : Nat) (h : a.length ≤ i) : (a ++ b).getD i d = b.getD (i - a.length) d := by rw [List.getD, List.getD, List.getElem?_append_right h]
theorem sched_getD (l : List UInt8) : ∀ n i, i < n → (sched l n).getD i 0 = wdAt l i
  | 0, _, h => absurd h (Nat.not_lt_zero _)
  | n + 1, i, h => by
    by_cases hi : i = n
    · subst hi; rfl
    · have := sched_getD l n i (by omega)
      rw [sched, getD_left _ _ _ _ (by rw [sched_len]; omega)]
      exact this
theorem wdAt_eq (l : List UInt8) (i : Nat) : wdAt l i = if i < 16 then wd4 l (4 * i) else nxt (wdAt l (i - 16)) (wdAt l (i - 15)) (wdAt l (i - 7)) (wdAt l (i - 2)) := by
  have h : wdAt l i = if i < 16 then wd4 l (4 * i) else nxt ((sched l i).getD (i - 16) 0) ((sched l i).getD (i - 15) 0) ((sched l i).getD (i - 7) 0) ((sched l i).getD (i - 2) 0) := by
    unfold wdAt
    rw [sched, getD_right _ _ _ _ (by rw [sched_len]; exact Nat.le_refl _), sched_len, Nat.sub_self]
    rfl
  rw [h]
  by_cases h16 : i < 16
  · rw [if_pos h16, if_pos h16]
  · rw [if_neg h16, if_neg h16, sched_getD l i _ (by omega), sched_getD l i _ (by omega), sched_getD l i _ (by omega), sched_getD l i _ (by omega)]

/-- The rounds' words. -/
def kk : List Nat := [0x428a2f98, 0x71374491, 0xb5c0fbcf, 0xe9b5dba5, 0x3956c25b, 0x59f111f1, 0x923f82a4, 0xab1c5ed5, 0xd807aa98, 0x12835b01, 0x243185be, 0x550c7dc3, 0x72be5d74, 0x80deb1fe, 0x9bdc06a7, 0xc19bf174, 0xe49b69c1, 0xefbe4786, 0x0fc19dc6, 0x240ca1cc, 0x2de92c6f, 0x4a7484aa, 0x5cb0a9dc, 0x76f988da, 0x983e5152, 0xa831c66d, 0xb00327c8, 0xbf597fc7, 0xc6e00bf3, 0xd5a79147, 0x06ca6351, 0x14292967, 0x27b70a85, 0x2e1b2138, 0x4d2c6dfc, 0x53380d13, 0x650a7354, 0x766a0abb, 0x81c2c92e, 0x92722c85, 0xa2bfe8a1, 0xa81a664b, 0xc24b8b70, 0xc76c51a3, 0xd192e819, 0xd6990624, 0xf40e3585, 0x106aa070, 0x19a4c116, 0x1e376c08, 0x2748774c, 0x34b0bcb5, 0x391c0cb3, 0x4ed8aa4a, 0x5b9cca4f, 0x682e6ff3, 0x748f82ee, 0x78a5636f, 0x84c87814, 0x8cc70208, 0x90befffa, 0xa4506ceb, 0xbef9a3f7, 0xc67178f2]
def kAt (i : Nat) : W32 := BitVec.ofNat 32 (kk.getD i 0)
def ff : List Nat := [0x6a09e667, 0xbb67ae85, 0x3c6ef372, 0xa54ff53a, 0x510e527f, 0x9b05688c, 0x1f83d9ab, 0x5be0cd19]
def first (i : Nat) : W32 := BitVec.ofNat 32 (ff.getD i 0)

def tt (v : Nat → W32) (k w : W32) : W32 := (((v 7 + bsg1 (v 4)) + ((v 4 &&& v 5) ^^^ (~~~ (v 4) &&& v 6))) + k) + w
def uu (v : Nat → W32) : W32 := bsg0 (v 0) + (((v 0 &&& v 1) ^^^ (v 0 &&& v 2)) ^^^ (v 1 &&& v 2))
/-- A round. -/
def rnd (v : Nat → W32) (k w : W32) : Nat → W32 := fun i => if i = 0 then tt v k w + uu v else if i = 4 then v 3 + tt v k w else v (i - 1)
def rounds (l : List UInt8) (v : Nat → W32) : Nat → Nat → W32
  | 0 => v
  | n + 1 => rnd (rounds l v n) (kAt n) (wdAt l n)
/-- A block. -/
def turn (v : Nat → W32) (l : List UInt8) : Nat → W32 := fun i => v i + rounds l v 64 i
/-- Whole blocks. -/
def turns : Nat → (Nat → W32) → List UInt8 → Nat → W32
  | 0, v, _ => v
  | n + 1, v, l => turns n (turn v (l.take 64)) (l.drop 64)

/-- How many noughts stand behind the mark: bytes up to the last eight of a block. -/
def pad (n : Nat) : Nat := (119 - n % 64) % 64
theorem pad_eq (n : Nat) : (n + 1 + pad n) % 64 = 56 := by unfold pad; omega
theorem pad_least (n j : Nat) (h : j < pad n) : (n + 1 + j) % 64 ≠ 56 := by unfold pad at h; omega
theorem pad_lt (n : Nat) : pad n < 64 := Nat.mod_lt _ (by decide)
/-- The number's bytes, the greatest first. -/
def lenB (t : Nat) (k : Nat) : List UInt8 := (List.range k).map fun i => UInt8.ofNat (t / 2 ^ (8 * (7 - i)))
/-- What stands behind: the mark, the noughts, the length in bits. -/
def tail (n : Nat) : List UInt8 := 0x80 :: List.replicate (pad n) 0 ++ lenB (n * 8 % 2 ^ 64) 8
theorem lenB_len (t k : Nat) : (lenB t k).length = k := by simp [lenB]
theorem tail_len (n : Nat) : (tail n).length = pad n + 9 := by unfold tail; simp [lenB_len]
theorem whole (n : Nat) : (n + (tail n).length) % 64 = 0 := by rw [tail_len]; have := pad_eq n; omega

def byteAt (v : Nat → W32) (i : Nat) : Int := ((v (i / 4)).toNat / 2 ^ (24 - 8 * (i % 4)) % 256 : Nat)
/-- The sum's bytes. -/
def out (v : Nat → W32) : List Int := (List.range 32).map (byteAt v)
theorem out_len (v : Nat → W32) : (out v).length = 32 := by simp [out]
def words (l : List UInt8) : Nat → W32 := turns ((l ++ tail l.length).length / 64) first (l ++ tail l.length)
def sum (l : List UInt8) : List Int := out (words l)

theorem turns_add (m n : Nat) (v : Nat → W32) (l : List UInt8) : turns (m + n) v l = turns n (turns m v l) (l.drop (64 * m)) := by
  induction m generalizing v l with
  | zero => rw [Nat.zero_add]; simp [turns]
  | succ m ih => rw [show m + 1 + n = (m + n) + 1 from by omega, turns, ih, turns, List.drop_drop, show 64 + 64 * m = 64 * (m + 1) from by omega]
theorem turns_append (n : Nat) (v : Nat → W32) (l r : List UInt8) (h : 64 * n ≤ l.length) : turns n v (l ++ r) = turns n v l := by
  induction n generalizing v l with
  | zero => rfl
  | succ n ih => rw [turns, turns, List.take_append_of_le_length (by omega), List.drop_append_of_le_length (by omega), ih _ _ (by rw [List.length_drop]; omega)]
theorem turns_succ (n : Nat) (v : Nat → W32) (l : List UInt8) : turns (n + 1) v l = turn (turns n v l) ((l.drop (64 * n)).take 64) := by
  rw [turns_add n 1]; rfl

/-- The words behind the whole blocks, and what is left. -/
def wordsOf (l : List UInt8) : Nat → W32 := turns (l.length / 64) first l
def restOf (l : List UInt8) : List UInt8 := l.drop (64 * (l.length / 64))
theorem rest_len (l : List UInt8) : (restOf l).length = l.length % 64 := by unfold restOf; rw [List.length_drop]; omega
theorem words_eq (l : List UInt8) : words l = turns ((restOf l ++ tail l.length).length / 64) (wordsOf l) (restOf l ++ tail l.length) := by
  have hw := whole l.length
  have hr := rest_len l
  unfold words wordsOf
  have h1 : (l ++ tail l.length).length / 64 = l.length / 64 + (restOf l ++ tail l.length).length / 64 := by
    rw [List.length_append, List.length_append, hr]; omega
  rw [h1, turns_add, turns_append _ _ _ _ (by omega), List.drop_append_of_le_length (by omega)]
  rfl

end Go.Proofs.YtjnplcajajdkiaaDoor.sha
