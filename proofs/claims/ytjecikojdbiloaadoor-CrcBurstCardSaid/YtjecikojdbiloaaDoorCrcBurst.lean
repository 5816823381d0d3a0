/- The walk of CrcBurst: a text of which one to 32 bits in a row are turned has another checksum. -/
import Derived.Test.YtjecikojdbiloaaDoorCrcBits
import Derived.Test.YtjecikojdbiloaaDoorCrcSum
import Derived.Test.YtjecikojdbiloaaDoorArgKit
import Derived.Test.YtjecikojdbiloaaDoorStepKit
import Derived.Test.YtjecikojdbiloaaDoorCrcTwo
import Derived.Laws.IdiomStrings
namespace Go.Proofs.YtjecikojdbiloaaDoor.crc
open Go.RowKit
open Go.Proofs.YtjecikojdbiloaaDoor.argkit Go.Proofs.YtjecikojdbiloaaDoor.stepkit Go.Proofs.YtjecikojdbiloaaDoor.mix

set_option maxHeartbeats 400000 in
theorem burst_other (s : ByteArray) (t p : Int) (w : World) (h : s.size = 0 ∨ 1000 < s.size) (ht : TabAt w) :
    Calls Tryd.prog 5 #[.string s, .int .u16 t, .int .u32 p] w fun e w' => e = .returned (.bool true) ∧ ∃ n, w' = w.drewN n := by
  rcases h with h | h
  · have h0 : ((s.size : Int) == 0) = true := by simp [h]
    clear h
    go_enter Tryd.func5, Tryd.ntmps5
    go_wp2_with (go_at_call 7; refine (awake_any _ ht).mono ?_; rintro e w1 ⟨rfl, hw1⟩)
    go_ret
    exact ⟨rfl, hw1⟩
  · have h0 : ((s.size : Int) == 0) = false := by rw [beq_eq_false_iff_ne]; omega
    have h1 : (1000 : Int) < (s.size : Int) := by omega
    clear h
    go_enter Tryd.func5, Tryd.ntmps5
    go_wp2_with (go_at_call 7; refine (awake_any _ ht).mono ?_; rintro e w1 ⟨rfl, hw1⟩)
    go_ret
    exact ⟨rfl, hw1⟩

/-- The pattern's bit i, as the law asks for it. -/
def pb (p : Int) (i : Nat) : Bool := bits .and .u32 (p / 2 ^ i) 1 == 1

theorem burst_eq (l : List UInt8) (f : Nat) (b : Nat → Bool) (i : Nat) : burst l f b i = xorBytes l ((List.range l.length).map (byteOf (turned f b i))) := by
  apply List.ext_getElem
  · simp [burst, xorBytes]
  · intro q h1 h2
    have hq : q < l.length := by simpa [burst] using h1
    simp [burst, xorBytes, nowByte, List.getD, hq]

theorem burst_found (l : List UInt8) (f m : Nat) (b : Nat → Bool) (hm : 0 < m) (hm2 : m ≤ 32) (hf : f + m ≤ 8 * l.length) : add 0#32 (burst l f b m) ≠ add 0#32 l := by
  intro h
  have h1 : reg (~~~ 0#32) (burst l f b m) = reg (~~~ 0#32) l := by
    unfold add at h
    have := congrArg (fun x : BitVec 32 => ~~~ x) h
    simpa only [BitVec.not_not] using this
  have h2 := reg_xor l ((List.range l.length).map (byteOf (turned f b m))) (~~~ 0#32) 0#32 (by simp)
  rw [← burst_eq, BitVec.xor_zero, h1, reg_bits] at h2
  have h3 : regBits (turned f b m) (8 * l.length) = 0#32 := by
    have h4 := congrArg (fun x => reg (~~~ 0#32) l ^^^ x) h2
    rw [BitVec.xor_self, ← BitVec.xor_assoc, BitVec.xor_self, BitVec.zero_xor] at h4
    exact h4.symm
  exact regBits_ne (turned f b m) f m (fun i hi => turned_out f b m i (Or.inl hi)) (by
      obtain ⟨k, rfl⟩ : ∃ k, m = k + 1 := ⟨m - 1, by omega⟩
      unfold turned; simp) hm hm2 (fun i hi => turned_out f b m i (Or.inr hi)) (8 * l.length) hf h3

theorem bit_val (x : UInt8) (r : Nat) (hr : r < 8) : bits .xor .u8 (x.toNat : Int) (2 ^ r % 256) = ((x ^^^ UInt8.ofNat (2 ^ r)).toNat : Int) := by
  rw [← bits_xor_u8]
  have : r = 0 ∨ r = 1 ∨ r = 2 ∨ r = 3 ∨ r = 4 ∨ r = 5 ∨ r = 6 ∨ r = 7 := by omega
  rcases this with rfl | rfl | rfl | rfl | rfl | rfl | rfl | rfl <;> rfl

set_option maxHeartbeats 800000 in
theorem burst_walk (s : ByteArray) (t n : Nat) (p : Int) (w : World) (hs : s.size = n) (h0 : 0 < n) (hn : n ≤ 1000) (ht16 : t < 65536) (hpos : 0 < w.heap.size) (ht : TabAt w) :
    Calls Tryd.prog 5 #[.string s, .int .u16 t, .int .u32 p] w fun e w' => e = .returned (.bool true) ∧ Below w.heap.size w w' := by
  have hz : ((n : Int) == 0) = false := by simp; omega
  have hconv := fun w => run_bytes_of_string (P := Tryd.prog) w 9 31 5 s Tryd.underlying9 Tryd.underlying31 Tryd.underlying5
  rw [hs] at hconv
  obtain ⟨f, hf, hf2⟩ : ∃ f : Nat, (t : Int) % (8 * (n : Int)) = (f : Int) ∧ f < 8 * n := ⟨t % (8 * n), by push_cast; rfl, Nat.mod_lt _ (by omega)⟩
  obtain ⟨B, hB⟩ : ∃ B, w.heap.size = B := ⟨_, rfl⟩
  go_enter Tryd.func5, Tryd.ntmps5
  go_wp2
  rw [hf]
  clear hf hconv
  go_loopw [9, 10] (fun i _ wr => ∃ j : Nat, j ≤ 32 ∧ f + j ≤ 8 * n ∧ i = .int .i64 j ∧ (∀ q, q < n → wr.cell? ⟨B, q, none⟩ = some (.int .u8 ((nowByte s.data.toList f (pb p) j q).toNat : Int))) ∧ (∀ q, q < n → wr.frozen? ⟨B, q, none⟩ = false) ∧ Below B w wr)
    (fun i _ _ => 32 - (intOf i).toNat)
  case atStart =>
    have hcs : ∀ q, q < n → ((w.alloc (.cells (bytesRow s (grownCap w n 0 5)) 5 ((bytesRow s (grownCap w n 0 5)).size, (bytesRow s (grownCap w n 0 5)).size + 1))).drew).cell? ⟨B, q, none⟩ = some (.int .u8 ((nowByte s.data.toList f (pb p) 0 q).toNat : Int)) ∧
        ((w.alloc (.cells (bytesRow s (grownCap w n 0 5)) 5 ((bytesRow s (grownCap w n 0 5)).size, (bytesRow s (grownCap w n 0 5)).size + 1))).drew).frozen? ⟨B, q, none⟩ = false := by
      intro q hq
      rw [nowByte_zero, ← hB]
      have hqs2 : q < s.size := by omega
      refine ⟨?_, ?_⟩
      · show World.cell? { w with heap := w.heap.push _ } _ = _
        simp [World.cell?, bytesRow, Array.getElem?_append, hqs2]
      · show World.frozen? { w with heap := w.heap.push _ } _ = _
        simp [World.frozen?, bytesRow]
        omega
    exact ⟨0, by omega, by omega, rfl, fun q hq => (hcs q hq).1, fun q hq => (hcs q hq).2, ((Below.refl B w).alloc (by omega) _).drew⟩
  case round =>
    obtain ⟨j, hj, hfj, rfl, hcell, hfree, hbel⟩ := hrel
    by_cases hlt : j < 32 ∧ f + j < 8 * n
    · obtain ⟨hl1, hl2⟩ := hlt
      have hq : (f + j) / 8 < n := by omega
      have hc1 := hcell _ hq
      have hr1 := hfree _ hq
      have hbelS := fun v : Value => hbel.setCell (p := ⟨B, (f + j) / 8, none⟩) (Nat.le_refl _) v
      have hyes : ∀ (_h : j = 0 ∨ pb p j = true), (∀ q, q < n → (wr.setCell ⟨B, (f + j) / 8, none⟩ (.int .u8 (bits .xor .u8 ((nowByte s.data.toList f (pb p) j ((f + j) / 8)).toNat : Int) (2 ^ ((f + j) % 8) % 256)))).cell? ⟨B, q, none⟩ = some (.int .u8 ((nowByte s.data.toList f (pb p) (j + 1) q).toNat : Int))) ∧
          ∀ q, q < n → (wr.setCell ⟨B, (f + j) / 8, none⟩ (.int .u8 (bits .xor .u8 ((nowByte s.data.toList f (pb p) j ((f + j) / 8)).toNat : Int) (2 ^ ((f + j) % 8) % 256)))).frozen? ⟨B, q, none⟩ = false := by
        intro h
        refine ⟨fun q hqn => ?_, fun q hqn => by rw [World.frozen?_setCell]; exact hfree q hqn⟩
        rw [nowByte_yes _ _ _ _ _ h, bit_val _ _ (Nat.mod_lt _ (by omega))]
        by_cases he : q = (f + j) / 8
        · rw [if_pos he, he]
          exact World.cell?_setCell_same _ _ _ hc1
        · rw [if_neg he, World.cell?_setCell_other _ _ _ _ (by intro h2; simp only [Addr.mk.injEq] at h2; omega)]
          exact hcell q hqn
      have HY := Lib.hid hyes
      have HBS := Lib.hid hbelS
      have HC := Lib.hid hcell
      have HR := Lib.hid hfree
      clear hcell hfree hB hyes hbelS
      by_cases hj0 : j = 0
      · subst hj0
        simp only [Nat.add_zero] at hc1 hr1 hq HY HBS
        go_wp2
        go_roundw
        case rel => exact ⟨1, by omega, by omega, rfl, (HY.out (Or.inl (by trivial))).1, (HY.out (Or.inl (by trivial))).2, HBS.out _⟩
        case measure => simp [intOf]
      · have hjz : ((j : Int) == 0) = false := by rw [beq_eq_false_iff_ne]; omega
        by_cases hpb : pb p j = true
        · have hp3 : (bits .and .u32 (p / 2 ^ j) 1 == 1) = true := hpb
          have HP := Lib.hid hpb
          clear hpb hj0
          go_wp2
          go_roundw
          case rel => exact ⟨j + 1, by omega, by omega, by go_num, (HY.out (Or.inr HP.out)).1, (HY.out (Or.inr HP.out)).2, HBS.out _⟩
          case measure => simp [intOf]; omega
        · have hp3 : (bits .and .u32 (p / 2 ^ j) 1 == 1) = false := by simpa [pb] using hpb
          have HP := Lib.hid (show pb p j = false from by simpa using hpb)
          have HJ := Lib.hid hj0
          clear hpb hj0
          go_wp2
          go_roundw
          case rel => exact ⟨j + 1, by omega, by omega, by go_num, fun q hq => by rw [nowByte_no _ _ _ _ _ HJ.out HP.out]; exact HC.out q hq, HR.out, hbel⟩
          case measure => simp [intOf]; omega
    · have hj1 : 0 < j := by omega
      have hconv2 := run_convert_bytes_arg (P := Tryd.prog) wr 31 5 Tryd.underlying31 Tryd.underlying5 B 0 n (grownCap w n 0 5) ((burst s.data.toList f (pb p) j).map fun x : UInt8 => (x.toNat : Int)) (by simp [burst, ← hs]) (by
        intro q hq
        rw [Nat.zero_add, hcell q hq]
        have hqs : q < s.size := by omega
        simp [burst, List.getD, hqs]) 9 Tryd.underlying9
      have hst : strOfNums ((burst s.data.toList f (pb p) j).map fun x : UInt8 => (x.toNat : Int)) = ⟨(burst s.data.toList f (pb p) j).toArray⟩ := by
        unfold strOfNums
        congr 1
        simp only [List.map_map]
        congr 1
        rw [show ((fun n : Int => UInt8.ofNat n.toNat) ∘ fun x : UInt8 => (x.toNat : Int)) = id from funext fun x => by simp, List.map_id]
      rw [hst] at hconv2
      have hlen : (burst s.data.toList f (pb p) j).length = n := by rw [burst_length]; simpa using hs
      have hne : (((add 0#32 (burst s.data.toList f (pb p) j)).toNat : Int) != ((add 0#32 s.data.toList).toNat : Int)) = true := by
        rw [bne_iff_ne]
        intro h
        exact burst_found s.data.toList f j (pb p) hj1 (by omega) (by simp; omega) (BitVec.eq_of_toNat_eq (by omega))
      have htr := ht.below (hB ▸ hbel) hpos
      clear hcell hfree hst
      generalize hLL : burst s.data.toList f (pb p) j = LL at *
      clear hLL
      have fin : ∀ w1 w2 w3 : World, (∃ k, w1 = wr.drewN k) → (∃ k, w2 = w1.drewN k) → (∃ k, w3 = w2.drewN k) → Below w.heap.size w w3 := fun w1 w2 w3 h1 h2 h3 => by
        rw [hB]
        exact hbel.trans (((drawn_below B h1).trans (drawn_below B h2)).trans (drawn_below B h3))
      have FIN := Lib.hid fin
      clear fin
      by_cases hj32 : j < 32
      · have hfe : ¬ f + j < 8 * n := fun h => hlt ⟨hj32, h⟩
        clear hB hlt
        go_wp2_with fail
        refine (sum_any _ _ (by rw [bytes_size]; unfold maxLen; omega) htr).mono ?_; rintro e w1 ⟨rfl, hw1⟩
        have ht1 := htr.drawn hw1
        go_wp2_with fail
        refine (sum_any _ _ (by unfold maxLen; omega) ht1).mono ?_; rintro e w2 ⟨rfl, hw2⟩
        have ht2 := ht1.drawn hw2
        go_wp2_with fail
        refine (awake_any _ ht2).mono ?_; rintro e w3 ⟨rfl, hw3⟩
        go_wp2
        go_ret
        exact ⟨rfl, FIN.out _ _ _ hw1 hw2 hw3⟩
      · clear hB hlt
        by_cases hfe : f + j < 8 * n
        all_goals
          go_wp2_with fail
          refine (sum_any _ _ (by rw [bytes_size]; unfold maxLen; omega) htr).mono ?_; rintro e w1 ⟨rfl, hw1⟩
          have ht1 := htr.drawn hw1
          go_wp2_with fail
          refine (sum_any _ _ (by unfold maxLen; omega) ht1).mono ?_; rintro e w2 ⟨rfl, hw2⟩
          have ht2 := ht1.drawn hw2
          go_wp2_with fail
          refine (awake_any _ ht2).mono ?_; rintro e w3 ⟨rfl, hw3⟩
          go_wp2
          go_ret
          exact ⟨rfl, FIN.out _ _ _ hw1 hw2 hw3⟩
end Go.Proofs.YtjecikojdbiloaaDoor.crc
