/- A record of which some bits are turned: plain. -/
import Derived.Test.YtlhcmgjkhkcgcaaDoorRecPack
namespace Go.Proofs.YtlhcmgjkhkcgcaaDoor.crc
theorem now_out (l : List UInt8) (f : Nat) (b : Nat → Bool) (i q : Nat) (h : 8 * q + 8 ≤ f ∨ f + i ≤ 8 * q) : nowByte l f b i q = l.getD q 0 := by
  unfold nowByte
  rw [byteOf_congr (turned f b i) (fun _ => false) q (fun j hj => turned_out f b i _ (by omega)), byteOf_none _ _ (fun _ => rfl)]
  simp
theorem now_shift (a l : List UInt8) (f : Nat) (b : Nat → Bool) (i q : Nat) : nowByte (a ++ l) (8 * a.length + f) b i (a.length + q) = nowByte l f b i q := by
  unfold nowByte
  congr 1
  · simp only [List.getD_eq_getElem?_getD, List.getElem?_append_right (Nat.le_add_right _ _), Nat.add_sub_cancel_left]
  · have ht : ∀ j, turned (8 * a.length + f) b i (8 * (a.length + q) + j) = turned f b i (8 * q + j) := fun j => by
      unfold turned
      have e1 : decide (8 * a.length + f ≤ 8 * (a.length + q) + j) = decide (f ≤ 8 * q + j) := by apply decide_eq_decide.2; omega
      have e2 : decide (8 * (a.length + q) + j < 8 * a.length + f + i) = decide (8 * q + j < f + i) := by apply decide_eq_decide.2; omega
      have e3 : (8 * (a.length + q) + j == 8 * a.length + f) = (8 * q + j == f) := by
        by_cases h : 8 * q + j = f
        · rw [beq_iff_eq.2 h, beq_iff_eq.2 (by omega)]
        · rw [beq_eq_false_iff_ne.2 h, beq_eq_false_iff_ne.2 (by omega)]
      rw [e1, e2, e3, show 8 * (a.length + q) + j - (8 * a.length + f) = 8 * q + j - f by omega]
    unfold byteOf
    congr 1
    congr 1
    funext s j
    rw [ht]
theorem now_left (l c : List UInt8) (f : Nat) (b : Nat → Bool) (i q : Nat) (h : q < l.length) : nowByte (l ++ c) f b i q = nowByte l f b i q := by
  unfold nowByte
  congr 1
  simp only [List.getD_eq_getElem?_getD, List.getElem?_append_left h]
theorem burst_mid (a l c : List UInt8) (f : Nat) (b : Nat → Bool) (i : Nat) (h : f + i ≤ 8 * l.length) : burst (a ++ (l ++ c)) (8 * a.length + f) b i = a ++ (burst l f b i ++ c) := by
  apply List.ext_getElem
  · simp [burst]
  · intro q h1 h2
    have hq : q < a.length + (l.length + c.length) := by simpa [burst] using h1
    have e1 : (burst (a ++ (l ++ c)) (8 * a.length + f) b i)[q] = nowByte (a ++ (l ++ c)) (8 * a.length + f) b i q := by simp [burst]
    rw [e1]
    rcases Nat.lt_or_ge q a.length with h3 | h3
    · rw [now_out _ _ _ _ _ (by omega), List.getElem_append_left h3, List.getD_eq_getElem?_getD, List.getElem?_append_left h3, List.getElem?_eq_getElem h3]
      rfl
    · obtain ⟨p, rfl⟩ : ∃ p, q = a.length + p := ⟨q - a.length, by omega⟩
      rw [now_shift, List.getElem_append_right h3]
      simp only [Nat.add_sub_cancel_left]
      rcases Nat.lt_or_ge p l.length with h4 | h4
      · rw [now_left _ _ _ _ _ _ h4, List.getElem_append_left (by rw [burst_length]; exact h4)]
        simp [burst]
      · rw [now_out _ _ _ _ _ (by omega), List.getElem_append_right (by rw [burst_length]; exact h4)]
        simp only [burst_length]
        have : p - l.length < c.length := by omega
        simp [List.getD, List.getElem?_append_right h4, this]
end Go.Proofs.YtlhcmgjkhkcgcaaDoor.crc
namespace Go.Proofs.YtlhcmgjkhkcgcaaDoor.record
open Go.RowKit
open Go.Proofs.YtlhcmgjkhkcgcaaDoor.stepkit Go.Proofs.YtlhcmgjkhkcgcaaDoor.obj Go.Proofs.YtlhcmgjkhkcgcaaDoor.row Go.Proofs.YtlhcmgjkhkcgcaaDoor.mix Go.Proofs.YtlhcmgjkhkcgcaaDoor.idkit Go.Proofs.YtlhcmgjkhkcgcaaDoor.bytes Go.Proofs.YtlhcmgjkhkcgcaaDoor.octet Go.Proofs.YtlhcmgjkhkcgcaaDoor.eqkit

theorem turned_err {t : ByteArray} {n : Nat} {L I : List UInt8} (hn : n ≤ 1048576) (hL : L.length = n + 1) (ht : t.data.toList = be4 n ++ (L ++ be4 (crc.add 0#32 I).toNat)) (hne : crc.add 0#32 L ≠ crc.add 0#32 I) : errOf t = 10 ∨ errOf t = 13 := by
  have hsz : t.size = n + 9 := by rw [← str_len, ht, List.length_append, List.length_append, be4_len, be4_len, hL]; omega
  have hn4 : n4 t = n := by
    unfold n4
    rw [ht, List.take_append_of_le_length (by rw [be4_len]; omega), List.take_of_length_le (by rw [be4_len]; omega), val_be4 _ (by omega)]
  obtain ⟨x, L2, rfl⟩ : ∃ x L2, L = x :: L2 := by
    cases L with
    | nil => simp at hL
    | cons x L2 => exact ⟨x, L2, rfl⟩
  have hL2 : L2.length = n := by simpa using hL
  have hd4 : t.data.toList.drop 4 = x :: (L2 ++ be4 (crc.add 0#32 I).toNat) := by
    rw [ht, show 4 = (be4 n).length from (be4_len _).symm, List.drop_left]; rfl
  have hk : kOf t = x.toNat := by
    unfold kOf
    rw [hd4]
    simp [val]
  have hd5 : t.data.toList.drop 5 = L2 ++ be4 (crc.add 0#32 I).toNat := by
    rw [show 5 = 4 + 1 from rfl, ← List.drop_drop, hd4]; rfl
  have hbd : (bodyOf t).data.toList = L2 := by
    unfold bodyOf
    rw [hn4, ext_list t 5 n (by omega), hd5, List.take_append_of_le_length (by omega), List.take_of_length_le (by omega)]
  have hsum : sumOf t = (crc.add 0#32 I).toNat := by
    unfold sumOf
    rw [hn4, ← List.drop_drop, hd5, ← hL2, List.drop_left, List.take_of_length_le (by rw [be4_len]; omega), val_be4 _ (crc.add 0#32 I).isLt]
  have hin : (innerB (kOf t) (bodyOf t)).data.toList = x :: L2 := by
    rw [inner_list, hbd, hk]
    simp
  unfold errOf
  rw [hn4, if_neg (by omega), if_neg (by omega), if_neg (by omega)]
  by_cases hkk : 1 ≤ kOf t ∧ kOf t ≤ 3
  · rw [if_neg (by simpa using hkk), if_pos]
    · exact Or.inr rfl
    · rw [hsum]
      unfold crcOf
      rw [hin]
      exact fun h => hne (BitVec.eq_of_toNat_eq h)
  · rw [if_pos hkk]
    exact Or.inl rfl
theorem putL_cut (K : Nat) (b : ByteArray) : putL K b = be4 b.size ++ ((innerB K b).data.toList ++ be4 (crc.add 0#32 (innerB K b).data.toList).toNat) := by
  unfold putL crcOf
  rw [List.nil_append, List.append_assoc]
/-- What a turned record tells. -/
theorem turned_tells (K : Nat) (b : ByteArray) (hb : b.size ≤ 1048576) (f j : Nat) (p : Nat → Bool) (hj : 0 < j) (hj2 : j ≤ 32) (hf : f + j ≤ 8 * (b.size + 1)) {t : ByteArray} (ht : t.data.toList = crc.burst (putL K b) (f + 32) p j) : errOf t = 10 ∨ errOf t = 13 := by
  have hil : (innerB K b).data.toList.length = b.size + 1 := by rw [str_len, inner_size]
  have hm := crc.burst_mid (be4 b.size) (innerB K b).data.toList (be4 (crc.add 0#32 (innerB K b).data.toList).toNat) f p j (by omega)
  rw [be4_len, ← putL_cut, show 8 * 4 + f = f + 32 by omega] at hm
  rw [hm] at ht
  exact turned_err hb (by rw [crc.burst_length]; exact hil) ht (crc.burst_found _ f j p hj hj2 (by omega))
end Go.Proofs.YtlhcmgjkhkcgcaaDoor.record
