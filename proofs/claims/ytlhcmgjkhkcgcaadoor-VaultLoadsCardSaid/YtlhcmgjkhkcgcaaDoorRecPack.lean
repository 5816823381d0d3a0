/- Records one behind the other; torn; turned: plain. -/
import Derived.Test.YtlhcmgjkhkcgcaaDoorRecWalk
import Derived.Test.YtlhcmgjkhkcgcaaDoorCrcXor
namespace Go.Proofs.YtlhcmgjkhkcgcaaDoor.record
open Go.RowKit
open Go.Proofs.YtlhcmgjkhkcgcaaDoor.stepkit Go.Proofs.YtlhcmgjkhkcgcaaDoor.obj Go.Proofs.YtlhcmgjkhkcgcaaDoor.row Go.Proofs.YtlhcmgjkhkcgcaaDoor.mix Go.Proofs.YtlhcmgjkhkcgcaaDoor.idkit Go.Proofs.YtlhcmgjkhkcgcaaDoor.bytes Go.Proofs.YtlhcmgjkhkcgcaaDoor.octet Go.Proofs.YtlhcmgjkhkcgcaaDoor.eqkit

theorem from_list (s : ByteArray) (k : Nat) (h : k ≤ s.size) : (from_ s k).data.toList = s.data.toList.drop k := by
  unfold from_
  have := ext_list s k (s.size - k) (by omega)
  rw [show k + (s.size - k) = s.size by omega] at this
  rw [this, List.take_of_length_le (by rw [List.length_drop, str_len]; omega)]
/-- It may be put, and is short. -/
def good (r : RV) : Bool := decide (putE r.1 r.2 = 0) && decide ((putS r.1 r.2).size < 3000)
theorem good_iff {r : RV} (h : good r = true) : 1 ≤ r.1 ∧ r.1 ≤ 3 ∧ r.2.size ≤ 1048576 ∧ putE r.1 r.2 = 0 := by
  unfold good at h
  simp only [Bool.and_eq_true, decide_eq_true_eq] at h
  have h0 := h.1
  unfold putE at h0
  split at h0
  · omega
  · rename_i h1
    split at h0
    · omega
    · rename_i h2
      have h1' := Classical.not_not.1 h1
      exact ⟨h1'.1, h1'.2, by omega, h.1⟩
/-- A record's bytes. -/
def rb (r : RV) : List UInt8 := putL r.1.toNat r.2
theorem rb_len (r : RV) : (rb r).length = r.2.size + 9 := putL_len _ _
theorem good_rb {r : RV} (h : good r = true) : (putS r.1 r.2) = ⟨(rb r).toArray⟩ := by unfold putS; rw [if_pos (good_iff h).2.2.2]; rfl
theorem good_small {r : RV} (h : good r = true) : (rb r).length < 3000 := by
  have h1 := good_rb h
  unfold good at h
  simp only [Bool.and_eq_true, decide_eq_true_eq] at h
  rw [h1] at h
  rw [show (⟨(rb r).toArray⟩ : ByteArray).size = (rb r).length from by show (rb r).toArray.size = _; simp] at h; exact h.2
/-- All their bytes. -/
def cat (l : List RV) : List UInt8 := l.flatMap rb
theorem cat_append (l m : List RV) : cat (l ++ m) = cat l ++ cat m := by unfold cat; simp
theorem cat_cons (r : RV) (l : List RV) : cat (r :: l) = rb r ++ cat l := rfl
/-- Where each of them ends. -/
def endOf (l : List RV) (i : Nat) : Nat := (cat (l.take i)).length
theorem endOf_zero (l : List RV) : endOf l 0 = 0 := rfl
theorem endOf_all (l : List RV) : endOf l l.length = (cat l).length := by unfold endOf; rw [List.take_length]
theorem endOf_succ (l : List RV) (i : Nat) (h : i < l.length) : endOf l (i + 1) = endOf l i + (rb l[i]).length := by
  unfold endOf
  rw [List.take_add_one, cat_append, List.length_append, List.getElem?_eq_getElem h]
  simp [cat]
theorem endOf_le (l : List RV) : ∀ (i j : Nat), i ≤ j → endOf l i ≤ endOf l j := by
  intro i j h
  unfold endOf
  obtain ⟨k, rfl⟩ : ∃ k, j = i + k := ⟨j - i, by omega⟩
  rw [List.take_add, cat_append, List.length_append]
  omega
theorem cat_drop (l : List RV) (i : Nat) : (cat l).drop (endOf l i) = cat (l.drop i) := by
  have h : cat l = cat (l.take i) ++ cat (l.drop i) := by rw [← cat_append, List.take_append_drop]
  rw [h]
  exact List.drop_left
theorem drop_at (l : List RV) (i : Nat) (h : i < l.length) : cat (l.drop i) = rb l[i] ++ cat (l.drop (i + 1)) := by
  rw [List.drop_eq_getElem_cons h, cat_cons]

/-- A cut text, at a record's beginning. -/
theorem cut_from {l : List RV} {cut : Nat} {s : ByteArray} (hs : s.data.toList = (cat l).take cut) (i : Nat) (hi : i < l.length) (hc : endOf l i ≤ cut) (hcl : cut ≤ (cat l).length) :
    (from_ s (endOf l i)).data.toList = (rb l[i] ++ cat (l.drop (i + 1))).take (cut - endOf l i) := by
  have hsz : s.size = cut := by rw [← str_len, hs, List.length_take]; omega
  rw [from_list _ _ (by omega), hs, List.drop_take, cat_drop, drop_at l i hi]
theorem cut_step {l : List RV} (hl : ∀ r ∈ l, good r = true) {cut : Nat} {s : ByteArray} (hs : s.data.toList = (cat l).take cut) (hcl : cut ≤ (cat l).length) (i : Nat) (hi : i < l.length) (hc : endOf l (i + 1) ≤ cut) (hp : pos s i = endOf l i) :
    nxE s (pos s i : Nat) = 0 ∧ recAt s i = l[i] ∧ pos s (i + 1) = endOf l (i + 1) ∧ pos s i < s.size := by
  have hsz : s.size = cut := by rw [← str_len, hs, List.length_take]; omega
  have he := endOf_succ l i hi
  have hr := rb_len l[i]
  have hg := good_iff (hl l[i] (List.getElem_mem hi))
  have hf := cut_from hs i hi (by omega) hcl
  rw [List.take_append, List.take_of_length_le (by omega)] at hf
  obtain ⟨b1, b2, b3, b4⟩ := back (K := l[i].1.toNat) (b := l[i].2) hf (by omega) hg.2.2.1
  have hE : nxE s (pos s i : Nat) = 0 := by
    unfold nxE
    rw [if_neg (by omega), Int.toNat_natCast, hp, b1]
  refine ⟨hE, ?_, ?_, by omega⟩
  · unfold recAt nxK nxB
    rw [hE, Int.toNat_natCast, hp, b2, b3]
    have : ((l[i].1.toNat : Nat) : Int) = l[i].1 := by omega
    simp only [if_true]
    rw [this]
  · show (nxN s (pos s i : Nat)).toNat = _
    unfold nxN
    rw [if_pos hE, Int.toNat_natCast, hp, b4]
    omega
theorem torn_err {t : ByteArray} {r : RV} {x : List UInt8} {m : Nat} (hg : good r = true) (ht : t.data.toList = (rb r ++ x).take m) (hm : m < (rb r).length) : errOf t = 2 := by
  have hr := rb_len r
  have hg := good_iff hg
  have hts : t.size = m := by rw [← str_len, ht, List.length_take, List.length_append]; omega
  unfold errOf
  by_cases h4 : t.size < 4
  · rw [if_pos h4]
  · have hn : n4 t = r.2.size := by
      unfold n4
      rw [ht, List.take_take, Nat.min_eq_left (by omega), List.take_append_of_le_length (by omega)]
      unfold rb putL
      rw [List.append_assoc, List.append_assoc, List.nil_append, List.take_append_of_le_length (by rw [be4_len]; omega), List.take_of_length_le (by rw [be4_len]; omega), val_be4 _ (by omega)]
    rw [if_neg h4, hn, if_neg (by omega), if_pos (by omega)]
/-- What a torn text tells. -/
theorem torn_done {l : List RV} (hl : ∀ r ∈ l, good r = true) {cut : Nat} {s : ByteArray} (hs : s.data.toList = (cat l).take cut) (hcl : cut ≤ (cat l).length) (n : Nat) (hn : n ≤ l.length) (hc : endOf l n ≤ cut) (ho : n = l.length ∨ cut < endOf l (n + 1)) :
    Done s n (if endOf l n = cut then 0 else 2) ∧ recs s n = l.take n ∧ pos s n = endOf l n := by
  have hsz : s.size = cut := by rw [← str_len, hs, List.length_take]; omega
  have hpos : ∀ i, i ≤ n → pos s i = endOf l i := by
    intro i
    induction i with
    | zero => intro _; rfl
    | succ i ih => exact fun hi => (cut_step hl hs hcl i (by omega) (Nat.le_trans (endOf_le l (i + 1) n hi) hc) (ih (by omega))).2.2.1
  have hst : ∀ i (h : i < n), nxE s (pos s i : Nat) = 0 ∧ recAt s i = l[i]'(by omega) ∧ pos s (i + 1) = endOf l (i + 1) ∧ pos s i < s.size := fun i h => cut_step hl hs hcl i (by omega) (Nat.le_trans (endOf_le l (i + 1) n h) hc) (hpos i (by omega))
  refine ⟨⟨fun i hi => ⟨(hst i hi).2.2.2, (hst i hi).1⟩, ?_⟩, ?_, hpos n (Nat.le_refl _)⟩
  · by_cases he : endOf l n = cut
    · rw [if_pos he]
      exact Or.inl ⟨by rw [hpos n (Nat.le_refl _)]; omega, rfl⟩
    · rw [if_neg he]
      have hnl : n < l.length := by
        rcases ho with h | h
        · subst h; rw [endOf_all] at he hc; omega
        · rcases Nat.lt_or_ge n l.length with h1 | h1
          · exact h1
          · obtain rfl : n = l.length := by omega
            rw [endOf_all] at he hc; omega
      have hlt : cut < endOf l (n + 1) := by
        rcases ho with h | h
        · omega
        · exact h
      have he2 := endOf_succ l n hnl
      refine Or.inr ⟨by rw [hpos n (Nat.le_refl _)]; omega, ?_, by omega⟩
      unfold nxE
      rw [if_neg (by have := hpos n (Nat.le_refl _); omega), Int.toNat_natCast, hpos n (Nat.le_refl _)]
      exact torn_err (hl l[n] (List.getElem_mem hnl)) (cut_from hs n hnl hc hcl) (by omega)
  · unfold recs
    apply List.ext_getElem
    · simp; omega
    · intro i h1 h2
      have hi : i < n := by simpa using h1
      simp only [List.getElem_map, List.getElem_range, List.getElem_take]
      exact (hst i hi).2.1
/-- All of it. -/
theorem whole_done {l : List RV} (hl : ∀ r ∈ l, good r = true) {s : ByteArray} (hs : s.data.toList = cat l) : Done s l.length 0 ∧ recs s l.length = l ∧ pos s l.length = s.size := by
  have hsz : s.size = (cat l).length := by rw [← str_len, hs]
  have h := torn_done hl (cut := (cat l).length) (s := s) (by rw [hs, List.take_length]) (Nat.le_refl _) l.length (Nat.le_refl _) (by rw [endOf_all]; exact Nat.le_refl _) (Or.inl rfl)
  rw [endOf_all, if_pos rfl, List.take_length] at h
  exact ⟨h.1, h.2.1, by omega⟩

/-! ### What bytesOf takes -/
def goods (l : List RV) (i : Nat) : List RV := (l.take i).filter good
theorem goods_zero (l : List RV) : goods l 0 = [] := rfl
theorem goods_succ (l : List RV) (i : Nat) (h : i < l.length) : goods l (i + 1) = goods l i ++ (if good (l.getD i (0, nil)) then [l.getD i (0, nil)] else []) := by
  unfold goods
  rw [List.take_add_one, List.filter_append, List.getElem?_eq_getElem h]
  simp only [Option.toList_some, List.getD, List.getElem?_eq_getElem h, Option.getD_some]
  congr 1
  by_cases hg : good l[i] = true
  · simp [hg]
  · simp [hg]
theorem goods_yes (l : List RV) (i : Nat) (h : i < l.length) (hg : good (l.getD i (0, nil)) = true) : goods l (i + 1) = goods l i ++ [l.getD i (0, nil)] := by rw [goods_succ l i h, if_pos hg]
theorem goods_no (l : List RV) (i : Nat) (h : i < l.length) (hg : ¬ good (l.getD i (0, nil)) = true) : goods l (i + 1) = goods l i := by rw [goods_succ l i h, if_neg hg, List.append_nil]
theorem goods_good (l : List RV) (i : Nat) : ∀ r ∈ goods l i, good r = true := fun r hr => (List.mem_filter.1 hr).2
theorem goods_len (l : List RV) (i : Nat) : (goods l i).length ≤ i := by
  unfold goods
  have := List.length_filter_le good (l.take i)
  rw [List.length_take] at this
  omega
theorem cat_small {l : List RV} (h : ∀ r ∈ l, good r = true) : (cat l).length ≤ 3000 * l.length := by
  induction l with
  | nil => simp [cat]
  | cons r l ih =>
    rw [cat_cons, List.length_append, List.length_cons]
    have := good_small (h r (by simp))
    have := ih (fun x hx => h x (by simp [hx]))
    omega
/-- The ends, as the program keeps them. -/
def ends (l : List RV) : List Nat := (List.range l.length).map fun i => endOf l (i + 1)
theorem ends_len (l : List RV) : (ends l).length = l.length := by unfold ends; simp
theorem ends_get (l : List RV) (i : Nat) (h : i < l.length) : (ends l).getD i 0 = endOf l (i + 1) := by unfold ends; simp [List.getD, h]
theorem ends_snoc (l : List RV) (r : RV) : ends (l ++ [r]) = ends l ++ [(cat (l ++ [r])).length] := by
  unfold ends
  rw [List.length_append, List.length_singleton, List.range_succ, List.map_append]
  congr 1
  · apply List.map_congr_left
    intro i hi
    have hi := List.mem_range.1 hi
    unfold endOf
    rw [List.take_append_of_le_length (by omega)]
  · simp [endOf, List.take_of_length_le]
end Go.Proofs.YtlhcmgjkhkcgcaaDoor.record
