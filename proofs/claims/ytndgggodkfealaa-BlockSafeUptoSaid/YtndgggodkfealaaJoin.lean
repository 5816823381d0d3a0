/- The texts of a []string one behind another; and how long they are together where the reading's bulk is bounded. No function of the program in sight. -/
import Derived.Test.YtndgggodkfealaaArgKit
namespace Go.Proofs.Ytndgggodkfealaa.join
open Go.RowKit Go.ChangeShapes Go.WideShapes

def joined (ss : List ByteArray) (k : Nat) : List UInt8 := (ss.take k).flatMap (·.data.toList)
theorem joined_zero (ss : List ByteArray) : joined ss 0 = [] := rfl
theorem joined_succ (ss : List ByteArray) (k : Nat) (h : k < ss.length) : joined ss (k + 1) = joined ss k ++ (ss.getD k ByteArray.empty).data.toList := by
  unfold joined
  rw [List.take_succ_eq_append_getElem h, List.flatMap_append]
  simp [List.getD, h]

def total (ss : List ByteArray) : Nat := (ss.map (·.size)).sum
theorem joined_le (ss : List ByteArray) (k : Nat) : (joined ss k).length ≤ total ss := by
  unfold joined total
  induction ss generalizing k with
  | nil => simp
  | cons s ss ih =>
    cases k with
    | zero => simp
    | succ k =>
      have := ih k
      have hs : s.data.toList.length = s.size := Array.length_toList
      simp only [List.take_succ_cons, List.flatMap_cons, List.length_append, List.map_cons, List.sum_cons, hs]
      omega

theorem bulk_mem {H : Type} {d : DataW H} : ∀ {l : List (DataW H)}, d ∈ l → Rows.uptoBulk d ≤ Rows.uptoBulkAll l
  | [], h => by cases h
  | x :: r, h => by
    simp only [Rows.uptoBulkAll]
    rcases List.mem_cons.1 h with rfl | h
    · omega
    · have := bulk_mem h; omega

theorem bulk_strs {H : Type} : ∀ ss : List ByteArray, total ss ≤ Rows.uptoBulkAll (strs ss : List (DataW H))
  | [] => by simp [total]
  | s :: ss => by
    have := bulk_strs (H := H) ss
    have hs : s.data.toList.length = s.size := Array.length_toList
    simp only [total, List.map_cons, List.sum_cons] at *
    simp only [strs, List.map_cons, Rows.uptoBulkAll, Rows.uptoBulk, hs] at *
    omega

theorem small_mem {H : Type} {ds : List (DataW H)} (h : Rows.uptoSmall H ds = true) {j : Nat} {d : DataW H} (hd : ds[j]? = some d) : Rows.uptoBulk d ≤ 1048576 :=
  Nat.le_trans (bulk_mem (List.mem_of_getElem? hd)) (of_decide_eq_true h)

/-- The texts of a []string are together no longer than the bound. -/
theorem small_strs {H : Type} {ds : List (DataW H)} (h : Rows.uptoSmall H ds = true) {j : Nat} {d : DataW H} (hd : ds[j]? = some d) {ss : List ByteArray} (hx : (ss = [] ∧ d = .nil) ∨ ∃ spare, d = .slice (strs ss) spare) : total ss ≤ 1048576 := by
  have h1 := small_mem h hd
  rcases hx with ⟨rfl, _⟩ | ⟨spare, rfl⟩
  · simp [total]
  · have := bulk_strs (H := H) ss
    simp only [Rows.uptoBulk] at h1
    omega

theorem small_str {H : Type} {ds : List (DataW H)} (h : Rows.uptoSmall H ds = true) {j : Nat} {s : ByteArray} (hd : ds[j]? = some (.lit (.string s.data.toList))) : s.size ≤ 1048576 := by
  have h1 := small_mem h hd
  have hs : s.data.toList.length = s.size := Array.length_toList
  simp only [Rows.uptoBulk, hs] at h1
  omega

end Go.Proofs.Ytndgggodkfealaa.join
