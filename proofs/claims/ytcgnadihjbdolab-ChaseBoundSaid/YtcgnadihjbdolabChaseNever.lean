/- Package chase: what is asked for keeps within its bounds. No function of the program in sight. -/
import Derived.Test.YtcgnadihjbdolabChaseZero
namespace Go.Proofs.Ytcgnadihjbdolab.chase
open Go.RowKit
open Go.Proofs.Ytcgnadihjbdolab.stepkit Go.Proofs.Ytcgnadihjbdolab.row Go.Proofs.Ytcgnadihjbdolab.mix Go.Proofs.Ytcgnadihjbdolab.obj Go.Proofs.Ytcgnadihjbdolab.eqkit Go.Proofs.Ytcgnadihjbdolab.idkit

/-- Ids of 32 bytes, 32 at most, each once. -/
def Fine (l : List Ch) : Prop := Whole l ∧ l.length ≤ 32 ∧ (l.map Ch.id).Nodup

theorem fine_nil : Fine [] := ⟨(fun _ h => by cases h), Nat.zero_le _, List.nodup_nil⟩

theorem drop_ids (l : List Ch) (k : Nat) : (l.take k ++ l.drop (k + 1)).Sublist l := by
  rw [← List.eraseIdx_eq_take_drop_succ]
  exact List.eraseIdx_sublist ..

theorem Fine.drop {l : List Ch} (h : Fine l) (o : Option Nat) : Fine (dropAt l o) := by
  obtain ⟨h1, h2, h3⟩ := h
  cases o with
  | none => exact ⟨h1, h2, h3⟩
  | some k =>
    have hs := drop_ids l k
    exact ⟨fun c hc => h1 c (hs.subset hc), Nat.le_trans hs.length_le h2, (hs.map Ch.id).nodup h3⟩

theorem gone {l : List Ch} (h : Fine l) (id : List Int) : ∀ c ∈ dropAt l (findAt l id), c.id ≠ id := by
  intro c hc hid
  obtain ⟨_, _, h3⟩ := h
  cases hf : findAt l id with
  | none =>
    rw [hf] at hc
    unfold findAt at hf
    rw [List.findIdx?_eq_none_iff] at hf
    have := hf c hc
    simp [hid] at this
  | some k =>
    rw [hf] at hc
    obtain ⟨hk, hkid⟩ := findAt_lt hf
    have hc' : c ∈ l.eraseIdx k := by rw [List.eraseIdx_eq_take_drop_succ]; exact hc
    rw [List.mem_eraseIdx_iff_getElem] at hc'
    obtain ⟨i, hi, hne, rfl⟩ := hc'
    rw [List.nodup_iff_pairwise_ne, List.pairwise_iff_getElem] at h3
    simp only [List.getD, List.getElem?_eq_getElem hk, Option.getD_some] at hkid
    rcases Nat.lt_or_gt_of_ne hne with h | h
    · have := h3 i k (by simpa using hi) (by simpa using hk) h
      simp [hid, hkid] at this
    · have := h3 k i (by simpa using hk) (by simpa using hi) h
      simp [hid, hkid] at this

theorem Fine.want {l : List Ch} (h : Fine l) (id : List Int) (hid : id.length = 32) (peer t : Int) : Fine (wantNew l id peer t) := by
  unfold wantNew
  split
  · rename_i hw
    have hd := h.drop (findAt l id)
    refine ⟨fun c hc => ?_, ?_, ?_⟩
    · rcases List.mem_append.1 hc with hc | hc
      · exact hd.1 c hc
      · rw [List.mem_singleton.1 hc]; exact hid
    · rw [List.length_append, List.length_singleton]
      unfold wantOk at hw
      cases hf : findAt l id with
      | none => rw [hf] at hw; simp only [dropAt]; simp at hw; omega
      | some k =>
        have := (findAt_lt hf).1
        have := h.2.1
        simp only [dropAt, List.length_append, List.length_take, List.length_drop]
        omega
    · rw [List.map_append, List.nodup_append]
      refine ⟨hd.2.2, by simp, fun a ha b hb => ?_⟩
      obtain ⟨c, hc, rfl⟩ := List.mem_map.1 ha
      simp only [List.map_cons, List.map_nil, List.mem_singleton] at hb
      subst hb
      exact gone h _ c hc
  · exact h

theorem find_last (xs : List Ch) (c : Ch) (h : ∀ x ∈ xs, x.id ≠ c.id) : findAt (xs ++ [c]) c.id = some xs.length := by
  refine findAt_some (by simp) (by simp [List.getD]) fun j hj => ?_
  rw [List.getD, List.getElem?_append_left hj, List.getElem?_eq_getElem hj]
  exact h _ (List.getElem_mem hj)

theorem not_again {l : List Ch} (h : Fine l) (id : List Int) (peer t : Int) (hw : wantOk l id t = true) : wantOk (wantNew l id peer t) id t = false := by
  unfold wantNew
  rw [if_pos hw]
  have hf := find_last (dropAt l (findAt l id)) ⟨id, peer, t + 4⟩ (gone h id)
  unfold wantOk
  simp only at hf
  rw [hf]
  simp [List.getD]
  omega

theorem Fine.ne {l : List Ch} (h : Fine l) (j k : Nat) (hj : j < l.length) (hk : k < j) : ¬ (l.getD j ch0).id = (l.getD k ch0).id := by
  have h3 := h.2.2
  rw [List.nodup_iff_pairwise_ne, List.pairwise_iff_getElem] at h3
  have := h3 k j (by simp; omega) (by simpa using hj) hk
  simp only [List.getElem_map] at this
  rw [List.getD, List.getD, List.getElem?_eq_getElem hj, List.getElem?_eq_getElem (by omega)]
  exact fun e => this e.symm

end Go.Proofs.Ytcgnadihjbdolab.chase
