/- A ring of nodes in memory: what a cut and a hang do to it. No function of the program in sight. -/
import Derived.Test.YtjjapnphljhicadMapKit
namespace Go.Proofs.Ytjjapnphljhicad.lru
open Go.RowKit
open Go.Proofs.Ytjjapnphljhicad.eqkit Go.Proofs.Ytjjapnphljhicad.idkit Go.Proofs.Ytjjapnphljhicad.obj Go.Proofs.Ytjjapnphljhicad.row Go.Proofs.Ytjjapnphljhicad.mapkit

def ptr (b : Nat) : Value := .pointer (some ⟨b, 0, none⟩)
def nodeC (id : List Int) (p q : Value) : Array Value := (idc id ++ [p, q]).toArray
/-- A node. -/
def Nd (w : World) (b : Nat) (id : List Int) (p q : Value) : Prop := w.heap[b]? = some (.cells (nodeC id p q) 52 (0, 0))

theorem nodeC_next {id : List Int} (hl : id.length = 32) (p q v : Value) : (nodeC id p q).setIfInBounds 33 v = nodeC id p v := by
  unfold nodeC
  rw [List.setIfInBounds_toArray, List.set_append_right _ _ (by rw [idc_len]; omega), idc_len, hl]
  rfl
theorem nodeC_prev {id : List Int} (hl : id.length = 32) (p q v : Value) : (nodeC id p q).setIfInBounds 32 v = nodeC id v q := by
  unfold nodeC
  rw [List.setIfInBounds_toArray, List.set_append_right _ _ (by rw [idc_len]; omega), idc_len, hl]
  rfl
theorem Nd.next {w : World} {b : Nat} {id : List Int} {p q : Value} (h : Nd w b id p q) (hl : id.length = 32) (v : Value) : Nd (w.setCell ⟨b, 33, none⟩ v) b id p v := by
  have := heap_setCell_at h 33 v
  rwa [nodeC_next hl] at this
theorem Nd.prev {w : World} {b : Nat} {id : List Int} {p q : Value} (h : Nd w b id p q) (hl : id.length = 32) (v : Value) : Nd (w.setCell ⟨b, 32, none⟩ v) b id v q := by
  have := heap_setCell_at h 32 v
  rwa [nodeC_prev hl] at this
theorem Nd.other {w : World} {b : Nat} {id : List Int} {p q : Value} (h : Nd w b id p q) {c : Nat} (hne : b ≠ c) (i : Nat) (v : Value) : Nd (w.setCell ⟨c, i, none⟩ v) b id p q := by
  unfold Nd
  rw [Below.heap_setCell _ _ _ _ hne]
  exact h
theorem Nd.keep {w w' : World} {b : Nat} {id : List Int} {p q : Value} {F : Nat → Prop} (h : Nd w b id p q) (ht : Turns F w w') (hn : ¬ F b) : Nd w' b id p q := heap_newer h ht hn

theorem range_left {w : World} {b o : Nat} {xs ys : List Value} (h : w.rangeAt b o (xs ++ ys)) : w.rangeAt b o xs := fun j v hj => h j v (by rw [List.getElem?_append_left (List.getElem?_eq_some_iff.1 hj).1]; exact hj)
theorem range_block {w : World} {b : Nat} {cs : Array Value} {t : TypeId} {fr : Nat × Nat} (h : w.heap[b]? = some (.cells cs t fr)) : w.rangeAt b 0 cs.toList := fun j v hj => by
  simp only [Nat.zero_add, World.cell?, h]
  simpa using hj
theorem Nd.cells {w : World} {b : Nat} {id : List Int} {p q : Value} (h : Nd w b id p q) (hl : id.length = 32) : w.rangeAt b 0 (idc id) ∧ w.cell? ⟨b, 32, none⟩ = some p ∧ w.cell? ⟨b, 33, none⟩ = some q := by
  have hr := range_block h
  unfold nodeC at hr
  rw [List.toList_toArray] at hr
  have h2 : ∀ j v, [p, q][j]? = some v → w.cell? ⟨b, 32 + j, none⟩ = some v := fun j v hj => by
    have := hr (32 + j) v (by rw [List.getElem?_append_right (by rw [idc_len]; omega), idc_len, hl, Nat.add_sub_cancel_left]; exact hj)
    rwa [Nat.zero_add] at this
  exact ⟨range_left hr, h2 0 _ rfl, h2 1 _ rfl⟩
theorem Nd.free {w : World} {b : Nat} {id : List Int} {p q : Value} (h : Nd w b id p q) (i : Nat) : w.frozen? ⟨b, i, none⟩ = false := by
  unfold Nd at h
  simp [World.frozen?, h]

/-! ### The ring -/
def at' (L : List (List Int × Nat)) (i : Nat) : List Int × Nat := L.getD i ([], 0)
def nx (n i : Nat) : Nat := if i + 1 = n then 0 else i + 1
def pv (n i : Nat) : Nat := if i = 0 then n - 1 else i - 1

structure Ring (L : List (List Int × Nat)) (w : World) : Prop where
  nd : ∀ i, i < L.length → Nd w (at' L i).2 (at' L i).1 (ptr (at' L (pv L.length i)).2) (ptr (at' L (nx L.length i)).2)
  inj : (L.map (·.2)).Nodup
  wh : ∀ x ∈ L, x.1.length = 32

theorem at_mem {L : List (List Int × Nat)} {i : Nat} (h : i < L.length) : at' L i ∈ L := by unfold at'; rw [List.getD, List.getElem?_eq_getElem h]; exact List.getElem_mem _
theorem Ring.len {L : List (List Int × Nat)} {w : World} (h : Ring L w) {i : Nat} (hi : i < L.length) : (at' L i).1.length = 32 := h.wh _ (at_mem hi)
theorem Ring.ne {L : List (List Int × Nat)} {w : World} (h : Ring L w) {i j : Nat} (hi : i < L.length) (hj : j < L.length) (he : (at' L i).2 = (at' L j).2) : i = j := by
  unfold at' at he
  rw [List.getD, List.getD, List.getElem?_eq_getElem hi, List.getElem?_eq_getElem hj] at he
  exact (List.getElem_inj (xs := L.map (·.2)) (h₀ := by simpa using hi) (h₁ := by simpa using hj) h.inj).1 (by simpa using he)
theorem Ring.keep {L : List (List Int × Nat)} {w w' : World} {F : Nat → Prop} (h : Ring L w) (ht : Turns F w w') (hn : ∀ x ∈ L, ¬ F x.2) : Ring L w' :=
  ⟨fun i hi => (h.nd i hi).keep ht (hn _ (at_mem hi)), h.inj, h.wh⟩

theorem at_erase (L : List (List Int × Nat)) (k i : Nat) : at' (L.eraseIdx k) i = at' L (if i < k then i else i + 1) := by
  unfold at'
  rw [List.getD, List.getD, List.getElem?_eraseIdx]
  split <;> rfl
theorem at_append (L : List (List Int × Nat)) (x : List Int × Nat) (i : Nat) (h : i ≤ L.length) : at' (L ++ [x]) i = if i = L.length then x else at' L i := by
  unfold at'
  split
  · next e => subst e; simp [List.getD]
  · rw [List.getD, List.getD, List.getElem?_append_left (by omega)]

/-- What a cut leaves. -/
def cutW (w : World) (P N b : Nat) : World := (((w.setCell ⟨P, 33, none⟩ (ptr N)).setCell ⟨N, 32, none⟩ (ptr P)).setCell ⟨b, 32, none⟩ (.pointer none)).setCell ⟨b, 33, none⟩ (.pointer none)

theorem Ring.cut {L : List (List Int × Nat)} {w : World} (h : Ring L w) {k : Nat} (hk1 : 1 ≤ k) (hk : k < L.length) :
    Ring (L.eraseIdx k) (cutW w (at' L (pv L.length k)).2 (at' L (nx L.length k)).2 (at' L k).2) ∧ Nd (cutW w (at' L (pv L.length k)).2 (at' L (nx L.length k)).2 (at' L k).2) (at' L k).2 (at' L k).1 (.pointer none) (.pointer none) := by
  obtain ⟨n, hn⟩ : ∃ n, L.length = n := ⟨_, rfl⟩
  have hpk : pv n k < n := by unfold pv; split <;> omega
  have hnk : nx n k < n := by unfold nx; split <;> omega
  have hpne : pv n k ≠ k := by unfold pv; split <;> omega
  have hnne : nx n k ≠ k := by unfold nx; split <;> omega
  have key : ∀ i, i < n → i ≠ k → Nd (cutW w (at' L (pv n k)).2 (at' L (nx n k)).2 (at' L k).2) (at' L i).2 (at' L i).1 (ptr (at' L (if i = nx n k then pv n k else pv n i)).2) (ptr (at' L (if i = pv n k then nx n k else nx n i)).2) := by
    intro i hi hik
    have h0 := h.nd i (by omega)
    rw [hn] at h0
    have hl := h.len (i := i) (by omega)
    have hib : (at' L i).2 ≠ (at' L k).2 := fun e => hik (h.ne (by omega) (by omega) e)
    unfold cutW
    refine Nd.other (Nd.other ?_ hib _ _) hib _ _
    have h1 : Nd (w.setCell ⟨(at' L (pv n k)).2, 33, none⟩ (ptr (at' L (nx n k)).2)) (at' L i).2 (at' L i).1 (ptr (at' L (pv n i)).2) (ptr (at' L (if i = pv n k then nx n k else nx n i)).2) := by
      by_cases e : i = pv n k
      · rw [if_pos e, ← e]
        exact h0.next hl _
      · rw [if_neg e]
        exact h0.other (fun e' => e (h.ne (by omega) (by omega) e')) _ _
    by_cases e : i = nx n k
    · subst e
      rw [if_pos rfl]
      exact h1.prev hl _
    · rw [if_neg e]
      exact h1.other (fun e' => e (h.ne (by omega) (by omega) e')) _ _
  have hlen : (L.eraseIdx k).length = n - 1 := by rw [List.length_eraseIdx, if_pos (by omega), hn]
  rw [hn]
  refine ⟨⟨fun i hi => ?_, ?_, fun x hx => h.wh x (List.mem_of_mem_eraseIdx hx)⟩, ?_⟩
  · rw [hlen] at hi ⊢
    have hh := key (if i < k then i else i + 1) (by split <;> omega) (by split <;> omega)
    rw [at_erase, at_erase, at_erase]
    have e1 : (if (if i < k then i else i + 1) = nx n k then pv n k else pv n (if i < k then i else i + 1)) = (if pv (n - 1) i < k then pv (n - 1) i else pv (n - 1) i + 1) := by
      unfold pv nx
      split <;> split <;> (repeat' split) <;> omega
    have e2 : (if (if i < k then i else i + 1) = pv n k then nx n k else nx n (if i < k then i else i + 1)) = (if nx (n - 1) i < k then nx (n - 1) i else nx (n - 1) i + 1) := by
      unfold pv nx
      split <;> split <;> (repeat' split) <;> omega
    rw [← e1, ← e2]
    exact hh
  · have hs : ((L.eraseIdx k).map (·.2)).Sublist (L.map (·.2)) := (List.eraseIdx_sublist ..).map _
    exact hs.nodup h.inj
  · have h0 := h.nd k hk
    rw [hn] at h0
    have hl := h.len hk
    unfold cutW
    refine Nd.next (p := .pointer none) (q := ptr (at' L (nx n k)).2) (Nd.prev (p := ptr (at' L (pv n k)).2) ?_ hl _) hl _
    exact (h0.other (fun e => hpne (h.ne (by omega) (by omega) e).symm) _ _).other (fun e => hnne (h.ne (by omega) (by omega) e).symm) _ _

/-- What a hang leaves. -/
def hangW (w : World) (b last root : Nat) : World := (w.setCell ⟨last, 33, none⟩ (ptr b)).setCell ⟨root, 32, none⟩ (ptr b)

theorem Ring.hang {L : List (List Int × Nat)} {w : World} (h : Ring L w) (h1 : 1 ≤ L.length) {b : Nat} {id : List Int} (hb : Nd w b id (ptr (at' L (L.length - 1)).2) (ptr (at' L 0).2)) (hl : id.length = 32) (hn : ∀ x ∈ L, x.2 ≠ b) :
    Ring (L ++ [(id, b)]) (hangW w b (at' L (L.length - 1)).2 (at' L 0).2) := by
  obtain ⟨n, hnn⟩ : ∃ n, L.length = n := ⟨_, rfl⟩
  have hlb : ∀ i, i < n → (at' L i).2 ≠ b := fun i hi => hn _ (at_mem (by omega))
  refine ⟨fun i hi => ?_, ?_, fun x hx => ?_⟩
  · rw [List.length_append, List.length_singleton, hnn] at hi ⊢
    rw [at_append _ _ _ (by omega), at_append _ _ (pv (n + 1) i) (by unfold pv; split <;> omega), at_append _ _ (nx (n + 1) i) (by unfold nx; split <;> omega), hnn]
    unfold hangW
    by_cases e : i = n
    · subst e
      rw [if_pos rfl, if_neg (by unfold pv; split <;> omega), if_neg (by unfold nx; split <;> omega)]
      have e1 : pv (i + 1) i = i - 1 := by unfold pv; split <;> omega
      have e2 : nx (i + 1) i = 0 := by unfold nx; split <;> omega
      rw [e1, e2]
      refine Nd.other (Nd.other ?_ (fun e => hlb (i - 1) (by omega) e.symm) _ _) (fun e => hlb 0 (by omega) e.symm) _ _
      rw [hnn] at hb
      exact hb
    · rw [if_neg e]
      have h0 := h.nd i (by omega)
      rw [hnn] at h0
      have hli := h.len (i := i) (by omega)
      have h2 := h0
      have h3 : Nd (w.setCell ⟨(at' L (n - 1)).2, 33, none⟩ (ptr b)) (at' L i).2 (at' L i).1 (ptr (at' L (pv n i)).2) (ptr (if nx (n + 1) i = n then (id, b) else at' L (nx (n + 1) i)).2) := by
        by_cases e' : i = n - 1
        · subst e'
          rw [if_pos (by unfold nx; split <;> omega)]
          exact h2.next hli _
        · rw [if_neg (by unfold nx; split <;> omega)]
          have e3 : nx (n + 1) i = nx n i := by unfold nx; (repeat' split) <;> omega
          rw [e3]
          exact h2.other (fun e => e' (h.ne (by omega) (by omega) e)) _ _
      by_cases e' : i = 0
      · subst e'
        rw [if_pos (c := pv (n + 1) 0 = n) (by unfold pv; split <;> omega)]
        exact h3.prev hli _
      · rw [if_neg (c := pv (n + 1) i = n) (by unfold pv; split <;> omega)]
        have e3 : pv (n + 1) i = pv n i := by unfold pv; (repeat' split) <;> omega
        rw [e3]
        exact h3.other (fun e => e' (h.ne (by omega) (by omega) e)) _ _
  · rw [List.map_append, List.nodup_append]
    refine ⟨h.inj, by simp, fun a ha c hc => ?_⟩
    obtain ⟨x, hx, rfl⟩ := List.mem_map.1 ha
    simp only [List.map_cons, List.map_nil, List.mem_singleton] at hc
    rw [hc]
    exact hn x hx
  · rcases List.mem_append.1 hx with hx | hx
    · exact h.wh x hx
    · rw [List.mem_singleton.1 hx]; exact hl

end Go.Proofs.Ytjjapnphljhicad.lru
