/- Package lru, and the reference lists of ids: all that the store needs of them. -/
import Derived.Test.YtjnplcajajdkiaaDoorMapKit
import Derived.Test.YtjnplcajajdkiaaDoorFork
import Derived.Test.YtjnplcajajdkiaaDoorGrowKit
import Derived.Deep.QuietTactic
import Derived.BigQuiet
import Derived.WalkSmall
import Derived.LaidEqlPtr
import Derived.Carry
import Derived.Deep.CutRange
import Derived.Test.YtjnplcajajdkiaaDoorFlatKit
import Derived.Test.YtjnplcajajdkiaaDoorIdArg
/- A ring of nodes in memory: what a cut and a hang do to it. No function of the program in sight. -/
namespace Go.Proofs.YtjnplcajajdkiaaDoor.lru
open Go.RowKit
open Go.Proofs.YtjnplcajajdkiaaDoor.eqkit Go.Proofs.YtjnplcajajdkiaaDoor.idkit Go.Proofs.YtjnplcajajdkiaaDoor.obj Go.Proofs.YtjnplcajajdkiaaDoor.row Go.Proofs.YtjnplcajajdkiaaDoor.mapkit

def ptr (b : Nat) : Value := .pointer (some ⟨b, 0, none⟩)
def nodeC (id : List Int) (p q : Value) : Array Value := (idc id ++ [p, q]).toArray
/-- A node. -/
def Nd (w : World) (b : Nat) (id : List Int) (p q : Value) : Prop := w.heap[b]? = some (.cells (nodeC id p q) 94 (0, 0))

theorem nodeC_next {id : List Int} (hl : id.length = 32) (p q v : Value) : (nodeC id p q).setIfInBounds 33 v = nodeC id p v := by
  unfold nodeC
  rw [List.setIfInBounds_toArray, List.set_append_right _ _ (by rw [idc_len]; omega), idc_len, hl]
  rfl
theorem nodeC_prev {id : List Int} (hl : id.length = 32) (p q v : Value) : (nodeC id p q).setIfInBounds 32 v = nodeC id v q := by
  unfold nodeC
  rw [List.setIfInBounds_toArray, List.set_append_right _ _ (by rw [idc_len]; omega), idc_len, hl]
  rfl
theorem Nd.next {w : World} {b : Nat} {id : List Int} {p q : Value} (h : Nd w b id p q) (hl : id.length = 32) (v : Value) : Nd (w.setCell ⟨b, 33, none⟩ v) b id p v := by
  have := heap_setCell_at h 33 v
  rwa [nodeC_next hl] at this
theorem Nd.prev {w : World} {b : Nat} {id : List Int} {p q : Value} (h : Nd w b id p q) (hl : id.length = 32) (v : Value) : Nd (w.setCell ⟨b, 32, none⟩ v) b id v q := by
  have := heap_setCell_at h 32 v
  rwa [nodeC_prev hl] at this
theorem Nd.other {w : World} {b : Nat} {id : List Int} {p q : Value} (h : Nd w b id p q) {c : Nat} (hne : b ≠ c) (i : Nat) (v : Value) : Nd (w.setCell ⟨c, i, none⟩ v) b id p q := by
  unfold Nd
  rw [Below.heap_setCell _ _ _ _ hne]
  exact h
theorem Nd.keep {w w' : World} {b : Nat} {id : List Int} {p q : Value} {F : Nat → Prop} (h : Nd w b id p q) (ht : Turns F w w') (hn : ¬ F b) : Nd w' b id p q := heap_newer h ht hn

theorem range_left {w : World} {b o : Nat} {xs ys : List Value} (h : w.rangeAt b o (xs ++ ys)) : w.rangeAt b o xs := fun j v hj => h j v (by rw [List.getElem?_append_left (List.getElem?_eq_some_iff.1 hj).1]; exact hj)
theorem range_block {w : World} {b : Nat} {cs : Array Value} {t : TypeId} {fr : Nat × Nat} (h : w.heap[b]? = some (.cells cs t fr)) : w.rangeAt b 0 cs.toList := fun j v hj => by
  simp only [Nat.zero_add, World.cell?, h]
  simpa using hj
theorem Nd.cells {w : World} {b : Nat} {id : List Int} {p q : Value} (h : Nd w b id p q) (hl : id.length = 32) : w.rangeAt b 0 (idc id) ∧ w.cell? ⟨b, 32, none⟩ = some p ∧ w.cell? ⟨b, 33, none⟩ = some q := by
  have hr := range_block h
  unfold nodeC at hr
  rw [List.toList_toArray] at hr
  have h2 : ∀ j v, [p, q][j]? = some v → w.cell? ⟨b, 32 + j, none⟩ = some v := fun j v hj => by
    have := hr (32 + j) v (by rw [List.getElem?_append_right (by rw [idc_len]; omega), idc_len, hl, Nat.add_sub_cancel_left]; exact hj)
    rwa [Nat.zero_add] at this
  exact ⟨range_left hr, h2 0 _ rfl, h2 1 _ rfl⟩
theorem Nd.free {w : World} {b : Nat} {id : List Int} {p q : Value} (h : Nd w b id p q) (i : Nat) : w.frozen? ⟨b, i, none⟩ = false := by
  unfold Nd at h
  simp [World.frozen?, h]

/-! ### The ring -/
def at' (L : List (List Int × Nat)) (i : Nat) : List Int × Nat := L.getD i ([], 0)
def nx (n i : Nat) : Nat := if i + 1 = n then 0 else i + 1
def pv (n i : Nat) : Nat := if i = 0 then n - 1 else i - 1

structure Ring (L : List (List Int × Nat)) (w : World) : Prop where
  nd : ∀ i, i < L.length → Nd w (at' L i).2 (at' L i).1 (ptr (at' L (pv L.length i)).2) (ptr (at' L (nx L.length i)).2)
  inj : (L.map (·.2)).Nodup
  wh : ∀ x ∈ L, x.1.length = 32

theorem at_mem {L : List (List Int × Nat)} {i : Nat} (h : i < L.length) : at' L i ∈ L := by unfold at'; rw [List.getD, List.getElem?_eq_getElem h]; exact List.getElem_mem _
theorem Ring.len {L : List (List Int × Nat)} {w : World} (h : Ring L w) {i : Nat} (hi : i < L.length) : (at' L i).1.length = 32 := h.wh _ (at_mem hi)
theorem Ring.ne {L : List (List Int × Nat)} {w : World} (h : Ring L w) {i j : Nat} (hi : i < L.length) (hj : j < L.length) (he : (at' L i).2 = (at' L j).2) : i = j := by
  unfold at' at he
  rw [List.getD, List.getD, List.getElem?_eq_getElem hi, List.getElem?_eq_getElem hj] at he
  exact (List.getElem_inj (xs := L.map (·.2)) (h₀ := by simpa using hi) (h₁ := by simpa using hj) h.inj).1 (by simpa using he)
theorem Ring.keep {L : List (List Int × Nat)} {w w' : World} {F : Nat → Prop} (h : Ring L w) (ht : Turns F w w') (hn : ∀ x ∈ L, ¬ F x.2) : Ring L w' :=
  ⟨fun i hi => (h.nd i hi).keep ht (hn _ (at_mem hi)), h.inj, h.wh⟩

theorem at_erase (L : List (List Int × Nat)) (k i : Nat) : at' (L.eraseIdx k) i = at' L (if i < k then i else i + 1) := by
  unfold at'
  rw [List.getD, List.getD, List.getElem?_eraseIdx]
  split <;> rfl
theorem at_append (L : List (List Int × Nat)) (x : List Int × Nat) (i : Nat) (h : i ≤ L.length) : at' (L ++ [x]) i = if i = L.length then x else at' L i := by
  unfold at'
  split
  · next e => subst e; simp [List.getD]
  · rw [List.getD, List.getD, List.getElem?_append_left (by omega)]

/-- What a cut leaves. -/
def cutW (w : World) (P N b : Nat) : World := (((w.setCell ⟨P, 33, none⟩ (ptr N)).setCell ⟨N, 32, none⟩ (ptr P)).setCell ⟨b, 32, none⟩ (.pointer none)).setCell ⟨b, 33, none⟩ (.pointer none)

theorem Ring.cut {L : List (List Int × Nat)} {w : World} (h : Ring L w) {k : Nat} (hk1 : 1 ≤ k) (hk : k < L.length) :
    Ring (L.eraseIdx k) (cutW w (at' L (pv L.length k)).2 (at' L (nx L.length k)).2 (at' L k).2) ∧ Nd (cutW w (at' L (pv L.length k)).2 (at' L (nx L.length k)).2 (at' L k).2) (at' L k).2 (at' L k).1 (.pointer none) (.pointer none) := by
  obtain ⟨n, hn⟩ : ∃ n, L.length = n := ⟨_, rfl⟩
  have hpk : pv n k < n := by unfold pv; split <;> omega
  have hnk : nx n k < n := by unfold nx; split <;> omega
  have hpne : pv n k ≠ k := by unfold pv; split <;> omega
  have hnne : nx n k ≠ k := by unfold nx; split <;> omega
  have key : ∀ i, i < n → i ≠ k → Nd (cutW w (at' L (pv n k)).2 (at' L (nx n k)).2 (at' L k).2) (at' L i).2 (at' L i).1 (ptr (at' L (if i = nx n k then pv n k else pv n i)).2) (ptr (at' L (if i = pv n k then nx n k else nx n i)).2) := by
    intro i hi hik
    have h0 := h.nd i (by omega)
    rw [hn] at h0
    have hl := h.len (i := i) (by omega)
    have hib : (at' L i).2 ≠ (at' L k).2 := fun e => hik (h.ne (by omega) (by omega) e)
    unfold cutW
    refine Nd.other (Nd.other ?_ hib _ _) hib _ _
    have h1 : Nd (w.setCell ⟨(at' L (pv n k)).2, 33, none⟩ (ptr (at' L (nx n k)).2)) (at' L i).2 (at' L i).1 (ptr (at' L (pv n i)).2) (ptr (at' L (if i = pv n k then nx n k else nx n i)).2) := by
      by_cases e : i = pv n k
      · rw [if_pos e, ← e]
        exact h0.next hl _
      · rw [if_neg e]
        exact h0.other (fun e' => e (h.ne (by omega) (by omega) e')) _ _
    by_cases e : i = nx n k
    · subst e
      rw [if_pos rfl]
      exact h1.prev hl _
    · rw [if_neg e]
      exact h1.other (fun e' => e (h.ne (by omega) (by omega) e')) _ _
  have hlen : (L.eraseIdx k).length = n - 1 := by rw [List.length_eraseIdx, if_pos (by omega), hn]
  rw [hn]
  refine ⟨⟨fun i hi => ?_, ?_, fun x hx => h.wh x (List.mem_of_mem_eraseIdx hx)⟩, ?_⟩
  · rw [hlen] at hi ⊢
    have hh := key (if i < k then i else i + 1) (by split <;> omega) (by split <;> omega)
    rw [at_erase, at_erase, at_erase]
    have e1 : (if (if i < k then i else i + 1) = nx n k then pv n k else pv n (if i < k then i else i + 1)) = (if pv (n - 1) i < k then pv (n - 1) i else pv (n - 1) i + 1) := by
      unfold pv nx
      split <;> split <;> (repeat' split) <;> omega
    have e2 : (if (if i < k then i else i + 1) = pv n k then nx n k else nx n (if i < k then i else i + 1)) = (if nx (n - 1) i < k then nx (n - 1) i else nx (n - 1) i + 1) := by
      unfold pv nx
      split <;> split <;> (repeat' split) <;> omega
    rw [← e1, ← e2]
    exact hh
  · have hs : ((L.eraseIdx k).map (·.2)).Sublist (L.map (·.2)) := (List.eraseIdx_sublist ..).map _
    exact hs.nodup h.inj
  · have h0 := h.nd k hk
    rw [hn] at h0
    have hl := h.len hk
    unfold cutW
    refine Nd.next (p := .pointer none) (q := ptr (at' L (nx n k)).2) (Nd.prev (p := ptr (at' L (pv n k)).2) ?_ hl _) hl _
    exact (h0.other (fun e => hpne (h.ne (by omega) (by omega) e).symm) _ _).other (fun e => hnne (h.ne (by omega) (by omega) e).symm) _ _

/-- What a hang leaves. -/
def hangW (w : World) (b last root : Nat) : World := (w.setCell ⟨last, 33, none⟩ (ptr b)).setCell ⟨root, 32, none⟩ (ptr b)

theorem Ring.hang {L : List (List Int × Nat)} {w : World} (h : Ring L w) (h1 : 1 ≤ L.length) {b : Nat} {id : List Int} (hb : Nd w b id (ptr (at' L (L.length - 1)).2) (ptr (at' L 0).2)) (hl : id.length = 32) (hn : ∀ x ∈ L, x.2 ≠ b) :
    Ring (L ++ [(id, b)]) (hangW w b (at' L (L.length - 1)).2 (at' L 0).2) := by
  obtain ⟨n, hnn⟩ : ∃ n, L.length = n := ⟨_, rfl⟩
  have hlb : ∀ i, i < n → (at' L i).2 ≠ b := fun i hi => hn _ (at_mem (by omega))
  refine ⟨fun i hi => ?_, ?_, fun x hx => ?_⟩
  · rw [List.length_append, List.length_singleton, hnn] at hi ⊢
    rw [at_append _ _ _ (by omega), at_append _ _ (pv (n + 1) i) (by unfold pv; split <;> omega), at_append _ _ (nx (n + 1) i) (by unfold nx; split <;> omega), hnn]
    unfold hangW
    by_cases e : i = n
    · subst e
      rw [if_pos rfl, if_neg (by unfold pv; split <;> omega), if_neg (by unfold nx; split <;> omega)]
      have e1 : pv (i + 1) i = i - 1 := by unfold pv; split <;> omega
      have e2 : nx (i + 1) i = 0 := by unfold nx; split <;> omega
      rw [e1, e2]
      refine Nd.other (Nd.other ?_ (fun e => hlb (i - 1) (by omega) e.symm) _ _) (fun e => hlb 0 (by omega) e.symm) _ _
      rw [hnn] at hb
      exact hb
    · rw [if_neg e]
      have h0 := h.nd i (by omega)
      rw [hnn] at h0
      have hli := h.len (i := i) (by omega)
      have h2 := h0
      have h3 : Nd (w.setCell ⟨(at' L (n - 1)).2, 33, none⟩ (ptr b)) (at' L i).2 (at' L i).1 (ptr (at' L (pv n i)).2) (ptr (if nx (n + 1) i = n then (id, b) else at' L (nx (n + 1) i)).2) := by
        by_cases e' : i = n - 1
        · subst e'
          rw [if_pos (by unfold nx; split <;> omega)]
          exact h2.next hli _
        · rw [if_neg (by unfold nx; split <;> omega)]
          have e3 : nx (n + 1) i = nx n i := by unfold nx; (repeat' split) <;> omega
          rw [e3]
          exact h2.other (fun e => e' (h.ne (by omega) (by omega) e)) _ _
      by_cases e' : i = 0
      · subst e'
        rw [if_pos (c := pv (n + 1) 0 = n) (by unfold pv; split <;> omega)]
        exact h3.prev hli _
      · rw [if_neg (c := pv (n + 1) i = n) (by unfold pv; split <;> omega)]
        have e3 : pv (n + 1) i = pv n i := by unfold pv; (repeat' split) <;> omega
        rw [e3]
        exact h3.other (fun e => e' (h.ne (by omega) (by omega) e)) _ _
  · rw [List.map_append, List.nodup_append]
    refine ⟨h.inj, by simp, fun a ha c hc => ?_⟩
    obtain ⟨x, hx, rfl⟩ := List.mem_map.1 ha
    simp only [List.map_cons, List.map_nil, List.mem_singleton] at hc
    rw [hc]
    exact hn x hx
  · rcases List.mem_append.1 hx with hx | hx
    · exact h.wh x hx
    · rw [List.mem_singleton.1 hx]; exact hl

end Go.Proofs.YtjnplcajajdkiaaDoor.lru

/- Package lru: the methods of a node and a list. -/
namespace Go.Proofs.YtjnplcajajdkiaaDoor.lru
open Go.RowKit
open Go.Proofs.YtjnplcajajdkiaaDoor.stepkit Go.Proofs.YtjnplcajajdkiaaDoor.eqkit Go.Proofs.YtjnplcajajdkiaaDoor.idkit Go.Proofs.YtjnplcajajdkiaaDoor.obj Go.Proofs.YtjnplcajajdkiaaDoor.row Go.Proofs.YtjnplcajajdkiaaDoor.mapkit Go.Proofs.YtjnplcajajdkiaaDoor.mix

def zid : List Int := List.replicate 32 0
theorem zid_len : zid.length = 32 := by decide
theorem cells_of {w : World} {p : Nat} {cs : Array Value} {t : TypeId} (h : w.heap[p]? = some (.cells cs t (0, 0))) (i : Nat) (v : Value) (hv : cs[i]? = some v) : w.cell? ⟨p, i, none⟩ = some v := by simp [World.cell?, h, hv]
theorem free_of {w : World} {p : Nat} {cs : Array Value} {t : TypeId} (h : w.heap[p]? = some (.cells cs t (0, 0))) (i : Nat) : w.frozen? ⟨p, i, none⟩ = false := by simp [World.frozen?, h]

theorem none_no (p r : Nat) (w : World) (h : w.cell? ⟨p, 0, none⟩ = some (ptr r)) :
    Calls Tryd.prog 55 #[.pointer (some ⟨p, 0, none⟩)] w fun e w' => e = .returned (.bool false) ∧ w = w' := by
  unfold ptr at h
  go_enter Tryd.func55, Tryd.ntmps55
  go_wp2
  go_ret
  exact ⟨rfl, rfl⟩
theorem none_zero (p : Nat) (w : World) (h : w.cell? ⟨p, 0, none⟩ = some (.pointer none)) :
    Calls Tryd.prog 55 #[.pointer (some ⟨p, 0, none⟩)] w fun e w' => e = .returned (.bool true) ∧ w = w' := by
  go_enter Tryd.func55, Tryd.ntmps55
  go_wp2
  go_ret
  exact ⟨rfl, rfl⟩
theorem none_nil (w : World) :
    Calls Tryd.prog 55 #[.pointer none] w fun e w' => e = .returned (.bool true) ∧ w = w' := by
  go_enter Tryd.func55, Tryd.ntmps55
  go_wp2
  go_ret
  exact ⟨rfl, rfl⟩

def inRing (L : List (List Int × Nat)) : Nat → Prop := fun i => ∃ x ∈ L, x.2 = i
theorem in_ring {L : List (List Int × Nat)} {i : Nat} (h : i < L.length) : inRing L (at' L i).2 := ⟨_, at_mem h, rfl⟩

set_option maxRecDepth 10000 in
set_option maxHeartbeats 400000 in
theorem cut_any (L : List (List Int × Nat)) (w : World) (h : Ring L w) (k : Nat) (hk1 : 1 ≤ k) (hk : k < L.length) :
    Calls Tryd.prog 56 #[.pointer (some ⟨(at' L k).2, 0, none⟩)] w fun e w' => e = .returned (.tuple #[]) ∧ Ring (L.eraseIdx k) w' ∧ Nd w' (at' L k).2 (at' L k).1 (.pointer none) (.pointer none) ∧ Turns (inRing L) w w' := by
  have hpk : pv L.length k < L.length := by unfold pv; split <;> omega
  have hnk : nx L.length k < L.length := by unfold nx; split <;> omega
  have hd : Ring L w.drew := h.keep (F := nobody) ((Turns.refl _ _).drew) (fun _ _ h => h)
  have hc := hd.cut hk1 hk
  have n0 := hd.nd k hk
  have np := hd.nd _ hpk
  have nn := hd.nd _ hnk
  have hpb : (at' L (pv L.length k)).2 ≠ (at' L k).2 := fun e => by have := h.ne hpk hk e; unfold pv at this; split at this <;> omega
  have hnb : (at' L (nx L.length k)).2 ≠ (at' L k).2 := fun e => by have := h.ne hnk hk e; unfold nx at this; split at this <;> omega
  have hT : Turns (inRing L) w (cutW w.drew (at' L (pv L.length k)).2 (at' L (nx L.length k)).2 (at' L k).2) := by
    unfold cutW
    exact ((((Turns.refl _ _).drew.setCell _ _ _ (Or.inl (in_ring hpk))).setCell _ _ _ (Or.inl (in_ring hnk))).setCell _ _ _ (Or.inl (in_ring hk))).setCell _ _ _ (Or.inl (in_ring hk))
  have hl := h.len hk
  have hlp := h.len hpk
  have hln := h.len hnk
  generalize (at' L (pv L.length k)).2 = P at *
  generalize (at' L (nx L.length k)).2 = N at *
  generalize (at' L k).2 = b at *
  obtain ⟨_, c32, c33⟩ := n0.cells hl
  have s1 := np.next hlp (ptr N)
  generalize hW0 : w.drew = W0 at *
  obtain ⟨W1, hW1⟩ : ∃ W1, W1 = W0.setCell ⟨P, 33, none⟩ (ptr N) := ⟨_, rfl⟩
  have n1 : ∃ i p q, i.length = 32 ∧ Nd W1 N i p q := by
    by_cases e : N = P
    · rw [hW1, e]
      rw [e] at s1
      exact ⟨_, _, _, hlp, s1⟩
    · rw [hW1]; exact ⟨_, _, _, hln, nn.other e _ _⟩
  obtain ⟨iN, pN, qN, hlN, n1⟩ := n1
  have b1 : Nd W1 b (at' L k).1 (ptr P) (ptr N) := by rw [hW1]; exact n0.other hpb.symm _ _
  obtain ⟨W2, hW2⟩ : ∃ W2, W2 = W1.setCell ⟨N, 32, none⟩ (ptr P) := ⟨_, rfl⟩
  have b2 : Nd W2 b (at' L k).1 (ptr P) (ptr N) := by rw [hW2]; exact b1.other hnb.symm _ _
  have b3 := b2.prev hl (.pointer none)
  obtain ⟨_, _, e1⟩ := np.cells hlp
  have f1 := np.free 33
  obtain ⟨_, e2, _⟩ := n1.cells hlN
  have f2 := n1.free 32
  obtain ⟨_, e3, e3'⟩ := b2.cells hl
  have f3 := b2.free 32
  have f3' := b2.free 33
  obtain ⟨_, _, e4⟩ := b3.cells hl
  have f4 := b3.free 33
  obtain ⟨_, g32, g33⟩ := b1.cells hl
  have HC := Lib.hid hc
  have HT := Lib.hid hT
  have HW1 := Lib.hid hW1
  have HW2 := Lib.hid hW2
  have HW0 := Lib.hid hW0
  have hcw : ∃ W, W = cutW W0 P N b := ⟨_, rfl⟩
  obtain ⟨W, hW⟩ := hcw
  have HW := Lib.hid hW
  unfold cutW at hW
  rw [← hW1, ← hW2] at hW
  have HW' := Lib.hid hW
  rw [← HW.out] at HC HT
  clear hc hT hW1 hW2 hW0 hW n0 np nn s1 n1 b1 b2 b3 hd h hpk hnk
  unfold ptr at *
  go_enter Tryd.func56, Tryd.ntmps56
  go_wp2
  refine wp_region_mix [(0, true, true), (1, true, true), (2, true, true), (3, true, true), (4, true, true), (5, true, true), (6, true, true), (7, true, true), (8, true, true), (9, true, true), (10, true, true), (11, true, true), (12, true, true), (13, true, true), (14, true, true), (15, true, true), (16, true, true), (17, true, true), (18, true, true), (19, true, true), (20, true, true), (21, true, true), (22, true, true), (23, false, true), (24, true, true), (25, true, true), (26, true, true), (27, false, false)] (fun W => W.cell? ⟨b, 32, none⟩ = some (.pointer (some ⟨P, 0, none⟩)) ∧ W.cell? ⟨b, 33, none⟩ = some (.pointer (some ⟨N, 0, none⟩))) (by kernel_rfl) (by kernel_rfl) (⟨(by rw [HW0.out]; exact c32), (by rw [HW0.out]; exact c33)⟩) ?_
  rw [HW0.out]
  simp only [picked, List.filterMap_cons, List.filterMap_nil, List.getElem?_toArray, List.getElem?_cons_zero, List.getElem?_cons_succ, Option.map_some]
  repeat (refine mix_free (v := ?_) rfl ?_ ?_; rotate_left; (focus (intro w' hI; obtain ⟨z1, z2⟩ := hI; go_simp; try with_reducible rfl)); simp only [Act.put, List.setIfInBounds_toArray, List.set_cons_zero, List.set_cons_succ])
  refine mix_big rfl (fun K hK => ?_)
  clear c32 c33
  go_wp2
  rw [← HW1.out]
  refine hK _ _ (fun _ => ⟨g32, g33⟩) ?_
  clear hK K
  repeat (refine mix_free (v := ?_) rfl ?_ ?_; rotate_left; (focus (intro w' hI; go_simp; try with_reducible rfl)); simp only [Act.put, List.setIfInBounds_toArray, List.set_cons_zero, List.set_cons_succ])
  refine mix_big rfl (fun K hK => ?_)
  go_wp2
  rw [← HW2.out]
  refine hK _ _ (fun h => by cases h) ?_
  clear hK K
  refine mix_nil ?_
  clear e1 f1 e2 f2 g32 g33
  go_wp2
  rw [← HW'.out]
  go_end0
  exact ⟨rfl, HC.out.1, HC.out.2, HT.out⟩

set_option maxRecDepth 10000 in
set_option maxHeartbeats 400000 in
theorem hang_any (p r mb : Nat) (L : List (List Int × Nat)) (w : World) (h : Ring L w) (h1 : 1 ≤ L.length) (h0 : (at' L 0).2 = r) (hp : w.heap[p]? = some (.cells #[ptr r, .map (some mb)] 97 (0, 0))) (b : Nat) (id : List Int)
    (hb : Nd w b id (.pointer none) (.pointer none)) (hl : id.length = 32) (hn : ∀ x ∈ L, x.2 ≠ b) :
    Calls Tryd.prog 57 #[.pointer (some ⟨p, 0, none⟩), .pointer (some ⟨b, 0, none⟩)] w fun e w' => e = .returned (.tuple #[]) ∧ Ring (L ++ [(id, b)]) w' ∧ Turns (fun i => i = b ∨ inRing L i) w w' := by
  have hpb : b ≠ p := fun e => by rw [e] at hb; unfold Nd at hb; rw [hp] at hb; simp at hb
  have hlast : L.length - 1 < L.length := by omega
  have n0 := h.nd 0 (by omega)
  have epv : pv L.length 0 = L.length - 1 := by unfold pv; simp
  rw [epv, h0] at n0
  have nl := h.nd _ hlast
  have hlr := h.len (i := 0) (by omega)
  have hll := h.len hlast
  have hbl : (at' L (L.length - 1)).2 ≠ b := hn _ (at_mem hlast)
  have hbr : r ≠ b := by rw [← h0]; exact hn _ (at_mem (by omega))
  have hir : inRing L r := by rw [← h0]; exact in_ring (by omega)
  have hil := in_ring hlast
  generalize hlt : (at' L (L.length - 1)).2 = last at *
  generalize hW0 : w.drew = W0 at *
  have ht0 : Turns nobody w W0 := by rw [← hW0]; exact (Turns.refl _ _).drew
  obtain ⟨W1, hW1⟩ : ∃ W1, W1 = ((W0.setCell ⟨b, 32, none⟩ (ptr last)).setCell ⟨b, 33, none⟩ (ptr r)).drew := ⟨_, rfl⟩
  have ht1 : Turns (fun i => i = b) w W1 := by rw [hW1]; exact (((ht0.mono (G := fun i => i = b) (fun _ h => h.elim)).setCell b _ _ (Or.inl rfl)).setCell b _ _ (Or.inl rfl)).drew
  have b0 := hb.keep ht0 (fun h => h)
  have b1' := b0.prev hl (ptr last)
  have b1 : Nd W1 b id (ptr last) (ptr r) := by
    rw [hW1]
    exact (b1'.next hl (ptr r)).keep (F := nobody) ((Turns.refl _ _).drew) (fun h => h)
  have r1 : Ring L W1 := h.keep ht1 (fun x hx e => hn x hx e)
  have hh := r1.hang h1 (b := b) (id := id) (by rw [hlt, h0]; exact b1) hl hn
  rw [hlt, h0] at hh
  have hp0 := heap_newer hp ht0 (fun h => h)
  have hp1 := heap_newer hp ht1 (fun e => hpb e.symm)
  have d0 : W0.cell? ⟨p, 0, none⟩ = some (ptr r) := cells_of hp0 0 _ rfl
  have d1 : W1.cell? ⟨p, 0, none⟩ = some (ptr r) := cells_of hp1 0 _ rfl
  obtain ⟨_, q32, q33⟩ := (n0.keep ht0 (fun h => h)).cells hlr
  obtain ⟨_, e1, _⟩ := b0.cells hl
  have f1 := b0.free 32
  obtain ⟨_, _, e2⟩ := b1'.cells hl
  have f2 := b1'.free 33
  obtain ⟨_, g32, g33⟩ := b1.cells hl
  have nl1 := nl.keep ht1 (fun e => hbl e)
  obtain ⟨_, _, e3⟩ := nl1.cells hll
  have f3 := nl1.free 33
  obtain ⟨W2, hW2⟩ : ∃ W2, W2 = W1.setCell ⟨last, 33, none⟩ (ptr b) := ⟨_, rfl⟩
  have nr1 := n0.keep ht1 (fun e => hbr e)
  have nr2 : ∃ p q, Nd W2 r (at' L 0).1 p q := by
    by_cases e : r = last
    · rw [hW2, ← e]; exact ⟨_, _, nr1.next hlr _⟩
    · rw [hW2]; exact ⟨_, _, nr1.other e _ _⟩
  obtain ⟨_, _, nr2⟩ := nr2
  obtain ⟨_, e4, _⟩ := nr2.cells hlr
  have f4 := nr2.free 32
  have hT : Turns (fun i => i = b ∨ inRing L i) w (W2.setCell ⟨r, 32, none⟩ (ptr b)) := by
    rw [hW2]
    exact ((ht1.mono (fun _ h => Or.inl (Or.inl h))).setCell _ _ _ (Or.inl (Or.inr hil))).setCell _ _ _ (Or.inl (Or.inr hir))
  have b2 : Nd W2 b id (ptr last) (ptr r) := by rw [hW2]; exact b1.other hbl.symm _ _
  have d2 : W2.cell? ⟨p, 0, none⟩ = some (ptr r) := by
    refine cells_of (t := 97) (cs := #[ptr r, .map (some mb)]) ?_ 0 _ rfl
    rw [hW2, Below.heap_setCell _ _ _ _ (fun e => by simp only at e; rw [← e] at nl1; unfold Nd at nl1; rw [hp1] at nl1; simp at nl1)]
    exact hp1
  obtain ⟨_, k32, _⟩ := b2.cells hl
  unfold hangW at hh
  rw [← hW2] at hh
  have HH := Lib.hid hh
  have HT := Lib.hid hT
  have HW0 := Lib.hid hW0
  have HW1 := Lib.hid hW1
  have HW2 := Lib.hid hW2
  clear hh hT hW0 hW1 hW2 ht0 ht1 b0 b1' b1 r1 hp0 hp1 nl1 nr1 nr2 b2 n0 nl h hb hn h0 hlt epv hp h1 hlast
  unfold ptr at *
  go_enter Tryd.func57, Tryd.ntmps57
  go_wp2
  refine wp_region_mix [(0, true, true), (1, true, true), (2, true, true), (3, true, true), (4, true, true), (5, true, true), (6, true, true), (7, true, true), (8, true, true), (9, true, true), (10, true, true), (11, true, true), (12, true, true), (13, true, true), (14, true, true), (15, true, true), (16, false, false)] (fun W => W.cell? ⟨p, 0, none⟩ = some (.pointer (some ⟨r, 0, none⟩)) ∧ W.cell? ⟨r, 32, none⟩ = some (.pointer (some ⟨last, 0, none⟩))) (by kernel_rfl) (by kernel_rfl) (⟨(by rw [HW0.out]; exact d0), (by rw [HW0.out]; exact q32)⟩) ?_
  rw [HW0.out]
  simp only [picked, List.filterMap_cons, List.filterMap_nil, List.getElem?_toArray, List.getElem?_cons_zero, List.getElem?_cons_succ, Option.map_some]
  repeat (refine mix_free (v := ?_) rfl ?_ ?_; rotate_left; (focus (intro w' hI; obtain ⟨z1, z2⟩ := hI; go_simp; try with_reducible rfl)); simp only [Act.put, List.setIfInBounds_toArray, List.set_cons_zero, List.set_cons_succ])
  refine mix_big rfl (fun K hK => ?_)
  go_wp2
  refine hK _ _ (fun h => by cases h) ?_
  clear hK K
  refine mix_nil ?_
  clear e1 f1 e2 f2
  go_wp2
  refine wp_region_mix [(0, true, true), (1, true, true), (2, true, true), (3, true, true), (4, true, true), (5, true, true), (6, true, true), (7, true, true), (8, true, true), (9, true, true), (10, true, true), (11, true, true), (12, true, true), (13, true, true), (14, false, true), (15, true, true), (16, true, true), (17, true, true), (18, false, false)] (fun W => W.cell? ⟨b, 32, none⟩ = some (.pointer (some ⟨last, 0, none⟩)) ∧ W.cell? ⟨p, 0, none⟩ = some (.pointer (some ⟨r, 0, none⟩))) (by kernel_rfl) (by kernel_rfl) (⟨(by rw [← HW1.out]; exact g32), (by rw [← HW1.out]; exact d1)⟩) ?_
  rw [← HW1.out]
  simp only [picked, List.filterMap_cons, List.filterMap_nil, List.getElem?_toArray, List.getElem?_cons_zero, List.getElem?_cons_succ, Option.map_some]
  repeat (refine mix_free (v := ?_) rfl ?_ ?_; rotate_left; (focus (intro w' hI; obtain ⟨z1, z2⟩ := hI; go_simp; try with_reducible rfl)); simp only [Act.put, List.setIfInBounds_toArray, List.set_cons_zero, List.set_cons_succ])
  refine mix_big rfl (fun K hK => ?_)
  go_wp2
  rw [← HW2.out]
  refine hK _ _ (fun _ => ⟨k32, d2⟩) ?_
  clear hK K
  repeat (refine mix_free (v := ?_) rfl ?_ ?_; rotate_left; (focus (intro w' hI; go_simp; try with_reducible rfl)); simp only [Act.put, List.setIfInBounds_toArray, List.set_cons_zero, List.set_cons_succ])
  refine mix_big rfl (fun K hK => ?_)
  go_wp2
  refine hK _ _ (fun h => by cases h) ?_
  clear hK K
  refine mix_nil ?_
  go_wp2
  go_end0
  exact ⟨rfl, HH.out, HT.out⟩

end Go.Proofs.YtjnplcajajdkiaaDoor.lru

/- Package lru: what hangs behind; what was used when. -/
namespace Go.Proofs.YtjnplcajajdkiaaDoor.lru
open Go.RowKit
open Go.Proofs.YtjnplcajajdkiaaDoor.stepkit Go.Proofs.YtjnplcajajdkiaaDoor.eqkit Go.Proofs.YtjnplcajajdkiaaDoor.idkit Go.Proofs.YtjnplcajajdkiaaDoor.obj Go.Proofs.YtjnplcajajdkiaaDoor.row Go.Proofs.YtjnplcajajdkiaaDoor.mapkit Go.Proofs.YtjnplcajajdkiaaDoor.mix

theorem infoId : (Tryd.prog.info? 31).map (·.size) = some 32 := by kernel_rfl
theorem build_zero (w : World) : (Instr.build 31 #[]).run Tryd.prog w = .ok (.agg (idc zid).toArray) w := by kernel_rfl
theorem turns_cells {w : World} (b : Nat) (hb : w.heap.size ≤ b) : ∀ (vs : List Value) (o : Nat) (W : World), Turns nobody w W → Turns nobody w (W.setCells b o vs)
  | [], _, _, h => h
  | v :: vs, o, W, h => turns_cells b hb vs (o + 1) _ (h.setCell b o v (Or.inr hb))
theorem there_of {W : World} {b n : Nat} {z : Array Value} {t : TypeId} (h : W.heap[b]? = some (.cells z t (0, 0))) (hn : n ≤ z.size) : W.there b 0 n := by
  intro j hj
  refine ⟨?_, ?_⟩
  · rw [Nat.zero_add, World.cell?, h]
    simp; omega
  · rw [Nat.zero_add]; exact free_of h j

theorem results_id {fn : Func} {s u : Tmp} (h : fn.results = #[.cell s 31, .tmp u]) (tmps : Array Value) (w : World) {b : Nat} {id : List Int} {x : Value} (hs : tmps.getD s undef = .pointer (some ⟨b, 0, none⟩)) (hu : tmps.getD u undef = x) (hr : w.rangeAt b 0 (idc id)) (hl : id.length = 32) :
    (results fn tmps).run Tryd.prog w = .ok (.tuple #[.agg (idc id).toArray, x]) w := by
  have hload := run_loadVar_mid (P := Tryd.prog) w b 0 31 (idc id) _ hr Tryd.underlying31 rfl (by rw [infoId, idc_len, hl])
  have hs' : tmps[s]?.getD undef = .pointer (some ⟨b, 0, none⟩) := by rw [← hs]; simp
  have hu' : tmps[u]?.getD undef = x := by rw [← hu]; simp
  simp [results, h, hs', hu', hload, asAddr]

theorem infoNode : ∃ i, Tryd.prog.info? 94 = some i ∧ i.size ≠ 0 := by
  have h : (Tryd.prog.info? 94).map (fun i => i.size) = some 34 := by kernel_rfl
  obtain ⟨i, hi, hb⟩ := Option.map_eq_some_iff.1 h
  exact ⟨i, hi, by rw [hb]; decide⟩
theorem eq_node {w : World} {a b : Nat} {ia ib : List Int} {pa qa pb qb : Value} (ha : Nd w a ia pa qa) (hb : Nd w b ib pb qb) :
    (binOp .neq 90 (.pointer (some ⟨a, 0, none⟩)) (.pointer (some ⟨b, 0, none⟩))).run Tryd.prog w = .ok (.bool (!decide (a = b))) w ∧ (binOp .eql 90 (.pointer (some ⟨a, 0, none⟩)) (.pointer (some ⟨b, 0, none⟩))).run Tryd.prog w = .ok (.bool (decide (a = b))) w := by
  obtain ⟨j, hj, hs⟩ := infoNode
  have h : ∀ d : Nat, (Op.equalIn (d + 1) 90 (.pointer (some ⟨a, 0, none⟩)) (.pointer (some ⟨b, 0, none⟩))).run Tryd.prog w = .ok (decide (a = b)) w := fun d => by
    by_cases e : a = b
    · subst e
      rw [decide_eq_true rfl]
      simp [Op.equalIn, run_underlying Tryd.underlying90, sizeOf, typeInfo, hj, run_sameAddr_same]
    · rw [decide_eq_false e]
      simp [Op.equalIn, run_underlying Tryd.underlying90, sizeOf, typeInfo, hj, hs, run_sameAddr_other w (a := ⟨a, 0, none⟩) (b := ⟨b, 0, none⟩) (by simp [e]) ha hb]
  constructor
  · simp only [binOp]
    simp [Op.equal, Op.maxDepth, h 9999]
  · simp only [binOp]
    simp [Op.equal, Op.maxDepth, h 9999]

set_option maxRecDepth 10000 in
set_option maxHeartbeats 400000 in
theorem behind_any (p r : Nat) (L : List (List Int × Nat)) (w : World) (h : Ring L w) (h1 : 1 ≤ L.length) (h0 : (at' L 0).2 = r) (mbv : Value) (hp : w.heap[p]? = some (.cells #[ptr r, mbv] 97 (0, 0))) (k : Nat) (hk : k < L.length) :
    Calls Tryd.prog 58 #[.pointer (some ⟨p, 0, none⟩), .pointer (some ⟨(at' L k).2, 0, none⟩)] w fun e w' => e = .returned (.tuple #[.agg (idc (if nx L.length k = 0 then zid else (at' L (nx L.length k)).1)).toArray, .bool (decide (nx L.length k ≠ 0))]) ∧ Turns nobody w w' := by
  have hnk : nx L.length k < L.length := by unfold nx; split <;> omega
  obtain ⟨W1, hW1⟩ : ∃ W1, W1 = (w.alloc (.cells #[.int .u8 0, .int .u8 0, .int .u8 0, .int .u8 0, .int .u8 0, .int .u8 0, .int .u8 0, .int .u8 0, .int .u8 0, .int .u8 0, .int .u8 0, .int .u8 0, .int .u8 0, .int .u8 0, .int .u8 0, .int .u8 0, .int .u8 0, .int .u8 0, .int .u8 0, .int .u8 0, .int .u8 0, .int .u8 0, .int .u8 0, .int .u8 0, .int .u8 0, .int .u8 0, .int .u8 0, .int .u8 0, .int .u8 0, .int .u8 0, .int .u8 0, .int .u8 0] 31)).drew := ⟨_, rfl⟩
  have ht1 : Turns nobody w W1 := by rw [hW1]; exact ((Turns.refl _ _).alloc _).drew
  have hb1 : W1.heap[w.heap.size]? = some (.cells #[.int .u8 0, .int .u8 0, .int .u8 0, .int .u8 0, .int .u8 0, .int .u8 0, .int .u8 0, .int .u8 0, .int .u8 0, .int .u8 0, .int .u8 0, .int .u8 0, .int .u8 0, .int .u8 0, .int .u8 0, .int .u8 0, .int .u8 0, .int .u8 0, .int .u8 0, .int .u8 0, .int .u8 0, .int .u8 0, .int .u8 0, .int .u8 0, .int .u8 0, .int .u8 0, .int .u8 0, .int .u8 0, .int .u8 0, .int .u8 0, .int .u8 0, .int .u8 0] 31 (0, 0)) := by rw [hW1]; exact heap_alloc_new w _
  have nk := (h.nd k hk).keep ht1 (fun h => h)
  have nn := (h.nd _ hnk).keep ht1 (fun h => h)
  have hln := h.len hnk
  have d0 : W1.cell? ⟨p, 0, none⟩ = some (ptr r) := cells_of (heap_newer hp ht1 (fun h => h)) 0 _ rfl
  obtain ⟨_, _, c33⟩ := nk.cells (h.len hk)
  obtain ⟨rN, _, _⟩ := nn.cells hln
  have heq := (eq_node nn ((h.nd 0 (by omega)).keep ht1 (fun h => h))).2
  rw [h0] at heq
  have hNr : (at' L (nx L.length k)).2 = r ↔ nx L.length k = 0 := by
    rw [← h0]
    exact ⟨fun e => h.ne hnk (by omega) e, fun e => by rw [e]⟩
  have HTH := fun (cs : List Value) (hc : cs.length = 32) => there_of (n := cs.toArray.size) hb1 (by rw [List.size_toArray, hc]; decide)
  have HTU := fun (cs : List Value) => turns_cells (w := w) w.heap.size (Nat.le_refl _) cs 0 W1 ht1
  have HRA := fun (cs : List Value) (hc : cs.length = 32) => World.rangeAt_setCells_same W1 w.heap.size 0 cs (by have := HTH cs hc; rwa [List.size_toArray] at this)
  generalize (at' L (nx L.length k)).2 = N at *
  generalize (at' L (nx L.length k)).1 = idn at *
  generalize (at' L k).2 = b at *
  generalize nx L.length k = m at *
  have HW1 := Lib.hid hW1
  have HT := Lib.hid HTH
  have HU := Lib.hid HTU
  have HR := Lib.hid HRA
  have HN := Lib.hid rN
  have HB := Lib.hid build_zero
  have SZ := Lib.hid (show (Tryd.prog.info? 31).map (·.size) = some (idc zid).length by rw [infoId, idc_len, zid_len])
  have SN := Lib.hid (show (Tryd.prog.info? 31).map (·.size) = some (idc idn).length by rw [infoId, idc_len, hln])
  have HZL := Lib.hid (show (idc zid).length = 32 by rw [idc_len, zid_len])
  have HNL := Lib.hid (show (idc idn).length = 32 by rw [idc_len, hln])
  have hzl := zid_len
  clear hW1 ht1 hb1 nk nn HTH HTU HRA h h0 hp rN h1 hnk hk
  generalize zid = z0 at *
  unfold ptr at *
  by_cases hm : m = 0
  · have hNe : r = N := (hNr.2 hm).symm
    subst hNe
    rw [if_pos hm, decide_eq_false (by simpa using hm)]
    clear hNr hm
    simp only [decide_true] at heq
    go_enter Tryd.func58, Tryd.ntmps58
    go_wp2
    refine wp_region_mix [(0, true, true), (1, true, true), (2, true, true), (3, true, true), (4, true, true), (5, true, true), (6, true, true), (7, true, true), (8, true, true), (9, true, true)] (fun W => W = W1) (by kernel_rfl) (by kernel_rfl) (HW1.out.symm) ?_
    rw [← HW1.out]
    simp only [picked, List.filterMap_cons, List.filterMap_nil, List.getElem?_toArray, List.getElem?_cons_zero, List.getElem?_cons_succ, Option.map_some]
    repeat (refine mix_free (v := ?_) rfl ?_ ?_; rotate_left; (focus (intro w' hI; subst hI; go_simp; try with_reducible rfl)); simp only [Act.put, List.setIfInBounds_toArray, List.set_cons_zero, List.set_cons_succ])
    refine mix_nil ?_
    go_wp2_with first
      | (with_reducible refine wpList_exec (exec_build _ _ rfl #[] (by kernel_rfl) (HB.out _)) (by first | rfl | go_simp) ?_)
      | (refine wpList_store_mid rfl _ _ _ rfl _ _ _ rfl rfl (HT.out _ HZL.out) (by rw [List.size_toArray]; exact SZ.out) (all_oneCell_toArray (idc_one _)) ?_; rw [List.toList_toArray])
    refine bodyPost_ret (results_id rfl _ _ rfl rfl (HR.out _ HZL.out) hzl) rfl ?_
    exact ⟨rfl, HU.out _⟩
  · have hNe : ¬ N = r := fun e => hm (hNr.1 e)
    rw [if_neg hm, decide_eq_true hm]
    clear hNr hm
    simp only [hNe, decide_false] at heq
    go_enter Tryd.func58, Tryd.ntmps58
    go_wp2
    refine wp_region_mix [(0, true, true), (1, true, true), (2, true, true), (3, true, true), (4, true, true), (5, true, true), (6, true, true), (7, true, true), (8, true, true), (9, true, true)] (fun W => W = W1) (by kernel_rfl) (by kernel_rfl) (HW1.out.symm) ?_
    rw [← HW1.out]
    simp only [picked, List.filterMap_cons, List.filterMap_nil, List.getElem?_toArray, List.getElem?_cons_zero, List.getElem?_cons_succ, Option.map_some]
    repeat (refine mix_free (v := ?_) rfl ?_ ?_; rotate_left; (focus (intro w' hI; subst hI; go_simp; try with_reducible rfl)); simp only [Act.put, List.setIfInBounds_toArray, List.set_cons_zero, List.set_cons_succ])
    refine mix_nil ?_
    go_wp2_with first
      | (with_reducible refine wpList_load_mid rfl _ _ rfl _ _ rfl _ _ HN.out Tryd.underlying31 rfl SN.out ?_)
      | (refine wpList_store_mid rfl _ _ _ rfl _ _ _ rfl rfl (HT.out _ HNL.out) (by rw [List.size_toArray]; exact SN.out) (all_oneCell_toArray (idc_one _)) ?_; rw [List.toList_toArray])
    refine bodyPost_ret (results_id rfl _ _ rfl rfl (HR.out _ HNL.out) hln) rfl ?_
    exact ⟨rfl, HU.out _⟩

end Go.Proofs.YtjnplcajajdkiaaDoor.lru

/- Package lru: what is used, and dropped. -/
namespace Go.Proofs.YtjnplcajajdkiaaDoor.lru
open Go.RowKit
open Go.Proofs.YtjnplcajajdkiaaDoor.stepkit Go.Proofs.YtjnplcajajdkiaaDoor.eqkit Go.Proofs.YtjnplcajajdkiaaDoor.idkit Go.Proofs.YtjnplcajajdkiaaDoor.obj Go.Proofs.YtjnplcajajdkiaaDoor.row Go.Proofs.YtjnplcajajdkiaaDoor.mapkit Go.Proofs.YtjnplcajajdkiaaDoor.mix

def mapOf (ns : List (List Int × Nat)) : List (List Int × Value) := ns.map fun x => (x.1, ptr x.2)
/-- A list: the struct, its map, its ring. -/
def LruAt (p : Nat) (ns : List (List Int × Nat)) : (Nat → Prop) → World → Prop := fun F w => ∃ r mb, w.heap[p]? = some (.cells #[ptr r, .map (some mb)] 97 (0, 0)) ∧ Ring ((zid, r) :: ns) w ∧ MapIs w mb (mapOf ns) ∧ (ns.map (·.1)).Nodup ∧ F = fun i => i = p ∨ i = mb ∨ inRing ((zid, r) :: ns) i

theorem LruAt.apart {p r mb : Nat} {ns : List (List Int × Nat)} {w : World} (hp : w.heap[p]? = some (.cells #[ptr r, .map (some mb)] 97 (0, 0))) (hr : Ring ((zid, r) :: ns) w) (hm : MapIs w mb (mapOf ns)) :
    p ≠ mb ∧ ¬ inRing ((zid, r) :: ns) p ∧ ¬ inRing ((zid, r) :: ns) mb := by
  obtain ⟨es, c, N, h1, _, _⟩ := hm
  have nd : ∀ i, inRing ((zid, r) :: ns) i → ∃ cs, w.heap[i]? = some (.cells cs 94 (0, 0)) := by
    rintro i ⟨x, hx, rfl⟩
    obtain ⟨j, hj, rfl⟩ := List.mem_iff_getElem.1 hx
    have := hr.nd j hj
    have e : at' ((zid, r) :: ns) j = ((zid, r) :: ns)[j] := by unfold at'; rw [List.getD, List.getElem?_eq_getElem hj]; rfl
    rw [e] at this
    exact ⟨_, this⟩
  refine ⟨fun e => ?_, fun h => ?_, fun h => ?_⟩
  · rw [e, h1] at hp; cases hp
  · obtain ⟨cs, h⟩ := nd _ h
    rw [hp] at h
    simp at h
  · obtain ⟨cs, h⟩ := nd _ h
    rw [h1] at h
    cases h

theorem ring_lt {L : List (List Int × Nat)} {w : World} (h : Ring L w) {i : Nat} (hi : inRing L i) : i < w.heap.size := by
  obtain ⟨x, hx, rfl⟩ := hi
  obtain ⟨j, hj, rfl⟩ := List.mem_iff_getElem.1 hx
  have := h.nd j hj
  have e : at' L j = L[j] := by unfold at'; rw [List.getD, List.getElem?_eq_getElem hj]; rfl
  rw [e] at this
  exact lt_of_block this

theorem local_lru (p : Nat) (ns : List (List Int × Nat)) : Local (LruAt p ns) := by
  rintro F w ⟨r, mb, h1, h2, h3, h4, rfl⟩
  refine ⟨fun i hi => ?_, fun w' hs hb => ⟨r, mb, ?_, ?_, ?_, h4, rfl⟩⟩
  · rcases hi with rfl | rfl | hi
    · exact lt_of_block h1
    · exact h3.lt
    · exact ring_lt h2 hi
  · rw [hb p (Or.inl rfl)]; exact h1
  · exact ⟨fun i hi => by have := h2.nd i hi; unfold Nd at this ⊢; rw [hb _ (Or.inr (Or.inr (in_ring hi)))]; exact this, h2.inj, h2.wh⟩
  · obtain ⟨es, c, N, g1, g2, g3⟩ := h3
    exact ⟨es, c, N, by rw [hb mb (Or.inr (Or.inl rfl))]; exact g1, g2, g3⟩

theorem keys_of {r : Nat} {ns : List (List Int × Nat)} {w : World} (hr : Ring ((zid, r) :: ns) w) (hn : (ns.map (·.1)).Nodup) : Keys (mapOf ns) := by
  refine ⟨fun x hx => ?_, ?_⟩
  · unfold mapOf at hx
    obtain ⟨y, hy, rfl⟩ := List.mem_map.1 hx
    exact hr.wh y (by simp [hy])
  · unfold mapOf
    rw [List.map_map]
    exact hn
theorem look_at {ns : List (List Int × Nat)} (hn : (ns.map (·.1)).Nodup) {j : Nat} (hj : j < ns.length) : lookM (mapOf ns) (at' ns j).1 = some (ptr (at' ns j).2) := by
  have e : at' ns j = ns[j] := by unfold at'; rw [List.getD, List.getElem?_eq_getElem hj]; rfl
  rw [e]
  unfold lookM mapOf
  have : (ns.map fun x => (x.1, ptr x.2)).find? (fun x => decide (x.1 = ns[j].1)) = some (ns[j].1, ptr ns[j].2) := by
    rw [List.find?_eq_some_iff_getElem]
    refine ⟨by simp, j, by simpa using hj, by simp, fun i hi => ?_⟩
    simp only [List.getElem_map, Bool.not_eq_true', decide_eq_false_iff_not]
    intro e'
    have := (List.getElem_inj (xs := ns.map (·.1)) (i := i) (j := j) (h₀ := by simp; omega) (h₁ := by simpa using hj) hn).1 (by simpa using e')
    omega
  rw [this]
  rfl
theorem look_none {ns : List (List Int × Nat)} {id : List Int} (h : id ∉ ns.map (·.1)) : lookM (mapOf ns) id = none := by
  unfold lookM mapOf
  have : (ns.map fun x => (x.1, ptr x.2)).find? (fun x => decide (x.1 = id)) = none := by
    rw [List.find?_eq_none]
    intro x hx
    obtain ⟨y, hy, rfl⟩ := List.mem_map.1 hx
    simp only [decide_eq_true_eq]
    exact fun e => h (by rw [← e]; exact List.mem_map_of_mem hy)
  rw [this]
  rfl
theorem at_cons (x : List Int × Nat) (ns : List (List Int × Nat)) (j : Nat) : at' (x :: ns) (j + 1) = at' ns j := rfl
theorem mem_at {ns : List (List Int × Nat)} {id : List Int} (h : id ∈ ns.map (·.1)) : ∃ j, j < ns.length ∧ (at' ns j).1 = id := by
  obtain ⟨j, hj, he⟩ := List.mem_iff_getElem.1 h
  refine ⟨j, by simpa using hj, ?_⟩
  unfold at'
  rw [List.getD, List.getElem?_eq_getElem (by simpa using hj)]
  simpa using he

theorem zero_ptr (w : World) : (zeroValue 90).run Tryd.prog w = .ok (.pointer none) w := by kernel_rfl

/-- What stands in a new cell of 32 bytes. -/
theorem idcell {w W : World} (ht : Turns nobody (w.alloc (.cells #[.int .u8 0, .int .u8 0, .int .u8 0, .int .u8 0, .int .u8 0, .int .u8 0, .int .u8 0, .int .u8 0, .int .u8 0, .int .u8 0, .int .u8 0, .int .u8 0, .int .u8 0, .int .u8 0, .int .u8 0, .int .u8 0, .int .u8 0, .int .u8 0, .int .u8 0, .int .u8 0, .int .u8 0, .int .u8 0, .int .u8 0, .int .u8 0, .int .u8 0, .int .u8 0, .int .u8 0, .int .u8 0, .int .u8 0, .int .u8 0, .int .u8 0, .int .u8 0] 31)) W) (cs : List Value) (hc : cs.length = 32) :
    W.there w.heap.size 0 cs.toArray.size ∧ Turns nobody w (W.setCells w.heap.size 0 cs) ∧ (W.setCells w.heap.size 0 cs).rangeAt w.heap.size 0 cs := by
  have hb := heap_newer (heap_alloc_new w (.cells #[.int .u8 0, .int .u8 0, .int .u8 0, .int .u8 0, .int .u8 0, .int .u8 0, .int .u8 0, .int .u8 0, .int .u8 0, .int .u8 0, .int .u8 0, .int .u8 0, .int .u8 0, .int .u8 0, .int .u8 0, .int .u8 0, .int .u8 0, .int .u8 0, .int .u8 0, .int .u8 0, .int .u8 0, .int .u8 0, .int .u8 0, .int .u8 0, .int .u8 0, .int .u8 0, .int .u8 0, .int .u8 0, .int .u8 0, .int .u8 0, .int .u8 0, .int .u8 0] 31)) ht (fun h => h)
  have h1 : W.there w.heap.size 0 cs.toArray.size := there_of hb (by rw [List.size_toArray, hc]; decide)
  have ht' : Turns nobody w W := ((Turns.refl nobody w).alloc _).trans ht (fun _ h => h.elim)
  refine ⟨h1, turns_cells _ (Nat.le_refl _) cs 0 W ht', World.rangeAt_setCells_same W _ 0 cs (by rwa [List.size_toArray] at h1)⟩

theorem sizeId {id : List Int} (h : id.length = 32) : (Tryd.prog.info? 31).map (·.size) = some (idc id).length := by rw [infoId, idc_len, h]

def headId (ns : List (List Int × Nat)) : List Int := if ns.length = 0 then zid else (at' ns 0).1
theorem nx_zero (n : Nat) : nx (n + 1) 0 = if n = 0 then 0 else 1 := by unfold nx; (repeat' split) <;> omega

set_option maxRecDepth 10000 in
theorem oldest_any (p : Nat) (ns : List (List Int × Nat)) (F : Nat → Prop) (w : World) (h : LruAt p ns F w) :
    Calls Tryd.prog 39 #[.pointer (some ⟨p, 0, none⟩)] w fun e w' => e = .returned (.tuple #[.agg (idc (headId ns)).toArray, .bool (decide (ns.length ≠ 0))]) ∧ Turns nobody w w' := by
  have ht := (Turns.refl nobody w).alloc (.cells #[.int .u8 0, .int .u8 0, .int .u8 0, .int .u8 0, .int .u8 0, .int .u8 0, .int .u8 0, .int .u8 0, .int .u8 0, .int .u8 0, .int .u8 0, .int .u8 0, .int .u8 0, .int .u8 0, .int .u8 0, .int .u8 0, .int .u8 0, .int .u8 0, .int .u8 0, .int .u8 0, .int .u8 0, .int .u8 0, .int .u8 0, .int .u8 0, .int .u8 0, .int .u8 0, .int .u8 0, .int .u8 0, .int .u8 0, .int .u8 0, .int .u8 0, .int .u8 0] 31)
  obtain ⟨r, mb, hp, hr, hm, _, _⟩ := (local_lru p ns).keep h ht (fun _ _ h => h)
  have c0 := cells_of hp 0 _ rfl
  have hbh := behind_any p r ((zid, r) :: ns) _ hr (by simp) rfl _ hp 0 (by simp)
  have e1 : (if nx ((zid, r) :: ns).length 0 = 0 then zid else (at' ((zid, r) :: ns) (nx ((zid, r) :: ns).length 0)).1) = headId ns := by
    rw [List.length_cons, nx_zero]
    unfold headId
    by_cases hz : ns.length = 0
    · rw [if_pos hz, if_pos hz, if_pos rfl]
    · rw [if_neg hz, if_neg hz, if_neg (by decide)]; rfl
  have e2 : decide (nx ((zid, r) :: ns).length 0 ≠ 0) = decide (ns.length ≠ 0) := by
    rw [List.length_cons, nx_zero]
    by_cases hz : ns.length = 0
    · simp [hz]
    · simp [hz]
  have e3 : (at' ((zid, r) :: ns) 0).2 = r := rfl
  rw [e1, e2, e3] at hbh
  have hl : (headId ns).length = 32 := by
    unfold headId
    split
    · exact zid_len
    · exact hr.wh _ (List.mem_cons_of_mem _ (at_mem (by omega)))
  have HS := Lib.hid (sizeId hl)
  have HCL := Lib.hid (show (idc (headId ns)).length = 32 by rw [idc_len, hl])
  clear e1 e2 e3 hr hm hp h ht
  generalize headId ns = idh at *
  generalize decide (ns.length ≠ 0) = ok at *
  unfold ptr at *
  go_enter Tryd.func39, Tryd.ntmps39
  go_wp2_with first
    | (go_at_call 55; refine (none_no _ _ _ c0).mono ?_; rintro e w' ⟨rfl, rfl⟩)
    | (go_at_call 58; refine hbh.mono ?_; rintro e w2 ⟨rfl, ht2⟩; have HI := Lib.hid (idcell ht2 (idc idh) HCL.out))
    | (refine wpList_store_mid rfl _ _ _ rfl _ _ _ rfl rfl HI.out.1 (by rw [List.size_toArray]; exact HS.out) (all_oneCell_toArray (idc_one _)) ?_; rw [List.toList_toArray])
  refine bodyPost_ret (results_id rfl _ _ rfl rfl HI.out.2.2 hl) rfl ?_
  exact ⟨rfl, HI.out.2.1⟩

def idxOf (ns : List (List Int × Nat)) (id : List Int) : Nat := (ns.map (·.1)).findIdx (fun x => decide (x = id))
/-- The one behind it, if there is one. -/
def afterId (ns : List (List Int × Nat)) (id : List Int) : Option (List Int) := if idxOf ns id + 1 < ns.length then some (at' ns (idxOf ns id + 1)).1 else none

theorem idx_lt {ns : List (List Int × Nat)} {id : List Int} (h : id ∈ ns.map (·.1)) : idxOf ns id < ns.length ∧ (at' ns (idxOf ns id)).1 = id := by
  have h1 : (ns.map (·.1)).findIdx (fun x => decide (x = id)) < (ns.map (·.1)).length := List.findIdx_lt_length_of_exists ⟨id, h, by simp⟩
  unfold idxOf
  refine ⟨by simpa using h1, ?_⟩
  have h2 := List.findIdx_getElem (xs := ns.map (·.1)) (p := fun x => decide (x = id)) (w := h1)
  unfold at'
  rw [List.getD, List.getElem?_eq_getElem (by simpa using h1)]
  simpa using h2
theorem idx_none {ns : List (List Int × Nat)} {id : List Int} (h : id ∉ ns.map (·.1)) : idxOf ns id = ns.length := by
  unfold idxOf
  rw [List.findIdx_eq_length_of_false]
  · simp
  · intro x hx
    simp only [decide_eq_false_iff_not]
    exact fun e => h (e ▸ hx)

end Go.Proofs.YtjnplcajajdkiaaDoor.lru

/- Package lru: what was used next; what is used, and dropped. -/
namespace Go.Proofs.YtjnplcajajdkiaaDoor.lru
open Go.RowKit
open Go.Proofs.YtjnplcajajdkiaaDoor.stepkit Go.Proofs.YtjnplcajajdkiaaDoor.eqkit Go.Proofs.YtjnplcajajdkiaaDoor.idkit Go.Proofs.YtjnplcajajdkiaaDoor.obj Go.Proofs.YtjnplcajajdkiaaDoor.row Go.Proofs.YtjnplcajajdkiaaDoor.mapkit Go.Proofs.YtjnplcajajdkiaaDoor.mix


set_option maxRecDepth 10000 in
set_option maxHeartbeats 400000 in
theorem after_any (p : Nat) (ns : List (List Int × Nat)) (id : List Int) (hid : id.length = 32) (F : Nat → Prop) (w : World) (h : LruAt p ns F w) :
    Calls Tryd.prog 40 #[.pointer (some ⟨p, 0, none⟩), .agg (idc id).toArray] w fun e w' => e = .returned (.tuple #[.agg (idc ((afterId ns id).getD zid)).toArray, .bool (afterId ns id).isSome]) ∧ Turns nobody w w' := by
  obtain ⟨w0, hw0⟩ : ∃ w0, w0 = w.alloc (.cells (idc id).toArray 31) := ⟨_, rfl⟩
  obtain ⟨W1, hW1⟩ : ∃ W1, W1 = (w0.alloc (.cells #[.int .u8 0, .int .u8 0, .int .u8 0, .int .u8 0, .int .u8 0, .int .u8 0, .int .u8 0, .int .u8 0, .int .u8 0, .int .u8 0, .int .u8 0, .int .u8 0, .int .u8 0, .int .u8 0, .int .u8 0, .int .u8 0, .int .u8 0, .int .u8 0, .int .u8 0, .int .u8 0, .int .u8 0, .int .u8 0, .int .u8 0, .int .u8 0, .int .u8 0, .int .u8 0, .int .u8 0, .int .u8 0, .int .u8 0, .int .u8 0, .int .u8 0, .int .u8 0] 31)).drew := ⟨_, rfl⟩
  have ht0 : Turns nobody w w0 := by rw [hw0]; exact (Turns.refl _ _).alloc _
  have ht01 : Turns nobody w0 W1 := by rw [hW1]; exact ((Turns.refl _ _).alloc _).drew
  have htz : Turns nobody (w0.alloc (.cells #[.int .u8 0, .int .u8 0, .int .u8 0, .int .u8 0, .int .u8 0, .int .u8 0, .int .u8 0, .int .u8 0, .int .u8 0, .int .u8 0, .int .u8 0, .int .u8 0, .int .u8 0, .int .u8 0, .int .u8 0, .int .u8 0, .int .u8 0, .int .u8 0, .int .u8 0, .int .u8 0, .int .u8 0, .int .u8 0, .int .u8 0, .int .u8 0, .int .u8 0, .int .u8 0, .int .u8 0, .int .u8 0, .int .u8 0, .int .u8 0, .int .u8 0, .int .u8 0] 31)) W1 := by rw [hW1]; exact (Turns.refl _ _).drew
  have ht1 := ht0.trans ht01 (fun _ h => h.elim)
  have hz0 : w0.heap.size = w.heap.size + 1 := by rw [hw0]; simp
  have hb0 : w0.heap[w.heap.size]? = some (.cells (idc id).toArray 31 (0, 0)) := by rw [hw0]; exact heap_alloc_new w _
  have hx : W1.rangeAt w.heap.size 0 (idc id) := by have := range_block (heap_newer hb0 ht01 (fun h => h)); rwa [List.toList_toArray] at this
  obtain ⟨r, mb, hp, hr, hm, hnd, _⟩ := (local_lru p ns).keep h ht1 (fun _ _ h => h)
  obtain ⟨r0, mb0, hp', _⟩ := (local_lru p ns).keep h (ht0.alloc (Obj.cells #[.int .u8 0, .int .u8 0, .int .u8 0, .int .u8 0, .int .u8 0, .int .u8 0, .int .u8 0, .int .u8 0, .int .u8 0, .int .u8 0, .int .u8 0, .int .u8 0, .int .u8 0, .int .u8 0, .int .u8 0, .int .u8 0, .int .u8 0, .int .u8 0, .int .u8 0, .int .u8 0, .int .u8 0, .int .u8 0, .int .u8 0, .int .u8 0, .int .u8 0, .int .u8 0, .int .u8 0, .int .u8 0, .int .u8 0, .int .u8 0, .int .u8 0, .int .u8 0] 31)) (fun _ _ h => h)
  have c0 := cells_of hp' 0 _ rfl
  have c1 : W1.cell? ⟨p, 1, none⟩ = some (.map (some mb)) := cells_of hp 1 _ rfl
  have hlk := run_lookM hm (keys_of hr hnd) id hid Tryd.underlying95 _ (zero_ptr W1)
  have HW0 := Lib.hid hw0
  have HW1 := Lib.hid hW1
  have HX := Lib.hid hx
  have SX := Lib.hid (sizeId hid)
  have HZ0 := Lib.hid hz0
  have HB := Lib.hid build_zero
  have HT0 := Lib.hid ht0
  by_cases hmem : id ∈ ns.map (·.1)
  · obtain ⟨hj, hje⟩ := idx_lt hmem
    have hla := look_at hnd hj
    rw [hje] at hla
    rw [hla] at hlk
    have hbh := behind_any p r ((zid, r) :: ns) W1 hr (by simp) rfl _ hp (idxOf ns id + 1) (by simp; omega)
    rw [at_cons] at hbh
    have en : nx ((zid, r) :: ns).length (idxOf ns id + 1) = if idxOf ns id + 1 = ns.length then 0 else idxOf ns id + 2 := by
      rw [List.length_cons]; unfold nx; (repeat' split) <;> omega
    have e1 : (if nx ((zid, r) :: ns).length (idxOf ns id + 1) = 0 then zid else (at' ((zid, r) :: ns) (nx ((zid, r) :: ns).length (idxOf ns id + 1))).1) = (afterId ns id).getD zid := by
      rw [en]
      unfold afterId
      by_cases hz : idxOf ns id + 1 = ns.length
      · rw [if_pos hz, if_pos rfl, if_neg (by omega)]; rfl
      · rw [if_neg hz, if_neg (by omega), if_pos (by omega)]; rfl
    have e2 : decide (nx ((zid, r) :: ns).length (idxOf ns id + 1) ≠ 0) = (afterId ns id).isSome := by
      rw [en]
      unfold afterId
      by_cases hz : idxOf ns id + 1 = ns.length
      · rw [if_pos hz, if_neg (by omega)]; rfl
      · rw [if_neg hz, if_pos (by omega)]; rfl
    rw [e1, e2] at hbh
    have hl : ((afterId ns id).getD zid).length = 32 := by
      unfold afterId
      split
      · exact hr.wh _ (List.mem_cons_of_mem _ (at_mem (by assumption)))
      · exact zid_len
    have HS := Lib.hid (sizeId hl)
    have HCL := Lib.hid (show (idc ((afterId ns id).getD zid)).length = 32 by rw [idc_len, hl])
    have HL : Hid ((Instr.lookup 95 (.map (some mb)) (.agg (idc id).toArray) true).run Tryd.prog W1 = .ok (.tuple #[ptr (at' ns (idxOf ns id)).2, .bool true]) W1) := Lib.hid hlk
    have HTZ := Lib.hid htz
    clear e1 e2 en hr hm hp hp' h ht0 ht01 ht1 hz0 hb0 hx hlk hw0 hW1 hla hje hj hmem hnd htz
    generalize (afterId ns id).getD zid = ida at *
    generalize (afterId ns id).isSome = oka at *
    generalize (at' ns (idxOf ns id)).2 = b at *
    unfold ptr at *
    go_enter Tryd.func40, Tryd.ntmps40
    go_wp2_with (go_at_call 55; rw [← HW0.out]; refine (none_no _ _ _ c0).mono ?_; rintro e w' ⟨rfl, rfl⟩)
    refine wp_region_mix [(0, true, true), (1, true, true), (2, true, true), (3, true, true), (4, true, true), (5, true, true), (6, true, true), (7, true, true), (8, true, true), (9, true, true), (10, true, true)] (fun W => W = W1) (by kernel_rfl) (by kernel_rfl) (HW1.out.symm) ?_
    rw [← HW1.out]
    simp only [picked, List.filterMap_cons, List.filterMap_nil, List.getElem?_toArray, List.getElem?_cons_zero, List.getElem?_cons_succ, Option.map_some]
    iterate 4 (refine mix_free (v := ?_) rfl ?_ ?_; rotate_left; (focus (intro w' hI; subst hI; go_simp; try with_reducible rfl)); simp only [Act.put, List.setIfInBounds_toArray, List.set_cons_zero, List.set_cons_succ])
    refine mix_free (v := .agg (idc id).toArray) rfl (fun w' hI => by rw [hI]; exact exec_load_mid _ _ rfl _ _ rfl (idc id) _ HX.out Tryd.underlying31 rfl SX.out) ?_
    simp only [Act.put, List.setIfInBounds_toArray, List.set_cons_zero, List.set_cons_succ]
    refine mix_free (v := .tuple #[.pointer (some ⟨b, 0, none⟩), .bool true]) rfl (fun w' hI => by rw [hI]; exact exec_lookup _ _ _ rfl rfl rfl HL.out) ?_
    simp only [Act.put, List.setIfInBounds_toArray, List.set_cons_zero, List.set_cons_succ]
    repeat (refine mix_free (v := ?_) rfl ?_ ?_; rotate_left; (focus (intro w' hI; go_simp; try with_reducible rfl)); simp only [Act.put, List.setIfInBounds_toArray, List.set_cons_zero, List.set_cons_succ])
    refine mix_nil ?_
    go_wp2_with first
      | (go_at_call 58; refine hbh.mono ?_; rintro e w2 ⟨rfl, ht2⟩; have hI0 := idcell (w := w0) (HTZ.out.trans ht2 (fun _ h => h.elim)) (idc ida) HCL.out; rw [HZ0.out] at hI0; have HI := Lib.hid hI0; clear hI0)
      | (refine wpList_store_mid rfl _ _ _ rfl _ _ _ rfl rfl HI.out.1 (by rw [List.size_toArray]; exact HS.out) (all_oneCell_toArray (idc_one _)) ?_; rw [List.toList_toArray])
    refine bodyPost_ret (results_id rfl _ _ rfl rfl HI.out.2.2 hl) rfl ?_
    exact ⟨rfl, HT0.out.trans HI.out.2.1 (fun _ h => h.elim)⟩
  · have hla := look_none hmem
    rw [hla] at hlk
    have HL : Hid ((Instr.lookup 95 (.map (some mb)) (.agg (idc id).toArray) true).run Tryd.prog W1 = .ok (.tuple #[.pointer none, .bool false]) W1) := Lib.hid hlk
    have e1 : afterId ns id = none := by unfold afterId; rw [idx_none hmem, if_neg (by omega)]
    rw [e1]
    have hI0 := idcell (w := w0) htz (idc zid) (by rw [idc_len, zid_len])
    rw [HZ0.out] at hI0
    have HI := Lib.hid hI0
    have hl := zid_len
    have HS := Lib.hid (sizeId zid_len)
    simp only [Option.getD_none, Option.isSome_none]
    clear e1 hI0 hr hm hp hp' h ht0 ht01 ht1 hz0 hb0 hx hlk hw0 hW1 hla hmem hnd htz
    generalize zid = z0 at *
    unfold ptr at *
    go_enter Tryd.func40, Tryd.ntmps40
    go_wp2_with (go_at_call 55; rw [← HW0.out]; refine (none_no _ _ _ c0).mono ?_; rintro e w' ⟨rfl, rfl⟩)
    refine wp_region_mix [(0, true, true), (1, true, true), (2, true, true), (3, true, true), (4, true, true), (5, true, true), (6, true, true), (7, true, true), (8, true, true), (9, true, true), (10, true, true)] (fun W => W = W1) (by kernel_rfl) (by kernel_rfl) (HW1.out.symm) ?_
    rw [← HW1.out]
    simp only [picked, List.filterMap_cons, List.filterMap_nil, List.getElem?_toArray, List.getElem?_cons_zero, List.getElem?_cons_succ, Option.map_some]
    iterate 4 (refine mix_free (v := ?_) rfl ?_ ?_; rotate_left; (focus (intro w' hI; subst hI; go_simp; try with_reducible rfl)); simp only [Act.put, List.setIfInBounds_toArray, List.set_cons_zero, List.set_cons_succ])
    refine mix_free (v := .agg (idc id).toArray) rfl (fun w' hI => by rw [hI]; exact exec_load_mid _ _ rfl _ _ rfl (idc id) _ HX.out Tryd.underlying31 rfl SX.out) ?_
    simp only [Act.put, List.setIfInBounds_toArray, List.set_cons_zero, List.set_cons_succ]
    refine mix_free (v := .tuple #[.pointer none, .bool false]) rfl (fun w' hI => by rw [hI]; exact exec_lookup _ _ _ rfl rfl rfl HL.out) ?_
    simp only [Act.put, List.setIfInBounds_toArray, List.set_cons_zero, List.set_cons_succ]
    repeat (refine mix_free (v := ?_) rfl ?_ ?_; rotate_left; (focus (intro w' hI; go_simp; try with_reducible rfl)); simp only [Act.put, List.setIfInBounds_toArray, List.set_cons_zero, List.set_cons_succ])
    refine mix_nil ?_
    go_wp2_with first
      | (with_reducible refine wpList_exec (exec_build _ _ rfl #[] (by kernel_rfl) (HB.out _)) (by first | rfl | go_simp) ?_)
      | (refine wpList_store_mid rfl _ _ _ rfl _ _ _ rfl rfl HI.out.1 (by rw [List.size_toArray]; exact HS.out) (all_oneCell_toArray (idc_one _)) ?_; rw [List.toList_toArray])
    refine bodyPost_ret (results_id rfl _ _ rfl rfl HI.out.2.2 hl) rfl ?_
    exact ⟨rfl, HT0.out.trans HI.out.2.1 (fun _ h => h.elim)⟩

end Go.Proofs.YtjnplcajajdkiaaDoor.lru

/- Package lru: what is used, and dropped. -/
namespace Go.Proofs.YtjnplcajajdkiaaDoor.lru
open Go.RowKit
open Go.Proofs.YtjnplcajajdkiaaDoor.stepkit Go.Proofs.YtjnplcajajdkiaaDoor.eqkit Go.Proofs.YtjnplcajajdkiaaDoor.idkit Go.Proofs.YtjnplcajajdkiaaDoor.obj Go.Proofs.YtjnplcajajdkiaaDoor.row Go.Proofs.YtjnplcajajdkiaaDoor.mapkit Go.Proofs.YtjnplcajajdkiaaDoor.mix

theorem MapIs.perm {w : World} {b : Nat} {M M' : List (List Int × Value)} (h : MapIs w b M) (p : M.Perm M') : MapIs w b M' := by
  obtain ⟨es, c, N, h1, h2, h3⟩ := h
  exact ⟨es, c, N, h1, h2, h3.trans p⟩
theorem build_node (id : List Int) (hl : id.length = 32) (w : World) : (Instr.build 94 #[(0, .agg (idc id).toArray)]).run Tryd.prog w = .ok (.agg (nodeC id (.pointer none) (.pointer none))) w := by
  refine run_build w _ _ _ ?_
  refine thirty_two (P := fun id => Tryd.prog.built 94 [(0, .agg (idc id).toArray)] = some (nodeC id (.pointer none) (.pointer none))) ?_ id hl
  intro b0 b1 b2 b3 b4 b5 b6 b7 b8 b9 b10 b11 b12 b13 b14 b15 b16 b17 b18 b19 b20 b21 b22 b23 b24 b25 b26 b27 b28 b29 b30 b31
  kernel_rfl
theorem link_nil (w : World) : (binOp .neq 92 (.agg #[.pointer none, .pointer none]) (.agg #[.pointer none, .pointer none])).run Tryd.prog w = .ok (.bool false) w := by kernel_rfl
theorem link_ne (a b : Nat) (w : World) : (binOp .neq 92 (.agg #[.pointer (some ⟨a, 0, none⟩), .pointer (some ⟨b, 0, none⟩)]) (.agg #[.pointer none, .pointer none])).run Tryd.prog w = .ok (.bool true) w := by kernel_rfl

/-- Used last. -/
def useL (x : List (List Int)) (id : List Int) : List (List Int) := (x.filter fun y => decide (y ≠ id)) ++ [id]
def dropL (x : List (List Int)) (id : List Int) : List (List Int) := x.filter fun y => decide (y ≠ id)

theorem filter_ids {ns : List (List Int × Nat)} (hnd : (ns.map (·.1)).Nodup) {j : Nat} (hj : j < ns.length) : dropL (ns.map (·.1)) (at' ns j).1 = (ns.eraseIdx j).map (·.1) := by
  have h1 : (ns.map fun x => (x.1, Value.pointer none))[j]? = some ((at' ns j).1, Value.pointer none) := by
    rw [List.getElem?_map, List.getElem?_eq_getElem hj]
    unfold at'
    rw [List.getD, List.getElem?_eq_getElem hj]
    rfl
  have h2 := erase_filter _ (by rw [List.map_map]; exact hnd) j h1
  have h3 := congrArg (List.map (·.1)) h2
  unfold dropL
  rw [List.filter_map]
  have e1 : ((ns.map fun x => (x.1, Value.pointer none)).eraseIdx j).map (·.1) = (ns.eraseIdx j).map (·.1) := by
    rw [List.eraseIdx_eq_take_drop_succ, List.eraseIdx_eq_take_drop_succ, List.map_append, List.map_append, List.map_take, List.map_drop, List.map_take, List.map_drop, List.map_map]
    rfl
  rw [e1] at h3
  rw [h3, List.filter_map, List.map_map]
  rfl
theorem mapOf_erase {ns : List (List Int × Nat)} (hnd : (ns.map (·.1)).Nodup) {j : Nat} (hj : j < ns.length) : (mapOf ns).filter (fun x => decide (x.1 ≠ (at' ns j).1)) = mapOf (ns.eraseIdx j) := by
  have h1 : (mapOf ns)[j]? = some ((at' ns j).1, ptr (at' ns j).2) := by
    unfold mapOf
    rw [List.getElem?_map, List.getElem?_eq_getElem hj]
    unfold at'
    rw [List.getD, List.getElem?_eq_getElem hj]
    rfl
  rw [← erase_filter _ (by unfold mapOf; rw [List.map_map]; exact hnd) j h1]
  unfold mapOf
  rw [List.eraseIdx_eq_take_drop_succ, List.eraseIdx_eq_take_drop_succ]
  simp [List.map_take, List.map_drop]
theorem not_in_erase {L : List (List Int × Nat)} {w : World} (h : Ring L w) {k : Nat} (hk : k < L.length) : ∀ x ∈ L.eraseIdx k, x.2 ≠ (at' L k).2 := by
  intro x hx e
  rw [List.mem_eraseIdx_iff_getElem] at hx
  obtain ⟨i, hi, hne, rfl⟩ := hx
  refine hne (h.ne hi hk ?_)
  rw [← e]
  unfold at'
  rw [List.getD, List.getElem?_eq_getElem hi]
  rfl
theorem moved_perm {ns : List (List Int × Nat)} {j : Nat} (hj : j < ns.length) : (ns.eraseIdx j ++ [at' ns j]).Perm ns := by
  have e : at' ns j = ns[j] := by unfold at'; rw [List.getD, List.getElem?_eq_getElem hj]; rfl
  rw [e]
  have h1 : ns = ns.take j ++ (ns[j] :: ns.drop (j + 1)) := by rw [List.getElem_cons_drop, List.take_append_drop]
  rw [List.eraseIdx_eq_take_drop_succ, List.append_assoc]
  refine List.Perm.trans ((List.perm_append_singleton _ _).append_left _) ?_
  rw [← h1]


set_option maxRecDepth 10000 in
set_option maxHeartbeats 400000 in
theorem drop_any (p : Nat) (ns : List (List Int × Nat)) (id : List Int) (hid : id.length = 32) (F : Nat → Prop) (w : World) (h : LruAt p ns F w) :
    Calls Tryd.prog 41 #[.pointer (some ⟨p, 0, none⟩), .agg (idc id).toArray] w fun e w' => e = .returned (.int .i64 (if id ∈ ns.map (·.1) then 0 else 7)) ∧ ∃ ns', ns'.map (·.1) = dropL (ns.map (·.1)) id ∧ Step F (LruAt p ns') w w' := by
  obtain ⟨w0, hw0⟩ : ∃ w0, w0 = w.alloc (.cells (idc id).toArray 31) := ⟨_, rfl⟩
  obtain ⟨W1, hW1⟩ : ∃ W1, W1 = w0.drew := ⟨_, rfl⟩
  have ht0 : Turns nobody w w0 := by rw [hw0]; exact (Turns.refl _ _).alloc _
  have ht01 : Turns nobody w0 W1 := by rw [hW1]; exact (Turns.refl _ _).drew
  have ht1 := ht0.trans ht01 (fun _ h => h.elim)
  have hb0 : w0.heap[w.heap.size]? = some (.cells (idc id).toArray 31 (0, 0)) := by rw [hw0]; exact heap_alloc_new w _
  have hx : W1.rangeAt w.heap.size 0 (idc id) := by have := range_block (heap_newer hb0 ht01 (fun h => h)); rwa [List.toList_toArray] at this
  have hbx := heap_newer hb0 ht01 (fun h => h)
  obtain ⟨r0, mb0, hp', _⟩ := (local_lru p ns).keep h ht0 (fun _ _ h => h)
  have hA := (local_lru p ns).keep h ht1 (fun _ _ h => h)
  obtain ⟨r, mb, hp, hr, hm, hnd, hF⟩ := hA
  have c0 := cells_of hp' 0 _ rfl
  have c1 : W1.cell? ⟨p, 1, none⟩ = some (.map (some mb)) := cells_of hp 1 _ rfl
  have hlk := run_lookM hm (keys_of hr hnd) id hid Tryd.underlying95 _ (zero_ptr W1)
  have hFlt := ((local_lru p ns) F w h).1
  have HW0 := Lib.hid hw0
  have HW1 := Lib.hid hW1
  have HX := Lib.hid hx
  have SX := Lib.hid (sizeId hid)
  by_cases hmem : id ∈ ns.map (·.1)
  · rw [if_pos hmem]
    obtain ⟨hj, hje⟩ := idx_lt hmem
    have hla := look_at hnd hj
    rw [hje] at hla
    rw [hla] at hlk
    have HL : Hid ((Instr.lookup 95 (.map (some mb)) (.agg (idc id).toArray) true).run Tryd.prog W1 = .ok (.tuple #[ptr (at' ns (idxOf ns id)).2, .bool true]) W1) := Lib.hid hlk
    have hcut := cut_any ((zid, r) :: ns) W1 hr (idxOf ns id + 1) (by omega) (by simp; omega)
    rw [at_cons] at hcut
    have hfi := filter_ids hnd hj
    have hme := mapOf_erase hnd hj
    rw [hje] at hfi hme
    have hap := LruAt.apart hp hr hm
    have hkeys := keys_of hr hnd
    generalize hjj : idxOf ns id = j at *
    have post : ∀ w2 w3, Ring (((zid, r) :: ns).eraseIdx (j + 1)) w2 → Turns (inRing ((zid, r) :: ns)) W1 w2 → MapIs w3 mb ((mapOf ns).filter fun x => decide (x.1 ≠ id)) → Turns (fun i => i = mb) w2 w3 → ∃ ns', ns'.map (·.1) = dropL (ns.map (·.1)) id ∧ Step F (LruAt p ns') w w3 := by
      intro w2 w3 h1 h2 h3 h4
      refine ⟨ns.eraseIdx j, hfi.symm, fun i => i = p ∨ i = mb ∨ inRing ((zid, r) :: ns.eraseIdx j) i, ⟨r, mb, ?_, ?_, ?_, ?_, rfl⟩, ?_, ?_⟩
      · exact heap_newer (heap_newer hp h2 hap.2.1) h4 hap.1
      · refine h1.keep h4 (fun x hx e => ?_)
        have : x ∈ (zid, r) :: ns := List.mem_of_mem_eraseIdx hx
        exact hap.2.2 ⟨x, this, e⟩
      · rw [← hme]; exact h3
      · exact (((List.eraseIdx_sublist ..).map _).nodup hnd)
      · have e : ∀ i, inRing ((zid, r) :: ns) i → F i := fun i hi => by rw [hF]; exact Or.inr (Or.inr hi)
        have em : F mb := by rw [hF]; exact Or.inr (Or.inl rfl)
        exact ((ht1.mono (fun _ h => h.elim)).trans h2 (fun i hi => Or.inl (e i hi))).trans h4 (fun i hi => Or.inl (hi ▸ em))
      · intro i hi
        refine Or.inl ?_
        rw [hF]
        rcases hi with hi | hi | ⟨x, hx, hi⟩
        · exact Or.inl hi
        · exact Or.inr (Or.inl hi)
        · refine Or.inr (Or.inr ⟨x, ?_, hi⟩)
          rcases List.mem_cons.1 hx with hx | hx
          · exact List.mem_cons.2 (Or.inl hx)
          · exact List.mem_cons.2 (Or.inr (List.mem_of_mem_eraseIdx hx))
    have HPOST := Lib.hid post
    have HBX := Lib.hid hbx
    have HM := Lib.hid hm
    have HK := Lib.hid hkeys
    have HP := Lib.hid hp
    have hxn : ¬ inRing ((zid, r) :: ns) w.heap.size := fun hi => by have := hFlt _ (by rw [hF]; exact Or.inr (Or.inr hi)); omega
    have HXN := Lib.hid hxn
    have HAP := Lib.hid hap
    have HYES : Hid ((lookM (mapOf ns) id).isSome = true) := Lib.hid (by rw [hla]; rfl)
    clear post hap hkeys hme hfi hla hlk hm hp hp' hr hbx hx hxn ht0 ht01 ht1 hb0 hw0 hW1 hF hFlt h hje hjj hnd
    generalize (at' ns j).2 = b at *
    unfold ptr at *
    go_enter Tryd.func41, Tryd.ntmps41
    go_wp2_with (go_at_call 55; rw [← HW0.out]; refine (none_no _ _ _ c0).mono ?_; rintro e w' ⟨rfl, rfl⟩)
    refine wp_region_mix [(0, true, true), (1, true, true), (2, true, true), (3, true, true), (4, true, true), (5, true, true), (6, true, true), (7, true, true), (8, true, true), (9, true, true), (10, true, true)] (fun W => W = W1) (by kernel_rfl) (by kernel_rfl) (HW1.out.symm) ?_
    rw [← HW1.out]
    simp only [picked, List.filterMap_cons, List.filterMap_nil, List.getElem?_toArray, List.getElem?_cons_zero, List.getElem?_cons_succ, Option.map_some]
    iterate 4 (refine mix_free (v := ?_) rfl ?_ ?_; rotate_left; (focus (intro w' hI; subst hI; go_simp; try with_reducible rfl)); simp only [Act.put, List.setIfInBounds_toArray, List.set_cons_zero, List.set_cons_succ])
    refine mix_free (v := .agg (idc id).toArray) rfl (fun w' hI => by rw [hI]; exact exec_load_mid _ _ rfl _ _ rfl (idc id) _ HX.out Tryd.underlying31 rfl SX.out) ?_
    simp only [Act.put, List.setIfInBounds_toArray, List.set_cons_zero, List.set_cons_succ]
    refine mix_free (v := .tuple #[.pointer (some ⟨b, 0, none⟩), .bool true]) rfl (fun w' hI => by rw [hI]; exact exec_lookup _ _ _ rfl rfl rfl HL.out) ?_
    simp only [Act.put, List.setIfInBounds_toArray, List.set_cons_zero, List.set_cons_succ]
    repeat (refine mix_free (v := ?_) rfl ?_ ?_; rotate_left; (focus (intro w' hI; go_simp; try with_reducible rfl)); simp only [Act.put, List.setIfInBounds_toArray, List.set_cons_zero, List.set_cons_succ])
    refine mix_nil ?_
    go_wp2_with (go_at_call 56; refine hcut.mono ?_; rintro e w2 ⟨rfl, hr2, _, ht2⟩)
    obtain ⟨W2, hW2⟩ : ∃ W2, W2 = w2.drew := ⟨_, rfl⟩
    have hd2 : Turns nobody w2 W2 := by rw [hW2]; exact (Turns.refl _ _).drew
    have hr2' := hr2.keep hd2 (fun _ _ h => h)
    have ht2' := ht2.trans hd2 (fun _ h => h.elim)
    have HR2 := Lib.hid hr2'
    have HT2 := Lib.hid ht2'
    have HX2 : Hid (W2.rangeAt w.heap.size 0 (idc id)) := by have := range_block (heap_newer HBX.out ht2' HXN.out); rw [List.toList_toArray] at this; exact Lib.hid this
    have HM2 := Lib.hid (HM.out.keep ht2' HAP.out.2.2)
    have d1 : W2.cell? ⟨p, 1, none⟩ = some (.map (some mb)) := cells_of (heap_newer HP.out ht2' HAP.out.2.1) 1 _ rfl
    have HW2 := Lib.hid hW2
    clear hW2 hd2 hr2' ht2' hr2 ht2 c0 c1
    refine wp_region_mix [(0, true, true), (1, true, true), (2, true, true), (3, true, true), (4, true, true), (5, false, false)] (fun W => W = W2) (by kernel_rfl) (by kernel_rfl) (HW2.out.symm) ?_
    rw [← HW2.out]
    simp only [picked, List.filterMap_cons, List.filterMap_nil, List.getElem?_toArray, List.getElem?_cons_zero, List.getElem?_cons_succ, Option.map_some]
    iterate 4 (refine mix_free (v := ?_) rfl ?_ ?_; rotate_left; (focus (intro w' hI; subst hI; go_simp; try with_reducible rfl)); simp only [Act.put, List.setIfInBounds_toArray, List.set_cons_zero, List.set_cons_succ])
    refine mix_free (v := .agg (idc id).toArray) rfl (fun w' hI => by rw [hI]; exact exec_load_mid _ _ rfl _ _ rfl (idc id) _ HX2.out Tryd.underlying31 rfl SX.out) ?_
    simp only [Act.put, List.setIfInBounds_toArray, List.set_cons_zero, List.set_cons_succ]
    refine mix_big rfl (fun K hK => ?_)
    refine wpList_delete rfl _ _ _ rfl Tryd.underlying95 id rfl rfl HM2.out HK.out hid HYES.out (fun w3 h3 h4 => ?_)
    have HE := Lib.hid (HPOST.out W2 w3 HR2.out HT2.out h3 h4)
    clear h3 h4
    go_wp2
    refine hK _ _ (fun h => by cases h) ?_
    clear hK K
    refine mix_nil ?_
    go_wp2
    go_ret
    exact ⟨rfl, HE.out⟩
  · rw [if_neg hmem]
    have hla := look_none hmem
    rw [hla] at hlk
    have HL : Hid ((Instr.lookup 95 (.map (some mb)) (.agg (idc id).toArray) true).run Tryd.prog W1 = .ok (.tuple #[.pointer none, .bool false]) W1) := Lib.hid hlk
    have HE : Hid (∃ ns', ns'.map (·.1) = dropL (ns.map (·.1)) id ∧ Step F (LruAt p ns') w W1) := Lib.hid ⟨ns, by
      unfold dropL
      rw [List.filter_eq_self.2]
      intro x hx
      simp only [ne_eq, decide_eq_true_eq]
      exact fun e => hmem (e ▸ hx), Step.same ⟨r, mb, hp, hr, hm, hnd, hF⟩ (ht1.mono (fun _ h => h.elim))⟩
    clear hla hlk hm hp hp' hr hbx hx ht0 ht01 ht1 hb0 hw0 hW1 hF hFlt h hnd hmem
    unfold ptr at *
    go_enter Tryd.func41, Tryd.ntmps41
    go_wp2_with (go_at_call 55; rw [← HW0.out]; refine (none_no _ _ _ c0).mono ?_; rintro e w' ⟨rfl, rfl⟩)
    refine wp_region_mix [(0, true, true), (1, true, true), (2, true, true), (3, true, true), (4, true, true), (5, true, true), (6, true, true), (7, true, true), (8, true, true), (9, true, true), (10, true, true)] (fun W => W = W1) (by kernel_rfl) (by kernel_rfl) (HW1.out.symm) ?_
    rw [← HW1.out]
    simp only [picked, List.filterMap_cons, List.filterMap_nil, List.getElem?_toArray, List.getElem?_cons_zero, List.getElem?_cons_succ, Option.map_some]
    iterate 4 (refine mix_free (v := ?_) rfl ?_ ?_; rotate_left; (focus (intro w' hI; subst hI; go_simp; try with_reducible rfl)); simp only [Act.put, List.setIfInBounds_toArray, List.set_cons_zero, List.set_cons_succ])
    refine mix_free (v := .agg (idc id).toArray) rfl (fun w' hI => by rw [hI]; exact exec_load_mid _ _ rfl _ _ rfl (idc id) _ HX.out Tryd.underlying31 rfl SX.out) ?_
    simp only [Act.put, List.setIfInBounds_toArray, List.set_cons_zero, List.set_cons_succ]
    refine mix_free (v := .tuple #[.pointer none, .bool false]) rfl (fun w' hI => by rw [hI]; exact exec_lookup _ _ _ rfl rfl rfl HL.out) ?_
    simp only [Act.put, List.setIfInBounds_toArray, List.set_cons_zero, List.set_cons_succ]
    repeat (refine mix_free (v := ?_) rfl ?_ ?_; rotate_left; (focus (intro w' hI; go_simp; try with_reducible rfl)); simp only [Act.put, List.setIfInBounds_toArray, List.set_cons_zero, List.set_cons_succ])
    refine mix_nil ?_
    go_wp2
    go_ret
    exact ⟨rfl, HE.out⟩

end Go.Proofs.YtjnplcajajdkiaaDoor.lru

/- Package lru: what is used. -/
namespace Go.Proofs.YtjnplcajajdkiaaDoor.lru
open Go.RowKit
open Go.Proofs.YtjnplcajajdkiaaDoor.stepkit Go.Proofs.YtjnplcajajdkiaaDoor.eqkit Go.Proofs.YtjnplcajajdkiaaDoor.idkit Go.Proofs.YtjnplcajajdkiaaDoor.obj Go.Proofs.YtjnplcajajdkiaaDoor.row Go.Proofs.YtjnplcajajdkiaaDoor.mapkit Go.Proofs.YtjnplcajajdkiaaDoor.mix


theorem ring_erase {r j : Nat} {ns : List (List Int × Nat)} : ((zid, r) :: ns).eraseIdx (j + 1) = (zid, r) :: ns.eraseIdx j := rfl
theorem in_mono {L M : List (List Int × Nat)} (h : ∀ x ∈ L, x ∈ M) {i : Nat} (hi : inRing L i) : inRing M i := by obtain ⟨x, hx, e⟩ := hi; exact ⟨x, h x hx, e⟩

set_option maxRecDepth 10000 in
set_option maxHeartbeats 400000 in
theorem use_old (p : Nat) (ns : List (List Int × Nat)) (id : List Int) (hid : id.length = 32) (F : Nat → Prop) (w : World) (h : LruAt p ns F w) (hmem : id ∈ ns.map (·.1)) :
    Calls Tryd.prog 36 #[.pointer (some ⟨p, 0, none⟩), .agg (idc id).toArray] w fun e w' => e = .returned (.int .i64 0) ∧ ∃ ns', ns'.map (·.1) = useL (ns.map (·.1)) id ∧ Step F (LruAt p ns') w w' := by
  obtain ⟨w0, hw0⟩ : ∃ w0, w0 = w.alloc (.cells (idc id).toArray 31) := ⟨_, rfl⟩
  obtain ⟨W1, hW1⟩ : ∃ W1, W1 = w0.drew := ⟨_, rfl⟩
  have ht0 : Turns nobody w w0 := by rw [hw0]; exact (Turns.refl _ _).alloc _
  have ht01 : Turns nobody w0 W1 := by rw [hW1]; exact (Turns.refl _ _).drew
  have ht1 := ht0.trans ht01 (fun _ h => h.elim)
  have hb0 : w0.heap[w.heap.size]? = some (.cells (idc id).toArray 31 (0, 0)) := by rw [hw0]; exact heap_alloc_new w _
  have hx : W1.rangeAt w.heap.size 0 (idc id) := by have := range_block (heap_newer hb0 ht01 (fun h => h)); rwa [List.toList_toArray] at this
  obtain ⟨r0, mb0, hp', _⟩ := (local_lru p ns).keep h ht0 (fun _ _ h => h)
  have hA := (local_lru p ns).keep h ht1 (fun _ _ h => h)
  obtain ⟨r, mb, hp, hr, hm, hnd, hF⟩ := hA
  have c0 := cells_of hp' 0 _ rfl
  have c1 : W1.cell? ⟨p, 1, none⟩ = some (.map (some mb)) := cells_of hp 1 _ rfl
  have hlk := run_lookM hm (keys_of hr hnd) id hid Tryd.underlying95 _ (zero_ptr W1)
  have HW0 := Lib.hid hw0
  have HW1 := Lib.hid hW1
  have HX := Lib.hid hx
  have SX := Lib.hid (sizeId hid)
  obtain ⟨hj, hje⟩ := idx_lt hmem
  have hla := look_at hnd hj
  rw [hje] at hla
  rw [hla] at hlk
  have HL : Hid ((Instr.lookup 95 (.map (some mb)) (.agg (idc id).toArray) true).run Tryd.prog W1 = .ok (.tuple #[ptr (at' ns (idxOf ns id)).2, .bool true]) W1) := Lib.hid hlk
  have hjL : idxOf ns id + 1 < ((zid, r) :: ns).length := by simp; omega
  have hcut := cut_any ((zid, r) :: ns) W1 hr (idxOf ns id + 1) (by omega) hjL
  have hnb := not_in_erase hr hjL
  have nk := hr.nd _ hjL
  rw [at_cons] at hcut hnb nk
  rw [hje] at hcut nk
  obtain ⟨_, k32, k33⟩ := nk.cells hid
  have hfi := filter_ids hnd hj
  rw [hje] at hfi
  have hap := LruAt.apart hp hr hm
  have hat : at' ns (idxOf ns id) = (id, (at' ns (idxOf ns id)).2) := Prod.ext hje rfl
  have hpm := moved_perm hj
  rw [hat] at hpm
  generalize idxOf ns id = j at *
  generalize hbb : (at' ns j).2 = b at *
  have hinb : inRing ((zid, r) :: ns) b := ⟨at' ns j, List.mem_cons_of_mem _ (at_mem hj), hbb⟩
  have post : ∀ w2, Ring ((zid, r) :: ns.eraseIdx j) w2 → Nd w2 b id (.pointer none) (.pointer none) → Turns (inRing ((zid, r) :: ns)) W1 w2 →
      Calls Tryd.prog 57 #[.pointer (some ⟨p, 0, none⟩), .pointer (some ⟨b, 0, none⟩)] w2 fun e w3 => e = .returned (.tuple #[]) ∧ ∃ ns', ns'.map (·.1) = useL (ns.map (·.1)) id ∧ Step F (LruAt p ns') w w3 := by
    intro w2 h1 hn2 h2
    refine (hang_any p r mb _ w2 h1 (by simp) rfl (heap_newer hp h2 hap.2.1) b id hn2 hid hnb).mono fun e w3 ⟨he, h3, h4⟩ => ⟨he, ns.eraseIdx j ++ [(id, b)], ?_, ?_⟩
    · rw [List.map_append, ← hfi]; rfl
    · have hsub : ∀ i, (i = b ∨ inRing ((zid, r) :: ns.eraseIdx j) i) → inRing ((zid, r) :: ns) i := by
        rintro i (rfl | hi)
        · exact hinb
        · exact in_mono (fun x hx => by rcases List.mem_cons.1 hx with hx | hx; exact List.mem_cons.2 (Or.inl hx); exact List.mem_cons.2 (Or.inr (List.mem_of_mem_eraseIdx hx))) hi
      have h24 : Turns (inRing ((zid, r) :: ns)) W1 w3 := h2.trans h4 (fun i hi => Or.inl (hsub i hi))
      have hsame : ∀ i, inRing ((zid, r) :: (ns.eraseIdx j ++ [(id, b)])) i → inRing ((zid, r) :: ns) i := fun i hi => in_mono (fun x hx => by rcases List.mem_cons.1 hx with hx | hx; exact List.mem_cons.2 (Or.inl hx); exact List.mem_cons.2 (Or.inr (hpm.mem_iff.1 hx))) hi
      refine ⟨fun i => i = p ∨ i = mb ∨ inRing ((zid, r) :: (ns.eraseIdx j ++ [(id, b)])) i, ⟨r, mb, heap_newer hp h24 hap.2.1, h3, ?_, ?_, rfl⟩, ?_, ?_⟩
      · exact MapIs.perm (hm.keep h24 hap.2.2) ((hpm.map _).symm)
      · exact ((hpm.map (·.1)).nodup_iff).2 hnd
      · exact (ht1.mono (fun _ h => h.elim)).trans h24 (fun i hi => Or.inl (by rw [hF]; exact Or.inr (Or.inr hi)))
      · intro i hi
        refine Or.inl ?_
        rw [hF]
        rcases hi with hi | hi | hi
        · exact Or.inl hi
        · exact Or.inr (Or.inl hi)
        · exact Or.inr (Or.inr (hsame i hi))
  have HPOST := Lib.hid post
  have hne := fun (a b : Nat) (w : World) => link_ne a b w
  clear post hap hfi hla hlk hm hp hp' hr hx ht0 ht01 ht1 hb0 hw0 hW1 hF h hje hnd hat hpm hinb hnb hjL hbb nk
  unfold ptr at *
  generalize (at' ((zid, r) :: ns) (pv ((zid, r) :: ns).length (j + 1))).2 = P at *
  generalize (at' ((zid, r) :: ns) (nx ((zid, r) :: ns).length (j + 1))).2 = N at *
  go_enter Tryd.func36, Tryd.ntmps36
  go_wp2_with (go_at_call 55; rw [← HW0.out]; refine (none_no _ _ _ c0).mono ?_; rintro e w' ⟨rfl, rfl⟩)
  refine wp_region_mix [(0, true, true), (1, true, true), (2, true, true), (3, true, true), (4, true, true), (5, true, true), (6, true, true), (7, true, true), (8, true, true), (9, true, true), (10, true, true)] (fun W => W = W1) (by kernel_rfl) (by kernel_rfl) (HW1.out.symm) ?_
  rw [← HW1.out]
  simp only [picked, List.filterMap_cons, List.filterMap_nil, List.getElem?_toArray, List.getElem?_cons_zero, List.getElem?_cons_succ, Option.map_some]
  iterate 4 (refine mix_free (v := ?_) rfl ?_ ?_; rotate_left; (focus (intro w' hI; subst hI; go_simp; try with_reducible rfl)); simp only [Act.put, List.setIfInBounds_toArray, List.set_cons_zero, List.set_cons_succ])
  refine mix_free (v := .agg (idc id).toArray) rfl (fun w' hI => by rw [hI]; exact exec_load_mid _ _ rfl _ _ rfl (idc id) _ HX.out Tryd.underlying31 rfl SX.out) ?_
  simp only [Act.put, List.setIfInBounds_toArray, List.set_cons_zero, List.set_cons_succ]
  refine mix_free (v := .tuple #[.pointer (some ⟨b, 0, none⟩), .bool true]) rfl (fun w' hI => by rw [hI]; exact exec_lookup _ _ _ rfl rfl rfl HL.out) ?_
  simp only [Act.put, List.setIfInBounds_toArray, List.set_cons_zero, List.set_cons_succ]
  repeat (refine mix_free (v := ?_) rfl ?_ ?_; rotate_left; (focus (intro w' hI; go_simp; try with_reducible rfl)); simp only [Act.put, List.setIfInBounds_toArray, List.set_cons_zero, List.set_cons_succ])
  refine mix_nil ?_
  go_wp2_with first
    | (go_at_call 56; refine hcut.mono ?_; rintro e w2 ⟨rfl, hr2, hn2, ht2⟩; have hh := HPOST.out w2 hr2 hn2 ht2; clear hr2 hn2 ht2)
    | (go_at_call 57; refine hh.mono ?_; rintro e w3 ⟨rfl, hE⟩; have HE := Lib.hid hE; clear hE)
  go_ret
  exact ⟨rfl, HE.out⟩

set_option maxRecDepth 10000 in
set_option maxHeartbeats 400000 in
theorem use_new (p : Nat) (ns : List (List Int × Nat)) (id : List Int) (hid : id.length = 32) (F : Nat → Prop) (w : World) (h : LruAt p ns F w) (hmem : id ∉ ns.map (·.1)) :
    Calls Tryd.prog 36 #[.pointer (some ⟨p, 0, none⟩), .agg (idc id).toArray] w fun e w' => e = .returned (.int .i64 0) ∧ ∃ ns', ns'.map (·.1) = useL (ns.map (·.1)) id ∧ Step F (LruAt p ns') w w' := by
  obtain ⟨w0, hw0⟩ : ∃ w0, w0 = w.alloc (.cells (idc id).toArray 31) := ⟨_, rfl⟩
  obtain ⟨W1, hW1⟩ : ∃ W1, W1 = w0.drew := ⟨_, rfl⟩
  have ht0 : Turns nobody w w0 := by rw [hw0]; exact (Turns.refl _ _).alloc _
  have ht01 : Turns nobody w0 W1 := by rw [hW1]; exact (Turns.refl _ _).drew
  have ht1 := ht0.trans ht01 (fun _ h => h.elim)
  have hb0 : w0.heap[w.heap.size]? = some (.cells (idc id).toArray 31 (0, 0)) := by rw [hw0]; exact heap_alloc_new w _
  have hbx := heap_newer hb0 ht01 (fun h => h)
  have hx : W1.rangeAt w.heap.size 0 (idc id) := by have := range_block hbx; rwa [List.toList_toArray] at this
  obtain ⟨r0, mb0, hp', _⟩ := (local_lru p ns).keep h ht0 (fun _ _ h => h)
  have hA := (local_lru p ns).keep h ht1 (fun _ _ h => h)
  have hlt := ((local_lru p ns) _ _ hA).1
  obtain ⟨r, mb, hp, hr, hm, hnd, hF⟩ := hA
  have c0 := cells_of hp' 0 _ rfl
  have c1 : W1.cell? ⟨p, 1, none⟩ = some (.map (some mb)) := cells_of hp 1 _ rfl
  have hkeys := keys_of hr hnd
  have hla := look_none hmem
  have hlk := run_lookM hm hkeys id hid Tryd.underlying95 _ (zero_ptr W1)
  rw [hla] at hlk
  have HW0 := Lib.hid hw0
  have HW1 := Lib.hid hW1
  have HX := Lib.hid hx
  have SX := Lib.hid (sizeId hid)
  have HL : Hid ((Instr.lookup 95 (.map (some mb)) (.agg (idc id).toArray) true).run Tryd.prog W1 = .ok (.tuple #[.pointer none, .bool false]) W1) := Lib.hid hlk
  have hap := LruAt.apart hp hr hm
  have hpl := lt_of_block hp
  have hml := hm.lt
  have hwl := lt_of_block hbx
  obtain ⟨W2, hW2⟩ : ∃ W2, W2 = W1.alloc (.cells (nodeC id (.pointer none) (.pointer none)) 94) := ⟨_, rfl⟩
  obtain ⟨W3, hW3⟩ : ∃ W3, W3 = W2.drew := ⟨_, rfl⟩
  have ht13 : Turns nobody W1 W3 := by rw [hW3, hW2]; exact ((Turns.refl _ _).alloc _).drew
  have hb3 : Nd W3 W1.heap.size id (.pointer none) (.pointer none) := by rw [hW3, hW2]; exact heap_alloc_new W1 _
  have hm3 := hm.keep ht13 (fun h => h)
  have hx3 : W3.rangeAt w.heap.size 0 (idc id) := by have := range_block (heap_newer hbx ht13 (fun h => h)); rwa [List.toList_toArray] at this
  have e1 : W3.cell? ⟨p, 1, none⟩ = some (.map (some mb)) := cells_of (heap_newer hp ht13 (fun h => h)) 1 _ rfl
  have hins : ∀ w4, MapIs w4 mb (mapOf ns ++ [(id, ptr W1.heap.size)]) → Turns (fun i => i = mb) W3 w4 → (w4.cell? ⟨W1.heap.size, 32, none⟩ = some (.pointer none) ∧ w4.cell? ⟨W1.heap.size, 33, none⟩ = some (.pointer none)) ∧
      Calls Tryd.prog 57 #[.pointer (some ⟨p, 0, none⟩), .pointer (some ⟨W1.heap.size, 0, none⟩)] w4 fun e w5 => e = .returned (.tuple #[]) ∧ ∃ ns', ns'.map (·.1) = useL (ns.map (·.1)) id ∧ Step F (LruAt p ns') w w5 := by
    intro w4 h4 t4
    have n4 : Nd w4 W1.heap.size id (.pointer none) (.pointer none) := hb3.keep t4 (by omega)
    refine ⟨(n4.cells hid).2, ?_⟩
    have r4 : Ring ((zid, r) :: ns) w4 := (hr.keep ht13 (fun _ _ h => h)).keep t4 (fun x hx e => hap.2.2 ⟨x, hx, e⟩)
    have hp4 := heap_newer (heap_newer hp ht13 (fun h => h)) t4 hap.1
    have hnb : ∀ x ∈ (zid, r) :: ns, x.2 ≠ W1.heap.size := fun x hx e => by have := ring_lt hr ⟨x, hx, e⟩; omega
    have hpn : ¬ inRing ((zid, r) :: ns) p := hap.2.1
    refine (hang_any p r mb _ w4 r4 (by simp) rfl hp4 _ id n4 hid hnb).mono fun e w5 ⟨he, h5, t5⟩ => ⟨he, ns ++ [(id, W1.heap.size)], ?_, ?_⟩
    · rw [List.map_append]
      unfold useL
      rw [List.filter_eq_self.2 (fun y hy => by simp only [ne_eq, decide_eq_true_eq]; exact fun e => hmem (e ▸ hy))]
      rfl
    · refine ⟨fun i => i = p ∨ i = mb ∨ inRing ((zid, r) :: (ns ++ [(id, W1.heap.size)])) i, ⟨r, mb, ?_, h5, ?_, ?_, rfl⟩, ?_, ?_⟩
      · exact heap_newer hp4 t5 (fun hh => by rcases hh with hh | hh; omega; exact hpn hh)
      · have := h4.keep t5 (fun hh => by rcases hh with hh | hh; omega; exact hap.2.2 hh)
        unfold mapOf at this ⊢
        rw [List.map_append]
        exact this
      · rw [List.map_append, List.nodup_append]
        refine ⟨hnd, by simp, fun a ha c hc => ?_⟩
        simp only [List.map_cons, List.map_nil, List.mem_singleton] at hc
        rw [hc]
        exact fun e => hmem (e ▸ ha)
      · have hw1 := ht1.size
        exact (((ht1.mono (G := F) (fun _ h => h.elim)).trans (ht13.mono (G := F) (fun _ h => h.elim)) (fun _ h => Or.inl h)).trans t4 (fun i hi => Or.inl (by rw [hF]; exact Or.inr (Or.inl hi)))).trans t5 (fun i hi => by
          rcases hi with hi | hi
          · exact Or.inr (by omega)
          · exact Or.inl (by rw [hF]; exact Or.inr (Or.inr hi)))
      · intro i hi
        have hw1 := ht1.size
        rcases hi with hi | hi | ⟨x, hx, hi⟩
        · exact Or.inl (by rw [hF]; exact Or.inl hi)
        · exact Or.inl (by rw [hF]; exact Or.inr (Or.inl hi))
        · rw [← List.cons_append] at hx
          rcases List.mem_append.1 hx with hx | hx
          · exact Or.inl (by rw [hF]; exact Or.inr (Or.inr ⟨x, hx, hi⟩))
          · rw [List.mem_singleton.1 hx] at hi
            exact Or.inr (by simp only at hi; omega)
  have HINS := Lib.hid hins
  have HW2 := Lib.hid hW2
  have HW3 := Lib.hid hW3
  have HX3 := Lib.hid hx3
  have HM3 := Lib.hid hm3
  have HK := Lib.hid hkeys
  have HLA := Lib.hid hla
  have HBN := Lib.hid (build_node id hid)
  have hlk0 := link_nil
  clear hins hap hla hlk hm hp hp' hr hx hbx ht0 ht01 ht1 hb0 hw0 hW1 hF h hnd hkeys hpl hml hwl hW2 hW3 ht13 hb3 hm3 hx3 hlt hmem
  unfold ptr at *
  go_enter Tryd.func36, Tryd.ntmps36
  go_wp2_with (go_at_call 55; rw [← HW0.out]; refine (none_no _ _ _ c0).mono ?_; rintro e w' ⟨rfl, rfl⟩)
  refine wp_region_mix [(0, true, true), (1, true, true), (2, true, true), (3, true, true), (4, true, true), (5, true, true), (6, true, true), (7, true, true), (8, true, true), (9, true, true), (10, true, true)] (fun W => W = W1) (by kernel_rfl) (by kernel_rfl) (HW1.out.symm) ?_
  rw [← HW1.out]
  simp only [picked, List.filterMap_cons, List.filterMap_nil, List.getElem?_toArray, List.getElem?_cons_zero, List.getElem?_cons_succ, Option.map_some]
  iterate 4 (refine mix_free (v := ?_) rfl ?_ ?_; rotate_left; (focus (intro w' hI; subst hI; go_simp; try with_reducible rfl)); simp only [Act.put, List.setIfInBounds_toArray, List.set_cons_zero, List.set_cons_succ])
  refine mix_free (v := .agg (idc id).toArray) rfl (fun w' hI => by rw [hI]; exact exec_load_mid _ _ rfl _ _ rfl (idc id) _ HX.out Tryd.underlying31 rfl SX.out) ?_
  simp only [Act.put, List.setIfInBounds_toArray, List.set_cons_zero, List.set_cons_succ]
  refine mix_free (v := .tuple #[.pointer none, .bool false]) rfl (fun w' hI => by rw [hI]; exact exec_lookup _ _ _ rfl rfl rfl HL.out) ?_
  simp only [Act.put, List.setIfInBounds_toArray, List.set_cons_zero, List.set_cons_succ]
  repeat (refine mix_free (v := ?_) rfl ?_ ?_; rotate_left; (focus (intro w' hI; go_simp; try with_reducible rfl)); simp only [Act.put, List.setIfInBounds_toArray, List.set_cons_zero, List.set_cons_succ])
  refine mix_nil ?_
  go_wp2_with first
    | (with_reducible refine wpList_load_mid rfl _ _ rfl _ _ rfl _ _ HX.out Tryd.underlying31 rfl SX.out ?_)
    | (with_reducible refine wpList_exec (exec_build _ _ rfl #[(0, .agg (idc id).toArray)] (by kernel_rfl) (HBN.out _)) (by first | rfl | go_simp) ?_)
  rw [← HW2.out]
  refine wp_region_mix [(0, true, true), (1, true, true), (2, true, true), (3, true, true), (4, true, true), (5, true, true), (6, false, false)] (fun W => W = W3) (by kernel_rfl) (by kernel_rfl) (HW3.out.symm) ?_
  rw [← HW3.out]
  simp only [picked, List.filterMap_cons, List.filterMap_nil, List.getElem?_toArray, List.getElem?_cons_zero, List.getElem?_cons_succ, Option.map_some]
  iterate 4 (refine mix_free (v := ?_) rfl ?_ ?_; rotate_left; (focus (intro w' hI; subst hI; go_simp; try with_reducible rfl)); simp only [Act.put, List.setIfInBounds_toArray, List.set_cons_zero, List.set_cons_succ])
  refine mix_free (v := .agg (idc id).toArray) rfl (fun w' hI => by rw [hI]; exact exec_load_mid _ _ rfl _ _ rfl (idc id) _ HX3.out Tryd.underlying31 rfl SX.out) ?_
  simp only [Act.put, List.setIfInBounds_toArray, List.set_cons_zero, List.set_cons_succ]
  iterate 1 (refine mix_free (v := ?_) rfl ?_ ?_; rotate_left; (focus (intro w' hI; subst hI; go_simp; try with_reducible rfl)); simp only [Act.put, List.setIfInBounds_toArray, List.set_cons_zero, List.set_cons_succ])
  refine mix_big rfl (fun K hK => ?_)
  refine wpList_insert rfl _ _ _ rfl Tryd.underlying95 id _ rfl rfl rfl HM3.out HK.out hid HLA.out (fun w4 h4 t4 => ?_)
  obtain ⟨⟨g32, g33⟩, hh⟩ := HINS.out w4 h4 t4
  clear h4 t4
  go_wp2
  refine hK _ _ (fun h => by cases h) ?_
  clear hK K
  refine mix_nil ?_
  clear c0 c1 e1
  go_wp2_with (go_at_call 57; refine hh.mono ?_; rintro e w5 ⟨rfl, hE⟩; have HE := Lib.hid hE; clear hE)
  go_ret
  exact ⟨rfl, HE.out⟩

theorem use_any (p : Nat) (ns : List (List Int × Nat)) (id : List Int) (hid : id.length = 32) (F : Nat → Prop) (w : World) (h : LruAt p ns F w) :
    Calls Tryd.prog 36 #[.pointer (some ⟨p, 0, none⟩), .agg (idc id).toArray] w fun e w' => e = .returned (.int .i64 0) ∧ ∃ ns', ns'.map (·.1) = useL (ns.map (·.1)) id ∧ Step F (LruAt p ns') w w' := by
  by_cases hm : id ∈ ns.map (·.1)
  · exact use_old p ns id hid F w h hm
  · exact use_new p ns id hid F w h hm

end Go.Proofs.YtjnplcajajdkiaaDoor.lru

/- Package lru: all, one behind the other; a new one. -/
namespace Go.Proofs.YtjnplcajajdkiaaDoor.lru
open Go.RowKit
open Go.Proofs.YtjnplcajajdkiaaDoor.stepkit Go.Proofs.YtjnplcajajdkiaaDoor.eqkit Go.Proofs.YtjnplcajajdkiaaDoor.idkit Go.Proofs.YtjnplcajajdkiaaDoor.obj Go.Proofs.YtjnplcajajdkiaaDoor.row Go.Proofs.YtjnplcajajdkiaaDoor.mapkit Go.Proofs.YtjnplcajajdkiaaDoor.mix

def icells (l : List (List Int)) : List Value := (l.map idc).flatten
def Wh (l : List (List Int)) : Prop := ∀ x ∈ l, x.length = 32
theorem ic_all {l : List (List Int)} (h : Wh l) : ∀ r ∈ l.map idc, r.length = 32 := by
  intro r hr
  obtain ⟨x, hx, rfl⟩ := List.mem_map.1 hr
  rw [idc_len]; exact h x hx
theorem icells_len {l : List (List Int)} (h : Wh l) : (icells l).length = l.length * 32 := by unfold icells; rw [length_flat (ic_all h), List.length_map]
theorem icells_one (l : List (List Int)) : ∀ u ∈ icells l, u.oneCell' = true := by
  intro u hu
  unfold icells at hu
  obtain ⟨r, hr, hu⟩ := List.mem_flatten.1 hu
  obtain ⟨x, _, rfl⟩ := List.mem_map.1 hr
  exact idc_one _ u hu
theorem icells_append (l m : List (List Int)) : icells (l ++ m) = icells l ++ icells m := by simp [icells]
theorem icells_take {l : List (List Int)} (h : Wh l) (k : Nat) : (icells l).take (k * 32) = icells (l.take k) := by unfold icells; rw [take_flat (ic_all h), List.map_take]
theorem icells_drop {l : List (List Int)} (h : Wh l) (k : Nat) : (icells l).drop (k * 32) = icells (l.drop k) := by unfold icells; rw [drop_flat (ic_all h), List.map_drop]

/-- A slice of ids. -/
def ISl (w : World) (v : Value) (l : List (List Int)) : Prop := Sl w 31 32 v l.length (icells l)
theorem ISl.range {w : World} {g o cap : Nat} {sp : Option Nat} {l : List (List Int)} (hw : Wh l) (h : ISl w (.slice (some ⟨g, o, sp⟩) l.length cap) l) (i : Nat) (hi : i < l.length) : w.rangeAt g (o + i * 32) (idc (l.getD i [])) := by
  intro j v hj
  have hm : l.getD i [] ∈ l := by rw [List.getD, List.getElem?_eq_getElem hi]; exact List.getElem_mem _
  have hjl : j < 32 := by have := (List.getElem?_eq_some_iff.1 hj).1; rw [idc_len, hw _ hm] at this; exact this
  have hc := Sl.cell h (i * 32 + j) (by rw [icells_len hw]; omega)
  unfold icells at hc
  rw [getD_flat (ic_all hw) i j (by simpa using hi) hjl] at hc
  have hg : (l.map idc).getD i [] = idc (l.getD i []) := by simp [List.getD, hi]
  rw [hg, ← Nat.add_assoc] at hc
  rw [hc, List.getD, hj]
  rfl
theorem infoIds : (Tryd.prog.info? 31).map (fun i => (i.zero, i.size, i.bytes)) = some (some (.agg (idc zid).toArray), 32, 32) := by kernel_rfl
theorem infoIds_parts : ∃ i0, Tryd.prog.info? 31 = some i0 ∧ i0.zero = some (.agg (idc zid).toArray) ∧ i0.size = 32 ∧ i0.bytes = 32 := by
  have h := infoIds
  obtain ⟨i, hi, hb⟩ := Option.map_eq_some_iff.1 h
  simp only [Prod.mk.injEq] at hb
  exact ⟨i, hi, hb.1, hb.2.1, hb.2.2⟩
theorem slice_id (id : List Int) (hl : id.length = 32) : ∀ w, (Instr.buildSlice 36 1 #[(0, .agg (idc id).toArray)]).run Tryd.prog w = .ok (.slice (some ⟨w.heap.size, 0, none⟩) 1 1) (w.alloc (.cells (idc id).toArray 31)) := by
  intro w
  refine thirty_two (P := fun id => (Instr.buildSlice 36 1 #[(0, .agg (idc id).toArray)]).run Tryd.prog w = .ok (.slice (some ⟨w.heap.size, 0, none⟩) 1 1) (w.alloc (.cells (idc id).toArray 31))) ?_ id hl
  intro b0 b1 b2 b3 b4 b5 b6 b7 b8 b9 b10 b11 b12 b13 b14 b15 b16 b17 b18 b19 b20 b21 b22 b23 b24 b25 b26 b27 b28 b29 b30 b31
  kernel_rfl
theorem src_one {w : World} {b : Nat} {id : List Int} (h : w.heap[b]? = some (.cells (idc id).toArray 31 (0, 0))) (hl : id.length = 32) : Go.Proofs.YtjnplcajajdkiaaDoor.obj.Src w 32 (.slice (some ⟨b, 0, none⟩) 1 1) 1 (icells [id]) := by
  have hw : Wh [id] := fun x hx => by rw [List.mem_singleton.1 hx]; exact hl
  have e : icells [id] = idc id := by simp [icells]
  refine Src.of_row (by rw [icells_len hw]; rfl) (icells_one [id]) (fun j u hj => ?_)
  rw [e] at hj
  have hr := range_block h
  rw [List.toList_toArray] at hr
  have := hr j u hj
  rw [Addr.add_lit]
  exact this

theorem build_root (w : World) : (Instr.build 94 #[]).run Tryd.prog w = .ok (.agg (nodeC zid (.pointer none) (.pointer none))) w := by kernel_rfl

set_option maxRecDepth 10000 in
theorem new_any (w : World) : Calls Tryd.prog 28 #[] w fun e w' => e = .returned (.pointer (some ⟨w.heap.size + 2, 0, none⟩)) ∧ ∃ F, LruAt (w.heap.size + 2) [] F w' ∧ Turns nobody w w' ∧ ∀ i, F i → w.heap.size ≤ i := by
  obtain ⟨W1, hW1⟩ : ∃ W1, W1 = w.alloc (.cells (nodeC zid (.pointer none) (.pointer none)) 94) := ⟨_, rfl⟩
  have n1 : Nd W1 w.heap.size zid (.pointer none) (.pointer none) := by rw [hW1]; exact heap_alloc_new w _
  have n2 := n1.prev zid_len (ptr w.heap.size)
  have n3 := n2.next zid_len (ptr w.heap.size)
  obtain ⟨W3, hW3⟩ : ∃ W3, W3 = (W1.setCell ⟨w.heap.size, 32, none⟩ (ptr w.heap.size)).setCell ⟨w.heap.size, 33, none⟩ (ptr w.heap.size) := ⟨_, rfl⟩
  rw [← hW3] at n3
  obtain ⟨_, e1, _⟩ := n1.cells zid_len
  obtain ⟨_, _, e2⟩ := n2.cells zid_len
  have f1 := n1.free 32
  have f2 := n2.free 33
  have ht1 : Turns nobody w W1 := by rw [hW1]; exact (Turns.refl _ _).alloc _
  have ht3 : Turns nobody w W3 := by rw [hW3]; exact (ht1.setCell _ _ _ (Or.inr (Nat.le_refl _))).setCell _ _ _ (Or.inr (Nat.le_refl _))
  have hz1 : W1.heap.size = w.heap.size + 1 := by rw [hW1]; simp
  have hz3 : W3.heap.size = w.heap.size + 1 := by rw [hW3]; simp [hz1]
  obtain ⟨W5, hW5⟩ : ∃ W5, W5 = (W3.alloc (.map #[] 0)).alloc (.cells #[ptr w.heap.size, .map (some (w.heap.size + 1))] 97) := ⟨_, rfl⟩
  have ht35 : Turns nobody W3 W5 := by rw [hW5]; exact ((Turns.refl _ _).alloc _).alloc _
  have fin : ∃ F, LruAt (w.heap.size + 2) [] F W5 ∧ Turns nobody w W5 ∧ ∀ i, F i → w.heap.size ≤ i := by
    have h5 : W5.heap[w.heap.size + 2]? = some (.cells #[ptr w.heap.size, .map (some (w.heap.size + 1))] 97 (0, 0)) := by
      have := heap_alloc_new (W3.alloc (.map #[] 0)) (.cells #[ptr w.heap.size, .map (some (w.heap.size + 1))] 97)
      rw [World.size_alloc, hz3] at this
      rw [hW5]; exact this
    have h4 : W5.heap[w.heap.size + 1]? = some (.map #[] 0) := by
      rw [hW5, heap_alloc_old _ _ (by simp [hz3])]
      have := heap_alloc_new W3 (.map #[] 0)
      rwa [hz3] at this
    have n5 := n3.keep ht35 (fun h => h)
    refine ⟨_, ⟨w.heap.size, w.heap.size + 1, h5, ⟨fun i hi => ?_, by simp, fun x hx => ?_⟩, ⟨#[], 0, [], h4, rfl, List.Perm.refl _⟩, List.nodup_nil, rfl⟩, ht3.trans ht35 (fun _ h => h.elim), ?_⟩
    · have : i = 0 := by simpa using hi
      subst this
      exact n5
    · rw [List.mem_singleton.1 hx]; exact zid_len
    · rintro i (rfl | rfl | ⟨x, hx, rfl⟩)
      · omega
      · omega
      · rw [List.mem_singleton.1 hx]; exact Nat.le_refl _
  have HB := Lib.hid build_root
  have HW1 := Lib.hid hW1
  have HW3 := Lib.hid hW3
  have HW5 := Lib.hid hW5
  have HF := Lib.hid fin
  have hmm := @run_makeMap Tryd.prog
  clear n1 n2 n3 hW1 hW3 hW5 fin ht1 ht3 ht35 hz1
  generalize zid = z0 at *
  unfold ptr at *
  go_enter Tryd.func28, Tryd.ntmps28
  go_upto_region 2 with (with_reducible refine wpList_exec (exec_build _ _ rfl #[] (by kernel_rfl) (HB.out _)) (by first | rfl | go_simp) ?_)
  rw [← HW1.out]
  go_upto_region 3 with fail
  rw [← HW3.out]
  go_wp2
  rw [← HW5.out]
  go_ret
  exact ⟨rfl, HF.out⟩

def lenV : Value → Nat
  | .slice _ n _ => n
  | _ => 0
/-- Where one is in the ring. -/
def posB (r : Nat) (ns : List (List Int × Nat)) (i : Nat) : Nat := if i < ns.length then (at' ns i).2 else r

set_option maxRecDepth 10000 in
set_option maxHeartbeats 1000000 in
theorem all_any (p : Nat) (ns : List (List Int × Nat)) (F : Nat → Prop) (w : World) (h : LruAt p ns F w) (hn : ns.length ≤ 1024) :
    Calls Tryd.prog 38 #[.pointer (some ⟨p, 0, none⟩)] w fun e w' => ∃ v, e = .returned v ∧ ISl w' v (ns.map (·.1)) ∧ (∀ j, blk v j → w.heap.size ≤ j) ∧ Turns nobody w w' := by
  obtain ⟨i0, hi, hz0, hz1, hz2⟩ := infoIds_parts
  obtain ⟨r, mb, hp, hr, hm, hnd, _⟩ := h
  have c0 := cells_of hp 0 _ rfl
  have hwh : Wh (ns.map (·.1)) := fun x hx => by
    obtain ⟨y, hy, rfl⟩ := List.mem_map.1 hx
    exact hr.wh y (List.mem_cons_of_mem _ hy)
  -- facts of a place in the ring, in whatever world behind it
  have HA : ∀ W, Turns nobody w W → W.cell? ⟨p, 0, none⟩ = some (.pointer (some ⟨r, 0, none⟩)) := fun W ht => cells_of (heap_newer hp ht (fun h => h)) 0 _ rfl
  have HR0 : ∀ W, Turns nobody w W → W.cell? ⟨r, 33, none⟩ = some (.pointer (some ⟨posB r ns 0, 0, none⟩)) := fun W ht => by
    have h0 := (hr.nd 0 (by simp)).keep ht (fun h => h)
    have := (h0.cells (hr.len (i := 0) (by simp))).2.2
    rw [List.length_cons, nx_zero] at this
    unfold posB
    by_cases hz : ns.length = 0
    · rw [if_pos hz] at this; rw [if_neg (by omega)]; exact this
    · rw [if_neg hz] at this; rw [if_pos (by omega)]; exact this
  have HN : ∀ i, i < ns.length → ∀ W, Turns nobody w W → W.rangeAt (at' ns i).2 0 (idc (at' ns i).1) ∧ W.cell? ⟨(at' ns i).2, 33, none⟩ = some (.pointer (some ⟨posB r ns (i + 1), 0, none⟩)) := fun i hi W ht => by
    have h0 := (hr.nd (i + 1) (by simp; omega)).keep ht (fun h => h)
    have hc := h0.cells (hr.len (i := i + 1) (by simp; omega))
    rw [at_cons] at hc
    refine ⟨hc.1, ?_⟩
    have h2 := hc.2.2
    have en : nx ((zid, r) :: ns).length (i + 1) = if i + 1 = ns.length then 0 else i + 2 := by
      rw [List.length_cons]; unfold nx; (repeat' split) <;> omega
    rw [en] at h2
    unfold posB
    by_cases hz : i + 1 = ns.length
    · rw [if_pos hz] at h2; rw [if_neg (by omega)]; exact h2
    · rw [if_neg hz] at h2; rw [if_pos (by omega)]; exact h2
  have HE : ∀ i, i ≤ ns.length → ∀ W, Turns nobody w W → (binOp .neq 90 (.pointer (some ⟨posB r ns i, 0, none⟩)) (.pointer (some ⟨r, 0, none⟩))).run Tryd.prog W = .ok (.bool (decide (i < ns.length))) W := fun i hi W ht => by
    have h0 := (hr.nd 0 (by simp)).keep ht (fun h => h)
    unfold posB
    by_cases hz : i < ns.length
    · rw [if_pos hz]
      have h1 := (hr.nd (i + 1) (by simp; omega)).keep ht (fun h => h)
      have := (eq_node h1 h0).1
      have hne : ¬ (at' ((zid, r) :: ns) (i + 1)).2 = (at' ((zid, r) :: ns) 0).2 := fun e => by have := hr.ne (by simp; omega) (by simp) e; omega
      rw [decide_eq_false hne] at this
      rw [decide_eq_true hz]
      exact this
    · rw [if_neg hz]
      have := (eq_node h0 h0).1
      rw [decide_eq_true rfl] at this
      rw [decide_eq_false hz]
      exact this
  have HL : ∀ i, i < ns.length → (at' ns i).1.length = 32 := fun i hi => hr.wh _ (List.mem_cons_of_mem _ (at_mem hi))
  have HHA := Lib.hid HA
  have HHR0 := Lib.hid HR0
  have HHN := Lib.hid HN
  have HHE := Lib.hid HE
  have HBS := Lib.hid slice_id
  have a0 := HA w (Turns.refl _ _)
  have a1 := HR0 w (Turns.refl _ _)
  clear HA HR0 HN HE hp hr hm
  unfold ptr at *
  go_enter Tryd.func38, Tryd.ntmps38
  go_wp2_with (go_at_call 55; refine (none_no _ _ _ c0).mono ?_; rintro e w' ⟨rfl, rfl⟩)
  clear a0 a1 c0
  go_loopw [4, 3] (fun n v wr => ∃ i : Nat, i ≤ ns.length ∧ n = .pointer (some ⟨posB r ns i, 0, none⟩) ∧ Sl wr 31 32 v i (icells ((ns.map (·.1)).take i)) ∧ (∀ j, blk v j → w.heap.size ≤ j) ∧ Turns nobody w wr) (fun _ v _ => ns.length - lenV v)
  case atStart => exact ⟨0, Nat.zero_le _, rfl, by rw [List.take_zero]; exact Sl.nil _ _ _, (fun _ h => by cases h), Turns.refl _ _⟩
  case round =>
    obtain ⟨i, hin, rfl, hs, hf, ht⟩ := hrel
    have a0 := HHA.out _ ht
    have he := HHE.out i hin _ ht
    obtain ⟨ao, cap, rfl, hic, hcm, _⟩ := hs.shape
    by_cases hlt : i < ns.length
    · rw [decide_eq_true hlt] at he
      obtain ⟨b1, b2⟩ := HHN.out i hlt _ ht
      have hil := HL i hlt
      have SX := Lib.hid (sizeId hil)
      have HX := Lib.hid b1
      obtain ⟨W1, hW1⟩ : ∃ W1, W1 = wr.alloc (.cells (idc (at' ns i).1).toArray 31) := ⟨_, rfl⟩
      have ht1 : Turns nobody wr W1 := by rw [hW1]; exact (Turns.refl _ _).alloc _
      have HQ := Lib.hid (src_one (id := (at' ns i).1) (by rw [hW1]; exact heap_alloc_new wr _ : W1.heap[wr.heap.size]? = _) hil)
      have HS1 := Lib.hid (hs.keep ht1 (fun _ _ h => h))
      have HW1 := Lib.hid hW1
      have HT1 := Lib.hid (ht.trans ht1 (fun _ h => h.elim))
      have HF := Lib.hid hf
      have e1 : (ns.map (·.1)).take (i + 1) = (ns.map (·.1)).take i ++ [(at' ns i).1] := by
        rw [List.take_add_one, List.getElem?_map, List.getElem?_eq_getElem hlt]
        unfold at'
        rw [List.getD, List.getElem?_eq_getElem hlt]
        rfl
      have HE1 := Lib.hid e1
      have hbw := lt_of_cell' ((HHN.out i hlt w (Turns.refl _ _)).2)
      simp only at hbw
      have epos : posB r ns i = (at' ns i).2 := by unfold posB; rw [if_pos hlt]
      rw [epos] at he ⊢
      clear b1 hs hf ht hW1 ht1 e1 epos
      generalize (at' ns i).1 = idi at *
      generalize (at' ns i).2 = bi at *
      have hbi : W1.cell? ⟨bi, 33, none⟩ = some (.pointer (some ⟨posB r ns (i + 1), 0, none⟩)) := by
        rw [HW1.out, World.cell?_of_block (heap_alloc_old _ _ (lt_of_cell' b2))]
        exact b2
      go_wp2_with first
        | (with_reducible refine wpList_load_mid rfl _ _ rfl _ _ rfl _ _ HX.out Tryd.underlying31 rfl SX.out ?_)
        | (with_reducible refine wpList_build_run rfl _ _ _ rfl #[(0, .agg (idc idi).toArray)] (by kernel_rfl) (HBS.out _ hil _) ?_)
        | (at_builtin; rw [← HW1.out]; refine wpList_append_sl rfl _ _ 36 rfl Tryd.underlying36 hi hz0 hz1 hz2 (by rw [Value.cells]; simp [idc_len, zid_len]) (by decide) rfl rfl HS1.out HQ.out (by unfold maxLen; omega) (by omega) ?_; intro v5 w5 h5 t5 n5 _; have hc5 : w5.cell? ⟨bi, 33, none⟩ = some (.pointer (some ⟨posB r ns (i + 1), 0, none⟩)) := (t5.cell (p := ⟨bi, 33, none⟩) (lt_of_cell' hbi) (fun hb => by have := HF.out _ hb; simp only at this; omega)).trans hbi)
      have ht5 : Turns (blk (.slice ao i cap)) W1 w5 := t5
      refine ⟨⟨i + 1, by omega, rfl, by rw [HE1.out, icells_append]; exact h5, fun j hj => ?_, HT1.out.trans ht5 (fun j hj => Or.inr (HF.out j hj))⟩, ?_⟩
      · rcases n5 j hj with h | h
        · exact HF.out j h
        · exact Nat.le_trans HT1.out.size h
      · obtain ⟨ao5, cap5, rfl, _⟩ := h5.shape
        show ns.length - (i + 1) < ns.length - i
        omega
    · obtain rfl : i = ns.length := by omega
      rw [decide_eq_false hlt] at he
      rw [List.take_of_length_le (by simp)] at hs
      have HS := Lib.hid hs
      clear hs
      go_wp2
      go_ret
      refine ⟨_, rfl, ?_, hf, ht⟩
      unfold ISl
      rw [List.length_map]
      exact HS.out

end Go.Proofs.YtjnplcajajdkiaaDoor.lru

/- Package lru: the object by its ids alone. -/
namespace Go.Proofs.YtjnplcajajdkiaaDoor.lru
open Go.RowKit
open Go.Proofs.YtjnplcajajdkiaaDoor.stepkit Go.Proofs.YtjnplcajajdkiaaDoor.eqkit Go.Proofs.YtjnplcajajdkiaaDoor.idkit Go.Proofs.YtjnplcajajdkiaaDoor.obj Go.Proofs.YtjnplcajajdkiaaDoor.row Go.Proofs.YtjnplcajajdkiaaDoor.mapkit Go.Proofs.YtjnplcajajdkiaaDoor.mix

/-- The object, made since w0: the ids in their order. -/
def Live (w0 : World) (p : Nat) (x : List (List Int)) (w : World) : Prop := ∃ ns F, ns.map (·.1) = x ∧ LruAt p ns F w ∧ Turns nobody w0 w ∧ ∀ i, F i → w0.heap.size ≤ i

theorem Live.still {w0 w w' : World} {p : Nat} {x : List (List Int)} (h : Live w0 p x w) (ht : Turns nobody w w') : Live w0 p x w' := by
  obtain ⟨ns, F, hx, ha, h1, h2⟩ := h
  exact ⟨ns, F, hx, (local_lru p ns).keep ha ht (fun _ _ h => h), h1.trans ht (fun _ h => False.elim h), h2⟩
theorem Live.turns {w0 w : World} {p : Nat} {x : List (List Int)} (h : Live w0 p x w) : Turns nobody w0 w := by obtain ⟨_, _, _, _, h, _⟩ := h; exact h
theorem Live.wh {w0 w : World} {p : Nat} {x : List (List Int)} (h : Live w0 p x w) : Wh x := by
  obtain ⟨ns, F, rfl, ⟨r, mb, _, hr, _⟩, _⟩ := h
  intro y hy
  obtain ⟨z, hz, rfl⟩ := List.mem_map.1 hy
  exact hr.wh z (List.mem_cons_of_mem _ hz)
theorem Live.nodup {w0 w : World} {p : Nat} {x : List (List Int)} (h : Live w0 p x w) : x.Nodup := by
  obtain ⟨ns, F, rfl, ⟨r, mb, _, _, _, hn, _⟩, _⟩ := h
  exact hn
theorem Live.step {w0 w w' : World} {p : Nat} {ns' : List (List Int × Nat)} {x' : List (List Int)} {F : Nat → Prop} (hx : ns'.map (·.1) = x') (ht : Turns nobody w0 w) (hF : ∀ i, F i → w0.heap.size ≤ i) (h : Step F (LruAt p ns') w w') : Live w0 p x' w' := by
  obtain ⟨F', ha, h1, h2⟩ := h
  exact ⟨ns', F', hx, ha, ht.trans h1 (fun i h => Or.inr (hF i h)), fun i hi => by rcases h2 i hi with h | h; exact hF i h; exact Nat.le_trans ht.size h⟩

theorem new_live (w : World) : Calls Tryd.prog 28 #[] w fun e w' => e = .returned (.pointer (some ⟨w.heap.size + 2, 0, none⟩)) ∧ Live w (w.heap.size + 2) [] w' :=
  (new_any w).mono fun e w' h => ⟨h.1, by obtain ⟨F, a, b, c⟩ := h.2; exact ⟨[], F, rfl, a, b, c⟩⟩
theorem use_live {w0 w : World} {p : Nat} {x x' : List (List Int)} {id : List Int} (hL : Live w0 p x w) (hid : id.length = 32) (hx : useL x id = x') :
    Calls Tryd.prog 36 #[.pointer (some ⟨p, 0, none⟩), .agg (idc id).toArray] w fun e w' => e = .returned (.int .i64 0) ∧ Live w0 p x' w' := by
  obtain ⟨ns, F, rfl, ha, h1, h2⟩ := hL
  refine (use_any p ns id hid F w ha).mono fun e w' ⟨he, ns', hn, hs⟩ => ⟨he, Live.step (hn.trans hx) h1 h2 hs⟩
theorem drop_live {w0 w : World} {p : Nat} {x : List (List Int)} {id : List Int} (hL : Live w0 p x w) (hid : id.length = 32) :
    Calls Tryd.prog 41 #[.pointer (some ⟨p, 0, none⟩), .agg (idc id).toArray] w fun e w' => e = .returned (.int .i64 (if id ∈ x then 0 else 7)) ∧ Live w0 p (dropL x id) w' := by
  obtain ⟨ns, F, rfl, ha, h1, h2⟩ := hL
  refine (drop_any p ns id hid F w ha).mono fun e w' ⟨he, ns', hn, hs⟩ => ⟨he, Live.step hn h1 h2 hs⟩
theorem all_live {w0 w : World} {p : Nat} {x : List (List Int)} (hL : Live w0 p x w) (hn : x.length ≤ 1024) :
    Calls Tryd.prog 38 #[.pointer (some ⟨p, 0, none⟩)] w fun e w' => ∃ v, e = .returned v ∧ ISl w' v x ∧ (∀ j, blk v j → w.heap.size ≤ j) ∧ Turns nobody w w' := by
  obtain ⟨ns, F, rfl, ha, h1, h2⟩ := hL
  exact all_any p ns F w ha (by simpa using hn)
/-- The first one. -/
def headX (x : List (List Int)) : List Int := if x.length = 0 then zid else x.getD 0 []
theorem at_map (ns : List (List Int × Nat)) {i : Nat} (h : i < ns.length) : (at' ns i).1 = (ns.map (·.1)).getD i [] := by
  unfold at'
  rw [List.getD, List.getD, List.getElem?_map, List.getElem?_eq_getElem h]
  rfl
theorem oldest_live {w0 w : World} {p : Nat} {x : List (List Int)} (hL : Live w0 p x w) :
    Calls Tryd.prog 39 #[.pointer (some ⟨p, 0, none⟩)] w fun e w' => e = .returned (.tuple #[.agg (idc (headX x)).toArray, .bool (decide (x.length ≠ 0))]) ∧ Turns nobody w w' := by
  obtain ⟨ns, F, rfl, ha, h1, h2⟩ := hL
  have := oldest_any p ns F w ha
  have e : headId ns = headX (ns.map (·.1)) := by
    unfold headId headX
    rw [List.length_map]
    split
    · rfl
    · exact at_map ns (by omega)
  rw [e] at this
  rw [List.length_map]
  exact this
/-- The one behind it. -/
def idxX (x : List (List Int)) (id : List Int) : Nat := x.findIdx (fun y => decide (y = id))
def afterX (x : List (List Int)) (id : List Int) : Option (List Int) := if idxX x id + 1 < x.length then some (x.getD (idxX x id + 1) []) else none
theorem after_live {w0 w : World} {p : Nat} {x : List (List Int)} {id : List Int} (hL : Live w0 p x w) (hid : id.length = 32) :
    Calls Tryd.prog 40 #[.pointer (some ⟨p, 0, none⟩), .agg (idc id).toArray] w fun e w' => e = .returned (.tuple #[.agg (idc ((afterX x id).getD zid)).toArray, .bool (afterX x id).isSome]) ∧ Turns nobody w w' := by
  obtain ⟨ns, F, rfl, ha, h1, h2⟩ := hL
  have := after_any p ns id hid F w ha
  have e : afterId ns id = afterX (ns.map (·.1)) id := by
    unfold afterId afterX
    have e2 : idxOf ns id = idxX (ns.map (·.1)) id := rfl
    rw [List.length_map, e2]
    split
    · rw [at_map ns (by assumption)]
    · rfl
  rw [e] at this
  exact this

theorem run_eql_of {t : TypeId} {cs ds : Array Value} {w : World} {r : Bool} (h : (Op.equal t (.agg cs) (.agg ds)).run Tryd.prog w = .ok r w) : (binOp .neq t (.agg cs) (.agg ds)).run Tryd.prog w = .ok (.bool (!r)) w ∧ (binOp .eql t (.agg cs) (.agg ds)).run Tryd.prog w = .ok (.bool r) w := run_neq_of_eql h
theorem exec_eq {op : Oper} {a : Act} {w : World} (x y : Operand) (d : TypeId) (ho : op.op = .binOp .eql 31 x y d) (xs ys : List Int) (hx : a.eval x = .agg (idc xs).toArray) (hy : a.eval y = .agg (idc ys).toArray) (h1 : xs.length = 32) (h2 : ys.length = 32) {r : Bool} (hr : decide (xs = ys) = r) :
    (execOp a.eval op).run Tryd.prog w = .ok (.value (.bool r)) w := by
  have h3 : (Op.equalIn 10000 31 (.agg (idc xs).toArray) (.agg (idc ys).toArray)).run Tryd.prog w = .ok r w := by rw [← hr]; exact eq_key w xs ys h1 h2
  clear hr
  unfold execOp
  simp only [ho, hx, hy]
  go_simp
theorem exec_ne {op : Oper} {a : Act} {w : World} (x y : Operand) (d : TypeId) (ho : op.op = .binOp .neq 31 x y d) (xs ys : List Int) (hx : a.eval x = .agg (idc xs).toArray) (hy : a.eval y = .agg (idc ys).toArray) (h1 : xs.length = 32) (h2 : ys.length = 32) {r : Bool} (hr : (!decide (xs = ys)) = r) :
    (execOp a.eval op).run Tryd.prog w = .ok (.value (.bool r)) w := by
  have h3 : (Op.equalIn 10000 31 (.agg (idc xs).toArray) (.agg (idc ys).toArray)).run Tryd.prog w = .ok (decide (xs = ys)) w := eq_key w xs ys h1 h2
  subst hr
  unfold execOp
  simp only [ho, hx, hy]
  go_simp

end Go.Proofs.YtjnplcajajdkiaaDoor.lru

/- Packages petrelref06 and petrelref19: lists of ids. -/
namespace Go.Proofs.YtjnplcajajdkiaaDoor.lru
open Go.RowKit
open Go.Proofs.YtjnplcajajdkiaaDoor.stepkit Go.Proofs.YtjnplcajajdkiaaDoor.eqkit Go.Proofs.YtjnplcajajdkiaaDoor.idkit Go.Proofs.YtjnplcajajdkiaaDoor.obj Go.Proofs.YtjnplcajajdkiaaDoor.row Go.Proofs.YtjnplcajajdkiaaDoor.mapkit Go.Proofs.YtjnplcajajdkiaaDoor.mix

/-- What is read of a slice of ids, in whatever world behind it. -/
theorem ISl.reads {w : World} {ao : Option Addr} {cap : Nat} {x : List (List Int)} (hw : Wh x) (h : ISl w (.slice ao x.length cap) x) : ∀ k, k < x.length → ∃ g o, ao = some ⟨g, o, none⟩ ∧ ∀ W, Turns nobody w W → W.rangeAt g (o + k * 32) (idc (x.getD k [])) := fun k hk => by
  obtain ⟨g, o, c, hv, _⟩ := Sl.some_of_pos h (by omega)
  cases hv
  exact ⟨g, o, rfl, fun W ht j v hj => ((ht.cell (lt_of_cell' (ISl.range hw h k hk j v hj)) (fun h => h)).trans (ISl.range hw h k hk j v hj))⟩
theorem wh_get {x : List (List Int)} (h : Wh x) {k : Nat} (hk : k < x.length) : (x.getD k []).length = 32 := h _ (by rw [List.getD, List.getElem?_eq_getElem hk]; exact List.getElem_mem _)

set_option maxRecDepth 10000 in
set_option maxHeartbeats 400000 in
theorem same_any (a b : Value) (x : List (List Int)) (hw : Wh x) (w : World) (ha : ISl w a x) (hb : ISl w b x) (hl : x.length ≤ 1024) :
    Calls Tryd.prog 16 #[a, b] w fun e w' => e = .returned (.bool true) ∧ Turns nobody w w' := by
  obtain ⟨ao, ca, rfl, _⟩ := (show Sl _ _ _ _ _ _ from ha).shape
  obtain ⟨bo, cb, rfl, _⟩ := (show Sl _ _ _ _ _ _ from hb).shape
  have HHA := Lib.hid (ISl.reads hw ha)
  have HHB := Lib.hid (ISl.reads hw hb)
  clear ha hb
  go_enter Tryd.func16, Tryd.ntmps16
  go_wp2
  go_loopw [5] (fun i wr => ∃ k : Nat, k ≤ x.length ∧ i = .int .i64 k ∧ Turns nobody w wr) (fun i _ => x.length - (intOf i).toNat)
  case atStart => exact ⟨0, Nat.zero_le _, rfl, Turns.refl _ _⟩
  case round =>
    obtain ⟨k, hk, rfl, ht⟩ := hrel
    by_cases hlt : k < x.length
    · obtain ⟨g, o, rfl, ra⟩ := HHA.out k hlt
      obtain ⟨g', o', rfl, rb⟩ := HHB.out k hlt
      have hil := wh_get hw hlt
      have RA := Lib.hid (ra _ ht.drew)
      have RB := Lib.hid (rb _ ht.drew)
      have HT := Lib.hid ht.drew
      clear ra rb ht
      generalize x.getD k [] = idk at *
      have SX := Lib.hid (sizeId hil)
      go_wp2
      refine wp_region_mix [(0, true, true), (1, true, true), (2, true, true), (3, true, true), (4, true, true), (5, true, true), (6, true, true), (7, true, true), (8, true, true)] (fun W => W = wr.drew) (by kernel_rfl) (by kernel_rfl) (rfl) ?_
      simp only [picked, List.filterMap_cons, List.filterMap_nil, List.getElem?_toArray, List.getElem?_cons_zero, List.getElem?_cons_succ, Option.map_some]
      iterate 3 (refine mix_free (v := ?_) rfl ?_ ?_; rotate_left; (focus (intro w' hI; go_simp; try with_reducible rfl)); simp only [Act.put, List.setIfInBounds_toArray, List.set_cons_zero, List.set_cons_succ])
      refine mix_free (v := .agg (idc idk).toArray) rfl (fun w' hI => by rw [hI]; exact exec_load_mid _ _ rfl _ _ rfl (idc idk) _ RA.out Tryd.underlying31 rfl SX.out) ?_
      simp only [Act.put, List.setIfInBounds_toArray, List.set_cons_zero, List.set_cons_succ]
      iterate 3 (refine mix_free (v := ?_) rfl ?_ ?_; rotate_left; (focus (intro w' hI; go_simp; try with_reducible rfl)); simp only [Act.put, List.setIfInBounds_toArray, List.set_cons_zero, List.set_cons_succ])
      refine mix_free (v := .agg (idc idk).toArray) rfl (fun w' hI => by rw [hI]; exact exec_load_mid _ _ rfl _ _ rfl (idc idk) _ RB.out Tryd.underlying31 rfl SX.out) ?_
      simp only [Act.put, List.setIfInBounds_toArray, List.set_cons_zero, List.set_cons_succ]
      refine mix_free (v := .bool false) rfl (fun w' hI => exec_ne _ _ _ rfl idk idk rfl rfl hil hil (by simp)) ?_
      simp only [Act.put, List.setIfInBounds_toArray, List.set_cons_zero, List.set_cons_succ]
      refine mix_nil ?_
      go_wp2
      go_roundw
      case rel => exact ⟨k + 1, by omega, by go_num, HT.out⟩
      case measure => simp [intOf]; omega
    · have HT := Lib.hid ht
      clear ht
      go_wp2
      go_ret
      exact ⟨rfl, HT.out⟩

theorem dropL_next (x : List (List Int)) (id : List Int) (k : Nat) (hk : k < x.length) : dropL (x.take (k + 1)) id = dropL (x.take k) id ++ (if x.getD k [] = id then [] else [x.getD k []]) := by
  unfold dropL
  rw [List.take_add_one, List.filter_append, List.getD, List.getElem?_eq_getElem hk]
  congr 1
  by_cases h : x[k] = id
  · simp [h]
  · simp [h]
theorem dropL_len (x : List (List Int)) (id : List Int) : (dropL x id).length ≤ x.length := List.length_filter_le _ _
theorem dropL_wh {x : List (List Int)} (h : Wh x) (id : List Int) : Wh (dropL x id) := fun y hy => h y (List.mem_filter.1 hy).1
theorem useL_wh {x : List (List Int)} (h : Wh x) {id : List Int} (hid : id.length = 32) : Wh (useL x id) := fun y hy => by
  rcases List.mem_append.1 hy with hy | hy
  · exact h y (List.mem_filter.1 hy).1
  · rw [List.mem_singleton.1 hy]; exact hid


set_option maxRecDepth 10000 in
set_option maxHeartbeats 1000000 in
theorem ref_drop (a : Value) (x : List (List Int)) (hw : Wh x) (id : List Int) (hid : id.length = 32) (w : World) (ha : ISl w a x) (hl : x.length ≤ 1024) :
    Calls Tryd.prog 19 #[a, .agg (idc id).toArray] w fun e w' => ∃ v, e = .returned v ∧ ISl w' v (dropL x id) ∧ (∀ j, blk v j → w.heap.size ≤ j) ∧ Turns nobody w w' := by
  obtain ⟨i0, hi, hz0, hz1, hz2⟩ := infoIds_parts
  obtain ⟨ao, ca, rfl, _⟩ := (show Sl _ _ _ _ _ _ from ha).shape
  have HHA := Lib.hid (ISl.reads hw ha)
  obtain ⟨w0, hw0⟩ : ∃ w0, w0 = w.alloc (.cells (idc id).toArray 31) := ⟨_, rfl⟩
  have ht0 : Turns nobody w w0 := by rw [hw0]; exact (Turns.refl _ _).alloc _
  have hb0 : w0.heap[w.heap.size]? = some (.cells (idc id).toArray 31 (0, 0)) := by rw [hw0]; exact heap_alloc_new w _
  have hz : w0.heap.size = w.heap.size + 1 := by rw [hw0]; simp
  have HRI : Hid (∀ W, Turns nobody w0 W → W.rangeAt w.heap.size 0 (idc id)) := Lib.hid fun W ht => by have := range_block (heap_newer hb0 ht (fun h => h)); rwa [List.toList_toArray] at this
  have SX := Lib.hid (sizeId hid)
  have HT0 := Lib.hid ht0
  have HW0 := Lib.hid hw0
  have HZ := Lib.hid hz
  have HBS := Lib.hid slice_id
  clear ha hw0 ht0 hb0 hz
  go_enter Tryd.func19, Tryd.ntmps19
  go_wp2
  rw [← HW0.out]
  go_loopw [6, 5] (fun i v wr => ∃ k : Nat, k ≤ x.length ∧ i = .int .i64 k ∧ ISl wr v (dropL (x.take k) id) ∧ (∀ j, blk v j → w0.heap.size ≤ j) ∧ Turns nobody w0 wr) (fun i _ _ => x.length - (intOf i).toNat)
  case atStart => exact ⟨0, Nat.zero_le _, rfl, Sl.nil _ _ _, (fun _ h => by cases h), Turns.refl _ _⟩
  case round =>
    obtain ⟨k, hk, rfl, hs, hf, ht⟩ := hrel
    by_cases hlt : k < x.length
    · obtain ⟨g, o, rfl, ra⟩ := HHA.out k hlt
      have hil := wh_get hw hlt
      have hd := dropL_next x id k hlt
      have RA := Lib.hid (ra _ (HT0.out.trans ht.drew (fun _ h => h.elim)))
      have RI := Lib.hid (HRI.out _ ht.drew)
      obtain ⟨vao, vcap, rfl, _, hvm, _⟩ := (show Sl _ _ _ _ _ _ from hs).shape
      have hyl : (dropL (x.take k) id).length ≤ 1024 := Nat.le_trans (dropL_len _ _) (by rw [List.length_take]; omega)
      have HS := Lib.hid hs
      have HF := Lib.hid hf
      have HT := Lib.hid ht
      clear ra hs hf ht
      generalize x.getD k [] = idk at *
      have SK := Lib.hid (sizeId hil)
      by_cases heq : idk = id
      · rw [if_pos heq, List.append_nil] at hd
        have HD := Lib.hid hd
        clear hd
        go_wp2
        refine wp_region_mix [(0, true, true), (1, true, true), (2, true, true), (3, true, true), (4, true, true), (5, true, true)] (fun W => W = wr.drew) (by kernel_rfl) (by kernel_rfl) (rfl) ?_
        simp only [picked, List.filterMap_cons, List.filterMap_nil, List.getElem?_toArray, List.getElem?_cons_zero, List.getElem?_cons_succ, Option.map_some]
        iterate 3 (refine mix_free (v := ?_) rfl ?_ ?_; rotate_left; (focus (intro w' hI; go_simp; try with_reducible rfl)); simp only [Act.put, List.setIfInBounds_toArray, List.set_cons_zero, List.set_cons_succ])
        refine mix_free (v := .agg (idc idk).toArray) rfl (fun w' hI => by rw [hI]; exact exec_load_mid _ _ rfl _ _ rfl (idc idk) _ RA.out Tryd.underlying31 rfl SK.out) ?_
        simp only [Act.put, List.setIfInBounds_toArray, List.set_cons_zero, List.set_cons_succ]
        refine mix_free (v := .agg (idc id).toArray) rfl (fun w' hI => by rw [hI]; exact exec_load_mid _ _ rfl _ _ rfl (idc id) _ RI.out Tryd.underlying31 rfl SX.out) ?_
        simp only [Act.put, List.setIfInBounds_toArray, List.set_cons_zero, List.set_cons_succ]
        refine mix_free (v := .bool false) rfl (fun w' hI => exec_ne _ _ _ rfl idk id rfl rfl hil hid (by simp [heq])) ?_
        simp only [Act.put, List.setIfInBounds_toArray, List.set_cons_zero, List.set_cons_succ]
        refine mix_nil ?_
        clear heq
        go_wp2
        go_roundw
        case rel => exact ⟨k + 1, by omega, by go_num, by rw [HD.out]; exact HS.out, HF.out, HT.out.drew⟩
        case measure => simp [intOf]; omega
      · rw [if_neg heq] at hd
        have HD := Lib.hid hd
        clear hd
        generalize dropL (x.take k) id = y at *
        obtain ⟨W1, hW1⟩ : ∃ W1, W1 = (wr.drew).alloc (.cells (idc idk).toArray 31) := ⟨_, rfl⟩
        have ht1 : Turns nobody wr W1 := by rw [hW1]; exact ((Turns.refl _ _).drew).alloc _
        have HQ := Lib.hid (src_one (id := idk) (by rw [hW1]; exact heap_alloc_new wr.drew _ : W1.heap[wr.heap.size]? = _) hil)
        have HS1 := Lib.hid (Sl.keep HS.out ht1 (fun _ _ h => h))
        have HW1 := Lib.hid hW1
        have HT1 := Lib.hid (HT.out.trans ht1 (fun _ h => h.elim))
        clear hW1 ht1
        go_wp2
        refine wp_region_mix [(0, true, true), (1, true, true), (2, true, true), (3, true, true), (4, true, true), (5, true, true)] (fun W => W = wr.drew) (by kernel_rfl) (by kernel_rfl) (rfl) ?_
        simp only [picked, List.filterMap_cons, List.filterMap_nil, List.getElem?_toArray, List.getElem?_cons_zero, List.getElem?_cons_succ, Option.map_some]
        iterate 3 (refine mix_free (v := ?_) rfl ?_ ?_; rotate_left; (focus (intro w' hI; go_simp; try with_reducible rfl)); simp only [Act.put, List.setIfInBounds_toArray, List.set_cons_zero, List.set_cons_succ])
        refine mix_free (v := .agg (idc idk).toArray) rfl (fun w' hI => by rw [hI]; exact exec_load_mid _ _ rfl _ _ rfl (idc idk) _ RA.out Tryd.underlying31 rfl SK.out) ?_
        simp only [Act.put, List.setIfInBounds_toArray, List.set_cons_zero, List.set_cons_succ]
        refine mix_free (v := .agg (idc id).toArray) rfl (fun w' hI => by rw [hI]; exact exec_load_mid _ _ rfl _ _ rfl (idc id) _ RI.out Tryd.underlying31 rfl SX.out) ?_
        simp only [Act.put, List.setIfInBounds_toArray, List.set_cons_zero, List.set_cons_succ]
        refine mix_free (v := .bool true) rfl (fun w' hI => exec_ne _ _ _ rfl idk id rfl rfl hil hid (by simp [heq])) ?_
        simp only [Act.put, List.setIfInBounds_toArray, List.set_cons_zero, List.set_cons_succ]
        refine mix_nil ?_
        clear heq
        go_wp2_with first
          | (with_reducible refine wpList_load_mid rfl _ _ rfl _ _ rfl _ _ RA.out Tryd.underlying31 rfl SK.out ?_)
          | (with_reducible refine wpList_build_run rfl _ _ _ rfl #[(0, .agg (idc idk).toArray)] (by kernel_rfl) (HBS.out _ hil _) ?_)
          | (at_builtin; rw [← HW1.out]; refine wpList_append_sl rfl _ _ 36 rfl Tryd.underlying36 hi hz0 hz1 hz2 (by rw [Value.cells]; simp [idc_len, zid_len]) (by decide) rfl rfl HS1.out HQ.out (by unfold maxLen; omega) (by omega) ?_; intro v5 w5 h5 t5 n5 _; have h5' : ISl w5 v5 (y ++ [idk]) := (by unfold ISl; rw [List.length_append, List.length_singleton, icells_append]; exact h5))
        have ht5 : Turns (blk (.slice vao y.length vcap)) W1 w5 := t5
        refine ⟨⟨k + 1, by omega, by go_num, by rw [HD.out]; exact h5', fun j hj => ?_, HT1.out.trans ht5 (fun j hj => Or.inr (HF.out j hj))⟩, by simp [intOf]; omega⟩
        rcases n5 j hj with h | h
        · exact HF.out j h
        · exact Nat.le_trans HT1.out.size h
    · obtain rfl : k = x.length := by omega
      rw [List.take_length] at hs
      have HS := Lib.hid hs
      have HF := Lib.hid hf
      have HT := Lib.hid ht
      clear hs hf ht
      go_wp2
      go_ret
      exact ⟨_, rfl, HS.out, fun j hj => by have := HF.out j hj; have := HZ.out; omega, HT0.out.trans HT.out (fun _ h => h.elim)⟩

end Go.Proofs.YtjnplcajajdkiaaDoor.lru

/- Package petrelref19: what is there, what comes behind, what is used. -/
namespace Go.Proofs.YtjnplcajajdkiaaDoor.lru
open Go.RowKit
open Go.Proofs.YtjnplcajajdkiaaDoor.stepkit Go.Proofs.YtjnplcajajdkiaaDoor.eqkit Go.Proofs.YtjnplcajajdkiaaDoor.idkit Go.Proofs.YtjnplcajajdkiaaDoor.obj Go.Proofs.YtjnplcajajdkiaaDoor.row Go.Proofs.YtjnplcajajdkiaaDoor.mapkit Go.Proofs.YtjnplcajajdkiaaDoor.mix

theorem idx_eq {x : List (List Int)} {id : List Int} {k : Nat} (hk : k < x.length) (h : x.getD k [] = id) (hb : ∀ j, j < k → ¬ x.getD j [] = id) : idxX x id = k := by
  unfold idxX
  rw [List.findIdx_eq hk]
  rw [List.getD, List.getElem?_eq_getElem hk] at h
  refine ⟨by simpa using h, fun j hj => ?_⟩
  have := hb j hj
  rw [List.getD, List.getElem?_eq_getElem (by omega)] at this
  simpa using this
theorem idx_ge {x : List (List Int)} {id : List Int} {k : Nat} (hb : ∀ j, j < k → ¬ x.getD j [] = id) : k ≤ idxX x id ∨ x.length ≤ idxX x id := by
  by_cases h : idxX x id < x.length
  · refine Or.inl (Nat.le_of_not_lt fun hlt => ?_)
    unfold idxX at h hlt
    have h2 := List.findIdx_getElem (xs := x) (p := fun y => decide (y = id)) (w := h)
    have := hb _ hlt
    rw [List.getD, List.getElem?_eq_getElem h] at this
    exact this (by simpa using h2)
  · exact Or.inr (by omega)

set_option maxRecDepth 10000 in
set_option maxHeartbeats 1000000 in
theorem ref_has (a : Value) (x : List (List Int)) (hw : Wh x) (id : List Int) (hid : id.length = 32) (w : World) (ha : ISl w a x) (hl : x.length ≤ 1024) :
    Calls Tryd.prog 47 #[a, .agg (idc id).toArray] w fun e w' => e = .returned (.bool (decide (id ∈ x))) ∧ Turns nobody w w' := by
  obtain ⟨ao, ca, rfl, _⟩ := (show Sl _ _ _ _ _ _ from ha).shape
  have HHA := Lib.hid (ISl.reads hw ha)
  obtain ⟨w0, hw0⟩ : ∃ w0, w0 = w.alloc (.cells (idc id).toArray 31) := ⟨_, rfl⟩
  have ht0 : Turns nobody w w0 := by rw [hw0]; exact (Turns.refl _ _).alloc _
  have hb0 : w0.heap[w.heap.size]? = some (.cells (idc id).toArray 31 (0, 0)) := by rw [hw0]; exact heap_alloc_new w _
  have hz : w0.heap.size = w.heap.size + 1 := by rw [hw0]; simp
  have HRI : Hid (∀ W, Turns nobody w0 W → W.rangeAt w.heap.size 0 (idc id)) := Lib.hid fun W ht => by have := range_block (heap_newer hb0 ht (fun h => h)); rwa [List.toList_toArray] at this
  have SX := Lib.hid (sizeId hid)
  have HT0 := Lib.hid ht0
  have HW0 := Lib.hid hw0
  have HZ := Lib.hid hz
  obtain ⟨res, hres⟩ : ∃ r, decide (id ∈ x) = r := ⟨_, rfl⟩
  rw [hres]
  have HRES := Lib.hid hres
  clear ha hw0 ht0 hb0 hz hres
  go_enter Tryd.func47, Tryd.ntmps47
  go_wp2
  rw [← HW0.out]
  go_loopw [5] (fun i wr => ∃ k : Nat, k ≤ x.length ∧ i = .int .i64 k ∧ (∀ j, j < k → ¬ x.getD j [] = id) ∧ Turns nobody w0 wr) (fun i _ => x.length - (intOf i).toNat)
  case atStart => exact ⟨0, Nat.zero_le _, rfl, fun _ h => absurd h (Nat.not_lt_zero _), Turns.refl _ _⟩
  case round =>
    obtain ⟨k, hk, rfl, hb, ht⟩ := hrel
    by_cases hlt : k < x.length
    · obtain ⟨g, o, rfl, ra⟩ := HHA.out k hlt
      have hil := wh_get hw hlt
      have RA := Lib.hid (ra _ (HT0.out.trans ht.drew (fun _ h => h.elim)))
      have RI := Lib.hid (HRI.out _ ht.drew)
      have HT := Lib.hid ht.drew
      have HB := Lib.hid hb
      have hget : x[k]? = some (x.getD k []) := by rw [List.getD, List.getElem?_eq_getElem hlt]; rfl
      have HGET := Lib.hid hget
      obtain ⟨idk, hidk⟩ : ∃ idk, x.getD k [] = idk := ⟨_, rfl⟩
      have HIDK := Lib.hid hidk
      rw [hidk] at RA hil
      clear ra ht hb hget hidk
      have SK := Lib.hid (sizeId hil)
      by_cases heq : idk = id
      · have hmem : decide (id ∈ x) = true := decide_eq_true (by rw [← heq, ← HIDK.out]; exact List.mem_of_getElem? HGET.out)
        have HMEM := Lib.hid (HRES.out.symm.trans hmem)
        clear hmem
        go_wp2
        refine wp_region_mix [(0, true, true), (1, true, true), (2, true, true), (3, true, true), (4, true, true), (5, true, true)] (fun W => W = wr.drew) (by kernel_rfl) (by kernel_rfl) (rfl) ?_
        simp only [picked, List.filterMap_cons, List.filterMap_nil, List.getElem?_toArray, List.getElem?_cons_zero, List.getElem?_cons_succ, Option.map_some]
        iterate 3 (refine mix_free (v := ?_) rfl ?_ ?_; rotate_left; (focus (intro w' hI; go_simp; try with_reducible rfl)); simp only [Act.put, List.setIfInBounds_toArray, List.set_cons_zero, List.set_cons_succ])
        refine mix_free (v := .agg (idc idk).toArray) rfl (fun w' hI => by rw [hI]; exact exec_load_mid _ _ rfl _ _ rfl (idc idk) _ RA.out Tryd.underlying31 rfl SK.out) ?_
        simp only [Act.put, List.setIfInBounds_toArray, List.set_cons_zero, List.set_cons_succ]
        refine mix_free (v := .agg (idc id).toArray) rfl (fun w' hI => by rw [hI]; exact exec_load_mid _ _ rfl _ _ rfl (idc id) _ RI.out Tryd.underlying31 rfl SX.out) ?_
        simp only [Act.put, List.setIfInBounds_toArray, List.set_cons_zero, List.set_cons_succ]
        refine mix_free (v := .bool true) rfl (fun w' hI => exec_eq _ _ _ rfl idk id rfl rfl hil hid (by simp [heq])) ?_
        simp only [Act.put, List.setIfInBounds_toArray, List.set_cons_zero, List.set_cons_succ]
        refine mix_nil ?_
        clear heq
        go_wp2
        go_ret
        exact ⟨by rw [HMEM.out]; rfl, HT0.out.trans HT.out (fun _ h => h.elim)⟩
      · have HNE := Lib.hid heq
        go_wp2
        refine wp_region_mix [(0, true, true), (1, true, true), (2, true, true), (3, true, true), (4, true, true), (5, true, true)] (fun W => W = wr.drew) (by kernel_rfl) (by kernel_rfl) (rfl) ?_
        simp only [picked, List.filterMap_cons, List.filterMap_nil, List.getElem?_toArray, List.getElem?_cons_zero, List.getElem?_cons_succ, Option.map_some]
        iterate 3 (refine mix_free (v := ?_) rfl ?_ ?_; rotate_left; (focus (intro w' hI; go_simp; try with_reducible rfl)); simp only [Act.put, List.setIfInBounds_toArray, List.set_cons_zero, List.set_cons_succ])
        refine mix_free (v := .agg (idc idk).toArray) rfl (fun w' hI => by rw [hI]; exact exec_load_mid _ _ rfl _ _ rfl (idc idk) _ RA.out Tryd.underlying31 rfl SK.out) ?_
        simp only [Act.put, List.setIfInBounds_toArray, List.set_cons_zero, List.set_cons_succ]
        refine mix_free (v := .agg (idc id).toArray) rfl (fun w' hI => by rw [hI]; exact exec_load_mid _ _ rfl _ _ rfl (idc id) _ RI.out Tryd.underlying31 rfl SX.out) ?_
        simp only [Act.put, List.setIfInBounds_toArray, List.set_cons_zero, List.set_cons_succ]
        refine mix_free (v := .bool false) rfl (fun w' hI => exec_eq _ _ _ rfl idk id rfl rfl hil hid (by simp [heq])) ?_
        simp only [Act.put, List.setIfInBounds_toArray, List.set_cons_zero, List.set_cons_succ]
        refine mix_nil ?_
        clear heq
        go_wp2
        go_roundw
        case rel => exact ⟨k + 1, by omega, by go_num, fun j hj => by rcases Nat.lt_or_ge j k with h | h; exact HB.out j h; rw [show j = k by omega, HIDK.out]; exact HNE.out, HT.out⟩
        case measure => simp [intOf]; omega
    · obtain rfl : k = x.length := by omega
      have hmem : decide (id ∈ x) = false := decide_eq_false fun hm => by
        obtain ⟨j, hj, he⟩ := List.mem_iff_getElem.1 hm
        exact hb j hj (by rw [List.getD, List.getElem?_eq_getElem hj]; exact he)
      have HMEM := Lib.hid (HRES.out.symm.trans hmem)
      have HT := Lib.hid ht
      clear ht hb hmem
      go_wp2
      go_ret
      exact ⟨by rw [HMEM.out]; rfl, HT0.out.trans HT.out (fun _ h => h.elim)⟩

end Go.Proofs.YtjnplcajajdkiaaDoor.lru

/- Package petrelref19: what is used. -/
namespace Go.Proofs.YtjnplcajajdkiaaDoor.lru
open Go.RowKit
open Go.Proofs.YtjnplcajajdkiaaDoor.stepkit Go.Proofs.YtjnplcajajdkiaaDoor.eqkit Go.Proofs.YtjnplcajajdkiaaDoor.idkit Go.Proofs.YtjnplcajajdkiaaDoor.obj Go.Proofs.YtjnplcajajdkiaaDoor.row Go.Proofs.YtjnplcajajdkiaaDoor.mapkit Go.Proofs.YtjnplcajajdkiaaDoor.mix

set_option maxRecDepth 10000 in
set_option maxHeartbeats 1000000 in
theorem ref_use (a : Value) (x : List (List Int)) (hw : Wh x) (id : List Int) (hid : id.length = 32) (w : World) (ha : ISl w a x) (hl : x.length ≤ 1024) :
    Calls Tryd.prog 59 #[a, .agg (idc id).toArray] w fun e w' => ∃ v, e = .returned v ∧ ISl w' v (useL x id) ∧ (∀ j, blk v j → w.heap.size ≤ j) ∧ Turns nobody w w' := by
  obtain ⟨i0, hi, hz0, hz1, hz2⟩ := infoIds_parts
  obtain ⟨w0, hw0⟩ : ∃ w0, w0 = w.alloc (.cells (idc id).toArray 31) := ⟨_, rfl⟩
  have ht0 : Turns nobody w w0 := by rw [hw0]; exact (Turns.refl _ _).alloc _
  have hb0 : w0.heap[w.heap.size]? = some (.cells (idc id).toArray 31 (0, 0)) := by rw [hw0]; exact heap_alloc_new w _
  have HRI : Hid (∀ W, Turns nobody w0 W → W.rangeAt w.heap.size 0 (idc id)) := Lib.hid fun W ht => by have := range_block (heap_newer hb0 ht (fun h => h)); rwa [List.toList_toArray] at this
  have SX := Lib.hid (sizeId hid)
  have HT0 := Lib.hid ht0
  have HW0 := Lib.hid hw0
  have HA := Lib.hid ha
  have HBS := Lib.hid slice_id
  have hyl : (dropL x id).length ≤ 1024 := Nat.le_trans (dropL_len _ _) hl
  clear ha hw0 ht0 hb0
  go_enter Tryd.func59, Tryd.ntmps59
  go_wp2
  rw [← HW0.out]
  have HT := Lib.hid (show Turns nobody w0 w0.drew from (Turns.refl _ _).drew)
  refine wp_region_fork [0, 1, 3, 6] [0, 1, 3, 6, 2, 4, 5] (Plan.ofList [0, 1, 3] (.fork 2 (Plan.ofList [4, 5, 6] .done) 4 (Plan.ofList [2, 5, 6] .done))) (fun W => Turns nobody w0 W) (by kernel_rfl) (by kernel_rfl) (HT.out) ?_
  simp -failIfUnchanged only [Plan.pick, Plan.ofList, isIn, List.contains_cons, List.contains_nil, Nat.reduceBEq, Bool.or_false, Bool.false_or, Bool.or_true, Bool.true_or, cond_true, cond_false, Array.getD_eq_getD_getElem?, List.getElem?_toArray, List.getElem?_cons_zero, List.getElem?_cons_succ, Option.getD_some]
  iterate 1 (refine plan_free (v := ?_) rfl ?_ ?_; rotate_left; (focus (intro w' hI; go_simp; try with_reducible rfl)); simp only [Act.put, List.setIfInBounds_toArray, List.set_cons_zero, List.set_cons_succ])
  refine plan_free (v := .agg (idc id).toArray) rfl (fun w' hI => exec_load_mid _ _ rfl _ _ rfl (idc id) _ (HRI.out _ hI) Tryd.underlying31 rfl SX.out) ?_
  simp only [Act.put, List.setIfInBounds_toArray, List.set_cons_zero, List.set_cons_succ]
  refine plan_free (v := .agg (idc id).toArray) rfl (fun w' hI => exec_load_mid _ _ rfl _ _ rfl (idc id) _ (HRI.out _ hI) Tryd.underlying31 rfl SX.out) ?_
  simp only [Act.put, List.setIfInBounds_toArray, List.set_cons_zero, List.set_cons_succ]
  refine plan_fork ?_ ?_
  ·
    refine bigC_mk rfl (fun K hK => ?_)
    go_wp2_with (go_at_call 19; refine (ref_drop _ x hw id hid _ (Sl.keep HA.out (HT0.out.trans HT.out (fun _ h => h.elim)) (fun _ _ h => h)) hl).mono ?_; rintro e w2 ⟨v2, rfl, s2, f2, t2⟩)
    have HT2 := Lib.hid (HT.out.trans t2 (fun _ h => h.elim))
    have HF2 : Hid (∀ j, blk v2 j → w0.heap.size ≤ j) := Lib.hid fun j hj => Nat.le_trans HT.out.size (f2 j hj)
    have HS2 := Lib.hid s2
    try replace HQ := Lib.hid (HQ.out.keep t2 (fun _ _ h => h))
    clear HT
    have HT := HT2
    clear HT2 s2 f2 t2
    refine hK _ _ (fun _ => HT.out) ?_
    clear hK K
    obtain ⟨WB, hWB⟩ : ∃ WB, WB = w2 := ⟨_, rfl⟩
    rw [← hWB] at HS2 HT ⊢
    clear hWB
    refine plan_big ?_
    refine bigC_mk rfl (fun K hK => ?_)
    go_wp2_with (with_reducible refine wpList_build_run rfl _ _ _ rfl #[(0, .agg (idc id).toArray)] (by kernel_rfl) (HBS.out _ hid _) ?_)
    have HQ := Lib.hid (src_one (id := id) (heap_alloc_new WB (.cells (idc id).toArray 31)) hid)
    try replace HS2 := Lib.hid (Sl.keep HS2.out ((Turns.refl nobody WB).alloc (.cells (idc id).toArray 31)) (fun _ _ h => h))
    have HT2 := Lib.hid (HT.out.alloc (.cells (idc id).toArray 31))
    clear HT
    have HT := HT2
    clear HT2
    refine hK _ _ (fun _ => HT.out) ?_
    clear hK K
    refine plan_big (bigC_mk rfl (fun K hK => ?_))
    go_wp2_with (at_builtin; refine wpList_append_sl rfl _ _ 36 rfl Tryd.underlying36 hi hz0 hz1 hz2 (by rw [Value.cells]; simp [idc_len, zid_len]) (by decide) rfl rfl HS2.out HQ.out (by unfold maxLen; omega) (by omega) ?_)
    intro v5 w5 h5 t5 n5 _
    have ht5 : Turns (blk v2) _ w5 := t5
    have HE : Hid (ISl w5 v5 (useL x id) ∧ (∀ j, blk v5 j → w.heap.size ≤ j) ∧ Turns nobody w w5) := Lib.hid ⟨by
        unfold ISl useL
        rw [List.length_append, List.length_singleton, icells_append]
        exact h5, fun j hj => by
        have := HT0.out.size
        have := HT.out.size
        rcases n5 j hj with h | h
        · have := HF2.out j h; omega
        · omega, HT0.out.trans (HT.out.trans ht5 (fun j hj => Or.inr (HF2.out j hj))) (fun _ h => h.elim)⟩
    refine hK _ _ (fun _ => HT.out.trans ht5 (fun j hj => Or.inr (HF2.out j hj))) ?_
    clear hK K h5 t5 n5 ht5
    repeat (refine plan_free (v := ?_) rfl ?_ ?_; rotate_left; (focus (intro w' hI; go_simp; try with_reducible rfl)); simp only [Act.put, List.setIfInBounds_toArray, List.set_cons_zero, List.set_cons_succ])
    refine plan_done ?_
    go_wp2
    go_ret
    exact ⟨_, rfl, HE.out⟩
  ·
    obtain ⟨WB, hWB⟩ : ∃ WB, WB = w0.drew := ⟨_, rfl⟩
    rw [← hWB] at HT ⊢
    clear hWB
    refine bigC_mk rfl (fun K hK => ?_)
    go_wp2_with (with_reducible refine wpList_build_run rfl _ _ _ rfl #[(0, .agg (idc id).toArray)] (by kernel_rfl) (HBS.out _ hid _) ?_)
    have HQ := Lib.hid (src_one (id := id) (heap_alloc_new WB (.cells (idc id).toArray 31)) hid)
    try replace HS2 := Lib.hid (Sl.keep HS2.out ((Turns.refl nobody WB).alloc (.cells (idc id).toArray 31)) (fun _ _ h => h))
    have HT2 := Lib.hid (HT.out.alloc (.cells (idc id).toArray 31))
    clear HT
    have HT := HT2
    clear HT2
    refine hK _ _ (fun _ => HT.out) ?_
    clear hK K
    refine plan_big ?_
    refine bigC_mk rfl (fun K hK => ?_)
    go_wp2_with (go_at_call 19; refine (ref_drop _ x hw id hid _ (Sl.keep HA.out (HT0.out.trans HT.out (fun _ h => h.elim)) (fun _ _ h => h)) hl).mono ?_; rintro e w2 ⟨v2, rfl, s2, f2, t2⟩)
    have HT2 := Lib.hid (HT.out.trans t2 (fun _ h => h.elim))
    have HF2 : Hid (∀ j, blk v2 j → w0.heap.size ≤ j) := Lib.hid fun j hj => Nat.le_trans HT.out.size (f2 j hj)
    have HS2 := Lib.hid s2
    try replace HQ := Lib.hid (HQ.out.keep t2 (fun _ _ h => h))
    clear HT
    have HT := HT2
    clear HT2 s2 f2 t2
    refine hK _ _ (fun _ => HT.out) ?_
    clear hK K
    refine plan_big (bigC_mk rfl (fun K hK => ?_))
    go_wp2_with (at_builtin; refine wpList_append_sl rfl _ _ 36 rfl Tryd.underlying36 hi hz0 hz1 hz2 (by rw [Value.cells]; simp [idc_len, zid_len]) (by decide) rfl rfl HS2.out HQ.out (by unfold maxLen; omega) (by omega) ?_)
    intro v5 w5 h5 t5 n5 _
    have ht5 : Turns (blk v2) _ w5 := t5
    have HE : Hid (ISl w5 v5 (useL x id) ∧ (∀ j, blk v5 j → w.heap.size ≤ j) ∧ Turns nobody w w5) := Lib.hid ⟨by
        unfold ISl useL
        rw [List.length_append, List.length_singleton, icells_append]
        exact h5, fun j hj => by
        have := HT0.out.size
        have := HT.out.size
        rcases n5 j hj with h | h
        · have := HF2.out j h; omega
        · omega, HT0.out.trans (HT.out.trans ht5 (fun j hj => Or.inr (HF2.out j hj))) (fun _ h => h.elim)⟩
    refine hK _ _ (fun _ => HT.out.trans ht5 (fun j hj => Or.inr (HF2.out j hj))) ?_
    clear hK K h5 t5 n5 ht5
    repeat (refine plan_free (v := ?_) rfl ?_ ?_; rotate_left; (focus (intro w' hI; go_simp; try with_reducible rfl)); simp only [Act.put, List.setIfInBounds_toArray, List.set_cons_zero, List.set_cons_succ])
    refine plan_done ?_
    go_wp2
    go_ret
    exact ⟨_, rfl, HE.out⟩

end Go.Proofs.YtjnplcajajdkiaaDoor.lru

/- Package lru: the list beside slices; calls that come as rows. -/
namespace Go.Proofs.YtjnplcajajdkiaaDoor.lru
open Go.RowKit
open Go.Proofs.YtjnplcajajdkiaaDoor.stepkit Go.Proofs.YtjnplcajajdkiaaDoor.eqkit Go.Proofs.YtjnplcajajdkiaaDoor.idkit Go.Proofs.YtjnplcajajdkiaaDoor.obj Go.Proofs.YtjnplcajajdkiaaDoor.row Go.Proofs.YtjnplcajajdkiaaDoor.mapkit Go.Proofs.YtjnplcajajdkiaaDoor.mix Go.Proofs.YtjnplcajajdkiaaDoor.argkit

/-- The list, by its ids. -/
def LruX (p : Nat) (x : List (List Int)) : (Nat → Prop) → World → Prop := fun F w => ∃ ns, ns.map (·.1) = x ∧ LruAt p ns F w
theorem local_lrux (p : Nat) (x : List (List Int)) : Local (LruX p x) := by
  rintro F w ⟨ns, hx, h⟩
  have := local_lru p ns F w h
  exact ⟨this.1, fun w' hs hb => ⟨ns, hx, this.2 w' hs hb⟩⟩
theorem LruX.wh {p : Nat} {x : List (List Int)} {F : Nat → Prop} {w : World} (h : LruX p x F w) : Wh x := by
  obtain ⟨ns, rfl, ⟨r, mb, _, hr, _⟩⟩ := h
  intro y hy
  obtain ⟨z, hz, rfl⟩ := List.mem_map.1 hy
  exact hr.wh z (List.mem_cons_of_mem _ hz)
theorem LruX.nodup {p : Nat} {x : List (List Int)} {F : Nat → Prop} {w : World} (h : LruX p x F w) : x.Nodup := by
  obtain ⟨ns, rfl, ⟨r, mb, _, _, _, hn, _⟩⟩ := h
  exact hn
theorem LruX.live {p : Nat} {x : List (List Int)} {F : Nat → Prop} {w : World} (h : LruX p x F w) : ∀ w0 : World, Turns nobody w0 w → (∀ i, F i → w0.heap.size ≤ i) → Live w0 p x w := fun w0 h1 h2 => by
  obtain ⟨ns, hx, ha⟩ := h
  exact ⟨ns, F, hx, ha, h1, h2⟩

/-- A slice of ids, by itself. -/
def SlObj (v : Value) (y : List (List Int)) : (Nat → Prop) → World → Prop := fun G w => ISl w v y ∧ G = blk v
theorem local_sl (v : Value) (y : List (List Int)) : Local (SlObj v y) := by
  rintro G w ⟨h, rfl⟩
  exact ⟨fun i hi => (show Sl _ _ _ _ _ _ from h).lt i hi, fun w' _ hb => ⟨Sl.of_heap h hb, rfl⟩⟩
/-- Two of them. -/
def SlTwo (v : Value) (y : List (List Int)) (u : Value) (z : List (List Int)) : (Nat → Prop) → World → Prop := fun G w => ISl w v y ∧ ISl w u z ∧ G = fun i => blk v i ∨ blk u i
theorem local_two (v : Value) (y : List (List Int)) (u : Value) (z : List (List Int)) : Local (SlTwo v y u z) := by
  rintro G w ⟨h, h', rfl⟩
  exact ⟨fun i hi => by rcases hi with hi | hi; exact (show Sl _ _ _ _ _ _ from h).lt i hi; exact (show Sl _ _ _ _ _ _ from h').lt i hi, fun w' _ hb => ⟨Sl.of_heap h (fun g hg => hb g (Or.inl hg)), Sl.of_heap h' (fun g hg => hb g (Or.inr hg)), rfl⟩⟩

section
variable {p : Nat} {x : List (List Int)} {F : Nat → Prop} {w : World}
theorem use_x (h : LruX p x F w) (id : List Int) (hid : id.length = 32) : Calls Tryd.prog 36 #[.pointer (some ⟨p, 0, none⟩), .agg (idc id).toArray] w fun e w' => e = .returned (.int .i64 0) ∧ Step F (LruX p (useL x id)) w w' := by
  obtain ⟨ns, rfl, ha⟩ := h
  exact (use_any p ns id hid F w ha).mono fun e w' ⟨he, ns', hn, F', h1, h2, h3⟩ => ⟨he, F', ⟨ns', hn, h1⟩, h2, h3⟩
theorem drop_x (h : LruX p x F w) (id : List Int) (hid : id.length = 32) : Calls Tryd.prog 41 #[.pointer (some ⟨p, 0, none⟩), .agg (idc id).toArray] w fun e w' => e = .returned (.int .i64 (if id ∈ x then 0 else 7)) ∧ Step F (LruX p (dropL x id)) w w' := by
  obtain ⟨ns, rfl, ha⟩ := h
  exact (drop_any p ns id hid F w ha).mono fun e w' ⟨he, ns', hn, F', h1, h2, h3⟩ => ⟨he, F', ⟨ns', hn, h1⟩, h2, h3⟩
theorem all_x (h : LruX p x F w) (hn : x.length ≤ 1024) : Calls Tryd.prog 38 #[.pointer (some ⟨p, 0, none⟩)] w fun e w' => ∃ v, e = .returned v ∧ ISl w' v x ∧ (∀ j, blk v j → w.heap.size ≤ j) ∧ Turns nobody w w' := by
  obtain ⟨ns, rfl, ha⟩ := h
  exact all_any p ns F w ha (by simpa using hn)
theorem oldest_x (h : LruX p x F w) : Calls Tryd.prog 39 #[.pointer (some ⟨p, 0, none⟩)] w fun e w' => e = .returned (.tuple #[.agg (idc (headX x)).toArray, .bool (decide (x.length ≠ 0))]) ∧ Turns nobody w w' := by
  obtain ⟨ns, hx, ha⟩ := h
  exact oldest_live (w0 := { w with heap := #[] }) ⟨ns, F, hx, ha, ⟨rfl, rfl, rfl, Nat.zero_le _, fun k hk _ => absurd hk (Nat.not_lt_zero _)⟩, fun _ _ => Nat.zero_le _⟩
theorem after_x (h : LruX p x F w) (id : List Int) (hid : id.length = 32) : Calls Tryd.prog 40 #[.pointer (some ⟨p, 0, none⟩), .agg (idc id).toArray] w fun e w' => e = .returned (.tuple #[.agg (idc ((afterX x id).getD zid)).toArray, .bool (afterX x id).isSome]) ∧ Turns nobody w w' := by
  obtain ⟨ns, hx, ha⟩ := h
  exact after_live (w0 := { w with heap := #[] }) ⟨ns, F, hx, ha, ⟨rfl, rfl, rfl, Nat.zero_le _, fun k hk _ => absurd hk (Nat.not_lt_zero _)⟩, fun _ _ => Nat.zero_le _⟩ hid
end

theorem new_duo (w : World) : Calls Tryd.prog 28 #[] w fun e w' => e = .returned (.pointer (some ⟨w.heap.size + 2, 0, none⟩)) ∧ ∃ F, Duo w.heap.size w (LruX (w.heap.size + 2) []) nothing F nobody w' :=
  (new_any w).mono fun e w' ⟨he, F, a, b, c⟩ => ⟨he, F, Duo.start ⟨[], rfl, a⟩ rfl (fun _ _ h => h) c (fun _ h => h.elim) (b.below (Nat.le_refl _) (fun _ h => h.elim)) b.size⟩
/-- Another thing beside it. -/
theorem Duo.beside {B : Nat} {w0 w w' : World} {A C C' : (Nat → Prop) → World → Prop} {F G G' : Nat → Prop} (h : Duo B w0 A C F G w) (hA : Local A) (ht : Turns nobody w w') (hc : C' G' w') (hn : ∀ i, G' i → w.heap.size ≤ i) : Duo B w0 A C' F G' w' :=
  Duo.start (hA.keep h.a ht (fun _ _ h => h)) hc (fun i hi hg => by have := (hA F w h.a).1 i hi; have := hn i hg; omega) h.fnew (fun i hi => Nat.le_trans h.size (hn i hi)) (h.below.trans (ht.below h.size (fun _ h => h.elim))) (Nat.le_trans h.size ht.size)
theorem Duo.alone {B : Nat} {w0 w : World} {A C : (Nat → Prop) → World → Prop} {F G : Nat → Prop} (h : Duo B w0 A C F G w) : Duo B w0 A nothing F nobody w :=
  Duo.start h.a rfl (fun _ _ h => h) h.fnew (fun _ h => h.elim) h.below h.size

theorem Duo.both {B : Nat} {w0 w w' : World} {A : (Nat → Prop) → World → Prop} {F G : Nat → Prop} {v u : Value} {y z : List (List Int)} (h : Duo B w0 A (SlObj v y) F G w) (hA : Local A) (ht : Turns nobody w w') (hu : ISl w' u z) (hn : ∀ i, blk u i → w.heap.size ≤ i) : ∃ G', Duo B w0 A (SlTwo v y u z) F G' w' := by
  obtain ⟨hc, hG⟩ := h.c
  refine ⟨fun i => blk v i ∨ blk u i, Duo.start (hA.keep h.a ht (fun _ _ h => h)) ⟨Sl.keep hc ht (fun _ _ h => h), hu, rfl⟩ (fun i hi hg => ?_) h.fnew (fun i hi => ?_) (h.below.trans (ht.below h.size (fun _ h => h.elim))) (Nat.le_trans h.size ht.size)⟩
  · rcases hg with hg | hg
    · exact h.apart i hi (by rw [hG]; exact hg)
    · have := (hA F w h.a).1 i hi
      have := hn i hg
      omega
  · rcases hi with hi | hi
    · exact h.gnew i (by rw [hG]; exact hi)
    · exact Nat.le_trans h.size (hn i hi)

theorem useL_len (x : List (List Int)) (id : List Int) : (useL x id).length = (dropL x id).length + 1 := by unfold useL dropL; simp
theorem useL_take (x : List (List Int)) (id : List Int) : (useL x id).take (dropL x id).length = dropL x id := by unfold useL dropL; simp
theorem useL_last (x : List (List Int)) (id : List Int) : (useL x id).getD (dropL x id).length [] = id := by unfold useL dropL; simp [List.getD]
theorem dropL_useL (x : List (List Int)) (id : List Int) : dropL (useL x id) id = dropL x id := by unfold useL dropL; simp [List.filter_append]
theorem mem_useL (x : List (List Int)) (id : List Int) : id ∈ useL x id := by unfold useL; simp
theorem not_mem_dropL (x : List (List Int)) (id : List Int) : id ∉ dropL x id := by unfold dropL; simp

theorem turns_set (b : Nat) : ∀ (vs : List Value) (o : Nat) (w : World), Turns (fun i => i = b) w (w.setCells b o vs)
  | [], _, w => Turns.refl _ _
  | v :: vs, o, w => by
    show Turns _ w ((w.setCell ⟨b, o, none⟩ v).setCells b (o + 1) vs)
    exact (Turns.set w b o v).trans (turns_set b vs (o + 1) _) (fun _ h => Or.inl h)

theorem range_keep {w w' : World} {p o : Nat} {cs : List Value} (h : w.rangeAt p o cs) (ht : Turns nobody w w') : w'.rangeAt p o cs := fun j v hj => (ht.cell (lt_of_cell' (h j v hj)) (fun h => h)).trans (h j v hj)

theorem newcell {w W : World} {z : Array Value} {t : TypeId} (ht : Turns nobody (w.alloc (.cells z t)) W) (cs : List Value) (hc : cs.length = z.size) :
    W.there w.heap.size 0 cs.toArray.size ∧ Turns nobody w (W.setCells w.heap.size 0 cs) ∧ (W.setCells w.heap.size 0 cs).rangeAt w.heap.size 0 cs := by
  have hb := heap_newer (heap_alloc_new w (.cells z t)) ht (fun h => h)
  have h1 : W.there w.heap.size 0 cs.toArray.size := there_of hb (by rw [List.size_toArray, hc]; simp)
  have ht' : Turns nobody w W := ((Turns.refl nobody w).alloc _).trans ht (fun _ h => h.elim)
  refine ⟨h1, turns_cells _ (Nat.le_refl _) cs 0 W ht', World.rangeAt_setCells_same W _ 0 cs (by rwa [List.size_toArray] at h1)⟩

/-- A whole value goes into a cell that was just made. -/
theorem wpList_new {ops : Array Oper} {rest : List Oper} {op : Oper} {a : Act} {w : World} {Q : Exit → Act → World → Prop} {t : TypeId} {z : Array Value} (hgd : op.guard = none) (ty : TypeId) (x y : Operand) (ho : op.op = .store ty x y)
    (cs : List Value) (hx : a.eval x = .pointer (some ⟨w.heap.size, 0, none⟩)) (hy : a.eval y = .agg cs.toArray)
    (hz : cs.length = z.size) (hi : (Tryd.prog.info? ty).map (·.size) = some cs.length) (h1 : ∀ v ∈ cs, v.oneCell' = true)
    (h : ∀ w', Turns nobody w w' → w'.rangeAt w.heap.size 0 cs → wpList Tryd.prog ops Q rest (a.put op.dst undef) w') : wpList Tryd.prog ops Q (op :: rest) a (w.alloc (.cells z t)) := by
  obtain ⟨g1, g2, g3⟩ := newcell (Turns.refl nobody (w.alloc (.cells z t))) cs hz
  refine wpList_store_mid hgd ty x y ho _ _ _ hx hy g1 (by rw [List.size_toArray]; exact hi) (all_oneCell_toArray h1) ?_
  rw [List.toList_toArray]
  exact h _ g2 g3

theorem at_alloc {ops : Array Oper} {l : List Oper} {a : Act} {w : World} {o : Obj} {Q : Exit → Act → World → Prop} (h : wpList Tryd.prog ops Q l a (w.alloc o)) : wpList Tryd.prog ops Q l a (w.alloc o) := h

theorem after_len {x : List (List Int)} (h : Wh x) (id : List Int) : ((afterX x id).getD zid).length = 32 := by
  unfold afterX
  split
  · next h1 => exact wh_get h h1
  · exact zid_len
theorem head_len {x : List (List Int)} (h : Wh x) : (headX x).length = 32 := by
  unfold headX
  split
  · exact zid_len
  · next h1 => exact wh_get h (by omega)
theorem idx_at {x : List (List Int)} (hn : x.Nodup) {j : Nat} (hj : j < x.length) : idxX x (x.getD j []) = j := by
  refine idx_eq hj rfl fun i hi h => ?_
  rw [List.getD, List.getD, List.getElem?_eq_getElem hj, List.getElem?_eq_getElem (by omega), Option.getD_some, Option.getD_some] at h
  exact absurd ((List.getElem_inj hn).1 h) (by omega)
theorem not_in_take {x : List (List Int)} (hn : x.Nodup) {j : Nat} (hj : j < x.length) : x.getD j [] ∉ x.take j := by
  intro h
  obtain ⟨i, hi, he⟩ := List.mem_iff_getElem.1 h
  rw [List.length_take] at hi
  rw [List.getElem_take, List.getD, List.getElem?_eq_getElem hj, Option.getD_some] at he
  exact absurd ((List.getElem_inj hn).1 he) (by omega)
/-- What the cell holds after j steps. -/
def atX (x : List (List Int)) (j : Nat) : List Int := if j < x.length then x.getD j [] else zid
theorem atX_zero (x : List (List Int)) : headX x = atX x 0 := by
  unfold headX atX
  by_cases h : x.length = 0
  · rw [if_pos h, if_neg (by omega)]
  · rw [if_neg h, if_pos (by omega)]
theorem atX_len {x : List (List Int)} (h : Wh x) (j : Nat) : (atX x j).length = 32 := by
  unfold atX
  split
  · next h1 => exact wh_get h h1
  · exact zid_len
theorem after_at {x : List (List Int)} (hn : x.Nodup) {j : Nat} (hj : j < x.length) : (afterX x (x.getD j [])).getD zid = atX x (j + 1) ∧ (afterX x (x.getD j [])).isSome = decide (j + 1 < x.length) := by
  unfold afterX atX
  rw [idx_at hn hj]
  by_cases h : j + 1 < x.length
  · rw [if_pos h, if_pos h]; exact ⟨rfl, by simp [h]⟩
  · rw [if_neg h, if_neg h]; exact ⟨rfl, by simp [h]⟩
theorem take_next {x : List (List Int)} {j : Nat} (hj : j < x.length) : x.take j ++ [x.getD j []] = x.take (j + 1) := by
  rw [List.take_add_one, List.getD, List.getElem?_eq_getElem hj]
  rfl

theorem wpList_idc {ops : Array Oper} {rest : List Oper} {op : Oper} {a : Act} {w : World} {Q : Exit → Act → World → Prop} (hgd : op.guard = none) (ty : TypeId) (x y : Operand) (ho : op.op = .store ty x y)
    (cs : List Value) (hx : a.eval x = .pointer (some ⟨w.heap.size, 0, none⟩)) (hy : a.eval y = .agg cs.toArray)
    (hz : cs.length = 32) (hi : (Tryd.prog.info? ty).map (·.size) = some cs.length) (h1 : ∀ v ∈ cs, v.oneCell' = true)
    (h : ∀ w', Turns nobody w w' → w'.rangeAt w.heap.size 0 cs → w'.there w.heap.size 0 32 → w.heap.size < w'.heap.size → wpList Tryd.prog ops Q rest (a.put op.dst undef) w') : wpList Tryd.prog ops Q (op :: rest) a (w.alloc (.cells #[.int .u8 0, .int .u8 0, .int .u8 0, .int .u8 0, .int .u8 0, .int .u8 0, .int .u8 0, .int .u8 0, .int .u8 0, .int .u8 0, .int .u8 0, .int .u8 0, .int .u8 0, .int .u8 0, .int .u8 0, .int .u8 0, .int .u8 0, .int .u8 0, .int .u8 0, .int .u8 0, .int .u8 0, .int .u8 0, .int .u8 0, .int .u8 0, .int .u8 0, .int .u8 0, .int .u8 0, .int .u8 0, .int .u8 0, .int .u8 0, .int .u8 0, .int .u8 0] 31)) := by
  obtain ⟨g1, g2, g3⟩ := newcell (Turns.refl nobody (w.alloc (.cells #[.int .u8 0, .int .u8 0, .int .u8 0, .int .u8 0, .int .u8 0, .int .u8 0, .int .u8 0, .int .u8 0, .int .u8 0, .int .u8 0, .int .u8 0, .int .u8 0, .int .u8 0, .int .u8 0, .int .u8 0, .int .u8 0, .int .u8 0, .int .u8 0, .int .u8 0, .int .u8 0, .int .u8 0, .int .u8 0, .int .u8 0, .int .u8 0, .int .u8 0, .int .u8 0, .int .u8 0, .int .u8 0, .int .u8 0, .int .u8 0, .int .u8 0, .int .u8 0] 31))) cs hz
  refine wpList_store_mid hgd ty x y ho _ _ _ hx hy g1 (by rw [List.size_toArray]; exact hi) (all_oneCell_toArray h1) ?_
  rw [List.toList_toArray]
  have g4 : (w.alloc (.cells #[.int .u8 0, .int .u8 0, .int .u8 0, .int .u8 0, .int .u8 0, .int .u8 0, .int .u8 0, .int .u8 0, .int .u8 0, .int .u8 0, .int .u8 0, .int .u8 0, .int .u8 0, .int .u8 0, .int .u8 0, .int .u8 0, .int .u8 0, .int .u8 0, .int .u8 0, .int .u8 0, .int .u8 0, .int .u8 0, .int .u8 0, .int .u8 0, .int .u8 0, .int .u8 0, .int .u8 0, .int .u8 0, .int .u8 0, .int .u8 0, .int .u8 0, .int .u8 0] 31)).there w.heap.size 0 32 := fun j hj => g1 j (by show j < cs.toArray.size; rw [List.size_toArray, hz]; exact hj)
  exact h _ g2 g3 (World.there_setCells g4 _ 0 _) (Nat.lt_of_lt_of_le (by simp) (turns_set _ cs 0 _).size)


end Go.Proofs.YtjnplcajajdkiaaDoor.lru
