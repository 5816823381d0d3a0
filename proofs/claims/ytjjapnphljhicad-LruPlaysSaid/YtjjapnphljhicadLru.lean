/- Package lru: the methods of a node and a list. -/
import Derived.Test.YtjjapnphljhicadLruRing
import Derived.Test.YtjjapnphljhicadFork
import Derived.Test.YtjjapnphljhicadGrowKit
import Derived.Deep.QuietTactic
import Derived.BigQuiet
import Derived.WalkSmall
namespace Go.Proofs.Ytjjapnphljhicad.lru
open Go.RowKit
open Go.Proofs.Ytjjapnphljhicad.stepkit Go.Proofs.Ytjjapnphljhicad.eqkit Go.Proofs.Ytjjapnphljhicad.idkit Go.Proofs.Ytjjapnphljhicad.obj Go.Proofs.Ytjjapnphljhicad.row Go.Proofs.Ytjjapnphljhicad.mapkit Go.Proofs.Ytjjapnphljhicad.mix

def zid : List Int := List.replicate 32 0
theorem zid_len : zid.length = 32 := by decide
theorem cells_of {w : World} {p : Nat} {cs : Array Value} {t : TypeId} (h : w.heap[p]? = some (.cells cs t (0, 0))) (i : Nat) (v : Value) (hv : cs[i]? = some v) : w.cell? ⟨p, i, none⟩ = some v := by simp [World.cell?, h, hv]
theorem free_of {w : World} {p : Nat} {cs : Array Value} {t : TypeId} (h : w.heap[p]? = some (.cells cs t (0, 0))) (i : Nat) : w.frozen? ⟨p, i, none⟩ = false := by simp [World.frozen?, h]

theorem none_no (p r : Nat) (w : World) (h : w.cell? ⟨p, 0, none⟩ = some (ptr r)) :
    Calls Try.prog 20 #[.pointer (some ⟨p, 0, none⟩)] w fun e w' => e = .returned (.bool false) ∧ w = w' := by
  unfold ptr at h
  go_enter Try.func20, Try.ntmps20
  go_wp2
  go_ret
  exact ⟨rfl, rfl⟩
theorem none_zero (p : Nat) (w : World) (h : w.cell? ⟨p, 0, none⟩ = some (.pointer none)) :
    Calls Try.prog 20 #[.pointer (some ⟨p, 0, none⟩)] w fun e w' => e = .returned (.bool true) ∧ w = w' := by
  go_enter Try.func20, Try.ntmps20
  go_wp2
  go_ret
  exact ⟨rfl, rfl⟩
theorem none_nil (w : World) :
    Calls Try.prog 20 #[.pointer none] w fun e w' => e = .returned (.bool true) ∧ w = w' := by
  go_enter Try.func20, Try.ntmps20
  go_wp2
  go_ret
  exact ⟨rfl, rfl⟩

def inRing (L : List (List Int × Nat)) : Nat → Prop := fun i => ∃ x ∈ L, x.2 = i
theorem in_ring {L : List (List Int × Nat)} {i : Nat} (h : i < L.length) : inRing L (at' L i).2 := ⟨_, at_mem h, rfl⟩

set_option maxRecDepth 10000 in
set_option maxHeartbeats 400000 in
theorem cut_any (L : List (List Int × Nat)) (w : World) (h : Ring L w) (k : Nat) (hk1 : 1 ≤ k) (hk : k < L.length) :
    Calls Try.prog 21 #[.pointer (some ⟨(at' L k).2, 0, none⟩)] w fun e w' => e = .returned (.tuple #[]) ∧ Ring (L.eraseIdx k) w' ∧ Nd w' (at' L k).2 (at' L k).1 (.pointer none) (.pointer none) ∧ Turns (inRing L) w w' := by
  have hpk : pv L.length k < L.length := by unfold pv; split <;> omega
  have hnk : nx L.length k < L.length := by unfold nx; split <;> omega
  have hd : Ring L w.drew := h.keep (F := nobody) ((Turns.refl _ _).drew) (fun _ _ h => h)
  have hc := hd.cut hk1 hk
  have n0 := hd.nd k hk
  have np := hd.nd _ hpk
  have nn := hd.nd _ hnk
  have hpb : (at' L (pv L.length k)).2 ≠ (at' L k).2 := fun e => by have := h.ne hpk hk e; unfold pv at this; split at this <;> omega
  have hnb : (at' L (nx L.length k)).2 ≠ (at' L k).2 := fun e => by have := h.ne hnk hk e; unfold nx at this; split at this <;> omega
  have hT : Turns (inRing L) w (cutW w.drew (at' L (pv L.length k)).2 (at' L (nx L.length k)).2 (at' L k).2) := by
    unfold cutW
    exact ((((Turns.refl _ _).drew.setCell _ _ _ (Or.inl (in_ring hpk))).setCell _ _ _ (Or.inl (in_ring hnk))).setCell _ _ _ (Or.inl (in_ring hk))).setCell _ _ _ (Or.inl (in_ring hk))
  have hl := h.len hk
  have hlp := h.len hpk
  have hln := h.len hnk
  generalize (at' L (pv L.length k)).2 = P at *
  generalize (at' L (nx L.length k)).2 = N at *
  generalize (at' L k).2 = b at *
  obtain ⟨_, c32, c33⟩ := n0.cells hl
  have s1 := np.next hlp (ptr N)
  generalize hW0 : w.drew = W0 at *
  obtain ⟨W1, hW1⟩ : ∃ W1, W1 = W0.setCell ⟨P, 33, none⟩ (ptr N) := ⟨_, rfl⟩
  have n1 : ∃ i p q, i.length = 32 ∧ Nd W1 N i p q := by
    by_cases e : N = P
    · rw [hW1, e]
      rw [e] at s1
      exact ⟨_, _, _, hlp, s1⟩
    · rw [hW1]; exact ⟨_, _, _, hln, nn.other e _ _⟩
  obtain ⟨iN, pN, qN, hlN, n1⟩ := n1
  have b1 : Nd W1 b (at' L k).1 (ptr P) (ptr N) := by rw [hW1]; exact n0.other hpb.symm _ _
  obtain ⟨W2, hW2⟩ : ∃ W2, W2 = W1.setCell ⟨N, 32, none⟩ (ptr P) := ⟨_, rfl⟩
  have b2 : Nd W2 b (at' L k).1 (ptr P) (ptr N) := by rw [hW2]; exact b1.other hnb.symm _ _
  have b3 := b2.prev hl (.pointer none)
  obtain ⟨_, _, e1⟩ := np.cells hlp
  have f1 := np.free 33
  obtain ⟨_, e2, _⟩ := n1.cells hlN
  have f2 := n1.free 32
  obtain ⟨_, e3, e3'⟩ := b2.cells hl
  have f3 := b2.free 32
  have f3' := b2.free 33
  obtain ⟨_, _, e4⟩ := b3.cells hl
  have f4 := b3.free 33
  obtain ⟨_, g32, g33⟩ := b1.cells hl
  have HC := Lib.hid hc
  have HT := Lib.hid hT
  have HW1 := Lib.hid hW1
  have HW2 := Lib.hid hW2
  have HW0 := Lib.hid hW0
  have hcw : ∃ W, W = cutW W0 P N b := ⟨_, rfl⟩
  obtain ⟨W, hW⟩ := hcw
  have HW := Lib.hid hW
  unfold cutW at hW
  rw [← hW1, ← hW2] at hW
  have HW' := Lib.hid hW
  rw [← HW.out] at HC HT
  clear hc hT hW1 hW2 hW0 hW n0 np nn s1 n1 b1 b2 b3 hd h hpk hnk
  unfold ptr at *
  go_enter Try.func21, Try.ntmps21
  go_wp2
  refine wp_region_mix [(0, true, true), (1, true, true), (2, true, true), (3, true, true), (4, true, true), (5, true, true), (6, true, true), (7, true, true), (8, true, true), (9, true, true), (10, true, true), (11, true, true), (12, true, true), (13, true, true), (14, true, true), (15, true, true), (16, true, true), (17, true, true), (18, true, true), (19, true, true), (20, true, true), (21, true, true), (22, true, true), (23, false, true), (24, true, true), (25, true, true), (26, true, true), (27, false, false)] (fun W => W.cell? ⟨b, 32, none⟩ = some (.pointer (some ⟨P, 0, none⟩)) ∧ W.cell? ⟨b, 33, none⟩ = some (.pointer (some ⟨N, 0, none⟩))) (by kernel_rfl) (by kernel_rfl) (⟨(by rw [HW0.out]; exact c32), (by rw [HW0.out]; exact c33)⟩) ?_
  rw [HW0.out]
  simp only [picked, List.filterMap_cons, List.filterMap_nil, List.getElem?_toArray, List.getElem?_cons_zero, List.getElem?_cons_succ, Option.map_some]
  repeat (refine mix_free (v := ?_) rfl ?_ ?_; rotate_left; (focus (intro w' hI; obtain ⟨z1, z2⟩ := hI; go_simp; try with_reducible rfl)); simp only [Act.put, List.setIfInBounds_toArray, List.set_cons_zero, List.set_cons_succ])
  refine mix_big rfl (fun K hK => ?_)
  clear c32 c33
  go_wp2
  rw [← HW1.out]
  refine hK _ _ (fun _ => ⟨g32, g33⟩) ?_
  clear hK K
  repeat (refine mix_free (v := ?_) rfl ?_ ?_; rotate_left; (focus (intro w' hI; go_simp; try with_reducible rfl)); simp only [Act.put, List.setIfInBounds_toArray, List.set_cons_zero, List.set_cons_succ])
  refine mix_big rfl (fun K hK => ?_)
  go_wp2
  rw [← HW2.out]
  refine hK _ _ (fun h => by cases h) ?_
  clear hK K
  refine mix_nil ?_
  clear e1 f1 e2 f2 g32 g33
  go_wp2
  rw [← HW'.out]
  go_end0
  exact ⟨rfl, HC.out.1, HC.out.2, HT.out⟩

set_option maxRecDepth 10000 in
set_option maxHeartbeats 400000 in
theorem hang_any (p r mb : Nat) (L : List (List Int × Nat)) (w : World) (h : Ring L w) (h1 : 1 ≤ L.length) (h0 : (at' L 0).2 = r) (hp : w.heap[p]? = some (.cells #[ptr r, .map (some mb)] 47 (0, 0))) (b : Nat) (id : List Int)
    (hb : Nd w b id (.pointer none) (.pointer none)) (hl : id.length = 32) (hn : ∀ x ∈ L, x.2 ≠ b) :
    Calls Try.prog 22 #[.pointer (some ⟨p, 0, none⟩), .pointer (some ⟨b, 0, none⟩)] w fun e w' => e = .returned (.tuple #[]) ∧ Ring (L ++ [(id, b)]) w' ∧ Turns (fun i => i = b ∨ inRing L i) w w' := by
  have hpb : b ≠ p := fun e => by rw [e] at hb; unfold Nd at hb; rw [hp] at hb; simp at hb
  have hlast : L.length - 1 < L.length := by omega
  have n0 := h.nd 0 (by omega)
  have epv : pv L.length 0 = L.length - 1 := by unfold pv; simp
  rw [epv, h0] at n0
  have nl := h.nd _ hlast
  have hlr := h.len (i := 0) (by omega)
  have hll := h.len hlast
  have hbl : (at' L (L.length - 1)).2 ≠ b := hn _ (at_mem hlast)
  have hbr : r ≠ b := by rw [← h0]; exact hn _ (at_mem (by omega))
  have hir : inRing L r := by rw [← h0]; exact in_ring (by omega)
  have hil := in_ring hlast
  generalize hlt : (at' L (L.length - 1)).2 = last at *
  generalize hW0 : w.drew = W0 at *
  have ht0 : Turns nobody w W0 := by rw [← hW0]; exact (Turns.refl _ _).drew
  obtain ⟨W1, hW1⟩ : ∃ W1, W1 = ((W0.setCell ⟨b, 32, none⟩ (ptr last)).setCell ⟨b, 33, none⟩ (ptr r)).drew := ⟨_, rfl⟩
  have ht1 : Turns (fun i => i = b) w W1 := by rw [hW1]; exact (((ht0.mono (G := fun i => i = b) (fun _ h => h.elim)).setCell b _ _ (Or.inl rfl)).setCell b _ _ (Or.inl rfl)).drew
  have b0 := hb.keep ht0 (fun h => h)
  have b1' := b0.prev hl (ptr last)
  have b1 : Nd W1 b id (ptr last) (ptr r) := by
    rw [hW1]
    exact (b1'.next hl (ptr r)).keep (F := nobody) ((Turns.refl _ _).drew) (fun h => h)
  have r1 : Ring L W1 := h.keep ht1 (fun x hx e => hn x hx e)
  have hh := r1.hang h1 (b := b) (id := id) (by rw [hlt, h0]; exact b1) hl hn
  rw [hlt, h0] at hh
  have hp0 := heap_newer hp ht0 (fun h => h)
  have hp1 := heap_newer hp ht1 (fun e => hpb e.symm)
  have d0 : W0.cell? ⟨p, 0, none⟩ = some (ptr r) := cells_of hp0 0 _ rfl
  have d1 : W1.cell? ⟨p, 0, none⟩ = some (ptr r) := cells_of hp1 0 _ rfl
  obtain ⟨_, q32, q33⟩ := (n0.keep ht0 (fun h => h)).cells hlr
  obtain ⟨_, e1, _⟩ := b0.cells hl
  have f1 := b0.free 32
  obtain ⟨_, _, e2⟩ := b1'.cells hl
  have f2 := b1'.free 33
  obtain ⟨_, g32, g33⟩ := b1.cells hl
  have nl1 := nl.keep ht1 (fun e => hbl e)
  obtain ⟨_, _, e3⟩ := nl1.cells hll
  have f3 := nl1.free 33
  obtain ⟨W2, hW2⟩ : ∃ W2, W2 = W1.setCell ⟨last, 33, none⟩ (ptr b) := ⟨_, rfl⟩
  have nr1 := n0.keep ht1 (fun e => hbr e)
  have nr2 : ∃ p q, Nd W2 r (at' L 0).1 p q := by
    by_cases e : r = last
    · rw [hW2, ← e]; exact ⟨_, _, nr1.next hlr _⟩
    · rw [hW2]; exact ⟨_, _, nr1.other e _ _⟩
  obtain ⟨_, _, nr2⟩ := nr2
  obtain ⟨_, e4, _⟩ := nr2.cells hlr
  have f4 := nr2.free 32
  have hT : Turns (fun i => i = b ∨ inRing L i) w (W2.setCell ⟨r, 32, none⟩ (ptr b)) := by
    rw [hW2]
    exact ((ht1.mono (fun _ h => Or.inl (Or.inl h))).setCell _ _ _ (Or.inl (Or.inr hil))).setCell _ _ _ (Or.inl (Or.inr hir))
  have b2 : Nd W2 b id (ptr last) (ptr r) := by rw [hW2]; exact b1.other hbl.symm _ _
  have d2 : W2.cell? ⟨p, 0, none⟩ = some (ptr r) := by
    refine cells_of (t := 47) (cs := #[ptr r, .map (some mb)]) ?_ 0 _ rfl
    rw [hW2, Below.heap_setCell _ _ _ _ (fun e => by simp only at e; rw [← e] at nl1; unfold Nd at nl1; rw [hp1] at nl1; simp at nl1)]
    exact hp1
  obtain ⟨_, k32, _⟩ := b2.cells hl
  unfold hangW at hh
  rw [← hW2] at hh
  have HH := Lib.hid hh
  have HT := Lib.hid hT
  have HW0 := Lib.hid hW0
  have HW1 := Lib.hid hW1
  have HW2 := Lib.hid hW2
  clear hh hT hW0 hW1 hW2 ht0 ht1 b0 b1' b1 r1 hp0 hp1 nl1 nr1 nr2 b2 n0 nl h hb hn h0 hlt epv hp h1 hlast
  unfold ptr at *
  go_enter Try.func22, Try.ntmps22
  go_wp2
  refine wp_region_mix [(0, true, true), (1, true, true), (2, true, true), (3, true, true), (4, true, true), (5, true, true), (6, true, true), (7, true, true), (8, true, true), (9, true, true), (10, true, true), (11, true, true), (12, true, true), (13, true, true), (14, true, true), (15, true, true), (16, false, false)] (fun W => W.cell? ⟨p, 0, none⟩ = some (.pointer (some ⟨r, 0, none⟩)) ∧ W.cell? ⟨r, 32, none⟩ = some (.pointer (some ⟨last, 0, none⟩))) (by kernel_rfl) (by kernel_rfl) (⟨(by rw [HW0.out]; exact d0), (by rw [HW0.out]; exact q32)⟩) ?_
  rw [HW0.out]
  simp only [picked, List.filterMap_cons, List.filterMap_nil, List.getElem?_toArray, List.getElem?_cons_zero, List.getElem?_cons_succ, Option.map_some]
  repeat (refine mix_free (v := ?_) rfl ?_ ?_; rotate_left; (focus (intro w' hI; obtain ⟨z1, z2⟩ := hI; go_simp; try with_reducible rfl)); simp only [Act.put, List.setIfInBounds_toArray, List.set_cons_zero, List.set_cons_succ])
  refine mix_big rfl (fun K hK => ?_)
  go_wp2
  refine hK _ _ (fun h => by cases h) ?_
  clear hK K
  refine mix_nil ?_
  clear e1 f1 e2 f2
  go_wp2
  refine wp_region_mix [(0, true, true), (1, true, true), (2, true, true), (3, true, true), (4, true, true), (5, true, true), (6, true, true), (7, true, true), (8, true, true), (9, true, true), (10, true, true), (11, true, true), (12, true, true), (13, true, true), (14, false, true), (15, true, true), (16, true, true), (17, true, true), (18, false, false)] (fun W => W.cell? ⟨b, 32, none⟩ = some (.pointer (some ⟨last, 0, none⟩)) ∧ W.cell? ⟨p, 0, none⟩ = some (.pointer (some ⟨r, 0, none⟩))) (by kernel_rfl) (by kernel_rfl) (⟨(by rw [← HW1.out]; exact g32), (by rw [← HW1.out]; exact d1)⟩) ?_
  rw [← HW1.out]
  simp only [picked, List.filterMap_cons, List.filterMap_nil, List.getElem?_toArray, List.getElem?_cons_zero, List.getElem?_cons_succ, Option.map_some]
  repeat (refine mix_free (v := ?_) rfl ?_ ?_; rotate_left; (focus (intro w' hI; obtain ⟨z1, z2⟩ := hI; go_simp; try with_reducible rfl)); simp only [Act.put, List.setIfInBounds_toArray, List.set_cons_zero, List.set_cons_succ])
  refine mix_big rfl (fun K hK => ?_)
  go_wp2
  rw [← HW2.out]
  refine hK _ _ (fun _ => ⟨k32, d2⟩) ?_
  clear hK K
  repeat (refine mix_free (v := ?_) rfl ?_ ?_; rotate_left; (focus (intro w' hI; go_simp; try with_reducible rfl)); simp only [Act.put, List.setIfInBounds_toArray, List.set_cons_zero, List.set_cons_succ])
  refine mix_big rfl (fun K hK => ?_)
  go_wp2
  refine hK _ _ (fun h => by cases h) ?_
  clear hK K
  refine mix_nil ?_
  go_wp2
  go_end0
  exact ⟨rfl, HH.out, HT.out⟩

end Go.Proofs.Ytjjapnphljhicad.lru
