/- The document's file (petrelref10). -/
import Derived.Test.YtlhcmgjkhkcgcaaDoorBlockHeld
namespace Go.Proofs.YtlhcmgjkhkcgcaaDoor.block
open Go.RowKit
open Go.Proofs.YtlhcmgjkhkcgcaaDoor.stepkit Go.Proofs.YtlhcmgjkhkcgcaaDoor.mix Go.Proofs.YtlhcmgjkhkcgcaaDoor.row

def RefAt (w : World) (q : Nat) (l : List UInt8) (safe : Nat) : Prop :=
  safe ≤ l.length ∧ ∃ s : ByteArray, txt s l ∧ w.heap[q]? = some (.cells #[.string s, .int .i64 (safe : Int)] 66 (0, 0))

theorem txt_take' {b : ByteArray} {l : List UInt8} (h : txt b l) (k : Nat) (hk : k ≤ l.length) : txt (b.extract 0 k) (l.take k) := by
  rw [txt_take h k hk]; rfl

theorem RefAt.grown {w w' : World} {q : Nat} {l : List UInt8} {safe : Nat} {r : Option Nat} (h : RefAt w q l safe) (hg : w.grownBy w' r) (hr : r ≠ some q) : RefAt w' q l safe := by
  obtain ⟨h1, s, h2, h3⟩ := h
  exact ⟨h1, s, h2, by rw [hg.block q (lt_of_block h3) (fun e => hr e.symm)]; exact h3⟩

theorem ref_store {w : World} {q : Nat} {s : ByteArray} {x : Value} {t : ByteArray} {l : List UInt8} {k : Nat} (h : w.heap[q]? = some (.cells #[.string s, x] 66 (0, 0))) (ht : txt t l) (hk : k ≤ l.length) :
    RefAt ((w.setCell ⟨q, 0, none⟩ (.string t)).setCell ⟨q, 1, none⟩ (.int .i64 (k : Int))) q l k ∧ w.grownBy ((w.setCell ⟨q, 0, none⟩ (.string t)).setCell ⟨q, 1, none⟩ (.int .i64 (k : Int))) (some q) := by
  have h0 := heap_setCell_at h 0 (.string t)
  have h1 := heap_setCell_at h0 1 (.int .i64 (k : Int))
  exact ⟨⟨hk, t, ht, h1⟩, grownBy_trans (grownBy_setCell _ _ _ _) (grownBy_setCell _ _ _ _)⟩



set_option maxHeartbeats 1000000 in
theorem ref_crash (q : Nat) (l : List UInt8) (safe : Nat) (k : Int) (w : World) (h : RefAt w q l safe) (hl : l.length ≤ 140737488355328) (hk1 : -9223372036854775808 ≤ k) (hk2 : k ≤ 9223372036854775807) :
    Calls Tryd.prog 81 #[.pointer (some ⟨q, 0, none⟩), .int .i64 k] w fun e w' =>
      e = .returned (.int .i64 ((l.length : Int) - keepOf l.length safe k)) ∧ RefAt w' q (l.take (keepOf l.length safe k)) (keepOf l.length safe k) ∧ w.grownBy w' (some q) := by
  obtain ⟨hsl, s, hs, hp⟩ := h
  obtain ⟨kp, hkp0⟩ : ∃ kp, keepOf l.length safe k = kp := ⟨_, rfl⟩
  have hke : kp ≤ l.length := by rw [← hkp0]; exact keepOf_le hsl k
  have hkg : safe ≤ kp := by rw [← hkp0]; exact keepOf_ge _ _ _
  rw [hkp0]
  have HKP := Lib.hid hkp0
  clear hkp0
  have hz := txt_size hs
  obtain ⟨n, hn⟩ : ∃ n, l.length = n := ⟨_, rfl⟩
  rw [hn] at hz hsl hl HKP hke
  have c0 : ∀ W : World, (∃ m, W = w.drewN m) → W.cell? ⟨q, 0, none⟩ = some (.string s) ∧ W.cell? ⟨q, 1, none⟩ = some (.int .i64 (safe : Int)) := by
    rintro W ⟨m, rfl⟩
    exact ⟨cells_of hp 0 _ rfl, cells_of hp 1 _ rfl⟩
  have HC := Lib.hid c0
  have HP := Lib.hid hp
  have HN := Lib.hid hn
  clear c0 hp hn
  go_enter Tryd.func81, Tryd.ntmps81
  go_wp2_with fail
  refine wp_region_mix [(0, true, true), (1, true, true), (2, true, true), (3, true, true), (4, true, true), (5, true, true), (6, true, true), (7, true, true), (8, true, true), (9, true, true), (10, true, true), (11, true, true), (12, true, true), (13, true, true)] (fun w' => ∃ m, w' = w.drewN m) (by kernel_rfl) (by kernel_rfl) (⟨1, rfl⟩) ?_
  simp only [picked, List.filterMap_cons, List.filterMap_nil, List.getElem?_toArray, List.getElem?_cons_zero, List.getElem?_cons_succ, Option.map_some]
  repeat (refine mix_free (v := ?_) rfl ?_ ?_; rotate_left; (focus (intro w' hI; have hI2 := HC.out _ hI; obtain ⟨d0, d1⟩ := hI2; go_simp; try with_reducible rfl)); simp only [Act.put, List.setIfInBounds_toArray, List.set_cons_zero, List.set_cons_succ])
  refine mix_nil ?_
  have hw0 : IntKind.i64.wrap ((n : Int) - safe) = (n : Int) - safe := IntWalk.i64_in _ (by omega)
  obtain ⟨j, hj⟩ : ∃ j : Nat, kp = safe + j := ⟨kp - safe, by omega⟩
  obtain ⟨mm, hmm⟩ : ∃ mm, (if (n : Int) - safe < k then (n : Int) - safe else k) = mm := ⟨_, rfl⟩
  have hE : (if 0 < mm then mm else 0) = (j : Int) := by
    have h1 := HKP.out
    rw [← hmm]
    unfold keepOf at h1
    split <;> split <;> omega
  rw [hw0, hmm, hE]
  clear hE hmm
  go_wp2_with fail
  refine wp_region_mix [(0, true, true), (1, true, true), (2, true, true), (3, true, true), (4, true, true), (5, true, true), (6, true, true), (7, true, true), (8, true, true), (9, true, true), (10, true, true), (11, true, true), (12, true, true)] (fun w' => ∃ m, w' = w.drewN m) (by kernel_rfl) (by kernel_rfl) (⟨2, rfl⟩) ?_
  simp only [picked, List.filterMap_cons, List.filterMap_nil, List.getElem?_toArray, List.getElem?_cons_zero, List.getElem?_cons_succ, Option.map_some]
  repeat (refine mix_free (v := ?_) rfl ?_ ?_; rotate_left; (focus (intro w' hI; have hI2 := HC.out _ hI; obtain ⟨d0, d1⟩ := hI2; go_simp; try with_reducible rfl)); simp only [Act.put, List.setIfInBounds_toArray, List.set_cons_zero, List.set_cons_succ])
  refine mix_nil ?_
  have hw1 : IntKind.i64.wrap ((n : Int) - safe - j) = (n : Int) - kp := by rw [IntWalk.i64_in _ (by omega)]; omega
  rw [hw1]
  have hw2 : IntKind.i64.wrap ((safe : Int) + j) = (kp : Int) := by rw [IntWalk.i64_in _ (by omega)]; omega
  go_wp2_with fail
  refine wp_region_mix [(0, true, true), (1, true, true), (2, true, true), (3, true, true), (4, true, true), (5, true, true), (6, true, true), (7, true, true), (8, true, true), (9, true, true), (10, true, true), (11, true, true), (12, true, true), (13, true, true), (14, false, false)] (fun w' => ∃ m, w' = w.drewN m) (by kernel_rfl) (by kernel_rfl) (⟨3, rfl⟩) ?_
  simp only [picked, List.filterMap_cons, List.filterMap_nil, List.getElem?_toArray, List.getElem?_cons_zero, List.getElem?_cons_succ, Option.map_some]
  repeat (refine mix_free (v := ?_) rfl ?_ ?_; rotate_left; (focus (intro w' hI; have hI2 := HC.out _ hI; obtain ⟨d0, d1⟩ := hI2; have hn1 : ¬ (n < kp) := (by omega); have hn2 : ¬ (s.size < kp) := (by omega); go_simp; try with_reducible rfl)); simp only [Act.put, List.setIfInBounds_toArray, List.set_cons_zero, List.set_cons_succ])
  have hkc : (safe : Int) + j = (kp : Int) := by omega
  rw [hkc]
  clear hj hw2
  repeat (refine mix_free (v := ?_) rfl ?_ ?_; rotate_left; (focus (intro w' hI; have hI2 := HC.out _ hI; obtain ⟨d0, d1⟩ := hI2; have hn1 : ¬ (n < kp) := (by omega); have hn2 : ¬ (s.size < kp) := (by omega); go_simp; try with_reducible rfl)); simp only [Act.put, List.setIfInBounds_toArray, List.set_cons_zero, List.set_cons_succ])
  obtain ⟨w3, hw3⟩ : ∃ w3, w3 = w.drew.drew.drew := ⟨_, rfl⟩
  have hp3 : w3.heap[q]? = some (.cells #[.string s, .int .i64 (safe : Int)] 66 (0, 0)) := by rw [hw3]; exact HP.out
  have hg3 : w.grownBy w3 (some q) := by rw [hw3]; exact grownBy_drewN w 3 _
  rw [← hw3]
  clear hw3
  have e0 := cells_of hp3 0 _ rfl
  have e1 := cells_of hp3 1 _ rfl
  have f0 := free_of hp3 0
  have f1 := free_of hp3 1
  have hfin := ref_store (t := s.extract 0 kp) (l := l.take kp) (k := kp) hp3 (txt_take' hs kp (by rw [HN.out]; exact hke)) (by rw [List.length_take, HN.out]; omega)
  have hsz2 : (s.extract 0 kp).size = kp := by rw [txt_size (txt_take' hs kp (by rw [HN.out]; exact hke)), List.length_take, HN.out]; omega
  clear hp3
  refine mix_big rfl (fun K hK => ?_)
  go_wp2_with fail
  refine hK _ _ (fun h => by cases h) ?_
  clear hK K
  refine mix_nil ?_
  go_wp2_with fail
  go_ret
  exact ⟨by rw [HN.out]; rfl, hfin.1, grownBy_trans hg3 hfin.2⟩
end Go.Proofs.YtlhcmgjkhkcgcaaDoor.block
