/- ChaseZero: the walk. -/
import Derived.Test.YtcgnadihjbdolabChaseZero
namespace Go.Proofs.Ytcgnadihjbdolab.chase
open Go.RowKit
open Go.Proofs.Ytcgnadihjbdolab.stepkit Go.Proofs.Ytcgnadihjbdolab.row Go.Proofs.Ytcgnadihjbdolab.mix Go.Proofs.Ytcgnadihjbdolab.obj Go.Proofs.Ytcgnadihjbdolab.eqkit Go.Proofs.Ytcgnadihjbdolab.idkit

set_option maxRecDepth 10000 in
set_option maxHeartbeats 1000000 in
theorem zero_any (id : List Int) (hid : id.length = 32) (now : Int) (w : World) : Calls Try.prog 5 #[idv id, .int .i64 now] w fun e w' => e = .returned (.bool true) ∧ Below w.heap.size w w' := by
  obtain ⟨w1, hw1⟩ : ∃ w1, w1 = w.alloc (.cells (idc id).toArray 26) := ⟨_, rfl⟩
  have ht1 : Turns nobody w w1 := by rw [hw1]; exact (Turns.refl _ _).alloc _
  have hb1 : w1.heap[w.heap.size]? = some (.cells (idc id).toArray 26 (0, 0)) := by rw [hw1]; exact heap_alloc_new w _
  obtain ⟨w2, hw2⟩ : ∃ w2, w2 = w1.alloc (.cells #[.slice none 0 0, .bool false] 42) := ⟨_, rfl⟩
  have ht2 : Turns nobody w1 w2 := by rw [hw2]; exact (Turns.refl _ _).alloc _
  have e1 : w1.heap.size = w.heap.size + 1 := by rw [hw1]; simp
  have hb2 := heap_newer hb1 ht2 (fun h => h)
  have hz2 : w2.heap[w1.heap.size]? = some (.cells #[.slice none 0 0, .bool false] 42 (0, 0)) := by rw [hw2]; exact heap_alloc_new w1 _
  rw [e1] at hz2
  have HX : Hid (∀ W, Turns nobody w2 W → W.rangeAt w.heap.size 0 (idc id)) := Lib.hid fun W h => range_id (heap_newer hb2 h (fun h => h))
  have HZ : Hid (∀ W, Turns nobody w2 W → W.heap[w.heap.size + 1]? = some (.cells #[.slice none 0 0, .bool false] 42 (0, 0))) := Lib.hid fun W h => heap_newer hz2 h (fun h => h)
  have S1 := Lib.hid (show (Try.prog.info? 26).map (·.size) = some (idc id).length by rw [infoId, idc_len, hid])
  have H0 := Lib.hid (ht1.trans ht2 (fun _ h => False.elim h))
  have W1 := Lib.hid hw1
  have W2 := Lib.hid hw2
  have hT := Turns.refl nobody w2
  have fin : ∀ W, Turns nobody w2 W → Below w.heap.size w W := fun W h => (H0.out.trans h (fun _ h => False.elim h)).below (Nat.le_refl _) (fun _ h => False.elim h)
  have A1 := fun W => want_nil id 1 now W
  have A2 := fun W h => want_unmade (w.heap.size + 1) id 1 now W h
  have A3 := fun W => done_nil id W
  have A4 := fun W h => done_unmade (w.heap.size + 1) id W h
  unfold idv at A1 A2 A3 A4
  clear e1 hw1 hw2 ht1 ht2 hb1 hb2 hz2
  unfold idv
  go_enter Try.func5, Try.ntmps5
  go_wp2_with first
    | (try (rw [← W1.out]); try (rw [← W2.out])
       with_reducible refine wpList_exec (exec_load_mid _ _ rfl _ _ rfl (idc id) _ (HX.out _ hT) Try.underlying26 rfl S1.out) (by first | rfl | go_simp) ?_)
    | (go_at_call 8; (with_reducible refine (A1 _).mono ?_); rintro e w' ⟨rfl, g⟩; replace hT := hT.trans g (fun _ h => False.elim h))
    | (go_at_call 8; (with_reducible refine (A2 _ (HZ.out _ hT)).mono ?_); rintro e w' ⟨rfl, g⟩; replace hT := hT.trans g (fun _ h => False.elim h))
    | (go_at_call 7; (with_reducible refine (A3 _).mono ?_); rintro e w' ⟨rfl, g⟩; replace hT := hT.trans g (fun _ h => False.elim h))
    | (go_at_call 7; (with_reducible refine (A4 _ (HZ.out _ hT)).mono ?_); rintro e w' ⟨rfl, g⟩; replace hT := hT.trans g (fun _ h => False.elim h))
    | (go_at_call 11; (with_reducible refine (over_nil now _).mono ?_); rintro e w' ⟨rfl, g⟩; replace hT := hT.trans g (fun _ h => False.elim h))
    | (go_at_call 11; (with_reducible refine (over_unmade _ now _ (HZ.out _ hT)).mono ?_); rintro e w' ⟨rfl, g⟩; replace hT := hT.trans g (fun _ h => False.elim h))
    | (go_at_call 9; (with_reducible refine (all_nil _).mono ?_); rintro e w' ⟨rfl, g⟩; replace hT := hT.trans g (fun _ h => False.elim h))
    | (go_at_call 9; (with_reducible refine (all_unmade _ _ (HZ.out _ hT)).mono ?_); rintro e w' ⟨rfl, g⟩; replace hT := hT.trans g (fun _ h => False.elim h))
    | (go_at_call 12; (with_reducible refine (len_nil _).mono ?_); rintro e w' ⟨rfl, g⟩; replace hT := hT.trans g (fun _ h => False.elim h))
    | (go_at_call 12; (with_reducible refine (len_unmade _ _ (HZ.out _ hT)).mono ?_); rintro e w' ⟨rfl, g⟩; replace hT := hT.trans g (fun _ h => False.elim h))
    | (go_at_call 10; refine (awake_any _).mono ?_; rintro e w' ⟨rfl, g⟩; replace hT := hT.trans g (fun _ h => False.elim h))
  go_ret
  exact ⟨rfl, fin _ hT⟩

end Go.Proofs.Ytcgnadihjbdolab.chase
