/- LruZero: the walk. -/
import Derived.Test.YtjjapnphljhicadLruZero
namespace Go.Proofs.Ytjjapnphljhicad.lru
open Go.RowKit
open Go.Proofs.Ytjjapnphljhicad.stepkit Go.Proofs.Ytjjapnphljhicad.eqkit Go.Proofs.Ytjjapnphljhicad.idkit Go.Proofs.Ytjjapnphljhicad.obj Go.Proofs.Ytjjapnphljhicad.row Go.Proofs.Ytjjapnphljhicad.mapkit Go.Proofs.Ytjjapnphljhicad.mix

theorem oldest_nil (w : World) : Calls Try.prog 18 #[.pointer none] w fun e w' => e = .returned (.tuple #[.agg (idc zid).toArray, .bool false]) ∧ Turns nobody w w' := by
  have HI := Lib.hid (idcell (Turns.refl nobody (w.alloc _)) (idc zid) (by rw [idc_len, zid_len]))
  have HS := Lib.hid (sizeId zid_len)
  have HB := Lib.hid build_zero
  have hl := zid_len
  generalize zid = z0 at *
  go_enter Try.func18, Try.ntmps18
  go_wp2_with first
    | (go_at_call 20; refine (none_nil _).mono ?_; rintro e w' ⟨rfl, rfl⟩)
    | (with_reducible refine wpList_exec (exec_build _ _ rfl #[] (by kernel_rfl) (HB.out _)) (by first | rfl | go_simp) ?_)
    | (refine wpList_store_mid rfl _ _ _ rfl _ _ _ rfl rfl HI.out.1 (by rw [List.size_toArray]; exact HS.out) (all_oneCell_toArray (idc_one _)) ?_; rw [List.toList_toArray])
  refine bodyPost_ret (results_id rfl _ _ rfl rfl HI.out.2.2 hl) rfl ?_
  exact ⟨rfl, HI.out.2.1⟩
theorem after_unmade (p : Nat) (id : List Int) (w : World) (h : w.heap[p]? = some (.cells #[.pointer none, .map none] 47 (0, 0))) : Calls Try.prog 16 #[.pointer (some ⟨p, 0, none⟩), .agg (idc id).toArray] w fun e w' => e = .returned (.tuple #[.agg (idc zid).toArray, .bool false]) ∧ Turns nobody w w' := by
  obtain ⟨w0, hw0⟩ : ∃ w0, w0 = w.alloc (.cells (idc id).toArray 24) := ⟨_, rfl⟩
  have ht0 : Turns nobody w w0 := by rw [hw0]; exact (Turns.refl _ _).alloc _
  have hz0 : w0.heap.size = w.heap.size + 1 := by rw [hw0]; simp
  have hi := idcell (w := w0) (Turns.refl nobody (w0.alloc _)) (idc zid) (by rw [idc_len, zid_len])
  have c1 : (w0.alloc (.cells #[.int .u8 0, .int .u8 0, .int .u8 0, .int .u8 0, .int .u8 0, .int .u8 0, .int .u8 0, .int .u8 0, .int .u8 0, .int .u8 0, .int .u8 0, .int .u8 0, .int .u8 0, .int .u8 0, .int .u8 0, .int .u8 0, .int .u8 0, .int .u8 0, .int .u8 0, .int .u8 0, .int .u8 0, .int .u8 0, .int .u8 0, .int .u8 0, .int .u8 0, .int .u8 0, .int .u8 0, .int .u8 0, .int .u8 0, .int .u8 0, .int .u8 0, .int .u8 0] 24)).cell? ⟨p, 0, none⟩ = some (.pointer none) := cells_of (heap_newer h (ht0.alloc _) (fun h => h)) 0 _ rfl
  rw [hz0] at hi
  have HI := Lib.hid hi
  have HS := Lib.hid (sizeId zid_len)
  have HB := Lib.hid build_zero
  have hl := zid_len
  have HW0 := Lib.hid hw0
  have HT0 := Lib.hid ht0
  clear hi hz0 ht0 hw0 h
  generalize zid = z0 at *
  go_enter Try.func16, Try.ntmps16
  go_wp2_with first
    | (go_at_call 20; rw [← HW0.out]; refine (none_zero _ _ c1).mono ?_; rintro e w' ⟨rfl, rfl⟩)
    | (with_reducible refine wpList_exec (exec_build _ _ rfl #[] (by kernel_rfl) (HB.out _)) (by first | rfl | go_simp) ?_)
    | (refine wpList_store_mid rfl _ _ _ rfl _ _ _ rfl rfl HI.out.1 (by rw [List.size_toArray]; exact HS.out) (all_oneCell_toArray (idc_one _)) ?_; rw [List.toList_toArray])
  refine bodyPost_ret (results_id rfl _ _ rfl rfl HI.out.2.2 hl) rfl ?_
  exact ⟨rfl, HT0.out.trans HI.out.2.1 (fun _ h => h.elim)⟩

set_option maxRecDepth 10000 in
set_option maxHeartbeats 1000000 in
theorem zero_any (id : List Int) (hid : id.length = 32) (w : World) : Calls Try.prog 6 #[.agg (idc id).toArray] w fun e w' => e = .returned (.bool true) ∧ Below w.heap.size w w' := by
  obtain ⟨w1, hw1⟩ : ∃ w1, w1 = w.alloc (.cells (idc id).toArray 24) := ⟨_, rfl⟩
  have ht1 : Turns nobody w w1 := by rw [hw1]; exact (Turns.refl _ _).alloc _
  have hb1 : w1.heap[w.heap.size]? = some (.cells (idc id).toArray 24 (0, 0)) := by rw [hw1]; exact heap_alloc_new w _
  obtain ⟨w2, hw2⟩ : ∃ w2, w2 = w1.alloc (.cells #[.pointer none, .map none] 47) := ⟨_, rfl⟩
  have ht2 : Turns nobody w1 w2 := by rw [hw2]; exact (Turns.refl _ _).alloc _
  have e1 : w1.heap.size = w.heap.size + 1 := by rw [hw1]; simp
  have hb2 := heap_newer hb1 ht2 (fun h => h)
  have hz2 : w2.heap[w1.heap.size]? = some (.cells #[.pointer none, .map none] 47 (0, 0)) := by rw [hw2]; exact heap_alloc_new w1 _
  rw [e1] at hz2
  have HX : Hid (∀ W, Turns nobody w2 W → W.rangeAt w.heap.size 0 (idc id)) := Lib.hid fun W h => by have := range_block (heap_newer hb2 h (fun h => h)); rwa [List.toList_toArray] at this
  have HZ : Hid (∀ W, Turns nobody w2 W → W.heap[w.heap.size + 1]? = some (.cells #[.pointer none, .map none] 47 (0, 0))) := Lib.hid fun W h => heap_newer hz2 h (fun h => h)
  have SX := Lib.hid (sizeId hid)
  have SZ := Lib.hid (sizeId zid_len)
  have HIC := Lib.hid (fun W => idcell (Turns.refl nobody (World.alloc W _)) (idc zid) (by rw [idc_len, zid_len]))
  have H0 := Lib.hid (ht1.trans ht2 (fun _ h => False.elim h))
  have W1 := Lib.hid hw1
  have W2 := Lib.hid hw2
  have hT := Turns.refl nobody w2
  have fin : ∀ W, Turns nobody w2 W → Below w.heap.size w W := fun W h => (H0.out.trans h (fun _ h => False.elim h)).below (Nat.le_refl _) (fun _ h => False.elim h)
  have A1 := oldest_nil
  have A2 := fun W h => after_unmade (w.heap.size + 1) id W h
  clear e1 hw1 hw2 ht1 ht2 hb1 hb2 hz2
  generalize zid = z0 at *
  go_enter Try.func6, Try.ntmps6
  go_upto_region 3 with fail
  rw [← W1.out, ← W2.out]
  go_wp2_with first
    | (with_reducible refine wpList_exec (exec_load_mid _ _ rfl _ _ rfl (idc id) _ (HX.out _ hT) Try.underlying24 rfl SX.out) (by first | rfl | go_simp) ?_)
    | (refine wpList_store_mid rfl _ _ _ rfl _ _ _ rfl rfl (HIC.out _).1 (by rw [List.size_toArray]; exact SZ.out) (all_oneCell_toArray (idc_one _)) ?_; rw [List.toList_toArray]; replace hT := hT.trans (HIC.out _).2.1 (fun _ h => False.elim h))
    | (go_at_call 8; (with_reducible refine (use_nil _ _).mono ?_); rintro e w' ⟨rfl, g⟩; replace hT := hT.trans g (fun _ h => False.elim h))
    | (go_at_call 8; (with_reducible refine (use_unmade _ _ _ (HZ.out _ hT)).mono ?_); rintro e w' ⟨rfl, g⟩; replace hT := hT.trans g (fun _ h => False.elim h))
    | (go_at_call 9; (with_reducible refine (drop_nil _ _).mono ?_); rintro e w' ⟨rfl, g⟩; replace hT := hT.trans g (fun _ h => False.elim h))
    | (go_at_call 9; (with_reducible refine (drop_unmade _ _ _ (HZ.out _ hT)).mono ?_); rintro e w' ⟨rfl, g⟩; replace hT := hT.trans g (fun _ h => False.elim h))
    | (go_at_call 10; (with_reducible refine (all_nil _).mono ?_); rintro e w' ⟨rfl, g⟩; replace hT := hT.trans g (fun _ h => False.elim h))
    | (go_at_call 10; (with_reducible refine (all_unmade _ _ (HZ.out _ hT)).mono ?_); rintro e w' ⟨rfl, g⟩; replace hT := hT.trans g (fun _ h => False.elim h))
    | (go_at_call 19; (with_reducible refine (len_nil _).mono ?_); rintro e w' ⟨rfl, g⟩; replace hT := hT.trans g (fun _ h => False.elim h))
    | (go_at_call 19; (with_reducible refine (len_unmade _ _ (HZ.out _ hT)).mono ?_); rintro e w' ⟨rfl, g⟩; replace hT := hT.trans g (fun _ h => False.elim h))
    | (go_at_call 18; (with_reducible refine (A1 _).mono ?_); rintro e w' ⟨rfl, g⟩; replace hT := hT.trans g (fun _ h => False.elim h))
    | (go_at_call 16; (with_reducible refine (A2 _ (HZ.out _ hT)).mono ?_); rintro e w' ⟨rfl, g⟩; replace hT := hT.trans g (fun _ h => False.elim h))
    | (go_at_call 13; refine (awake_any _).mono ?_; rintro e w' ⟨rfl, g⟩; replace hT := hT.trans g (fun _ h => False.elim h))
  go_ret
  exact ⟨rfl, fin _ hT⟩

end Go.Proofs.Ytjjapnphljhicad.lru
