/- StoreZero: the walk. -/
import Derived.Test.YtjnplcajajdkiaaDoorStoAwake
namespace Go.Proofs.YtjnplcajajdkiaaDoor.store
open Go.RowKit
open Go.Proofs.YtjnplcajajdkiaaDoor.stepkit Go.Proofs.YtjnplcajajdkiaaDoor.eqkit Go.Proofs.YtjnplcajajdkiaaDoor.idkit Go.Proofs.YtjnplcajajdkiaaDoor.obj Go.Proofs.YtjnplcajajdkiaaDoor.row Go.Proofs.YtjnplcajajdkiaaDoor.mapkit Go.Proofs.YtjnplcajajdkiaaDoor.mix Go.Proofs.YtjnplcajajdkiaaDoor.lru
open Go.Proofs.YtjnplcajajdkiaaDoor.sha (Tabs wpList_putc new32 range_of)

/-- A store that nobody made. -/
def NoStore (xv : Value) (w : World) : Prop := ∀ W, Turns nobody w W → Calls Tryd.prog 32 #[xv] W fun e w' => e = .returned (.bool true) ∧ W = w'
theorem NoStore.still {xv : Value} {w w' : World} (h : NoStore xv w) (ht : Turns nobody w w') : NoStore xv w' := fun W hW => h W (ht.trans hW (fun _ h => h.elim))

section
variable {xv : Value} {w : World}
set_option maxRecDepth 10000 in
theorem find_z (h : NoStore xv w) (id : List Int) (hid : id.length = 32) : Calls Tryd.prog 37 #[xv, .agg (idc id).toArray] w fun e w' => e = .returned (.tuple #[.pointer none, .int .i64 8]) ∧ Turns nobody w w' := by
  obtain ⟨w0, hw0⟩ : ∃ w0, w0 = w.alloc (.cells (idc id).toArray 31) := ⟨_, rfl⟩
  have ht0 : Turns nobody w w0 := by rw [hw0]; exact (Turns.refl _ _).alloc _
  have hx : w0.rangeAt w.heap.size 0 (idc id) := by rw [hw0]; exact range_of (heap_alloc_new w _)
  have hn := h.still ht0
  have HN := Lib.hid hn
  have HW0 := Lib.hid hw0
  have HX := Lib.hid hx
  have SX := Lib.hid (sizeId hid)
  have HT0 := Lib.hid ht0
  clear hw0 ht0 hx h hn
  go_enter Tryd.func37, Tryd.ntmps37
  go_wp2_with (go_at_call 32; rw [← HW0.out]; refine (HN.out _ (Turns.refl _ _)).mono ?_; rintro e w' ⟨rfl, rfl⟩)
  go_ret2
  exact ⟨rfl, HT0.out⟩
set_option maxRecDepth 10000 in
theorem get_z (h : NoStore xv w) (id : List Int) (hid : id.length = 32) : Calls Tryd.prog 23 #[xv, .agg (idc id).toArray] w fun e w' => e = .returned (.tuple #[.string ⟨#[]⟩, .int .i64 8]) ∧ Turns nobody w w' := by
  obtain ⟨w0, hw0⟩ : ∃ w0, w0 = w.alloc (.cells (idc id).toArray 31) := ⟨_, rfl⟩
  have ht0 : Turns nobody w w0 := by rw [hw0]; exact (Turns.refl _ _).alloc _
  have hx : w0.rangeAt w.heap.size 0 (idc id) := by rw [hw0]; exact range_of (heap_alloc_new w _)
  have hn := h.still ht0
  have HN := Lib.hid hn
  have HW0 := Lib.hid hw0
  have HX := Lib.hid hx
  have SX := Lib.hid (sizeId hid)
  have HT0 := Lib.hid ht0
  clear hw0 ht0 hx h hn
  have hf := find_z HN.out id hid
  go_enter Tryd.func23, Tryd.ntmps23
  go_wp2_with first
    | (with_reducible refine wpList_load_mid rfl _ _ rfl _ _ rfl _ _ (by rw [← HW0.out]; exact HX.out) Tryd.underlying31 rfl SX.out ?_)
    | (go_at_call 37; rw [← HW0.out]; refine hf.mono ?_; rintro e w1 ⟨rfl, t1⟩; have HT := Lib.hid (HT0.out.trans t1 (fun _ h => False.elim h)); clear t1)
  go_ret2
  exact ⟨rfl, HT.out⟩
set_option maxRecDepth 10000 in
theorem has_z (h : NoStore xv w) (id : List Int) (hid : id.length = 32) : Calls Tryd.prog 25 #[xv, .agg (idc id).toArray] w fun e w' => e = .returned (.bool false) ∧ Turns nobody w w' := by
  obtain ⟨w0, hw0⟩ : ∃ w0, w0 = w.alloc (.cells (idc id).toArray 31) := ⟨_, rfl⟩
  have ht0 : Turns nobody w w0 := by rw [hw0]; exact (Turns.refl _ _).alloc _
  have hx : w0.rangeAt w.heap.size 0 (idc id) := by rw [hw0]; exact range_of (heap_alloc_new w _)
  have hn := h.still ht0
  have HN := Lib.hid hn
  have HW0 := Lib.hid hw0
  have HX := Lib.hid hx
  have SX := Lib.hid (sizeId hid)
  have HT0 := Lib.hid ht0
  clear hw0 ht0 hx h hn
  have hf := find_z HN.out id hid
  go_enter Tryd.func25, Tryd.ntmps25
  go_wp2_with first
    | (with_reducible refine wpList_load_mid rfl _ _ rfl _ _ rfl _ _ (by rw [← HW0.out]; exact HX.out) Tryd.underlying31 rfl SX.out ?_)
    | (go_at_call 37; rw [← HW0.out]; refine hf.mono ?_; rintro e w1 ⟨rfl, t1⟩; have HT := Lib.hid (HT0.out.trans t1 (fun _ h => False.elim h)); clear t1)
  go_ret
  exact ⟨rfl, HT.out⟩
set_option maxRecDepth 10000 in
theorem use_z (h : NoStore xv w) (id : List Int) (hid : id.length = 32) : Calls Tryd.prog 11 #[xv, .agg (idc id).toArray] w fun e w' => e = .returned (.int .i64 8) ∧ Turns nobody w w' := by
  obtain ⟨w0, hw0⟩ : ∃ w0, w0 = w.alloc (.cells (idc id).toArray 31) := ⟨_, rfl⟩
  have ht0 : Turns nobody w w0 := by rw [hw0]; exact (Turns.refl _ _).alloc _
  have hx : w0.rangeAt w.heap.size 0 (idc id) := by rw [hw0]; exact range_of (heap_alloc_new w _)
  have hn := h.still ht0
  have HN := Lib.hid hn
  have HW0 := Lib.hid hw0
  have HX := Lib.hid hx
  have SX := Lib.hid (sizeId hid)
  have HT0 := Lib.hid ht0
  clear hw0 ht0 hx h hn
  have hf := find_z HN.out id hid
  go_enter Tryd.func11, Tryd.ntmps11
  go_wp2_with first
    | (with_reducible refine wpList_load_mid rfl _ _ rfl _ _ rfl _ _ (by rw [← HW0.out]; exact HX.out) Tryd.underlying31 rfl SX.out ?_)
    | (go_at_call 37; rw [← HW0.out]; refine hf.mono ?_; rintro e w1 ⟨rfl, t1⟩; have HT := Lib.hid (HT0.out.trans t1 (fun _ h => False.elim h)); clear t1)
  go_ret
  exact ⟨rfl, HT.out⟩
set_option maxRecDepth 10000 in
theorem pin_z (h : NoStore xv w) (id : List Int) (hid : id.length = 32) : Calls Tryd.prog 12 #[xv, .agg (idc id).toArray] w fun e w' => e = .returned (.int .i64 8) ∧ Turns nobody w w' := by
  obtain ⟨w0, hw0⟩ : ∃ w0, w0 = w.alloc (.cells (idc id).toArray 31) := ⟨_, rfl⟩
  have ht0 : Turns nobody w w0 := by rw [hw0]; exact (Turns.refl _ _).alloc _
  have hx : w0.rangeAt w.heap.size 0 (idc id) := by rw [hw0]; exact range_of (heap_alloc_new w _)
  have hn := h.still ht0
  have HN := Lib.hid hn
  have HW0 := Lib.hid hw0
  have HX := Lib.hid hx
  have SX := Lib.hid (sizeId hid)
  have HT0 := Lib.hid ht0
  clear hw0 ht0 hx h hn
  have hf := find_z HN.out id hid
  go_enter Tryd.func12, Tryd.ntmps12
  go_wp2_with first
    | (with_reducible refine wpList_load_mid rfl _ _ rfl _ _ rfl _ _ (by rw [← HW0.out]; exact HX.out) Tryd.underlying31 rfl SX.out ?_)
    | (go_at_call 37; rw [← HW0.out]; refine hf.mono ?_; rintro e w1 ⟨rfl, t1⟩; have HT := Lib.hid (HT0.out.trans t1 (fun _ h => False.elim h)); clear t1)
  go_ret
  exact ⟨rfl, HT.out⟩
set_option maxRecDepth 10000 in
theorem drop_z (h : NoStore xv w) (id : List Int) (hid : id.length = 32) : Calls Tryd.prog 18 #[xv, .agg (idc id).toArray] w fun e w' => e = .returned (.int .i64 8) ∧ Turns nobody w w' := by
  obtain ⟨w0, hw0⟩ : ∃ w0, w0 = w.alloc (.cells (idc id).toArray 31) := ⟨_, rfl⟩
  have ht0 : Turns nobody w w0 := by rw [hw0]; exact (Turns.refl _ _).alloc _
  have hx : w0.rangeAt w.heap.size 0 (idc id) := by rw [hw0]; exact range_of (heap_alloc_new w _)
  have hn := h.still ht0
  have HN := Lib.hid hn
  have HW0 := Lib.hid hw0
  have HX := Lib.hid hx
  have SX := Lib.hid (sizeId hid)
  have HT0 := Lib.hid ht0
  clear hw0 ht0 hx h hn
  have hf := find_z HN.out id hid
  go_enter Tryd.func18, Tryd.ntmps18
  go_wp2_with first
    | (with_reducible refine wpList_load_mid rfl _ _ rfl _ _ rfl _ _ (by rw [← HW0.out]; exact HX.out) Tryd.underlying31 rfl SX.out ?_)
    | (go_at_call 37; rw [← HW0.out]; refine hf.mono ?_; rintro e w1 ⟨rfl, t1⟩; have HT := Lib.hid (HT0.out.trans t1 (fun _ h => False.elim h)); clear t1)
  go_ret
  exact ⟨rfl, HT.out⟩
set_option maxRecDepth 10000 in
theorem all_z (h : NoStore xv w) : Calls Tryd.prog 13 #[xv] w fun e w' => e = .returned (.slice none 0 0) ∧ Turns nobody w w' := by
  have HN := Lib.hid h
  clear h
  go_enter Tryd.func13, Tryd.ntmps13
  go_wp2_with (go_at_call 32; refine (HN.out _ (Turns.refl _ _)).mono ?_; rintro e w' ⟨rfl, rfl⟩)
  go_ret
  exact ⟨rfl, Turns.refl _ _⟩
set_option maxRecDepth 10000 in
theorem bytes_z (h : NoStore xv w) : Calls Tryd.prog 17 #[xv] w fun e w' => e = .returned (.int .i64 0) ∧ Turns nobody w w' := by
  have HN := Lib.hid h
  clear h
  go_enter Tryd.func17, Tryd.ntmps17
  go_wp2_with (go_at_call 32; refine (HN.out _ (Turns.refl _ _)).mono ?_; rintro e w' ⟨rfl, rfl⟩)
  go_ret
  exact ⟨rfl, Turns.refl _ _⟩
set_option maxRecDepth 10000 in
theorem pinned_z (h : NoStore xv w) : Calls Tryd.prog 15 #[xv] w fun e w' => e = .returned (.int .i64 0) ∧ Turns nobody w w' := by
  have HN := Lib.hid h
  clear h
  go_enter Tryd.func15, Tryd.ntmps15
  go_wp2_with (go_at_call 32; refine (HN.out _ (Turns.refl _ _)).mono ?_; rintro e w' ⟨rfl, rfl⟩)
  go_ret
  exact ⟨rfl, Turns.refl _ _⟩
set_option maxRecDepth 10000 in
theorem room_z (h : NoStore xv w) (n : Int) : Calls Tryd.prog 14 #[xv, .int .i64 n] w fun e w' => e = .returned (.tuple #[.slice none 0 0, .int .i64 8]) ∧ Turns nobody w w' := by
  have HN := Lib.hid h
  clear h
  go_enter Tryd.func14, Tryd.ntmps14
  go_wp2_with (go_at_call 32; refine (HN.out _ (Turns.refl _ _)).mono ?_; rintro e w' ⟨rfl, rfl⟩)
  go_ret2
  exact ⟨rfl, Turns.refl _ _⟩
set_option maxRecDepth 10000 in
theorem verify_z (h : NoStore xv w) (id : List Int) (b : ByteArray) : Calls Tryd.prog 26 #[xv, .agg (idc id).toArray, .string b] w fun e w' => e = .returned (.int .i64 8) ∧ Turns nobody w w' := by
  have HN := Lib.hid (h.still ((Turns.refl nobody w).alloc (.cells (idc id).toArray 31)))
  clear h
  go_enter Tryd.func26, Tryd.ntmps26
  go_wp2_with (go_at_call 32; refine (HN.out _ (Turns.refl _ _)).mono ?_; rintro e w' ⟨rfl, rfl⟩)
  go_ret
  exact ⟨rfl, (Turns.refl _ _).alloc _⟩
set_option maxRecDepth 10000 in
theorem put_z (h : NoStore xv w) (b : ByteArray) : Calls Tryd.prog 10 #[xv, .string b] w fun e w' => e = .returned (.tuple #[.agg (idc zid).toArray, .int .i64 8]) ∧ Turns nobody w w' := by
  obtain ⟨wa, hwa⟩ : ∃ wa, wa = w.alloc (.cells #[.int .u8 0, .int .u8 0, .int .u8 0, .int .u8 0, .int .u8 0, .int .u8 0, .int .u8 0, .int .u8 0, .int .u8 0, .int .u8 0, .int .u8 0, .int .u8 0, .int .u8 0, .int .u8 0, .int .u8 0, .int .u8 0, .int .u8 0, .int .u8 0, .int .u8 0, .int .u8 0, .int .u8 0, .int .u8 0, .int .u8 0, .int .u8 0, .int .u8 0, .int .u8 0, .int .u8 0, .int .u8 0, .int .u8 0, .int .u8 0, .int .u8 0, .int .u8 0] 31) := ⟨_, rfl⟩
  have ta : Turns nobody w wa := by rw [hwa]; exact (Turns.refl _ _).alloc _
  obtain ⟨B, hB⟩ : ∃ B, w.heap.size = B := ⟨_, rfl⟩
  have hr : wa.heap[B]? = some (.cells (idc (List.replicate 32 0)).toArray 31 (0, 0)) := by rw [hwa, ← hB]; exact new32 w
  have HN := Lib.hid (h.still ta)
  have HWA := Lib.hid hwa
  have HTA := Lib.hid ta
  have HR := Lib.hid hr
  have HBB := Lib.hid hB
  have NL := Lib.hid (zid_size zid zid_len)
  have SZ := Lib.hid (sizeId zid_len)
  have HBZ := Lib.hid build_zero
  have hzl := zid_len
  clear hwa ta hr h hB
  generalize zid = z0 at *
  go_enter Tryd.func10, Tryd.ntmps10
  go_upto_region 1 with fail
  rw [← HWA.out, HBB.out]
  go_wp2_with first
    | (go_at_call 32; refine (HN.out _ (Turns.refl _ _)).mono ?_; rintro e w' ⟨rfl, rfl⟩)
    | (with_reducible refine wpList_exec (exec_build _ _ rfl #[] (by kernel_rfl) (HBZ.out _)) (by first | rfl | go_simp) ?_)
    | (refine wpList_putc rfl _ _ _ rfl (idc z0) HR.out NL.out (idc_one _) rfl rfl SZ.out ?_; intro w9 t9 a9 z9)
  refine bodyPost_ret (results_id rfl _ _ rfl rfl (range_of a9) hzl) rfl ?_
  exact ⟨rfl, HTA.out.trans t9 (fun i hi => Or.inr (by have := HBB.out; omega))⟩
end

set_option maxRecDepth 20000 in
set_option maxHeartbeats 4000000 in
theorem zero_any (b : ByteArray) (n : Int) (id : List Int) (hid : id.length = 32) (w : World) (ht : Tabs w) (hpos : 1 < w.heap.size ∧ 0 < w.heap.size) :
    Calls Tryd.prog 6 #[.string b, .int .i64 n, .agg (idc id).toArray] w fun e w' => e = .returned (.bool true) ∧ Below w.heap.size w w' := by
  obtain ⟨w1, hw1⟩ : ∃ w1, w1 = w.alloc (.cells (idc id).toArray 31) := ⟨_, rfl⟩
  have ht1 : Turns nobody w w1 := by rw [hw1]; exact (Turns.refl _ _).alloc _
  have hb1 : w1.heap[w.heap.size]? = some (.cells (idc id).toArray 31 (0, 0)) := by rw [hw1]; exact heap_alloc_new w _
  obtain ⟨w2, hw2⟩ : ∃ w2, w2 = w1.alloc (.cells #[.pointer none, .int .i64 0, .int .i64 0, .int .i64 0, .map none] 61) := ⟨_, rfl⟩
  have ht2 : Turns nobody w1 w2 := by rw [hw2]; exact (Turns.refl _ _).alloc _
  have e1 : w1.heap.size = w.heap.size + 1 := by rw [hw1]; simp
  have hb2 := heap_newer hb1 ht2 (fun h => h)
  have hz2 : w2.heap[w1.heap.size]? = some (.cells #[.pointer none, .int .i64 0, .int .i64 0, .int .i64 0, .map none] 61 (0, 0)) := by rw [hw2]; exact heap_alloc_new w1 _
  rw [e1] at hz2
  have HX : Hid (∀ W, Turns nobody w2 W → W.rangeAt w.heap.size 0 (idc id)) := Lib.hid fun W h => range_of (heap_newer hb2 h (fun h => h))
  have n1 : NoStore (.pointer none) w2 := fun W _ => none_nil W
  have n2 : NoStore (.pointer (some ⟨w.heap.size + 1, 0, none⟩)) w2 := fun W h => none_zero _ W (cells_of (heap_newer hz2 h (fun h => h)) 4 _ rfl)
  have N1 := Lib.hid n1
  have N2 := Lib.hid n2
  have SX := Lib.hid (sizeId hid)
  have NZ := Lib.hid (zid_size zid zid_len)
  have SZ := Lib.hid (sizeId zid_len)
  have H0 := Lib.hid (ht1.trans ht2 (fun _ h => False.elim h))
  have W1 := Lib.hid hw1
  have W2 := Lib.hid hw2
  have hT := Turns.refl nobody w2
  have HAW : Hid (∀ W, Turns nobody w2 W → Calls Tryd.prog 8 #[] W fun e w' => e = .returned (.bool true) ∧ Below w.heap.size w w') := Lib.hid fun W hW => by
    have hh := H0.out.trans hW (fun _ h => False.elim h)
    have hs := hh.size
    exact (awake_any W (ht.turns hh ⟨fun h => h, fun h => h⟩) ⟨by omega, by omega⟩).mono fun e w' ⟨he, hb⟩ => ⟨he, (hh.below (Nat.le_refl _) (fun _ h => False.elim h)).trans (hb.mono hs)⟩
  clear e1 hw1 hw2 ht1 ht2 hb1 hb2 hz2 n1 n2 ht hpos
  have PZ1 : Hid (∀ W, Turns nobody w2 W → Calls Tryd.prog 10 #[.pointer none, .string b] W fun e w' => e = .returned (.tuple #[.agg (idc zid).toArray, .int .i64 8]) ∧ Turns nobody W w') := Lib.hid fun W h => put_z (N1.out.still h) b
  have PZ2 : Hid (∀ W, Turns nobody w2 W → Calls Tryd.prog 10 #[.pointer (some ⟨w.heap.size + 1, 0, none⟩), .string b] W fun e w' => e = .returned (.tuple #[.agg (idc zid).toArray, .int .i64 8]) ∧ Turns nobody W w') := Lib.hid fun W h => put_z (N2.out.still h) b
  generalize zid = z0 at *
  go_enter Tryd.func6, Tryd.ntmps6
  go_upto_region 3 with fail
  rw [← W1.out, ← W2.out]
  go_wp2_with first
    | (with_reducible refine wpList_exec (exec_load_mid _ _ rfl _ _ rfl (idc id) _ (HX.out _ hT) Tryd.underlying31 rfl SX.out) (by first | rfl | go_simp) ?_)
    | (refine wpList_putc rfl _ _ _ rfl (idc z0) HNN.out NZ.out (idc_one _) rfl rfl SZ.out ?_; intro w9 t9 a9 z9; replace hT := (hT.alloc _).trans t9 (fun i hi => Or.inr (by have := hT.size; omega)); clear a9 z9 HNN)
    | (go_at_call 10; (with_reducible refine (PZ1.out _ hT).mono ?_); rintro e w' ⟨rfl, g⟩; replace hT := hT.trans g (fun _ h => False.elim h); have HNN := Lib.hid (new32 w'); clear g)
    | (go_at_call 10; (with_reducible refine (PZ2.out _ hT).mono ?_); rintro e w' ⟨rfl, g⟩; replace hT := hT.trans g (fun _ h => False.elim h); have HNN := Lib.hid (new32 w'); clear g)
    | (go_at_call 23; (with_reducible refine (get_z (N1.out.still hT) id hid).mono ?_); rintro e w' ⟨rfl, g⟩; replace hT := hT.trans g (fun _ h => False.elim h); clear g)
    | (go_at_call 14; (with_reducible refine (room_z (N1.out.still hT) n).mono ?_); rintro e w' ⟨rfl, g⟩; replace hT := hT.trans g (fun _ h => False.elim h); clear g)
    | (go_at_call 14; (with_reducible refine (room_z (N2.out.still hT) n).mono ?_); rintro e w' ⟨rfl, g⟩; replace hT := hT.trans g (fun _ h => False.elim h); clear g)
    | (go_at_call 26; (with_reducible refine (verify_z (N1.out.still hT) id b).mono ?_); rintro e w' ⟨rfl, g⟩; replace hT := hT.trans g (fun _ h => False.elim h); clear g)
    | (go_at_call 26; (with_reducible refine (verify_z (N2.out.still hT) id b).mono ?_); rintro e w' ⟨rfl, g⟩; replace hT := hT.trans g (fun _ h => False.elim h); clear g)
    | (go_at_call 11; (with_reducible refine (use_z (N1.out.still hT) id hid).mono ?_); rintro e w' ⟨rfl, g⟩; replace hT := hT.trans g (fun _ h => False.elim h); clear g)
    | (go_at_call 12; (with_reducible refine (pin_z (N2.out.still hT) id hid).mono ?_); rintro e w' ⟨rfl, g⟩; replace hT := hT.trans g (fun _ h => False.elim h); clear g)
    | (go_at_call 18; (with_reducible refine (drop_z (N1.out.still hT) id hid).mono ?_); rintro e w' ⟨rfl, g⟩; replace hT := hT.trans g (fun _ h => False.elim h); clear g)
    | (go_at_call 18; (with_reducible refine (drop_z (N2.out.still hT) id hid).mono ?_); rintro e w' ⟨rfl, g⟩; replace hT := hT.trans g (fun _ h => False.elim h); clear g)
    | (go_at_call 25; (with_reducible refine (has_z (N1.out.still hT) id hid).mono ?_); rintro e w' ⟨rfl, g⟩; replace hT := hT.trans g (fun _ h => False.elim h); clear g)
    | (go_at_call 25; (with_reducible refine (has_z (N2.out.still hT) id hid).mono ?_); rintro e w' ⟨rfl, g⟩; replace hT := hT.trans g (fun _ h => False.elim h); clear g)
    | (go_at_call 17; (with_reducible refine (bytes_z (N1.out.still hT)).mono ?_); rintro e w' ⟨rfl, g⟩; replace hT := hT.trans g (fun _ h => False.elim h); clear g)
    | (go_at_call 17; (with_reducible refine (bytes_z (N2.out.still hT)).mono ?_); rintro e w' ⟨rfl, g⟩; replace hT := hT.trans g (fun _ h => False.elim h); clear g)
    | (go_at_call 15; (with_reducible refine (pinned_z (N1.out.still hT)).mono ?_); rintro e w' ⟨rfl, g⟩; replace hT := hT.trans g (fun _ h => False.elim h); clear g)
    | (go_at_call 15; (with_reducible refine (pinned_z (N2.out.still hT)).mono ?_); rintro e w' ⟨rfl, g⟩; replace hT := hT.trans g (fun _ h => False.elim h); clear g)
    | (go_at_call 13; (with_reducible refine (all_z (N1.out.still hT)).mono ?_); rintro e w' ⟨rfl, g⟩; replace hT := hT.trans g (fun _ h => False.elim h); clear g)
    | (go_at_call 13; (with_reducible refine (all_z (N2.out.still hT)).mono ?_); rintro e w' ⟨rfl, g⟩; replace hT := hT.trans g (fun _ h => False.elim h); clear g)
    | (go_at_call 8; refine (HAW.out _ hT).mono ?_; rintro e w' ⟨rfl, g⟩; have HG := Lib.hid g; clear g)
  go_ret
  exact ⟨rfl, HG.out⟩

end Go.Proofs.YtjnplcajajdkiaaDoor.store
