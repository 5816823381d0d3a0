/- ShaPieces, ShaLong, ShaZero. -/
import Derived.Test.YtccocblkdijccaaDoorShaLaws
import Derived.Test.YtccocblkdijccaaDoorArgKit
namespace Go.Proofs.YtccocblkdijccaaDoor.sha
open Go.RowKit
open Go.Proofs.YtccocblkdijccaaDoor.stepkit Go.Proofs.YtccocblkdijccaaDoor.obj Go.Proofs.YtccocblkdijccaaDoor.row Go.Proofs.YtccocblkdijccaaDoor.mix Go.Proofs.YtccocblkdijccaaDoor.idkit Go.Proofs.YtccocblkdijccaaDoor.argkit

/-- An object made since, and the tables. -/
def HS (w : World) (H : Nat) (l : List UInt8) (W : World) : Prop := ∃ F, HashAt H l F W ∧ off F ∧ Tabs W ∧ (∀ i, F i → w.heap.size ≤ i) ∧ Below w.heap.size w W
theorem HS.below {w W : World} {H : Nat} {l : List UInt8} (h : HS w H l W) : Below w.heap.size w W := by obtain ⟨_, _, _, _, _, h⟩ := h; exact h
theorem HS.tabs {w W : World} {H : Nat} {l : List UInt8} (h : HS w H l W) : Tabs W := by obtain ⟨_, _, _, h, _⟩ := h; exact h
theorem HS.still {w W W' : World} {H : Nat} {l : List UInt8} (h : HS w H l W) (ht : Turns nobody W W') : HS w H l W' := by
  obtain ⟨F, h1, h2, h3, h4, h5⟩ := h
  exact ⟨F, (local_hash H l).keep h1 ht (fun _ _ h => h), h2, h3.turns ht off_none, h4, h5.trans (ht.below h5.size (fun _ h => h.elim))⟩
theorem HS.step {w W W' : World} {H : Nat} {l' : List UInt8} {F : Nat → Prop} (h2 : off F) (h3 : Tabs W) (h4 : ∀ i, F i → w.heap.size ≤ i) (h5 : Below w.heap.size w W) (hs : Step F (HashAt H l') W W') : HS w H l' W' := by
  obtain ⟨F', a, t, n⟩ := hs
  have hk := h3.k.lt
  have hf := h3.first.lt
  refine ⟨F', a, ⟨fun h => ?_, fun h => ?_⟩, h3.turns t h2, fun i hi => ?_, h5.trans (t.below h5.size h4)⟩
  · rcases n _ h with h | h
    · exact h2.1 h
    · omega
  · rcases n _ h with h | h
    · exact h2.2 h
    · omega
  · rcases n i hi with h | h
    · exact h4 i h
    · exact Nat.le_trans h5.size h
theorem HS.new {w : World} (ht : Tabs w) : Calls Tryd.prog 10 #[] w fun e w' => e = .returned (.pointer (some ⟨w.heap.size, 0, none⟩)) ∧ HS w w.heap.size [] w' := by
  refine (new_any w ht.first).mono ?_
  rintro e w' ⟨rfl, rfl⟩
  have tt : Turns nobody w (w.alloc (.cells (hmk first 0 (.slice none 0 0)) 41)) := (Turns.refl _ _).alloc _
  have h1 := ht.k.lt
  have h2 := ht.first.lt
  refine ⟨rfl, _, new_hash w, ⟨fun h => ?_, fun h => ?_⟩, ht.turns tt off_none, fun i hi => ?_, tt.below (Nat.le_refl _) (fun _ h => h.elim)⟩
  · rcases h with h | h
    · omega
    · cases h
  · rcases h with h | h
    · omega
    · cases h
  · rcases hi with h | h
    · omega
    · cases h
theorem HS.write {w W : World} {H : Nat} {l : List UInt8} (h : HS w H l W) (s : ByteArray) (hs : l.length + s.size ≤ 1000000) :
    Calls Tryd.prog 11 #[.pointer (some ⟨H, 0, none⟩), .string s] W fun e w' => e = .returned (.int .i64 s.size) ∧ HS w H (l ++ s.data.toList) w' := by
  obtain ⟨F, h1, h2, h3, h4, h5⟩ := h
  exact (write_any H l F W h1 h2 s hs h3).mono fun e w' ⟨he, hs⟩ => ⟨he, HS.step h2 h3 h4 h5 hs⟩
theorem HS.sum {w W : World} {H : Nat} {l : List UInt8} (h : HS w H l W) (hl : l.length ≤ 1000000) :
    Calls Tryd.prog 12 #[.pointer (some ⟨H, 0, none⟩)] W fun e w' => e = .returned (.agg (idc (sha.sum l)).toArray) ∧ HS w H l w' := by
  have h' := h
  obtain ⟨F, h1, h2, h3, h4, h5⟩ := h
  exact (sum_made H l F W h1 h3 hl).mono fun e w' ⟨he, hs⟩ => ⟨he, h'.still hs⟩
theorem HS.len {w W : World} {H : Nat} {l : List UInt8} (h : HS w H l W) :
    Calls Tryd.prog 13 #[.pointer (some ⟨H, 0, none⟩)] W fun e w' => e = .returned (.int .i64 l.length) ∧ W = w' := by
  obtain ⟨F, h1, _⟩ := h
  exact len_any H l F W h1
theorem HS.text {w W : World} {H : Nat} {l : List UInt8} (h : HS w H l W) (s : ByteArray) (hs : s.size ≤ 1000000) :
    Calls Tryd.prog 8 #[.string s] W fun e w' => e = .returned (.agg (idc (sha.sum s.data.toList)).toArray) ∧ HS w H l w' :=
  (text_any s W hs h.tabs).mono fun e w' ⟨he, hs⟩ => ⟨he, h.still hs⟩
theorem HS.ref {w W : World} {H : Nat} {l : List UInt8} (h : HS w H l W) (s : ByteArray) (hs : s.size ≤ 1000000) :
    Calls Tryd.prog 9 #[.string s] W fun e w' => e = .returned (.agg (idc (sha.sum s.data.toList)).toArray) ∧ HS w H l w' :=
  (refsum_any s W hs).mono fun e w' ⟨he, hs⟩ => ⟨he, h.still hs⟩
theorem HS.awake {w W : World} {H : Nat} {l : List UInt8} (h : HS w H l W) :
    Calls Tryd.prog 7 #[] W fun e w' => e = .returned (.bool true) ∧ HS w H l w' :=
  (awake_any W h.tabs).mono fun e w' ⟨he, hs⟩ => ⟨he, h.still hs⟩
theorem cat_list (b s : ByteArray) : (b ++ s).data.toList = b.data.toList ++ s.data.toList := by simp
theorem str_len (s : ByteArray) : s.data.toList.length = s.size := Array.length_toList

set_option maxRecDepth 10000 in
set_option maxHeartbeats 1000000 in
theorem pieces_any (ao : Option Addr) (ss : List ByteArray) (cap : Nat) (w : World) (hcap : ss.length ≤ maxLen) (hrow : RowAt w w.heap.size ao (ss.map Value.string)) (hss : ∀ s ∈ ss, s.size ≤ 140737488351232) (ht : Tabs w) :
    Calls Tryd.prog 5 #[.slice ao ss.length cap] w fun e w' => e = .returned (.bool true) ∧ Below w.heap.size w w' := by
  unfold maxLen at hcap
  have hnew := HS.new ht
  obtain ⟨H, hH⟩ : ∃ H, w.heap.size = H := ⟨_, rfl⟩
  rw [hH] at hnew
  go_enter Tryd.func5, Tryd.ntmps5
  go_wp2_with (go_at_call 10; refine hnew.mono ?_; rintro e w1 ⟨rfl, h1⟩; have HN := Lib.hid h1; clear h1)
  go_loopw [4, 5] (fun a i wr => ∃ (k : Nat) (b : ByteArray), k ≤ ss.length ∧ k ≤ 30 ∧ i = .int .i64 k ∧ a = .string b ∧ b.size ≤ 2000 ∧ HS w H b.data.toList wr) (fun _ i _ => 30 - (intOf i).toNat)
  case atStart => exact ⟨0, ByteArray.mk #[], by omega, by omega, rfl, rfl, by decide, HN.out⟩
  case round =>
    obtain ⟨k, b, hk, hk30, rfl, rfl, hb, hh⟩ := hrel
    have HHR := Lib.hid hh
    by_cases hlt : k < ss.length ∧ k < 30
    · obtain ⟨h1, h2⟩ := hlt
      obtain ⟨bb, oo, rfl, hbb, hcell⟩ := hrow (by simp; omega)
      obtain ⟨s, hs⟩ : ∃ s, s = ss.getD k ByteArray.empty := ⟨_, rfl⟩
      have hcs : ∀ W, Below w.heap.size w W → W.cell? ⟨bb, oo + k, none⟩ = some (.string s) := fun W hW => by
        rw [hW.cell (p := ⟨bb, oo + k, none⟩) hbb, hcell k (by simpa using h1), hs]; simp [List.getD, h1]
      have hsz := hss s (by rw [hs]; simp [List.getD, h1])
      have HC := Lib.hid hcs
      have d0 := hcs _ hh.below
      clear hs hcell hss hrow hcs hh
      by_cases h3 : b.size + s.size ≤ 2000
      · have hw := HHR.out.write s (by rw [str_len]; omega)
        rw [← cat_list] at hw
        have hcz : (b ++ s).size = b.size + s.size := by simp
        have hcl := str_len (b ++ s)
        have heq := fun W => eq_sum W (b.data.toList ++ s.data.toList)
        have HW := Lib.hid hw
        have HCZ := Lib.hid hcz
        have HCL := Lib.hid hcl
        have HEQ := Lib.hid heq
        clear hw hcz hcl heq
        have hbel := HHR.out.below
        go_wp2
        refine wp_region_mix [(0, true, true), (1, true, true), (2, true, true), (3, true, true), (4, true, true), (6, true, true), (7, true, true), (8, true, true), (9, true, true), (10, true, true), (5, false, true), (11, true, true)] (fun W => Below w.heap.size w W) (by kernel_rfl) (by kernel_rfl) (hbel.drew) ?_
        simp only [picked, List.filterMap_cons, List.filterMap_nil, List.getElem?_toArray, List.getElem?_cons_zero, List.getElem?_cons_succ, Option.map_some]
        repeat (refine mix_free (v := ?_) rfl ?_ ?_; rotate_left; (focus (intro w' hI; have d0 := HC.out _ hI; clear hI; go_simp; try with_reducible rfl)); simp only [Act.put, List.setIfInBounds_toArray, List.set_cons_zero, List.set_cons_succ])
        refine mix_big rfl (fun K hK => ?_)
        clear d0
        go_wp2_with (go_at_call 11; refine ((HHR.out.still (Turns.refl _ _).drew).write s (by rw [str_len]; omega)).mono ?_; rintro e w2 ⟨rfl, h2⟩; rw [← cat_list] at h2; have H2 := Lib.hid h2; clear h2)
        refine hK _ _ (fun _ => H2.out.below) ?_
        clear hK K
        repeat (refine mix_free (v := ?_) rfl ?_ ?_; rotate_left; (focus (intro w' hI; go_simp; try with_reducible rfl)); simp only [Act.put, List.setIfInBounds_toArray, List.set_cons_zero, List.set_cons_succ])
        refine mix_nil ?_
        have d0 := HC.out _ H2.out.below
        have hs2 : (b ++ s).size ≤ 2000 := by have := HCZ.out; omega
        have heq := HEQ.out
        clear hbel HW
        go_wp2_with first
          | (go_at_call 13; refine (H2.out.len).mono ?_; rintro e w3 ⟨rfl, rfl⟩; rw [HCL.out])
          | (go_at_call 8; refine (H3.out.text (b ++ s) (by omega)).mono ?_; rintro e w4 ⟨rfl, h4⟩; have H4 := Lib.hid h4; clear h4)
          | (go_at_call 9; refine (H5.out.ref (b ++ s) (by omega)).mono ?_; rintro e w6 ⟨rfl, h6⟩; have H6 := Lib.hid h6; clear h6)
          | (go_at_call 12; refine (H4.out.sum (by rw [HCL.out]; omega)).mono ?_; rintro e w5 ⟨rfl, h5⟩; have H5 := Lib.hid h5; clear h5)
          | (go_at_call 12; refine (H2.out.sum (by rw [HCL.out]; omega)).mono ?_; rintro e w3 ⟨rfl, h3⟩; have H3 := Lib.hid h3; clear h3)
        exact ⟨⟨k + 1, _, by omega, by omega, by go_num, rfl, hs2, H6.out⟩, by simp [intOf]; omega⟩
      · go_wp2_with (go_at_call 7; refine HHR.out.awake.mono ?_; rintro e w2 ⟨rfl, hw2⟩)
        go_ret
        exact ⟨rfl, hw2.below⟩
    · have hex : ss.length ≤ k ∨ (k < ss.length ∧ 30 ≤ k) := by omega
      clear hlt hh
      rcases hex with hex | ⟨hex1, hex2⟩
      all_goals
        go_wp2_with (go_at_call 7; refine HHR.out.awake.mono ?_; rintro e w2 ⟨rfl, hw2⟩)
        go_ret
        exact ⟨rfl, hw2.below⟩

theorem zero_cells (w : World) : (w.alloc (.cells #[.int .u32 0, .int .u32 0, .int .u32 0, .int .u32 0, .int .u32 0, .int .u32 0, .int .u32 0, .int .u32 0, .slice none 0 0, .int .i64 0, .bool false] 41)).heap[w.heap.size]? = some (.cells #[.int .u32 0, .int .u32 0, .int .u32 0, .int .u32 0, .int .u32 0, .int .u32 0, .int .u32 0, .int .u32 0, .slice none 0 0, .int .i64 0, .bool false] 41 (0, 0)) := heap_alloc_new _ _
set_option maxRecDepth 10000 in
set_option maxHeartbeats 1000000 in
theorem zero_any (s : ByteArray) (w : World) (ht : Tabs w) :
    Calls Tryd.prog 6 #[.string s] w fun e w' => e = .returned (.bool true) ∧ Turns nobody w w' := by
  obtain ⟨H, hH⟩ : ∃ H, w.heap.size = H := ⟨_, rfl⟩
  obtain ⟨w0, hw0⟩ : ∃ w0, w0 = (w.alloc (.cells #[.int .u32 0, .int .u32 0, .int .u32 0, .int .u32 0, .int .u32 0, .int .u32 0, .int .u32 0, .int .u32 0, .slice none 0 0, .int .i64 0, .bool false] 41)).alloc (.cells #[.int .u8 0, .int .u8 0, .int .u8 0, .int .u8 0, .int .u8 0, .int .u8 0, .int .u8 0, .int .u8 0, .int .u8 0, .int .u8 0, .int .u8 0, .int .u8 0, .int .u8 0, .int .u8 0, .int .u8 0, .int .u8 0, .int .u8 0, .int .u8 0, .int .u8 0, .int .u8 0, .int .u8 0, .int .u8 0, .int .u8 0, .int .u8 0, .int .u8 0, .int .u8 0, .int .u8 0, .int .u8 0, .int .u8 0, .int .u8 0, .int .u8 0, .int .u8 0] 24) := ⟨_, rfl⟩
  have t0 : Turns nobody w w0 := by rw [hw0]; exact ((Turns.refl _ _).alloc _).alloc _
  have hz0 : w0.heap[H]? = some (.cells #[.int .u32 0, .int .u32 0, .int .u32 0, .int .u32 0, .int .u32 0, .int .u32 0, .int .u32 0, .int .u32 0, .slice none 0 0, .int .i64 0, .bool false] 41 (0, 0)) := by
    rw [hw0, ← hH]; exact heap_newer (zero_cells w) ((Turns.refl nobody _).alloc _) (fun h => h)
  have hi0 : w0.heap[H + 1]? = some (.cells (idc (List.replicate 32 0)).toArray 24 (0, 0)) := by
    have h := new32 (w.alloc (.cells #[.int .u32 0, .int .u32 0, .int .u32 0, .int .u32 0, .int .u32 0, .int .u32 0, .int .u32 0, .int .u32 0, .slice none 0 0, .int .i64 0, .bool false] 41))
    rw [World.size_alloc, hH] at h
    rw [hw0]
    exact h
  have hz : ∀ W, Turns nobody w0 W → W.cell? ⟨H, 10, none⟩ = some (.bool false) := fun W hW => cells_of (heap_newer hz0 hW (fun h => h)) 10 _ rfl
  have hi : ∀ W, Turns nobody w0 W → W.rangeAt (H + 1) 0 (idc (List.replicate 32 0)) := fun W hW => range_of (heap_newer hi0 hW (fun h => h))
  clear hz0 hi0
  have htab := ht.turns t0 off_none
  have hnz := fun W hW => none_zero H W (hz W hW)
  have HW0 := Lib.hid hw0
  have HT0 := Lib.hid t0
  have HI := hi
  have HTB := Lib.hid htab
  have HNZ := Lib.hid hnz
  have SZ : (Tryd.prog.info? 24).map (·.size) = some (idc (List.replicate 32 0)).length := by rw [infoI]; rfl
  have heq := fun W => eq_sum W []
  have hneq : ∀ W : World, (Op.equalIn 10000 24 (.agg (idc (sha.sum [])).toArray) (.agg (idc (List.replicate 32 0)).toArray)).run Tryd.prog W = .ok false W := fun W => by
    rw [eq_ids W _ _ (sum_len _) (by simp), decide_eq_false (by rw [sum_nil]; decide)]
  generalize idc (List.replicate 32 0) = z0 at hneq HI SZ
  replace HI := Lib.hid HI
  replace SZ := Lib.hid SZ
  clear hw0 t0 hi htab hnz hz ht
  go_enter Tryd.func6, Tryd.ntmps6
  go_wp2
  rw [← HW0.out]
  have hS1 : ∀ W, Turns nobody w0 W → Calls Tryd.prog 12 #[.pointer none] W fun e w' => e = .returned (.agg (idc (sha.sum [])).toArray) ∧ Turns nobody w0 w' := fun W hW =>
    (sum_none (.pointer none) W (fun W' _ => none_nil W') (HTB.out.turns hW off_none)).mono fun e w' h => ⟨h.1, hW.trans h.2 (fun _ h => h.elim)⟩
  have hS2 : ∀ W, Turns nobody w0 W → Calls Tryd.prog 12 #[.pointer (some ⟨H, 0, none⟩)] W fun e w' => e = .returned (.agg (idc (sha.sum [])).toArray) ∧ Turns nobody w0 w' := fun W hW =>
    (sum_none _ W (fun W' hW' => HNZ.out W' (hW.trans hW' (fun _ h => h.elim))) (HTB.out.turns hW off_none)).mono fun e w' h => ⟨h.1, hW.trans h.2 (fun _ h => h.elim)⟩
  have hT1 : ∀ W, Turns nobody w0 W → Calls Tryd.prog 8 #[.string ⟨#[]⟩] W fun e w' => e = .returned (.agg (idc (sha.sum [])).toArray) ∧ Turns nobody w0 w' := fun W hW =>
    (text_any ⟨#[]⟩ W (by decide) (HTB.out.turns hW off_none)).mono fun e w' h => ⟨h.1, hW.trans h.2 (fun _ h => h.elim)⟩
  have hR1 : ∀ W, Turns nobody w0 W → Calls Tryd.prog 9 #[.string ⟨#[]⟩] W fun e w' => e = .returned (.agg (idc (sha.sum [])).toArray) ∧ Turns nobody w0 w' := fun W hW =>
    (refsum_any ⟨#[]⟩ W (by decide)).mono fun e w' h => ⟨h.1, hW.trans h.2 (fun _ h => h.elim)⟩
  have hA1 : ∀ W, Turns nobody w0 W → Calls Tryd.prog 7 #[] W fun e w' => e = .returned (.bool true) ∧ Turns nobody w0 w' := fun W hW =>
    (awake_any W (HTB.out.turns hW off_none)).mono fun e w' h => ⟨h.1, hW.trans h.2 (fun _ h => h.elim)⟩
  generalize idc (sha.sum []) = x at heq hneq hS1 hS2 hT1 hR1
  have HS1 := Lib.hid hS1
  have HS2 := Lib.hid hS2
  have HT1 := Lib.hid hT1
  have HR1 := Lib.hid hR1
  have HA1 := Lib.hid hA1
  clear hS1 hS2 hT1 hR1 hA1
  refine wp_region_mix [(0, true, true), (1, true, true), (3, true, true), (6, true, true), (2, false, true), (4, false, true), (5, true, true), (7, false, true), (8, true, true), (9, false, true), (10, true, true), (11, true, true), (12, true, true), (13, true, true), (14, false, true), (15, false, true), (16, true, true), (17, true, true), (18, true, true), (19, false, true), (20, false, true), (21, true, true), (22, true, true), (23, true, true), (24, true, true), (26, true, true), (25, false, true), (27, true, true), (28, true, true), (29, true, true), (30, false, true), (31, true, true), (32, true, true)] (fun W => Turns nobody w0 W) (by kernel_rfl) (by kernel_rfl) ((Turns.refl nobody w0).drew) ?_
  simp only [picked, List.filterMap_cons, List.filterMap_nil, List.getElem?_toArray, List.getElem?_cons_zero, List.getElem?_cons_succ, Option.map_some]
  repeat (first | (refine mix_free (v := ?_) rfl ?_ ?_; rotate_left; (focus (intro w' hI; go_simp; try with_reducible rfl)); simp only [Act.put, List.setIfInBounds_toArray, List.set_cons_zero, List.set_cons_succ]) | (refine mix_skip rfl ?_; simp only [Act.put, List.setIfInBounds_toArray, List.set_cons_zero, List.set_cons_succ]))
  have q0 : Turns nobody w0 w0.drew := (Turns.refl _ _).drew
  refine mix_big rfl (fun K hK => ?_)
  go_wp2_with (go_at_call 11; refine (write_none _ s _ (none_nil _)).mono ?_; rintro e w' ⟨rfl, rfl⟩)
  refine hK _ _ (fun _ => q0) ?_
  clear hK K
  refine mix_big rfl (fun K hK => ?_)
  go_wp2_with (go_at_call 11; refine (write_none _ s _ (HNZ.out _ q0)).mono ?_; rintro e w' ⟨rfl, rfl⟩)
  refine hK _ _ (fun _ => q0) ?_
  clear hK K
  (refine mix_free (v := ?_) rfl ?_ ?_; rotate_left; (focus (intro w' hI; clear hI; go_simp; try with_reducible rfl)); simp only [Act.put, List.setIfInBounds_toArray, List.set_cons_zero, List.set_cons_succ])
  refine mix_big rfl (fun K hK => ?_)
  go_wp2_with (go_at_call 13; refine (len_none _ _ (none_nil _)).mono ?_; rintro e w' ⟨rfl, rfl⟩)
  refine hK _ _ (fun _ => q0) ?_
  clear hK K
  (refine mix_free (v := ?_) rfl ?_ ?_; rotate_left; (focus (intro w' hI; clear hI; go_simp; try with_reducible rfl)); simp only [Act.put, List.setIfInBounds_toArray, List.set_cons_zero, List.set_cons_succ])
  refine mix_big rfl (fun K hK => ?_)
  go_wp2_with (go_at_call 13; refine (len_none _ _ (HNZ.out _ q0)).mono ?_; rintro e w' ⟨rfl, rfl⟩)
  refine hK _ _ (fun _ => q0) ?_
  clear hK K
  repeat (refine mix_free (v := ?_) rfl ?_ ?_; rotate_left; (focus (intro w' hI; clear hI; go_simp; try with_reducible rfl)); simp only [Act.put, List.setIfInBounds_toArray, List.set_cons_zero, List.set_cons_succ])
  refine mix_big rfl (fun K hK => ?_)
  go_wp2_with (go_at_call 12; refine (HS1.out _ q0).mono ?_; rintro e w1 ⟨rfl, q1⟩)
  refine hK _ _ (fun _ => q1) ?_
  clear hK K
  refine mix_big rfl (fun K hK => ?_)
  go_wp2_with (go_at_call 8; refine (HT1.out _ q1).mono ?_; rintro e w2 ⟨rfl, q2⟩)
  refine hK _ _ (fun _ => q2) ?_
  clear hK K
  repeat (refine mix_free (v := ?_) rfl ?_ ?_; rotate_left; (focus (intro w' hI; clear hI; go_simp; try with_reducible rfl)); simp only [Act.put, List.setIfInBounds_toArray, List.set_cons_zero, List.set_cons_succ])
  refine mix_big rfl (fun K hK => ?_)
  go_wp2_with (go_at_call 12; refine (HS2.out _ q2).mono ?_; rintro e w3 ⟨rfl, q3⟩)
  refine hK _ _ (fun _ => q3) ?_
  clear hK K
  refine mix_big rfl (fun K hK => ?_)
  go_wp2_with (go_at_call 9; refine (HR1.out _ q3).mono ?_; rintro e w4 ⟨rfl, q4⟩)
  refine hK _ _ (fun _ => q4) ?_
  clear hK K
  iterate 4 (refine mix_free (v := ?_) rfl ?_ ?_; rotate_left; (focus (intro w' hI; clear hI; go_simp; try with_reducible rfl)); simp only [Act.put, List.setIfInBounds_toArray, List.set_cons_zero, List.set_cons_succ])
  refine mix_free (v := .agg z0.toArray) rfl (fun w' hI => exec_load_mid _ _ rfl _ _ rfl _ _ (HI.out _ hI) Tryd.underlying24 rfl SZ.out) ?_
  simp only [Act.put, List.setIfInBounds_toArray, List.set_cons_zero, List.set_cons_succ]
  refine mix_big rfl (fun K hK => ?_)
  go_wp2_with (go_at_call 12; refine (HS1.out _ q4).mono ?_; rintro e w5 ⟨rfl, q5⟩)
  refine hK _ _ (fun _ => q5) ?_
  clear hK K
  repeat (refine mix_free (v := ?_) rfl ?_ ?_; rotate_left; (focus (intro w' hI; clear hI; go_simp; try with_reducible rfl)); simp only [Act.put, List.setIfInBounds_toArray, List.set_cons_zero, List.set_cons_succ])
  refine mix_big rfl (fun K hK => ?_)
  go_wp2_with (go_at_call 7; refine (HA1.out _ q5).mono ?_; rintro e w6 ⟨rfl, q6⟩)
  refine hK _ _ (fun _ => q6) ?_
  clear hK K
  repeat (refine mix_free (v := ?_) rfl ?_ ?_; rotate_left; (focus (intro w' hI; clear hI; go_simp; try with_reducible rfl)); simp only [Act.put, List.setIfInBounds_toArray, List.set_cons_zero, List.set_cons_succ])
  refine mix_nil ?_
  go_wp2
  go_ret
  exact ⟨rfl, HT0.out.trans q6 (fun _ h => h.elim)⟩
end Go.Proofs.YtccocblkdijccaaDoor.sha
