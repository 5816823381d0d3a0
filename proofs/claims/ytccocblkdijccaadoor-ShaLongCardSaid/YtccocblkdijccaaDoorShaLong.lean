/- ShaLong. -/
import Derived.Test.YtccocblkdijccaaDoorShaPieces
namespace Go.Proofs.YtccocblkdijccaaDoor.sha
open Go.RowKit
open Go.Proofs.YtccocblkdijccaaDoor.stepkit Go.Proofs.YtccocblkdijccaaDoor.obj Go.Proofs.YtccocblkdijccaaDoor.row Go.Proofs.YtccocblkdijccaaDoor.mix Go.Proofs.YtccocblkdijccaaDoor.idkit Go.Proofs.YtccocblkdijccaaDoor.argkit

theorem nums_bytes (l : List UInt8) : strOfNums (l.map fun x : UInt8 => (x.toNat : Int)) = ⟨l.toArray⟩ := by
  unfold strOfNums
  congr 1
  simp only [List.map_map]
  congr 1
  rw [show ((fun n : Int => UInt8.ofNat n.toNat) ∘ fun x : UInt8 => (x.toNat : Int)) = id from funext fun x => by simp, List.map_id]
theorem BSl.conv {w : World} {v : Value} {l : List UInt8} (h : BSl w v l) : (convert 28 9 v).run Tryd.prog w = .ok (.string ⟨l.toArray⟩) w := by
  have h' := h
  obtain ⟨h1, ⟨rfl, h0⟩ | ⟨g, o, cap, cur, rfl, hg, hn, hc, hcs, ht⟩⟩ := (show Sl _ _ _ _ _ _ from h)
  · have : l = [] := List.eq_nil_of_length_eq_zero h0
    subst this
    rw [run_convert_bytes_nil w _ _ Tryd.underlying28 Tryd.underlying5 0 0 _ Tryd.underlying9]
    rfl
  · have hcell : ∀ i, i < l.length → w.cell? ⟨g, o + i, none⟩ = some (.int .u8 ((l.map fun x : UInt8 => (x.toNat : Int)).getD i 0)) := fun i hi => by
      rw [BSl.cell h' i hi]
      simp [List.getD, hi]
    rw [run_convert_bytes_arg w _ _ Tryd.underlying28 Tryd.underlying5 g o _ cap (l.map fun x : UInt8 => (x.toNat : Int)) (by simp) hcell _ Tryd.underlying9, nums_bytes]
theorem made_u8 (n : Nat) : madeCells #[Value.int .u8 0] n = (bcs (List.replicate n 0)).toArray := by
  apply Array.ext'
  refine List.ext_getElem (by simp [bcs, size_madeCells]) fun i h1 h2 => ?_
  simp [madeCells, bcs, bc, Nat.mod_one]
theorem make_u8 (k : Nat) (hk : k ≤ 1000) (w : World) : (Instr.makeSlice 28 (.int .i64 k) (.int .i64 k)).run Tryd.prog w = .ok (.slice (some ⟨w.heap.size, 0, none⟩) k k) (w.alloc (.cells (bcs (List.replicate k 0)).toArray 5)) := by
  obtain ⟨i, hi, h0, h1, h2⟩ := info_parts infoU8
  have := run_makeSlice (P := Tryd.prog) w 28 5 i _ Tryd.underlying28 hi h0 .i64 .i64 k k (by omega) (by omega) (by rw [h1]; simp; omega) (by rw [h2]; omega) (by omega)
  rw [this, h1]
  simp only [Int.toNat_natCast, Nat.mul_one]
  rw [← made_u8]
  rfl
/-- So many of the byte, then noughts. -/
def fill (C : UInt8) (k i : Nat) : List UInt8 := List.replicate i C ++ List.replicate (k - i) 0
theorem fill_len (C : UInt8) (k i : Nat) (h : i ≤ k) : (fill C k i).length = k := by unfold fill; simp; omega
theorem fill_zero (C : UInt8) (k : Nat) : fill C k 0 = List.replicate k 0 := by simp [fill]
theorem fill_all (C : UInt8) (k : Nat) : fill C k k = List.replicate k C := by simp [fill]
theorem fill_set (C : UInt8) (k i : Nat) (h : i < k) : (fill C k i).set i C = fill C k (i + 1) := by
  unfold fill
  rw [List.set_append_right _ _ (by simp), List.length_replicate, Nat.sub_self, show k - i = (k - (i + 1)) + 1 by omega, List.replicate_succ, List.set_cons_zero, List.replicate_succ' (n := i), List.append_assoc]
  rfl
theorem put_fill {w : World} {B : Nat} {C : UInt8} {k i : Nat} (hi : i < k) (h : w.heap[B]? = some (.cells (bcs (fill C k i)).toArray 5 (0, 0))) :
    (w.setCell ⟨B, i, none⟩ (.int .u8 (C.toNat : Int))).heap[B]? = some (.cells (bcs (fill C k (i + 1))).toArray 5 (0, 0)) := by
  have h1 := heap_setCell_at h i (.int .u8 (C.toNat : Int))
  rw [h1, List.setIfInBounds_toArray, ← fill_set C k i hi]
  congr 3
  unfold bcs
  rw [List.map_set]
  rfl

set_option maxRecDepth 10000 in
set_option maxHeartbeats 1000000 in
theorem long_any (C : UInt8) (n : Nat) (hn : n < 65536) (w : World) (ht : Tabs w) :
    Calls Tryd.prog 4 #[.int .u8 (C.toNat : Int), .int .u16 n] w fun e w' => e = .returned (.bool true) ∧ Below w.heap.size w w' := by
  obtain ⟨k, hk⟩ : ∃ k, n % 600 = k := ⟨_, rfl⟩
  have hk6 : k < 600 := by omega
  have hkn : (n : Int) % 600 = (k : Int) := by omega
  have hmk := make_u8 k (by omega)
  obtain ⟨B, hB⟩ : ∃ B, w.heap.size = B := ⟨_, rfl⟩
  obtain ⟨w1, hw1⟩ : ∃ w1, w1 = w.alloc (.cells (bcs (List.replicate k 0)).toArray 5) := ⟨_, rfl⟩
  have hb1 : w1.heap[B]? = some (.cells (bcs (fill C k 0)).toArray 5 (0, 0)) := by rw [hw1, ← hB, fill_zero]; exact heap_alloc_new w _
  have t1 : Turns nobody w w1 := by rw [hw1]; exact (Turns.refl _ _).alloc _
  have HB1 := Lib.hid hb1
  have HT1 := Lib.hid t1
  have HTB := Lib.hid ht
  have HW1 := Lib.hid hw1
  have hgk : 1 < B := by rw [← hB]; exact ht.k.lt
  have hgf : 0 < B := by rw [← hB]; exact ht.first.lt
  clear hk hb1 t1 ht hw1
  go_enter Tryd.func4, Tryd.ntmps4
  go_wp2
  rw [← HW1.out]
  clear hmk
  go_loopw [7] (fun i wr => ∃ j : Nat, j ≤ k ∧ i = .int .i64 j ∧ wr.heap[B]? = some (.cells (bcs (fill C k j)).toArray 5 (0, 0)) ∧ Turns (fun b => b = B) w1 wr) (fun i _ => k - (intOf i).toNat)
  case atStart => exact ⟨0, by omega, rfl, HB1.out, Turns.refl _ _⟩
  case round =>
    clear HB1
    obtain ⟨j, hj, rfl, hb, ht⟩ := hrel
    by_cases hjk : j < k
    · obtain ⟨y, hy⟩ : ∃ y, wr.cell? ⟨B, j, none⟩ = some y := ⟨_, cells_of hb j _ (List.getElem?_toArray.trans (List.getElem?_eq_getElem (by rw [bcs_len, fill_len _ _ _ hj]; exact hjk)))⟩
      have hfr := free_of hb j
      have HP := Lib.hid (put_fill hjk hb)
      have HT := Lib.hid ht
      clear hb ht
      go_wp2
      exact ⟨⟨j + 1, by omega, by go_num, HP.out, HT.out.setCell B _ _ (Or.inl rfl)⟩, by simp [intOf]; omega⟩
    · obtain rfl : j = k := by omega
      rw [fill_all] at hb
      obtain ⟨S, hS⟩ : ∃ S : ByteArray, S = ⟨(List.replicate j C).toArray⟩ := ⟨_, rfl⟩
      have hSl : S.data.toList = List.replicate j C := by rw [hS]
      obtain ⟨l, hl⟩ : ∃ l, List.replicate j C = l := ⟨_, rfl⟩
      have hlj : l.length = j := by rw [← hl]; simp
      rw [hl] at hb hS hSl
      have hbs : ∀ W, Turns nobody wr W ∨ Below wr.heap.size wr W → BSl W (.slice (some ⟨B, 0, none⟩) j j) l := fun W hW => by
        have hh : W.heap[B]? = some (.cells (bcs l).toArray 5 (0, 0)) := by
          rcases hW with hW | hW
          · exact heap_newer hb hW (fun h => h)
          · rw [hW.block B (lt_of_block hb)]; exact hb
        refine ⟨by rw [bcs_len]; omega, Or.inr ⟨B, 0, j, _, by rw [hlj], hh, by omega, by unfold maxLen; omega, by simp [bcs_len]; omega, ?_⟩⟩
        rw [List.drop_zero, List.take_of_length_le (by rw [bcs_len]; omega)]
      have htb : Tabs wr := (HTB.out.turns HT1.out off_none).turns ht ⟨fun e => by omega, fun e => by omega⟩
      have hbel : Below w.heap.size w wr := (HT1.out.trans ht (fun i hi => Or.inr (by omega))).below (Nat.le_refl _) (fun _ h => h.elim) |> fun h => h
      obtain ⟨h, hh⟩ : ∃ h, j / 2 = h := ⟨_, rfl⟩
      have hh2 : (j : Int) / 2 = (h : Int) := by omega
      have hhj : h ≤ j := by omega
      obtain ⟨a1, ha1⟩ : ∃ a1, Go.sliced (some ⟨B, 0, none⟩) 0 h j 1 = .slice a1 h j := ⟨_, rfl⟩
      obtain ⟨a2, ha2⟩ : ∃ a2, Go.sliced (some ⟨B, 0, none⟩) h j j 1 = .slice a2 (j - h) (j - h) := ⟨_, rfl⟩
      have hc1 : ∀ W, Below wr.heap.size wr W → (convert 28 9 (.slice a1 h j)).run Tryd.prog W = .ok (.string ⟨(l.take h).toArray⟩) W := fun W hW => by
        have h0 : Sl W 5 1 (.slice (some ⟨B, 0, none⟩) j j) j (bcs l) := by have := (show Sl _ _ _ _ _ _ from hbs W (Or.inr hW)); rwa [hlj] at this
        have h1 := h0.sliced 0 h j (by omega) hhj hhj (by omega)
        rw [ha1] at h1
        simp only [Nat.zero_mul, List.drop_zero, Nat.sub_zero, Nat.mul_one, bcs_take] at h1
        exact BSl.conv (show Sl _ _ _ _ (l.take h).length _ by rw [List.length_take, hlj, Nat.min_eq_left hhj]; exact h1)
      have hc2 : ∀ W, Below wr.heap.size wr W → (convert 28 9 (.slice a2 (j - h) (j - h))).run Tryd.prog W = .ok (.string ⟨(l.drop h).toArray⟩) W := fun W hW => by
        have h0 : Sl W 5 1 (.slice (some ⟨B, 0, none⟩) j j) j (bcs l) := by have := (show Sl _ _ _ _ _ _ from hbs W (Or.inr hW)); rwa [hlj] at this
        have h1 := h0.sliced h j j (by omega) (by omega) (by omega) (by omega)
        rw [ha2] at h1
        simp only [Nat.mul_one, bcs_drop, bcs_take] at h1
        rw [List.take_of_length_le (by rw [List.length_drop, hlj]; omega)] at h1
        exact BSl.conv (show Sl _ _ _ _ (l.drop h).length _ by rw [List.length_drop, hlj]; exact h1)
      have hc3 : ∀ W, Below wr.heap.size wr W → (convert 28 9 (.slice (some ⟨B, 0, none⟩) j j)).run Tryd.prog W = .ok (.string S) W := fun W hW => by
        rw [BSl.conv (hbs W (Or.inr hW)), hS]
      have hnew := HS.new htb
      have hSsz : S.size = j := by rw [← str_len, hSl, hlj]
      have heq := fun W => eq_sum W S.data.toList
      have HC1 := Lib.hid hc1
      have HC2 := Lib.hid hc2
      have HC3 := Lib.hid hc3
      have HA1 := Lib.hid ha1
      have HA2 := Lib.hid ha2
      have HBL := Lib.hid hbel
      have HSL := Lib.hid hSl
      have HSZ := Lib.hid hSsz
      have HLJ := Lib.hid hlj
      clear hh hc1 hc2 hc3 ha1 ha2 hbel hSl hSsz hlj hS hl hbs htb hb ht HTB HT1 HW1 hjk hj hB hgk hgf
      obtain ⟨V, hV⟩ : ∃ V, wr.heap.size = V := ⟨_, rfl⟩
      rw [hV] at hnew HC1 HC2 HC3
      have HBW : Hid (∀ W l, HS wr V l W → Below V wr W) := Lib.hid fun W l h => hV ▸ h.below
      have HV := Lib.hid hV
      clear hV
      go_wp2_with first
        | (go_at_call 10; refine hnew.mono ?_; rintro e w2 ⟨rfl, h2⟩; have H2 := Lib.hid h2; clear h2)
        | (refine wpList_exec (exec_cut_h Tryd.underlying28 sizeU8 _ _ rfl rfl rfl hhj HA1.out) rfl ?_)
        | (refine wpList_exec (exec_cut_l Tryd.underlying28 sizeU8 _ _ rfl rfl rfl hhj HA2.out) rfl ?_)
        | (refine wpList_exec (exec_conv _ _ _ rfl rfl (HC2.out _ (HBW.out _ _ H3.out))) rfl ?_)
        | (refine wpList_exec (exec_conv _ _ _ rfl rfl (HC1.out _ (HBW.out _ _ H2.out))) rfl ?_)
        | (go_at_call 11; refine (H3.out.write ⟨(l.drop h).toArray⟩ (by have := HLJ.out; simp [bytes_size]; omega)).mono ?_; rintro e w4 ⟨rfl, h4⟩; have H4 := Lib.hid h4; clear h4)
        | (go_at_call 11; refine (H2.out.write ⟨(l.take h).toArray⟩ (by simp [bytes_size]; omega)).mono ?_; rintro e w3 ⟨rfl, h3⟩; have H3 := Lib.hid h3; clear h3)
      have hl5 : HS wr V S.data.toList w4 := by
        have := H4.out
        rw [List.nil_append, List.take_append_drop, ← HSL.out] at this
        exact this
      have hsn : S.size ≤ 1000000 := by have := HSZ.out; omega
      have hsm : ∀ W, HS wr V S.data.toList W → Calls Tryd.prog 12 #[.pointer (some ⟨V, 0, none⟩)] W fun e w' => e = .returned (.agg (idc (sha.sum S.data.toList)).toArray) ∧ HS wr V S.data.toList w' := fun W hW => hW.sum (by rw [str_len]; exact hsn)
      have htx : ∀ W, HS wr V S.data.toList W → Calls Tryd.prog 8 #[.string S] W fun e w' => e = .returned (.agg (idc (sha.sum S.data.toList)).toArray) ∧ HS wr V S.data.toList w' := fun W hW => hW.text S hsn
      have hrf : ∀ W, HS wr V S.data.toList W → Calls Tryd.prog 9 #[.string S] W fun e w' => e = .returned (.agg (idc (sha.sum S.data.toList)).toArray) ∧ HS wr V S.data.toList w' := fun W hW => hW.ref S hsn
      have H5 := Lib.hid hl5
      generalize S.data.toList = L at *
      generalize idc (sha.sum L) = x at heq hsm htx hrf
      have HSM := Lib.hid hsm
      have HTX := Lib.hid htx
      have HRF := Lib.hid hrf
      clear hl5 hsm htx hrf H2 H3 H4 HC1 HC2 HA1 HA2
      refine wp_region_mix [(0, true, true), (2, true, true), (3, true, true), (1, false, true), (4, false, true), (5, true, true), (6, true, true), (7, true, true), (8, true, true), (10, true, true), (9, false, true), (11, false, true), (12, true, true), (13, true, true), (14, true, true), (15, false, true), (16, true, true), (17, true, true)] (fun W => Below V wr W) (by kernel_rfl) (by kernel_rfl) ((HBW.out _ _ H5.out).drew) ?_
      simp only [picked, List.filterMap_cons, List.filterMap_nil, List.getElem?_toArray, List.getElem?_cons_zero, List.getElem?_cons_succ, Option.map_some]
      iterate 2 (refine mix_free (v := ?_) rfl ?_ ?_; rotate_left; (focus (intro w' hI; clear hI; go_simp; try with_reducible rfl)); simp only [Act.put, List.setIfInBounds_toArray, List.set_cons_zero, List.set_cons_succ])
      refine mix_free (v := .string S) rfl (fun w' hI => exec_conv _ _ _ rfl rfl (HC3.out _ hI)) ?_
      simp only [Act.put, List.setIfInBounds_toArray, List.set_cons_zero, List.set_cons_succ]
      refine mix_big rfl (fun K hK => ?_)
      go_wp2_with (go_at_call 12; refine (HSM.out _ (H5.out.still (Turns.refl _ _).drew)).mono ?_; rintro e w6 ⟨rfl, q6⟩)
      refine hK _ _ (fun _ => HBW.out _ _ q6) ?_
      clear hK K
      refine mix_big rfl (fun K hK => ?_)
      go_wp2_with (go_at_call 9; refine (HRF.out _ q6).mono ?_; rintro e w7 ⟨rfl, q7⟩)
      refine hK _ _ (fun _ => HBW.out _ _ q7) ?_
      clear hK K
      iterate 3 (refine mix_free (v := ?_) rfl ?_ ?_; rotate_left; (focus (intro w' hI; clear hI; go_simp; try with_reducible rfl)); simp only [Act.put, List.setIfInBounds_toArray, List.set_cons_zero, List.set_cons_succ])
      refine mix_free (v := .string S) rfl (fun w' hI => exec_conv _ _ _ rfl rfl (HC3.out _ hI)) ?_
      simp only [Act.put, List.setIfInBounds_toArray, List.set_cons_zero, List.set_cons_succ]
      (refine mix_free (v := ?_) rfl ?_ ?_; rotate_left; (focus (intro w' hI; clear hI; go_simp; try with_reducible rfl)); simp only [Act.put, List.setIfInBounds_toArray, List.set_cons_zero, List.set_cons_succ])
      refine mix_big rfl (fun K hK => ?_)
      go_wp2_with (go_at_call 8; refine (HTX.out _ q7).mono ?_; rintro e w8 ⟨rfl, q8⟩)
      refine hK _ _ (fun _ => HBW.out _ _ q8) ?_
      clear hK K
      refine mix_big rfl (fun K hK => ?_)
      go_wp2_with (go_at_call 12; refine (HSM.out _ q8).mono ?_; rintro e w9 ⟨rfl, q9⟩)
      refine hK _ _ (fun _ => HBW.out _ _ q9) ?_
      clear hK K
      repeat (refine mix_free (v := ?_) rfl ?_ ?_; rotate_left; (focus (intro w' hI; clear hI; go_simp; try with_reducible rfl)); simp only [Act.put, List.setIfInBounds_toArray, List.set_cons_zero, List.set_cons_succ])
      refine mix_big rfl (fun K hK => ?_)
      go_wp2_with (go_at_call 7; refine (q9.awake).mono ?_; rintro e w10 ⟨rfl, q10⟩)
      refine hK _ _ (fun _ => HBW.out _ _ q10) ?_
      clear hK K
      repeat (refine mix_free (v := ?_) rfl ?_ ?_; rotate_left; (focus (intro w' hI; clear hI; go_simp; try with_reducible rfl)); simp only [Act.put, List.setIfInBounds_toArray, List.set_cons_zero, List.set_cons_succ])
      refine mix_nil ?_
      go_wp2
      go_ret
      have hz := HBL.out.size
      exact ⟨rfl, HBL.out.trans ⟨(HBW.out _ _ q10).os, (HBW.out _ _ q10).tape, (HBW.out _ _ q10).output, (HBW.out _ _ q10).size, fun i hi => (HBW.out _ _ q10).block i (by have := HV.out; omega)⟩⟩
end Go.Proofs.YtccocblkdijccaaDoor.sha
