/- LruWalk: from the oldest one on. -/
import Derived.Test.YtjjapnphljhicadLruCell
namespace Go.Proofs.Ytjjapnphljhicad.lru
open Go.RowKit
open Go.Proofs.Ytjjapnphljhicad.stepkit Go.Proofs.Ytjjapnphljhicad.eqkit Go.Proofs.Ytjjapnphljhicad.idkit Go.Proofs.Ytjjapnphljhicad.obj Go.Proofs.Ytjjapnphljhicad.row Go.Proofs.Ytjjapnphljhicad.mapkit Go.Proofs.Ytjjapnphljhicad.mix Go.Proofs.Ytjjapnphljhicad.argkit


set_option maxRecDepth 20000 in
set_option maxHeartbeats 4000000 in
theorem walk_any (ao : Option Addr) (rows : List (List Value)) (cap : Nat) (w : World) (hcap : rows.length ≤ maxLen) (hrow : RowsAt w w.heap.size 33 ao rows) (hfit : ∀ r ∈ rows, Fits actKinds r) :
    Calls Try.prog 5 #[.slice ao rows.length cap] w fun e w' => e = .returned (.bool true) ∧ Below w.heap.size w w' := by
  unfold maxLen at hcap
  obtain ⟨i0, hi, hz0, hz1, hz2⟩ := infoIds_parts
  have HBS := Lib.hid slice_id
  have hN := new_duo w
  obtain ⟨B, hB⟩ : ∃ B, w.heap.size = B := ⟨_, rfl⟩
  rw [hB] at hrow hN ⊢
  have HB := Lib.hid hB
  clear hB
  go_enter Try.func5, Try.ntmps5
  go_wp2_with (go_at_call 7; refine hN.mono ?_; rintro e w1 ⟨rfl, F, hd⟩; have HD0 := Lib.hid hd; clear hd hN)
  obtain ⟨w0, hw0⟩ : ∃ w0, w0 = w := ⟨_, rfl⟩
  rw [← hw0] at HD0
  have HW0 := Lib.hid hw0
  go_loopw [4] (fun i wr => ∃ (j : Nat) (x : List (List Int)), j ≤ rows.length ∧ j ≤ 80 ∧ i = .int .i64 j ∧ x.length ≤ j ∧ ∃ F, Duo B w (LruX (B + 2) x) nothing F nobody wr) (fun i _ => 80 - (intOf i).toNat)
  case atStart => exact ⟨0, [], by omega, by omega, rfl, by simp, F, by rw [← hw0]; exact HD0.out⟩
  case round =>
    clear HD0 F
    obtain ⟨j, x, hj, hj80, rfl, hxl, F, hd⟩ := hrel
    by_cases hlt : j < rows.length ∧ j < 80
    · obtain ⟨h3, h4⟩ := hlt
      obtain ⟨bb, oo, rfl, hbb, hcell⟩ := hrow (by omega)
      have hmem : rows.getD j [] ∈ rows := by rw [List.getD, List.getElem?_eq_getElem h3]; exact List.getElem_mem _
      obtain ⟨k, ida, hr, hida⟩ := act_row (hfit _ hmem)
      obtain ⟨c0, ri⟩ := row_at hbb hcell hd.below j h3 hr hida
      have HRI := Lib.hid ri
      have SA := Lib.hid (sizeId hida)
      have HROW := Lib.hid hrow
      have huse := use_x hd.a ida hida
      have hdrop := drop_x hd.a ida hida
      have HLU : Hid ((useL x ida).length ≤ j + 1) := Lib.hid (by rw [useL_len]; have := dropL_len x ida; omega)
      have HLD : Hid ((dropL x ida).length ≤ j + 1) := Lib.hid (by have := dropL_len x ida; omega)
      have HD := Lib.hid hd
      clear hr hmem hcell hrow hd ri
      generalize useL x ida = xu at *
      generalize dropL x ida = xd at *
      have hkk : (k = 0 ∨ k = 1) ∨ (¬ k = 0 ∧ ¬ k = 1) := by omega
      rcases hkk with hkk | ⟨n0, n1⟩
      · rcases hkk with rfl | rfl
        all_goals
          go_wp2_with first
            | (with_reducible refine wpList_load_mid rfl _ _ rfl _ _ rfl _ _ HRI.out Try.underlying24 rfl SA.out ?_)
            | (go_at_call 8; refine huse.mono ?_; rintro e w2 ⟨rfl, hs⟩; obtain ⟨F2, hd2⟩ := HD.out.left local_nothing hs; have HD2 := Lib.hid hd2; clear hs hd2 huse hdrop c0)
          go_roundw
          case rel => exact ⟨j + 1, xu, by omega, by omega, by go_num, HLU.out, F2, HD2.out⟩
          case measure => simp [intOf]; omega
      · have m1 : (k == 0) = false := by simpa using n0
        have m2 : (k == 1) = false := by simpa using n1
        go_wp2_with first
          | (with_reducible refine wpList_load_mid rfl _ _ rfl _ _ rfl _ _ HRI.out Try.underlying24 rfl SA.out ?_)
          | (go_at_call 9; refine hdrop.mono ?_; rintro e w2 ⟨rfl, hs⟩; obtain ⟨F2, hd2⟩ := HD.out.left local_nothing hs; have HD2 := Lib.hid hd2; clear hs hd2 huse hdrop c0)
        go_roundw
        case rel => exact ⟨j + 1, xd, by omega, by omega, by go_num, HLD.out, F2, HD2.out⟩
        case measure => simp [intOf]; omega
    · have hex : rows.length ≤ j ∨ (j < rows.length ∧ 80 ≤ j) := by omega
      have hwx := hd.a.wh
      have hnd := hd.a.nodup
      have hx80 : x.length ≤ 80 := by omega
      have hold := oldest_x hd.a
      have HA0 := Lib.hid (atX_len hwx)
      have SA0 := Lib.hid (sizeId (atX_len hwx 0))
      have HL0 := Lib.hid (show (idc (atX x 0)).length = 32 by rw [idc_len, atX_len hwx])
      rw [atX_zero, show decide (x.length ≠ 0) = decide (0 < x.length) by simp [Nat.pos_iff_ne_zero]] at hold
      have HD := Lib.hid hd
      clear hrow hd hlt
      rcases hex with hex | ⟨hex1, hex2⟩
      all_goals
        go_wp2_with first
          | (go_at_call 18; refine hold.mono ?_; rintro e w2 ⟨rfl, t2⟩; clear hold)
          | (refine wpList_idc rfl _ _ _ rfl (idc (atX x 0)) rfl rfl HL0.out SA0.out (idc_one _) ?_; intro w3 t3 r3 q3 z3; obtain ⟨G, hd3⟩ := Duo.celled HD.out (local_lrux _ _) (t2.trans t3 (fun _ h => False.elim h)) r3 q3 t2.size z3; clear t2 t3 r3 q3 z3)
        obtain ⟨P, hP⟩ : ∃ P, w2.heap.size = P := ⟨_, rfl⟩
        rw [hP] at hd3 ⊢
        clear hP
        have HD3 := Lib.hid hd3
        clear hd3
        go_loopw [5, 7, 8] (fun v ok n wr => ∃ (j : Nat), j ≤ x.length ∧ n = .int .i64 j ∧ ok = .bool (decide (j < x.length)) ∧ ∃ F G, Duo B w (LruX (B + 2) x) (SlCell v (x.take j) P (atX x j)) F G wr) (fun _ _ n _ => 90 - (intOf n).toNat)
        case atStart => exact ⟨0, by omega, rfl, rfl, F, G, HD3.out⟩
        case round =>
          clear HD3 HD F G
          obtain ⟨j, hj, rfl, hok, F, G, hd⟩ := hrel
          by_cases hlt : j < x.length
          · rw [decide_eq_true hlt] at hok
            subst hok
            have hn90 : (j : Int) < 90 := by omega
            obtain ⟨ha1, ha2⟩ := after_at hnd hlt
            have hidk := wh_get hwx hlt
            have hnt := decide_eq_false (not_in_take hnd hlt)
            have HNX := Lib.hid (take_next hlt)
            have HNL := HA0.out (j + 1)
            have hwt : Wh (x.take j) := fun z hz => hwx z (List.mem_of_mem_take hz)
            obtain ⟨a5, c5, hv5, _⟩ := (show Sl _ _ _ _ _ _ from hd.c.1).shape
            subst hv5
            have hA : atX x j = x.getD j [] := by unfold atX; rw [if_pos hlt]
            rw [hA] at hd
            have hlj : (x.take j).length ≤ 1024 := by rw [List.length_take]; omega
            generalize x.getD j [] = idk at *
            generalize x.take j = y at *
            have hAf := fun W (h : LruX (B + 2) x F W) => after_x h idk hidk
            rw [ha1, ha2] at hAf
            have hHas := ref_has _ y hwt idk hidk wr hd.c.1 hlj
            rw [hnt] at hHas
            have SK := Lib.hid (sizeId hidk)
            have SN := Lib.hid (sizeId HNL)
            have RI1 := Lib.hid hd.c.2.1.1
            clear ha1 ha2 hnt hA
            go_wp2_with first
              | (with_reducible refine wpList_load_mid rfl _ _ rfl _ _ rfl _ _ RI3.out Try.underlying24 rfl SK.out ?_)
              | (with_reducible refine wpList_load_mid rfl _ _ rfl _ _ rfl _ _ RI2.out Try.underlying24 rfl SK.out ?_)
              | (with_reducible refine wpList_load_mid rfl _ _ rfl _ _ rfl _ _ RI1.out Try.underlying24 rfl SK.out ?_)
              | (go_at_call 15; refine hHas.mono ?_; rintro e w4 ⟨rfl, t4⟩; have hd4 := hd.still (local_lrux _ _) (local_cell _ _ _ _) t4; have RI2 := Lib.hid hd4.c.2.1.1; obtain ⟨W1, hW1⟩ : ∃ W1, W1 = w4.alloc (.cells (idc idk).toArray 24) := ⟨_, rfl⟩; have hd4' : Duo B w (LruX (B + 2) x) _ F G W1 := hd4.still (local_lrux _ _) (local_cell _ _ _ _) (by rw [hW1]; exact (Turns.refl _ _).alloc _); have HQ := Lib.hid (src_one (id := idk) (by rw [hW1]; exact heap_alloc_new w4 _ : W1.heap[w4.heap.size]? = _) hidk); have HW1 := Lib.hid hW1; clear t4 hd hHas hW1 hd4 RI1)
              | (with_reducible refine wpList_build_run rfl _ _ _ rfl #[(0, .agg (idc idk).toArray)] (by kernel_rfl) (HBS.out _ hidk _) ?_)
              | (at_builtin; rw [← HW1.out]; refine wpList_append_sl rfl _ _ 31 rfl Try.underlying31 hi hz0 hz1 hz2 (by rw [Value.cells]; simp [idc_len, zid_len]) (by decide) rfl rfl hd4'.c.1 HQ.out (by unfold maxLen; omega) (by omega) ?_; intro v5 w5 h5 t5 n5 _; have h5' : ISl w5 v5 (y ++ [idk]) := (by unfold ISl; rw [List.length_append, List.length_singleton, icells_append]; exact h5); obtain ⟨G5, hd5⟩ := hd4'.right (local_lrux _ _) (SlCell.push hd4'.c h5' t5 n5); have RI3 := Lib.hid hd5.c.2.1.1; clear h5 h5' t5 n5 hd4' HQ RI2)
              | (go_at_call 16; refine (hAf _ hd5.a).mono ?_; rintro e w6 ⟨rfl, t6⟩; have hd6 := hd5.still (local_lrux _ _) (local_cell _ _ _ _) t6; clear hd5 t6 RI3)
              | (refine wpList_store_mid rfl _ _ _ rfl _ _ _ rfl rfl (by rw [List.size_toArray, idc_len, HNL]; exact hd6.c.2.1.2.1) (by rw [List.size_toArray]; exact SN.out) (all_oneCell_toArray (idc_one _)) ?_; rw [List.toList_toArray]; obtain ⟨G7, hd7⟩ := hd6.right (local_lrux _ _) (SlCell.put hd6.c HNL); have HD7 := Lib.hid hd7; clear hd7 hd6)
            go_roundw
            case rel => exact ⟨j + 1, by omega, by go_num, rfl, F, G7, by rw [← HNX.out]; exact HD7.out⟩
            case measure => simp [intOf]; omega
          · rw [decide_eq_false hlt] at hok
            subst hok
            have hjx : j = x.length := by omega
            rw [hjx, List.take_length] at hd
            have HD9 := Lib.hid hd
            obtain ⟨a5, c5, hv5, _⟩ := (show Sl _ _ _ _ _ _ from HD9.out.c.1).shape
            subst hv5
            have hn90 : (j : Int) < 90 := by omega
            clear hd hlt hj hjx
            go_wp2_with first
              | (go_at_call 10; refine (all_x HD9.out.a (by omega)).mono ?_; rintro e w5 ⟨v5, rfl, s5, f5, t5⟩; have HS5 := Lib.hid s5; have HT5 : Hid (Turns nobody wr w5) := Lib.hid t5; clear s5 f5 t5)
              | (go_at_call 11; refine (same_any _ _ x hwx _ (Sl.keep HD9.out.c.1 HT5.out (fun _ _ h => h)) HS5.out (by omega)).mono ?_; rintro e w6 ⟨rfl, t6⟩; have HT6 : Hid (Turns nobody wr w6) := Lib.hid (HT5.out.trans t6 (fun _ h => False.elim h)); have HD6 := Lib.hid (HD9.out.still (local_lrux _ _) (local_cell _ _ _ _) HT6.out); clear t6)
              | (go_at_call 19; refine (len_x HD6.out.a).mono ?_; rintro e w7 ⟨rfl, rfl⟩)
              | (go_at_call 13; refine (awake_any _).mono ?_; rintro e w8 ⟨rfl, t8⟩)
            go_ret
            exact ⟨rfl, HD6.out.below.trans (t8.below HD6.out.size (fun _ h => h.elim))⟩

end Go.Proofs.Ytjjapnphljhicad.lru
