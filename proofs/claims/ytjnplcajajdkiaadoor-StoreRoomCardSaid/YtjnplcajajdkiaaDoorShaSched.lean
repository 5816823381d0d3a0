/- The program's words of all rounds. -/
import Derived.Test.YtjnplcajajdkiaaDoorShaRef
namespace Go.Proofs.YtjnplcajajdkiaaDoor.sha
open Go.RowKit
open Go.Proofs.YtjnplcajajdkiaaDoor.stepkit Go.Proofs.YtjnplcajajdkiaaDoor.obj Go.Proofs.YtjnplcajajdkiaaDoor.row Go.Proofs.YtjnplcajajdkiaaDoor.mix Go.Proofs.YtjnplcajajdkiaaDoor.idkit

theorem wi_wd4 (l : List UInt8) (k : Nat) : bits .or .u32 (bits .or .u32 (bits .or .u32 (((l.getD k 0).toNat : Int) * 16777216) (((l.getD (k + 1) 0).toNat : Int) * 65536)) (((l.getD (k + 2) 0).toNat : Int) * 256)) ((l.getD (k + 3) 0).toNat : Int) = wi (wd4 l k) := wd_or _ _ _ _

set_option maxRecDepth 10000 in
set_option maxHeartbeats 2000000 in
theorem schedule_any (g o cap : Nat) (l : List UInt8) (hl : l.length = 64) (w : World) (hb : BSl w (.slice (some ⟨g, o, none⟩) 64 cap) l) :
    Calls Tryd.prog 63 #[.slice (some ⟨g, o, none⟩) 64 cap] w fun e w' => e = .returned (.agg (arr 64 (wdAt l)).toArray) ∧ Turns nobody w w' := by
  obtain ⟨H, hH⟩ : ∃ H, w.heap.size = H := ⟨_, rfl⟩
  obtain ⟨w3, hw3⟩ : ∃ w3, w3 = (w.alloc (.cells #[.int .u32 0, .int .u32 0, .int .u32 0, .int .u32 0, .int .u32 0, .int .u32 0, .int .u32 0, .int .u32 0, .int .u32 0, .int .u32 0, .int .u32 0, .int .u32 0, .int .u32 0, .int .u32 0, .int .u32 0, .int .u32 0, .int .u32 0, .int .u32 0, .int .u32 0, .int .u32 0, .int .u32 0, .int .u32 0, .int .u32 0, .int .u32 0, .int .u32 0, .int .u32 0, .int .u32 0, .int .u32 0, .int .u32 0, .int .u32 0, .int .u32 0, .int .u32 0, .int .u32 0, .int .u32 0, .int .u32 0, .int .u32 0, .int .u32 0, .int .u32 0, .int .u32 0, .int .u32 0, .int .u32 0, .int .u32 0, .int .u32 0, .int .u32 0, .int .u32 0, .int .u32 0, .int .u32 0, .int .u32 0, .int .u32 0, .int .u32 0, .int .u32 0, .int .u32 0, .int .u32 0, .int .u32 0, .int .u32 0, .int .u32 0, .int .u32 0, .int .u32 0, .int .u32 0, .int .u32 0, .int .u32 0, .int .u32 0, .int .u32 0, .int .u32 0] 98)).alloc (.cells #[.int .u32 0, .int .u32 0, .int .u32 0, .int .u32 0, .int .u32 0, .int .u32 0, .int .u32 0, .int .u32 0, .int .u32 0, .int .u32 0, .int .u32 0, .int .u32 0, .int .u32 0, .int .u32 0, .int .u32 0, .int .u32 0, .int .u32 0, .int .u32 0, .int .u32 0, .int .u32 0, .int .u32 0, .int .u32 0, .int .u32 0, .int .u32 0, .int .u32 0, .int .u32 0, .int .u32 0, .int .u32 0, .int .u32 0, .int .u32 0, .int .u32 0, .int .u32 0, .int .u32 0, .int .u32 0, .int .u32 0, .int .u32 0, .int .u32 0, .int .u32 0, .int .u32 0, .int .u32 0, .int .u32 0, .int .u32 0, .int .u32 0, .int .u32 0, .int .u32 0, .int .u32 0, .int .u32 0, .int .u32 0, .int .u32 0, .int .u32 0, .int .u32 0, .int .u32 0, .int .u32 0, .int .u32 0, .int .u32 0, .int .u32 0, .int .u32 0, .int .u32 0, .int .u32 0, .int .u32 0, .int .u32 0, .int .u32 0, .int .u32 0, .int .u32 0] 98) := ⟨_, rfl⟩
  have a2 : Arr w3 H 64 98 (fun _ => 0) := by
    rw [hw3, ← hH]
    exact (show Arr (w.alloc (.cells #[.int .u32 0, .int .u32 0, .int .u32 0, .int .u32 0, .int .u32 0, .int .u32 0, .int .u32 0, .int .u32 0, .int .u32 0, .int .u32 0, .int .u32 0, .int .u32 0, .int .u32 0, .int .u32 0, .int .u32 0, .int .u32 0, .int .u32 0, .int .u32 0, .int .u32 0, .int .u32 0, .int .u32 0, .int .u32 0, .int .u32 0, .int .u32 0, .int .u32 0, .int .u32 0, .int .u32 0, .int .u32 0, .int .u32 0, .int .u32 0, .int .u32 0, .int .u32 0, .int .u32 0, .int .u32 0, .int .u32 0, .int .u32 0, .int .u32 0, .int .u32 0, .int .u32 0, .int .u32 0, .int .u32 0, .int .u32 0, .int .u32 0, .int .u32 0, .int .u32 0, .int .u32 0, .int .u32 0, .int .u32 0, .int .u32 0, .int .u32 0, .int .u32 0, .int .u32 0, .int .u32 0, .int .u32 0, .int .u32 0, .int .u32 0, .int .u32 0, .int .u32 0, .int .u32 0, .int .u32 0, .int .u32 0, .int .u32 0, .int .u32 0, .int .u32 0] 98)) w.heap.size 64 98 (fun _ => 0) from heap_alloc_new w _).turns ((Turns.refl nobody _).alloc _) (fun h => h)
  have a3 : Arr w3 (H + 1) 64 98 (schedF l 0) := by
    rw [hw3, ← hH, show w.heap.size + 1 = (w.alloc (.cells #[.int .u32 0, .int .u32 0, .int .u32 0, .int .u32 0, .int .u32 0, .int .u32 0, .int .u32 0, .int .u32 0, .int .u32 0, .int .u32 0, .int .u32 0, .int .u32 0, .int .u32 0, .int .u32 0, .int .u32 0, .int .u32 0, .int .u32 0, .int .u32 0, .int .u32 0, .int .u32 0, .int .u32 0, .int .u32 0, .int .u32 0, .int .u32 0, .int .u32 0, .int .u32 0, .int .u32 0, .int .u32 0, .int .u32 0, .int .u32 0, .int .u32 0, .int .u32 0, .int .u32 0, .int .u32 0, .int .u32 0, .int .u32 0, .int .u32 0, .int .u32 0, .int .u32 0, .int .u32 0, .int .u32 0, .int .u32 0, .int .u32 0, .int .u32 0, .int .u32 0, .int .u32 0, .int .u32 0, .int .u32 0, .int .u32 0, .int .u32 0, .int .u32 0, .int .u32 0, .int .u32 0, .int .u32 0, .int .u32 0, .int .u32 0, .int .u32 0, .int .u32 0, .int .u32 0, .int .u32 0, .int .u32 0, .int .u32 0, .int .u32 0, .int .u32 0] 98)).heap.size by simp]
    exact heap_alloc_new _ _
  have t3 : Turns nobody w w3 := by rw [hw3]; exact ((Turns.refl nobody _).alloc _).alloc _
  have z3 : w3.heap.size = H + 2 := by rw [hw3, ← hH]; simp
  have HB : Hid (∀ W, Turns nobody w W → BSl W (.slice (some ⟨g, o, none⟩) 64 cap) l) := Lib.hid fun W ht => Sl.keep hb ht (fun _ _ h => h)
  have HT3 := Lib.hid t3
  have HA2 := Lib.hid a2
  have HA3 := Lib.hid a3
  have HW3 := Lib.hid hw3
  clear hb a2 a3 t3 hw3
  go_enter Tryd.func63, Tryd.ntmps63
  go_wp2
  rw [← HW3.out]
  go_loopw [9] (fun i wr => ∃ n : Nat, n ≤ 64 ∧ i = .int .i64 n ∧ Arr wr (H + 1) 64 98 (schedF l n) ∧ Turns (fun b => b = H + 1) w3 wr ∧ wr.heap.size = H + 2) (fun i _ => 64 - (intOf i).toNat)
  case atStart => exact ⟨0, by omega, rfl, HA3.out, Turns.refl _ _, z3⟩
  case round =>
    clear HA3
    obtain ⟨n, hn, rfl, ha, ht, hz⟩ := hrel
    have HT := Lib.hid ht
    have hTW : Turns nobody w wr := HT3.out.trans ht (fun i hi => Or.inr (by rw [hi]; omega))
    have HTW := Lib.hid hTW
    have HA := Lib.hid ha
    have fr := ha.free n
    by_cases hlt : n < 64
    · have cn := ha.cell n hlt
      by_cases h16 : n < 16
      · obtain ⟨p, hp⟩ : ∃ p, 4 * n = p := ⟨_, rfl⟩
        have b0 := (HB.out _ hTW).cell p (by omega)
        have b1 := (HB.out _ hTW).cell (p + 1) (by omega)
        have b2 := (HB.out _ hTW).cell (p + 2) (by omega)
        have b3 := (HB.out _ hTW).cell (p + 3) (by omega)
        have HWD : Hid (bits .or .u32 (bits .or .u32 (bits .or .u32 (((l.getD p 0).toNat : Int) * 16777216) (((l.getD (p + 1) 0).toNat : Int) * 65536)) (((l.getD (p + 2) 0).toNat : Int) * 256)) ((l.getD (p + 3) 0).toNat : Int) = wi (wdAt l n)) := Lib.hid (by rw [wi_wd4, ← hp, wd_low l n h16])
        generalize l.getD p 0 = x0 at *
        generalize l.getD (p + 1) 0 = x1 at *
        generalize l.getD (p + 2) 0 = x2 at *
        generalize l.getD (p + 3) 0 = x3 at *
        have y0 := x0.toNat_lt
        have y1 := x1.toNat_lt
        have y2 := x2.toNat_lt
        have y3 := x3.toNat_lt
        have hpi : 4 * (n : Int) = (p : Int) := by omega
        have hp0 : (p : Int) < 64 := by omega
        have hp1 : (p : Int) + 1 < 64 := by omega
        have hp2 : (p : Int) + 2 < 64 := by omega
        have hp3 : (p : Int) + 3 < 64 := by omega
        have hq1 : (0 : Int) ≤ (p : Int) + 1 := by omega
        have hq2 : (0 : Int) ≤ (p : Int) + 2 := by omega
        have hq3 : (0 : Int) ≤ (p : Int) + 3 := by omega
        have hr1 : ((p : Int) + 1).toNat = p + 1 := by omega
        have hr2 : ((p : Int) + 2).toNat = p + 2 := by omega
        have hr3 : ((p : Int) + 3).toNat = p + 3 := by omega
        have hw0 : IntKind.i64.wrap (p : Int) = p := IntWalk.i64_in _ (by omega)
        have hw1 : IntKind.i64.wrap ((p : Int) + 1) = p + 1 := IntWalk.i64_in _ (by omega)
        have hw2 : IntKind.i64.wrap ((p : Int) + 2) = p + 2 := IntWalk.i64_in _ (by omega)
        have hw3' : IntKind.i64.wrap ((p : Int) + 3) = p + 3 := IntWalk.i64_in _ (by omega)
        have hn64 : (n : Int) < 64 := by omega
        clear ha ht hTW hp
        go_wp2
        refine wp_region_mix [(0, true, true), (1, true, true), (2, true, true), (3, true, true), (4, true, true), (5, true, true), (6, true, true), (7, true, true), (8, true, true), (9, true, true), (10, true, true), (11, true, true), (12, true, true), (13, true, true), (14, true, true), (15, true, true), (16, true, true), (17, true, true), (18, true, true), (19, true, true), (20, true, true), (21, true, true), (22, true, true), (23, true, true), (24, true, true), (25, true, true), (26, true, true), (27, true, true), (28, true, true), (29, true, true), (30, true, true), (31, true, true), (32, true, true), (33, true, true), (34, true, true), (35, false, false)] (fun W => W = wr.drew) (by kernel_rfl) (by kernel_rfl) (rfl) ?_
        simp only [picked, List.filterMap_cons, List.filterMap_nil, List.getElem?_toArray, List.getElem?_cons_zero, List.getElem?_cons_succ, Option.map_some]
        repeat (refine mix_free (v := ?_) rfl ?_ ?_; rotate_left; (focus (intro w' hI; subst hI; go_simp; try with_reducible rfl)); simp only [Act.put, List.setIfInBounds_toArray, List.set_cons_zero, List.set_cons_succ])
        refine mix_big rfl (fun K hK => ?_)
        go_wp2
        refine hK _ _ (fun h => by cases h) ?_
        clear hK K
        refine mix_nil ?_
        go_wp2
        rw [HWD.out]
        have hs := Arr.set (w := wr.drew) (HA.out : Arr wr.drew _ _ _ _) n (wdAt l n)
        rw [schedF_succ] at hs
        exact ⟨⟨n + 1, by omega, by go_num, hs, (HT.out.drew).setCell (H + 1) n _ (Or.inl rfl), by rw [← hz]; simp [World.setCell]⟩, by simp [intOf]; omega⟩
      · obtain ⟨m, rfl⟩ : ∃ m, n = m + 16 := ⟨n - 16, by omega⟩
        have c0 := ha.cell m (by omega)
        have c1 := ha.cell (m + 1) (by omega)
        have c7 := ha.cell (m + 9) (by omega)
        have c2 := ha.cell (m + 14) (by omega)
        rw [schedF_lt (by omega)] at c0 c1 c7 c2
        obtain ⟨d0, h0⟩ : ∃ d, wdAt l m = d := ⟨_, rfl⟩
        obtain ⟨d1, h1⟩ : ∃ d, wdAt l (m + 1) = d := ⟨_, rfl⟩
        obtain ⟨d7, h7⟩ : ∃ d, wdAt l (m + 9) = d := ⟨_, rfl⟩
        obtain ⟨d2, h2⟩ : ∃ d, wdAt l (m + 14) = d := ⟨_, rfl⟩
        rw [h0] at c0
        rw [h1] at c1
        rw [h7] at c7
        rw [h2] at c2
        have HN : Hid (nxt d0 d1 d7 d2 = wdAt l (m + 16)) := Lib.hid (by rw [← h0, ← h1, ← h7, ← h2, wd_next])
        obtain ⟨dn, hdn⟩ : ∃ d, wdAt l (m + 16) = d := ⟨_, rfl⟩
        rw [hdn] at HN
        have HDN := Lib.hid hdn
        clear h0 h1 h7 h2 hdn
        have hwm : IntKind.i64.wrap (m : Int) = m := IntWalk.i64_in _ (by omega)
        have hw7 : IntKind.i64.wrap ((m : Int) + 16 - 7) = m + 9 := by rw [IntWalk.i64_in _ (by omega)]; omega
        have hw2 : IntKind.i64.wrap ((m : Int) + 16 - 2) = m + 14 := by rw [IntWalk.i64_in _ (by omega)]; omega
        have hw15 : IntKind.i64.wrap ((m : Int) + 16 - 15) = m + 1 := by rw [IntWalk.i64_in _ (by omega)]; omega
        have hp9 : (0 : Int) ≤ (m : Int) + 9 := by omega
        have ht9 : ((m : Int) + 9).toNat = m + 9 := by omega
        have hp14 : (0 : Int) ≤ (m : Int) + 14 := by omega
        have ht14 : ((m : Int) + 14).toNat = m + 14 := by omega
        have hp1 : (0 : Int) ≤ (m : Int) + 1 := by omega
        have ht1 : ((m : Int) + 1).toNat = m + 1 := by omega
        have hp16 : (0 : Int) ≤ (m : Int) + 16 := by omega
        have ht16 : ((m : Int) + 16).toNat = m + 16 := by omega
        have hm0 : (m : Int) < 64 := by omega
        have hm1 : (m : Int) + 1 < 64 := by omega
        have hm2 : (m : Int) + 9 < 64 := by omega
        have hm3 : (m : Int) + 14 < 64 := by omega
        have D7 : ∀ W, Calls Tryd.prog 64 #[.int .u32 (wi d1), .int .i64 7] W fun e w' => e = .returned (.int .u32 (wi (rotr d1 7))) ∧ W = w' := fun W => down_w d1 7 (by decide) (by decide) W
        have D18 : ∀ W, Calls Tryd.prog 64 #[.int .u32 (wi d1), .int .i64 18] W fun e w' => e = .returned (.int .u32 (wi (rotr d1 18))) ∧ W = w' := fun W => down_w d1 18 (by decide) (by decide) W
        have D17 : ∀ W, Calls Tryd.prog 64 #[.int .u32 (wi d2), .int .i64 17] W fun e w' => e = .returned (.int .u32 (wi (rotr d2 17))) ∧ W = w' := fun W => down_w d2 17 (by decide) (by decide) W
        have D19 : ∀ W, Calls Tryd.prog 64 #[.int .u32 (wi d2), .int .i64 19] W fun e w' => e = .returned (.int .u32 (wi (rotr d2 19))) ∧ W = w' := fun W => down_w d2 19 (by decide) (by decide) W
        clear ha ht hTW
        go_wp2
        refine wp_region_mix [(0, true, true), (1, true, true), (2, true, true), (3, true, true), (4, true, true), (5, true, true), (6, true, true), (7, true, true), (8, true, true), (9, true, true)] (fun W => W = wr.drew) (by kernel_rfl) (by kernel_rfl) (rfl) ?_
        simp only [picked, List.filterMap_cons, List.filterMap_nil, List.getElem?_toArray, List.getElem?_cons_zero, List.getElem?_cons_succ, Option.map_some]
        repeat (refine mix_free (v := ?_) rfl ?_ ?_; rotate_left; (focus (intro w' hI; subst hI; go_simp; try with_reducible rfl)); simp only [Act.put, List.setIfInBounds_toArray, List.set_cons_zero, List.set_cons_succ])
        refine mix_nil ?_
        go_wp2_with first
          | (go_at_call 64; (with_reducible refine (D7 _).mono ?_); rintro e w5 ⟨rfl, rfl⟩)
          | (go_at_call 64; (with_reducible refine (D18 _).mono ?_); rintro e w5 ⟨rfl, rfl⟩)
          | (go_at_call 64; (with_reducible refine (D17 _).mono ?_); rintro e w5 ⟨rfl, rfl⟩)
          | (go_at_call 64; (with_reducible refine (D19 _).mono ?_); rintro e w5 ⟨rfl, rfl⟩)
        simp only [wi_xor, wi_shr3, wi_shr10]
        refine wp_region_mix [(0, true, true), (1, true, true), (2, true, true), (3, true, true), (4, true, true), (5, true, true), (6, true, true), (7, true, true), (8, true, true), (9, true, true), (10, true, true), (11, true, true), (12, true, true), (13, true, true), (14, true, true), (15, false, false)] (fun W => W = wr.drew.drew) (by kernel_rfl) (by kernel_rfl) (rfl) ?_
        simp only [picked, List.filterMap_cons, List.filterMap_nil, List.getElem?_toArray, List.getElem?_cons_zero, List.getElem?_cons_succ, Option.map_some]
        repeat (refine mix_free (v := ?_) rfl ?_ ?_; rotate_left; (focus (intro w' hI; subst hI; go_simp; (try simp only [wi_xor, wi_add, wi_addw, wi_shr3, wi_shr10]); with_reducible rfl)); simp only [Act.put, List.setIfInBounds_toArray, List.set_cons_zero, List.set_cons_succ])
        refine mix_big rfl (fun K hK => ?_)
        go_wp2
        refine hK _ _ (fun h => by cases h) ?_
        clear hK K
        refine mix_nil ?_
        go_wp2
        rw [wi_nxt, HN.out]
        have hs := Arr.set (w := wr.drew.drew) (HA.out : Arr wr.drew.drew _ _ _ _) (m + 16) dn
        rw [← HDN.out, schedF_succ, HDN.out] at hs
        exact ⟨⟨m + 16 + 1, by omega, by go_num, hs, (HT.out.drew.drew).setCell (H + 1) (m + 16) _ (Or.inl rfl), by rw [← hz]; simp [World.setCell]⟩, by simp [intOf]; omega⟩
    · obtain rfl : n = 64 := by omega
      have HR9 := Lib.hid ha.range
      have SZ9 := Lib.hid (size64 (schedF l 64))
      have HO9 : Hid (Arr wr H 64 98 (fun _ => 0)) := Lib.hid (HA2.out.turns ht (by omega))
      clear ha ht hTW
      go_wp2_with first
        | (with_reducible refine wpList_load_mid rfl _ _ rfl _ _ rfl _ _ HR9.out Tryd.underlying98 rfl SZ9.out ?_)
        | (refine wpList_put rfl _ _ _ rfl (schedF l 64) HO9.out rfl rfl info64 ?_; intro w9 t9 a9 z9)
      have e : arr 64 (schedF l 64) = arr 64 (wdAt l) := arr_congr fun i hi => schedF_lt hi
      refine bodyPost_ret (results_one rfl _ _ rfl a9.range Tryd.underlying98 rfl (size64 _)) rfl ?_
      exact ⟨by rw [e], HTW.out.trans t9 (fun i hi => Or.inr (by rw [hi]; omega))⟩
end Go.Proofs.YtjnplcajajdkiaaDoor.sha
