/- The reference's store: what it tells. -/
import Derived.Test.YtjnplcajajdkiaaDoorStoProg
import Derived.Test.YtjnplcajajdkiaaDoorShaRefSum
namespace Go.Proofs.YtjnplcajajdkiaaDoor.store
open Go.RowKit
open Go.Proofs.YtjnplcajajdkiaaDoor.stepkit Go.Proofs.YtjnplcajajdkiaaDoor.eqkit Go.Proofs.YtjnplcajajdkiaaDoor.idkit Go.Proofs.YtjnplcajajdkiaaDoor.obj Go.Proofs.YtjnplcajajdkiaaDoor.row Go.Proofs.YtjnplcajajdkiaaDoor.mapkit Go.Proofs.YtjnplcajajdkiaaDoor.mix Go.Proofs.YtjnplcajajdkiaaDoor.lru

def findI (x : List (List Int)) (id : List Int) : Int := if id ∈ x then (idxX x id : Int) else -1

/-- What is read of a slice of texts. -/
theorem SSl.reads {w : World} {ao : Option Addr} {cap : Nat} {l : List ByteArray} (h : SSl w (.slice ao l.length cap) l) : ∀ k, k < l.length → ∃ g o, ao = some ⟨g, o, none⟩ ∧ ∀ W, Turns nobody w W → W.cell? ⟨g, o + k, none⟩ = some (.string (l.getD k ⟨#[]⟩)) := fun k hk => by
  obtain ⟨g, o, c, hv, _⟩ := Sl.some_of_pos h (by omega)
  cases hv
  refine ⟨g, o, rfl, fun W ht => ?_⟩
  have hc := Sl.cell h k (by simpa using hk)
  have e : (l.map Value.string).getD k undef = .string (l.getD k ⟨#[]⟩) := by simp [List.getD, hk]
  rw [e] at hc
  exact (ht.cell (lt_of_cell' hc) (fun h => h)).trans hc

set_option maxRecDepth 10000 in
set_option maxHeartbeats 1000000 in
theorem find_ref {X : Nat} {q : Int} {x : List (List Int)} {l : List ByteArray} {P : List (List Int)} {v1 v2 v3 : Value} {w : World} (hc : RefC X q x l P v1 v2 v3 w) (hw : Wh x) (hl : x.length ≤ 1024) (id : List Int) (hid : id.length = 32) :
    Calls Tryd.prog 48 #[.pointer (some ⟨X, 0, none⟩), .agg (idc id).toArray] w fun e w' => e = .returned (.int .i64 (findI x id)) ∧ Turns nobody w w' := by
  obtain ⟨ao, ca, rfl, _⟩ := (show Sl _ _ _ _ _ _ from hc.s1).shape
  have HHA := Lib.hid (ISl.reads hw hc.s1)
  obtain ⟨w0, hw0⟩ : ∃ w0, w0 = w.alloc (.cells (idc id).toArray 31) := ⟨_, rfl⟩
  have ht0 : Turns nobody w w0 := by rw [hw0]; exact (Turns.refl _ _).alloc _
  have hb0 : w0.heap[w.heap.size]? = some (.cells (idc id).toArray 31 (0, 0)) := by rw [hw0]; exact heap_alloc_new w _
  have HRI : Hid (∀ W, Turns nobody w0 W → W.rangeAt w.heap.size 0 (idc id)) := Lib.hid fun W ht => by have := range_block (heap_newer hb0 ht (fun h => h)); rwa [List.toList_toArray] at this
  have HXC : Hid (∀ W, Turns nobody w0 W → W.cell? ⟨X, 1, none⟩ = some (.slice ao x.length ca)) := Lib.hid fun W ht => cells_of ((hc.still ht0).still ht).hp 1 _ rfl
  have SX := Lib.hid (sizeId hid)
  have HT0 := Lib.hid ht0
  have HW0 := Lib.hid hw0
  obtain ⟨res, hres⟩ : ∃ r, findI x id = r := ⟨_, rfl⟩
  rw [hres]
  have HRES := Lib.hid hres
  clear hc hw0 ht0 hb0 hres
  go_enter Tryd.func48, Tryd.ntmps48
  go_wp2
  rw [← HW0.out]
  go_loopw [5] (fun i wr => ∃ k : Nat, k ≤ x.length ∧ i = .int .i64 k ∧ (∀ j, j < k → ¬ x.getD j [] = id) ∧ Turns nobody w0 wr) (fun i _ => x.length - (intOf i).toNat)
  case atStart => exact ⟨0, Nat.zero_le _, rfl, fun _ h => absurd h (Nat.not_lt_zero _), Turns.refl _ _⟩
  case round =>
    obtain ⟨k, hk, rfl, hb, ht⟩ := hrel
    have c1 := HXC.out _ ht
    have c1d := HXC.out _ ht.drew
    by_cases hlt : k < x.length
    · obtain ⟨g, o, rfl, ra⟩ := HHA.out k hlt
      have hil := wh_get hw hlt
      have RA := Lib.hid (ra _ (HT0.out.trans ht.drew (fun _ h => h.elim)))
      have RI := Lib.hid (HRI.out _ ht.drew)
      have HT := Lib.hid ht.drew
      have HB := Lib.hid hb
      have hget : x[k]? = some (x.getD k []) := by rw [List.getD, List.getElem?_eq_getElem hlt]; rfl
      have HGET := Lib.hid hget
      obtain ⟨idk, hidk⟩ : ∃ idk, x.getD k [] = idk := ⟨_, rfl⟩
      have HIDK := Lib.hid hidk
      rw [hidk] at RA hil
      clear ra ht hb hget hidk
      have SK := Lib.hid (sizeId hil)
      by_cases heq : idk = id
      · have hmem : id ∈ x := by rw [← heq, ← HIDK.out]; exact List.mem_of_getElem? HGET.out
        have HMEM : Hid (res = (k : Int)) := Lib.hid (by rw [← HRES.out]; unfold findI; rw [if_pos hmem, idx_eq hlt (by rw [HIDK.out]; exact heq) HB.out])
        clear hmem
        go_wp2
        refine wp_region_mix [(0, true, true), (1, true, true), (2, true, true), (3, true, true), (4, true, true), (5, true, true), (6, true, true), (7, true, true), (8, true, true)] (fun W => W = wr.drew) (by kernel_rfl) (by kernel_rfl) (rfl) ?_
        simp only [picked, List.filterMap_cons, List.filterMap_nil, List.getElem?_toArray, List.getElem?_cons_zero, List.getElem?_cons_succ, Option.map_some]
        iterate 6 (refine mix_free (v := ?_) rfl ?_ ?_; rotate_left; (focus (intro w' hI; subst hI; go_simp; try with_reducible rfl)); simp only [Act.put, List.setIfInBounds_toArray, List.set_cons_zero, List.set_cons_succ])
        refine mix_free (v := .agg (idc idk).toArray) rfl (fun w' hI => by rw [hI]; exact exec_load_mid _ _ rfl _ _ rfl (idc idk) _ RA.out Tryd.underlying31 rfl SK.out) ?_
        simp only [Act.put, List.setIfInBounds_toArray, List.set_cons_zero, List.set_cons_succ]
        refine mix_free (v := .agg (idc id).toArray) rfl (fun w' hI => by rw [hI]; exact exec_load_mid _ _ rfl _ _ rfl (idc id) _ RI.out Tryd.underlying31 rfl SX.out) ?_
        simp only [Act.put, List.setIfInBounds_toArray, List.set_cons_zero, List.set_cons_succ]
        refine mix_free (v := .bool true) rfl (fun w' hI => exec_eq _ _ _ rfl idk id rfl rfl hil hid (by simp [heq])) ?_
        simp only [Act.put, List.setIfInBounds_toArray, List.set_cons_zero, List.set_cons_succ]
        refine mix_nil ?_
        clear heq
        go_wp2
        go_ret
        exact ⟨by rw [HMEM.out]; rfl, HT0.out.trans HT.out (fun _ h => h.elim)⟩
      · have HNE := Lib.hid heq
        go_wp2
        refine wp_region_mix [(0, true, true), (1, true, true), (2, true, true), (3, true, true), (4, true, true), (5, true, true), (6, true, true), (7, true, true), (8, true, true)] (fun W => W = wr.drew) (by kernel_rfl) (by kernel_rfl) (rfl) ?_
        simp only [picked, List.filterMap_cons, List.filterMap_nil, List.getElem?_toArray, List.getElem?_cons_zero, List.getElem?_cons_succ, Option.map_some]
        iterate 6 (refine mix_free (v := ?_) rfl ?_ ?_; rotate_left; (focus (intro w' hI; subst hI; go_simp; try with_reducible rfl)); simp only [Act.put, List.setIfInBounds_toArray, List.set_cons_zero, List.set_cons_succ])
        refine mix_free (v := .agg (idc idk).toArray) rfl (fun w' hI => by rw [hI]; exact exec_load_mid _ _ rfl _ _ rfl (idc idk) _ RA.out Tryd.underlying31 rfl SK.out) ?_
        simp only [Act.put, List.setIfInBounds_toArray, List.set_cons_zero, List.set_cons_succ]
        refine mix_free (v := .agg (idc id).toArray) rfl (fun w' hI => by rw [hI]; exact exec_load_mid _ _ rfl _ _ rfl (idc id) _ RI.out Tryd.underlying31 rfl SX.out) ?_
        simp only [Act.put, List.setIfInBounds_toArray, List.set_cons_zero, List.set_cons_succ]
        refine mix_free (v := .bool false) rfl (fun w' hI => exec_eq _ _ _ rfl idk id rfl rfl hil hid (by simp [heq])) ?_
        simp only [Act.put, List.setIfInBounds_toArray, List.set_cons_zero, List.set_cons_succ]
        refine mix_nil ?_
        clear heq
        go_wp2
        go_roundw
        case rel => exact ⟨k + 1, by omega, by go_num, fun j hj => by rcases Nat.lt_or_ge j k with h | h; exact HB.out j h; rw [show j = k by omega, HIDK.out]; exact HNE.out, HT.out⟩
        case measure => simp [intOf]; omega
    · obtain rfl : k = x.length := by omega
      have hmem : id ∉ x := fun hm => by
        obtain ⟨j, hj, he⟩ := List.mem_iff_getElem.1 hm
        exact hb j hj (by rw [List.getD, List.getElem?_eq_getElem hj]; exact he)
      have HMEM : Hid (res = -1) := Lib.hid (by rw [← HRES.out]; unfold findI; rw [if_neg hmem])
      have HT := Lib.hid ht
      clear ht hb hmem c1d
      go_wp2
      go_ret
      exact ⟨by rw [HMEM.out]; rfl, HT0.out.trans HT.out (fun _ h => h.elim)⟩

set_option maxRecDepth 10000 in
set_option maxHeartbeats 1000000 in
theorem bytes_ref {X : Nat} {q : Int} {E : Held} {P : List (List Int)} {v1 v2 v3 : Value} {w : World} (hc : RefC X q (ids E) (bodies E) P v1 v2 v3 w) (hs : sz E ≤ 4096) (hl : E.length ≤ 1024) :
    Calls Tryd.prog 21 #[.pointer (some ⟨X, 0, none⟩)] w fun e w' => e = .returned (.int .i64 (sz E : Int)) ∧ Turns nobody w w' := by
  have s2 := hc.s2
  obtain ⟨ao, ca, rfl, _⟩ := (show Sl _ _ _ _ _ _ from s2).shape
  have HHA := Lib.hid (SSl.reads s2)
  have c2 : w.cell? ⟨X, 2, none⟩ = some (.slice ao (bodies E).length ca) := cells_of hc.hp 2 _ rfl
  rw [bodies_len] at c2 HHA
  have HS := Lib.hid hs
  clear hc s2
  go_enter Tryd.func21, Tryd.ntmps21
  go_wp2
  go_loopw [3, 4] (fun n i wr => ∃ k : Nat, k ≤ E.length ∧ i = .int .i64 k ∧ n = .int .i64 (sz (E.take k) : Int) ∧ w = wr) (fun _ i _ => E.length - (intOf i).toNat)
  case atStart => exact ⟨0, Nat.zero_le _, rfl, by simp [sz], rfl⟩
  case round =>
    obtain ⟨k, hk, rfl, rfl, rfl⟩ := hrel
    by_cases hlt : k < E.length
    · obtain ⟨g, o, rfl, ra⟩ := HHA.out k hlt
      have r := ra w (Turns.refl _ _)
      have hst := sz_take_succ E hlt
      have e : (bodies E).getD k ⟨#[]⟩ = (en E k).2 := by rw [List.getD, bodies_get E hlt]; rfl
      rw [e] at r
      have hle : sz (E.take (k + 1)) ≤ sz E := by
        have : sz E = sz (E.take (k + 1)) + sz (E.drop (k + 1)) := by rw [← sz_append, List.take_append_drop]
        omega
      have hb1 : (sz (E.take k) : Int) + ((en E k).2.size : Int) ≤ 4096 := by have := HS.out; omega
      have hb0 : (0 : Int) ≤ (sz (E.take k) : Int) := by omega
      have HST := Lib.hid hst
      clear hle hst e ra
      generalize (en E k).2 = b at *
      generalize sz (E.take k) = n at *
      go_wp2
      go_roundw
      case rel => exact ⟨k + 1, by omega, by go_num, by rw [HST.out]; go_num, by first | rfl | trivial⟩
      case measure => simp [intOf]; omega
    · obtain rfl : k = E.length := by omega
      rw [List.take_length]
      go_wp2
      go_ret
      exact ⟨rfl, Turns.refl _ _⟩

set_option maxRecDepth 10000 in
set_option maxHeartbeats 1000000 in
theorem pinned_ref {X : Nat} {q : Int} {E : Held} {P : List (List Int)} {v1 v2 v3 : Value} {w : World} (hc : RefC X q (ids E) (bodies E) P v1 v2 v3 w) (hw : Wh (ids E)) (hwp : Wh P) (hs : sz E ≤ 4096) (hl : E.length ≤ 1024) (hpl : P.length ≤ 1024) :
    Calls Tryd.prog 22 #[.pointer (some ⟨X, 0, none⟩)] w fun e w' => e = .returned (.int .i64 (pins P E : Int)) ∧ Turns nobody w w' := by
  have s1 := hc.s1
  have s2 := hc.s2
  have s3 := hc.s3
  obtain ⟨ai, ci, rfl, _⟩ := (show Sl _ _ _ _ _ _ from s1).shape
  obtain ⟨ao, ca, rfl, _⟩ := (show Sl _ _ _ _ _ _ from s2).shape
  obtain ⟨ap, cp, rfl, _⟩ := (show Sl _ _ _ _ _ _ from s3).shape
  have HHI := Lib.hid (ISl.reads hw s1)
  have HHA := Lib.hid (SSl.reads s2)
  have HC := Lib.hid hc
  have HS3 := Lib.hid s3
  rw [bodies_len] at HHA
  rw [ids_len] at HHI
  have HS := Lib.hid hs
  have HXC : Hid (∀ W, Turns nobody w W → W.cell? ⟨X, 1, none⟩ = some (.slice ai E.length ci) ∧ W.cell? ⟨X, 2, none⟩ = some (.slice ao E.length ca) ∧ W.cell? ⟨X, 3, none⟩ = some (.slice ap P.length cp)) := Lib.hid fun W ht => ⟨by have := cells_of (HC.out.still ht).hp 1 _ rfl; rw [ids_len] at this; exact this, by have := cells_of (HC.out.still ht).hp 2 _ rfl; rw [bodies_len] at this; exact this, cells_of (HC.out.still ht).hp 3 _ rfl⟩
  clear hc s1 s2 s3
  go_enter Tryd.func22, Tryd.ntmps22
  go_wp2
  go_loopw [3, 4] (fun n i wr => ∃ k : Nat, k ≤ E.length ∧ i = .int .i64 k ∧ n = .int .i64 (pins P (E.take k) : Int) ∧ Turns nobody w wr) (fun _ i _ => E.length - (intOf i).toNat)
  case atStart => exact ⟨0, Nat.zero_le _, rfl, by simp [pins, sz], Turns.refl _ _⟩
  case round =>
    obtain ⟨k, hk, rfl, rfl, ht⟩ := hrel
    obtain ⟨c1, c2, c3⟩ := HXC.out _ ht
    by_cases hlt : k < E.length
    · obtain ⟨gi, oi, hai, ri⟩ := HHI.out k hlt
      obtain ⟨g, o, hao, ra⟩ := HHA.out k hlt
      rw [hai] at c1
      rw [hao] at c2
      have HRA := Lib.hid ra
      have hil := wh_get hw (k := k) (by rw [ids_len]; exact hlt)
      have RA := Lib.hid (ri _ ht.drew)
      rw [ids_get E hlt] at RA hil
      have hhas := ref_has _ P hwp (en E k).1 hil wr.drew (Sl.keep HS3.out ht.drew (fun _ _ h => h)) hpl
      have HT := Lib.hid ht.drew
      have hst : pins P (E.take (k + 1)) = pins P (E.take k) + (if (en E k).1 ∈ P then (en E k).2.size else 0) := by
        have e : E.take (k + 1) = E.take k ++ [en E k] := by
          rw [List.take_add_one, List.getElem?_eq_getElem hlt]
          unfold en
          simp [List.getD, hlt]
        rw [e, pins_append, pins_one]
      have hle : pins P (E.take (k + 1)) ≤ 4096 := by
        have h1 := pins_le P (E.take (k + 1))
        have : sz E = sz (E.take (k + 1)) + sz (E.drop (k + 1)) := by rw [← sz_append, List.take_append_drop]
        have := HS.out
        omega
      have e : (bodies E).getD k ⟨#[]⟩ = (en E k).2 := by rw [List.getD, bodies_get E hlt]; rfl
      rw [e] at HRA
      have HLT := Lib.hid hlt
      have c1d : wr.drew.cell? ⟨X, 1, none⟩ = _ := c1
      have c3d : wr.drew.cell? ⟨X, 3, none⟩ = _ := c3
      clear ri ra e ht
      by_cases hp : (en E k).1 ∈ P
      · rw [decide_eq_true hp] at hhas
        rw [if_pos hp] at hst
        have hb1 : (pins P (E.take k) : Int) + ((en E k).2.size : Int) ≤ 4096 := by omega
        have hb0 : (0 : Int) ≤ (pins P (E.take k) : Int) := by omega
        have HST := Lib.hid hst
        clear hst hle hp
        generalize (en E k).1 = idk at *
        generalize (en E k).2 = b at *
        have SK := Lib.hid (sizeId hil)
        go_upto_region 5 with fail
        refine wp_region_mix [(0, true, true), (1, true, true), (2, true, true), (3, true, true), (4, true, true), (5, true, true), (6, true, true), (7, true, true), (8, true, true), (9, true, true), (10, true, true), (11, false, false)] (fun W => W = wr.drew) (by kernel_rfl) (by kernel_rfl) (rfl) ?_
        simp only [picked, List.filterMap_cons, List.filterMap_nil, List.getElem?_toArray, List.getElem?_cons_zero, List.getElem?_cons_succ, Option.map_some]
        iterate 10 (refine mix_free (v := ?_) rfl ?_ ?_; rotate_left; (focus (intro w' hI; subst hI; go_simp; try with_reducible rfl)); simp only [Act.put, List.setIfInBounds_toArray, List.set_cons_zero, List.set_cons_succ])
        refine mix_free (v := .agg (idc idk).toArray) rfl (fun w' hI => by rw [hI]; exact exec_load_mid _ _ rfl _ _ rfl (idc idk) _ RA.out Tryd.underlying31 rfl SK.out) ?_
        simp only [Act.put, List.setIfInBounds_toArray, List.set_cons_zero, List.set_cons_succ]
        refine mix_big rfl (fun K hK => ?_)
        go_wp2_with (go_at_call 47; refine hhas.mono ?_; rintro e w2 ⟨rfl, t2⟩; have HT2 := Lib.hid (HT.out.trans t2 (fun _ h => False.elim h)); clear t2)
        refine hK _ _ (fun h => by cases h) ?_
        clear hK K hhas
        refine mix_nil ?_
        obtain ⟨d1, d2, d3⟩ := HXC.out _ HT2.out
        rw [hao] at d2
        have r := HRA.out _ HT2.out
        clear c1 c2 c3 c1d c3d d1 d3
        generalize pins P (E.take k) = n at *
        go_wp2
        go_roundw
        case rel => exact ⟨k + 1, by have := HLT.out; omega, by go_num, by rw [HST.out]; go_num, HT2.out⟩
        case measure => simp [intOf]; have := HLT.out; omega
      · rw [decide_eq_false hp] at hhas
        rw [if_neg hp] at hst
        have HST := Lib.hid hst
        clear hst hle hp
        generalize (en E k).1 = idk at *
        have SK := Lib.hid (sizeId hil)
        go_upto_region 5 with fail
        refine wp_region_mix [(0, true, true), (1, true, true), (2, true, true), (3, true, true), (4, true, true), (5, true, true), (6, true, true), (7, true, true), (8, true, true), (9, true, true), (10, true, true), (11, false, false)] (fun W => W = wr.drew) (by kernel_rfl) (by kernel_rfl) (rfl) ?_
        simp only [picked, List.filterMap_cons, List.filterMap_nil, List.getElem?_toArray, List.getElem?_cons_zero, List.getElem?_cons_succ, Option.map_some]
        iterate 10 (refine mix_free (v := ?_) rfl ?_ ?_; rotate_left; (focus (intro w' hI; subst hI; go_simp; try with_reducible rfl)); simp only [Act.put, List.setIfInBounds_toArray, List.set_cons_zero, List.set_cons_succ])
        refine mix_free (v := .agg (idc idk).toArray) rfl (fun w' hI => by rw [hI]; exact exec_load_mid _ _ rfl _ _ rfl (idc idk) _ RA.out Tryd.underlying31 rfl SK.out) ?_
        simp only [Act.put, List.setIfInBounds_toArray, List.set_cons_zero, List.set_cons_succ]
        refine mix_big rfl (fun K hK => ?_)
        go_wp2_with (go_at_call 47; refine hhas.mono ?_; rintro e w2 ⟨rfl, t2⟩; have HT2 := Lib.hid (HT.out.trans t2 (fun _ h => False.elim h)); clear t2)
        refine hK _ _ (fun h => by cases h) ?_
        clear hK K hhas
        refine mix_nil ?_
        clear c1 c2 c3 c1d c3d
        go_wp2
        go_roundw
        case rel => exact ⟨k + 1, by have := HLT.out; omega, by go_num, by rw [HST.out]; rfl, HT2.out⟩
        case measure => simp [intOf]; have := HLT.out; omega
    · obtain rfl : k = E.length := by omega
      rw [List.take_length]
      have HT := Lib.hid ht
      clear ht
      go_wp2
      go_ret
      exact ⟨rfl, HT.out⟩

set_option maxRecDepth 10000 in
theorem check_ref (b : ByteArray) (hb : b.size ≤ 9223372036854775807) (w : World) :
    Calls Tryd.prog 49 #[.string b] w fun e w' => e = .returned (.int .i64 (checkE b)) ∧ w = w' := by
  unfold checkE
  by_cases h0 : b.size = 0
  · rw [if_pos h0]
    obtain rfl : b = ⟨#[]⟩ := by cases b; simp only [ByteArray.size, Array.size_eq_zero_iff] at h0; rw [h0]
    go_enter Tryd.func49, Tryd.ntmps49
    go_wp2
    go_ret
    exact ⟨rfl, rfl⟩
  · rw [if_neg h0]
    have hne : b.toList.isEmpty = false := not_empty h0
    by_cases h1 : 512 < b.size
    · rw [if_pos h1]
      go_enter Tryd.func49, Tryd.ntmps49
      go_wp2
      go_ret
      exact ⟨rfl, rfl⟩
    · rw [if_neg h1]
      go_enter Tryd.func49, Tryd.ntmps49
      go_wp2
      go_ret
      exact ⟨rfl, rfl⟩

/-- What Get answers. -/
def getS (E : Held) (id : List Int) : ByteArray := if id ∈ ids E then (en E (placeE E id)).2 else ⟨#[]⟩
def getI (E : Held) (id : List Int) : Int := if id ∈ ids E then 0 else 7
set_option maxRecDepth 10000 in
set_option maxHeartbeats 400000 in
theorem get_ref {X : Nat} {q : Int} {E : Held} {P : List (List Int)} {v1 v2 v3 : Value} {w : World} (hc : RefC X q (ids E) (bodies E) P v1 v2 v3 w) (hw : Wh (ids E)) (hl : E.length ≤ 1024) (id : List Int) (hid : id.length = 32) :
    Calls Tryd.prog 24 #[.pointer (some ⟨X, 0, none⟩), .agg (idc id).toArray] w fun e w' => e = .returned (.tuple #[.string (getS E id), .int .i64 (getI E id)]) ∧ Turns nobody w w' := by
  obtain ⟨w0, hw0⟩ : ∃ w0, w0 = w.alloc (.cells (idc id).toArray 31) := ⟨_, rfl⟩
  have ht0 : Turns nobody w w0 := by rw [hw0]; exact (Turns.refl _ _).alloc _
  have hb0 : w0.heap[w.heap.size]? = some (.cells (idc id).toArray 31 (0, 0)) := by rw [hw0]; exact heap_alloc_new w _
  have hx : w0.rangeAt w.heap.size 0 (idc id) := by have := range_block hb0; rwa [List.toList_toArray] at this
  have h0 := hc.still ht0
  have HW0 := Lib.hid hw0
  have HX := Lib.hid hx
  have SX := Lib.hid (sizeId hid)
  have HT0 := Lib.hid ht0
  have hf := find_ref h0 hw (by rw [ids_len]; exact hl) id hid
  unfold getS getI
  by_cases hm : id ∈ ids E
  · have hlt := place_lt hm
    unfold findI at hf
    rw [if_pos hm] at hf ⊢
    rw [if_pos hm]
    rw [show idxX (ids E) id = placeE E id from rfl] at hf
    have s2 := h0.s2
    obtain ⟨ao, ca, rfl, _⟩ := (show Sl _ _ _ _ _ _ from s2).shape
    have HHA := Lib.hid (SSl.reads s2)
    rw [bodies_len] at HHA
    obtain ⟨g, o, hao, ra⟩ := HHA.out _ hlt
    have e : (bodies E).getD (placeE E id) ⟨#[]⟩ = (en E (placeE E id)).2 := by rw [List.getD, bodies_get E hlt]; rfl
    rw [e] at ra
    have HRA := Lib.hid ra
    have HXC : Hid (∀ W, Turns nobody w0 W → W.cell? ⟨X, 2, none⟩ = some (.slice (some ⟨g, o, none⟩) E.length ca)) := Lib.hid fun W ht => by have := cells_of (h0.still ht).hp 2 _ rfl; rw [bodies_len, hao] at this; exact this
    clear hw0 ht0 hb0 hx h0 hc hm s2 HHA ra e hao
    generalize placeE E id = k at *
    generalize (en E k).2 = b at *
    go_enter Tryd.func24, Tryd.ntmps24
    go_wp2_with first
      | (with_reducible refine wpList_load_mid rfl _ _ rfl _ _ rfl _ _ (by rw [← HW0.out]; exact HX.out) Tryd.underlying31 rfl SX.out ?_)
      | (go_at_call 48; rw [← HW0.out]; refine hf.mono ?_; rintro e w1 ⟨rfl, t1⟩; have r := HRA.out _ t1; have c := HXC.out _ t1; have HT := Lib.hid (HT0.out.trans t1 (fun _ h => False.elim h)); clear t1)
    go_ret2
    exact ⟨rfl, HT.out⟩
  · unfold findI at hf
    rw [if_neg hm] at hf ⊢
    rw [if_neg hm]
    clear hw0 ht0 hb0 hx h0 hc hm
    go_enter Tryd.func24, Tryd.ntmps24
    go_wp2_with first
      | (with_reducible refine wpList_load_mid rfl _ _ rfl _ _ rfl _ _ (by rw [← HW0.out]; exact HX.out) Tryd.underlying31 rfl SX.out ?_)
      | (go_at_call 48; rw [← HW0.out]; refine hf.mono ?_; rintro e w1 ⟨rfl, t1⟩; have HT := Lib.hid (HT0.out.trans t1 (fun _ h => False.elim h)); clear t1)
    go_ret2
    exact ⟨rfl, HT.out⟩

end Go.Proofs.YtjnplcajajdkiaaDoor.store
