/- The record at a place: the program's. -/
import Derived.Test.YtlhcmgjkhkcgcaaDoorRead
namespace Go.Proofs.YtlhcmgjkhkcgcaaDoor.record
open Go.RowKit
open Go.Proofs.YtlhcmgjkhkcgcaaDoor.stepkit Go.Proofs.YtlhcmgjkhkcgcaaDoor.obj Go.Proofs.YtlhcmgjkhkcgcaaDoor.row Go.Proofs.YtlhcmgjkhkcgcaaDoor.mix Go.Proofs.YtlhcmgjkhkcgcaaDoor.idkit Go.Proofs.YtlhcmgjkhkcgcaaDoor.bytes Go.Proofs.YtlhcmgjkhkcgcaaDoor.octet

/-- The bytes from a place on. -/
def from_ (s : ByteArray) (k : Nat) : ByteArray := s.extract k s.size
theorem from_size (s : ByteArray) (k : Nat) : (from_ s k).size = s.size - k := by unfold from_; rw [ByteArray.size_extract]; omega
def nxE (s : ByteArray) (k : Int) : Nat := if k < 0 ∨ (s.size : Int) < k then 5 else errOf (from_ s k.toNat)
def nxK (s : ByteArray) (k : Int) : Nat := if nxE s k = 0 then kOf (from_ s k.toNat) else 0
def nxB (s : ByteArray) (k : Int) : ByteArray := if nxE s k = 0 then bodyOf (from_ s k.toNat) else nil
def nxN (s : ByteArray) (k : Int) : Int := if nxE s k = 0 then k + n4 (from_ s k.toNat) + 9 else 0
theorem err_room {s : ByteArray} (h : errOf s = 0) : n4 s + 9 ≤ s.size ∧ n4 s ≤ 1048576 ∧ 1 ≤ kOf s ∧ kOf s ≤ 3 ∧ crcOf (kOf s) (bodyOf s) = sumOf s := by
  unfold errOf at h
  by_cases h1 : s.size < 4
  · rw [if_pos h1] at h; cases h
  · rw [if_neg h1] at h
    by_cases h2 : 1048576 < n4 s
    · rw [if_pos h2] at h; cases h
    · rw [if_neg h2] at h
      by_cases h3 : s.size < n4 s + 9
      · rw [if_pos h3] at h; cases h
      · rw [if_neg h3] at h
        by_cases h4 : 1 ≤ kOf s ∧ kOf s ≤ 3
        · rw [if_neg (by simpa using h4)] at h
          by_cases h5 : crcOf (kOf s) (bodyOf s) = sumOf s
          · exact ⟨by omega, by omega, h4.1, h4.2, h5⟩
          · rw [if_pos h5] at h; cases h
        · rw [if_pos h4] at h; cases h
theorem body_size {s : ByteArray} (h : n4 s + 9 ≤ s.size) : (bodyOf s).size = n4 s := by unfold bodyOf; rw [ByteArray.size_extract]; omega
theorem err_small (s : ByteArray) : errOf s ≤ 13 := by unfold errOf; repeat' split
                                                       all_goals omega
theorem results_rec3 {fn : Func} {s u v : Tmp} (h : fn.results = #[.cell s 23, .tmp u, .tmp v]) (tmps : Array Value) (w : World) {b : Nat} {K : Int} {B : ByteArray} {x y : Value} (hs : tmps.getD s undef = .pointer (some ⟨b, 0, none⟩)) (hu : tmps.getD u undef = x) (hv : tmps.getD v undef = y)
    (hb : w.heap[b]? = some (.cells #[.int .i64 K, .string B] 23 (0, 0))) : (results fn tmps).run Tryd.prog w = .ok (.tuple #[recV K B, x, y]) w := by
  have hload := run_loadVar_mid (P := Tryd.prog) w b 0 23 [.int .i64 K, .string B] _ (range_of hb) Tryd.underlying23 rfl infoRec
  have hs' : tmps[s]?.getD undef = .pointer (some ⟨b, 0, none⟩) := by rw [← hs]; simp
  have hu' : tmps[u]?.getD undef = x := by rw [← hu]; simp
  have hv' : tmps[v]?.getD undef = y := by rw [← hv]; simp
  simp [results, h, hs', hu', hv', hload, asAddr, recV]

set_option maxRecDepth 10000 in
set_option maxHeartbeats 1000000 in
theorem next_any (s : ByteArray) (k : Int) (w : World) (hs : s.size ≤ 16777216) (ht : crc.TabAt w) :
    Calls Tryd.prog 19 #[.string s, .int .i64 k] w fun e w' => e = .returned (.tuple #[recV (nxK s k) (nxB s k), .int .i64 (nxN s k), .int .i64 (nxE s k)]) ∧ Turns nobody w w' := by
  obtain ⟨H, hH⟩ : ∃ H, w.heap.size = H := ⟨_, rfl⟩
  obtain ⟨wa, hwa⟩ : ∃ wa, wa = w.alloc (.cells #[.int .i64 0, .string nil] 23) := ⟨_, rfl⟩
  have ta : Turns nobody w wa := by rw [hwa]; exact (Turns.refl _ _).alloc _
  have za : wa.heap.size = H + 1 := by rw [hwa, ← hH]; simp
  have hca : wa.heap[H]? = some (.cells #[.int .i64 0, .string nil] 23 (0, 0)) := by rw [hwa, ← hH]; exact heap_alloc_new w _
  have hb0 := build_rec
  have HWA := Lib.hid hwa
  have HTA := Lib.hid ta
  have HCA := Lib.hid hca
  have HTB := Lib.hid (Tab.turns ht ta (fun h => h))
  clear hwa ta hca ht
  by_cases hk : k < 0 ∨ (s.size : Int) < k
  · have hE : nxE s k = 5 := by unfold nxE; rw [if_pos hk]
    have hR : Hid (nxK s k = 0 ∧ nxB s k = nil ∧ nxN s k = 0 ∧ nxE s k = 5) := Lib.hid (by unfold nxK nxB nxN; rw [hE]; exact ⟨rfl, rfl, rfl, rfl⟩)
    have c0 := cells_of HCA.out 0 _ rfl
    have c1 := cells_of HCA.out 1 _ rfl
    have f0 := free_of HCA.out 0
    have f1 := free_of HCA.out 1
    have hk' : k < 0 ∨ (¬ k < 0 ∧ (s.size : Int) < k) := by omega
    clear hE hk
    rcases hk' with hk | ⟨hk1, hk2⟩
    all_goals
      go_enter Tryd.func19, Tryd.ntmps19
      go_upto_region 1 with fail
      rw [show (⟨#[]⟩ : ByteArray) = nil from rfl, ← HWA.out]
      go_wp2
      have hp := put_rec (K := 0) (B := nil) HCA.out HTA.out (by omega)
      refine bodyPost_ret (results_rec3 rfl _ _ rfl rfl rfl hp.1) rfl ⟨?_, hp.2⟩
      rw [hR.out.1, hR.out.2.1, hR.out.2.2.1, hR.out.2.2.2]; rfl
  · obtain ⟨n, rfl⟩ : ∃ n : Nat, k = (n : Int) := ⟨k.toNat, by omega⟩
    have hn : n ≤ s.size := by omega
    have hE : nxE s n = errOf (from_ s n) := by unfold nxE; rw [if_neg hk]; rfl
    obtain ⟨t, htt⟩ : ∃ t, s.extract n s.size = t := ⟨_, rfl⟩
    have hft : from_ s n = t := htt
    rw [hft] at hE
    have htsz : t.size ≤ 16777216 := by rw [← hft, from_size]; omega
    have hrd := fun W (hW : crc.TabAt W) => read_any t W htsz hW
    have HRD := Lib.hid hrd
    have HFT := Lib.hid hft
    have HEE := Lib.hid hE
    have hneg : ¬ (n : Int) < 0 := by omega
    have hbig : ¬ (s.size : Int) < (n : Int) := by omega
    unfold recV at HRD
    by_cases he : errOf t = 0
    · have hRm := err_room he
      have hR : Hid (nxK s n = kOf t ∧ nxB s n = bodyOf t ∧ nxN s n = (n : Int) + n4 t + 9 ∧ nxE s n = 0) := Lib.hid (by
        have e0 : nxE s n = 0 := by rw [hE, he]
        unfold nxK nxB nxN; rw [e0, Int.toNat_natCast, hft]; exact ⟨rfl, rfl, rfl, rfl⟩)
      have hrk : recK t = kOf t ∧ recB t = bodyOf t := by unfold recK recB; rw [he]; exact ⟨rfl, rfl⟩
      have hbz : (bodyOf t).size = n4 t := body_size hRm.1
      have hn4 : n4 t ≤ 16777216 := by have := hRm.2.1; omega
      have HBZ := Lib.hid hbz
      rw [hrk.1, hrk.2, he] at HRD
      clear hE hk hrd hft hRm he hrk hbz htsz
      generalize bodyOf t = B at *
      generalize kOf t = K at *
      generalize n4 t = m at *
      go_enter Tryd.func19, Tryd.ntmps19
      go_upto_region 1 with fail
      rw [show (⟨#[]⟩ : ByteArray) = nil from rfl, ← HWA.out]
      go_wp2_with (go_at_call 72; refine (HRD.out _ HTB.out).mono ?_; rintro e w1 ⟨rfl, t1⟩; have HT1 := Lib.hid t1; clear t1)
      obtain ⟨V, hV⟩ : ∃ V, w1.heap.size = V := ⟨_, rfl⟩
      obtain ⟨w2, hw2⟩ : ∃ w2, w2 = w1.alloc (.cells #[.int .i64 (K : Int), .string B] 23) := ⟨_, rfl⟩
      rw [← hw2, hV]
      have t2 : Turns nobody w1 w2 := by rw [hw2]; exact (Turns.refl _ _).alloc _
      have hc2 : w2.heap[V]? = some (.cells #[.int .i64 (K : Int), .string B] 23 (0, 0)) := by rw [hw2, ← hV]; exact heap_alloc_new w1 _
      have hHV : H < V := by have := HT1.out.size; omega
      have hcH := heap_newer (heap_newer HCA.out HT1.out (fun h => h)) t2 (fun h => h)
      have c0 := cells_of hcH 0 _ rfl
      have c1 := cells_of hcH 1 _ rfl
      have f0 := free_of hcH 0
      have f1 := free_of hcH 1
      have HCH := Lib.hid hcH
      have HC2 := Lib.hid hc2
      have HT2 : Hid (Turns nobody w w2) := Lib.hid ((HTA.out.trans HT1.out (fun _ h => h.elim)).trans t2 (fun _ h => h.elim))
      have hsz := fun W => size_any m hn4 W
      rw [← HBZ.out] at hsz
      have HSZ := Lib.hid hsz
      clear hw2 hV t2 hc2 hcH hsz
      refine wp_region_mix [(0, true, true), (1, true, true), (2, true, true), (3, true, true), (4, true, true), (5, false, true), (6, true, true), (7, false, true), (8, true, true), (9, true, true)] (fun W => W.heap[V]? = some (.cells #[.int .i64 (K : Int), .string B] 23 (0, 0))) (by kernel_rfl) (by kernel_rfl) (HC2.out) ?_
      simp only [picked, List.filterMap_cons, List.filterMap_nil, List.getElem?_toArray, List.getElem?_cons_zero, List.getElem?_cons_succ, Option.map_some]
      repeat (refine mix_free (v := ?_) rfl ?_ ?_; rotate_left; (focus (intro w' hI; have d0 := cells_of hI 0 _ rfl; have d1 := cells_of hI 1 _ rfl; clear hI; go_simp; try with_reducible rfl)); simp only [Act.put, List.setIfInBounds_toArray, List.set_cons_zero, List.set_cons_succ])
      refine mix_big rfl (fun K1 hK => ?_)
      go_wp2_with (go_at_call 21; refine (HSZ.out _).mono ?_; rintro e w' ⟨rfl, rfl⟩)
      refine hK _ _ (fun _ => HC2.out) ?_
      clear hK K1
      have hsum : (n : Int) + (((B.size + 9 : Nat)) : Int) = (n : Int) + m + 9 := by rw [HBZ.out]; omega
      have hwr : IntKind.i64.wrap ((n : Int) + ((B.size : Int) + 9)) = (n : Int) + m + 9 := by rw [IntWalk.i64_in _ (by omega)]; omega
      (refine mix_free (v := ?_) rfl ?_ ?_; rotate_left; (focus (intro w' hI; clear hI; go_simp; try with_reducible rfl)); simp only [Act.put, List.setIfInBounds_toArray, List.set_cons_zero, List.set_cons_succ])
      clear hwr hsum
      refine mix_big rfl (fun K1 hK => ?_)
      go_wp2
      refine hK _ _ (fun _ => ?_) ?_
      · refine heap_newer (G := fun i => i = H) HC2.out ?_ (by omega)
        exact (((Turns.refl (fun i => i = H) w2).setCell H 0 _ (Or.inl rfl)).setCell H 1 _ (Or.inl rfl)).drew
      clear hK K1
      repeat (refine mix_free (v := ?_) rfl ?_ ?_; rotate_left; (focus (intro w' hI; clear hI; go_simp; try with_reducible rfl)); simp only [Act.put, List.setIfInBounds_toArray, List.set_cons_zero, List.set_cons_succ])
      refine mix_nil ?_
      go_wp2
      have hp := put_rec (W := w2.drew) (K := K) (B := B) HCH.out HT2.out.drew (by omega)
      refine bodyPost_ret (results_rec3 rfl _ _ rfl rfl rfl hp.1) rfl ⟨?_, hp.2⟩
      rw [hR.out.1, hR.out.2.1, hR.out.2.2.1, hR.out.2.2.2]; rfl
    · have hR : Hid (nxK s n = 0 ∧ nxB s n = nil ∧ nxN s n = 0 ∧ nxE s n = errOf t) := Lib.hid (by
        have e0 : ¬ nxE s n = 0 := by rw [hE]; exact he
        unfold nxK nxB nxN; rw [if_neg e0, if_neg e0, if_neg e0]; exact ⟨rfl, rfl, rfl, hE⟩)
      have hrk : recK t = 0 ∧ recB t = nil := by unfold recK recB; rw [if_neg he, if_neg he]; exact ⟨rfl, rfl⟩
      rw [hrk.1, hrk.2] at HRD
      have hez : ((errOf t : Int) != 0) = true := by simpa using he
      clear hE hk hrd hft he hrk htsz
      generalize errOf t = E at *
      go_enter Tryd.func19, Tryd.ntmps19
      go_upto_region 1 with fail
      rw [show (⟨#[]⟩ : ByteArray) = nil from rfl, ← HWA.out]
      go_upto_region 5 with (go_at_call 72; refine (HRD.out _ HTB.out).mono ?_; rintro e w1 ⟨rfl, t1⟩; have HT1 := Lib.hid t1; clear t1)
      obtain ⟨w2, hw2⟩ : ∃ w2, w2 = w1.alloc (.cells #[.int .i64 0, .string nil] 23) := ⟨_, rfl⟩
      rw [← hw2]
      have t2 : Turns nobody w1 w2 := by rw [hw2]; exact (Turns.refl _ _).alloc _
      have hcH := heap_newer (heap_newer HCA.out HT1.out (fun h => h)) t2 (fun h => h)
      have c0 := cells_of hcH 0 _ rfl
      have c1 := cells_of hcH 1 _ rfl
      have f0 := free_of hcH 0
      have f1 := free_of hcH 1
      have HCH := Lib.hid hcH
      have HT2 : Hid (Turns nobody w w2) := Lib.hid ((HTA.out.trans HT1.out (fun _ h => h.elim)).trans t2 (fun _ h => h.elim))
      clear hw2 t2 hcH
      go_wp2
      have hp := put_rec (K := 0) (B := nil) HCH.out HT2.out (by omega)
      refine bodyPost_ret (results_rec3 rfl _ _ rfl rfl rfl hp.1) rfl ⟨?_, hp.2⟩
      rw [hR.out.1, hR.out.2.1, hR.out.2.2.1, hR.out.2.2.2]; rfl
end Go.Proofs.YtlhcmgjkhkcgcaaDoor.record
