/- Package lru: what hangs behind; what was used when. -/
import Derived.Test.YtjjapnphljhicadLru
import Derived.LaidEqlPtr
namespace Go.Proofs.Ytjjapnphljhicad.lru
open Go.RowKit
open Go.Proofs.Ytjjapnphljhicad.stepkit Go.Proofs.Ytjjapnphljhicad.eqkit Go.Proofs.Ytjjapnphljhicad.idkit Go.Proofs.Ytjjapnphljhicad.obj Go.Proofs.Ytjjapnphljhicad.row Go.Proofs.Ytjjapnphljhicad.mapkit Go.Proofs.Ytjjapnphljhicad.mix

theorem infoId : (Try.prog.info? 24).map (·.size) = some 32 := by kernel_rfl
theorem build_zero (w : World) : (Instr.build 24 #[]).run Try.prog w = .ok (.agg (idc zid).toArray) w := by kernel_rfl
theorem turns_cells {w : World} (b : Nat) (hb : w.heap.size ≤ b) : ∀ (vs : List Value) (o : Nat) (W : World), Turns nobody w W → Turns nobody w (W.setCells b o vs)
  | [], _, _, h => h
  | v :: vs, o, W, h => turns_cells b hb vs (o + 1) _ (h.setCell b o v (Or.inr hb))
theorem there_of {W : World} {b n : Nat} {z : Array Value} {t : TypeId} (h : W.heap[b]? = some (.cells z t (0, 0))) (hn : n ≤ z.size) : W.there b 0 n := by
  intro j hj
  refine ⟨?_, ?_⟩
  · rw [Nat.zero_add, World.cell?, h]
    simp; omega
  · rw [Nat.zero_add]; exact free_of h j

theorem results_id {fn : Func} {s u : Tmp} (h : fn.results = #[.cell s 24, .tmp u]) (tmps : Array Value) (w : World) {b : Nat} {id : List Int} {x : Value} (hs : tmps.getD s undef = .pointer (some ⟨b, 0, none⟩)) (hu : tmps.getD u undef = x) (hr : w.rangeAt b 0 (idc id)) (hl : id.length = 32) :
    (results fn tmps).run Try.prog w = .ok (.tuple #[.agg (idc id).toArray, x]) w := by
  have hload := run_loadVar_mid (P := Try.prog) w b 0 24 (idc id) _ hr Try.underlying24 rfl (by rw [infoId, idc_len, hl])
  have hs' : tmps[s]?.getD undef = .pointer (some ⟨b, 0, none⟩) := by rw [← hs]; simp
  have hu' : tmps[u]?.getD undef = x := by rw [← hu]; simp
  simp [results, h, hs', hu', hload, asAddr]

theorem infoNode : ∃ i, Try.prog.info? 52 = some i ∧ i.size ≠ 0 := by
  have h : (Try.prog.info? 52).map (fun i => i.size) = some 34 := by kernel_rfl
  obtain ⟨i, hi, hb⟩ := Option.map_eq_some_iff.1 h
  exact ⟨i, hi, by rw [hb]; decide⟩
theorem eq_node {w : World} {a b : Nat} {ia ib : List Int} {pa qa pb qb : Value} (ha : Nd w a ia pa qa) (hb : Nd w b ib pb qb) :
    (binOp .neq 44 (.pointer (some ⟨a, 0, none⟩)) (.pointer (some ⟨b, 0, none⟩))).run Try.prog w = .ok (.bool (!decide (a = b))) w ∧ (binOp .eql 44 (.pointer (some ⟨a, 0, none⟩)) (.pointer (some ⟨b, 0, none⟩))).run Try.prog w = .ok (.bool (decide (a = b))) w := by
  obtain ⟨j, hj, hs⟩ := infoNode
  have h : ∀ d : Nat, (Op.equalIn (d + 1) 44 (.pointer (some ⟨a, 0, none⟩)) (.pointer (some ⟨b, 0, none⟩))).run Try.prog w = .ok (decide (a = b)) w := fun d => by
    by_cases e : a = b
    · subst e
      rw [decide_eq_true rfl]
      simp [Op.equalIn, run_underlying Try.underlying44, sizeOf, typeInfo, hj, run_sameAddr_same]
    · rw [decide_eq_false e]
      simp [Op.equalIn, run_underlying Try.underlying44, sizeOf, typeInfo, hj, hs, run_sameAddr_other w (a := ⟨a, 0, none⟩) (b := ⟨b, 0, none⟩) (by simp [e]) ha hb]
  constructor
  · simp only [binOp]
    simp [Op.equal, Op.maxDepth, h 9999]
  · simp only [binOp]
    simp [Op.equal, Op.maxDepth, h 9999]

set_option maxRecDepth 10000 in
set_option maxHeartbeats 400000 in
theorem behind_any (p r : Nat) (L : List (List Int × Nat)) (w : World) (h : Ring L w) (h1 : 1 ≤ L.length) (h0 : (at' L 0).2 = r) (mbv : Value) (hp : w.heap[p]? = some (.cells #[ptr r, mbv] 47 (0, 0))) (k : Nat) (hk : k < L.length) :
    Calls Try.prog 23 #[.pointer (some ⟨p, 0, none⟩), .pointer (some ⟨(at' L k).2, 0, none⟩)] w fun e w' => e = .returned (.tuple #[.agg (idc (if nx L.length k = 0 then zid else (at' L (nx L.length k)).1)).toArray, .bool (decide (nx L.length k ≠ 0))]) ∧ Turns nobody w w' := by
  have hnk : nx L.length k < L.length := by unfold nx; split <;> omega
  obtain ⟨W1, hW1⟩ : ∃ W1, W1 = (w.alloc (.cells #[.int .u8 0, .int .u8 0, .int .u8 0, .int .u8 0, .int .u8 0, .int .u8 0, .int .u8 0, .int .u8 0, .int .u8 0, .int .u8 0, .int .u8 0, .int .u8 0, .int .u8 0, .int .u8 0, .int .u8 0, .int .u8 0, .int .u8 0, .int .u8 0, .int .u8 0, .int .u8 0, .int .u8 0, .int .u8 0, .int .u8 0, .int .u8 0, .int .u8 0, .int .u8 0, .int .u8 0, .int .u8 0, .int .u8 0, .int .u8 0, .int .u8 0, .int .u8 0] 24)).drew := ⟨_, rfl⟩
  have ht1 : Turns nobody w W1 := by rw [hW1]; exact ((Turns.refl _ _).alloc _).drew
  have hb1 : W1.heap[w.heap.size]? = some (.cells #[.int .u8 0, .int .u8 0, .int .u8 0, .int .u8 0, .int .u8 0, .int .u8 0, .int .u8 0, .int .u8 0, .int .u8 0, .int .u8 0, .int .u8 0, .int .u8 0, .int .u8 0, .int .u8 0, .int .u8 0, .int .u8 0, .int .u8 0, .int .u8 0, .int .u8 0, .int .u8 0, .int .u8 0, .int .u8 0, .int .u8 0, .int .u8 0, .int .u8 0, .int .u8 0, .int .u8 0, .int .u8 0, .int .u8 0, .int .u8 0, .int .u8 0, .int .u8 0] 24 (0, 0)) := by rw [hW1]; exact heap_alloc_new w _
  have nk := (h.nd k hk).keep ht1 (fun h => h)
  have nn := (h.nd _ hnk).keep ht1 (fun h => h)
  have hln := h.len hnk
  have d0 : W1.cell? ⟨p, 0, none⟩ = some (ptr r) := cells_of (heap_newer hp ht1 (fun h => h)) 0 _ rfl
  obtain ⟨_, _, c33⟩ := nk.cells (h.len hk)
  obtain ⟨rN, _, _⟩ := nn.cells hln
  have heq := (eq_node nn ((h.nd 0 (by omega)).keep ht1 (fun h => h))).2
  rw [h0] at heq
  have hNr : (at' L (nx L.length k)).2 = r ↔ nx L.length k = 0 := by
    rw [← h0]
    exact ⟨fun e => h.ne hnk (by omega) e, fun e => by rw [e]⟩
  have HTH := fun (cs : List Value) (hc : cs.length = 32) => there_of (n := cs.toArray.size) hb1 (by rw [List.size_toArray, hc]; decide)
  have HTU := fun (cs : List Value) => turns_cells (w := w) w.heap.size (Nat.le_refl _) cs 0 W1 ht1
  have HRA := fun (cs : List Value) (hc : cs.length = 32) => World.rangeAt_setCells_same W1 w.heap.size 0 cs (by have := HTH cs hc; rwa [List.size_toArray] at this)
  generalize (at' L (nx L.length k)).2 = N at *
  generalize (at' L (nx L.length k)).1 = idn at *
  generalize (at' L k).2 = b at *
  generalize nx L.length k = m at *
  have HW1 := Lib.hid hW1
  have HT := Lib.hid HTH
  have HU := Lib.hid HTU
  have HR := Lib.hid HRA
  have HN := Lib.hid rN
  have HB := Lib.hid build_zero
  have SZ := Lib.hid (show (Try.prog.info? 24).map (·.size) = some (idc zid).length by rw [infoId, idc_len, zid_len])
  have SN := Lib.hid (show (Try.prog.info? 24).map (·.size) = some (idc idn).length by rw [infoId, idc_len, hln])
  have HZL := Lib.hid (show (idc zid).length = 32 by rw [idc_len, zid_len])
  have HNL := Lib.hid (show (idc idn).length = 32 by rw [idc_len, hln])
  have hzl := zid_len
  clear hW1 ht1 hb1 nk nn HTH HTU HRA h h0 hp rN h1 hnk hk
  generalize zid = z0 at *
  unfold ptr at *
  by_cases hm : m = 0
  · have hNe : r = N := (hNr.2 hm).symm
    subst hNe
    rw [if_pos hm, decide_eq_false (by simpa using hm)]
    clear hNr hm
    simp only [decide_true] at heq
    go_enter Try.func23, Try.ntmps23
    go_wp2
    refine wp_region_mix [(0, true, true), (1, true, true), (2, true, true), (3, true, true), (4, true, true), (5, true, true), (6, true, true), (7, true, true), (8, true, true), (9, true, true)] (fun W => W = W1) (by kernel_rfl) (by kernel_rfl) (HW1.out.symm) ?_
    rw [← HW1.out]
    simp only [picked, List.filterMap_cons, List.filterMap_nil, List.getElem?_toArray, List.getElem?_cons_zero, List.getElem?_cons_succ, Option.map_some]
    repeat (refine mix_free (v := ?_) rfl ?_ ?_; rotate_left; (focus (intro w' hI; subst hI; go_simp; try with_reducible rfl)); simp only [Act.put, List.setIfInBounds_toArray, List.set_cons_zero, List.set_cons_succ])
    refine mix_nil ?_
    go_wp2_with first
      | (with_reducible refine wpList_exec (exec_build _ _ rfl #[] (by kernel_rfl) (HB.out _)) (by first | rfl | go_simp) ?_)
      | (refine wpList_store_mid rfl _ _ _ rfl _ _ _ rfl rfl (HT.out _ HZL.out) (by rw [List.size_toArray]; exact SZ.out) (all_oneCell_toArray (idc_one _)) ?_; rw [List.toList_toArray])
    refine bodyPost_ret (results_id rfl _ _ rfl rfl (HR.out _ HZL.out) hzl) rfl ?_
    exact ⟨rfl, HU.out _⟩
  · have hNe : ¬ N = r := fun e => hm (hNr.1 e)
    rw [if_neg hm, decide_eq_true hm]
    clear hNr hm
    simp only [hNe, decide_false] at heq
    go_enter Try.func23, Try.ntmps23
    go_wp2
    refine wp_region_mix [(0, true, true), (1, true, true), (2, true, true), (3, true, true), (4, true, true), (5, true, true), (6, true, true), (7, true, true), (8, true, true), (9, true, true)] (fun W => W = W1) (by kernel_rfl) (by kernel_rfl) (HW1.out.symm) ?_
    rw [← HW1.out]
    simp only [picked, List.filterMap_cons, List.filterMap_nil, List.getElem?_toArray, List.getElem?_cons_zero, List.getElem?_cons_succ, Option.map_some]
    repeat (refine mix_free (v := ?_) rfl ?_ ?_; rotate_left; (focus (intro w' hI; subst hI; go_simp; try with_reducible rfl)); simp only [Act.put, List.setIfInBounds_toArray, List.set_cons_zero, List.set_cons_succ])
    refine mix_nil ?_
    go_wp2_with first
      | (with_reducible refine wpList_load_mid rfl _ _ rfl _ _ rfl _ _ HN.out Try.underlying24 rfl SN.out ?_)
      | (refine wpList_store_mid rfl _ _ _ rfl _ _ _ rfl rfl (HT.out _ HNL.out) (by rw [List.size_toArray]; exact SN.out) (all_oneCell_toArray (idc_one _)) ?_; rw [List.toList_toArray])
    refine bodyPost_ret (results_id rfl _ _ rfl rfl (HR.out _ HNL.out) hln) rfl ?_
    exact ⟨rfl, HU.out _⟩

end Go.Proofs.Ytjjapnphljhicad.lru
