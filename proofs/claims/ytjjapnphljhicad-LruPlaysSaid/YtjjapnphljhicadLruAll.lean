/- Package lru: all, one behind the other; a new one. -/
import Derived.Test.YtjjapnphljhicadLruUse2
import Derived.Carry
import Derived.Deep.CutRange
namespace Go.Proofs.Ytjjapnphljhicad.lru
open Go.RowKit
open Go.Proofs.Ytjjapnphljhicad.stepkit Go.Proofs.Ytjjapnphljhicad.eqkit Go.Proofs.Ytjjapnphljhicad.idkit Go.Proofs.Ytjjapnphljhicad.obj Go.Proofs.Ytjjapnphljhicad.row Go.Proofs.Ytjjapnphljhicad.mapkit Go.Proofs.Ytjjapnphljhicad.mix

def icells (l : List (List Int)) : List Value := (l.map idc).flatten
def Wh (l : List (List Int)) : Prop := ∀ x ∈ l, x.length = 32
theorem ic_all {l : List (List Int)} (h : Wh l) : ∀ r ∈ l.map idc, r.length = 32 := by
  intro r hr
  obtain ⟨x, hx, rfl⟩ := List.mem_map.1 hr
  rw [idc_len]; exact h x hx
theorem icells_len {l : List (List Int)} (h : Wh l) : (icells l).length = l.length * 32 := by unfold icells; rw [length_flat (ic_all h), List.length_map]
theorem icells_one (l : List (List Int)) : ∀ u ∈ icells l, u.oneCell' = true := by
  intro u hu
  unfold icells at hu
  obtain ⟨r, hr, hu⟩ := List.mem_flatten.1 hu
  obtain ⟨x, _, rfl⟩ := List.mem_map.1 hr
  exact idc_one _ u hu
theorem icells_append (l m : List (List Int)) : icells (l ++ m) = icells l ++ icells m := by simp [icells]
theorem icells_take {l : List (List Int)} (h : Wh l) (k : Nat) : (icells l).take (k * 32) = icells (l.take k) := by unfold icells; rw [take_flat (ic_all h), List.map_take]
theorem icells_drop {l : List (List Int)} (h : Wh l) (k : Nat) : (icells l).drop (k * 32) = icells (l.drop k) := by unfold icells; rw [drop_flat (ic_all h), List.map_drop]

/-- A slice of ids. -/
def ISl (w : World) (v : Value) (l : List (List Int)) : Prop := Sl w 24 32 v l.length (icells l)
theorem ISl.range {w : World} {g o cap : Nat} {sp : Option Nat} {l : List (List Int)} (hw : Wh l) (h : ISl w (.slice (some ⟨g, o, sp⟩) l.length cap) l) (i : Nat) (hi : i < l.length) : w.rangeAt g (o + i * 32) (idc (l.getD i [])) := by
  intro j v hj
  have hm : l.getD i [] ∈ l := by rw [List.getD, List.getElem?_eq_getElem hi]; exact List.getElem_mem _
  have hjl : j < 32 := by have := (List.getElem?_eq_some_iff.1 hj).1; rw [idc_len, hw _ hm] at this; exact this
  have hc := Sl.cell h (i * 32 + j) (by rw [icells_len hw]; omega)
  unfold icells at hc
  rw [getD_flat (ic_all hw) i j (by simpa using hi) hjl] at hc
  have hg : (l.map idc).getD i [] = idc (l.getD i []) := by simp [List.getD, hi]
  rw [hg, ← Nat.add_assoc] at hc
  rw [hc, List.getD, hj]
  rfl
theorem infoIds : (Try.prog.info? 24).map (fun i => (i.zero, i.size, i.bytes)) = some (some (.agg (idc zid).toArray), 32, 32) := by kernel_rfl
theorem infoIds_parts : ∃ i0, Try.prog.info? 24 = some i0 ∧ i0.zero = some (.agg (idc zid).toArray) ∧ i0.size = 32 ∧ i0.bytes = 32 := by
  have h := infoIds
  obtain ⟨i, hi, hb⟩ := Option.map_eq_some_iff.1 h
  simp only [Prod.mk.injEq] at hb
  exact ⟨i, hi, hb.1, hb.2.1, hb.2.2⟩
theorem slice_id (id : List Int) (hl : id.length = 32) : ∀ w, (Instr.buildSlice 31 1 #[(0, .agg (idc id).toArray)]).run Try.prog w = .ok (.slice (some ⟨w.heap.size, 0, none⟩) 1 1) (w.alloc (.cells (idc id).toArray 24)) := by
  intro w
  refine thirty_two (P := fun id => (Instr.buildSlice 31 1 #[(0, .agg (idc id).toArray)]).run Try.prog w = .ok (.slice (some ⟨w.heap.size, 0, none⟩) 1 1) (w.alloc (.cells (idc id).toArray 24))) ?_ id hl
  intro b0 b1 b2 b3 b4 b5 b6 b7 b8 b9 b10 b11 b12 b13 b14 b15 b16 b17 b18 b19 b20 b21 b22 b23 b24 b25 b26 b27 b28 b29 b30 b31
  kernel_rfl
theorem src_one {w : World} {b : Nat} {id : List Int} (h : w.heap[b]? = some (.cells (idc id).toArray 24 (0, 0))) (hl : id.length = 32) : Go.Proofs.Ytjjapnphljhicad.obj.Src w 32 (.slice (some ⟨b, 0, none⟩) 1 1) 1 (icells [id]) := by
  have hw : Wh [id] := fun x hx => by rw [List.mem_singleton.1 hx]; exact hl
  have e : icells [id] = idc id := by simp [icells]
  refine Src.of_row (by rw [icells_len hw]; rfl) (icells_one [id]) (fun j u hj => ?_)
  rw [e] at hj
  have hr := range_block h
  rw [List.toList_toArray] at hr
  have := hr j u hj
  rw [Addr.add_lit]
  exact this

theorem build_root (w : World) : (Instr.build 52 #[]).run Try.prog w = .ok (.agg (nodeC zid (.pointer none) (.pointer none))) w := by kernel_rfl

set_option maxRecDepth 10000 in
theorem new_any (w : World) : Calls Try.prog 7 #[] w fun e w' => e = .returned (.pointer (some ⟨w.heap.size + 2, 0, none⟩)) ∧ ∃ F, LruAt (w.heap.size + 2) [] F w' ∧ Turns nobody w w' ∧ ∀ i, F i → w.heap.size ≤ i := by
  obtain ⟨W1, hW1⟩ : ∃ W1, W1 = w.alloc (.cells (nodeC zid (.pointer none) (.pointer none)) 52) := ⟨_, rfl⟩
  have n1 : Nd W1 w.heap.size zid (.pointer none) (.pointer none) := by rw [hW1]; exact heap_alloc_new w _
  have n2 := n1.prev zid_len (ptr w.heap.size)
  have n3 := n2.next zid_len (ptr w.heap.size)
  obtain ⟨W3, hW3⟩ : ∃ W3, W3 = (W1.setCell ⟨w.heap.size, 32, none⟩ (ptr w.heap.size)).setCell ⟨w.heap.size, 33, none⟩ (ptr w.heap.size) := ⟨_, rfl⟩
  rw [← hW3] at n3
  obtain ⟨_, e1, _⟩ := n1.cells zid_len
  obtain ⟨_, _, e2⟩ := n2.cells zid_len
  have f1 := n1.free 32
  have f2 := n2.free 33
  have ht1 : Turns nobody w W1 := by rw [hW1]; exact (Turns.refl _ _).alloc _
  have ht3 : Turns nobody w W3 := by rw [hW3]; exact (ht1.setCell _ _ _ (Or.inr (Nat.le_refl _))).setCell _ _ _ (Or.inr (Nat.le_refl _))
  have hz1 : W1.heap.size = w.heap.size + 1 := by rw [hW1]; simp
  have hz3 : W3.heap.size = w.heap.size + 1 := by rw [hW3]; simp [hz1]
  obtain ⟨W5, hW5⟩ : ∃ W5, W5 = (W3.alloc (.map #[] 0)).alloc (.cells #[ptr w.heap.size, .map (some (w.heap.size + 1))] 47) := ⟨_, rfl⟩
  have ht35 : Turns nobody W3 W5 := by rw [hW5]; exact ((Turns.refl _ _).alloc _).alloc _
  have fin : ∃ F, LruAt (w.heap.size + 2) [] F W5 ∧ Turns nobody w W5 ∧ ∀ i, F i → w.heap.size ≤ i := by
    have h5 : W5.heap[w.heap.size + 2]? = some (.cells #[ptr w.heap.size, .map (some (w.heap.size + 1))] 47 (0, 0)) := by
      have := heap_alloc_new (W3.alloc (.map #[] 0)) (.cells #[ptr w.heap.size, .map (some (w.heap.size + 1))] 47)
      rw [World.size_alloc, hz3] at this
      rw [hW5]; exact this
    have h4 : W5.heap[w.heap.size + 1]? = some (.map #[] 0) := by
      rw [hW5, heap_alloc_old _ _ (by simp [hz3])]
      have := heap_alloc_new W3 (.map #[] 0)
      rwa [hz3] at this
    have n5 := n3.keep ht35 (fun h => h)
    refine ⟨_, ⟨w.heap.size, w.heap.size + 1, h5, ⟨fun i hi => ?_, by simp, fun x hx => ?_⟩, ⟨#[], 0, [], h4, rfl, List.Perm.refl _⟩, List.nodup_nil, rfl⟩, ht3.trans ht35 (fun _ h => h.elim), ?_⟩
    · have : i = 0 := by simpa using hi
      subst this
      exact n5
    · rw [List.mem_singleton.1 hx]; exact zid_len
    · rintro i (rfl | rfl | ⟨x, hx, rfl⟩)
      · omega
      · omega
      · rw [List.mem_singleton.1 hx]; exact Nat.le_refl _
  have HB := Lib.hid build_root
  have HW1 := Lib.hid hW1
  have HW3 := Lib.hid hW3
  have HW5 := Lib.hid hW5
  have HF := Lib.hid fin
  have hmm := @run_makeMap Try.prog
  clear n1 n2 n3 hW1 hW3 hW5 fin ht1 ht3 ht35 hz1
  generalize zid = z0 at *
  unfold ptr at *
  go_enter Try.func7, Try.ntmps7
  go_upto_region 2 with (with_reducible refine wpList_exec (exec_build _ _ rfl #[] (by kernel_rfl) (HB.out _)) (by first | rfl | go_simp) ?_)
  rw [← HW1.out]
  go_upto_region 3 with fail
  rw [← HW3.out]
  go_wp2
  rw [← HW5.out]
  go_ret
  exact ⟨rfl, HF.out⟩

def lenV : Value → Nat
  | .slice _ n _ => n
  | _ => 0
/-- Where one is in the ring. -/
def posB (r : Nat) (ns : List (List Int × Nat)) (i : Nat) : Nat := if i < ns.length then (at' ns i).2 else r

set_option maxRecDepth 10000 in
set_option maxHeartbeats 1000000 in
theorem all_any (p : Nat) (ns : List (List Int × Nat)) (F : Nat → Prop) (w : World) (h : LruAt p ns F w) (hn : ns.length ≤ 1024) :
    Calls Try.prog 10 #[.pointer (some ⟨p, 0, none⟩)] w fun e w' => ∃ v, e = .returned v ∧ ISl w' v (ns.map (·.1)) ∧ (∀ j, blk v j → w.heap.size ≤ j) ∧ Turns nobody w w' := by
  obtain ⟨i0, hi, hz0, hz1, hz2⟩ := infoIds_parts
  obtain ⟨r, mb, hp, hr, hm, hnd, _⟩ := h
  have c0 := cells_of hp 0 _ rfl
  have hwh : Wh (ns.map (·.1)) := fun x hx => by
    obtain ⟨y, hy, rfl⟩ := List.mem_map.1 hx
    exact hr.wh y (List.mem_cons_of_mem _ hy)
  -- facts of a place in the ring, in whatever world behind it
  have HA : ∀ W, Turns nobody w W → W.cell? ⟨p, 0, none⟩ = some (.pointer (some ⟨r, 0, none⟩)) := fun W ht => cells_of (heap_newer hp ht (fun h => h)) 0 _ rfl
  have HR0 : ∀ W, Turns nobody w W → W.cell? ⟨r, 33, none⟩ = some (.pointer (some ⟨posB r ns 0, 0, none⟩)) := fun W ht => by
    have h0 := (hr.nd 0 (by simp)).keep ht (fun h => h)
    have := (h0.cells (hr.len (i := 0) (by simp))).2.2
    rw [List.length_cons, nx_zero] at this
    unfold posB
    by_cases hz : ns.length = 0
    · rw [if_pos hz] at this; rw [if_neg (by omega)]; exact this
    · rw [if_neg hz] at this; rw [if_pos (by omega)]; exact this
  have HN : ∀ i, i < ns.length → ∀ W, Turns nobody w W → W.rangeAt (at' ns i).2 0 (idc (at' ns i).1) ∧ W.cell? ⟨(at' ns i).2, 33, none⟩ = some (.pointer (some ⟨posB r ns (i + 1), 0, none⟩)) := fun i hi W ht => by
    have h0 := (hr.nd (i + 1) (by simp; omega)).keep ht (fun h => h)
    have hc := h0.cells (hr.len (i := i + 1) (by simp; omega))
    rw [at_cons] at hc
    refine ⟨hc.1, ?_⟩
    have h2 := hc.2.2
    have en : nx ((zid, r) :: ns).length (i + 1) = if i + 1 = ns.length then 0 else i + 2 := by
      rw [List.length_cons]; unfold nx; (repeat' split) <;> omega
    rw [en] at h2
    unfold posB
    by_cases hz : i + 1 = ns.length
    · rw [if_pos hz] at h2; rw [if_neg (by omega)]; exact h2
    · rw [if_neg hz] at h2; rw [if_pos (by omega)]; exact h2
  have HE : ∀ i, i ≤ ns.length → ∀ W, Turns nobody w W → (binOp .neq 44 (.pointer (some ⟨posB r ns i, 0, none⟩)) (.pointer (some ⟨r, 0, none⟩))).run Try.prog W = .ok (.bool (decide (i < ns.length))) W := fun i hi W ht => by
    have h0 := (hr.nd 0 (by simp)).keep ht (fun h => h)
    unfold posB
    by_cases hz : i < ns.length
    · rw [if_pos hz]
      have h1 := (hr.nd (i + 1) (by simp; omega)).keep ht (fun h => h)
      have := (eq_node h1 h0).1
      have hne : ¬ (at' ((zid, r) :: ns) (i + 1)).2 = (at' ((zid, r) :: ns) 0).2 := fun e => by have := hr.ne (by simp; omega) (by simp) e; omega
      rw [decide_eq_false hne] at this
      rw [decide_eq_true hz]
      exact this
    · rw [if_neg hz]
      have := (eq_node h0 h0).1
      rw [decide_eq_true rfl] at this
      rw [decide_eq_false hz]
      exact this
  have HL : ∀ i, i < ns.length → (at' ns i).1.length = 32 := fun i hi => hr.wh _ (List.mem_cons_of_mem _ (at_mem hi))
  have HHA := Lib.hid HA
  have HHR0 := Lib.hid HR0
  have HHN := Lib.hid HN
  have HHE := Lib.hid HE
  have HBS := Lib.hid slice_id
  have a0 := HA w (Turns.refl _ _)
  have a1 := HR0 w (Turns.refl _ _)
  clear HA HR0 HN HE hp hr hm
  unfold ptr at *
  go_enter Try.func10, Try.ntmps10
  go_wp2_with (go_at_call 20; refine (none_no _ _ _ c0).mono ?_; rintro e w' ⟨rfl, rfl⟩)
  clear a0 a1 c0
  go_loopw [4, 3] (fun n v wr => ∃ i : Nat, i ≤ ns.length ∧ n = .pointer (some ⟨posB r ns i, 0, none⟩) ∧ Sl wr 24 32 v i (icells ((ns.map (·.1)).take i)) ∧ (∀ j, blk v j → w.heap.size ≤ j) ∧ Turns nobody w wr) (fun _ v _ => ns.length - lenV v)
  case atStart => exact ⟨0, Nat.zero_le _, rfl, by rw [List.take_zero]; exact Sl.nil _ _ _, (fun _ h => by cases h), Turns.refl _ _⟩
  case round =>
    obtain ⟨i, hin, rfl, hs, hf, ht⟩ := hrel
    have a0 := HHA.out _ ht
    have he := HHE.out i hin _ ht
    obtain ⟨ao, cap, rfl, hic, hcm, _⟩ := hs.shape
    by_cases hlt : i < ns.length
    · rw [decide_eq_true hlt] at he
      obtain ⟨b1, b2⟩ := HHN.out i hlt _ ht
      have hil := HL i hlt
      have SX := Lib.hid (sizeId hil)
      have HX := Lib.hid b1
      obtain ⟨W1, hW1⟩ : ∃ W1, W1 = wr.alloc (.cells (idc (at' ns i).1).toArray 24) := ⟨_, rfl⟩
      have ht1 : Turns nobody wr W1 := by rw [hW1]; exact (Turns.refl _ _).alloc _
      have HQ := Lib.hid (src_one (id := (at' ns i).1) (by rw [hW1]; exact heap_alloc_new wr _ : W1.heap[wr.heap.size]? = _) hil)
      have HS1 := Lib.hid (hs.keep ht1 (fun _ _ h => h))
      have HW1 := Lib.hid hW1
      have HT1 := Lib.hid (ht.trans ht1 (fun _ h => h.elim))
      have HF := Lib.hid hf
      have e1 : (ns.map (·.1)).take (i + 1) = (ns.map (·.1)).take i ++ [(at' ns i).1] := by
        rw [List.take_add_one, List.getElem?_map, List.getElem?_eq_getElem hlt]
        unfold at'
        rw [List.getD, List.getElem?_eq_getElem hlt]
        rfl
      have HE1 := Lib.hid e1
      have hbw := lt_of_cell' ((HHN.out i hlt w (Turns.refl _ _)).2)
      simp only at hbw
      have epos : posB r ns i = (at' ns i).2 := by unfold posB; rw [if_pos hlt]
      rw [epos] at he ⊢
      clear b1 hs hf ht hW1 ht1 e1 epos
      generalize (at' ns i).1 = idi at *
      generalize (at' ns i).2 = bi at *
      have hbi : W1.cell? ⟨bi, 33, none⟩ = some (.pointer (some ⟨posB r ns (i + 1), 0, none⟩)) := by
        rw [HW1.out, World.cell?_of_block (heap_alloc_old _ _ (lt_of_cell' b2))]
        exact b2
      go_wp2_with first
        | (with_reducible refine wpList_load_mid rfl _ _ rfl _ _ rfl _ _ HX.out Try.underlying24 rfl SX.out ?_)
        | (with_reducible refine wpList_build_run rfl _ _ _ rfl #[(0, .agg (idc idi).toArray)] (by kernel_rfl) (HBS.out _ hil _) ?_)
        | (at_builtin; rw [← HW1.out]; refine wpList_append_sl rfl _ _ 31 rfl Try.underlying31 hi hz0 hz1 hz2 (by rw [Value.cells]; simp [idc_len, zid_len]) (by decide) rfl rfl HS1.out HQ.out (by unfold maxLen; omega) (by omega) ?_; intro v5 w5 h5 t5 n5 _; have hc5 : w5.cell? ⟨bi, 33, none⟩ = some (.pointer (some ⟨posB r ns (i + 1), 0, none⟩)) := (t5.cell (p := ⟨bi, 33, none⟩) (lt_of_cell' hbi) (fun hb => by have := HF.out _ hb; simp only at this; omega)).trans hbi)
      have ht5 : Turns (blk (.slice ao i cap)) W1 w5 := t5
      refine ⟨⟨i + 1, by omega, rfl, by rw [HE1.out, icells_append]; exact h5, fun j hj => ?_, HT1.out.trans ht5 (fun j hj => Or.inr (HF.out j hj))⟩, ?_⟩
      · rcases n5 j hj with h | h
        · exact HF.out j h
        · exact Nat.le_trans HT1.out.size h
      · obtain ⟨ao5, cap5, rfl, _⟩ := h5.shape
        show ns.length - (i + 1) < ns.length - i
        omega
    · obtain rfl : i = ns.length := by omega
      rw [decide_eq_false hlt] at he
      rw [List.take_of_length_le (by simp)] at hs
      have HS := Lib.hid hs
      clear hs
      go_wp2
      go_ret
      refine ⟨_, rfl, ?_, hf, ht⟩
      unfold ISl
      rw [List.length_map]
      exact HS.out

end Go.Proofs.Ytjjapnphljhicad.lru
