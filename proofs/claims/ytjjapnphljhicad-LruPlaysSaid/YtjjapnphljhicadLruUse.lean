/- Package lru: what is used, and dropped. -/
import Derived.Test.YtjjapnphljhicadLruList
namespace Go.Proofs.Ytjjapnphljhicad.lru
open Go.RowKit
open Go.Proofs.Ytjjapnphljhicad.stepkit Go.Proofs.Ytjjapnphljhicad.eqkit Go.Proofs.Ytjjapnphljhicad.idkit Go.Proofs.Ytjjapnphljhicad.obj Go.Proofs.Ytjjapnphljhicad.row Go.Proofs.Ytjjapnphljhicad.mapkit Go.Proofs.Ytjjapnphljhicad.mix

def mapOf (ns : List (List Int × Nat)) : List (List Int × Value) := ns.map fun x => (x.1, ptr x.2)
/-- A list: the struct, its map, its ring. -/
def LruAt (p : Nat) (ns : List (List Int × Nat)) : (Nat → Prop) → World → Prop := fun F w => ∃ r mb, w.heap[p]? = some (.cells #[ptr r, .map (some mb)] 47 (0, 0)) ∧ Ring ((zid, r) :: ns) w ∧ MapIs w mb (mapOf ns) ∧ (ns.map (·.1)).Nodup ∧ F = fun i => i = p ∨ i = mb ∨ inRing ((zid, r) :: ns) i

theorem LruAt.apart {p r mb : Nat} {ns : List (List Int × Nat)} {w : World} (hp : w.heap[p]? = some (.cells #[ptr r, .map (some mb)] 47 (0, 0))) (hr : Ring ((zid, r) :: ns) w) (hm : MapIs w mb (mapOf ns)) :
    p ≠ mb ∧ ¬ inRing ((zid, r) :: ns) p ∧ ¬ inRing ((zid, r) :: ns) mb := by
  obtain ⟨es, c, N, h1, _, _⟩ := hm
  have nd : ∀ i, inRing ((zid, r) :: ns) i → ∃ cs, w.heap[i]? = some (.cells cs 52 (0, 0)) := by
    rintro i ⟨x, hx, rfl⟩
    obtain ⟨j, hj, rfl⟩ := List.mem_iff_getElem.1 hx
    have := hr.nd j hj
    have e : at' ((zid, r) :: ns) j = ((zid, r) :: ns)[j] := by unfold at'; rw [List.getD, List.getElem?_eq_getElem hj]; rfl
    rw [e] at this
    exact ⟨_, this⟩
  refine ⟨fun e => ?_, fun h => ?_, fun h => ?_⟩
  · rw [e, h1] at hp; cases hp
  · obtain ⟨cs, h⟩ := nd _ h
    rw [hp] at h
    simp at h
  · obtain ⟨cs, h⟩ := nd _ h
    rw [h1] at h
    cases h

theorem ring_lt {L : List (List Int × Nat)} {w : World} (h : Ring L w) {i : Nat} (hi : inRing L i) : i < w.heap.size := by
  obtain ⟨x, hx, rfl⟩ := hi
  obtain ⟨j, hj, rfl⟩ := List.mem_iff_getElem.1 hx
  have := h.nd j hj
  have e : at' L j = L[j] := by unfold at'; rw [List.getD, List.getElem?_eq_getElem hj]; rfl
  rw [e] at this
  exact lt_of_block this

theorem local_lru (p : Nat) (ns : List (List Int × Nat)) : Local (LruAt p ns) := by
  rintro F w ⟨r, mb, h1, h2, h3, h4, rfl⟩
  refine ⟨fun i hi => ?_, fun w' hs hb => ⟨r, mb, ?_, ?_, ?_, h4, rfl⟩⟩
  · rcases hi with rfl | rfl | hi
    · exact lt_of_block h1
    · exact h3.lt
    · exact ring_lt h2 hi
  · rw [hb p (Or.inl rfl)]; exact h1
  · exact ⟨fun i hi => by have := h2.nd i hi; unfold Nd at this ⊢; rw [hb _ (Or.inr (Or.inr (in_ring hi)))]; exact this, h2.inj, h2.wh⟩
  · obtain ⟨es, c, N, g1, g2, g3⟩ := h3
    exact ⟨es, c, N, by rw [hb mb (Or.inr (Or.inl rfl))]; exact g1, g2, g3⟩

theorem keys_of {r : Nat} {ns : List (List Int × Nat)} {w : World} (hr : Ring ((zid, r) :: ns) w) (hn : (ns.map (·.1)).Nodup) : Keys (mapOf ns) := by
  refine ⟨fun x hx => ?_, ?_⟩
  · unfold mapOf at hx
    obtain ⟨y, hy, rfl⟩ := List.mem_map.1 hx
    exact hr.wh y (by simp [hy])
  · unfold mapOf
    rw [List.map_map]
    exact hn
theorem look_at {ns : List (List Int × Nat)} (hn : (ns.map (·.1)).Nodup) {j : Nat} (hj : j < ns.length) : lookM (mapOf ns) (at' ns j).1 = some (ptr (at' ns j).2) := by
  have e : at' ns j = ns[j] := by unfold at'; rw [List.getD, List.getElem?_eq_getElem hj]; rfl
  rw [e]
  unfold lookM mapOf
  have : (ns.map fun x => (x.1, ptr x.2)).find? (fun x => decide (x.1 = ns[j].1)) = some (ns[j].1, ptr ns[j].2) := by
    rw [List.find?_eq_some_iff_getElem]
    refine ⟨by simp, j, by simpa using hj, by simp, fun i hi => ?_⟩
    simp only [List.getElem_map, Bool.not_eq_true', decide_eq_false_iff_not]
    intro e'
    have := (List.getElem_inj (xs := ns.map (·.1)) (i := i) (j := j) (h₀ := by simp; omega) (h₁ := by simpa using hj) hn).1 (by simpa using e')
    omega
  rw [this]
  rfl
theorem look_none {ns : List (List Int × Nat)} {id : List Int} (h : id ∉ ns.map (·.1)) : lookM (mapOf ns) id = none := by
  unfold lookM mapOf
  have : (ns.map fun x => (x.1, ptr x.2)).find? (fun x => decide (x.1 = id)) = none := by
    rw [List.find?_eq_none]
    intro x hx
    obtain ⟨y, hy, rfl⟩ := List.mem_map.1 hx
    simp only [decide_eq_true_eq]
    exact fun e => h (by rw [← e]; exact List.mem_map_of_mem hy)
  rw [this]
  rfl
theorem at_cons (x : List Int × Nat) (ns : List (List Int × Nat)) (j : Nat) : at' (x :: ns) (j + 1) = at' ns j := rfl
theorem mem_at {ns : List (List Int × Nat)} {id : List Int} (h : id ∈ ns.map (·.1)) : ∃ j, j < ns.length ∧ (at' ns j).1 = id := by
  obtain ⟨j, hj, he⟩ := List.mem_iff_getElem.1 h
  refine ⟨j, by simpa using hj, ?_⟩
  unfold at'
  rw [List.getD, List.getElem?_eq_getElem (by simpa using hj)]
  simpa using he

theorem zero_ptr (w : World) : (zeroValue 44).run Try.prog w = .ok (.pointer none) w := by kernel_rfl

theorem len_any (p : Nat) (ns : List (List Int × Nat)) (F : Nat → Prop) (w : World) (h : LruAt p ns F w) :
    Calls Try.prog 19 #[.pointer (some ⟨p, 0, none⟩)] w fun e w' => e = .returned (.int .i64 ns.length) ∧ w = w' := by
  obtain ⟨r, mb, hp, hr, hm, _, _⟩ := h
  have c0 := cells_of hp 0 _ rfl
  have c1 : w.cell? ⟨p, 1, none⟩ = some (.map (some mb)) := cells_of hp 1 _ rfl
  have hl := fun ty => run_lenM hm Try.underlying45 ty
  simp only [mapOf, List.length_map] at hl
  clear hp hr hm
  go_enter Try.func19, Try.ntmps19
  go_wp2_with (go_at_call 20; refine (none_no _ _ _ c0).mono ?_; rintro e w' ⟨rfl, rfl⟩)
  go_ret
  exact ⟨rfl, rfl⟩

/-- What stands in a new cell of 32 bytes. -/
theorem idcell {w W : World} (ht : Turns nobody (w.alloc (.cells #[.int .u8 0, .int .u8 0, .int .u8 0, .int .u8 0, .int .u8 0, .int .u8 0, .int .u8 0, .int .u8 0, .int .u8 0, .int .u8 0, .int .u8 0, .int .u8 0, .int .u8 0, .int .u8 0, .int .u8 0, .int .u8 0, .int .u8 0, .int .u8 0, .int .u8 0, .int .u8 0, .int .u8 0, .int .u8 0, .int .u8 0, .int .u8 0, .int .u8 0, .int .u8 0, .int .u8 0, .int .u8 0, .int .u8 0, .int .u8 0, .int .u8 0, .int .u8 0] 24)) W) (cs : List Value) (hc : cs.length = 32) :
    W.there w.heap.size 0 cs.toArray.size ∧ Turns nobody w (W.setCells w.heap.size 0 cs) ∧ (W.setCells w.heap.size 0 cs).rangeAt w.heap.size 0 cs := by
  have hb := heap_newer (heap_alloc_new w (.cells #[.int .u8 0, .int .u8 0, .int .u8 0, .int .u8 0, .int .u8 0, .int .u8 0, .int .u8 0, .int .u8 0, .int .u8 0, .int .u8 0, .int .u8 0, .int .u8 0, .int .u8 0, .int .u8 0, .int .u8 0, .int .u8 0, .int .u8 0, .int .u8 0, .int .u8 0, .int .u8 0, .int .u8 0, .int .u8 0, .int .u8 0, .int .u8 0, .int .u8 0, .int .u8 0, .int .u8 0, .int .u8 0, .int .u8 0, .int .u8 0, .int .u8 0, .int .u8 0] 24)) ht (fun h => h)
  have h1 : W.there w.heap.size 0 cs.toArray.size := there_of hb (by rw [List.size_toArray, hc]; decide)
  have ht' : Turns nobody w W := ((Turns.refl nobody w).alloc _).trans ht (fun _ h => h.elim)
  refine ⟨h1, turns_cells _ (Nat.le_refl _) cs 0 W ht', World.rangeAt_setCells_same W _ 0 cs (by rwa [List.size_toArray] at h1)⟩

theorem sizeId {id : List Int} (h : id.length = 32) : (Try.prog.info? 24).map (·.size) = some (idc id).length := by rw [infoId, idc_len, h]

def headId (ns : List (List Int × Nat)) : List Int := if ns.length = 0 then zid else (at' ns 0).1
theorem nx_zero (n : Nat) : nx (n + 1) 0 = if n = 0 then 0 else 1 := by unfold nx; (repeat' split) <;> omega

set_option maxRecDepth 10000 in
theorem oldest_any (p : Nat) (ns : List (List Int × Nat)) (F : Nat → Prop) (w : World) (h : LruAt p ns F w) :
    Calls Try.prog 18 #[.pointer (some ⟨p, 0, none⟩)] w fun e w' => e = .returned (.tuple #[.agg (idc (headId ns)).toArray, .bool (decide (ns.length ≠ 0))]) ∧ Turns nobody w w' := by
  have ht := (Turns.refl nobody w).alloc (.cells #[.int .u8 0, .int .u8 0, .int .u8 0, .int .u8 0, .int .u8 0, .int .u8 0, .int .u8 0, .int .u8 0, .int .u8 0, .int .u8 0, .int .u8 0, .int .u8 0, .int .u8 0, .int .u8 0, .int .u8 0, .int .u8 0, .int .u8 0, .int .u8 0, .int .u8 0, .int .u8 0, .int .u8 0, .int .u8 0, .int .u8 0, .int .u8 0, .int .u8 0, .int .u8 0, .int .u8 0, .int .u8 0, .int .u8 0, .int .u8 0, .int .u8 0, .int .u8 0] 24)
  obtain ⟨r, mb, hp, hr, hm, _, _⟩ := (local_lru p ns).keep h ht (fun _ _ h => h)
  have c0 := cells_of hp 0 _ rfl
  have hbh := behind_any p r ((zid, r) :: ns) _ hr (by simp) rfl _ hp 0 (by simp)
  have e1 : (if nx ((zid, r) :: ns).length 0 = 0 then zid else (at' ((zid, r) :: ns) (nx ((zid, r) :: ns).length 0)).1) = headId ns := by
    rw [List.length_cons, nx_zero]
    unfold headId
    by_cases hz : ns.length = 0
    · rw [if_pos hz, if_pos hz, if_pos rfl]
    · rw [if_neg hz, if_neg hz, if_neg (by decide)]; rfl
  have e2 : decide (nx ((zid, r) :: ns).length 0 ≠ 0) = decide (ns.length ≠ 0) := by
    rw [List.length_cons, nx_zero]
    by_cases hz : ns.length = 0
    · simp [hz]
    · simp [hz]
  have e3 : (at' ((zid, r) :: ns) 0).2 = r := rfl
  rw [e1, e2, e3] at hbh
  have hl : (headId ns).length = 32 := by
    unfold headId
    split
    · exact zid_len
    · exact hr.wh _ (List.mem_cons_of_mem _ (at_mem (by omega)))
  have HS := Lib.hid (sizeId hl)
  have HCL := Lib.hid (show (idc (headId ns)).length = 32 by rw [idc_len, hl])
  clear e1 e2 e3 hr hm hp h ht
  generalize headId ns = idh at *
  generalize decide (ns.length ≠ 0) = ok at *
  unfold ptr at *
  go_enter Try.func18, Try.ntmps18
  go_wp2_with first
    | (go_at_call 20; refine (none_no _ _ _ c0).mono ?_; rintro e w' ⟨rfl, rfl⟩)
    | (go_at_call 23; refine hbh.mono ?_; rintro e w2 ⟨rfl, ht2⟩; have HI := Lib.hid (idcell ht2 (idc idh) HCL.out))
    | (refine wpList_store_mid rfl _ _ _ rfl _ _ _ rfl rfl HI.out.1 (by rw [List.size_toArray]; exact HS.out) (all_oneCell_toArray (idc_one _)) ?_; rw [List.toList_toArray])
  refine bodyPost_ret (results_id rfl _ _ rfl rfl HI.out.2.2 hl) rfl ?_
  exact ⟨rfl, HI.out.2.1⟩

def idxOf (ns : List (List Int × Nat)) (id : List Int) : Nat := (ns.map (·.1)).findIdx (fun x => decide (x = id))
/-- The one behind it, if there is one. -/
def afterId (ns : List (List Int × Nat)) (id : List Int) : Option (List Int) := if idxOf ns id + 1 < ns.length then some (at' ns (idxOf ns id + 1)).1 else none

theorem idx_lt {ns : List (List Int × Nat)} {id : List Int} (h : id ∈ ns.map (·.1)) : idxOf ns id < ns.length ∧ (at' ns (idxOf ns id)).1 = id := by
  have h1 : (ns.map (·.1)).findIdx (fun x => decide (x = id)) < (ns.map (·.1)).length := List.findIdx_lt_length_of_exists ⟨id, h, by simp⟩
  unfold idxOf
  refine ⟨by simpa using h1, ?_⟩
  have h2 := List.findIdx_getElem (xs := ns.map (·.1)) (p := fun x => decide (x = id)) (w := h1)
  unfold at'
  rw [List.getD, List.getElem?_eq_getElem (by simpa using h1)]
  simpa using h2
theorem idx_none {ns : List (List Int × Nat)} {id : List Int} (h : id ∉ ns.map (·.1)) : idxOf ns id = ns.length := by
  unfold idxOf
  rw [List.findIdx_eq_length_of_false]
  · simp
  · intro x hx
    simp only [decide_eq_false_iff_not]
    exact fun e => h (e ▸ hx)

end Go.Proofs.Ytjjapnphljhicad.lru
