/- Package chase: what is found, copied, cut away. -/
import Derived.Test.YtcgnadihjbdolabChase
import Derived.Test.YtcgnadihjbdolabGrowKit
namespace Go.Proofs.Ytcgnadihjbdolab.chase
open Go.RowKit
open Go.Proofs.Ytcgnadihjbdolab.stepkit Go.Proofs.Ytcgnadihjbdolab.row Go.Proofs.Ytcgnadihjbdolab.mix Go.Proofs.Ytcgnadihjbdolab.obj Go.Proofs.Ytcgnadihjbdolab.eqkit Go.Proofs.Ytcgnadihjbdolab.idkit

/-- An asking's place. -/
def findAt (l : List Ch) (id : List Int) : Option Nat := l.findIdx? fun c => decide (c.id = id)
def placeOf : Option Nat → Int
  | none => -1
  | some k => k

theorem findAt_some {l : List Ch} {id : List Int} {k : Nat} (hk : k < l.length) (h : (l.getD k ch0).id = id) (hb : ∀ j, j < k → ¬ (l.getD j ch0).id = id) : findAt l id = some k := by
  unfold findAt
  rw [List.findIdx?_eq_some_iff_getElem]
  refine ⟨hk, ?_, fun j hj => ?_⟩
  · simpa [List.getD, hk] using h
  · have := hb j hj
    simp only [List.getD, List.getElem?_eq_getElem (Nat.lt_trans hj hk), Option.getD_some] at this
    simpa using this
theorem findAt_none {l : List Ch} {id : List Int} (hb : ∀ j, j < l.length → ¬ (l.getD j ch0).id = id) : findAt l id = none := by
  unfold findAt
  rw [List.findIdx?_eq_none_iff]
  intro c hc
  obtain ⟨j, hj, rfl⟩ := List.mem_iff_getElem.1 hc
  have := hb j hj
  simp only [List.getD, List.getElem?_eq_getElem hj, Option.getD_some] at this
  simpa using this
theorem findAt_lt {l : List Ch} {id : List Int} {k : Nat} (h : findAt l id = some k) : k < l.length ∧ (l.getD k ch0).id = id := by
  unfold findAt at h
  rw [List.findIdx?_eq_some_iff_getElem] at h
  obtain ⟨hk, h, _⟩ := h
  refine ⟨hk, ?_⟩
  simpa [List.getD, hk] using h

theorem index_any (v : Value) (l : List Ch) (hw : Whole l) (b : Nat) (id : List Int) (hid : id.length = 32) (w : World) (hs : CSl w v l) (hl : l.length ≤ 1024) (h : w.heap[b]? = some (.cells (idc id).toArray 26 (0, 0))) :
    Calls Try.prog 19 #[v, .func (.func 20) #[] #[.pointer (some ⟨b, 0, none⟩)]] w fun e w' => e = .returned (.int .i64 (placeOf (findAt l id))) ∧ Turns nobody w w' := by
  have hs' : Sl w _ _ _ _ _ := hs
  obtain ⟨ao, cap, rfl, _, _, hao, hsp⟩ := hs'.shape
  have HL : ∀ k, k < l.length → ∃ g o, ao = some ⟨g, o, none⟩ ∧ ∀ W, Turns nobody w W → W.rangeAt g (o + k * 34) (l.getD k ch0).cs := fun k hk => by
    obtain ⟨g, o, c, hv, _⟩ := hs'.some_of_pos (by omega)
    cases hv
    exact ⟨g, o, rfl, fun W ht => range_turns (CSl.range hw hs k hk) ht⟩
  have HC : ∀ k, k < l.length → (l.getD k ch0).id.length = 32 := fun k hk => hw _ (by rw [List.getD, List.getElem?_eq_getElem hk]; exact List.getElem_mem _)
  have HF : ∀ k, k < l.length → ∀ W, Turns nobody w W → Calls Try.prog 20 #[(l.getD k ch0).val, .pointer (some ⟨b, 0, none⟩)] W fun e w' => e = .returned (.bool (decide ((l.getD k ch0).id = id))) ∧ Turns nobody W w' := fun k hk W ht =>
    found_any _ (HC k hk) b id hid W (heap_newer h ht (fun h => h))
  have HHL := Lib.hid HL
  have HHF := Lib.hid HF
  clear HL HF hs hs' hao hsp h
  go_enter Try.func19, Try.ntmps19
  go_wp2
  go_loopw [8] (fun i wr => ∃ k : Nat, k ≤ l.length ∧ i = .int .i64 k ∧ (∀ j, j < k → ¬ (l.getD j ch0).id = id) ∧ Turns nobody w wr) (fun i _ => l.length - (intOf i).toNat)
  case atStart => exact ⟨0, Nat.zero_le _, rfl, fun _ h => absurd h (Nat.not_lt_zero _), Turns.refl _ _⟩
  case round =>
    obtain ⟨k, hk, rfl, hb, ht⟩ := hrel
    by_cases hlt : k < l.length
    · obtain ⟨g, o, rfl, hr⟩ := HHL.out k hlt
      have hc := HC k hlt
      have S1 := Lib.hid (show (Try.prog.info? 34).map (·.size) = some (l.getD k ch0).cs.length by rw [infoCh, cs_len hc])
      have H1 := Lib.hid (hr _ ht)
      have hf := HHF.out k hlt _ ht
      clear hr
      have hfs := fun (h : (l.getD k ch0).id = id) => findAt_some hlt h hb
      have hfn : ¬ (l.getD k ch0).id = id → ∀ j, j < k + 1 → ¬ (l.getD j ch0).id = id := fun h j hj => by
        by_cases e : j = k
        · rw [e]; exact h
        · exact hb j (by omega)
      generalize l.getD k ch0 = x at *
      unfold Ch.val at hf
      go_wp2_with first
        | (with_reducible refine wpList_load_mid rfl _ _ rfl _ _ rfl _ _ H1.out Try.underlying34 rfl S1.out ?_)
        | (go_at_call 20; refine hf.mono ?_; rintro e w1 ⟨rfl, h1⟩)
      · rename_i hx
        go_ret
        exact ⟨by rw [hfs hx]; rfl, ht.trans h1 (fun _ h => False.elim h)⟩
      · rename_i hx
        exact ⟨⟨k + 1, by omega, by go_num, hfn hx, ht.trans h1 (fun _ h => False.elim h)⟩, by simp [intOf]; omega⟩
    · go_wp2
      go_ret
      exact ⟨by rw [findAt_none (fun j hj => hb j (by omega))]; rfl, ht⟩

theorem infoChs : (Try.prog.info? 34).map (fun i => (i.size, i.bytes, i.zero.map fun z => z.cells.size)) = some (34, 48, some 34) := by kernel_rfl

theorem cells_of {w : World} {p : Nat} {cs : Array Value} {t : TypeId} {fr : Nat × Nat} (h : w.heap[p]? = some (.cells cs t fr)) (i : Nat) (v : Value) (hi : cs[i]? = some v) : w.cell? ⟨p, i, none⟩ = some v := by
  simp only [World.cell?, h]
  exact hi

theorem infoChs_parts : ∃ i z, Try.prog.info? 34 = some i ∧ i.zero = some z ∧ i.size = 34 ∧ i.bytes = 48 ∧ z.cells.size = 34 := by
  have h := infoChs
  cases hi : Try.prog.info? 34 with
  | none => rw [hi] at h; cases h
  | some i =>
    rw [hi] at h
    cases hz : i.zero with
    | none => simp [hz] at h
    | some z => simp [hz] at h; exact ⟨i, z, rfl, hz, h.1, h.2.1, h.2.2⟩

theorem grow_any (n : Nat) (hn : n ≤ 2048) (w : World) :
    Calls Try.prog 22 #[.slice none 0 0, .int .i64 n] w fun e w' => ∃ v, e = .returned v ∧ Sl w' 34 34 v 0 [] ∧ Turns nobody w w' ∧ ∀ k, blk v k → w.heap.size ≤ k := by
  obtain ⟨i0, z0, hi, hz0, hz1, hz2, hz3⟩ := infoChs_parts
  rcases Nat.eq_zero_or_pos n with rfl | hp
  · go_enter Try.func22, Try.ntmps22
    go_wp2
    go_ret
    exact ⟨_, rfl, Sl.nil _ _ _, Turns.refl _ _, fun k hk => by cases hk⟩
  · go_enter Try.func22, Try.ntmps22
    go_wp2_with (at_builtin; refine wpList_append_nil_zeros (k := n) rfl _ _ 31 3 rfl Try.underlying31 Try.underlying3 hi hz0 hz1 hz2 hz3 (by decide) rfl rfl hp (by unfold maxLen; omega) (by omega) ?_; intro cap cs hc1 hc2 hc3)
    go_ret
    refine ⟨_, rfl, Sl.room (heap_alloc_new _ _) hc2 hc3, (Turns.refl _ _).drew.alloc _, fun k hk => ?_⟩
    exact Nat.le_of_eq (Option.some.inj (show some w.heap.size = some k from hk))

theorem concat_any (g : Nat) (va vb : Value) (la lb : List Ch) (ha : Whole la) (hb : Whole lb) (w : World) (h : w.heap[g]? = some (.cells #[va, vb] 31 (0, 0))) (hsa : CSl w va la) (hsb : CSl w vb lb) (hl : la.length + lb.length ≤ 2048) :
    Calls Try.prog 21 #[.slice (some ⟨g, 0, none⟩) 2 2] w fun e w' => ∃ v, e = .returned v ∧ CSl w' v (la ++ lb) ∧ Turns nobody w w' ∧ ∀ k, blk v k → w.heap.size ≤ k := by
  obtain ⟨i0, z0, hi, hz0, hz1, hz2, hz3⟩ := infoChs_parts
  have c0 : ∀ W, Turns nobody w W → W.cell? ⟨g, 0, none⟩ = some va := fun W ht => cells_of (heap_newer h ht (fun h => h)) 0 _ rfl
  have c1 : ∀ W, Turns nobody w W → W.cell? ⟨g, 1, none⟩ = some vb := fun W ht => cells_of (heap_newer h ht (fun h => h)) 1 _ rfl
  have SA : ∀ W, Turns nobody w W → Go.Proofs.Ytcgnadihjbdolab.obj.Src W 34 va la.length (ccells la) := fun W ht => (Sl.src hsa (ccells_one la)).keep ht (fun _ _ h => h)
  have SB : ∀ W, Turns nobody w W → Go.Proofs.Ytcgnadihjbdolab.obj.Src W 34 vb lb.length (ccells lb) := fun W ht => (Sl.src hsb (ccells_one lb)).keep ht (fun _ _ h => h)
  have hsa' : Sl w _ _ _ _ _ := hsa
  have hsb' : Sl w _ _ _ _ _ := hsb
  obtain ⟨ao, ca, rfl, _⟩ := hsa'.shape
  obtain ⟨bo, cb, rfl, _⟩ := hsb'.shape
  have C0 := Lib.hid c0
  have C1 := Lib.hid c1
  have HSA := Lib.hid SA
  have HSB := Lib.hid SB
  clear c0 c1 SA SB hsa hsb hsa' hsb' h
  have hla := ccells_len ha
  have hlb := ccells_len hb
  go_enter Try.func21, Try.ntmps21
  go_wp2
  go_loopw [3, 11] (fun s i wr => ∃ k : Nat, k ≤ 2 ∧ i = .int .i64 k ∧ s = .int .i64 ((if k = 0 then 0 else if k = 1 then la.length else la.length + lb.length : Nat) : Int) ∧ w = wr) (fun _ i _ => 2 - (intOf i).toNat)
  case atStart => exact ⟨0, by omega, rfl, rfl, rfl⟩
  case round =>
    obtain ⟨k, hk, rfl, rfl, rfl⟩ := hrel
    rcases (by omega : k = 0 ∨ k = 1 ∨ k = 2) with rfl | rfl | rfl
    · have d0 := C0.out w (Turns.refl _ _)
      go_wp2
      exact ⟨⟨1, by omega, by go_num, by simp, trivial⟩, by simp [intOf]⟩
    · have d1 := C1.out w (Turns.refl _ _)
      go_wp2
      exact ⟨⟨2, by omega, by go_num, by simp, trivial⟩, by simp [intOf]⟩
    · go_wp2_with (go_at_call 22; refine (grow_any (la.length + lb.length) (by omega) w).mono ?_; rintro e w1 ⟨v, rfl, h1, h2, h3⟩)
      go_loopw [6, 27] (fun v i w2 => ∃ k : Nat, k ≤ 2 ∧ i = .int .i64 k ∧ CSl w2 v (if k = 0 then [] else if k = 1 then la else la ++ lb) ∧ Turns nobody w w2 ∧ ∀ j, blk v j → w.heap.size ≤ j) (fun _ i _ => 2 - (intOf i).toNat)
      case atStart => exact ⟨0, by omega, rfl, h1, h2, h3⟩
      case round =>
        obtain ⟨k, hk, rfl, hv, ht, hn⟩ := hrel
        have hF : ∀ w3, Turns (blk u6) wr w3 → Turns nobody w w3 := fun w3 h => ht.trans h (fun i h => Or.inr (hn i h))
        rcases (by omega : k = 0 ∨ k = 1 ∨ k = 2) with rfl | rfl | rfl
        · have hv' : Sl wr 34 34 u6 0 [] := hv
          have d0 := C0.out wr ht
          have s0 := Lib.hid (HSA.out wr ht)
          clear C0 C1 HSA HSB hv
          go_wp2_with (at_builtin; refine wpList_append_sl rfl _ _ 31 rfl Try.underlying31 hi hz0 hz1 hz2 hz3 (by decide) rfl rfl hv' s0.out (by unfold maxLen; omega) (by omega) ?_; intro v3 w3 g1 g2 g3 g4)
          refine ⟨⟨1, by omega, by go_num, ?_, hF _ g2, fun j hj => ?_⟩, by simp [intOf]⟩
          · show Sl _ _ _ _ _ _
            simpa using g1
          · rcases g3 j hj with h | h
            · exact hn j h
            · exact Nat.le_trans ht.size h
        · have hv' : Sl wr 34 34 u6 la.length (ccells la) := hv
          have d1 := C1.out wr ht
          have s0 := Lib.hid (HSB.out wr ht)
          clear C0 C1 HSA HSB hv
          go_wp2_with (at_builtin; refine wpList_append_sl rfl _ _ 31 rfl Try.underlying31 hi hz0 hz1 hz2 hz3 (by decide) rfl rfl hv' s0.out (by unfold maxLen; omega) (by omega) ?_; intro v3 w3 g1 g2 g3 g4)
          refine ⟨⟨2, by omega, by go_num, ?_, hF _ g2, fun j hj => ?_⟩, by simp [intOf]⟩
          · show Sl _ _ _ _ (la ++ lb).length (ccells (la ++ lb))
            rw [ccells_append, List.length_append]
            exact g1
          · rcases g3 j hj with h | h
            · exact hn j h
            · exact Nat.le_trans ht.size h
        · go_wp2
          go_ret
          exact ⟨_, rfl, hv, ht, hn⟩

end Go.Proofs.Ytcgnadihjbdolab.chase
