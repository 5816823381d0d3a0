/- Package net: what each call answers, and what it does to what is on its way. -/
import Derived.Test.YtjjapnphljhicaaFork
import Derived.Test.YtjjapnphljhicaaObj
import Derived.Test.YtjjapnphljhicaaEqKit
import Derived.Deep.QuietTactic
import Derived.BigQuiet
import Derived.Lib.SmallJoins
import Derived.WalkSmall
namespace Go.Proofs.Ytjjapnphljhicaa.net
open Go.RowKit
open Go.Proofs.Ytjjapnphljhicaa.stepkit Go.Proofs.Ytjjapnphljhicaa.row Go.Proofs.Ytjjapnphljhicaa.mix Go.Proofs.Ytjjapnphljhicaa.obj Go.Proofs.Ytjjapnphljhicaa.eqkit

/-- A parcel. -/
structure Pc where
  f : Int
  t : Int
  b : ByteArray

def Pc.cs (p : Pc) : List Value := [.int .i64 p.f, .int .i64 p.t, .string p.b]
def Pc.val (p : Pc) : Value := .agg #[.int .i64 p.f, .int .i64 p.t, .string p.b]
def pc0 : Pc := ⟨0, 0, ⟨#[]⟩⟩
def pcells (l : List Pc) : List Value := (l.map Pc.cs).flatten

theorem pcs_len (l : List Pc) : ∀ r ∈ l.map Pc.cs, r.length = 3 := by
  intro r hr
  obtain ⟨x, _, rfl⟩ := List.mem_map.1 hr
  rfl
theorem pcells_len (l : List Pc) : (pcells l).length = l.length * 3 := by
  unfold pcells
  rw [length_flat (pcs_len l), List.length_map]
theorem pcells_one (l : List Pc) : ∀ u ∈ pcells l, u.oneCell' = true := by
  intro u hu
  unfold pcells at hu
  obtain ⟨r, hr, hu⟩ := List.mem_flatten.1 hu
  obtain ⟨x, _, rfl⟩ := List.mem_map.1 hr
  simp only [Pc.cs, List.mem_cons, List.not_mem_nil, or_false] at hu
  rcases hu with rfl | rfl | rfl <;> rfl
theorem pcells_append (l m : List Pc) : pcells (l ++ m) = pcells l ++ pcells m := by simp [pcells]
theorem pcells_take (l : List Pc) (k : Nat) : (pcells l).take (k * 3) = pcells (l.take k) := by unfold pcells; rw [take_flat (pcs_len l), List.map_take]
theorem pcells_drop (l : List Pc) (k : Nat) : (pcells l).drop (k * 3) = pcells (l.drop k) := by unfold pcells; rw [drop_flat (pcs_len l), List.map_drop]
theorem pcells_get (l : List Pc) (i j : Nat) (hi : i < l.length) (hj : j < 3) : (pcells l).getD (i * 3 + j) undef = ((l.getD i pc0).cs).getD j undef := by
  unfold pcells
  rw [getD_flat (pcs_len l) i j (by simpa using hi) hj]
  simp [List.getD, hi]

/-- A slice of parcels. -/
def PSl (w : World) (v : Value) (l : List Pc) : Prop := Sl w 30 3 v l.length (pcells l)

theorem PSl.cell {w : World} {g o cap : Nat} {sp : Option Nat} {l : List Pc} (h : PSl w (.slice (some ⟨g, o, sp⟩) l.length cap) l) (i : Nat) (hi : i < l.length) :
    w.cell? ⟨g, o + i * 3, none⟩ = some (.int .i64 (l.getD i pc0).f) ∧ w.cell? ⟨g, o + i * 3 + 1, none⟩ = some (.int .i64 (l.getD i pc0).t) ∧ w.cell? ⟨g, o + i * 3 + 2, none⟩ = some (.string (l.getD i pc0).b) := by
  unfold PSl at h
  have hc := fun j (hj : j < 3) => h.cell (i * 3 + j) (by rw [pcells_len]; omega)
  have h0 := hc 0 (by omega)
  have h1 := hc 1 (by omega)
  have h2 := hc 2 (by omega)
  rw [pcells_get l i _ hi (by omega)] at h0 h1 h2
  rw [← Nat.add_assoc] at h0 h1 h2
  exact ⟨h0, h1, h2⟩

theorem infoPc : (Try.prog.info? 30).map (fun i => (i.zero, i.size, i.bytes)) = some (some (.agg #[.int .i64 0, .int .i64 0, .string ⟨#[]⟩]), 3, 32) := by kernel_rfl

def NetAt (p : Nat) (l : List Pc) (lost : Int) : (Nat → Prop) → World → Prop := Box1 52 30 3 p (fun v => #[v, .int .i64 lost, .bool true]) l.length (pcells l)
def RefAt (p : Nat) (l : List Pc) (lost : Int) : (Nat → Prop) → World → Prop := Box1 41 30 3 p (fun v => #[v, .int .i64 lost]) l.length (pcells l)
theorem local_net (p : Nat) (l : List Pc) (lost : Int) : Local (NetAt p l lost) := local_box1 _ _ _ _ _ _ _
theorem local_ref (p : Nat) (l : List Pc) (lost : Int) : Local (RefAt p l lost) := local_box1 _ _ _ _ _ _ _

theorem cells_of {w : World} {p : Nat} {cs : Array Value} {t : TypeId} (h : w.heap[p]? = some (.cells cs t (0, 0))) (i : Nat) (v : Value) (hv : cs[i]? = some v) : w.cell? ⟨p, i, none⟩ = some v := by simp [World.cell?, h, hv]
theorem free_of {w : World} {p : Nat} {cs : Array Value} {t : TypeId} (h : w.heap[p]? = some (.cells cs t (0, 0))) (i : Nat) : w.frozen? ⟨p, i, none⟩ = false := by simp [World.frozen?, h]

theorem none_no (p : Nat) (w : World) (h : w.cell? ⟨p, 2, none⟩ = some (.bool true)) :
    Calls Try.prog 19 #[.pointer (some ⟨p, 0, none⟩)] w fun e w' => e = .returned (.bool false) ∧ w = w' := by
  go_enter Try.func19, Try.ntmps19
  go_wp2
  go_ret
  exact ⟨rfl, rfl⟩
theorem none_zero (p : Nat) (w : World) (h : w.cell? ⟨p, 2, none⟩ = some (.bool false)) :
    Calls Try.prog 19 #[.pointer (some ⟨p, 0, none⟩)] w fun e w' => e = .returned (.bool true) ∧ w = w' := by
  go_enter Try.func19, Try.ntmps19
  go_wp2
  go_ret
  exact ⟨rfl, rfl⟩
theorem none_nil (w : World) :
    Calls Try.prog 19 #[.pointer none] w fun e w' => e = .returned (.bool true) ∧ w = w' := by
  go_enter Try.func19, Try.ntmps19
  go_wp2
  go_ret
  exact ⟨rfl, rfl⟩
theorem new_any (w : World) :
    Calls Try.prog 7 #[] w fun e w' => e = .returned (.pointer (some ⟨w.heap.size, 0, none⟩)) ∧ w' = w.alloc (.cells #[.slice none 0 0, .int .i64 0, .bool true] 52) := by
  go_enter Try.func7, Try.ntmps7
  go_wp2
  go_ret
  exact ⟨rfl, rfl⟩
theorem new_at {w w' : World} (h : w' = w.alloc (.cells #[.slice none 0 0, .int .i64 0, .bool true] 52)) : NetAt w.heap.size [] 0 (fun i => i = w.heap.size ∨ blk (.slice none 0 0) i) w' := by
  subst h
  exact Box1.fresh (mk := fun v => #[v, .int .i64 0, .bool true])

theorem len_any (p : Nat) (l : List Pc) (lost : Int) (F : Nat → Prop) (w : World) (h : NetAt p l lost F w) :
    Calls Try.prog 11 #[.pointer (some ⟨p, 0, none⟩)] w fun e w' => e = .returned (.int .i64 l.length) ∧ w = w' := by
  obtain ⟨v, hp, hs, hne, _⟩ := h
  obtain ⟨ao, cap, rfl, _⟩ := hs.shape
  have c0 := cells_of hp 0 _ rfl
  have c2 := cells_of hp 2 _ rfl
  clear hp hs
  go_enter Try.func11, Try.ntmps11
  go_wp2_with (go_at_call 19; refine (none_no _ _ c2).mono ?_; rintro e w' ⟨rfl, rfl⟩)
  go_ret
  exact ⟨rfl, rfl⟩

theorem lost_any (p : Nat) (l : List Pc) (lost : Int) (F : Nat → Prop) (w : World) (h : NetAt p l lost F w) :
    Calls Try.prog 12 #[.pointer (some ⟨p, 0, none⟩)] w fun e w' => e = .returned (.int .i64 lost) ∧ w = w' := by
  obtain ⟨v, hp, hs, hne, _⟩ := h
  have c1 := cells_of hp 1 _ rfl
  have c2 := cells_of hp 2 _ rfl
  clear hp hs
  go_enter Try.func12, Try.ntmps12
  go_wp2_with (go_at_call 19; refine (none_no _ _ c2).mono ?_; rintro e w' ⟨rfl, rfl⟩)
  go_ret
  exact ⟨rfl, rfl⟩

set_option maxRecDepth 10000 in
set_option maxHeartbeats 400000 in
theorem put_full (p : Nat) (l : List Pc) (lost : Int) (x : Pc) (F : Nat → Prop) (w : World) (h : NetAt p l lost F w) (hl : 256 ≤ l.length) (hlo : 0 ≤ lost) (hhi : lost ≤ 1000) :
    Calls Try.prog 9 #[.pointer (some ⟨p, 0, none⟩), x.val] w fun e w' => e = .returned (.int .i64 6) ∧ Step F (NetAt p l (min (lost + 1) 1000)) w w' := by
  have H := Lib.hid h
  obtain ⟨v, hp, hs, hne, hF⟩ := h
  have HF := Lib.hid hF
  clear hF
  obtain ⟨ao, cap, rfl, _⟩ := hs.shape
  have hpl := lt_of_block hp
  have c0 := cells_of hp 0 _ rfl
  have c1 := cells_of hp 1 _ rfl
  have c2 := cells_of hp 2 _ rfl
  have f1 := free_of hp 1
  clear hp hs
  unfold Pc.val
  go_enter Try.func9, Try.ntmps9
  go_wp2_with (go_at_call 19; refine (none_no _ _ (by go_simp)).mono ?_; rintro e w' ⟨rfl, rfl⟩)
  all_goals go_ret
  · exact ⟨rfl, by
      have hm : min (lost + 1) 1000 = 1000 := by omega
      rw [hm]
      exact (show Step F (NetAt p l _) w _ from Box1.set H.out (Turns.refl _ _) 1 _ (fun v => rfl)).alloc (local_net _ _ _) _⟩
  · exact ⟨rfl, by
      have hm : min (lost + 1) 1000 = lost + 1 := by omega
      rw [hm]
      exact (show Step F (NetAt p l _) w _ from Box1.set H.out (Turns.refl _ _) 1 _ (fun v => rfl)).alloc (local_net _ _ _) _⟩

set_option maxRecDepth 10000 in
set_option maxHeartbeats 400000 in
theorem put_ok (p : Nat) (l : List Pc) (lost : Int) (x : Pc) (F : Nat → Prop) (w : World) (h : NetAt p l lost F w) (hl : l.length < 256) :
    Calls Try.prog 9 #[.pointer (some ⟨p, 0, none⟩), x.val] w fun e w' => e = .returned (.int .i64 0) ∧ Step F (NetAt p (l ++ [x]) lost) w w' := by
  have H := Lib.hid h
  obtain ⟨v, hp, hs, hne, hF⟩ := h
  have HF := Lib.hid hF
  clear hF
  obtain ⟨ao, cap, rfl, hnc, hcm, _⟩ := hs.shape
  have hpl := lt_of_block hp
  have c0 := cells_of hp 0 _ rfl
  have c2 := cells_of hp 2 _ rfl
  have f0 := free_of hp 0
  have HS := Lib.hid hs
  have HP := Lib.hid hp
  obtain ⟨i0, hi, hz0, hz1, hz2⟩ := info_parts infoPc
  clear hp hs
  unfold Pc.val
  go_enter Try.func9, Try.ntmps9
  go_wp2_with (go_at_call 19; refine (none_no _ _ (by go_simp)).mono ?_; rintro e w' ⟨rfl, rfl⟩)
  obtain ⟨w1, hw1⟩ : ∃ w1, w1 = w.alloc (.cells #[.int .i64 x.f, .int .i64 x.t, .string x.b] 30) := ⟨_, rfl⟩
  have hp1 : w1.heap[p]? = w.heap[p]? := by rw [hw1]; exact heap_alloc_old _ _ hpl
  have hx1 : w1.heap[w.heap.size]? = some (.cells #[.int .i64 x.f, .int .i64 x.t, .string x.b] 30 (0, 0)) := by rw [hw1]; exact heap_alloc_new _ _
  have ht1 : Turns nobody w w1 := by rw [hw1]; exact (Turns.refl _ _).alloc _
  rw [HP.out] at hp1
  rw [← hw1]
  clear hw1
  refine wp_region_mix [(0, true, true), (1, true, true), (2, true, true), (3, true, true), (4, true, true), (5, true, true), (6, false, true), (7, false, true), (8, true, true), (9, true, true), (10, false, false)] (fun w' => w'.heap[p]? = some (.cells #[.slice ao l.length cap, .int .i64 lost, .bool true] 52 (0, 0)) ∧ w'.heap[w.heap.size]? = some (.cells #[.int .i64 x.f, .int .i64 x.t, .string x.b] 30 (0, 0))) (by kernel_rfl) (by kernel_rfl) (⟨hp1, hx1⟩) ?_
  simp only [picked, List.filterMap_cons, List.filterMap_nil, List.getElem?_toArray, List.getElem?_cons_zero, List.getElem?_cons_succ, Option.map_some]
  repeat (refine mix_free (v := ?_) rfl ?_ ?_; rotate_left; (focus (intro w' hI; have d0 := cells_of hI.1 0 _ rfl; have e0 := cells_of hI.2 0 _ rfl; have e1 := cells_of hI.2 1 _ rfl; have e2 := cells_of hI.2 2 _ rfl; clear hI; go_simp; try with_reducible rfl)); simp only [Act.put, List.setIfInBounds_toArray, List.set_cons_zero, List.set_cons_succ])
  refine mix_big rfl (fun K hK => ?_)
  go_wp2
  obtain ⟨w2, hw2⟩ : ∃ w2, w2 = (w1.alloc (.cells #[.int .i64 x.f, .int .i64 x.t, .string x.b] 30)).drew := ⟨_, rfl⟩
  have ht2 : Turns nobody w w2 := by rw [hw2]; exact (ht1.alloc _).drew
  have hp2 : w2.heap[p]? = some (.cells #[.slice ao l.length cap, .int .i64 lost, .bool true] 52 (0, 0)) := by rw [ht2.block p hpl (fun h => h)]; exact HP.out
  have hx2 : w2.heap[w.heap.size]? = some (.cells #[.int .i64 x.f, .int .i64 x.t, .string x.b] 30 (0, 0)) := by rw [hw2]; exact (heap_alloc_old _ _ (lt_of_block hx1)).trans hx1
  have hn2 : w2.heap[w1.heap.size]? = some (.cells #[.int .i64 x.f, .int .i64 x.t, .string x.b] 30 (0, 0)) := by rw [hw2]; exact heap_alloc_new w1 _
  have hs2 : Sl w2 30 3 (.slice ao l.length cap) l.length (pcells l) := HS.out.keep ht2 (fun _ _ h => h)
  have hsrc : Src w2 3 (.slice (some ⟨w1.heap.size, 0, none⟩) 1 1) 1 (pcells [x]) := Src.of_row (by rfl) (pcells_one [x]) (by
    intro j u hj
    obtain rfl | rfl | rfl | hj3 : j = 0 ∨ j = 1 ∨ j = 2 ∨ 3 ≤ j := by omega
    · cases hj; rw [Addr.add_lit]; exact cells_of hn2 _ _ rfl
    · cases hj; rw [Addr.add_lit]; exact cells_of hn2 _ _ rfl
    · cases hj; rw [Addr.add_lit]; exact cells_of hn2 _ _ rfl
    · have := (List.getElem?_eq_some_iff.1 hj).1; rw [pcells_len] at this; simp at this; omega)
  rw [← hw2]
  clear hw2
  refine hK _ _ (fun _ => ⟨hp2, hx2⟩) ?_
  clear hK K
  refine mix_big rfl (fun K hK => ?_)
  have HS2 := Lib.hid hs2
  have HSRC := Lib.hid hsrc
  clear hs2 hsrc
  go_wp2_with (at_builtin; refine wpList_append_sl rfl _ _ 22 rfl Try.underlying22 hi hz0 hz1 hz2 rfl (by decide) rfl rfl HS2.out HSRC.out (by unfold maxLen; omega) (by omega) ?_)
  intro v' w3 hsl3 ht3 hnew3 _
  obtain ⟨ao', cap', rfl, _⟩ := hsl3.shape
  have hne3 : ∀ k, blk (.slice ao l.length cap) k → k ≠ p ∧ k < w.heap.size := fun k hk => ⟨fun e => hne (e ▸ hk), HS.out.lt k hk⟩
  have hp3 : w3.heap[p]? = some (.cells #[.slice ao l.length cap, .int .i64 lost, .bool true] 52 (0, 0)) := by rw [ht3.block p (by have := ht2.size; omega) hne]; exact hp2
  have hx3 : w3.heap[w.heap.size]? = some (.cells #[.int .i64 x.f, .int .i64 x.t, .string x.b] 30 (0, 0)) := by rw [ht3.block _ (lt_of_block hx2) (fun h => by have := (hne3 _ h).2; omega)]; exact hx2
  have d0 := cells_of hp3 0 _ rfl
  have df := free_of hp3 0
  have HE := Lib.hid (show Step F (NetAt p (l ++ [x]) lost) w (w3.setCell ⟨p, 0, none⟩ (.slice ao' (l.length + 1) cap')) from by
    have e1 : (l ++ [x]).length = l.length + 1 := by simp
    unfold NetAt
    rw [e1, pcells_append]
    exact Box1.put H.out (ht2.mono (fun _ h => h.elim) |>.trans ht3 (fun k hk => Or.inl (by rw [HF.out]; exact Or.inr hk))) hp3 hsl3 (fun k hk => by
      rcases hnew3 k hk with h | h
      · exact Or.inl ⟨by rw [HF.out]; exact Or.inr h, (hne3 k h).1⟩
      · exact Or.inr (Nat.le_trans ht2.size h)) 0 rfl)
  refine hK _ _ (fun _ => ⟨hp3, hx3⟩) ?_
  clear hK K hne3 hsl3 ht3 hnew3 hp2 hx2 hn2 ht2 hp1 hx1 ht1 hp3 hx3
  repeat (refine mix_free (v := ?_) rfl ?_ ?_; rotate_left; (focus (intro w' hI; go_simp; try with_reducible rfl)); simp only [Act.put, List.setIfInBounds_toArray, List.set_cons_zero, List.set_cons_succ])
  refine mix_big rfl (fun K hK => ?_)
  go_wp2
  refine hK _ _ (fun h => by cases h) ?_
  clear hK K
  refine mix_nil ?_
  go_wp2
  go_ret
  exact ⟨rfl, HE.out⟩


/-! ### Places -/
theorem place_arg (p : Nat) (l : List Pc) (lost : Int) (k : Int) (F : Nat → Prop) (w : World) (h : NetAt p l lost F w) (hk : k < 0) :
    Calls Try.prog 20 #[.pointer (some ⟨p, 0, none⟩), .int .i64 k] w fun e w' => e = .returned (.tuple #[.int .i64 0, .int .i64 1]) ∧ w = w' := by
  obtain ⟨v, hp, hs, hne, hF⟩ := h
  have c2 := cells_of hp 2 _ rfl
  clear hp hs hF
  go_enter Try.func20, Try.ntmps20
  go_wp2_with (go_at_call 19; refine (none_no _ _ c2).mono ?_; rintro e w' ⟨rfl, rfl⟩)
  go_ret2
  exact ⟨rfl, rfl⟩

theorem place_none (p : Nat) (lost : Int) (k : Int) (F : Nat → Prop) (w : World) (h : NetAt p [] lost F w) (hk : 0 ≤ k) :
    Calls Try.prog 20 #[.pointer (some ⟨p, 0, none⟩), .int .i64 k] w fun e w' => e = .returned (.tuple #[.int .i64 0, .int .i64 7]) ∧ w = w' := by
  obtain ⟨v, hp, hs, hne, hF⟩ := h
  obtain ⟨ao, cap, rfl, _⟩ := hs.shape
  have c0 := cells_of hp 0 _ rfl
  have c2 := cells_of hp 2 _ rfl
  clear hp hs hF
  have hk' : ¬ k < 0 := by omega
  go_enter Try.func20, Try.ntmps20
  go_wp2_with (go_at_call 19; refine (none_no _ _ c2).mono ?_; rintro e w' ⟨rfl, rfl⟩)
  go_ret2
  exact ⟨rfl, rfl⟩

theorem place_ok (p : Nat) (l : List Pc) (lost : Int) (k : Nat) (F : Nat → Prop) (w : World) (h : NetAt p l lost F w) (hl : 0 < l.length) (hl2 : l.length ≤ 256) :
    Calls Try.prog 20 #[.pointer (some ⟨p, 0, none⟩), .int .i64 k] w fun e w' => e = .returned (.tuple #[.int .i64 ((k % l.length : Nat) : Int), .int .i64 0]) ∧ w = w' := by
  obtain ⟨v, hp, hs, hne, hF⟩ := h
  obtain ⟨ao, cap, rfl, _⟩ := hs.shape
  have c0 := cells_of hp 0 _ rfl
  have c2 := cells_of hp 2 _ rfl
  clear hp hs hF
  generalize hn : l.length = n at *
  clear hn
  have h1 : ((n : Int) == 0) = false := by simp; omega
  have h2 : (1 : Int) ≤ n := by omega
  go_enter Try.func20, Try.ntmps20
  go_wp2_with (go_at_call 19; refine (none_no _ _ c2).mono ?_; rintro e w' ⟨rfl, rfl⟩)
  go_ret2
  exact ⟨rfl, rfl⟩

/-! ### The document's -/
theorem may_arg (p : Nat) (l : List Pc) (lost : Int) (k : Int) (F : Nat → Prop) (w : World) (h : RefAt p l lost F w) (hk : k < 0) :
    Calls Try.prog 21 #[.pointer (some ⟨p, 0, none⟩), .int .i64 k] w fun e w' => e = .returned (.int .i64 1) ∧ w = w' := by
  clear h
  go_enter Try.func21, Try.ntmps21
  go_wp2
  go_ret
  exact ⟨rfl, rfl⟩
theorem may_none (p : Nat) (lost : Int) (k : Int) (F : Nat → Prop) (w : World) (h : RefAt p [] lost F w) (hk : 0 ≤ k) :
    Calls Try.prog 21 #[.pointer (some ⟨p, 0, none⟩), .int .i64 k] w fun e w' => e = .returned (.int .i64 7) ∧ w = w' := by
  obtain ⟨v, hp, hs, hne, hF⟩ := h
  obtain ⟨ao, cap, rfl, _⟩ := hs.shape
  have c0 := cells_of hp 0 _ rfl
  clear hp hs hF
  have hk' : ¬ k < 0 := by omega
  go_enter Try.func21, Try.ntmps21
  go_wp2
  go_ret
  exact ⟨rfl, rfl⟩
theorem may_ok (p : Nat) (l : List Pc) (lost : Int) (k : Int) (F : Nat → Prop) (w : World) (h : RefAt p l lost F w) (hk : 0 ≤ k) (hl : 0 < l.length) :
    Calls Try.prog 21 #[.pointer (some ⟨p, 0, none⟩), .int .i64 k] w fun e w' => e = .returned (.int .i64 0) ∧ w = w' := by
  obtain ⟨v, hp, hs, hne, hF⟩ := h
  obtain ⟨ao, cap, rfl, _⟩ := hs.shape
  have c0 := cells_of hp 0 _ rfl
  clear hp hs hF
  generalize hn : l.length = n at *
  clear hn
  have h1 : ((n : Int) == 0) = false := by simp; omega
  have hk' : ¬ k < 0 := by omega
  go_enter Try.func21, Try.ntmps21
  go_wp2
  go_ret
  exact ⟨rfl, rfl⟩

set_option maxRecDepth 10000 in
set_option maxHeartbeats 400000 in
theorem ref_put_full (p : Nat) (l : List Pc) (lost : Int) (x : Pc) (F : Nat → Prop) (w : World) (h : RefAt p l lost F w) (hl : 256 ≤ l.length) (hlo : 0 ≤ lost) (hhi : lost ≤ 1000) :
    Calls Try.prog 14 #[.pointer (some ⟨p, 0, none⟩), x.val] w fun e w' => e = .returned (.int .i64 6) ∧ Step F (RefAt p l (min (lost + 1) 1000)) w w' := by
  have H := Lib.hid h
  obtain ⟨v, hp, hs, hne, hF⟩ := h
  have HF := Lib.hid hF
  clear hF
  obtain ⟨ao, cap, rfl, _⟩ := hs.shape
  have hpl := lt_of_block hp
  have c0 := cells_of hp 0 _ rfl
  have c1 := cells_of hp 1 _ rfl
  have f1 := free_of hp 1
  clear hp hs
  unfold Pc.val
  go_enter Try.func14, Try.ntmps14
  go_wp2
  all_goals go_ret
  · exact ⟨rfl, by
      have hm : min (lost + 1) 1000 = 1000 := by omega
      rw [hm]
      exact (show Step F (RefAt p l _) w _ from Box1.set H.out (Turns.refl _ _) 1 _ (fun v => rfl)).alloc (local_ref _ _ _) _⟩
  · exact ⟨rfl, by
      have hm : min (lost + 1) 1000 = lost + 1 := by omega
      rw [hm]
      exact (show Step F (RefAt p l _) w _ from Box1.set H.out (Turns.refl _ _) 1 _ (fun v => rfl)).alloc (local_ref _ _ _) _⟩


set_option maxRecDepth 10000 in
set_option maxHeartbeats 400000 in
theorem deliver_bad (p : Nat) (v : Value) (k z : Int) (w : World) (hz : ¬ z = 0) (h : ∀ w', Turns nobody w w' → Calls Try.prog 20 #[v, .int .i64 k] w' fun e w'' => e = .returned (.tuple #[.int .i64 0, .int .i64 z]) ∧ w' = w'') :
    Calls Try.prog 10 #[v, .int .i64 k] w fun e w' => e = .returned (.tuple #[pc0.val, .int .i64 z]) ∧ Turns nobody w w' := by
  have hp := h (w.alloc (.cells #[.int .i64 0, .int .i64 0, .string ⟨#[]⟩] 30)) ((Turns.refl _ _).alloc _)
  have hzz : (z != 0) = true := by simpa using hz
  clear h hz
  go_enter Try.func10, Try.ntmps10
  go_wp2_with (go_at_call 20; refine hp.mono ?_; rintro e w' ⟨rfl, rfl⟩)
  exact bodyPost_ret (v := .tuple #[pc0.val, .int .i64 z]) (by simp [results, Try.results10, go_sem, pc0, Pc.val]) rfl ⟨rfl, (Turns.refl _ _).alloc _⟩

theorem take_drop_cells (l : List Pc) (i : Nat) : pcells (l.take i ++ l.drop (i + 1)) = (pcells l).take (i * 3) ++ (pcells l).drop ((i + 1) * 3) := by
  rw [pcells_append, pcells_take, pcells_drop]

set_option maxRecDepth 10000 in
set_option maxHeartbeats 1000000 in
theorem deliver_ok (p : Nat) (l : List Pc) (lost : Int) (k : Nat) (F : Nat → Prop) (w : World) (h : NetAt p l lost F w) (hl : 0 < l.length) (hl2 : l.length ≤ 256) :
    Calls Try.prog 10 #[.pointer (some ⟨p, 0, none⟩), .int .i64 k] w fun e w' => e = .returned (.tuple #[(l.getD (k % l.length) pc0).val, .int .i64 0]) ∧
      Step F (NetAt p (l.take (k % l.length) ++ l.drop (k % l.length + 1)) lost) w w' := by
  have hil : k % l.length < l.length := Nat.mod_lt _ hl
  obtain ⟨w1, hw1⟩ : ∃ w1, w1 = w.alloc (.cells #[.int .i64 0, .int .i64 0, .string ⟨#[]⟩] 30) := ⟨_, rfl⟩
  have ht1 : Turns nobody w w1 := by rw [hw1]; exact (Turns.refl _ _).alloc _
  have h1 := (local_net p l lost).keep h ht1 (fun _ _ h => h)
  have hplace := place_ok p l lost k F w1 h1 hl hl2
  have HH := Lib.hid h
  obtain ⟨v, hp, hs, hne, hF⟩ := h
  obtain ⟨ao, cap, rfl, hnc, hcm, _⟩ := hs.shape
  obtain ⟨g, o, cap', hv, hgl⟩ := hs.some_of_pos hl
  cases hv
  have hpl := lt_of_block hp
  obtain ⟨x, hx⟩ : ∃ x, l.getD (k % l.length) pc0 = x := ⟨_, rfl⟩
  generalize hi : k % l.length = i at *
  clear hi
  have hc := PSl.cell (l := l) hs i hil
  rw [hx] at hc ⊢
  have hgp : g ≠ p := fun e => hne (by rw [blk, Value.ownBlock, e])
  have HW := Lib.hid hw1
  have c0 : w1.cell? ⟨p, 0, none⟩ = some (.slice (some ⟨g, o, none⟩) l.length cap) := (ht1.cell (p := ⟨p, 0, none⟩) hpl (fun h => h)).trans (cells_of hp 0 _ rfl)
  have x0 := (ht1.cell (p := ⟨g, o + i * 3, none⟩) hgl (fun h => h)).trans hc.1
  have x1 := (ht1.cell (p := ⟨g, o + i * 3 + 1, none⟩) hgl (fun h => h)).trans hc.2.1
  have x2 := (ht1.cell (p := ⟨g, o + i * 3 + 2, none⟩) hgl (fun h => h)).trans hc.2.2
  have HX := Lib.hid hx
  have HS := Lib.hid hs
  have HP := Lib.hid hp
  have HF := Lib.hid hF
  clear hw1 hx hs hp hF hc h1
  go_enter Try.func10, Try.ntmps10
  go_wp2_with fail
  rw [← HW.out]
  go_wp2_with (go_at_call 20; refine hplace.mono ?_; rintro e w' ⟨rfl, rfl⟩)
  have HZ1 : Hid (w1.heap.size = w.heap.size + 1) := Lib.hid (by rw [HW.out]; simp)
  have h01 : w1.heap[w.heap.size]? = some (.cells #[.int .i64 0, .int .i64 0, .string ⟨#[]⟩] 30 (0, 0)) := by rw [HW.out]; exact heap_alloc_new _ _
  obtain ⟨w2, hw2⟩ : ∃ w2, w2 = w1.alloc (.cells #[.int .i64 x.f, .int .i64 x.t, .string x.b] 30) := ⟨_, rfl⟩
  have ht2 : Turns nobody w w2 := by rw [hw2]; exact ht1.alloc _
  have hp2 : w2.heap[p]? = some (.cells #[.slice (some ⟨g, o, none⟩) l.length cap, .int .i64 lost, .bool true] 52 (0, 0)) := by rw [ht2.block p hpl (fun h => h)]; exact HP.out
  have hx2 : w2.heap[w1.heap.size]? = some (.cells #[.int .i64 x.f, .int .i64 x.t, .string x.b] 30 (0, 0)) := by rw [hw2]; exact heap_alloc_new _ _
  have h02 : w2.heap[w.heap.size]? = some (.cells #[.int .i64 0, .int .i64 0, .string ⟨#[]⟩] 30 (0, 0)) := by rw [hw2]; exact (heap_alloc_old _ _ (lt_of_block h01)).trans h01
  have HZ2 : Hid (w2.heap.size = w.heap.size + 2) := Lib.hid (by rw [hw2]; simp; have := HZ1.out; omega)
  rw [← hw2]
  clear hw2 hplace c0 x0 x1 x2 h01
  unfold maxLen at hcm
  refine wp_region_mix [(0, true, true), (1, true, true), (2, true, true), (3, true, true), (4, true, true), (5, true, true), (6, true, true), (7, true, true), (8, true, true), (9, true, true), (10, true, true), (11, true, true), (12, true, true), (13, true, true), (14, true, true), (15, false, true), (16, true, true), (17, true, true), (18, false, false)] (fun w' => w'.heap[p]? = some (.cells #[.slice (some ⟨g, o, none⟩) l.length cap, .int .i64 lost, .bool true] 52 (0, 0))) (by kernel_rfl) (by kernel_rfl) (hp2) ?_
  simp only [picked, List.filterMap_cons, List.filterMap_nil, List.getElem?_toArray, List.getElem?_cons_zero, List.getElem?_cons_succ, Option.map_some]
  repeat (refine mix_free (v := ?_) rfl ?_ ?_; rotate_left; (focus (intro w' hI; have d0 := cells_of hI 0 _ rfl; clear hI; go_simp; try with_reducible rfl)); simp only [Act.put, List.setIfInBounds_toArray, List.set_cons_zero, List.set_cons_succ])
  obtain ⟨a1, ha1⟩ : ∃ a1, Go.sliced (some ⟨g, o, none⟩) 0 i i 3 = .slice a1 i i := ⟨_, rfl⟩
  obtain ⟨a2, ha2⟩ : ∃ a2, Go.sliced (some ⟨g, o, none⟩) (i + 1) l.length cap 3 = .slice a2 (l.length - (i + 1)) (cap - (i + 1)) := ⟨_, rfl⟩
  have hs2 : Sl w2 30 3 (.slice (some ⟨g, o, none⟩) l.length cap) l.length (pcells l) := HS.out.keep ht2 (fun _ _ h => h)
  have hd1 := hs2.sliced 0 i i (by omega) (by omega) (by omega) (by omega)
  have hd2 := hs2.sliced (i + 1) l.length cap (by omega) (by omega) (by omega) (by omega)
  have hb1 := sliced_own (some ⟨g, o, none⟩) l.length cap 0 i i 3
  rw [ha1] at hd1 hb1
  rw [ha2] at hd2
  simp only [Nat.zero_mul, List.drop_zero, Nat.sub_zero, pcells_take] at hd1
  rw [pcells_drop, List.take_of_length_le (by rw [pcells_len, List.length_drop]; omega)] at hd2
  have hsrc := hd2.src (pcells_one _)
  have HA1 := Lib.hid ha1
  have HA2 := Lib.hid ha2
  have HB1 := Lib.hid hb1
  have HD1 := Lib.hid hd1
  have HSRC := Lib.hid hsrc
  clear ha1 ha2 hs2 hd1 hd2 hsrc hb1
  obtain ⟨i0, hi, hz0, hzz1, hzz2⟩ := info_parts infoPc
  refine mix_free (v := .slice a1 i i) rfl (fun w' hI => by have n1 : (0 : Int) ≤ (i : Int) := (by omega); have n2 : (i : Int) ≤ (cap : Int) := (by omega); rw [← HA1.out]; go_simp) ?_
  simp only [Act.put, List.setIfInBounds_toArray, List.set_cons_zero, List.set_cons_succ]
  repeat (refine mix_free (v := ?_) rfl ?_ ?_; rotate_left; (focus (intro w' hI; have d0 := cells_of hI 0 _ rfl; clear hI; go_simp; try with_reducible rfl)); simp only [Act.put, List.setIfInBounds_toArray, List.set_cons_zero, List.set_cons_succ])
  refine mix_free (v := .slice a2 (l.length - (i + 1)) (cap - (i + 1))) rfl (fun w' hI => by have n1 : (0 : Int) ≤ (i : Int) + 1 := (by omega); have n2 : (i : Int) + 1 ≤ (l.length : Int) := (by omega); have n3 : IntKind.i64.wrap ((i : Int) + 1) = (i : Int) + 1 := (IntWalk.i64_in _ (by omega)); have n4 : ((i : Int) + 1).toNat = i + 1 := (by omega); rw [← HA2.out]; go_simp) ?_
  simp only [Act.put, List.setIfInBounds_toArray, List.set_cons_zero, List.set_cons_succ]
  refine mix_big rfl (fun K hK => ?_)
  go_wp2_with (at_builtin; refine wpList_append_sl rfl _ _ 22 rfl Try.underlying22 hi hz0 hzz1 hzz2 rfl (by decide) rfl rfl HD1.out HSRC.out (by unfold maxLen; omega) (by omega) ?_)
  intro v' w3 hsl3 ht3 hnew3 _
  obtain ⟨ao', cap', rfl, _⟩ := hsl3.shape
  have hn : i + (l.length - (i + 1)) = (l.take i ++ l.drop (i + 1)).length := by rw [List.length_append, List.length_take, List.length_drop]; omega
  have hz1 := HZ1.out
  have hz2 := HZ2.out
  have ht3' : Turns (blk (.slice (some ⟨g, o, none⟩) l.length cap)) w2 w3 := (Turns.refl _ _).drew.trans ht3 (fun k hk => Or.inl ((HB1.out k).1 hk))
  have hp3 : w3.heap[p]? = some (.cells #[.slice (some ⟨g, o, none⟩) l.length cap, .int .i64 lost, .bool true] 52 (0, 0)) := by rw [ht3'.block p (by omega) hne]; exact hp2
  have hx3 : w3.heap[w1.heap.size]? = some (.cells #[.int .i64 x.f, .int .i64 x.t, .string x.b] 30 (0, 0)) := by rw [ht3'.block _ (by omega) (fun h => by simp only [blk, Value.ownBlock, Option.some.injEq] at h; omega)]; exact hx2
  have h03 : w3.heap[w.heap.size]? = some (.cells #[.int .i64 0, .int .i64 0, .string ⟨#[]⟩] 30 (0, 0)) := by rw [ht3'.block _ (by omega) (fun h => by simp only [blk, Value.ownBlock, Option.some.injEq] at h; omega)]; exact h02
  have hstep : Step F (NetAt p (l.take i ++ l.drop (i + 1)) lost) w2 (w3.setCell ⟨p, 0, none⟩ (.slice ao' (i + (l.length - (i + 1))) cap')) := by
    unfold NetAt
    rw [pcells_append]
    rw [hn] at hsl3 hnew3 ⊢
    refine Box1.put ((local_net p l lost).keep HH.out ht2 (fun _ _ h => h)) (ht3'.mono (fun k hk => Or.inl (by rw [HF.out]; exact Or.inr hk))) hp3 hsl3 (fun k hk => ?_) 0 rfl
    rcases hnew3 k hk with h | h
    · have h' := (HB1.out k).1 h
      exact Or.inl ⟨by rw [HF.out]; exact Or.inr h', fun e => hne (e ▸ h')⟩
    · exact Or.inr h
  clear hz1 hz2 hn
  have d0 := cells_of hp3 0 _ rfl
  have df := free_of hp3 0
  refine hK _ _ (fun _ => hp3) ?_
  clear hK K
  repeat (refine mix_free (v := ?_) rfl ?_ ?_; rotate_left; (focus (intro w' hI; go_simp; try with_reducible rfl)); simp only [Act.put, List.setIfInBounds_toArray, List.set_cons_zero, List.set_cons_succ])
  refine mix_big rfl (fun K hK => ?_)
  go_wp2
  refine hK _ _ (fun h => by cases h) ?_
  clear hK K
  refine mix_nil ?_
  have hz1 := HZ1.out
  obtain ⟨w4, hw4⟩ : ∃ w4, w4 = w3.setCell ⟨p, 0, none⟩ (.slice ao' (i + (l.length - (i + 1))) cap') := ⟨_, rfl⟩
  have hx4 : w4.heap[w1.heap.size]? = some (.cells #[.int .i64 x.f, .int .i64 x.t, .string x.b] 30 (0, 0)) := by rw [hw4, Below.heap_setCell _ _ _ _ (by simp only; omega)]; exact hx3
  have h04 : w4.heap[w.heap.size]? = some (.cells #[.int .i64 0, .int .i64 0, .string ⟨#[]⟩] 30 (0, 0)) := by rw [hw4, Below.heap_setCell _ _ _ _ (by simp only; omega)]; exact h03
  rw [← hw4] at hstep ⊢
  have HE := Lib.hid hstep
  clear hz1 hw4 hstep d0 df hp3 hx3 h03 hsl3 ht3 ht3' hnew3 hx2 h02 hp2
  have x0 := cells_of hx4 0 _ rfl
  have x1 := cells_of hx4 1 _ rfl
  have x2 := cells_of hx4 2 _ rfl
  have y0 := cells_of h04 0 _ rfl
  have y1 := cells_of h04 1 _ rfl
  have y2 := cells_of h04 2 _ rfl
  have q0 := free_of h04 0
  have q1 := free_of h04 1
  have q2 := free_of h04 2
  go_wp2
  obtain ⟨w5, hw5⟩ : ∃ w5, w5 = ((w4.setCell ⟨w.heap.size, 0, none⟩ (.int .i64 x.f)).setCell ⟨w.heap.size, 1, none⟩ (.int .i64 x.t)).setCell ⟨w.heap.size, 2, none⟩ (.string x.b) := ⟨_, rfl⟩
  have h05 : w5.heap[w.heap.size]? = some (.cells #[.int .i64 x.f, .int .i64 x.t, .string x.b] 30 (0, 0)) := by rw [hw5]; exact heap_setCell_at (heap_setCell_at (heap_setCell_at h04 0 _) 1 _) 2 _
  have hfin : Step F (NetAt p (l.take i ++ l.drop (i + 1)) lost) w w5 := by
    refine HE.out.aside (G := fun k => k = w.heap.size) (local_net _ _ _) ht2 ?_ ?_
    · rw [hw5]
      exact (((Turns.refl (fun k => k = w.heap.size) w4).setCell _ _ _ (Or.inl rfl)).setCell _ _ _ (Or.inl rfl)).setCell _ _ _ (Or.inl rfl)
    · rintro i rfl
      have := HZ2.out
      refine ⟨by omega, by omega, fun hf => ?_⟩
      rw [HF.out] at hf
      rcases hf with hf | hf
      · omega
      · simp only [blk, Value.ownBlock, Option.some.injEq] at hf
        omega
  rw [← hw5]
  clear hw5 x0 x1 x2 y0 y1 y2 q0 q1 q2
  have z0 := cells_of h05 0 _ rfl
  have z1 := cells_of h05 1 _ rfl
  have z2 := cells_of h05 2 _ rfl
  exact bodyPost_ret (v := .tuple #[x.val, .int .i64 0]) (by simp [results, Try.results10, go_sem, Pc.val, z0, z1, z2]) rfl ⟨rfl, hfin⟩


theorem fieldsPc : (Try.prog.fieldsOf 30).toList.map (fun f => (f.type, f.offset, f.name == "_")) = [(3, 0, false), (3, 1, false), (9, 2, false)] := by kernel_rfl
theorem eq_pc (x : Pc) (w : World) : (binOp .neq 30 x.val x.val).run Try.prog w = .ok (.bool false) w ∧ (binOp .eql 30 x.val x.val).run Try.prog w = .ok (.bool true) w := by
  unfold Pc.val
  refine run_neq_of_eql (r := true) ?_
  rw [run_equalIn_agg _ _ _ _ _ (by kernel_rfl) (by kernel_rfl)]
  have hf := fieldsPc
  generalize (Try.prog.fieldsOf 30).toList = fs at hf
  obtain ⟨f0, fs, rfl, g0, hf⟩ := List.map_eq_cons_iff.1 hf
  obtain ⟨f1, fs, rfl, g1, hf⟩ := List.map_eq_cons_iff.1 hf
  obtain ⟨f2, fs, rfl, g2, hf⟩ := List.map_eq_cons_iff.1 hf
  obtain rfl := List.map_eq_nil_iff.1 hf
  rw [eqFields_int (by kernel_rfl) Try.underlying3 g0 rfl, eqFields_int (by kernel_rfl) Try.underlying3 g1 rfl, eqFields_str (by kernel_rfl) Try.underlying9 g2 rfl]
  rfl

theorem double_bad (p : Nat) (v : Value) (k z : Int) (w : World) (hz : ¬ z = 0) (h : Calls Try.prog 20 #[v, .int .i64 k] w fun e w'' => e = .returned (.tuple #[.int .i64 0, .int .i64 z]) ∧ w = w'') :
    Calls Try.prog 13 #[v, .int .i64 k] w fun e w' => e = .returned (.int .i64 z) ∧ w = w' := by
  have hzz : (z != 0) = true := by simpa using hz
  clear hz
  go_enter Try.func13, Try.ntmps13
  go_wp2_with (go_at_call 20; refine h.mono ?_; rintro e w' ⟨rfl, rfl⟩)
  go_ret
  exact ⟨rfl, rfl⟩

/-- What doubling comes to: putting the one at the place. -/
theorem double_put (p : Nat) (l : List Pc) (lost : Int) (k : Nat) (F : Nat → Prop) (w : World) (h : NetAt p l lost F w) (hl : 0 < l.length) (hl2 : l.length ≤ 256) (z : Int) (R : World → Prop)
    (hput : Calls Try.prog 9 #[.pointer (some ⟨p, 0, none⟩), (l.getD (k % l.length) pc0).val] w fun e w' => e = .returned (.int .i64 z) ∧ R w') :
    Calls Try.prog 13 #[.pointer (some ⟨p, 0, none⟩), .int .i64 k] w fun e w' => e = .returned (.int .i64 z) ∧ R w' := by
  have hil : k % l.length < l.length := Nat.mod_lt _ hl
  have hplace := place_ok p l lost k F w h hl hl2
  obtain ⟨v, hp, hs, hne, hF⟩ := h
  obtain ⟨g, o, cap, rfl, hgl⟩ := hs.some_of_pos hl
  obtain ⟨x, hx⟩ : ∃ x, l.getD (k % l.length) pc0 = x := ⟨_, rfl⟩
  generalize hi : k % l.length = i at *
  clear hi
  have hc := PSl.cell (l := l) hs i hil
  rw [hx] at hc hput
  obtain ⟨x0, x1, x2⟩ := hc
  have c0 := cells_of hp 0 _ rfl
  unfold Pc.val at hput
  clear hx hs hp hF
  go_enter Try.func13, Try.ntmps13
  go_wp2_with first | (go_at_call 20; refine hplace.mono ?_; rintro e w' ⟨rfl, rfl⟩) | (go_at_call 9; refine hput.mono ?_; rintro e w' ⟨rfl, hr⟩)
  go_ret
  exact ⟨rfl, hr⟩

/-! ### All -/
theorem clone_any (v : Value) (l : List Pc) (w : World) (h : PSl w v l) (hl : l.length ≤ 256) :
    Calls Try.prog 22 #[v] w fun e w' => ∃ v', e = .returned v' ∧ PSl w' v' l ∧ Turns nobody w w' ∧ ∀ k, blk v' k → w.heap.size ≤ k := by
  unfold PSl at *
  obtain ⟨ao, cap, rfl, hnc, hcm, hao, _⟩ := h.shape
  obtain ⟨i0, hi, hz0, hz1, hz2⟩ := info_parts infoPc
  have HS := Lib.hid (h.src (pcells_one l))
  have q22 : ∀ (w : World) (a : Option Addr) (n c n' c' : Nat), (binOp .eql 22 (.slice a n c) (.slice none n' c')).run Try.prog w = .ok (.bool a.isNone) w := fun w a n c n' c' => Lib.run_eql_slice_nil w _ _ a n c n' c' Try.underlying22
  cases ao with
  | none =>
    obtain ⟨h0, rfl⟩ := hao rfl
    clear h hao
    obtain rfl : l = [] := List.eq_nil_of_length_eq_zero h0
    go_enter Try.func22, Try.ntmps22
    go_wp2_with fail
    go_ret
    exact ⟨_, rfl, Sl.nil _ _ _, Turns.refl _ _, fun k hk => by cases hk⟩
  | some a =>
    clear h hao
    go_enter Try.func22, Try.ntmps22
    go_wp2_with (at_builtin; refine wpList_append_sl rfl _ _ 22 rfl Try.underlying22 hi hz0 hz1 hz2 rfl (by decide) rfl rfl (Sl.empty (heap_alloc_new _ _) (Nat.zero_le _)) (HS.out.alloc _) (by unfold maxLen; omega) (by omega) ?_)
    intro v' w2 h1 h2 h3 h4
    go_wp2
    go_ret
    refine ⟨_, rfl, h1, ((Turns.refl _ _).alloc _).trans (h4 _ rfl).1 (fun _ h => h.elim), fun k hk => ?_⟩
    rcases h3 k hk with h | h
    · simp only [blk, Value.ownBlock, Option.some.injEq] at h
      omega
    · simp at h
      omega

theorem all_any (p : Nat) (l : List Pc) (lost : Int) (F : Nat → Prop) (w : World) (h : NetAt p l lost F w) (hl : l.length ≤ 256) :
    Calls Try.prog 18 #[.pointer (some ⟨p, 0, none⟩)] w fun e w' => ∃ v', e = .returned v' ∧ PSl w' v' l ∧ Turns nobody w w' ∧ ∀ k, blk v' k → w.heap.size ≤ k := by
  obtain ⟨v, hp, hs, hne, hF⟩ := h
  have hc := clone_any v l w hs hl
  have c0 := cells_of hp 0 _ rfl
  have c2 := cells_of hp 2 _ rfl
  obtain ⟨ao, cap, rfl, _⟩ := hs.shape
  clear hp hs hF
  go_enter Try.func18, Try.ntmps18
  go_wp2_with first | (go_at_call 19; refine (none_no _ _ c2).mono ?_; rintro e w' ⟨rfl, rfl⟩) | (go_at_call 22; refine hc.mono ?_; rintro e w' ⟨v', rfl, h1, h2, h3⟩)
  go_ret
  exact ⟨_, rfl, h1, h2, h3⟩

set_option maxHeartbeats 400000 in
theorem same_any (a b : Value) (l : List Pc) (w : World) (ha : PSl w a l) (hb : PSl w b l) (hl : l.length ≤ 256) :
    Calls Try.prog 17 #[a, b] w fun e w' => e = .returned (.bool true) ∧ ∃ n, w' = w.drewN n := by
  have ha' : Sl w _ _ _ _ _ := ha
  have hb' : Sl w _ _ _ _ _ := hb
  obtain ⟨ao, ca, rfl, _, _, hao, _⟩ := ha'.shape
  obtain ⟨bo, cb, rfl, _, _, hbo, _⟩ := hb'.shape
  have HA : ∀ k, k < l.length → ∃ g o, ao = some ⟨g, o, none⟩ ∧ w.cell? ⟨g, o + k * 3, none⟩ = some (.int .i64 (l.getD k pc0).f) ∧ w.cell? ⟨g, o + k * 3 + 1, none⟩ = some (.int .i64 (l.getD k pc0).t) ∧ w.cell? ⟨g, o + k * 3 + 2, none⟩ = some (.string (l.getD k pc0).b) := fun k hk => by
    obtain ⟨g, o, c, hv, _⟩ := ha'.some_of_pos (by omega)
    cases hv
    exact ⟨g, o, rfl, PSl.cell ha k hk⟩
  have HB : ∀ k, k < l.length → ∃ g o, bo = some ⟨g, o, none⟩ ∧ w.cell? ⟨g, o + k * 3, none⟩ = some (.int .i64 (l.getD k pc0).f) ∧ w.cell? ⟨g, o + k * 3 + 1, none⟩ = some (.int .i64 (l.getD k pc0).t) ∧ w.cell? ⟨g, o + k * 3 + 2, none⟩ = some (.string (l.getD k pc0).b) := fun k hk => by
    obtain ⟨g, o, c, hv, _⟩ := hb'.some_of_pos (by omega)
    cases hv
    exact ⟨g, o, rfl, PSl.cell hb k hk⟩
  have HHA := Lib.hid HA
  have HHB := Lib.hid HB
  clear HA HB ha hb ha' hb' hao hbo
  go_enter Try.func17, Try.ntmps17
  go_wp2
  go_loopw [5] (fun i wr => ∃ k : Nat, k ≤ l.length ∧ i = .int .i64 k ∧ ∃ n, wr = w.drewN n) (fun i _ => l.length - (intOf i).toNat)
  case atStart => exact ⟨0, Nat.zero_le _, rfl, 0, rfl⟩
  case round =>
    obtain ⟨k, hk, rfl, n, rfl⟩ := hrel
    by_cases hlt : k < l.length
    · obtain ⟨g, o, rfl, x0, x1, x2⟩ := HHA.out k hlt
      obtain ⟨g', o', rfl, y0, y1, y2⟩ := HHB.out k hlt
      have he := fun w => (eq_pc (l.getD k pc0) w).1
      generalize l.getD k pc0 = x at *
      unfold Pc.val at he
      go_wp2
      go_quiet (fail)
      go_wp2
      exact ⟨⟨k + 1, by omega, by go_num, n + nq, rfl⟩, by simp [intOf]; omega⟩
    · go_wp2
      go_ret
      exact ⟨rfl, n, rfl⟩


theorem one_src {w : World} {g : Nat} {x : Pc} (h : w.heap[g]? = some (.cells #[.int .i64 x.f, .int .i64 x.t, .string x.b] 30 (0, 0))) : Src w 3 (.slice (some ⟨g, 0, none⟩) 1 1) 1 (pcells [x]) :=
  Src.of_row (by rfl) (pcells_one [x]) (by
    intro j u hj
    obtain rfl | rfl | rfl | hj3 : j = 0 ∨ j = 1 ∨ j = 2 ∨ 3 ≤ j := by omega
    · cases hj; rw [Addr.add_lit]; exact cells_of h _ _ rfl
    · cases hj; rw [Addr.add_lit]; exact cells_of h _ _ rfl
    · cases hj; rw [Addr.add_lit]; exact cells_of h _ _ rfl
    · have := (List.getElem?_eq_some_iff.1 hj).1; rw [pcells_len] at this; simp at this; omega)

set_option maxRecDepth 10000 in
set_option maxHeartbeats 1000000 in
theorem ref_put_ok (p : Nat) (l : List Pc) (lost : Int) (x : Pc) (F : Nat → Prop) (w : World) (h : RefAt p l lost F w) (hl : l.length < 256) :
    Calls Try.prog 14 #[.pointer (some ⟨p, 0, none⟩), x.val] w fun e w' => e = .returned (.int .i64 0) ∧ Step F (RefAt p (l ++ [x]) lost) w w' := by
  have H := Lib.hid h
  obtain ⟨v, hp, hs, hne, hF⟩ := h
  have HF := Lib.hid hF
  clear hF
  obtain ⟨ao, cap, rfl, hnc, hcm, _⟩ := hs.shape
  have hpl := lt_of_block hp
  have c0 := cells_of hp 0 _ rfl
  have HS := Lib.hid hs
  have HP := Lib.hid hp
  obtain ⟨i0, hi, hz0, hz1, hz2⟩ := info_parts infoPc
  clear hp hs
  unfold Pc.val
  go_enter Try.func14, Try.ntmps14
  go_wp2
  obtain ⟨w1, hw1⟩ : ∃ w1, w1 = w.alloc (.cells #[.int .i64 x.f, .int .i64 x.t, .string x.b] 30) := ⟨_, rfl⟩
  have ht1 : Turns nobody w w1 := by rw [hw1]; exact (Turns.refl _ _).alloc _
  have hx : w1.drew.heap[w.heap.size]? = some (.cells #[.int .i64 x.f, .int .i64 x.t, .string x.b] 30 (0, 0)) := by rw [hw1]; exact heap_alloc_new _ _
  have H1 := Lib.hid ((local_ref p l lost).keep H.out ht1 (fun _ _ h => h))
  have hs1 := HS.out.keep ht1 (fun _ _ h => h)
  have HT1 := Lib.hid ht1
  have HPL : Hid (p < w1.heap.size) := by have := ht1.size; exact Lib.hid (by omega)
  have HX0 : Hid (w.heap.size < w1.heap.size) := Lib.hid (lt_of_block (w := w1) hx)
  have HB := Lib.hid (hs1.lt)
  have hr : RP w1 p #[.slice ao l.length cap, .int .i64 lost] 41 (.slice ao l.length cap) 3 l.length (pcells l) w1.drew := ⟨heap_newer (G := nobody) HP.out ht1.drew (fun h => h), (hs1.src (pcells_one l)).drew, (Turns.refl _ _).drew⟩
  rw [← hw1]
  clear hs1 hw1 ht1
  refine wp_region_fork [0, 2, 3, 4, 5, 7, 10, 11] [0, 2, 3, 4, 5, 7, 10, 11, 1, 8, 6, 9] (Plan.ofList [0, 2, 3, 4, 5, 7] (.fork 1 (.fork 6 (Plan.ofList [8, 9, 10, 11, 12] .done) 8 (Plan.ofList [6, 9, 10, 11, 12] .done)) 8 (Plan.ofList [1, 6, 9, 10, 11, 12] .done))) (fun W => RP w1 p #[.slice ao l.length cap, .int .i64 lost] 41 (.slice ao l.length cap) 3 l.length (pcells l) W ∧ W.heap[w.heap.size]? = some (.cells #[.int .i64 x.f, .int .i64 x.t, .string x.b] 30 (0, 0))) (by kernel_rfl) (by kernel_rfl) (⟨hr, hx⟩) ?_
  obtain ⟨W0, hW0⟩ : ∃ W0, W0 = w1.drew := ⟨_, rfl⟩
  rw [← hW0] at hr hx ⊢
  clear hW0
  simp -failIfUnchanged only [Plan.pick, Plan.ofList, isIn, List.contains_cons, List.contains_nil, Nat.reduceBEq, Bool.or_false, Bool.false_or, Bool.or_true, Bool.true_or, cond_true, cond_false, Array.getD_eq_getD_getElem?, List.getElem?_toArray, List.getElem?_cons_zero, List.getElem?_cons_succ, Option.getD_some]
  repeat (refine plan_free (v := ?_) rfl ?_ ?_; rotate_left; (focus (intro w' hI; have d0 := cells_of hI.1.hp 0 _ rfl; have e0 := cells_of hI.2 0 _ rfl; have e1 := cells_of hI.2 1 _ rfl; have e2 := cells_of hI.2 2 _ rfl; clear hI; go_simp; try with_reducible rfl)); simp only [Act.put, List.setIfInBounds_toArray, List.set_cons_zero, List.set_cons_succ])
  refine plan_fork ?_ ?_
  ·
    refine bigC_mk rfl (fun K hK => ?_)
    go_wp2
    obtain ⟨_, hg1, hle1, ht⟩ := hr.alloc (.cells #[] 30)
    try simp only [World.size_alloc] at hg1 hle1
    have HL1 := Lib.hid hle1
    clear hle1
    try replace HE1 := Lib.hid (HE1.out.keep ht (fun _ _ h => h))
    try replace HG8 := Lib.hid (HG8.out.keep ht (fun _ _ h => h))
    try replace H6 := Lib.hid (H6.out.keep ht (fun _ _ h => h))
    replace hr := hr.turns ht
    replace hx := heap_newer hx ht (fun h => h)
    have HE1 := Lib.hid (Sl.empty (sz := 3) hg1 (Nat.zero_le _))
    refine hK _ _ (fun _ => ⟨hr, hx⟩) ?_
    clear hK K hg1 ht
    refine plan_fork ?_ ?_
    ·
      refine bigC_mk rfl (fun K hK => ?_)
      go_wp2_with (at_builtin; refine wpList_append_sl rfl _ _ 22 rfl Try.underlying22 hi hz0 hz1 hz2 rfl (by decide) rfl rfl HE1.out hr.src (by unfold maxLen; omega) (by omega) ?_)
      intro v6 w6 h6 _ hn6 hc6
      try simp only [Nat.zero_add, List.nil_append] at h6
      have ht := (hc6 _ rfl).1
      have HF6 : Hid (∀ k, blk v6 k → w1.heap.size ≤ k) := fun k hk => by
        have hh := HL1.out
        have hh2 := hr.turned.size
        rcases hn6 k hk with h | h
        · simp only [blk, Value.ownBlock, Option.some.injEq] at h; omega
        · omega
      try replace HE1 := Lib.hid (HE1.out.keep ht (fun _ _ h => h))
      try replace HG8 := Lib.hid (HG8.out.keep ht (fun _ _ h => h))
      try replace H6 := Lib.hid (H6.out.keep ht (fun _ _ h => h))
      replace hr := hr.turns ht
      replace hx := heap_newer hx ht (fun h => h)
      have H6 := Lib.hid h6
      refine hK _ _ (fun _ => ⟨hr, hx⟩) ?_
      clear hK K ht h6 hn6 hc6
      refine plan_big ?_
      refine bigC_mk rfl (fun K hK => ?_)
      go_wp2
      obtain ⟨_, hg8, _, ht⟩ := hr.alloc (.cells #[.int .i64 x.f, .int .i64 x.t, .string x.b] 30)
      try simp only [World.size_alloc] at hg8
      try replace HE1 := Lib.hid (HE1.out.keep ht (fun _ _ h => h))
      try replace HG8 := Lib.hid (HG8.out.keep ht (fun _ _ h => h))
      try replace H6 := Lib.hid (H6.out.keep ht (fun _ _ h => h))
      replace hr := hr.turns ht
      replace hx := heap_newer hx ht (fun h => h)
      have HG8 := Lib.hid (one_src hg8)
      refine hK _ _ (fun _ => ⟨hr, hx⟩) ?_
      clear hK K hg8 ht
      refine plan_big (bigC_mk rfl (fun K hK => ?_))
      go_wp2_with (at_builtin; refine wpList_append_sl rfl _ _ 22 rfl Try.underlying22 hi hz0 hz1 hz2 rfl (by decide) rfl rfl H6.out HG8.out (by unfold maxLen; omega) (by omega) ?_)
      intro v9 w9 h9 ht9 hn9 _
      obtain ⟨ao9, cap9, rfl, _⟩ := h9.shape
      have hle := hr.turned.size
      replace hr := hr.newer ht9 HF6.out HPL.out HB.out
      replace hx := heap_newer hx ht9 (fun h => by have := HF6.out _ h; have := HX0.out; omega)
      have d0 := cells_of hr.hp 0 _ rfl
      have df := free_of hr.hp 0
      have hstep : Step F (RefAt p (l ++ [x]) lost) w1 (w9.setCell ⟨p, 0, none⟩ (.slice ao9 (l.length + 1) cap9)) := by
        have e1 : (l ++ [x]).length = l.length + 1 := by simp
        unfold RefAt
        rw [e1, pcells_append]
        exact Box1.put H1.out (hr.turned.mono (fun _ h => h.elim)) hr.hp h9 (fun k hk => Or.inr (by rcases hn9 k hk with h | h; exact HF6.out k h; omega)) 0 rfl
      have HS9 := Lib.hid hstep
      refine hK _ _ (fun _ => ⟨hr, hx⟩) ?_
      clear hK K hr hx h9 ht9 hn9 hstep
      repeat (refine plan_free (v := ?_) rfl ?_ ?_; rotate_left; (focus (intro w' hI; go_simp; try with_reducible rfl)); simp only [Act.put, List.setIfInBounds_toArray, List.set_cons_zero, List.set_cons_succ])
      refine plan_big (bigC_mk rfl (fun K hK => ?_))
      go_wp2
      refine hK _ _ (fun h => by cases h) ?_
      clear hK K
      refine plan_done ?_
      go_wp2
      go_ret
      exact ⟨rfl, HS9.out.before HT1.out⟩
    ·
      refine bigC_mk rfl (fun K hK => ?_)
      go_wp2
      obtain ⟨_, hg8, _, ht⟩ := hr.alloc (.cells #[.int .i64 x.f, .int .i64 x.t, .string x.b] 30)
      try simp only [World.size_alloc] at hg8
      try replace HE1 := Lib.hid (HE1.out.keep ht (fun _ _ h => h))
      try replace HG8 := Lib.hid (HG8.out.keep ht (fun _ _ h => h))
      try replace H6 := Lib.hid (H6.out.keep ht (fun _ _ h => h))
      replace hr := hr.turns ht
      replace hx := heap_newer hx ht (fun h => h)
      have HG8 := Lib.hid (one_src hg8)
      refine hK _ _ (fun _ => ⟨hr, hx⟩) ?_
      clear hK K hg8 ht
      refine plan_big ?_
      refine bigC_mk rfl (fun K hK => ?_)
      go_wp2_with (at_builtin; refine wpList_append_sl rfl _ _ 22 rfl Try.underlying22 hi hz0 hz1 hz2 rfl (by decide) rfl rfl HE1.out hr.src (by unfold maxLen; omega) (by omega) ?_)
      intro v6 w6 h6 _ hn6 hc6
      try simp only [Nat.zero_add, List.nil_append] at h6
      have ht := (hc6 _ rfl).1
      have HF6 : Hid (∀ k, blk v6 k → w1.heap.size ≤ k) := fun k hk => by
        have hh := HL1.out
        have hh2 := hr.turned.size
        rcases hn6 k hk with h | h
        · simp only [blk, Value.ownBlock, Option.some.injEq] at h; omega
        · omega
      try replace HE1 := Lib.hid (HE1.out.keep ht (fun _ _ h => h))
      try replace HG8 := Lib.hid (HG8.out.keep ht (fun _ _ h => h))
      try replace H6 := Lib.hid (H6.out.keep ht (fun _ _ h => h))
      replace hr := hr.turns ht
      replace hx := heap_newer hx ht (fun h => h)
      have H6 := Lib.hid h6
      refine hK _ _ (fun _ => ⟨hr, hx⟩) ?_
      clear hK K ht h6 hn6 hc6
      refine plan_big (bigC_mk rfl (fun K hK => ?_))
      go_wp2_with (at_builtin; refine wpList_append_sl rfl _ _ 22 rfl Try.underlying22 hi hz0 hz1 hz2 rfl (by decide) rfl rfl H6.out HG8.out (by unfold maxLen; omega) (by omega) ?_)
      intro v9 w9 h9 ht9 hn9 _
      obtain ⟨ao9, cap9, rfl, _⟩ := h9.shape
      have hle := hr.turned.size
      replace hr := hr.newer ht9 HF6.out HPL.out HB.out
      replace hx := heap_newer hx ht9 (fun h => by have := HF6.out _ h; have := HX0.out; omega)
      have d0 := cells_of hr.hp 0 _ rfl
      have df := free_of hr.hp 0
      have hstep : Step F (RefAt p (l ++ [x]) lost) w1 (w9.setCell ⟨p, 0, none⟩ (.slice ao9 (l.length + 1) cap9)) := by
        have e1 : (l ++ [x]).length = l.length + 1 := by simp
        unfold RefAt
        rw [e1, pcells_append]
        exact Box1.put H1.out (hr.turned.mono (fun _ h => h.elim)) hr.hp h9 (fun k hk => Or.inr (by rcases hn9 k hk with h | h; exact HF6.out k h; omega)) 0 rfl
      have HS9 := Lib.hid hstep
      refine hK _ _ (fun _ => ⟨hr, hx⟩) ?_
      clear hK K hr hx h9 ht9 hn9 hstep
      repeat (refine plan_free (v := ?_) rfl ?_ ?_; rotate_left; (focus (intro w' hI; go_simp; try with_reducible rfl)); simp only [Act.put, List.setIfInBounds_toArray, List.set_cons_zero, List.set_cons_succ])
      refine plan_big (bigC_mk rfl (fun K hK => ?_))
      go_wp2
      refine hK _ _ (fun h => by cases h) ?_
      clear hK K
      refine plan_done ?_
      go_wp2
      go_ret
      exact ⟨rfl, HS9.out.before HT1.out⟩
  ·
    refine bigC_mk rfl (fun K hK => ?_)
    go_wp2
    obtain ⟨_, hg8, _, ht⟩ := hr.alloc (.cells #[.int .i64 x.f, .int .i64 x.t, .string x.b] 30)
    try simp only [World.size_alloc] at hg8
    try replace HE1 := Lib.hid (HE1.out.keep ht (fun _ _ h => h))
    try replace HG8 := Lib.hid (HG8.out.keep ht (fun _ _ h => h))
    try replace H6 := Lib.hid (H6.out.keep ht (fun _ _ h => h))
    replace hr := hr.turns ht
    replace hx := heap_newer hx ht (fun h => h)
    have HG8 := Lib.hid (one_src hg8)
    refine hK _ _ (fun _ => ⟨hr, hx⟩) ?_
    clear hK K hg8 ht
    refine plan_big ?_
    refine bigC_mk rfl (fun K hK => ?_)
    go_wp2
    obtain ⟨_, hg1, hle1, ht⟩ := hr.alloc (.cells #[] 30)
    try simp only [World.size_alloc] at hg1 hle1
    have HL1 := Lib.hid hle1
    clear hle1
    try replace HE1 := Lib.hid (HE1.out.keep ht (fun _ _ h => h))
    try replace HG8 := Lib.hid (HG8.out.keep ht (fun _ _ h => h))
    try replace H6 := Lib.hid (H6.out.keep ht (fun _ _ h => h))
    replace hr := hr.turns ht
    replace hx := heap_newer hx ht (fun h => h)
    have HE1 := Lib.hid (Sl.empty (sz := 3) hg1 (Nat.zero_le _))
    refine hK _ _ (fun _ => ⟨hr, hx⟩) ?_
    clear hK K hg1 ht
    refine plan_big ?_
    refine bigC_mk rfl (fun K hK => ?_)
    go_wp2_with (at_builtin; refine wpList_append_sl rfl _ _ 22 rfl Try.underlying22 hi hz0 hz1 hz2 rfl (by decide) rfl rfl HE1.out hr.src (by unfold maxLen; omega) (by omega) ?_)
    intro v6 w6 h6 _ hn6 hc6
    try simp only [Nat.zero_add, List.nil_append] at h6
    have ht := (hc6 _ rfl).1
    have HF6 : Hid (∀ k, blk v6 k → w1.heap.size ≤ k) := fun k hk => by
      have hh := HL1.out
      have hh2 := hr.turned.size
      rcases hn6 k hk with h | h
      · simp only [blk, Value.ownBlock, Option.some.injEq] at h; omega
      · omega
    try replace HE1 := Lib.hid (HE1.out.keep ht (fun _ _ h => h))
    try replace HG8 := Lib.hid (HG8.out.keep ht (fun _ _ h => h))
    try replace H6 := Lib.hid (H6.out.keep ht (fun _ _ h => h))
    replace hr := hr.turns ht
    replace hx := heap_newer hx ht (fun h => h)
    have H6 := Lib.hid h6
    refine hK _ _ (fun _ => ⟨hr, hx⟩) ?_
    clear hK K ht h6 hn6 hc6
    refine plan_big (bigC_mk rfl (fun K hK => ?_))
    go_wp2_with (at_builtin; refine wpList_append_sl rfl _ _ 22 rfl Try.underlying22 hi hz0 hz1 hz2 rfl (by decide) rfl rfl H6.out HG8.out (by unfold maxLen; omega) (by omega) ?_)
    intro v9 w9 h9 ht9 hn9 _
    obtain ⟨ao9, cap9, rfl, _⟩ := h9.shape
    have hle := hr.turned.size
    replace hr := hr.newer ht9 HF6.out HPL.out HB.out
    replace hx := heap_newer hx ht9 (fun h => by have := HF6.out _ h; have := HX0.out; omega)
    have d0 := cells_of hr.hp 0 _ rfl
    have df := free_of hr.hp 0
    have hstep : Step F (RefAt p (l ++ [x]) lost) w1 (w9.setCell ⟨p, 0, none⟩ (.slice ao9 (l.length + 1) cap9)) := by
      have e1 : (l ++ [x]).length = l.length + 1 := by simp
      unfold RefAt
      rw [e1, pcells_append]
      exact Box1.put H1.out (hr.turned.mono (fun _ h => h.elim)) hr.hp h9 (fun k hk => Or.inr (by rcases hn9 k hk with h | h; exact HF6.out k h; omega)) 0 rfl
    have HS9 := Lib.hid hstep
    refine hK _ _ (fun _ => ⟨hr, hx⟩) ?_
    clear hK K hr hx h9 ht9 hn9 hstep
    repeat (refine plan_free (v := ?_) rfl ?_ ?_; rotate_left; (focus (intro w' hI; go_simp; try with_reducible rfl)); simp only [Act.put, List.setIfInBounds_toArray, List.set_cons_zero, List.set_cons_succ])
    refine plan_big (bigC_mk rfl (fun K hK => ?_))
    go_wp2
    refine hK _ _ (fun h => by cases h) ?_
    clear hK K
    refine plan_done ?_
    go_wp2
    go_ret
    exact ⟨rfl, HS9.out.before HT1.out⟩

end Go.Proofs.Ytjjapnphljhicaa.net
