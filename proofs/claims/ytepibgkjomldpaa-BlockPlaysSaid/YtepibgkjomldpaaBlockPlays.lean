/- BlockPlays: whatever is written, made safe, cut, crashed. -/
import Derived.Test.YtepibgkjomldpaaBlockRef
import Derived.Test.YtepibgkjomldpaaFlatKit
import Derived.Deep.CutRange
namespace Go.Proofs.Ytepibgkjomldpaa.block
open Go.RowKit
open Go.Proofs.Ytepibgkjomldpaa.stepkit Go.Proofs.Ytepibgkjomldpaa.mix Go.Proofs.Ytepibgkjomldpaa.row Go.Proofs.Ytepibgkjomldpaa.argkit

def actKinds : List TypeDesc := [.int .i64, .int .i64, .string]

theorem act_row {r : List Value} (h : Fits actKinds r) : ∃ (k n : Int) (s : ByteArray), r = [.int .i64 k, .int .i64 n, .string s] ∧ (Lit.int .i64 k).wf = true ∧ (Lit.int .i64 n).wf = true ∧ s.size ≤ maxLen := by
  obtain ⟨_, r1, rfl, ⟨k, rfl, hk⟩, h1⟩ := h.cons
  obtain ⟨_, r2, rfl, ⟨n, rfl, hn⟩, h2⟩ := h1.cons
  obtain ⟨_, r3, rfl, ⟨s, rfl, hs⟩, h3⟩ := h2.cons
  obtain rfl := h3.nil
  exact ⟨k, n, s, rfl, hk, hn, hs⟩

/-- Within a round: the program's file, the document's, the call's own copy of what is asked. -/
structure Mid (B : Nat) (w0 : World) (l : List UInt8) (safe : Nat) (l2 : List UInt8) (safe2 : Nat) (g : Nat) (act : Obj) (w : World) : Prop where
  b : BlockAt w B l safe
  r : RefAt w (B + 1) l2 safe2
  below : Below B w0 w
  size : B + 2 ≤ w.heap.size
  act : w.heap[g]? = some act
  apart : B + 2 ≤ g

theorem Mid.left {B : Nat} {w0 : World} {l : List UInt8} {safe : Nat} {l2 : List UInt8} {safe2 : Nat} {g : Nat} {act : Obj} {w w' : World} (h : Mid B w0 l safe l2 safe2 g act w) {l' : List UInt8} {safe' : Nat} (hb : BlockAt w' B l' safe') (hg : w.grownBy w' (some B)) : Mid B w0 l' safe' l2 safe2 g act w' :=
  ⟨hb, h.r.grown hg (by simp), h.below.grown hg (by have := h.size; omega) (fun k hk => by cases hk; omega), Nat.le_trans h.size hg.size, by rw [hg.block g (lt_of_block h.act) (by have := h.apart; simp; omega)]; exact h.act, h.apart⟩

theorem Mid.right {B : Nat} {w0 : World} {l : List UInt8} {safe : Nat} {l2 : List UInt8} {safe2 : Nat} {g : Nat} {act : Obj} {w w' : World} (h : Mid B w0 l safe l2 safe2 g act w) {l' : List UInt8} {safe' : Nat} (hr : RefAt w' (B + 1) l' safe') (hg : w.grownBy w' (some (B + 1))) : Mid B w0 l safe l' safe' g act w' :=
  ⟨h.b.grown hg (by simp) (fun k cur t hk hc => by
      cases hk
      obtain ⟨_, s, _, h3⟩ := h.r
      rw [h3] at hc
      simp only [Option.some.injEq, Obj.cells.injEq] at hc
      rw [← hc.2.1]; decide), hr, h.below.grown hg (by have := h.size; omega) (fun k hk => by cases hk; omega), Nat.le_trans h.size hg.size, by rw [hg.block g (lt_of_block h.act) (by have := h.apart; simp; omega)]; exact h.act, h.apart⟩

theorem Mid.drawn {B : Nat} {w0 : World} {l : List UInt8} {safe : Nat} {l2 : List UInt8} {safe2 : Nat} {g : Nat} {act : Obj} {w w' : World} (h : Mid B w0 l safe l2 safe2 g act w) (hw : ∃ n, w' = w.drewN n) : Mid B w0 l safe l2 safe2 g act w' := by
  obtain ⟨n, rfl⟩ := hw
  exact ⟨h.b, h.r, ⟨h.below.os, h.below.tape, h.below.output, h.below.size, h.below.block⟩, h.size, h.act, h.apart⟩

theorem Mid.drew {B : Nat} {w0 : World} {l : List UInt8} {safe : Nat} {l2 : List UInt8} {safe2 : Nat} {g : Nat} {act : Obj} {w : World} (h : Mid B w0 l safe l2 safe2 g act w) : Mid B w0 l safe l2 safe2 g act w.drew := h.drawn ⟨1, rfl⟩

/-- At a round's head. -/
def Pair (B : Nat) (w0 : World) (l : List UInt8) (safe : Nat) (w : World) : Prop := BlockAt w B l safe ∧ RefAt w (B + 1) l safe ∧ Below B w0 w ∧ B + 2 ≤ w.heap.size

theorem pair_start {w w1 : World} (h : w1 = w.alloc (.cells #[.slice none 0 0, .int .i64 0, .bool true] 40)) : Pair w.heap.size w [] 0 (w1.alloc (.cells #[.string ⟨#[]⟩, .int .i64 0] 27)) := by
  have hz1 : w1.heap.size = w.heap.size + 1 := by rw [h]; simp
  have hb := new_at h
  have hg := World.grownBy_alloc w1 (.cells #[.string ⟨#[]⟩, .int .i64 0] 27) none
  refine ⟨hb.1.grown hg (by simp) (fun _ _ _ h => by cases h), ⟨Nat.le_refl _, ⟨#[]⟩, rfl, ?_⟩, (grownBy_below hb.2 (Nat.le_refl _) (fun k hk => by cases hk)).grown hg (by omega) (fun k hk => by cases hk), by simp; omega⟩
  rw [← hz1]
  exact heap_alloc_new _ _

theorem txt_eq {s : ByteArray} {l : List UInt8} (h : txt s l) : (ByteArray.mk l.toArray) = s := by
  unfold txt at h
  subst h
  rfl

theorem data_txt (p : Nat) (l : List UInt8) (safe : Nat) (s : ByteArray) (hs : txt s l) (w : World) (h : BlockAt w p l safe) :
    Calls Try.prog 11 #[.pointer (some ⟨p, 0, none⟩)] w fun e w' => e = .returned (.string s) ∧ w = w' := by
  have := data_any p l safe w h
  rwa [txt_eq hs] at this

theorem ref_store0 {w : World} {q : Nat} {s : ByteArray} {x : Nat} {t : ByteArray} {l : List UInt8} (h : w.heap[q]? = some (.cells #[.string s, .int .i64 (x : Int)] 27 (0, 0))) (ht : txt t l) (hk : x ≤ l.length) :
    RefAt (w.setCell ⟨q, 0, none⟩ (.string t)) q l x ∧ w.grownBy (w.setCell ⟨q, 0, none⟩ (.string t)) (some q) :=
  ⟨⟨hk, t, ht, heap_setCell_at h 0 (.string t)⟩, grownBy_setCell _ _ _ _⟩
theorem ref_store1 {w : World} {q : Nat} {s : ByteArray} {x : Value} {l : List UInt8} (h : w.heap[q]? = some (.cells #[.string s, x] 27 (0, 0))) (ht : txt s l) :
    RefAt (w.setCell ⟨q, 1, none⟩ (.int .i64 (l.length : Int))) q l l.length ∧ w.grownBy (w.setCell ⟨q, 1, none⟩ (.int .i64 (l.length : Int))) (some q) :=
  ⟨⟨Nat.le_refl _, s, ht, heap_setCell_at h 1 _⟩, grownBy_setCell _ _ _ _⟩

set_option maxRecDepth 20000 in
set_option maxHeartbeats 8000000 in
theorem plays_any (ao : Option Addr) (rows : List (List Value)) (cap : Nat) (w : World) (hcap : rows.length ≤ maxLen) (hrow : RowsAt w w.heap.size 3 ao rows) (hfit : ∀ r ∈ rows, Fits actKinds r) :
    Calls Try.prog 3 #[.slice ao rows.length cap] w fun e w' => e = .returned (.bool true) ∧ Below w.heap.size w w' := by
  unfold maxLen at hcap
  obtain ⟨B, hB⟩ : ∃ B, w.heap.size = B := ⟨_, rfl⟩
  rw [hB] at hrow ⊢
  go_enter Try.func3, Try.ntmps3
  go_wp2_with (go_at_call 4; refine (new_any _).mono ?_; rintro e w1 ⟨rfl, hw1⟩; have hp := pair_start hw1; have hz1 : w1.heap.size = B + 1 := (by rw [hw1]; simp [hB]); rw [hB] at hp ⊢; have HP := Lib.hid hp; clear hp hw1 hB)
  clear hz1
  go_loopw [5] (fun i wr => ∃ (j : Nat) (l : List UInt8) (safe : Nat), j ≤ rows.length ∧ j ≤ 60 ∧ i = .int .i64 j ∧ l.length ≤ 500 * j ∧ Pair B w l safe wr) (fun i _ => 60 - (intOf i).toNat)
  case atStart => exact ⟨0, [], 0, by omega, by omega, rfl, by simp, HP.out⟩
  case round =>
    obtain ⟨j, l, safe, hj, hj60, rfl, hl, q1, q2, q3, q4⟩ := hrel
    by_cases hlt : j < rows.length ∧ j < 60
    · obtain ⟨h1, h2⟩ := hlt
      obtain ⟨bb, oo, rfl, hbb, hcell⟩ := hrow (by omega)
      have hmem : rows.getD j [] ∈ rows := by rw [List.getD, List.getElem?_eq_getElem h1]; exact List.getElem_mem _
      obtain ⟨k, n, s, hr, hk, hn, hs⟩ := act_row (hfit _ hmem)
      have hnb := Go.bounds_i64 hn
      have hc := fun (i : Nat) (hi : i < 3) => (q3.cell (p := ⟨bb, oo + j * 3 + i, none⟩) hbb).trans (hcell j h1 i hi)
      rw [hr] at hc
      have d0 : wr.cell? ⟨bb, oo + j * 3, none⟩ = some (.int .i64 k) := hc 0 (by omega)
      have d1 : wr.cell? ⟨bb, oo + j * 3 + 1, none⟩ = some (.int .i64 n) := hc 1 (by omega)
      have d2 : wr.cell? ⟨bb, oo + j * 3 + 2, none⟩ = some (.string s) := hc 2 (by omega)
      have hbw : bb < wr.heap.size := by omega
      clear hc hr hmem hcell hrow hn hk
      by_cases hs5 : 500 < s.size
      · go_wp2_with fail
        go_roundw
        case rel =>
          have hg := World.grownBy_alloc wr (.cells #[.int .i64 k, .int .i64 n, .string s] 29) none
          exact ⟨j + 1, l, safe, by omega, by omega, by go_num, by omega, q1.grown hg (by simp) (fun _ _ _ h => by cases h), q2.grown hg (by simp), q3.grown hg (by omega) (fun k hk => by cases hk), Nat.le_trans q4 hg.size⟩
        case measure => simp [intOf]; omega
      · go_upto_region 9 with fail
        obtain ⟨wm, hwm⟩ : ∃ wm, wm = wr.alloc (.cells #[.int .i64 k, .int .i64 n, .string s] 29) := ⟨_, rfl⟩
        have hm : Mid B w l safe l safe wr.heap.size (.cells #[.int .i64 k, .int .i64 n, .string s] 29 (0, 0)) wm := by
          have hg := World.grownBy_alloc wr (.cells #[.int .i64 k, .int .i64 n, .string s] 29) none
          rw [← hwm] at hg
          exact ⟨q1.grown hg (by simp) (fun _ _ _ h => by cases h), q2.grown hg (by simp), q3.grown hg (by omega) (fun k hk => by cases hk), Nat.le_trans q4 hg.size, by rw [hwm]; exact heap_alloc_new _ _, q4⟩
        obtain ⟨g, hg⟩ : ∃ g, wr.heap.size = g := ⟨_, rfl⟩
        rw [hg] at hm ⊢
        rw [← hwm]
        have a0 := cells_of hm.act 0 _ rfl
        have a1 := cells_of hm.act 1 _ rfl
        have a2 := cells_of hm.act 2 _ rfl
        clear hwm hg q1 q2 q3 q4 d0 d1 d2 hbw
        have hkk : (k = 0 ∨ k = 1) ∨ k = 2 ∨ k = 3 ∨ k = 4 ∨ (¬ k = 0 ∧ ¬ k = 1 ∧ ¬ k = 2 ∧ ¬ k = 3 ∧ ¬ k = 4) := by omega
        rcases hkk with hkk | rfl | rfl | rfl | ⟨n0, n1, n2, n3, n4⟩
        · rcases hkk with rfl | rfl
          all_goals
            go_wp2_with (go_at_call 5; refine (write_any _ _ _ _ _ hm.b (by omega)).mono ?_; rintro e w3 ⟨rfl, r1, r2⟩; replace hm := hm.left r1 r2; clear r1 r2)
            obtain ⟨hsl2, s2, hs2, hp2⟩ := hm.r
            have hz2 := txt_size hs2
            have hno : ¬ 9223372036854775807 < s2.size + s.size := by omega
            clear hz2
            have HR := Lib.hid hm.r
            have hact := hm.act
            refine wp_region_mix [(0, true, true), (1, true, true), (2, true, true), (3, true, true), (4, true, true), (5, true, true), (6, true, true), (7, true, true), (8, true, true), (9, true, true), (10, false, false)] (fun W => W.heap[B + 1]? = some (.cells #[.string s2, .int .i64 (safe : Int)] 27 (0, 0)) ∧ W.heap[g]? = some (.cells #[.int .i64 _, .int .i64 n, .string s] 29 (0, 0))) (by kernel_rfl) (by kernel_rfl) (⟨hp2, hact⟩) ?_
            simp only [picked, List.filterMap_cons, List.filterMap_nil, List.getElem?_toArray, List.getElem?_cons_zero, List.getElem?_cons_succ, Option.map_some]
            replace hm := hm.drew
            obtain ⟨wn, hwn⟩ : ∃ wn, wn = w3.drew := ⟨_, rfl⟩
            rw [← hwn] at hm ⊢
            have hp3 : wn.heap[B + 1]? = some (.cells #[.string s2, .int .i64 (safe : Int)] 27 (0, 0)) := by rw [hwn]; exact hp2
            clear hp2 hact hwn a0 a1 a2
            repeat (refine mix_free (v := ?_) rfl ?_ ?_; rotate_left; (focus (intro w' hI; have e0 := cells_of hI.1 0 _ rfl; have e2 := cells_of hI.2 2 _ rfl; clear hI; go_simp; try with_reducible rfl)); simp only [Act.put, List.setIfInBounds_toArray, List.set_cons_zero, List.set_cons_succ])
            have e0 := cells_of hp3 0 _ rfl
            have f0 := free_of hp3 0
            refine mix_big rfl (fun K hK => ?_)
            go_wp2
            refine hK _ _ (fun h => by cases h) ?_
            clear hK K
            refine mix_nil ?_
            have hst := ref_store0 (t := s2 ++ s) (l := l ++ s.data.toList) hp3 (txt_add hs2) (by rw [List.length_append]; omega)
            replace hm := hm.right hst.1 hst.2
            obtain ⟨l', hl'⟩ : ∃ l', l' = l ++ s.data.toList := ⟨_, rfl⟩
            have hl2 : l'.length ≤ 500 * (j + 1) := by rw [hl', List.length_append]; have : s.data.toList.length = s.size := Array.length_toList; omega
            obtain ⟨safe', rfl⟩ : ∃ safe', safe' = safe := ⟨_, rfl⟩
            rw [← hl'] at hm
            clear hl'
            obtain ⟨wt, hwt⟩ : ∃ wt, wt = wn.setCell ⟨B + 1, 0, none⟩ (.string (s2 ++ s)) := ⟨_, rfl⟩
            go_wp2
            rw [← hwt] at hm ⊢
            clear hwt hst hp3 e0 f0 hno hs2 hsl2
            obtain ⟨hsl2, s2, hs2, hp2⟩ := hm.r
            have hz2 := txt_size hs2
            have hw2 : IntKind.i64.wrap ((l'.length : Int) - safe') = (l'.length : Int) - safe' := IntWalk.i64_in _ (by omega)
            have HP2 := Lib.hid hp2
            clear hp2
            refine wp_region_mix [(0, true, true), (1, true, true), (2, true, true), (3, true, true), (5, true, true), (6, true, true), (7, true, true), (8, true, true), (4, false, true), (9, true, true), (10, true, true), (11, true, true), (12, true, true), (14, true, true), (15, true, true), (16, true, true), (17, true, true), (18, true, true), (13, false, true), (19, true, true), (20, true, true), (21, true, true), (22, true, true), (24, true, true), (25, true, true), (26, true, true), (27, true, true), (28, true, true), (29, true, true), (30, true, true), (31, true, true), (32, true, true), (33, true, true), (23, false, true), (34, true, true), (35, true, true)] (fun W => W.heap[B + 1]? = some (.cells #[.string s2, .int .i64 (safe' : Int)] 27 (0, 0))) (by kernel_rfl) (by kernel_rfl) (HP2.out) ?_
            simp only [picked, List.filterMap_cons, List.filterMap_nil, List.getElem?_toArray, List.getElem?_cons_zero, List.getElem?_cons_succ, Option.map_some]
            replace hm := hm.drew
            repeat (refine mix_free (v := ?_) rfl ?_ ?_; rotate_left; (focus (intro w' hI; have e0 := cells_of hI 0 _ rfl; have e1 := cells_of hI 1 _ rfl; clear hI; go_simp; try with_reducible rfl)); simp only [Act.put, List.setIfInBounds_toArray, List.set_cons_zero, List.set_cons_succ])
            refine mix_big rfl (fun K hK => ?_)
            go_wp2_with (go_at_call 11; refine (data_txt _ _ _ s2 hs2 _ hm.b).mono ?_; rintro e w7 ⟨rfl, rfl⟩)
            refine hK _ _ (fun _ => HP2.out) ?_
            clear hK K
            repeat (refine mix_free (v := ?_) rfl ?_ ?_; rotate_left; (focus (intro w' hI; have e0 := cells_of hI 0 _ rfl; have e1 := cells_of hI 1 _ rfl; clear hI; go_simp; try with_reducible rfl)); simp only [Act.put, List.setIfInBounds_toArray, List.set_cons_zero, List.set_cons_succ])
            refine mix_big rfl (fun K hK => ?_)
            go_wp2_with (go_at_call 12; refine (size_any _ _ _ _ hm.b).mono ?_; rintro e w7 ⟨rfl, rfl⟩)
            refine hK _ _ (fun _ => HP2.out) ?_
            clear hK K
            repeat (refine mix_free (v := ?_) rfl ?_ ?_; rotate_left; (focus (intro w' hI; have e0 := cells_of hI 0 _ rfl; have e1 := cells_of hI 1 _ rfl; clear hI; go_simp; try with_reducible rfl)); simp only [Act.put, List.setIfInBounds_toArray, List.set_cons_zero, List.set_cons_succ])
            refine mix_big rfl (fun K hK => ?_)
            go_wp2_with (go_at_call 13; refine (tail_any _ _ _ _ hm.b (by omega)).mono ?_; rintro e w7 ⟨rfl, n7, rfl⟩)
            refine hK _ _ (fun _ => HP2.out) ?_
            clear hK K
            repeat (refine mix_free (v := ?_) rfl ?_ ?_; rotate_left; (focus (intro w' hI; go_simp; try with_reducible rfl)); simp only [Act.put, List.setIfInBounds_toArray, List.set_cons_zero, List.set_cons_succ])
            refine mix_nil ?_
            go_wp2
            go_roundw
            case rel => exact ⟨j + 1, l', safe', by omega, by omega, by go_num, by omega, by have hm' := hm.drawn (w' := wt.drewN (1 + n7)) ⟨n7, by rw [← World.drewN_drewN]; rfl⟩; exact ⟨hm'.b, hm'.r, hm'.below, hm'.size⟩⟩
            case measure => simp [intOf]; omega
        · go_wp2_with fail
          obtain ⟨hsl2, s2, hs2, hp2⟩ := hm.r
          have hz2 := txt_size hs2
          have hw2 : IntKind.i64.wrap ((l.length : Int) - safe) = (l.length : Int) - safe := IntWalk.i64_in _ (by omega)
          have HP2 := Lib.hid hp2
          clear hp2
          refine wp_region_mix [(0, true, true), (2, true, true), (3, true, true), (4, true, true), (5, true, true), (6, true, true), (7, true, true), (8, true, true), (9, true, true), (10, true, true), (11, true, true), (1, false, true), (12, true, true), (13, true, true)] (fun W => W.heap[B + 1]? = some (.cells #[.string s2, .int .i64 (safe : Int)] 27 (0, 0))) (by kernel_rfl) (by kernel_rfl) (HP2.out) ?_
          simp only [picked, List.filterMap_cons, List.filterMap_nil, List.getElem?_toArray, List.getElem?_cons_zero, List.getElem?_cons_succ, Option.map_some]
          replace hm := hm.drew
          repeat (refine mix_free (v := ?_) rfl ?_ ?_; rotate_left; (focus (intro w' hI; have e0 := cells_of hI 0 _ rfl; have e1 := cells_of hI 1 _ rfl; clear hI; go_simp; try with_reducible rfl)); simp only [Act.put, List.setIfInBounds_toArray, List.set_cons_zero, List.set_cons_succ])
          refine mix_big rfl (fun K hK => ?_)
          go_wp2_with (go_at_call 6; refine (sync_any _ _ _ _ hm.b (by omega)).mono ?_; rintro e w3 ⟨rfl, r1, r2⟩; have hp3 := HP2.out; have hp4 := (r2.block (B + 1) (lt_of_block hm.r.2.choose_spec.2) (by simp)).trans hp3; replace hm := hm.left r1 r2; clear r1 r2 hp3)
          have HP4 := Lib.hid hp4
          clear hp4
          refine hK _ _ (fun _ => HP4.out) ?_
          clear hK K
          repeat (refine mix_free (v := ?_) rfl ?_ ?_; rotate_left; (focus (intro w' hI; go_simp; try with_reducible rfl)); simp only [Act.put, List.setIfInBounds_toArray, List.set_cons_zero, List.set_cons_succ])
          refine mix_nil ?_
          clear hw2
          have e0 := cells_of HP4.out 0 _ rfl
          have e1 := cells_of HP4.out 1 _ rfl
          have f1 := free_of HP4.out 1
          go_upto_region 22 with fail
          have hst := ref_store1 (l := l) HP4.out hs2
          replace hm := hm.right hst.1 hst.2
          obtain ⟨wt, hwt⟩ : ∃ wt, wt = w3.setCell ⟨B + 1, 1, none⟩ (.int .i64 (l.length : Int)) := ⟨_, rfl⟩
          rw [← hwt] at hm ⊢
          obtain ⟨l', rfl⟩ : ∃ l', l' = l := ⟨_, rfl⟩
          obtain ⟨safe', hsafe⟩ : ∃ safe', safe' = l'.length := ⟨_, rfl⟩
          rw [← hsafe] at hm
          have hl2 : l'.length ≤ 500 * (j + 1) := by omega
          clear hwt hst e0 e1 f1 hz2 hs2 hsl2 hsafe
          obtain ⟨hsl2, s2, hs2, hp2⟩ := hm.r
          have hz2 := txt_size hs2
          have hw2 : IntKind.i64.wrap ((l'.length : Int) - safe') = (l'.length : Int) - safe' := IntWalk.i64_in _ (by omega)
          have HP2 := Lib.hid hp2
          clear hp2
          refine wp_region_mix [(0, true, true), (1, true, true), (2, true, true), (3, true, true), (5, true, true), (6, true, true), (7, true, true), (8, true, true), (4, false, true), (9, true, true), (10, true, true), (11, true, true), (12, true, true), (14, true, true), (15, true, true), (16, true, true), (17, true, true), (18, true, true), (13, false, true), (19, true, true), (20, true, true), (21, true, true), (22, true, true), (24, true, true), (25, true, true), (26, true, true), (27, true, true), (28, true, true), (29, true, true), (30, true, true), (31, true, true), (32, true, true), (33, true, true), (23, false, true), (34, true, true), (35, true, true)] (fun W => W.heap[B + 1]? = some (.cells #[.string s2, .int .i64 (safe' : Int)] 27 (0, 0))) (by kernel_rfl) (by kernel_rfl) (HP2.out) ?_
          simp only [picked, List.filterMap_cons, List.filterMap_nil, List.getElem?_toArray, List.getElem?_cons_zero, List.getElem?_cons_succ, Option.map_some]
          replace hm := hm.drew
          repeat (refine mix_free (v := ?_) rfl ?_ ?_; rotate_left; (focus (intro w' hI; have e0 := cells_of hI 0 _ rfl; have e1 := cells_of hI 1 _ rfl; clear hI; go_simp; try with_reducible rfl)); simp only [Act.put, List.setIfInBounds_toArray, List.set_cons_zero, List.set_cons_succ])
          refine mix_big rfl (fun K hK => ?_)
          go_wp2_with (go_at_call 11; refine (data_txt _ _ _ s2 hs2 _ hm.b).mono ?_; rintro e w7 ⟨rfl, rfl⟩)
          refine hK _ _ (fun _ => HP2.out) ?_
          clear hK K
          repeat (refine mix_free (v := ?_) rfl ?_ ?_; rotate_left; (focus (intro w' hI; have e0 := cells_of hI 0 _ rfl; have e1 := cells_of hI 1 _ rfl; clear hI; go_simp; try with_reducible rfl)); simp only [Act.put, List.setIfInBounds_toArray, List.set_cons_zero, List.set_cons_succ])
          refine mix_big rfl (fun K hK => ?_)
          go_wp2_with (go_at_call 12; refine (size_any _ _ _ _ hm.b).mono ?_; rintro e w7 ⟨rfl, rfl⟩)
          refine hK _ _ (fun _ => HP2.out) ?_
          clear hK K
          repeat (refine mix_free (v := ?_) rfl ?_ ?_; rotate_left; (focus (intro w' hI; have e0 := cells_of hI 0 _ rfl; have e1 := cells_of hI 1 _ rfl; clear hI; go_simp; try with_reducible rfl)); simp only [Act.put, List.setIfInBounds_toArray, List.set_cons_zero, List.set_cons_succ])
          refine mix_big rfl (fun K hK => ?_)
          go_wp2_with (go_at_call 13; refine (tail_any _ _ _ _ hm.b (by omega)).mono ?_; rintro e w7 ⟨rfl, n7, rfl⟩)
          refine hK _ _ (fun _ => HP2.out) ?_
          clear hK K
          repeat (refine mix_free (v := ?_) rfl ?_ ?_; rotate_left; (focus (intro w' hI; go_simp; try with_reducible rfl)); simp only [Act.put, List.setIfInBounds_toArray, List.set_cons_zero, List.set_cons_succ])
          refine mix_nil ?_
          go_wp2
          go_roundw
          case rel => exact ⟨j + 1, l', safe', by omega, by omega, by go_num, by omega, by have hm' := hm.drawn (w' := wt.drewN (1 + n7)) ⟨n7, by rw [← World.drewN_drewN]; rfl⟩; exact ⟨hm'.b, hm'.r, hm'.below, hm'.size⟩⟩
          case measure => simp [intOf]; omega
        · go_wp2_with fail
          refine wp_region_mix [(0, true, true), (1, true, true), (2, true, true), (4, true, true), (5, true, true), (6, true, true), (3, false, true), (7, false, true), (8, true, true), (9, true, true)] (fun W => W.heap[g]? = some (.cells #[.int .i64 3, .int .i64 n, .string s] 29 (0, 0))) (by kernel_rfl) (by kernel_rfl) (hm.act) ?_
          simp only [picked, List.filterMap_cons, List.filterMap_nil, List.getElem?_toArray, List.getElem?_cons_zero, List.getElem?_cons_succ, Option.map_some]
          replace hm := hm.drew
          repeat (refine mix_free (v := ?_) rfl ?_ ?_; rotate_left; (focus (intro w' hI; have e1 := cells_of hI 1 _ rfl; clear hI; go_simp; try with_reducible rfl)); simp only [Act.put, List.setIfInBounds_toArray, List.set_cons_zero, List.set_cons_succ])
          by_cases hn : 0 ≤ n ∧ n ≤ l.length
          · obtain ⟨m, rfl⟩ : ∃ m : Nat, n = m := ⟨n.toNat, by omega⟩
            refine mix_big rfl (fun K hK => ?_)
            go_wp2_with (go_at_call 7; refine (cut_ok _ _ _ _ _ hm.b (by omega)).mono ?_; rintro e w3 ⟨rfl, r1, r2⟩; replace hm := hm.left r1 r2; clear r1 r2)
            refine hK _ _ (fun _ => hm.act) ?_
            clear hK K
            refine mix_big rfl (fun K hK => ?_)
            go_wp2_with (go_at_call 8; refine (ref_cut_ok _ _ _ _ _ hm.r (by omega)).mono ?_; rintro e wt ⟨rfl, r1, r2⟩; replace hm := hm.right r1 r2; clear r1 r2)
            refine hK _ _ (fun _ => hm.act) ?_
            clear hK K
            repeat (refine mix_free (v := ?_) rfl ?_ ?_; rotate_left; (focus (intro w' hI; go_simp; try with_reducible rfl)); simp only [Act.put, List.setIfInBounds_toArray, List.set_cons_zero, List.set_cons_succ])
            refine mix_nil ?_
            obtain ⟨l', hl'⟩ : ∃ l', l' = l.take m := ⟨_, rfl⟩
            have hl2 : l'.length ≤ 500 * (j + 1) := by rw [hl', List.length_take]; omega
            rw [← hl'] at hm
            clear hl' a0 a1 a2
            obtain ⟨safe', rfl⟩ : ∃ safe', safe' = m := ⟨_, rfl⟩
            go_wp2
            obtain ⟨hsl2, s2, hs2, hp2⟩ := hm.r
            have hz2 := txt_size hs2
            have hw2 : IntKind.i64.wrap ((l'.length : Int) - safe') = (l'.length : Int) - safe' := IntWalk.i64_in _ (by omega)
            have HP2 := Lib.hid hp2
            clear hp2
            refine wp_region_mix [(0, true, true), (1, true, true), (2, true, true), (3, true, true), (5, true, true), (6, true, true), (7, true, true), (8, true, true), (4, false, true), (9, true, true), (10, true, true), (11, true, true), (12, true, true), (14, true, true), (15, true, true), (16, true, true), (17, true, true), (18, true, true), (13, false, true), (19, true, true), (20, true, true), (21, true, true), (22, true, true), (24, true, true), (25, true, true), (26, true, true), (27, true, true), (28, true, true), (29, true, true), (30, true, true), (31, true, true), (32, true, true), (33, true, true), (23, false, true), (34, true, true), (35, true, true)] (fun W => W.heap[B + 1]? = some (.cells #[.string s2, .int .i64 (safe' : Int)] 27 (0, 0))) (by kernel_rfl) (by kernel_rfl) (HP2.out) ?_
            simp only [picked, List.filterMap_cons, List.filterMap_nil, List.getElem?_toArray, List.getElem?_cons_zero, List.getElem?_cons_succ, Option.map_some]
            replace hm := hm.drew
            repeat (refine mix_free (v := ?_) rfl ?_ ?_; rotate_left; (focus (intro w' hI; have e0 := cells_of hI 0 _ rfl; have e1 := cells_of hI 1 _ rfl; clear hI; go_simp; try with_reducible rfl)); simp only [Act.put, List.setIfInBounds_toArray, List.set_cons_zero, List.set_cons_succ])
            refine mix_big rfl (fun K hK => ?_)
            go_wp2_with (go_at_call 11; refine (data_txt _ _ _ s2 hs2 _ hm.b).mono ?_; rintro e w7 ⟨rfl, rfl⟩)
            refine hK _ _ (fun _ => HP2.out) ?_
            clear hK K
            repeat (refine mix_free (v := ?_) rfl ?_ ?_; rotate_left; (focus (intro w' hI; have e0 := cells_of hI 0 _ rfl; have e1 := cells_of hI 1 _ rfl; clear hI; go_simp; try with_reducible rfl)); simp only [Act.put, List.setIfInBounds_toArray, List.set_cons_zero, List.set_cons_succ])
            refine mix_big rfl (fun K hK => ?_)
            go_wp2_with (go_at_call 12; refine (size_any _ _ _ _ hm.b).mono ?_; rintro e w7 ⟨rfl, rfl⟩)
            refine hK _ _ (fun _ => HP2.out) ?_
            clear hK K
            repeat (refine mix_free (v := ?_) rfl ?_ ?_; rotate_left; (focus (intro w' hI; have e0 := cells_of hI 0 _ rfl; have e1 := cells_of hI 1 _ rfl; clear hI; go_simp; try with_reducible rfl)); simp only [Act.put, List.setIfInBounds_toArray, List.set_cons_zero, List.set_cons_succ])
            refine mix_big rfl (fun K hK => ?_)
            go_wp2_with (go_at_call 13; refine (tail_any _ _ _ _ hm.b (by omega)).mono ?_; rintro e w7 ⟨rfl, n7, rfl⟩)
            refine hK _ _ (fun _ => HP2.out) ?_
            clear hK K
            repeat (refine mix_free (v := ?_) rfl ?_ ?_; rotate_left; (focus (intro w' hI; go_simp; try with_reducible rfl)); simp only [Act.put, List.setIfInBounds_toArray, List.set_cons_zero, List.set_cons_succ])
            refine mix_nil ?_
            go_wp2
            go_roundw
            case rel => exact ⟨j + 1, l', safe', by omega, by omega, by go_num, by omega, by have hm' := hm.drawn (w' := wt.drewN (1 + n7)) ⟨n7, by rw [← World.drewN_drewN]; rfl⟩; exact ⟨hm'.b, hm'.r, hm'.below, hm'.size⟩⟩
            case measure => simp [intOf]; omega
          · have hnn : n < 0 ∨ (l.length : Int) < n := by omega
            refine mix_big rfl (fun K hK => ?_)
            go_wp2_with (go_at_call 7; refine (cut_bad _ _ _ _ _ hm.b hnn).mono ?_; rintro e w3 ⟨rfl, rfl⟩)
            refine hK _ _ (fun _ => hm.act) ?_
            clear hK K
            refine mix_big rfl (fun K hK => ?_)
            go_wp2_with (go_at_call 8; refine (ref_cut_bad _ _ _ _ _ hm.r hnn).mono ?_; rintro e w3 ⟨rfl, rfl⟩)
            refine hK _ _ (fun _ => hm.act) ?_
            clear hK K
            repeat (refine mix_free (v := ?_) rfl ?_ ?_; rotate_left; (focus (intro w' hI; go_simp; try with_reducible rfl)); simp only [Act.put, List.setIfInBounds_toArray, List.set_cons_zero, List.set_cons_succ])
            refine mix_nil ?_
            have hl2 : l.length ≤ 500 * (j + 1) := by omega
            obtain ⟨l', rfl⟩ : ∃ l', l' = l := ⟨_, rfl⟩
            obtain ⟨safe', rfl⟩ : ∃ safe', safe' = safe := ⟨_, rfl⟩
            clear hnn hn a0 a1 a2
            go_wp2
            obtain ⟨wt, hwt⟩ : ∃ wt, wt = wm.drew := ⟨_, rfl⟩
            rw [← hwt] at hm ⊢
            clear hwt
            obtain ⟨hsl2, s2, hs2, hp2⟩ := hm.r
            have hz2 := txt_size hs2
            have hw2 : IntKind.i64.wrap ((l'.length : Int) - safe') = (l'.length : Int) - safe' := IntWalk.i64_in _ (by omega)
            have HP2 := Lib.hid hp2
            clear hp2
            refine wp_region_mix [(0, true, true), (1, true, true), (2, true, true), (3, true, true), (5, true, true), (6, true, true), (7, true, true), (8, true, true), (4, false, true), (9, true, true), (10, true, true), (11, true, true), (12, true, true), (14, true, true), (15, true, true), (16, true, true), (17, true, true), (18, true, true), (13, false, true), (19, true, true), (20, true, true), (21, true, true), (22, true, true), (24, true, true), (25, true, true), (26, true, true), (27, true, true), (28, true, true), (29, true, true), (30, true, true), (31, true, true), (32, true, true), (33, true, true), (23, false, true), (34, true, true), (35, true, true)] (fun W => W.heap[B + 1]? = some (.cells #[.string s2, .int .i64 (safe' : Int)] 27 (0, 0))) (by kernel_rfl) (by kernel_rfl) (HP2.out) ?_
            simp only [picked, List.filterMap_cons, List.filterMap_nil, List.getElem?_toArray, List.getElem?_cons_zero, List.getElem?_cons_succ, Option.map_some]
            replace hm := hm.drew
            repeat (refine mix_free (v := ?_) rfl ?_ ?_; rotate_left; (focus (intro w' hI; have e0 := cells_of hI 0 _ rfl; have e1 := cells_of hI 1 _ rfl; clear hI; go_simp; try with_reducible rfl)); simp only [Act.put, List.setIfInBounds_toArray, List.set_cons_zero, List.set_cons_succ])
            refine mix_big rfl (fun K hK => ?_)
            go_wp2_with (go_at_call 11; refine (data_txt _ _ _ s2 hs2 _ hm.b).mono ?_; rintro e w7 ⟨rfl, rfl⟩)
            refine hK _ _ (fun _ => HP2.out) ?_
            clear hK K
            repeat (refine mix_free (v := ?_) rfl ?_ ?_; rotate_left; (focus (intro w' hI; have e0 := cells_of hI 0 _ rfl; have e1 := cells_of hI 1 _ rfl; clear hI; go_simp; try with_reducible rfl)); simp only [Act.put, List.setIfInBounds_toArray, List.set_cons_zero, List.set_cons_succ])
            refine mix_big rfl (fun K hK => ?_)
            go_wp2_with (go_at_call 12; refine (size_any _ _ _ _ hm.b).mono ?_; rintro e w7 ⟨rfl, rfl⟩)
            refine hK _ _ (fun _ => HP2.out) ?_
            clear hK K
            repeat (refine mix_free (v := ?_) rfl ?_ ?_; rotate_left; (focus (intro w' hI; have e0 := cells_of hI 0 _ rfl; have e1 := cells_of hI 1 _ rfl; clear hI; go_simp; try with_reducible rfl)); simp only [Act.put, List.setIfInBounds_toArray, List.set_cons_zero, List.set_cons_succ])
            refine mix_big rfl (fun K hK => ?_)
            go_wp2_with (go_at_call 13; refine (tail_any _ _ _ _ hm.b (by omega)).mono ?_; rintro e w7 ⟨rfl, n7, rfl⟩)
            refine hK _ _ (fun _ => HP2.out) ?_
            clear hK K
            repeat (refine mix_free (v := ?_) rfl ?_ ?_; rotate_left; (focus (intro w' hI; go_simp; try with_reducible rfl)); simp only [Act.put, List.setIfInBounds_toArray, List.set_cons_zero, List.set_cons_succ])
            refine mix_nil ?_
            go_wp2
            go_roundw
            case rel => exact ⟨j + 1, l', safe', by omega, by omega, by go_num, by omega, by have hm' := hm.drawn (w' := wt.drewN (1 + n7)) ⟨n7, by rw [← World.drewN_drewN]; rfl⟩; exact ⟨hm'.b, hm'.r, hm'.below, hm'.size⟩⟩
            case measure => simp [intOf]; omega
        · go_wp2_with fail
          refine wp_region_mix [(0, true, true), (1, true, true), (2, true, true), (4, true, true), (5, true, true), (6, true, true), (3, false, true), (7, false, true), (8, true, true), (9, true, true)] (fun W => W.heap[g]? = some (.cells #[.int .i64 4, .int .i64 n, .string s] 29 (0, 0))) (by kernel_rfl) (by kernel_rfl) (hm.act) ?_
          simp only [picked, List.filterMap_cons, List.filterMap_nil, List.getElem?_toArray, List.getElem?_cons_zero, List.getElem?_cons_succ, Option.map_some]
          replace hm := hm.drew
          have hsl := hm.b.1
          repeat (refine mix_free (v := ?_) rfl ?_ ?_; rotate_left; (focus (intro w' hI; have e1 := cells_of hI 1 _ rfl; clear hI; go_simp; try with_reducible rfl)); simp only [Act.put, List.setIfInBounds_toArray, List.set_cons_zero, List.set_cons_succ])
          obtain ⟨safe', hk⟩ : ∃ safe', safe' = keepOf l.length safe n := ⟨_, rfl⟩
          have hk2 : safe' ≤ l.length := by rw [hk]; exact keepOf_le hsl n
          have HK := Lib.hid hk
          clear hk hsl
          refine mix_big rfl (fun K hK => ?_)
          go_wp2_with (go_at_call 9; refine (crash_any _ _ _ _ _ hm.b (by omega) hnb.1 hnb.2).mono ?_; rw [← HK.out]; rintro e w3 ⟨rfl, r1, r2⟩; replace hm := hm.left r1 r2; clear r1 r2)
          refine hK _ _ (fun _ => hm.act) ?_
          clear hK K
          refine mix_big rfl (fun K hK => ?_)
          go_wp2_with (go_at_call 10; refine (ref_crash _ _ _ _ _ hm.r (by omega) hnb.1 hnb.2).mono ?_; rw [← HK.out]; rintro e wt ⟨rfl, r1, r2⟩; replace hm := hm.right r1 r2; clear r1 r2)
          refine hK _ _ (fun _ => hm.act) ?_
          clear hK K
          repeat (refine mix_free (v := ?_) rfl ?_ ?_; rotate_left; (focus (intro w' hI; go_simp; try with_reducible rfl)); simp only [Act.put, List.setIfInBounds_toArray, List.set_cons_zero, List.set_cons_succ])
          refine mix_nil ?_
          obtain ⟨l', hl'⟩ : ∃ l', l' = l.take safe' := ⟨_, rfl⟩
          have hl2 : l'.length ≤ 500 * (j + 1) := by rw [hl', List.length_take]; omega
          rw [← hl'] at hm
          clear hl' a0 a1 a2
          go_wp2
          obtain ⟨hsl2, s2, hs2, hp2⟩ := hm.r
          have hz2 := txt_size hs2
          have hw2 : IntKind.i64.wrap ((l'.length : Int) - safe') = (l'.length : Int) - safe' := IntWalk.i64_in _ (by omega)
          have HP2 := Lib.hid hp2
          clear hp2
          refine wp_region_mix [(0, true, true), (1, true, true), (2, true, true), (3, true, true), (5, true, true), (6, true, true), (7, true, true), (8, true, true), (4, false, true), (9, true, true), (10, true, true), (11, true, true), (12, true, true), (14, true, true), (15, true, true), (16, true, true), (17, true, true), (18, true, true), (13, false, true), (19, true, true), (20, true, true), (21, true, true), (22, true, true), (24, true, true), (25, true, true), (26, true, true), (27, true, true), (28, true, true), (29, true, true), (30, true, true), (31, true, true), (32, true, true), (33, true, true), (23, false, true), (34, true, true), (35, true, true)] (fun W => W.heap[B + 1]? = some (.cells #[.string s2, .int .i64 (safe' : Int)] 27 (0, 0))) (by kernel_rfl) (by kernel_rfl) (HP2.out) ?_
          simp only [picked, List.filterMap_cons, List.filterMap_nil, List.getElem?_toArray, List.getElem?_cons_zero, List.getElem?_cons_succ, Option.map_some]
          replace hm := hm.drew
          repeat (refine mix_free (v := ?_) rfl ?_ ?_; rotate_left; (focus (intro w' hI; have e0 := cells_of hI 0 _ rfl; have e1 := cells_of hI 1 _ rfl; clear hI; go_simp; try with_reducible rfl)); simp only [Act.put, List.setIfInBounds_toArray, List.set_cons_zero, List.set_cons_succ])
          refine mix_big rfl (fun K hK => ?_)
          go_wp2_with (go_at_call 11; refine (data_txt _ _ _ s2 hs2 _ hm.b).mono ?_; rintro e w7 ⟨rfl, rfl⟩)
          refine hK _ _ (fun _ => HP2.out) ?_
          clear hK K
          repeat (refine mix_free (v := ?_) rfl ?_ ?_; rotate_left; (focus (intro w' hI; have e0 := cells_of hI 0 _ rfl; have e1 := cells_of hI 1 _ rfl; clear hI; go_simp; try with_reducible rfl)); simp only [Act.put, List.setIfInBounds_toArray, List.set_cons_zero, List.set_cons_succ])
          refine mix_big rfl (fun K hK => ?_)
          go_wp2_with (go_at_call 12; refine (size_any _ _ _ _ hm.b).mono ?_; rintro e w7 ⟨rfl, rfl⟩)
          refine hK _ _ (fun _ => HP2.out) ?_
          clear hK K
          repeat (refine mix_free (v := ?_) rfl ?_ ?_; rotate_left; (focus (intro w' hI; have e0 := cells_of hI 0 _ rfl; have e1 := cells_of hI 1 _ rfl; clear hI; go_simp; try with_reducible rfl)); simp only [Act.put, List.setIfInBounds_toArray, List.set_cons_zero, List.set_cons_succ])
          refine mix_big rfl (fun K hK => ?_)
          go_wp2_with (go_at_call 13; refine (tail_any _ _ _ _ hm.b (by omega)).mono ?_; rintro e w7 ⟨rfl, n7, rfl⟩)
          refine hK _ _ (fun _ => HP2.out) ?_
          clear hK K
          repeat (refine mix_free (v := ?_) rfl ?_ ?_; rotate_left; (focus (intro w' hI; go_simp; try with_reducible rfl)); simp only [Act.put, List.setIfInBounds_toArray, List.set_cons_zero, List.set_cons_succ])
          refine mix_nil ?_
          go_wp2
          go_roundw
          case rel => exact ⟨j + 1, l', safe', by omega, by omega, by go_num, by omega, by have hm' := hm.drawn (w' := wt.drewN (1 + n7)) ⟨n7, by rw [← World.drewN_drewN]; rfl⟩; exact ⟨hm'.b, hm'.r, hm'.below, hm'.size⟩⟩
          case measure => simp [intOf]; omega
        · have m0 : (k == 0) = false := by simpa using n0
          have m1 : (k == 1) = false := by simpa using n1
          have m2 : (k == 2) = false := by simpa using n2
          have m3 : (k == 3) = false := by simpa using n3
          have m4 : (k == 4) = false := by simpa using n4
          go_wp2_with fail
          have hl2 : l.length ≤ 500 * (j + 1) := by omega
          obtain ⟨l', rfl⟩ : ∃ l', l' = l := ⟨_, rfl⟩
          obtain ⟨safe', rfl⟩ : ∃ safe', safe' = safe := ⟨_, rfl⟩
          obtain ⟨wt, rfl⟩ : ∃ wt, wt = wm := ⟨_, rfl⟩
          clear m0 m1 m2 m3 m4 a0 a1 a2
          obtain ⟨hsl2, s2, hs2, hp2⟩ := hm.r
          have hz2 := txt_size hs2
          have hw2 : IntKind.i64.wrap ((l'.length : Int) - safe') = (l'.length : Int) - safe' := IntWalk.i64_in _ (by omega)
          have HP2 := Lib.hid hp2
          clear hp2
          refine wp_region_mix [(0, true, true), (1, true, true), (2, true, true), (3, true, true), (5, true, true), (6, true, true), (7, true, true), (8, true, true), (4, false, true), (9, true, true), (10, true, true), (11, true, true), (12, true, true), (14, true, true), (15, true, true), (16, true, true), (17, true, true), (18, true, true), (13, false, true), (19, true, true), (20, true, true), (21, true, true), (22, true, true), (24, true, true), (25, true, true), (26, true, true), (27, true, true), (28, true, true), (29, true, true), (30, true, true), (31, true, true), (32, true, true), (33, true, true), (23, false, true), (34, true, true), (35, true, true)] (fun W => W.heap[B + 1]? = some (.cells #[.string s2, .int .i64 (safe' : Int)] 27 (0, 0))) (by kernel_rfl) (by kernel_rfl) (HP2.out) ?_
          simp only [picked, List.filterMap_cons, List.filterMap_nil, List.getElem?_toArray, List.getElem?_cons_zero, List.getElem?_cons_succ, Option.map_some]
          replace hm := hm.drew
          repeat (refine mix_free (v := ?_) rfl ?_ ?_; rotate_left; (focus (intro w' hI; have e0 := cells_of hI 0 _ rfl; have e1 := cells_of hI 1 _ rfl; clear hI; go_simp; try with_reducible rfl)); simp only [Act.put, List.setIfInBounds_toArray, List.set_cons_zero, List.set_cons_succ])
          refine mix_big rfl (fun K hK => ?_)
          go_wp2_with (go_at_call 11; refine (data_txt _ _ _ s2 hs2 _ hm.b).mono ?_; rintro e w7 ⟨rfl, rfl⟩)
          refine hK _ _ (fun _ => HP2.out) ?_
          clear hK K
          repeat (refine mix_free (v := ?_) rfl ?_ ?_; rotate_left; (focus (intro w' hI; have e0 := cells_of hI 0 _ rfl; have e1 := cells_of hI 1 _ rfl; clear hI; go_simp; try with_reducible rfl)); simp only [Act.put, List.setIfInBounds_toArray, List.set_cons_zero, List.set_cons_succ])
          refine mix_big rfl (fun K hK => ?_)
          go_wp2_with (go_at_call 12; refine (size_any _ _ _ _ hm.b).mono ?_; rintro e w7 ⟨rfl, rfl⟩)
          refine hK _ _ (fun _ => HP2.out) ?_
          clear hK K
          repeat (refine mix_free (v := ?_) rfl ?_ ?_; rotate_left; (focus (intro w' hI; have e0 := cells_of hI 0 _ rfl; have e1 := cells_of hI 1 _ rfl; clear hI; go_simp; try with_reducible rfl)); simp only [Act.put, List.setIfInBounds_toArray, List.set_cons_zero, List.set_cons_succ])
          refine mix_big rfl (fun K hK => ?_)
          go_wp2_with (go_at_call 13; refine (tail_any _ _ _ _ hm.b (by omega)).mono ?_; rintro e w7 ⟨rfl, n7, rfl⟩)
          refine hK _ _ (fun _ => HP2.out) ?_
          clear hK K
          repeat (refine mix_free (v := ?_) rfl ?_ ?_; rotate_left; (focus (intro w' hI; go_simp; try with_reducible rfl)); simp only [Act.put, List.setIfInBounds_toArray, List.set_cons_zero, List.set_cons_succ])
          refine mix_nil ?_
          go_wp2
          go_roundw
          case rel => exact ⟨j + 1, l', safe', by omega, by omega, by go_num, by omega, by have hm' := hm.drawn (w' := wt.drewN (1 + n7)) ⟨n7, by rw [← World.drewN_drewN]; rfl⟩; exact ⟨hm'.b, hm'.r, hm'.below, hm'.size⟩⟩
          case measure => simp [intOf]; omega
    · have hex : rows.length ≤ j ∨ (j < rows.length ∧ 60 ≤ j) := by omega
      clear hlt
      rcases hex with hex | ⟨hex1, hex2⟩
      all_goals
        go_wp2_with (go_at_call 14; refine (awake_any _).mono ?_; rintro e w4 ⟨rfl, hw4⟩)
        go_ret
        exact ⟨rfl, q3.trans (hw4.mono (by omega))⟩
end Go.Proofs.Ytepibgkjomldpaa.block
