/- Package store: that the program computes at all. -/
import Derived.Test.YtjnplcajajdkiaaDoorStoStep
namespace Go.Proofs.YtjnplcajajdkiaaDoor.store
open Go.RowKit
open Go.Proofs.YtjnplcajajdkiaaDoor.stepkit Go.Proofs.YtjnplcajajdkiaaDoor.eqkit Go.Proofs.YtjnplcajajdkiaaDoor.idkit Go.Proofs.YtjnplcajajdkiaaDoor.obj Go.Proofs.YtjnplcajajdkiaaDoor.row Go.Proofs.YtjnplcajajdkiaaDoor.mapkit Go.Proofs.YtjnplcajajdkiaaDoor.mix Go.Proofs.YtjnplcajajdkiaaDoor.lru
open Go.Proofs.YtjnplcajajdkiaaDoor.sha (Tabs wpList_putc new32 range_of)

/-- A block that is kept beside. -/
def BlkAt (J : Nat) (o : Obj) : (Nat → Prop) → World → Prop := fun G w => w.heap[J]? = some o ∧ G = fun i => i = J
theorem local_blk (J : Nat) (o : Obj) : Local (BlkAt J o) := by
  rintro G w ⟨h, rfl⟩
  exact ⟨fun i hi => by rw [hi]; exact lt_of_block h, fun w' _ hb => ⟨by rw [hb J rfl]; exact h, rfl⟩⟩

section
variable {B p q k : Nat} {w0 w : World} {E : Held} {P : List (List Int)} {F G : Nat → Prop} {C : (Nat → Prop) → World → Prop}
theorem new_d (q : Nat) (hq : q ≤ 4096) (w : World) : Calls Tryd.prog 7 #[.int .i64 (q : Int)] w fun e w' => ∃ p F, e = .returned (.tuple #[.pointer (some ⟨p, 0, none⟩), .int .i64 0]) ∧ Duo w.heap.size w (StAt p q [] []) nothing F nobody w' :=
  (new_st q hq w).mono fun e w' ⟨p, F, he, h1, h2, h3, h4⟩ => ⟨p, F, he, Duo.start h1 rfl (fun _ _ h => h) h3 (fun _ h => h.elim) (h2.below (Nat.le_refl _) (fun _ h => h.elim)) h2.size⟩
theorem put_d (h : Duo B w0 (StAt p q E P) C F G w) (hC : Local C) (ho : Ok q k E P) (hk : k ≤ 1000) (ht : Tabs w0) (hB : 1 < B ∧ 0 < B) (b : ByteArray) (hb : b.size ≤ 1000000) :
    Calls Tryd.prog 10 #[.pointer (some ⟨p, 0, none⟩), .string b] w fun e w' => e = .returned (.tuple #[.agg (idc (putI q E b)).toArray, .int .i64 (putN q E b)]) ∧ ∃ F', Duo B w0 (StAt p q (putH q E b) P) C F' G w' :=
  (put_st h.a ho hk (Duo.tabs h ht hB) b hb).mono fun e w' ⟨he, hs⟩ => ⟨he, h.left hC hs⟩
theorem use_d (h : Duo B w0 (StAt p q E P) C F G w) (hC : Local C) (id : List Int) (hid : id.length = 32) :
    Calls Tryd.prog 11 #[.pointer (some ⟨p, 0, none⟩), .agg (idc id).toArray] w fun e w' => e = .returned (.int .i64 (getI E id)) ∧ ∃ F', Duo B w0 (StAt p q (useH E id) P) C F' G w' :=
  (use_st h.a id hid).mono fun e w' ⟨he, hs⟩ => ⟨he, h.left hC hs⟩
theorem pin_d (h : Duo B w0 (StAt p q E P) C F G w) (hC : Local C) (ho : Ok q k E P) (id : List Int) (hid : id.length = 32) :
    Calls Tryd.prog 12 #[.pointer (some ⟨p, 0, none⟩), .agg (idc id).toArray] w fun e w' => e = .returned (.int .i64 (getI E id)) ∧ ∃ F', Duo B w0 (StAt p q E (pinP E P id)) C F' G w' :=
  (pin_st h.a ho id hid).mono fun e w' ⟨he, hs⟩ => ⟨he, h.left hC hs⟩
theorem drop_d (h : Duo B w0 (StAt p q E P) C F G w) (hC : Local C) (ho : Ok q k E P) (id : List Int) (hid : id.length = 32) :
    Calls Tryd.prog 18 #[.pointer (some ⟨p, 0, none⟩), .agg (idc id).toArray] w fun e w' => e = .returned (.int .i64 (getI E id)) ∧ ∃ F', Duo B w0 (StAt p q (dropH E id) (dropP E P id)) C F' G w' :=
  (drop_st h.a ho id hid).mono fun e w' ⟨he, hs⟩ => ⟨he, h.left hC hs⟩
end

def abcS : ByteArray := ⟨#[97, 98, 99]⟩
def defS : ByteArray := ⟨#[100, 101, 102]⟩
theorem sums_ne : sumB abcS ≠ sumB defS := by
  unfold sumB
  rw [show abcS.data.toList = [97, 98, 99] from rfl, show defS.data.toList = [100, 101, 102] from rfl, sha.sum_abc, sha.sum_dEf]
  decide
theorem aw1 : putI 5 [] abcS = sumB abcS ∧ putN 5 [] abcS = 0 ∧ putH 5 [] abcS = [(sumB abcS, abcS)] := by
  have h0 : checkE abcS = 0 := rfl
  have h1 : sz [] + abcS.size ≤ 5 := by decide
  refine ⟨?_, ?_, ?_⟩
  · unfold putI; rw [if_pos ⟨h0, Or.inr h1⟩]
  · unfold putN; rw [if_neg (by simp [h0]), if_pos (Or.inr h1)]
  · unfold putH; rw [if_pos ⟨h0, by simp [ids], h1⟩]; rfl
theorem aw2 : putI 5 [(sumB abcS, abcS)] defS = zid ∧ putN 5 [(sumB abcS, abcS)] defS = 14 ∧ putH 5 [(sumB abcS, abcS)] defS = [(sumB abcS, abcS)] := by
  have h0 : checkE defS = 0 := rfl
  have h1 : ¬ sz [(sumB abcS, abcS)] + defS.size ≤ 5 := by simp only [sz]; decide
  have h2 : sumB defS ∉ ids [(sumB abcS, abcS)] := by simp [ids, sums_ne.symm]
  have h3 : ¬ (sumB defS ∈ ids [(sumB abcS, abcS)] ∨ sz [(sumB abcS, abcS)] + defS.size ≤ 5) := fun h => by rcases h with h | h; exact h2 h; exact h1 h
  refine ⟨?_, ?_, ?_⟩
  · unfold putI; rw [if_neg (fun h => h3 h.2)]
  · unfold putN; rw [if_neg (by simp [h0]), if_neg h3]
  · unfold putH; rw [if_neg (fun h => h1 h.2.2)]
theorem aw3 : roomE [] 5 3 [(sumB abcS, abcS)] = 0 ∧ roomL [] 5 3 [(sumB abcS, abcS)] = [sumB abcS] := by
  have hs : sz [(sumB abcS, abcS)] = 3 := by simp only [sz]; decide
  have hl0 : left [] [(sumB abcS, abcS)] 0 = 3 := by rw [left_zero, hs]
  have hl1 : left [] [(sumB abcS, abcS)] 1 = 0 := by
    have := left_end [] [(sumB abcS, abcS)]
    simp only [List.length_singleton] at this
    rw [this]
    unfold pins
    simp [sz]
  have hg : goes [] 5 3 [(sumB abcS, abcS)] = 1 := by
    refine goes_eq (by simp) (fun j hj => ?_) (fun h => by simp at h)
    obtain rfl : j = 0 := by omega
    rw [hl0]
    decide
  have he : roomE [] 5 3 [(sumB abcS, abcS)] = 0 := by
    unfold roomE roomOk
    rw [hg, hl1]
    decide
  refine ⟨he, ?_⟩
  unfold roomL roomIds outs
  rw [if_pos he, hg]
  simp [ids]

set_option maxRecDepth 10000 in
set_option maxHeartbeats 1000000 in
theorem awake_any (w : World) (ht : Tabs w) (hB : 1 < w.heap.size ∧ 0 < w.heap.size) : Calls Tryd.prog 8 #[] w fun e w' => e = .returned (.bool true) ∧ Below w.heap.size w w' := by
  have hn := new_d 5 (by omega) w
  have o0 : Ok 5 0 [] [] := Ok.start (by omega)
  have o1 := o0.putH abcS
  rw [aw1.2.2] at o1
  have HP1 : Hid (∀ (W : World) (p : Nat) (F : Nat → Prop), Duo w.heap.size w (StAt p 5 [] []) nothing F nobody W → Calls Tryd.prog 10 #[.pointer (some ⟨p, 0, none⟩), .string ⟨#[97, 98, 99]⟩] W fun e w' => e = .returned (.tuple #[.agg (idc (sumB abcS)).toArray, .int .i64 0]) ∧ ∃ F', Duo w.heap.size w (StAt p 5 [(sumB abcS, abcS)] []) nothing F' nobody w') := Lib.hid fun W p F h => by
    have := put_d h local_nothing o0 (by omega) ht hB abcS (by decide)
    rw [aw1.1, aw1.2.1, aw1.2.2] at this
    exact this
  have HP2 : Hid (∀ (W : World) (p J : Nat) (o : Obj) (F G : Nat → Prop), Duo w.heap.size w (StAt p 5 [(sumB abcS, abcS)] []) (BlkAt J o) F G W → Calls Tryd.prog 10 #[.pointer (some ⟨p, 0, none⟩), .string ⟨#[100, 101, 102]⟩] W fun e w' => e = .returned (.tuple #[.agg (idc zid).toArray, .int .i64 14]) ∧ ∃ F', Duo w.heap.size w (StAt p 5 [(sumB abcS, abcS)] []) (BlkAt J o) F' G w') := Lib.hid fun W p J o F G h => by
    have := put_d h (local_blk J o) o1 (by omega) ht hB defS (by decide)
    rw [aw2.1, aw2.2.1, aw2.2.2] at this
    exact this
  have HP3 : Hid (∀ (W : World) (p J : Nat) (o : Obj) (F G : Nat → Prop), Duo w.heap.size w (StAt p 5 [(sumB abcS, abcS)] []) (BlkAt J o) F G W → Calls Tryd.prog 14 #[.pointer (some ⟨p, 0, none⟩), .int .i64 3] W fun e w' => ∃ v, e = .returned (.tuple #[v, .int .i64 0]) ∧ ISl w' v [sumB abcS] ∧ (∀ j, blk v j → W.heap.size ≤ j) ∧ Turns nobody W w') := Lib.hid fun W p J o F G h => by
    have := room_st h.a o1 (by omega) 3
    rw [aw3.1, aw3.2] at this
    exact this
  have hcl := sumB_len abcS
  have hw1 : Wh [sumB abcS] := fun y hy => by rw [List.mem_singleton.1 hy]; exact hcl
  generalize sumB abcS = c at *
  generalize abcS = ab at *
  have NC := Lib.hid (zid_size c hcl)
  have SC := Lib.hid (sizeId hcl)
  have NZ := Lib.hid (zid_size zid zid_len)
  have SZ := Lib.hid (sizeId zid_len)
  clear o0 o1 ht
  generalize zid = z0 at *
  go_enter Tryd.func8, Tryd.ntmps8
  go_upto_region 2 with (go_at_call 7; refine hn.mono ?_; rintro e w1 ⟨p, F1, rfl, h1⟩; have H1 := Lib.hid h1; clear h1 hn)
  go_upto_region 3 with first
    | (go_at_call 10; refine (HP1.out _ _ _ H1.out).mono ?_; rintro e w2 ⟨rfl, F2, h2⟩; have H2 := Lib.hid h2; have HN2 := Lib.hid (new32 w2); clear h2)
    | (refine wpList_putc rfl _ _ _ rfl (idc c) HN2.out NC.out (idc_one _) rfl rfl SC.out ?_; intro w3 t3 a3 z3)
  obtain ⟨J, hJ⟩ : ∃ J, w2.heap.size = J := ⟨_, rfl⟩
  rw [hJ] at t3 a3 ⊢
  have H3 := Lib.hid (Duo.beside H2.out (local_st _ _ _ _) (((Turns.refl nobody w2).alloc _).trans t3 (fun i hi => Or.inr (by omega))) (show BlkAt J _ _ w3 from ⟨a3, rfl⟩) (fun i hi => by omega))
  clear t3 a3 z3 hJ
  go_upto_region 4 with first
    | (go_at_call 10; refine (HP2.out _ _ _ _ _ _ H3.out).mono ?_; rintro e w4 ⟨rfl, F4, h4⟩; have H4 := Lib.hid h4; have HN4 := Lib.hid (new32 w4); clear h4)
    | (refine wpList_putc rfl _ _ _ rfl (idc z0) HN4.out NZ.out (idc_one _) rfl rfl SZ.out ?_; intro w5 t5 a5 z5)
  have H5 := Lib.hid (H4.out.still (local_st _ _ _ _) (local_blk _ _) (((Turns.refl nobody w4).alloc _).trans t5 (fun i hi => Or.inr (by omega))))
  clear t5 a5 z5
  go_upto_region 5 with (go_at_call 14; refine (HP3.out _ _ _ _ _ _ H5.out).mono ?_; rintro e w6 ⟨v6, rfl, s6, n6, t6⟩; have H6 := Lib.hid (H5.out.still (local_st _ _ _ _) (local_blk _ _) t6); have HS6 := Lib.hid s6; clear s6 n6 t6)
  obtain ⟨g6, o6, cap6, rfl, _⟩ := (show Sl _ _ _ _ _ _ from HS6.out).some_of_pos (by simp)
  have R1 : Hid (∀ W, Turns nobody w6 W → W.rangeAt g6 o6 (idc c)) := Lib.hid fun W ht => by
    have := ISl.range hw1 (Sl.keep HS6.out ht (fun _ _ h => h)) 0 (by simp)
    simpa using this
  have R2 : Hid (∀ W, Turns nobody w6 W → W.rangeAt J 0 (idc c)) := Lib.hid fun W ht => range_of (heap_newer H6.out.c.1 ht (fun h => h))
  refine wp_region_mix [(0, true, true), (1, true, true), (2, true, true), (3, true, true), (4, true, true), (5, true, true), (6, true, true), (7, true, true), (8, true, true), (9, true, true), (10, true, true), (11, true, true), (12, true, true), (13, true, true), (14, true, true), (15, true, true), (16, true, true), (17, true, true), (18, true, true), (19, true, true), (20, true, true), (21, true, true), (22, true, true), (23, true, true), (24, true, true), (25, true, true), (26, true, true)] (fun W => Turns nobody w6 W) (by kernel_rfl) (by kernel_rfl) ((Turns.refl nobody w6).drew) ?_
  simp only [picked, List.filterMap_cons, List.filterMap_nil, List.getElem?_toArray, List.getElem?_cons_zero, List.getElem?_cons_succ, Option.map_some]
  iterate 22 (refine mix_free (v := ?_) rfl ?_ ?_; rotate_left; (focus (intro w' hI; go_simp; try with_reducible rfl)); simp only [Act.put, List.setIfInBounds_toArray, List.set_cons_zero, List.set_cons_succ])
  refine mix_free (v := .agg (idc c).toArray) rfl (fun w' hI => exec_load_mid _ _ rfl _ _ rfl (idc c) _ (R1.out _ hI) Tryd.underlying31 rfl SC.out) ?_
  simp only [Act.put, List.setIfInBounds_toArray, List.set_cons_zero, List.set_cons_succ]
  refine mix_free (v := .agg (idc c).toArray) rfl (fun w' hI => exec_load_mid _ _ rfl _ _ rfl (idc c) _ (R2.out _ hI) Tryd.underlying31 rfl SC.out) ?_
  simp only [Act.put, List.setIfInBounds_toArray, List.set_cons_zero, List.set_cons_succ]
  refine mix_free (v := .bool true) rfl (fun w' hI => exec_eq _ _ _ rfl c c rfl rfl hcl hcl (decide_eq_true rfl)) ?_
  simp only [Act.put, List.setIfInBounds_toArray, List.set_cons_zero, List.set_cons_succ]
  repeat (refine mix_free (v := ?_) rfl ?_ ?_; rotate_left; (focus (intro w' hI; go_simp; try with_reducible rfl)); simp only [Act.put, List.setIfInBounds_toArray, List.set_cons_zero, List.set_cons_succ])
  refine mix_nil ?_
  go_wp2
  go_ret
  exact ⟨rfl, (H6.out.still (local_st _ _ _ _) (local_blk _ _) (Turns.refl nobody w6).drew).below⟩

end Go.Proofs.YtjnplcajajdkiaaDoor.store
