/- Package vault: of, load, New, Use, Size, Files, Append, Sync, Crash, lay, Snap, Die, Load; vaults that nobody made; awake. -/
import Derived.Test.YtlhcmgjkhkcgcaaDoorVaultBase
import Derived.Test.YtlhcmgjkhkcgcaaDoorMix3
import Derived.Recover
import Derived.Laws.Pointers
namespace Go.Proofs.YtlhcmgjkhkcgcaaDoor.vault
open Go.RowKit
open Go.Proofs.YtlhcmgjkhkcgcaaDoor.stepkit Go.Proofs.YtlhcmgjkhkcgcaaDoor.obj Go.Proofs.YtlhcmgjkhkcgcaaDoor.row Go.Proofs.YtlhcmgjkhkcgcaaDoor.mix Go.Proofs.YtlhcmgjkhkcgcaaDoor.idkit Go.Proofs.YtlhcmgjkhkcgcaaDoor.bytes Go.Proofs.YtlhcmgjkhkcgcaaDoor.octet Go.Proofs.YtlhcmgjkhkcgcaaDoor.eqkit Go.Proofs.YtlhcmgjkhkcgcaaDoor.record Go.Proofs.YtlhcmgjkhkcgcaaDoor.argkit
open Go.Proofs.YtlhcmgjkhkcgcaaDoor.journal (JAt two NoBytes turns_one block_keep block_still block_lt at_store)
open Go.Proofs.YtlhcmgjkhkcgcaaDoor.block (BlockAt keepOf keepOf_le keepOf_ge)

/-! ### The table lies below -/
structure TabB (B : Nat) (w : World) : Prop where
  t : crc.TabAt w
  lt : 0 < B
theorem TabB.ts {ok : TypeId → Prop} {B : Nat} {w w' : World} (h : TabB B w) (ht : TS ok B w w') : TabB B w' := by
  obtain ⟨F, h1, h2⟩ := ht.out
  exact ⟨Tab.turns h.t h1 (fun hf => by have := (h2 _ hf).1; have := h.lt; omega), h.lt⟩
theorem TabB.still {B : Nat} {w w' : World} (h : TabB B w) (ht : Turns nobody w w') : TabB B w' := ⟨Tab.turns h.t ht (fun h => h), h.lt⟩
theorem TS.setV {B : Nat} {w : World} {V : Nat} {cur : Array Value} (h : w.heap[V]? = some (.cells cur 110 (0, 0))) (hB : B ≤ V) (k : Nat) (v : Value) : TS okV B w (w.setCell ⟨V, k, none⟩ v) :=
  TS.one (Turns.set _ _ _ _) hB h (Or.inl rfl)
theorem not_okV_str : ¬ okV 9 := by unfold okV; decide
theorem not_okV_rec : ¬ okV 23 := by unfold okV; decide
/-- A file stays when a vault's cell is turned. -/
theorem BlockAt.setV {w : World} {V q : Nat} {cur : Array Value} {l : List UInt8} {sb : Nat} (hb : BlockAt w q l sb) (h : w.heap[V]? = some (.cells cur 110 (0, 0))) (k : Nat) (v : Value) : BlockAt (w.setCell ⟨V, k, none⟩ v) q l sb := by
  refine block_keep hb (Turns.set w V k v) (fun e => ?_) (fun i hi c hc => ?_)
  · obtain ⟨_, u, h2, _⟩ := hb
    have e : q = V := e
    rw [e, h] at h2
    simp at h2
  · have e : i = V := hi
    rw [e, h] at hc
    simp at hc
theorem JAt.setV {w : World} {V p q : Nat} {cur : Array Value} {l : List UInt8} {sb n sn : Nat} (hj : JAt w p q l sb n sn) (h : w.heap[V]? = some (.cells cur 110 (0, 0))) (k : Nat) (v : Value) : JAt (w.setCell ⟨V, k, none⟩ v) p q l sb n sn := by
  refine ⟨heap_newer hj.h (Turns.set w V k v) (fun e => ?_), BlockAt.setV hj.b h k v⟩
  have e : p = V := e
  have h2 := hj.h
  rw [e, h] at h2
  simp at h2

/-! ### of -/
theorem build_v0 (W : World) : (Instr.build 110 #[]).run Tryd.prog W = .ok (.agg #[.pointer none, .pointer none, .pointer none, .pointer none, .int .i64 0, .int .i64 0]) W := by kernel_rfl
theorem build_two (a b : ByteArray) (W : World) : (Instr.build 162 #[(0, .string a), (1, .string b)]).run Tryd.prog W = .ok (.agg #[.string a, .string b]) W := by kernel_rfl
theorem index_two0 (a b : ByteArray) (W : World) : (Instr.index 162 (.agg #[.string a, .string b]) (.int .i64 0)).run Tryd.prog W = .ok (.string a) W := by kernel_rfl
theorem index_two1 (a b : ByteArray) (W : World) : (Instr.index 162 (.agg #[.string a, .string b]) (.int .i64 1)).run Tryd.prog W = .ok (.string b) W := by kernel_rfl
theorem index_blk0 (a b : Option Addr) (W : World) : (Instr.index 107 (.agg #[.pointer a, .pointer b]) (.int .i64 0)).run Tryd.prog W = .ok (.pointer a) W := by kernel_rfl
theorem index_blk1 (a b : Option Addr) (W : World) : (Instr.index 107 (.agg #[.pointer a, .pointer b]) (.int .i64 1)).run Tryd.prog W = .ok (.pointer b) W := by kernel_rfl
/-- A new vault's files, so far. -/
structure O0 (w : World) (V : Nat) (W : World) : Prop where
  h : W.heap[V]? = some (.cells #[.pointer none, .pointer none, .pointer none, .pointer none, .int .i64 0, .int .i64 0] 110 (0, 0))
  t : Turns nobody w W
  v : w.heap.size ≤ V
structure O1 (w : World) (V : Nat) (a : ByteArray) (q0 : Nat) (W : World) : Prop where
  h : W.heap[V]? = some (.cells #[.pointer (some ⟨q0, 0, none⟩), .pointer none, .pointer none, .pointer none, .int .i64 0, .int .i64 0] 110 (0, 0))
  b0 : BlockAt W q0 a.data.toList a.size
  t : Turns nobody w W
  v : w.heap.size ≤ V
  n0 : w.heap.size ≤ q0
structure O2 (w : World) (V : Nat) (a b : ByteArray) (q0 q1 : Nat) (W : World) : Prop where
  h : W.heap[V]? = some (.cells #[.pointer (some ⟨q0, 0, none⟩), .pointer (some ⟨q1, 0, none⟩), .pointer none, .pointer none, .int .i64 0, .int .i64 0] 110 (0, 0))
  b0 : BlockAt W q0 a.data.toList a.size
  b1 : BlockAt W q1 b.data.toList b.size
  t : Turns nobody w W
  v : w.heap.size ≤ V
  n0 : w.heap.size ≤ q0
  n1 : w.heap.size ≤ q1
  ne : q0 ≠ q1
def OI (w : World) (V : Nat) (a b : ByteArray) (i : Value) (W : World) : Prop := (i = .int .i64 0 ∧ O0 w V W) ∨ (∃ q0, i = .int .i64 1 ∧ O1 w V a q0 W) ∨ (∃ q0 q1, i = .int .i64 2 ∧ O2 w V a b q0 q1 W)
set_option maxRecDepth 10000 in
set_option maxHeartbeats 2000000 in
theorem of_any (a b : ByteArray) (w : World) (ha : a.size ≤ 16777216) (hb : b.size ≤ 16777216) :
    Calls Tryd.prog 83 #[.string a, .string b] w fun e w' => ∃ V q0 q1, e = .returned (.pointer (some ⟨V, 0, none⟩)) ∧ O2 w V a b q0 q1 w' := by
  have hb0 := build_v0
  have hb2 := build_two a b
  have hix0 := index_two0 a b
  have hix1 := index_two1 a b
  have HSZ := Lib.hid (And.intro ha hb)
  obtain ⟨V, hV⟩ : ∃ V, w.heap.size = V := ⟨_, rfl⟩
  obtain ⟨w1, hw1⟩ : ∃ w1, w1 = w.alloc (.cells #[.pointer none, .pointer none, .pointer none, .pointer none, .int .i64 0, .int .i64 0] 110) := ⟨_, rfl⟩
  have hO : O0 w V w1 := ⟨by rw [hw1, ← hV]; exact heap_alloc_new w _, by rw [hw1]; exact (Turns.refl _ _).alloc _, by omega⟩
  have HO := Lib.hid hO
  have HW1 := Lib.hid hw1
  clear hw1 hO ha hb
  go_enter Tryd.func83, Tryd.ntmps83
  go_upto_region 3 with fail
  rw [← HW1.out]
  clear hV
  go_loopw [13] (fun i wr => OI w V a b i wr) (fun i _ => 2 - (intOf i).toNat)
  case atStart => exact Or.inl ⟨rfl, HO.out⟩
  case round =>
    rcases hrel with ⟨rfl, ho⟩ | ⟨q0, rfl, ho⟩ | ⟨q0, q1, rfl, ho⟩
    · have HO1 := Lib.hid ho
      clear ho
      go_upto_region 5 with fail
      refine wp_region_mix [(0, true, true), (1, true, true), (3, true, true), (4, true, true), (2, false, true), (5, true, true), (6, false, false)] (fun W => W.heap[V]? = some (.cells #[.pointer none, .pointer none, .pointer none, .pointer none, .int .i64 0, .int .i64 0] 110 (0, 0))) (by kernel_rfl) (by kernel_rfl) (HO1.out.h) ?_
      obtain ⟨Q, hQ⟩ : ∃ Q, wr.drew.heap.size = Q := ⟨_, rfl⟩
      obtain ⟨Wn, hWn⟩ : ∃ Wn, Wn = wr.drew.alloc (.cells #[.slice none 0 0, .int .i64 0, .bool true] 79) := ⟨_, rfl⟩
      have hnew := block.new_at hWn
      rw [hQ] at hnew
      have tnew : Turns nobody wr Wn := by rw [hWn]; exact (Turns.refl _ _).drew.alloc _
      have hVn : Wn.heap[V]? = some (.cells #[.pointer none, .pointer none, .pointer none, .pointer none, .int .i64 0, .int .i64 0] 110 (0, 0)) := heap_newer HO1.out.h tnew (fun h => h)
      obtain ⟨W2, hW2⟩ : ∃ W2, W2 = Wn.setCell ⟨V, 0, none⟩ (.pointer (some ⟨Q, 0, none⟩)) := ⟨_, rfl⟩
      have hV2 : W2.heap[V]? = some (.cells #[.pointer (some ⟨Q, 0, none⟩), .pointer none, .pointer none, .pointer none, .int .i64 0, .int .i64 0] 110 (0, 0)) := by rw [hW2]; exact heap_setCell_at hVn 0 _
      have hQ2 : BlockAt W2 Q [] 0 := by rw [hW2]; exact BlockAt.setV hnew.1 hVn 0 _
      have t2 : Turns nobody w W2 := by rw [hW2]; exact (HO1.out.t.trans tnew (fun _ h => h.elim)).trans2 (Turns.set _ _ _ _) (fun i hi => by rw [show i = V from hi]; exact HO1.out.v)
      have hQw : w.heap.size ≤ Q := by rw [← hQ]; exact HO1.out.t.size
      have HWN := Lib.hid (And.intro hWn (And.intro hVn hW2))
      have HV2 := Lib.hid hV2
      have HQ2 := Lib.hid hQ2
      have HT2 := Lib.hid t2
      have HQW := Lib.hid hQw
      have hnw := block.new_any wr.drew
      rw [hQ] at hnw
      have c0 := cells_of hVn 0 _ rfl
      have f0 := free_of hVn 0
      clear hWn hnew tnew hVn hV2 hQ2 t2 hQw hW2 hQ 
      simp only [picked, List.filterMap_cons, List.filterMap_nil, List.getElem?_toArray, List.getElem?_cons_zero, List.getElem?_cons_succ, Option.map_some]
      repeat (refine mix_free (v := ?_) rfl ?_ ?_; rotate_left; (focus (intro w' hI; go_simp; try with_reducible rfl)); simp only [Act.put, List.setIfInBounds_toArray, List.set_cons_zero, List.set_cons_succ])
      refine mix_big rfl (fun K hK => ?_)
      go_wp2_with (go_at_call 27; refine hnw.mono ?_; rintro e w7 ⟨rfl, hw7⟩; rw [← HWN.out.1] at hw7; subst hw7)
      refine hK _ _ (fun _ => HWN.out.2.1) ?_
      clear hK K
      repeat (refine mix_free (v := ?_) rfl ?_ ?_; rotate_left; (focus (intro w' hI; go_simp; try with_reducible rfl)); simp only [Act.put, List.setIfInBounds_toArray, List.set_cons_zero, List.set_cons_succ])
      refine mix_big rfl (fun K hK => ?_)
      go_wp2
      rw [← HWN.out.2.2]
      refine hK _ _ (by simp) ?_
      clear hK K c0 f0 hnw
      refine mix_nil ?_
      have c0 := cells_of HV2.out 0 _ rfl
      have hwr := block.write_any Q [] 0 a W2 HQ2.out (by have := HSZ.out; simp; omega)
      rw [List.nil_append] at hwr
      go_upto_region 7 with (go_at_call 33; refine hwr.mono ?_; rintro e w3 ⟨rfl, b3, g3⟩; have HB3 := Lib.hid b3; have HT3 := Lib.hid (turns_one g3); clear b3 g3)
      clear c0 hwr
      have hVQ : V ≠ Q := by
        rintro rfl
        obtain ⟨_, u, h2, _⟩ := HQ2.out
        rw [HV2.out] at h2
        simp at h2
      have hV3 := heap_newer HV2.out HT3.out hVQ
      have c0 := cells_of hV3 0 _ rfl
      have hsy := block.sync_any Q a.data.toList 0 w3 HB3.out (by rw [str_len]; have := HSZ.out; omega)
      rw [str_len] at hsy
      have HV3 := Lib.hid hV3
      have HVQ := Lib.hid hVQ
      clear hV3 hVQ
      go_wp2_with (go_at_call 78; refine hsy.mono ?_; rintro e w4 ⟨rfl, b4, g4⟩; have HB4 := Lib.hid b4; have HT4 := Lib.hid (turns_one g4); clear b4 g4)
      go_roundw
      case rel =>
        have hV4 := heap_newer HV3.out HT4.out HVQ.out
        have t4 := (HT2.out.trans2 HT3.out (fun i hi => by rw [hi]; exact HQW.out)).trans2 HT4.out (fun i hi => by rw [hi]; exact HQW.out)
        exact Or.inr (Or.inl ⟨Q, rfl, hV4, HB4.out, t4, HO1.out.v, HQW.out⟩)
      case measure => simp [intOf]
    · have HO1 := Lib.hid ho
      clear ho
      go_upto_region 5 with fail
      refine wp_region_mix [(0, true, true), (1, true, true), (3, true, true), (4, true, true), (2, false, true), (5, true, true), (6, false, false)] (fun W => W.heap[V]? = some (.cells #[.pointer (some ⟨q0, 0, none⟩), .pointer none, .pointer none, .pointer none, .int .i64 0, .int .i64 0] 110 (0, 0))) (by kernel_rfl) (by kernel_rfl) (HO1.out.h) ?_
      obtain ⟨Q, hQ⟩ : ∃ Q, wr.drew.heap.size = Q := ⟨_, rfl⟩
      obtain ⟨Wn, hWn⟩ : ∃ Wn, Wn = wr.drew.alloc (.cells #[.slice none 0 0, .int .i64 0, .bool true] 79) := ⟨_, rfl⟩
      have hnew := block.new_at hWn
      rw [hQ] at hnew
      have tnew : Turns nobody wr Wn := by rw [hWn]; exact (Turns.refl _ _).drew.alloc _
      have hVn : Wn.heap[V]? = some (.cells #[.pointer (some ⟨q0, 0, none⟩), .pointer none, .pointer none, .pointer none, .int .i64 0, .int .i64 0] 110 (0, 0)) := heap_newer HO1.out.h tnew (fun h => h)
      obtain ⟨W2, hW2⟩ : ∃ W2, W2 = Wn.setCell ⟨V, 1, none⟩ (.pointer (some ⟨Q, 0, none⟩)) := ⟨_, rfl⟩
      have hV2 : W2.heap[V]? = some (.cells #[.pointer (some ⟨q0, 0, none⟩), .pointer (some ⟨Q, 0, none⟩), .pointer none, .pointer none, .int .i64 0, .int .i64 0] 110 (0, 0)) := by rw [hW2]; exact heap_setCell_at hVn 1 _
      have hQ2 : BlockAt W2 Q [] 0 := by rw [hW2]; exact BlockAt.setV hnew.1 hVn 1 _
      have t2 : Turns nobody w W2 := by rw [hW2]; exact (HO1.out.t.trans tnew (fun _ h => h.elim)).trans2 (Turns.set _ _ _ _) (fun i hi => by rw [show i = V from hi]; exact HO1.out.v)
      have hQw : w.heap.size ≤ Q := by rw [← hQ]; exact HO1.out.t.size
      have hB2 : BlockAt W2 q0 a.data.toList a.size := by rw [hW2]; exact BlockAt.setV (block_still HO1.out.b0 tnew) hVn 1 _
      have HB2 := Lib.hid hB2
      have hqq : q0 ≠ Q := by have := block_lt HO1.out.b0; rw [← hQ]; show q0 ≠ wr.heap.size; omega
      have HQQ := Lib.hid hqq
      have HWN := Lib.hid (And.intro hWn (And.intro hVn hW2))
      have HV2 := Lib.hid hV2
      have HQ2 := Lib.hid hQ2
      have HT2 := Lib.hid t2
      have HQW := Lib.hid hQw
      have hnw := block.new_any wr.drew
      rw [hQ] at hnw
      have c0 := cells_of hVn 1 _ rfl
      have f0 := free_of hVn 1
      clear hWn hnew tnew hVn hV2 hQ2 t2 hQw hW2 hQ hB2 hqq
      simp only [picked, List.filterMap_cons, List.filterMap_nil, List.getElem?_toArray, List.getElem?_cons_zero, List.getElem?_cons_succ, Option.map_some]
      repeat (refine mix_free (v := ?_) rfl ?_ ?_; rotate_left; (focus (intro w' hI; go_simp; try with_reducible rfl)); simp only [Act.put, List.setIfInBounds_toArray, List.set_cons_zero, List.set_cons_succ])
      refine mix_big rfl (fun K hK => ?_)
      go_wp2_with (go_at_call 27; refine hnw.mono ?_; rintro e w7 ⟨rfl, hw7⟩; rw [← HWN.out.1] at hw7; subst hw7)
      refine hK _ _ (fun _ => HWN.out.2.1) ?_
      clear hK K
      repeat (refine mix_free (v := ?_) rfl ?_ ?_; rotate_left; (focus (intro w' hI; go_simp; try with_reducible rfl)); simp only [Act.put, List.setIfInBounds_toArray, List.set_cons_zero, List.set_cons_succ])
      refine mix_big rfl (fun K hK => ?_)
      go_wp2
      rw [← HWN.out.2.2]
      refine hK _ _ (by simp) ?_
      clear hK K c0 f0 hnw
      refine mix_nil ?_
      have c0 := cells_of HV2.out 1 _ rfl
      have hwr := block.write_any Q [] 0 b W2 HQ2.out (by have := HSZ.out; simp; omega)
      rw [List.nil_append] at hwr
      go_upto_region 7 with (go_at_call 33; refine hwr.mono ?_; rintro e w3 ⟨rfl, b3, g3⟩; have HB3 := Lib.hid b3; have HT3 := Lib.hid (turns_one g3); clear b3 g3)
      clear c0 hwr
      have hVQ : V ≠ Q := by
        rintro rfl
        obtain ⟨_, u, h2, _⟩ := HQ2.out
        rw [HV2.out] at h2
        simp at h2
      have hV3 := heap_newer HV2.out HT3.out hVQ
      have c0 := cells_of hV3 1 _ rfl
      have hsy := block.sync_any Q b.data.toList 0 w3 HB3.out (by rw [str_len]; have := HSZ.out; omega)
      rw [str_len] at hsy
      have HV3 := Lib.hid hV3
      have HVQ := Lib.hid hVQ
      clear hV3 hVQ
      go_wp2_with (go_at_call 78; refine hsy.mono ?_; rintro e w4 ⟨rfl, b4, g4⟩; have HB4 := Lib.hid b4; have HT4 := Lib.hid (turns_one g4); clear b4 g4)
      go_roundw
      case rel =>
        have hV4 := heap_newer HV3.out HT4.out HVQ.out
        have t4 := (HT2.out.trans2 HT3.out (fun i hi => by rw [hi]; exact HQW.out)).trans2 HT4.out (fun i hi => by rw [hi]; exact HQW.out)
        exact Or.inr (Or.inr ⟨q0, Q, rfl, hV4, block_keep (block_keep HB2.out HT3.out HQQ.out (fun i hi cur hc => by rw [hi] at hc; obtain ⟨_, u, h2, _⟩ := HQ2.out; rw [h2] at hc; simp at hc)) HT4.out HQQ.out (fun i hi cur hc => by rw [hi] at hc; obtain ⟨_, u, h2, _⟩ := HB3.out; rw [h2] at hc; simp at hc), HB4.out, t4, HO1.out.v, HO1.out.n0, HQW.out, HQQ.out⟩)
      case measure => simp [intOf]
    · have HO1 := Lib.hid ho
      clear ho
      go_wp2
      go_ret
      exact ⟨V, q0, q1, rfl, HO1.out⟩

/-! ### load -/
def useOf (a b : Int) (u : Nat) : Nat := if pick a b = 2 then u else pick a b
def noOf (a b : Int) (no : Nat) : Nat := if pick a b = 0 then a.toNat else if pick a b = 1 then b.toNat else no
def loadT (L0 L1 : List RV) : List ByteArray := if pick (numOf L0) (numOf L1) = 0 then heldOf L0 else if pick (numOf L0) (numOf L1) = 1 then heldOf L1 else []
theorem pick_lt {a b : Int} (ha : -1 ≤ a) (h : a < b) : pick a b = 1 := by unfold pick; split <;> (try split) <;> omega
theorem pick_ge {a b : Int} (h1 : -1 < a) (h : ¬ a < b) : pick a b = 0 := by unfold pick; rw [if_pos h1, if_neg h]
theorem pick_no {a b : Int} (h1 : ¬ -1 < a) (h : ¬ a < b) (ha : -1 ≤ a) : pick a b = 2 := by unfold pick; rw [if_neg h1, if_neg (by omega)]
theorem open_cat {W : World} {P q k E : Nat} {l : List UInt8} (hD : Done ⟨l.toArray⟩ k E) (hj : JAt W P q (l.take (pos ⟨l.toArray⟩ k)) (pos ⟨l.toArray⟩ k) k k) : JAt W P q (cat (recs ⟨l.toArray⟩ k)) (cat (recs ⟨l.toArray⟩ k)).length (recs ⟨l.toArray⟩ k).length (recs ⟨l.toArray⟩ k).length := by
  have h1 := done_all hD
  have h2 := journal.pos_le hD.1
  have h3 : (⟨l.toArray⟩ : ByteArray).size = l.length := by show l.toArray.size = _; simp
  simp only [List.toList_toArray] at h1
  have h4 : (cat (recs ⟨l.toArray⟩ k)).length = pos ⟨l.toArray⟩ k := by rw [← h1, List.length_take]; omega
  rw [h4, recs_len, ← h1]
  exact hj
theorem fits0 {s : ByteArray} {k E : Nat} (hD : Done s k E) : (r0 (recs s k)).2.size ≤ 16777216 := by
  rcases Nat.eq_zero_or_pos k with rfl | h
  · show (0 : Nat) ≤ _; omega
  · have := done_fits hD.1 0 h
    unfold r0; omega
theorem len0 {l : List UInt8} {k E : Nat} (hD : Done ⟨l.toArray⟩ k E) (hl : l.length ≤ 16777216) : (recs ⟨l.toArray⟩ k).length ≤ 16777216 := by
  have h1 := Ok.bound hD.1
  have h3 : (⟨l.toArray⟩ : ByteArray).size = l.length := by show l.toArray.size = _; simp
  rw [recs_len]; omega
/-- Behind the first file. -/
structure S1 (w : World) (B V q0 q1 : Nat) (x3 : Value) (u no : Nat) (l1 : List UInt8) (sb1 : Nat) (L0 : List RV) (p0 : Nat) (out : Value) (W : World) : Prop where
  h : W.heap[V]? = some (.cells #[.pointer (some ⟨q0, 0, none⟩), .pointer (some ⟨q1, 0, none⟩), .pointer (some ⟨p0, 0, none⟩), x3, .int .i64 ((if -1 < numOf L0 then 0 else u : Nat) : Int), .int .i64 ((if -1 < numOf L0 then (numOf L0).toNat else no : Nat) : Int)] 110 (0, 0))
  j0 : JAt W p0 q0 (cat L0) (cat L0).length L0.length L0.length
  b1 : BlockAt W q1 l1 sb1
  s : TSl W out (if -1 < numOf L0 then heldOf L0 else [])
  n : ∀ i, blk out i → w.heap.size ≤ i
  ts : TS okV B w W
  bp : B ≤ p0
/-- Behind both. -/
structure S2 (w : World) (B V q0 q1 : Nat) (u no : Nat) (L0 L1 : List RV) (p0 p1 : Nat) (out : Value) (W : World) : Prop where
  h : W.heap[V]? = some (.cells #[.pointer (some ⟨q0, 0, none⟩), .pointer (some ⟨q1, 0, none⟩), .pointer (some ⟨p0, 0, none⟩), .pointer (some ⟨p1, 0, none⟩), .int .i64 (useOf (numOf L0) (numOf L1) u : Nat), .int .i64 (noOf (numOf L0) (numOf L1) no : Nat)] 110 (0, 0))
  j0 : JAt W p0 q0 (cat L0) (cat L0).length L0.length L0.length
  j1 : JAt W p1 q1 (cat L1) (cat L1).length L1.length L1.length
  s : TSl W out (loadT L0 L1)
  n : ∀ i, blk out i → w.heap.size ≤ i
  ts : TS okV B w W
  bp0 : B ≤ p0
  bp1 : B ≤ p1
def LI (w : World) (B V q0 q1 : Nat) (x3 : Value) (u no : Nat) (l0 l1 : List UInt8) (sb1 : Nat) (best out i : Value) (W : World) : Prop :=
  (i = .int .i64 0 ∧ best = .int .i64 (-1) ∧ out = .slice none 0 0 ∧ W = w) ∨
  (∃ k0 E0 p0, i = .int .i64 1 ∧ Done ⟨l0.toArray⟩ k0 E0 ∧ best = .int .i64 (numOf (recs ⟨l0.toArray⟩ k0)) ∧ S1 w B V q0 q1 x3 u no l1 sb1 (recs ⟨l0.toArray⟩ k0) p0 out W) ∨
  (∃ k0 E0 p0 k1 E1 p1, i = .int .i64 2 ∧ Done ⟨l0.toArray⟩ k0 E0 ∧ Done ⟨l1.toArray⟩ k1 E1 ∧ (∃ m, best = .int .i64 m ∧ ((m == -1) = decide (pick (numOf (recs ⟨l0.toArray⟩ k0)) (numOf (recs ⟨l1.toArray⟩ k1)) = 2))) ∧ S2 w B V q0 q1 u no (recs ⟨l0.toArray⟩ k0) (recs ⟨l1.toArray⟩ k1) p0 p1 out W)
theorem v_ne_q {w : World} {V q : Nat} {cur : Array Value} {l : List UInt8} {sb : Nat} (h : w.heap[V]? = some (.cells cur 110 (0, 0))) (hb : BlockAt w q l sb) : V ≠ q := by
  rintro rfl
  obtain ⟨_, u, h2, _⟩ := hb
  rw [h] at h2
  simp at h2
theorem nobytes_block {w : World} {q : Nat} {l : List UInt8} {sb : Nat} (hb : BlockAt w q l sb) : NoBytes w (fun i => i = q) := by
  rintro i rfl cur hc
  obtain ⟨_, u, h2, _⟩ := hb
  rw [h2] at hc
  simp at hc
set_option maxRecDepth 10000 in
set_option maxHeartbeats 4000000 in
theorem load_any (B V q0 q1 : Nat) (x2 x3 : Value) (u no : Nat) (l0 : List UInt8) (sb0 : Nat) (l1 : List UInt8) (sb1 : Nat) (w : World) (h : w.heap[V]? = some (.cells #[.pointer (some ⟨q0, 0, none⟩), .pointer (some ⟨q1, 0, none⟩), x2, x3, .int .i64 (u : Int), .int .i64 (no : Int)] 110 (0, 0)))
    (h0 : BlockAt w q0 l0 sb0) (h1 : BlockAt w q1 l1 sb1) (hz0 : l0.length ≤ 16777216) (hz1 : l1.length ≤ 16777216) (hne : q0 ≠ q1) (hV : B ≤ V) (hq0 : B ≤ q0) (hq1 : B ≤ q1) (hB : B ≤ w.heap.size) (ht : TabB B w) :
    Calls Tryd.prog 84 #[.pointer (some ⟨V, 0, none⟩)] w fun e w' => ∃ k0 E0 p0 k1 E1 p1 v, Done ⟨l0.toArray⟩ k0 E0 ∧ Done ⟨l1.toArray⟩ k1 E1 ∧ e = .returned (.tuple #[v, .bool (decide (¬ pick (numOf (recs ⟨l0.toArray⟩ k0)) (numOf (recs ⟨l1.toArray⟩ k1)) = 2))]) ∧ S2 w B V q0 q1 u no (recs ⟨l0.toArray⟩ k0) (recs ⟨l1.toArray⟩ k1) p0 p1 v w' := by
  have hix0 := index_blk0 (some ⟨q0, 0, none⟩) (some ⟨q1, 0, none⟩)
  have hix1 := index_blk1 (some ⟨q0, 0, none⟩) (some ⟨q1, 0, none⟩)
  have HH := Lib.hid h
  have HBS := Lib.hid (And.intro h0 h1)
  have HZ := Lib.hid (And.intro hz0 hz1)
  have HN := Lib.hid (And.intro hne (And.intro hV (And.intro hq0 (And.intro hq1 hB))))
  have HTB := Lib.hid ht
  have c0 := cells_of h 0 _ rfl
  have c1 := cells_of h 1 _ rfl
  clear h h0 h1 hz0 hz1 hne hV hq0 hq1 hB ht
  go_enter Tryd.func84, Tryd.ntmps84
  go_upto_region 4 with fail
  clear c0 c1
  go_loopw [4, 5, 15] (fun best out i wr => LI w B V q0 q1 x3 u no l0 l1 sb1 best out i wr) (fun best out i _ => 2 - (intOf i).toNat)
  case atStart => exact Or.inl ⟨rfl, rfl, rfl, rfl⟩
  case round =>
    rcases hrel with ⟨rfl, rfl, rfl, hw⟩ | ⟨k0, E0, p0, rfl, hD0, rfl, ho⟩ | ⟨k0, E0, p0, k1, E1, p1, rfl, hD0, hD1, ⟨m, rfl, hm⟩, ho⟩
    · have HW0 := Lib.hid hw
      have hb : BlockAt wr q0 l0 sb0 := by rw [hw]; exact HBS.out.1
      have hVw : wr.heap[V]? = some (.cells #[.pointer (some ⟨q0, 0, none⟩), .pointer (some ⟨q1, 0, none⟩), x2, x3, .int .i64 (u : Int), .int .i64 (no : Int)] 110 (0, 0)) := by rw [hw]; exact HH.out
      have htb : TabB B wr := by rw [hw]; exact HTB.out
      have hbo : BlockAt wr q1 l1 sb1 := by rw [hw]; exact HBS.out.2
      have hts0 : TS okV B w wr := by rw [hw]; exact TS.refl _ _ _
      clear hw
      have hop := journal.open_any q0 l0 sb0 wr hb HZ.out.1 htb.t
      have HTS0 := Lib.hid hts0
      have HTBR := Lib.hid htb
      have HBQ : Hid (∀ i, i = q0 → B ≤ i) := Lib.hid (fun i hi => by rw [hi]; exact HN.out.2.2.1)
      clear hts0 htb
      go_upto_region 7 with (go_at_call 26; refine hop.mono ?_; rintro e w1 ⟨k0, E0, v, P, hD, rfl, hj, hsl, hP, hn, t1⟩; have HD0 := Lib.hid hD; have HJ1 := Lib.hid (open_cat hD hj); have HSL1 := Lib.hid hsl; have HN1 := Lib.hid hn; have HT1 := Lib.hid t1; have HP1 := Lib.hid hP; clear hD hj hsl hP hn t1)
      clear hop
      have hV1 := heap_newer hVw HT1.out (v_ne_q hVw hb)
      have HTS1 : Hid (TS okV B wr w1) := Lib.hid (BlockAt.ts hb HT1.out (HBQ.out _ rfl))
      obtain ⟨W2, hW2⟩ : ∃ W2, W2 = w1.setCell ⟨V, 2, none⟩ (.pointer (some ⟨P, 0, none⟩)) := ⟨_, rfl⟩
      have hV2 : W2.heap[V]? = some (.cells #[.pointer (some ⟨q0, 0, none⟩), .pointer (some ⟨q1, 0, none⟩), .pointer (some ⟨P, 0, none⟩), x3, .int .i64 (u : Int), .int .i64 (no : Int)] 110 (0, 0)) := by rw [hW2]; exact heap_setCell_at hV1 2 _
      have HJ2 : Hid (JAt W2 P q0 _ _ _ _) := Lib.hid (by rw [hW2]; exact JAt.setV HJ1.out hV1 2 _)
      have hts2 : TS okV B w1 W2 := by rw [hW2]; exact TS.setV hV1 HN.out.2.1 2 _
      have HTS2 := Lib.hid ((HTS0.out.trans HTS1.out).trans hts2)
      have HSL2 : Hid (RSl W2 v (recs ⟨l0.toArray⟩ k0)) := Lib.hid (hts2.sl HSL1.out not_okV_rec)
      have hc1 := block_keep hbo HT1.out (fun e => HN.out.1 e.symm) (nobytes_block hb)
      have hc2 : BlockAt W2 q1 l1 sb1 := by rw [hW2]; exact BlockAt.setV hc1 hV1 2 _
      have HC2 := Lib.hid hc2
      clear hc1 hc2 hbo
      have HV2 := Lib.hid hV2
      have HW2 := Lib.hid hW2
      have c2 := cells_of hV1 2 _ rfl
      have f2 := free_of hV1 2
      clear hVw hb hts2 hV2 hW2 HSL1 HJ1 hV1
      obtain ⟨vo, vc, rfl, -⟩ := Sl.shape HSL2.out
      go_upto_region 8 with fail
      rw [← HW2.out]
      clear c2 f2
      have hbp : B ≤ P := Nat.le_trans HN.out.2.2.2.2 (Nat.le_trans HTS0.out.size HP1.out)
      have hlen := len0 HD0.out HZ.out.1
      have hnu := number_any _ (recs ⟨l0.toArray⟩ k0) W2 HSL2.out hlen (fits0 HD0.out)
      have hge0 := numOf_ge (recs ⟨l0.toArray⟩ k0)
      have hlt0 := numOf_lt (recs ⟨l0.toArray⟩ k0)
      obtain ⟨N, hN⟩ : ∃ N, numOf (recs ⟨l0.toArray⟩ k0) = N := ⟨_, rfl⟩
      rw [hN] at hnu hge0 hlt0
      have HNN := Lib.hid hN
      have HGE := Lib.hid (And.intro hge0 hlt0)
      have HLEN := Lib.hid hlen
      have HBP := Lib.hid hbp
      clear hN hlen hge0 hlt0 hbp
      go_upto_region 9 with (go_at_call 106; refine hnu.mono ?_; rintro e w3 ⟨rfl, t3⟩; have HT3 := Lib.hid t3; clear t3)
      clear hnu
      have hV3 := heap_newer HV2.out HT3.out (fun h => h)
      have HV3 := Lib.hid hV3
      have HC3 := Lib.hid (block_still HC2.out HT3.out); have HCC := HC3
      have hsl3 : RSl w3 _ (recs ⟨l0.toArray⟩ k0) := Sl.keep HSL2.out HT3.out (fun _ _ h => h)
      clear hV3
      by_cases hc : (-1 : Int) < N
      · have hhe := held_any _ _ w3 hsl3 HLEN.out
        have HC := Lib.hid hc
        clear hsl3
        go_upto_region 11 with (go_at_call 107; refine hhe.mono ?_; rintro e w4 ⟨v4, rfl, h4, n4, t4⟩; have H4 := Lib.hid h4; have N4 := Lib.hid n4; have HT4 := Lib.hid t4; clear h4 n4 t4)
        clear hhe
        have hV4 := heap_newer HV3.out HT4.out (fun h => h)
        have c4 := cells_of hV4 4 _ rfl
        have c5 := cells_of hV4 5 _ rfl
        have f4 := free_of hV4 4
        have f5 := free_of hV4 5
        have HV4 := Lib.hid hV4
        clear hV4
        go_wp2
        go_roundw
        case rel =>
          have hV4 := HV4.out
          have hV4b := heap_setCell_at hV4 4 (.int .i64 0)
          have hV5 := heap_setCell_at hV4b 5 (.int .i64 N)
          have hts5 := (TS.setV hV4 HN.out.2.1 4 (.int .i64 0)).trans (TS.setV hV4b HN.out.2.1 5 (.int .i64 N))
          have htt := ((HTS2.out.trans (TS.still HT3.out)).trans (TS.still HT4.out)).trans hts5
          have hnat : N = (N.toNat : Int) := by
            have h1 := HGE.out.1
            have h2 := HC.out
            
            omega
          refine Or.inr (Or.inl ⟨k0, E0, P, rfl, HD0.out, by rw [HNN.out], ?_⟩)
          refine ⟨?_, JAt.setV (JAt.setV ((HJ2.out.still HT3.out).still HT4.out) hV4 4 _) hV4b 5 _, BlockAt.setV (BlockAt.setV (block_still HC3.out HT4.out) hV4 4 _) hV4b 5 _, ?_, fun i hi => ?_, htt, HBP.out⟩
          · rw [HNN.out, if_pos HC.out, if_pos HC.out, ← hnat]; exact hV5
          · rw [HNN.out, if_pos HC.out]; exact hts5.sl H4.out not_okV_str
          · exact Nat.le_trans (HTS2.out.trans (TS.still HT3.out)).size (N4.out i hi)
        case measure => simp [intOf]
      · have HC := Lib.hid hc
        clear hsl3
        go_wp2
        go_roundw
        case rel =>
          have htt := HTS2.out.trans (TS.still HT3.out)
          have hm1 : N = -1 := by
            have h1 := HGE.out.1
            have h2 := HC.out
            omega
          refine Or.inr (Or.inl ⟨k0, E0, P, rfl, HD0.out, by rw [HNN.out, hm1], ?_⟩)
          refine ⟨?_, HJ2.out.still HT3.out, HC3.out, ?_, (fun i hi => by cases hi), htt, HBP.out⟩
          · rw [HNN.out, if_neg HC.out, if_neg HC.out]; exact HV3.out
          · rw [HNN.out, if_neg HC.out]; exact Sl.nil _ _ _
        case measure => simp [intOf]
    · have hb := ho.b1
      have hVw := ho.h
      have htb := HTB.out.ts ho.ts
      have hj0 := ho.j0
      have hts0 := ho.ts
      have hso := ho.s
      have hno := ho.n
      have HP0 := Lib.hid ho.bp
      have HD0 := Lib.hid hD0
      have hge := numOf_ge (recs ⟨l0.toArray⟩ k0)
      obtain ⟨L0, hL0⟩ : ∃ L0, recs ⟨l0.toArray⟩ k0 = L0 := ⟨_, rfl⟩
      rw [hL0] at hVw hj0 hso hge ⊢
      have HL0 := Lib.hid hL0
      obtain ⟨A, hA⟩ : ∃ A, numOf L0 = A := ⟨_, rfl⟩
      rw [hA] at hVw hso hge ⊢
      have HA := Lib.hid hA
      obtain ⟨u1, hu1⟩ : ∃ u1, (if -1 < A then 0 else u : Nat) = u1 := ⟨_, rfl⟩
      obtain ⟨no1, hno1⟩ : ∃ no1, (if -1 < A then A.toNat else no : Nat) = no1 := ⟨_, rfl⟩
      rw [hu1, hno1] at hVw
      obtain ⟨T1, hT1⟩ : ∃ T1, (if -1 < A then heldOf L0 else []) = T1 := ⟨_, rfl⟩
      rw [hT1] at hso
      have HUN := Lib.hid (And.intro hge (And.intro hu1 (And.intro hno1 hT1)))
      obtain ⟨oo, oc, rfl, -⟩ := Sl.shape hso
      have HNO := Lib.hid hno
      clear ho hD0 hL0 hA hu1 hno1 hge hT1 hno
      have hop := journal.open_any q1 l1 sb1 wr hb HZ.out.2 htb.t
      have HTS0 := Lib.hid hts0
      have HTBR := Lib.hid htb
      have HBQ : Hid (∀ i, i = q1 → B ≤ i) := Lib.hid (fun i hi => by rw [hi]; exact HN.out.2.2.2.1)
      clear hts0 htb
      go_upto_region 7 with (go_at_call 26; refine hop.mono ?_; rintro e w1 ⟨k1, E1, v, P, hD, rfl, hj, hsl, hP, hn, t1⟩; have HD1 := Lib.hid hD; have HJ1 := Lib.hid (open_cat hD hj); have HSL1 := Lib.hid hsl; have HN1 := Lib.hid hn; have HT1 := Lib.hid t1; have HP1 := Lib.hid hP; clear hD hj hsl hP hn t1)
      clear hop
      have hV1 := heap_newer hVw HT1.out (v_ne_q hVw hb)
      have HTS1 : Hid (TS okV B wr w1) := Lib.hid (BlockAt.ts hb HT1.out (HBQ.out _ rfl))
      obtain ⟨W2, hW2⟩ : ∃ W2, W2 = w1.setCell ⟨V, 3, none⟩ (.pointer (some ⟨P, 0, none⟩)) := ⟨_, rfl⟩
      have hV2 : W2.heap[V]? = some (.cells #[.pointer (some ⟨q0, 0, none⟩), .pointer (some ⟨q1, 0, none⟩), .pointer (some ⟨p0, 0, none⟩), .pointer (some ⟨P, 0, none⟩), .int .i64 (u1 : Int), .int .i64 (no1 : Int)] 110 (0, 0)) := by rw [hW2]; exact heap_setCell_at hV1 3 _
      have HJ2 : Hid (JAt W2 P q1 _ _ _ _) := Lib.hid (by rw [hW2]; exact JAt.setV HJ1.out hV1 3 _)
      have hts2 : TS okV B w1 W2 := by rw [hW2]; exact TS.setV hV1 HN.out.2.1 3 _
      have HTS2 := Lib.hid ((HTS0.out.trans HTS1.out).trans hts2)
      have HSL2 : Hid (RSl W2 v (recs ⟨l1.toArray⟩ k1)) := Lib.hid (hts2.sl HSL1.out not_okV_rec)
      have hc1 : JAt w1 p0 q0 (cat L0) (cat L0).length L0.length L0.length := hj0.keep HT1.out (fun e => by
        obtain ⟨_, z, h2, _⟩ := hb
        have e : p0 = q1 := e
        have h3 := hj0.h
        rw [e, h2] at h3
        simp at h3) (fun e => HN.out.1 e) (nobytes_block hb)
      have hc2 : JAt W2 p0 q0 (cat L0) (cat L0).length L0.length L0.length := by rw [hW2]; exact JAt.setV hc1 hV1 3 _
      have HC2 := Lib.hid hc2
      have HSO2 := Lib.hid ((HTS1.out.trans hts2).sl hso not_okV_str)
      clear hc1 hc2 hj0 hso
      have HV2 := Lib.hid hV2
      have HW2 := Lib.hid hW2
      have c2 := cells_of hV1 3 _ rfl
      have f2 := free_of hV1 3
      clear hVw hb hts2 hV2 hW2 HSL1 HJ1 hV1
      obtain ⟨vo, vc, rfl, -⟩ := Sl.shape HSL2.out
      go_upto_region 8 with fail
      rw [← HW2.out]
      clear c2 f2
      have hbp : B ≤ P := Nat.le_trans HN.out.2.2.2.2 (Nat.le_trans HTS0.out.size HP1.out)
      have hlen := len0 HD1.out HZ.out.2
      have hnu := number_any _ (recs ⟨l1.toArray⟩ k1) W2 HSL2.out hlen (fits0 HD1.out)
      have hge1 := numOf_ge (recs ⟨l1.toArray⟩ k1)
      have hlt1 := numOf_lt (recs ⟨l1.toArray⟩ k1)
      obtain ⟨N, hN⟩ : ∃ N, numOf (recs ⟨l1.toArray⟩ k1) = N := ⟨_, rfl⟩
      rw [hN] at hnu hge1 hlt1
      have HNN := Lib.hid hN
      have HGE := Lib.hid (And.intro hge1 hlt1)
      have HLEN := Lib.hid hlen
      have HBP := Lib.hid hbp
      clear hN hlen hge1 hlt1 hbp
      go_upto_region 9 with (go_at_call 106; refine hnu.mono ?_; rintro e w3 ⟨rfl, t3⟩; have HT3 := Lib.hid t3; clear t3)
      clear hnu
      have hV3 := heap_newer HV2.out HT3.out (fun h => h)
      have HV3 := Lib.hid hV3
      have HC3 := Lib.hid (HC2.out.still HT3.out); have HSO3 := Lib.hid (Sl.keep HSO2.out HT3.out (fun _ _ h => h))
      have hsl3 : RSl w3 _ (recs ⟨l1.toArray⟩ k1) := Sl.keep HSL2.out HT3.out (fun _ _ h => h)
      clear hV3
      by_cases hc : A < N
      · have hhe := held_any _ _ w3 hsl3 HLEN.out
        have HC := Lib.hid hc
        clear hsl3
        go_upto_region 11 with (go_at_call 107; refine hhe.mono ?_; rintro e w4 ⟨v4, rfl, h4, n4, t4⟩; have H4 := Lib.hid h4; have N4 := Lib.hid n4; have HT4 := Lib.hid t4; clear h4 n4 t4)
        clear hhe
        have hV4 := heap_newer HV3.out HT4.out (fun h => h)
        have c4 := cells_of hV4 4 _ rfl
        have c5 := cells_of hV4 5 _ rfl
        have f4 := free_of hV4 4
        have f5 := free_of hV4 5
        have HV4 := Lib.hid hV4
        clear hV4
        go_wp2
        go_roundw
        case rel =>
          have hV4 := HV4.out
          have hV4b := heap_setCell_at hV4 4 (.int .i64 1)
          have hV5 := heap_setCell_at hV4b 5 (.int .i64 N)
          have hts5 := (TS.setV hV4 HN.out.2.1 4 (.int .i64 1)).trans (TS.setV hV4b HN.out.2.1 5 (.int .i64 N))
          have htt := ((HTS2.out.trans (TS.still HT3.out)).trans (TS.still HT4.out)).trans hts5
          have hnat : N = (N.toNat : Int) := by
            have h1 := HGE.out.1
            have h2 := HC.out
            have h3 := HUN.out.1
            omega
          have hpk := pick_lt HUN.out.1 HC.out
          refine Or.inr (Or.inr ⟨k0, E0, p0, k1, E1, P, rfl, HD0.out, HD1.out, ⟨N, rfl, ?_⟩, ?_⟩)
          · rw [HL0.out, HA.out, HNN.out, hpk, decide_eq_false (by decide)]
            have h1 : -1 ≤ A := HUN.out.1
            have h2 : A < N := HC.out
            exact beq_eq_false_iff_ne.2 (by omega)
          · rw [HL0.out]
            refine ⟨?_, JAt.setV (JAt.setV (HC3.out.still HT4.out) hV4 4 _) hV4b 5 _, JAt.setV (JAt.setV ((HJ2.out.still HT3.out).still HT4.out) hV4 4 _) hV4b 5 _, ?_, fun i hi => ?_, htt, HP0.out, HBP.out⟩
            · rw [HA.out, HNN.out]; unfold useOf noOf; rw [hpk, if_neg (by decide), if_neg (by decide), if_pos rfl, ← hnat]; exact hV5
            · unfold loadT; rw [HA.out, HNN.out, hpk, if_neg (by decide), if_pos rfl]; exact hts5.sl H4.out not_okV_str
            · exact Nat.le_trans (HTS2.out.trans (TS.still HT3.out)).size (N4.out i hi)
        case measure => simp [intOf]
      · have HC := Lib.hid hc
        clear hsl3
        go_wp2
        go_roundw
        case rel =>
          have htt := HTS2.out.trans (TS.still HT3.out)
          refine Or.inr (Or.inr ⟨k0, E0, p0, k1, E1, P, rfl, HD0.out, HD1.out, ⟨A, rfl, ?_⟩, ?_⟩)
          · rw [HL0.out, HA.out, HNN.out]
            by_cases h1 : -1 < A
            · rw [pick_ge h1 HC.out, decide_eq_false (by decide)]
              exact beq_eq_false_iff_ne.2 (by omega)
            · rw [pick_no h1 HC.out HUN.out.1, decide_eq_true rfl]
              have := HUN.out.1
              rw [show A = -1 by omega]; rfl
          · rw [HL0.out]
            refine ⟨?_, HC3.out, HJ2.out.still HT3.out, ?_, HNO.out, htt, HP0.out, HBP.out⟩
            · rw [HA.out, HNN.out]
              unfold useOf noOf
              have hu := HUN.out.2.1
              have hn := HUN.out.2.2.1
              by_cases h1 : -1 < A
              · rw [if_pos h1] at hu hn
                rw [pick_ge h1 HC.out, if_neg (by decide), if_pos rfl]; subst hu; subst hn; exact HV3.out
              · rw [if_neg h1] at hu hn
                rw [pick_no h1 HC.out HUN.out.1, if_pos rfl, if_neg (by decide), if_neg (by decide)]; subst hu; subst hn; exact HV3.out
            · unfold loadT
              rw [HA.out, HNN.out]
              have hs : TSl w3 _ T1 := HSO3.out
              have ht := HUN.out.2.2.2
              by_cases h1 : -1 < A
              · rw [if_pos h1] at ht
                rw [pick_ge h1 HC.out, if_pos rfl, ht]; exact hs
              · rw [if_neg h1] at ht
                rw [pick_no h1 HC.out HUN.out.1, if_neg (by decide), if_neg (by decide), ht]; exact hs
        case measure => simp [intOf]
    · have HM := Lib.hid hm
      have HO := Lib.hid ho
      have HDD := Lib.hid (And.intro hD0 hD1)
      obtain ⟨oo, oc, rfl, -⟩ := Sl.shape ho.s
      clear ho hm hD0 hD1
      generalize hb : (m == -1) = bb
      have hne : (m != -1) = !bb := by rw [bne, hb]
      have HB := Lib.hid hb
      clear hb
      go_wp2
      refine bodyPost_ret (results_tmp2 rfl _ _ _) rfl ?_
      refine ⟨k0, E0, p0, k1, E1, p1, _, HDD.out.1, HDD.out.2, ?_, HO.out⟩
      have h1 := HM.out
      rw [HB.out] at h1
      rw [decide_not, ← h1]
      first | rfl | (simp; done) | simp [hne]
end Go.Proofs.YtlhcmgjkhkcgcaaDoor.vault

namespace Go.Proofs.YtlhcmgjkhkcgcaaDoor.vault
open Go.RowKit
open Go.Proofs.YtlhcmgjkhkcgcaaDoor.stepkit Go.Proofs.YtlhcmgjkhkcgcaaDoor.obj Go.Proofs.YtlhcmgjkhkcgcaaDoor.row Go.Proofs.YtlhcmgjkhkcgcaaDoor.mix Go.Proofs.YtlhcmgjkhkcgcaaDoor.idkit Go.Proofs.YtlhcmgjkhkcgcaaDoor.bytes Go.Proofs.YtlhcmgjkhkcgcaaDoor.octet Go.Proofs.YtlhcmgjkhkcgcaaDoor.eqkit Go.Proofs.YtlhcmgjkhkcgcaaDoor.record Go.Proofs.YtlhcmgjkhkcgcaaDoor.argkit
open Go.Proofs.YtlhcmgjkhkcgcaaDoor.journal (JAt two NoBytes turns_one block_keep block_still block_lt at_store)
open Go.Proofs.YtlhcmgjkhkcgcaaDoor.block (BlockAt keepOf keepOf_le keepOf_ge keepOf_all)

/-! ### What a vault is -/
structure M where
  L0 : List RV
  n0 : Nat
  L1 : List RV
  n1 : Nat
  u : Nat
  no : Nat
def M.L (m : M) : List RV := if m.u = 0 then m.L0 else m.L1
def M.n (m : M) : Nat := if m.u = 0 then m.n0 else m.n1
/-- The file in use, turned. -/
def M.set (m : M) (L : List RV) (n : Nat) : M := if m.u = 0 then ⟨L, n, m.L1, m.n1, m.u, m.no⟩ else ⟨m.L0, m.n0, L, n, m.u, m.no⟩
/-- The other one, turned. -/
def M.put (m : M) (L : List RV) (n : Nat) : M := if m.u = 0 then ⟨m.L0, m.n0, L, n, m.u, m.no⟩ else ⟨L, n, m.L1, m.n1, m.u, m.no⟩
def M.app (m : M) (s : ByteArray) : M := m.set (m.L ++ [entR s]) m.n
def M.sync (m : M) : M := m.set m.L m.L.length
/-- Loaded: what is whole of both files. -/
def M.load (m : M) (A B : List RV) : M := ⟨A, A.length, B, B.length, useOf (numOf A) (numOf B) m.u, noOf (numOf A) (numOf B) m.no⟩
/-- What is left of a file. -/
noncomputable def leftOf (L : List RV) (n : Nat) (k : Int) : List RV := L.take (cutN L (keepOf (cat L).length (endOf L n) k))
noncomputable def M.crash (m : M) (k : Int) : M := if m.u = 0 then m.load (leftOf m.L0 m.n0 k) m.L1 else m.load m.L0 (leftOf m.L1 m.n1 k)
noncomputable def M.crashT (m : M) (k : Int) : List ByteArray := if m.u = 0 then loadT (leftOf m.L0 m.n0 k) m.L1 else loadT m.L0 (leftOf m.L1 m.n1 k)
/-- The program's vault in memory. -/
structure VM (w : World) (B V : Nat) (m : M) : Prop where
  c : VC w B V m.L0 m.n0 m.L1 m.n1 m.u m.no
  u : m.u = 0 ∨ m.u = 1
/-- The document's. -/
structure XM (w : World) (B X : Nat) (m : M) : Prop where
  c : XV w B X m.L0 m.n0 m.L1 m.n1 m.u m.no
  u : m.u = 0 ∨ m.u = 1
  g0 : record.Good m.L0
  g1 : record.Good m.L1
  s0 : m.n0 ≤ m.L0.length
  s1 : m.n1 ≤ m.L1.length
def small (m : M) : Prop := m.L0.length ≤ 5000 ∧ m.L1.length ≤ 5000
theorem VM.still {w w' : World} {B V : Nat} {m : M} (h : VM w B V m) (ht : Turns nobody w w') : VM w' B V m := ⟨h.c.still ht, h.u⟩
theorem VM.tsx {w w' : World} {B V : Nat} {m : M} (h : VM w B V m) (ht : TS okX B w w') : VM w' B V m := ⟨h.c.tsx ht, h.u⟩
theorem XM.still {w w' : World} {B V : Nat} {m : M} (h : XM w B V m) (ht : Turns nobody w w') : XM w' B V m := ⟨h.c.still ht, h.u, h.g0, h.g1, h.s0, h.s1⟩
theorem XM.ts {w w' : World} {B V : Nat} {m : M} (h : XM w B V m) (ht : TS okV B w w') : XM w' B V m := ⟨h.c.ts ht, h.u, h.g0, h.g1, h.s0, h.s1⟩
theorem cat_16 {L : List RV} (hg : record.Good L) (h : L.length ≤ 5000) : (cat L).length ≤ 16777216 := by have := cat_small hg; omega
theorem VG.size {w : World} {B V q0 q1 p0 p1 : Nat} {L0 : List RV} {n0 : Nat} {L1 : List RV} {n1 : Nat} {u no : Nat} (h : VG w B V q0 q1 p0 p1 L0 n0 L1 n1 u no) : B ≤ w.heap.size := Nat.le_trans h.bV (Nat.le_of_lt (lt_of_block h.h))
theorem build_ent (s : ByteArray) (W : World) : (Instr.build 23 #[(0, .int .i64 3), (1, .string s)]).run Tryd.prog W = .ok (.agg #[.int .i64 3, .string s]) W := by kernel_rfl
theorem use_any (B V : Nat) (m : M) (w : World) (hm : VM w B V m) :
    Calls Tryd.prog 49 #[.pointer (some ⟨V, 0, none⟩)] w fun e w' => e = .returned (.tuple #[.int .i64 (m.u : Int), .int .i64 (m.no : Int)]) ∧ Turns nobody w w' := by
  obtain ⟨⟨q0, q1, p0, p1, h⟩, hu⟩ := hm
  obtain ⟨L0, n0, L1, n1, u, no⟩ := m
  simp only at h hu ⊢
  have c0 := cells_of h.h 0 _ rfl
  have c4 := cells_of h.h 4 _ rfl
  have c5 := cells_of h.h 5 _ rfl
  clear h
  go_enter Tryd.func49, Tryd.ntmps49
  go_upto_region 3 with (go_at_call 86; refine (none_no _ _ _ c0).mono ?_; rintro e w' ⟨rfl, rfl⟩)
  go_quiet (fail)
  go_wp2
  refine bodyPost_ret (results_tmp2 rfl _ _ _) rfl ⟨rfl, Turns.drawn (F := nobody) ⟨_, rfl⟩⟩
set_option maxRecDepth 10000 in
set_option maxHeartbeats 1000000 in

theorem size_any (B V : Nat) (m : M) (w : World) (hm : VM w B V m) :
    Calls Tryd.prog 59 #[.pointer (some ⟨V, 0, none⟩)] w fun e w' => e = .returned (.int .i64 ((cat m.L).length : Int)) ∧ Turns nobody w w' := by
  obtain ⟨⟨q0, q1, p0, p1, h⟩, hu⟩ := hm
  obtain ⟨L0, n0, L1, n1, u, no⟩ := m
  simp only at h hu
  rcases hu with rfl | rfl
  · rw [show M.L ⟨L0, n0, L1, n1, 0, no⟩ = L0 from rfl]
    have hs := block.size_any q0 (cat L0) (endOf L0 n0) w.drew (block_still h.j0.b (Turns.refl nobody _).drew)
    have c0 := cells_of h.h 0 _ rfl
    have HH := Lib.hid h.h
    have HS := Lib.hid hs
    clear h hs
    generalize (cat L0).length = Z at *
    go_enter Tryd.func59, Tryd.ntmps59
    go_upto_region 3 with (go_at_call 86; refine (none_no _ _ _ c0).mono ?_; rintro e w' ⟨rfl, rfl⟩)
    refine wp_region_mix [(0, true, true), (1, true, true), (2, true, true), (3, true, true), (4, true, true), (5, true, true), (6, true, true), (7, true, true), (8, true, true), (9, false, true), (10, true, true)] (fun W => W.heap[V]? = some (.cells #[.pointer (some ⟨q0, 0, none⟩), .pointer (some ⟨q1, 0, none⟩), .pointer (some ⟨p0, 0, none⟩), .pointer (some ⟨p1, 0, none⟩), .int .i64 0, .int .i64 (no : Int)] 110 (0, 0))) (by kernel_rfl) (by kernel_rfl) (HH.out) ?_
    simp only [picked, List.filterMap_cons, List.filterMap_nil, List.getElem?_toArray, List.getElem?_cons_zero, List.getElem?_cons_succ, Option.map_some]
    repeat (refine mix_free (v := ?_) rfl ?_ ?_; rotate_left; (focus (intro w' hI; have e4 := cells_of hI 4 _ rfl; have e0 := cells_of hI 0 _ rfl; clear hI; go_simp; try with_reducible rfl)); simp only [Act.put, List.setIfInBounds_toArray, List.set_cons_zero, List.set_cons_succ])
    refine mix_big rfl (fun K hK => ?_)
    go_wp2_with (go_at_call 82; refine HS.out.mono ?_; rintro e w7 ⟨rfl, rfl⟩)
    refine hK _ _ (fun _ => HH.out) ?_
    clear hK K
    repeat (refine mix_free (v := ?_) rfl ?_ ?_; rotate_left; (focus (intro w' hI; clear hI; go_simp; try with_reducible rfl)); simp only [Act.put, List.setIfInBounds_toArray, List.set_cons_zero, List.set_cons_succ])
    refine mix_nil ?_
    go_wp2
    go_ret
    exact ⟨rfl, (Turns.refl _ _).drew⟩
  · rw [show M.L ⟨L0, n0, L1, n1, 1, no⟩ = L1 from rfl]
    have hs := block.size_any q1 (cat L1) (endOf L1 n1) w.drew (block_still h.j1.b (Turns.refl nobody _).drew)
    have c0 := cells_of h.h 0 _ rfl
    have HH := Lib.hid h.h
    have HS := Lib.hid hs
    clear h hs
    generalize (cat L1).length = Z at *
    go_enter Tryd.func59, Tryd.ntmps59
    go_upto_region 3 with (go_at_call 86; refine (none_no _ _ _ c0).mono ?_; rintro e w' ⟨rfl, rfl⟩)
    refine wp_region_mix [(0, true, true), (1, true, true), (2, true, true), (3, true, true), (4, true, true), (5, true, true), (6, true, true), (7, true, true), (8, true, true), (9, false, true), (10, true, true)] (fun W => W.heap[V]? = some (.cells #[.pointer (some ⟨q0, 0, none⟩), .pointer (some ⟨q1, 0, none⟩), .pointer (some ⟨p0, 0, none⟩), .pointer (some ⟨p1, 0, none⟩), .int .i64 1, .int .i64 (no : Int)] 110 (0, 0))) (by kernel_rfl) (by kernel_rfl) (HH.out) ?_
    simp only [picked, List.filterMap_cons, List.filterMap_nil, List.getElem?_toArray, List.getElem?_cons_zero, List.getElem?_cons_succ, Option.map_some]
    repeat (refine mix_free (v := ?_) rfl ?_ ?_; rotate_left; (focus (intro w' hI; have e4 := cells_of hI 4 _ rfl; have e0 := cells_of hI 1 _ rfl; clear hI; go_simp; try with_reducible rfl)); simp only [Act.put, List.setIfInBounds_toArray, List.set_cons_zero, List.set_cons_succ])
    refine mix_big rfl (fun K hK => ?_)
    go_wp2_with (go_at_call 82; refine HS.out.mono ?_; rintro e w7 ⟨rfl, rfl⟩)
    refine hK _ _ (fun _ => HH.out) ?_
    clear hK K
    repeat (refine mix_free (v := ?_) rfl ?_ ?_; rotate_left; (focus (intro w' hI; clear hI; go_simp; try with_reducible rfl)); simp only [Act.put, List.setIfInBounds_toArray, List.set_cons_zero, List.set_cons_succ])
    refine mix_nil ?_
    go_wp2
    go_ret
    exact ⟨rfl, (Turns.refl _ _).drew⟩
set_option maxRecDepth 10000 in
set_option maxHeartbeats 1000000 in

theorem files_any (B V : Nat) (m : M) (w : World) (hm : VM w B V m) :
    Calls Tryd.prog 58 #[.pointer (some ⟨V, 0, none⟩)] w fun e w' => e = .returned (.tuple #[.string ⟨(cat m.L0).toArray⟩, .string ⟨(cat m.L1).toArray⟩]) ∧ Turns nobody w w' := by
  obtain ⟨⟨q0, q1, p0, p1, h⟩, hu⟩ := hm
  obtain ⟨L0, n0, L1, n1, u, no⟩ := m
  simp only at h hu ⊢
  have hd0 := block.data_any q0 (cat L0) (endOf L0 n0) w.drew (block_still h.j0.b (Turns.refl nobody _).drew)
  have hd1 := block.data_any q1 (cat L1) (endOf L1 n1) w.drew (block_still h.j1.b (Turns.refl nobody _).drew)
  have c0 := cells_of h.h 0 _ rfl
  have HH := Lib.hid h.h
  have HD0 := Lib.hid hd0
  have HD1 := Lib.hid hd1
  have HNE := Lib.hid h.ne
  clear h hd0 hd1
  generalize (⟨(cat L0).toArray⟩ : ByteArray) = S0 at *
  generalize (⟨(cat L1).toArray⟩ : ByteArray) = S1 at *
  go_enter Tryd.func58, Tryd.ntmps58
  go_upto_region 3 with (go_at_call 86; refine (none_no _ _ _ c0).mono ?_; rintro e w' ⟨rfl, rfl⟩)
  refine wp_region_mix [(0, true, true), (1, true, true), (2, true, true), (3, true, true), (4, true, true), (6, true, true), (7, true, true), (8, true, true), (9, true, true), (10, true, true), (5, false, true), (11, false, true), (12, true, true), (13, true, true)] (fun W => W.heap[V]? = some (.cells #[.pointer (some ⟨q0, 0, none⟩), .pointer (some ⟨q1, 0, none⟩), .pointer (some ⟨p0, 0, none⟩), .pointer (some ⟨p1, 0, none⟩), .int .i64 (u : Int), .int .i64 (no : Int)] 110 (0, 0))) (by kernel_rfl) (by kernel_rfl) (HH.out) ?_
  simp only [picked, List.filterMap_cons, List.filterMap_nil, List.getElem?_toArray, List.getElem?_cons_zero, List.getElem?_cons_succ, Option.map_some]
  repeat (refine mix_free (v := ?_) rfl ?_ ?_; rotate_left; (focus (intro w' hI; have e0 := cells_of hI 0 _ rfl; have e1 := cells_of hI 1 _ rfl; clear hI; go_simp; try with_reducible rfl)); simp only [Act.put, List.setIfInBounds_toArray, List.set_cons_zero, List.set_cons_succ])
  refine mix_big rfl (fun K hK => ?_)
  go_wp2_with (go_at_call 40; refine HD0.out.mono ?_; rintro e w7 ⟨rfl, rfl⟩)
  refine hK _ _ (fun _ => HH.out) ?_
  clear hK K
  repeat (refine mix_free (v := ?_) rfl ?_ ?_; rotate_left; (focus (intro w' hI; clear hI; go_simp; try with_reducible rfl)); simp only [Act.put, List.setIfInBounds_toArray, List.set_cons_zero, List.set_cons_succ])
  refine mix_big rfl (fun K hK => ?_)
  go_wp2_with (go_at_call 40; refine HD1.out.mono ?_; rintro e w7 ⟨rfl, rfl⟩)
  refine hK _ _ (fun _ => HH.out) ?_
  clear hK K
  repeat (refine mix_free (v := ?_) rfl ?_ ?_; rotate_left; (focus (intro w' hI; clear hI; go_simp; try with_reducible rfl)); simp only [Act.put, List.setIfInBounds_toArray, List.set_cons_zero, List.set_cons_succ])
  refine mix_nil ?_
  go_wp2
  refine bodyPost_ret (results_tmp2 rfl _ _ _) rfl ⟨rfl, (Turns.refl _ _).drew⟩
set_option maxRecDepth 10000 in
set_option maxHeartbeats 1000000 in

theorem append_any (B V : Nat) (m : M) (s : ByteArray) (w : World) (hm : VM w B V m) (hsm : small m) (hs : s.size ≤ 300) (ht : TabB B w) :
    Calls Tryd.prog 42 #[.pointer (some ⟨V, 0, none⟩), .string s] w fun e w' => e = .returned (.int .i64 0) ∧ VM w' B V (m.app s) ∧ TS okV B w w' := by
  have hb := build_ent s
  obtain ⟨⟨q0, q1, p0, p1, h⟩, hu⟩ := hm
  obtain ⟨L0, n0, L1, n1, u, no⟩ := m
  simp only at h hu
  rcases hu with rfl | rfl
  · rw [show M.app ⟨L0, n0, L1, n1, 0, no⟩ s = ⟨L0 ++ [entR s], n0, L1, n1, 0, no⟩ from rfl]
    have hd : Turns nobody w w.drew := (Turns.refl _ _).drew
    have he := putE_ent (s := s) (by omega)
    have hap := journal.append_ok p0 q0 (cat L0) (endOf L0 n0) L0.length n0 3 s w.drew (h.j0.still hd) (by have := hsm.1; simp only at this; omega) (cat_16 h.g0 hsm.1) (by omega) (ht.still hd).t he
    have hcp := cat_put (L := L0) (r := entR s) he
    rw [show putS (entR s).1 (entR s).2 = putS 3 s from rfl] at hcp
    rw [hcp] at hap
    have hen : endOf (L0 ++ [entR s]) n0 = endOf L0 n0 := by unfold endOf; rw [List.take_append_of_le_length h.s0]
    have hln : (L0 ++ [entR s]).length = L0.length + 1 := by simp
    rw [← hen, ← hln] at hap
    unfold recV at hap
    have HG := Lib.hid (good_append h.g0 (M := [entR s]) (fun r hr => by rw [List.mem_singleton.1 hr]; exact good_ent hs))
    have HLN := Lib.hid hln
    have c0 := cells_of h.h 0 _ rfl
    have HH := Lib.hid h
    have HAP := Lib.hid hap
    clear h hap hsm hs ht he hcp hen hln
    go_enter Tryd.func42, Tryd.ntmps42
    go_upto_region 3 with (go_at_call 86; refine (none_no _ _ _ c0).mono ?_; rintro e w' ⟨rfl, rfl⟩)
    refine wp_region_mix [(0, true, true), (1, true, true), (2, true, true), (3, true, true), (4, true, true), (5, true, true), (6, true, true), (7, true, true), (8, true, true), (9, true, true), (10, true, true), (11, false, true), (12, true, true)] (fun W => W.heap[V]? = some (.cells #[.pointer (some ⟨q0, 0, none⟩), .pointer (some ⟨q1, 0, none⟩), .pointer (some ⟨p0, 0, none⟩), .pointer (some ⟨p1, 0, none⟩), .int .i64 0, .int .i64 (no : Int)] 110 (0, 0))) (by kernel_rfl) (by kernel_rfl) (HH.out.h) ?_
    simp only [picked, List.filterMap_cons, List.filterMap_nil, List.getElem?_toArray, List.getElem?_cons_zero, List.getElem?_cons_succ, Option.map_some]
    repeat (refine mix_free (v := ?_) rfl ?_ ?_; rotate_left; (focus (intro w' hI; have e4 := cells_of hI 4 _ rfl; have e0 := cells_of hI 2 _ rfl; clear hI; go_simp; try with_reducible rfl)); simp only [Act.put, List.setIfInBounds_toArray, List.set_cons_zero, List.set_cons_succ])
    refine mix_big rfl (fun K hK => ?_)
    go_wp2_with (go_at_call 28; refine HAP.out.mono ?_; rintro e w7 ⟨rfl, hj7, t7⟩; have HJ7 := Lib.hid hj7; have HT7 := Lib.hid (((Turns.refl nobody w).drew.mono (G := two p0 q0) (fun _ h => h.elim)).trans t7 (fun _ h => Or.inl h)); clear hj7 t7)
    have HV := Lib.hid (HH.out.set0 HJ7.out HG.out (by rw [HLN.out]; have := HH.out.s0; omega) HT7.out)
    refine hK _ _ (fun _ => HV.out.h) ?_
    clear hK K
    repeat (refine mix_free (v := ?_) rfl ?_ ?_; rotate_left; (focus (intro w' hI; clear hI; go_simp; try with_reducible rfl)); simp only [Act.put, List.setIfInBounds_toArray, List.set_cons_zero, List.set_cons_succ])
    refine mix_nil ?_
    go_wp2
    go_ret
    exact ⟨rfl, ⟨⟨q0, q1, p0, p1, HV.out⟩, Or.inl rfl⟩, JAt.ts HH.out.j0 HT7.out HH.out.bp0 HH.out.bq0⟩
  · rw [show M.app ⟨L0, n0, L1, n1, 1, no⟩ s = ⟨L0, n0, L1 ++ [entR s], n1, 1, no⟩ from rfl]
    have hd : Turns nobody w w.drew := (Turns.refl _ _).drew
    have he := putE_ent (s := s) (by omega)
    have hap := journal.append_ok p1 q1 (cat L1) (endOf L1 n1) L1.length n1 3 s w.drew (h.j1.still hd) (by have := hsm.2; simp only at this; omega) (cat_16 h.g1 hsm.2) (by omega) (ht.still hd).t he
    have hcp := cat_put (L := L1) (r := entR s) he
    rw [show putS (entR s).1 (entR s).2 = putS 3 s from rfl] at hcp
    rw [hcp] at hap
    have hen : endOf (L1 ++ [entR s]) n1 = endOf L1 n1 := by unfold endOf; rw [List.take_append_of_le_length h.s1]
    have hln : (L1 ++ [entR s]).length = L1.length + 1 := by simp
    rw [← hen, ← hln] at hap
    unfold recV at hap
    have HG := Lib.hid (good_append h.g1 (M := [entR s]) (fun r hr => by rw [List.mem_singleton.1 hr]; exact good_ent hs))
    have HLN := Lib.hid hln
    have c0 := cells_of h.h 0 _ rfl
    have HH := Lib.hid h
    have HAP := Lib.hid hap
    clear h hap hsm hs ht he hcp hen hln
    go_enter Tryd.func42, Tryd.ntmps42
    go_upto_region 3 with (go_at_call 86; refine (none_no _ _ _ c0).mono ?_; rintro e w' ⟨rfl, rfl⟩)
    refine wp_region_mix [(0, true, true), (1, true, true), (2, true, true), (3, true, true), (4, true, true), (5, true, true), (6, true, true), (7, true, true), (8, true, true), (9, true, true), (10, true, true), (11, false, true), (12, true, true)] (fun W => W.heap[V]? = some (.cells #[.pointer (some ⟨q0, 0, none⟩), .pointer (some ⟨q1, 0, none⟩), .pointer (some ⟨p0, 0, none⟩), .pointer (some ⟨p1, 0, none⟩), .int .i64 1, .int .i64 (no : Int)] 110 (0, 0))) (by kernel_rfl) (by kernel_rfl) (HH.out.h) ?_
    simp only [picked, List.filterMap_cons, List.filterMap_nil, List.getElem?_toArray, List.getElem?_cons_zero, List.getElem?_cons_succ, Option.map_some]
    repeat (refine mix_free (v := ?_) rfl ?_ ?_; rotate_left; (focus (intro w' hI; have e4 := cells_of hI 4 _ rfl; have e0 := cells_of hI 3 _ rfl; clear hI; go_simp; try with_reducible rfl)); simp only [Act.put, List.setIfInBounds_toArray, List.set_cons_zero, List.set_cons_succ])
    refine mix_big rfl (fun K hK => ?_)
    go_wp2_with (go_at_call 28; refine HAP.out.mono ?_; rintro e w7 ⟨rfl, hj7, t7⟩; have HJ7 := Lib.hid hj7; have HT7 := Lib.hid (((Turns.refl nobody w).drew.mono (G := two p1 q1) (fun _ h => h.elim)).trans t7 (fun _ h => Or.inl h)); clear hj7 t7)
    have HV := Lib.hid (HH.out.set1 HJ7.out HG.out (by rw [HLN.out]; have := HH.out.s1; omega) HT7.out)
    refine hK _ _ (fun _ => HV.out.h) ?_
    clear hK K
    repeat (refine mix_free (v := ?_) rfl ?_ ?_; rotate_left; (focus (intro w' hI; clear hI; go_simp; try with_reducible rfl)); simp only [Act.put, List.setIfInBounds_toArray, List.set_cons_zero, List.set_cons_succ])
    refine mix_nil ?_
    go_wp2
    go_ret
    exact ⟨rfl, ⟨⟨q0, q1, p0, p1, HV.out⟩, Or.inr rfl⟩, JAt.ts HH.out.j1 HT7.out HH.out.bp1 HH.out.bq1⟩
set_option maxRecDepth 10000 in
set_option maxHeartbeats 1000000 in

theorem sync_any (B V : Nat) (m : M) (w : World) (hm : VM w B V m) (hsm : small m) :
    Calls Tryd.prog 43 #[.pointer (some ⟨V, 0, none⟩)] w fun e w' => e = .returned (.int .i64 ((m.L.length : Int) - m.n)) ∧ VM w' B V m.sync ∧ TS okV B w w' := by
  obtain ⟨⟨q0, q1, p0, p1, h⟩, hu⟩ := hm
  obtain ⟨L0, n0, L1, n1, u, no⟩ := m
  simp only at h hu
  rcases hu with rfl | rfl
  · rw [show M.sync ⟨L0, n0, L1, n1, 0, no⟩ = ⟨L0, L0.length, L1, n1, 0, no⟩ from rfl, show M.L ⟨L0, n0, L1, n1, 0, no⟩ = L0 from rfl, show M.n ⟨L0, n0, L1, n1, 0, no⟩ = n0 from rfl]
    have hd : Turns nobody w w.drew := (Turns.refl _ _).drew
    have hlu : L0.length ≤ 5000 := hsm.1
    have hap := journal.sync_any p0 q0 (cat L0) (endOf L0 n0) L0.length n0 w.drew (h.j0.still hd) (by omega) (by have := h.s0; omega) (by have := cat_16 h.g0 hlu; omega)
    rw [← endOf_all] at hap
    have c0 := cells_of h.h 0 _ rfl
    have HH := Lib.hid h
    have HAP := Lib.hid hap
    clear h hap hsm hlu
    go_enter Tryd.func43, Tryd.ntmps43
    go_upto_region 3 with (go_at_call 86; refine (none_no _ _ _ c0).mono ?_; rintro e w' ⟨rfl, rfl⟩)
    refine wp_region_mix [(0, true, true), (1, true, true), (2, true, true), (3, true, true), (4, true, true), (5, true, true), (6, true, true), (7, true, true), (8, true, true), (9, false, true), (10, true, true)] (fun W => W.heap[V]? = some (.cells #[.pointer (some ⟨q0, 0, none⟩), .pointer (some ⟨q1, 0, none⟩), .pointer (some ⟨p0, 0, none⟩), .pointer (some ⟨p1, 0, none⟩), .int .i64 0, .int .i64 (no : Int)] 110 (0, 0))) (by kernel_rfl) (by kernel_rfl) (HH.out.h) ?_
    simp only [picked, List.filterMap_cons, List.filterMap_nil, List.getElem?_toArray, List.getElem?_cons_zero, List.getElem?_cons_succ, Option.map_some]
    repeat (refine mix_free (v := ?_) rfl ?_ ?_; rotate_left; (focus (intro w' hI; have e4 := cells_of hI 4 _ rfl; have e0 := cells_of hI 2 _ rfl; clear hI; go_simp; try with_reducible rfl)); simp only [Act.put, List.setIfInBounds_toArray, List.set_cons_zero, List.set_cons_succ])
    refine mix_big rfl (fun K hK => ?_)
    go_wp2_with (go_at_call 29; refine HAP.out.mono ?_; rintro e w7 ⟨rfl, hj7, t7⟩; have HJ7 := Lib.hid hj7; have HT7 := Lib.hid (((Turns.refl nobody w).drew.mono (G := two p0 q0) (fun _ h => h.elim)).trans t7 (fun _ h => Or.inl h)); clear hj7 t7)
    have HV := Lib.hid (HH.out.set0 HJ7.out HH.out.g0 (Nat.le_refl _) HT7.out)
    refine hK _ _ (fun _ => HV.out.h) ?_
    clear hK K
    repeat (refine mix_free (v := ?_) rfl ?_ ?_; rotate_left; (focus (intro w' hI; clear hI; go_simp; try with_reducible rfl)); simp only [Act.put, List.setIfInBounds_toArray, List.set_cons_zero, List.set_cons_succ])
    refine mix_nil ?_
    go_wp2
    go_ret
    exact ⟨rfl, ⟨⟨q0, q1, p0, p1, HV.out⟩, Or.inl rfl⟩, JAt.ts HH.out.j0 HT7.out HH.out.bp0 HH.out.bq0⟩
  · rw [show M.sync ⟨L0, n0, L1, n1, 1, no⟩ = ⟨L0, n0, L1, L1.length, 1, no⟩ from rfl, show M.L ⟨L0, n0, L1, n1, 1, no⟩ = L1 from rfl, show M.n ⟨L0, n0, L1, n1, 1, no⟩ = n1 from rfl]
    have hd : Turns nobody w w.drew := (Turns.refl _ _).drew
    have hlu : L1.length ≤ 5000 := hsm.2
    have hap := journal.sync_any p1 q1 (cat L1) (endOf L1 n1) L1.length n1 w.drew (h.j1.still hd) (by omega) (by have := h.s1; omega) (by have := cat_16 h.g1 hlu; omega)
    rw [← endOf_all] at hap
    have c0 := cells_of h.h 0 _ rfl
    have HH := Lib.hid h
    have HAP := Lib.hid hap
    clear h hap hsm hlu
    go_enter Tryd.func43, Tryd.ntmps43
    go_upto_region 3 with (go_at_call 86; refine (none_no _ _ _ c0).mono ?_; rintro e w' ⟨rfl, rfl⟩)
    refine wp_region_mix [(0, true, true), (1, true, true), (2, true, true), (3, true, true), (4, true, true), (5, true, true), (6, true, true), (7, true, true), (8, true, true), (9, false, true), (10, true, true)] (fun W => W.heap[V]? = some (.cells #[.pointer (some ⟨q0, 0, none⟩), .pointer (some ⟨q1, 0, none⟩), .pointer (some ⟨p0, 0, none⟩), .pointer (some ⟨p1, 0, none⟩), .int .i64 1, .int .i64 (no : Int)] 110 (0, 0))) (by kernel_rfl) (by kernel_rfl) (HH.out.h) ?_
    simp only [picked, List.filterMap_cons, List.filterMap_nil, List.getElem?_toArray, List.getElem?_cons_zero, List.getElem?_cons_succ, Option.map_some]
    repeat (refine mix_free (v := ?_) rfl ?_ ?_; rotate_left; (focus (intro w' hI; have e4 := cells_of hI 4 _ rfl; have e0 := cells_of hI 3 _ rfl; clear hI; go_simp; try with_reducible rfl)); simp only [Act.put, List.setIfInBounds_toArray, List.set_cons_zero, List.set_cons_succ])
    refine mix_big rfl (fun K hK => ?_)
    go_wp2_with (go_at_call 29; refine HAP.out.mono ?_; rintro e w7 ⟨rfl, hj7, t7⟩; have HJ7 := Lib.hid hj7; have HT7 := Lib.hid (((Turns.refl nobody w).drew.mono (G := two p1 q1) (fun _ h => h.elim)).trans t7 (fun _ h => Or.inl h)); clear hj7 t7)
    have HV := Lib.hid (HH.out.set1 HJ7.out HH.out.g1 (Nat.le_refl _) HT7.out)
    refine hK _ _ (fun _ => HV.out.h) ?_
    clear hK K
    repeat (refine mix_free (v := ?_) rfl ?_ ?_; rotate_left; (focus (intro w' hI; clear hI; go_simp; try with_reducible rfl)); simp only [Act.put, List.setIfInBounds_toArray, List.set_cons_zero, List.set_cons_succ])
    refine mix_nil ?_
    go_wp2
    go_ret
    exact ⟨rfl, ⟨⟨q0, q1, p0, p1, HV.out⟩, Or.inr rfl⟩, JAt.ts HH.out.j1 HT7.out HH.out.bp1 HH.out.bq1⟩
theorem pick_012 (a b : Int) : pick a b = 0 ∨ pick a b = 1 ∨ pick a b = 2 := by
  unfold pick
  split
  · split <;> simp
  · split <;> simp
theorem useOf_01 {a b : Int} {u : Nat} (hu : u = 0 ∨ u = 1) : useOf a b u = 0 ∨ useOf a b u = 1 := by
  unfold useOf
  rcases pick_012 a b with h | h | h <;> rw [h]
  · exact Or.inl rfl
  · exact Or.inr rfl
  · exact hu
/-- What load leaves is a vault. -/
theorem S2.vm {w W : World} {B V q0 q1 u no p0 p1 : Nat} {L0 L1 : List RV} {out : Value} {l0 l1 : List RV} {n0 n1 : Nat} (h : S2 w B V q0 q1 u no L0 L1 p0 p1 out W) (hu : u = 0 ∨ u = 1) (hg0 : record.Good L0) (hg1 : record.Good L1) (hne : q0 ≠ q1) (hV : B ≤ V) (hq0 : B ≤ q0) (hq1 : B ≤ q1) : VM W B V (M.load ⟨l0, n0, l1, n1, u, no⟩ L0 L1) :=
  ⟨⟨q0, q1, p0, p1, ⟨h.h, by show JAt W p0 q0 (cat L0) (endOf L0 L0.length) L0.length L0.length; rw [endOf_all]; exact h.j0, by show JAt W p1 q1 (cat L1) (endOf L1 L1.length) L1.length L1.length; rw [endOf_all]; exact h.j1, hg0, hg1, Nat.le_refl _, Nat.le_refl _, hne, hV, hq0, hq1, h.bp0, h.bp1⟩⟩, useOf_01 hu⟩
/-- What is read of a file. -/
theorem read_of {L : List RV} (hg : record.Good L) {m : Nat} (hm : m ≤ (cat L).length) {k E : Nat} (hD : Done ⟨((cat L).take m).toArray⟩ k E) : recs ⟨((cat L).take m).toArray⟩ k = L.take (cutN L m) := by
  have h := torn_cut hg hm (s := ⟨((cat L).take m).toArray⟩) (by simp) hD
  rw [h.2.1, h.1]
theorem read_all {L : List RV} (hg : record.Good L) {k E : Nat} (hD : Done ⟨(cat L).toArray⟩ k E) : recs ⟨(cat L).toArray⟩ k = L := by
  have h := whole_done hg (s := ⟨(cat L).toArray⟩) (by simp)
  obtain ⟨rfl, _⟩ := hD.uniq h.1
  exact h.2.1
set_option maxRecDepth 10000 in
set_option maxHeartbeats 1000000 in

theorem crash_any (B V : Nat) (m : M) (k : Int) (w : World) (hm : VM w B V m) (hsm : small m) (hk1 : -9223372036854775808 ≤ k) (hk2 : k ≤ 9223372036854775807) (ht : TabB B w) :
    Calls Tryd.prog 44 #[.pointer (some ⟨V, 0, none⟩), .int .i64 k] w fun e w' => ∃ v, e = .returned v ∧ TSl w' v (m.crashT k) ∧ (∀ i, blk v i → w.heap.size ≤ i) ∧ VM w' B V (m.crash k) ∧ TS okV B w w' := by
  obtain ⟨⟨q0, q1, p0, p1, h⟩, hu⟩ := hm
  obtain ⟨L0, n0, L1, n1, u, no⟩ := m
  simp only at h hu
  rcases hu with rfl | rfl
  · rw [show M.crash ⟨L0, n0, L1, n1, 0, no⟩ k = M.load ⟨L0, n0, L1, n1, 0, no⟩ (leftOf L0 n0 k) L1 from rfl, show M.crashT ⟨L0, n0, L1, n1, 0, no⟩ k = loadT (leftOf L0 n0 k) L1 from rfl]
    have hd : Turns nobody w w.drew := (Turns.refl _ _).drew
    have hlu : L0.length ≤ 5000 := hsm.1
    have hlo : L1.length ≤ 5000 := hsm.2
    have hap := block.crash_any q0 (cat L0) (endOf L0 n0) k w.drew (block_still h.j0.b hd) (by have := cat_16 h.g0 hlu; omega) hk1 hk2
    have HLF : Hid (leftOf L0 n0 k = L0.take (cutN L0 (keepOf (cat L0).length (endOf L0 n0) k))) := Lib.hid rfl
    have hml : keepOf (cat L0).length (endOf L0 n0) k ≤ (cat L0).length := keepOf_le h.j0.b.1 k
    obtain ⟨m, hmm⟩ : ∃ m, keepOf (cat L0).length (endOf L0 n0) k = m := ⟨_, rfl⟩
    rw [hmm] at hap hml HLF
    have HM := Lib.hid (And.intro hmm hml)
    have c0 := cells_of h.h 0 _ rfl
    have HH := Lib.hid h
    have HAP := Lib.hid hap
    have HTB := Lib.hid ht
    have HL := Lib.hid (And.intro hlu hlo)
    clear h hap hsm hlu hlo hk1 hk2 hmm hml ht hd
    go_enter Tryd.func44, Tryd.ntmps44
    go_upto_region 3 with (go_at_call 86; refine (none_no _ _ _ c0).mono ?_; rintro e w' ⟨rfl, rfl⟩)
    refine wp_region_mix [(0, true, true), (1, true, true), (2, true, true), (3, true, true), (4, true, true), (5, true, true), (6, true, true), (7, true, true), (8, true, true), (9, true, true), (10, false, false)] (fun W => W.heap[V]? = some (.cells #[.pointer (some ⟨q0, 0, none⟩), .pointer (some ⟨q1, 0, none⟩), .pointer (some ⟨p0, 0, none⟩), .pointer (some ⟨p1, 0, none⟩), .int .i64 0, .int .i64 (no : Int)] 110 (0, 0))) (by kernel_rfl) (by kernel_rfl) (HH.out.h) ?_
    simp only [picked, List.filterMap_cons, List.filterMap_nil, List.getElem?_toArray, List.getElem?_cons_zero, List.getElem?_cons_succ, Option.map_some]
    repeat (refine mix_free (v := ?_) rfl ?_ ?_; rotate_left; (focus (intro w' hI; have e4 := cells_of hI 4 _ rfl; have e0 := cells_of hI 0 _ rfl; clear hI; go_simp; try with_reducible rfl)); simp only [Act.put, List.setIfInBounds_toArray, List.set_cons_zero, List.set_cons_succ])
    refine mix_big rfl (fun K hK => ?_)
    go_wp2_with (go_at_call 79; refine HAP.out.mono ?_; rintro e w7 ⟨rfl, b7, g7⟩; have HB7 := Lib.hid b7; have HT7 := Lib.hid (((Turns.refl nobody w).drew.mono (G := fun i => i = q0) (fun _ h => h.elim)).trans (turns_one g7) (fun _ h => Or.inl h)); clear b7 g7)
    refine hK _ _ (by simp) ?_
    clear hK K
    refine mix_nil ?_
    have hts7 : TS okV B w w7 := BlockAt.ts HH.out.j0.b HT7.out HH.out.bq0
    have hlu := HL.out.1
    have hlo := HL.out.2
    have hbo : BlockAt w7 q1 (cat L1) (endOf L1 n1) := block_keep HH.out.j1.b HT7.out (fun e => HH.out.ne e.symm) (nobytes_block HH.out.j0.b)
    have hld := load_any B V q0 q1 _ _ 0 no ((cat L0).take m) m (cat L1) (endOf L1 n1) w7 (heap_newer HH.out.h HT7.out (v_ne_q HH.out.h HH.out.j0.b)) HB7.out hbo (by rw [List.length_take]; have := cat_16 HH.out.g0 hlu; omega) (cat_16 HH.out.g1 hlo) HH.out.ne HH.out.bV HH.out.bq0 HH.out.bq1 (Nat.le_trans HH.out.size HT7.out.size) (HTB.out.ts hts7)
    have HTS7 := Lib.hid hts7
    clear hts7 hlu hlo hbo c0
    go_wp2_with (go_at_call 84; refine hld.mono ?_; rintro e w8 ⟨k0, E0, P0, k1, E1, P1, v, hD0, hD1, rfl, hs2⟩; have HDD := Lib.hid (And.intro hD0 hD1); have HS2 := Lib.hid hs2; clear hD0 hD1 hs2)
    go_ret
    have hs2 := HS2.out
    have hr0 := read_of HH.out.g0 HM.out.2 HDD.out.1
    have hr1 := read_all HH.out.g1 HDD.out.2
    rw [← HLF.out] at hr0
    rw [hr0, hr1] at hs2
    exact ⟨_, rfl, hs2.s, fun i hi => Nat.le_trans HTS7.out.size (hs2.n i hi), S2.vm hs2 (Or.inl rfl) (good_take HH.out.g0 _) HH.out.g1 HH.out.ne HH.out.bV HH.out.bq0 HH.out.bq1, HTS7.out.trans hs2.ts⟩
  · rw [show M.crash ⟨L0, n0, L1, n1, 1, no⟩ k = M.load ⟨L0, n0, L1, n1, 1, no⟩ L0 (leftOf L1 n1 k) from rfl, show M.crashT ⟨L0, n0, L1, n1, 1, no⟩ k = loadT L0 (leftOf L1 n1 k) from rfl]
    have hd : Turns nobody w w.drew := (Turns.refl _ _).drew
    have hlu : L1.length ≤ 5000 := hsm.2
    have hlo : L0.length ≤ 5000 := hsm.1
    have hap := block.crash_any q1 (cat L1) (endOf L1 n1) k w.drew (block_still h.j1.b hd) (by have := cat_16 h.g1 hlu; omega) hk1 hk2
    have HLF : Hid (leftOf L1 n1 k = L1.take (cutN L1 (keepOf (cat L1).length (endOf L1 n1) k))) := Lib.hid rfl
    have hml : keepOf (cat L1).length (endOf L1 n1) k ≤ (cat L1).length := keepOf_le h.j1.b.1 k
    obtain ⟨m, hmm⟩ : ∃ m, keepOf (cat L1).length (endOf L1 n1) k = m := ⟨_, rfl⟩
    rw [hmm] at hap hml HLF
    have HM := Lib.hid (And.intro hmm hml)
    have c0 := cells_of h.h 0 _ rfl
    have HH := Lib.hid h
    have HAP := Lib.hid hap
    have HTB := Lib.hid ht
    have HL := Lib.hid (And.intro hlu hlo)
    clear h hap hsm hlu hlo hk1 hk2 hmm hml ht hd
    go_enter Tryd.func44, Tryd.ntmps44
    go_upto_region 3 with (go_at_call 86; refine (none_no _ _ _ c0).mono ?_; rintro e w' ⟨rfl, rfl⟩)
    refine wp_region_mix [(0, true, true), (1, true, true), (2, true, true), (3, true, true), (4, true, true), (5, true, true), (6, true, true), (7, true, true), (8, true, true), (9, true, true), (10, false, false)] (fun W => W.heap[V]? = some (.cells #[.pointer (some ⟨q0, 0, none⟩), .pointer (some ⟨q1, 0, none⟩), .pointer (some ⟨p0, 0, none⟩), .pointer (some ⟨p1, 0, none⟩), .int .i64 1, .int .i64 (no : Int)] 110 (0, 0))) (by kernel_rfl) (by kernel_rfl) (HH.out.h) ?_
    simp only [picked, List.filterMap_cons, List.filterMap_nil, List.getElem?_toArray, List.getElem?_cons_zero, List.getElem?_cons_succ, Option.map_some]
    repeat (refine mix_free (v := ?_) rfl ?_ ?_; rotate_left; (focus (intro w' hI; have e4 := cells_of hI 4 _ rfl; have e0 := cells_of hI 1 _ rfl; clear hI; go_simp; try with_reducible rfl)); simp only [Act.put, List.setIfInBounds_toArray, List.set_cons_zero, List.set_cons_succ])
    refine mix_big rfl (fun K hK => ?_)
    go_wp2_with (go_at_call 79; refine HAP.out.mono ?_; rintro e w7 ⟨rfl, b7, g7⟩; have HB7 := Lib.hid b7; have HT7 := Lib.hid (((Turns.refl nobody w).drew.mono (G := fun i => i = q1) (fun _ h => h.elim)).trans (turns_one g7) (fun _ h => Or.inl h)); clear b7 g7)
    refine hK _ _ (by simp) ?_
    clear hK K
    refine mix_nil ?_
    have hts7 : TS okV B w w7 := BlockAt.ts HH.out.j1.b HT7.out HH.out.bq1
    have hlu := HL.out.1
    have hlo := HL.out.2
    have hbo : BlockAt w7 q0 (cat L0) (endOf L0 n0) := block_keep HH.out.j0.b HT7.out (fun e => HH.out.ne e) (nobytes_block HH.out.j1.b)
    have hld := load_any B V q0 q1 _ _ 1 no (cat L0) (endOf L0 n0) ((cat L1).take m) m w7 (heap_newer HH.out.h HT7.out (v_ne_q HH.out.h HH.out.j1.b)) hbo HB7.out (cat_16 HH.out.g0 hlo) (by rw [List.length_take]; have := cat_16 HH.out.g1 hlu; omega) HH.out.ne HH.out.bV HH.out.bq0 HH.out.bq1 (Nat.le_trans HH.out.size HT7.out.size) (HTB.out.ts hts7)
    have HTS7 := Lib.hid hts7
    clear hts7 hlu hlo hbo c0
    go_wp2_with (go_at_call 84; refine hld.mono ?_; rintro e w8 ⟨k0, E0, P0, k1, E1, P1, v, hD0, hD1, rfl, hs2⟩; have HDD := Lib.hid (And.intro hD0 hD1); have HS2 := Lib.hid hs2; clear hD0 hD1 hs2)
    go_ret
    have hs2 := HS2.out
    have hr1 := read_of HH.out.g1 HM.out.2 HDD.out.2
    have hr0 := read_all HH.out.g0 HDD.out.1
    rw [← HLF.out] at hr1
    rw [hr0, hr1] at hs2
    exact ⟨_, rfl, hs2.s, fun i hi => Nat.le_trans HTS7.out.size (hs2.n i hi), S2.vm hs2 (Or.inr rfl) HH.out.g0 (good_take HH.out.g1 _) HH.out.ne HH.out.bV HH.out.bq0 HH.out.bq1, HTS7.out.trans hs2.ts⟩
end Go.Proofs.YtlhcmgjkhkcgcaaDoor.vault

namespace Go.Proofs.YtlhcmgjkhkcgcaaDoor.vault
open Go.RowKit
open Go.Proofs.YtlhcmgjkhkcgcaaDoor.stepkit Go.Proofs.YtlhcmgjkhkcgcaaDoor.obj Go.Proofs.YtlhcmgjkhkcgcaaDoor.row Go.Proofs.YtlhcmgjkhkcgcaaDoor.mix Go.Proofs.YtlhcmgjkhkcgcaaDoor.idkit Go.Proofs.YtlhcmgjkhkcgcaaDoor.bytes Go.Proofs.YtlhcmgjkhkcgcaaDoor.octet Go.Proofs.YtlhcmgjkhkcgcaaDoor.eqkit Go.Proofs.YtlhcmgjkhkcgcaaDoor.record Go.Proofs.YtlhcmgjkhkcgcaaDoor.argkit
open Go.Proofs.YtlhcmgjkhkcgcaaDoor.journal (JAt two NoBytes turns_one block_keep block_still block_lt at_store)
open Go.Proofs.YtlhcmgjkhkcgcaaDoor.block (BlockAt keepOf keepOf_le keepOf_ge keepOf_all)

/-- One record more in a file. -/
theorem japp {W : World} {p q : Nat} {L : List RV} {n : Nat} (r : RV) (h : JAt W p q (cat L) (endOf L n) L.length n) (hg : record.Good L) (hs : n ≤ L.length) (hl : L.length ≤ 5000) (hr : good r = true) (ht : crc.TabAt W) :
    Calls Tryd.prog 28 #[.pointer (some ⟨p, 0, none⟩), .agg #[.int .i64 r.1, .string r.2]] W fun e w' => e = .returned (.int .i64 0) ∧ JAt w' p q (cat (L ++ [r])) (endOf (L ++ [r]) n) (L ++ [r]).length n ∧ Turns (two p q) W w' := by
  have hgi := good_iff hr
  have hap := journal.append_ok p q (cat L) (endOf L n) L.length n r.1 r.2 W h (by omega) (cat_16 hg hl) (by omega) ht hgi.2.2.2
  rw [cat_put hgi.2.2.2] at hap
  have hen : endOf (L ++ [r]) n = endOf L n := by unfold endOf; rw [List.take_append_of_le_length hs]
  have hln : (L ++ [r]).length = L.length + 1 := by simp
  rw [← hen, ← hln] at hap
  exact hap
theorem jsync {W : World} {p q : Nat} {L : List RV} {n : Nat} (h : JAt W p q (cat L) (endOf L n) L.length n) (hg : record.Good L) (hs : n ≤ L.length) (hl : L.length ≤ 5000) :
    Calls Tryd.prog 29 #[.pointer (some ⟨p, 0, none⟩)] W fun e w' => e = .returned (.int .i64 ((L.length : Int) - n)) ∧ JAt w' p q (cat L) (endOf L L.length) L.length L.length ∧ Turns (two p q) W w' := by
  have hap := journal.sync_any p q (cat L) (endOf L n) L.length n W h (by omega) (by omega) (by have := cat_16 hg hl; omega)
  rw [← endOf_all] at hap
  exact hap
def M0 : M := ⟨[genR 0, sealR], 2, [], 0, 0, 0⟩
theorem recs_nil {k E : Nat} (hD : Done ⟨(⟨#[]⟩ : ByteArray).data.toList.toArray⟩ k E) : recs ⟨(⟨#[]⟩ : ByteArray).data.toList.toArray⟩ k = [] := by
  obtain ⟨rfl, _⟩ := hD.uniq journal.done_nil
  rfl
theorem build_seal (W : World) : (Instr.build 23 #[(0, .int .i64 2)]).run Tryd.prog W = .ok (.agg #[.int .i64 2, .string nil]) W := by kernel_rfl
set_option maxRecDepth 10000 in
set_option maxHeartbeats 2000000 in
theorem new_any (w : World) (ht : TabB w.heap.size w) :
    Calls Tryd.prog 41 #[] w fun e w' => ∃ V, e = .returned (.pointer (some ⟨V, 0, none⟩)) ∧ VM w' w.heap.size V M0 ∧ TS okV w.heap.size w w' := by
  have hof := of_any ⟨#[]⟩ ⟨#[]⟩ w (by decide) (by decide)
  obtain ⟨B, hB⟩ : ∃ B, w.heap.size = B := ⟨_, rfl⟩
  have hbs := build_seal
  have HTB := Lib.hid ht
  have HB := Lib.hid hB
  clear ht
  go_enter Tryd.func41, Tryd.ntmps41
  go_upto_region 2 with (go_at_call 83; refine hof.mono ?_; rintro e w1 ⟨V, q0, q1, rfl, ho⟩; have HO := Lib.hid ho; clear ho)
  clear hof
  have hld := load_any B V q0 q1 _ _ 0 0 _ _ _ _ w1 HO.out.h HO.out.b0 HO.out.b1 (by decide) (by decide) HO.out.ne (by rw [← HB.out]; exact HO.out.v) (by rw [← HB.out]; exact HO.out.n0) (by rw [← HB.out]; exact HO.out.n1) (by rw [← HB.out]; exact HO.out.t.size) (by rw [← HB.out]; exact HTB.out.still HO.out.t)
  go_upto_region 3 with (go_at_call 84; refine hld.mono ?_; rintro e w2 ⟨k0, E0, p0, k1, E1, p1, v, hD0, hD1, rfl, hs2⟩; rw [recs_nil hD0, recs_nil hD1] at hs2; have HS2 := Lib.hid hs2; clear hD0 hD1 hs2)
  clear hld
  have hc : w2.heap[V]? = some (.cells #[.pointer (some ⟨q0, 0, none⟩), .pointer (some ⟨q1, 0, none⟩), .pointer (some ⟨p0, 0, none⟩), .pointer (some ⟨p1, 0, none⟩), .int .i64 0, .int .i64 0] 110 (0, 0)) := HS2.out.h
  have c4 := cells_of hc 4 _ rfl
  have c5 := cells_of hc 5 _ rfl
  have f4 := free_of hc 4
  have f5 := free_of hc 5
  obtain ⟨w3, hw3⟩ : ∃ w3, w3 = (w2.setCell ⟨V, 4, none⟩ (.int .i64 0)).setCell ⟨V, 5, none⟩ (.int .i64 0) := ⟨_, rfl⟩
  have hc4 := heap_setCell_at hc 4 (.int .i64 0)
  have hc5 := heap_setCell_at hc4 5 (.int .i64 0)
  have hVG : VG w3 B V q0 q1 p0 p1 [] 0 [] 0 0 0 := by
    refine ⟨by rw [hw3]; exact hc5, by rw [hw3]; exact JAt.setV (JAt.setV HS2.out.j0 hc 4 _) hc4 5 _, by rw [hw3]; exact JAt.setV (JAt.setV HS2.out.j1 hc 4 _) hc4 5 _, (fun _ h => by cases h), (fun _ h => by cases h), Nat.le_refl _, Nat.le_refl _, HO.out.ne, by rw [← HB.out]; exact HO.out.v, by rw [← HB.out]; exact HO.out.n0, by rw [← HB.out]; exact HO.out.n1, HS2.out.bp0, HS2.out.bp1⟩
  have hts3 : TS okV B w w3 := by
    rw [hw3]
    have hVB : B ≤ V := by rw [← HB.out]; exact HO.out.v
    exact ((TS.still HO.out.t).trans HS2.out.ts).trans ((TS.setV hc hVB 4 _).trans (TS.setV hc4 hVB 5 _))
  have HW3 := Lib.hid hw3
  have HG3 := Lib.hid hVG
  have HTS3 := Lib.hid hts3
  have HTB' : Hid (TabB B w) := Lib.hid (by rw [← HB.out]; exact HTB.out)
  clear hc hw3 hc4 hc5 hVG hts3 HS2 HO HTB
  go_upto_region 4 with fail
  rw [← HW3.out]
  clear c4 c5 f4 f5 HW3
  have hgen := gen_any 0 w3.drew (by decide)
  have HGEN := Lib.hid hgen
  clear hgen
  refine wp_region_mix3 [(0, true, []), (1, true, []), (2, true, []), (3, true, []), (4, true, []), (5, false, [0, 1, 2, 3, 4]), (6, false, [])] [0, 1, 2, 3, 4] (fun _ W => W.heap[V]? = some (.cells #[.pointer (some ⟨q0, 0, none⟩), .pointer (some ⟨q1, 0, none⟩), .pointer (some ⟨p0, 0, none⟩), .pointer (some ⟨p1, 0, none⟩), .int .i64 0, .int .i64 0] 110 (0, 0))) (by kernel_rfl) (by kernel_rfl) (fun _ _ => HG3.out.h) ?_
  simp only [picked3, List.filterMap_cons, List.filterMap_nil, List.getElem?_toArray, List.getElem?_cons_zero, List.getElem?_cons_succ, Option.map_some]
  iterate 5 (refine mix3_free (v := ?_) rfl ?_ ?_; rotate_left; (focus (intro w' hI; have e2 := cells_of hI 2 _ rfl; clear hI; go_simp; try with_reducible rfl)); simp only [Act.put, List.setIfInBounds_toArray, List.set_cons_zero, List.set_cons_succ])
  refine mix3_big rfl (fun K hK => ?_)
  go_wp2_with (go_at_call 85; refine HGEN.out.mono ?_; rintro e w4 ⟨rfl, t4⟩; have HT4 := Lib.hid (((Turns.refl nobody w3).drew).trans t4 (fun _ h => h.elim)); clear t4)
  refine hK _ _ (fun _ _ => (HG3.out.still HT4.out).h) ?_
  clear hK K
  have hg4 := HG3.out.still HT4.out
  have htb4 := (HTB'.out.ts HTS3.out).still HT4.out
  have hap := japp (genR 0) hg4.j0 hg4.g0 (Nat.le_refl _) (by decide) (good_gen 0) htb4.t
  have HG4 := Lib.hid hg4
  have HTS4 := Lib.hid (HTS3.out.trans (TS.still HT4.out))
  clear hg4 htb4 HGEN HG3 HTS3 HT4
  rw [show (genR 0).1 = 1 from rfl, show (genR 0).2 = ⟨(be4 0).toArray⟩ from rfl] at hap
  refine mix3_big rfl (fun K hK => ?_)
  unfold recV
  go_wp2_with (go_at_call 28; refine hap.mono ?_; rintro e w5 ⟨rfl, hj5, t5⟩; have HG5 := Lib.hid (HG4.out.set0 hj5 (fun r hr => by rw [List.mem_singleton.1 hr]; exact good_gen 0) (Nat.zero_le _) t5); have HTS5 := Lib.hid (HTS4.out.trans (JAt.ts HG4.out.j0 t5 HG4.out.bp0 HG4.out.bq0)); clear hj5 t5)
  refine hK _ _ (by simp) ?_
  clear hK K hap
  refine mix3_nil ?_
  rw [List.nil_append] at HG5
  have hap := japp sealR HG5.out.j0 HG5.out.g0 (Nat.zero_le _) (by decide) good_seal (HTB'.out.ts HTS5.out).t
  rw [show sealR.1 = 2 from rfl, show sealR.2 = nil from rfl] at hap
  have c2 := cells_of HG5.out.h 2 _ rfl
  clear HG4 HTS4
  go_upto_region 6 with first
    | (with_reducible refine wpList_exec (exec_build _ _ rfl #[(0, .int .i64 2)] (by kernel_rfl) (hbs _)) rfl ?_)
    | (go_at_call 28; refine hap.mono ?_; rintro e w6 ⟨rfl, hj6, t6⟩; have HG6 := Lib.hid (HG5.out.set0 hj6 (fun r hr => by
        rcases List.mem_append.1 hr with h | h
        · rw [List.mem_singleton.1 h]; exact good_gen 0
        · rw [List.mem_singleton.1 h]; exact good_seal) (Nat.zero_le _) t6); have HTS6 := Lib.hid (HTS5.out.trans (JAt.ts HG5.out.j0 t6 HG5.out.bp0 HG5.out.bq0)); clear hj6 t6)
  clear c2 hap
  have c2 := cells_of HG6.out.h 2 _ rfl
  have hsy := jsync HG6.out.j0 HG6.out.g0 (Nat.zero_le _) (by decide)
  go_wp2_with (go_at_call 29; refine hsy.mono ?_; rintro e w7 ⟨rfl, hj7, t7⟩; have HG7 := Lib.hid (HG6.out.set0 hj7 HG6.out.g0 (Nat.le_refl _) t7); have HTS7 := Lib.hid (HTS6.out.trans (JAt.ts HG6.out.j0 t7 HG6.out.bp0 HG6.out.bq0)); clear hj7 t7)
  go_ret
  rw [HB.out]
  exact ⟨V, rfl, ⟨⟨q0, q1, p0, p1, HG7.out⟩, Or.inl rfl⟩, HTS7.out⟩
end Go.Proofs.YtlhcmgjkhkcgcaaDoor.vault

namespace Go.Proofs.YtlhcmgjkhkcgcaaDoor.vault
open Go.RowKit
open Go.Proofs.YtlhcmgjkhkcgcaaDoor.stepkit Go.Proofs.YtlhcmgjkhkcgcaaDoor.obj Go.Proofs.YtlhcmgjkhkcgcaaDoor.row Go.Proofs.YtlhcmgjkhkcgcaaDoor.mix Go.Proofs.YtlhcmgjkhkcgcaaDoor.idkit Go.Proofs.YtlhcmgjkhkcgcaaDoor.bytes Go.Proofs.YtlhcmgjkhkcgcaaDoor.octet Go.Proofs.YtlhcmgjkhkcgcaaDoor.eqkit Go.Proofs.YtlhcmgjkhkcgcaaDoor.record Go.Proofs.YtlhcmgjkhkcgcaaDoor.argkit
open Go.Proofs.YtlhcmgjkhkcgcaaDoor.journal (JAt two NoBytes turns_one block_keep block_still block_lt at_store)
open Go.Proofs.YtlhcmgjkhkcgcaaDoor.block (BlockAt keepOf keepOf_le keepOf_ge keepOf_all)

/-! ### What recovers -/
theorem ta_nil (W : World) : (Instr.typeAssert .nilIface 20 25 true).run Tryd.prog W = .ok (.tuple #[.int .i64 0, .bool false]) W := by kernel_rfl
theorem ta_errno (n : Int) (W : World) : (Instr.typeAssert (.iface 25 (.int .i64 n)) 20 25 true).run Tryd.prog W = .ok (.tuple #[.int .i64 n, .bool true]) W := by kernel_rfl
set_option maxRecDepth 20000 in
set_option maxHeartbeats 1000000 in
theorem catch_idle (p : Addr) (w : World) :
    CallsD Tryd.prog 108 #[.pointer (some p)] .returning w fun e u' w' => e = .returned (.tuple #[]) ∧ u' = .returning ∧ w' = w := by
  have hta := ta_nil
  refine callsD_of_wpS Tryd.func108 rfl fun c₀ cs hu => ?_
  simp only [Tryd.ntmps108, List.size_toArray, List.length_cons, List.length_nil, Nat.reduceAdd, Nat.reduceSub, Array.replicate_succ, Array.replicate_zero, List.push_toArray, List.append_toArray, List.nil_append, List.cons_append]
  apply wpS_seq
  apply wpS_region
  simp [wpOpsS, go_sem, recoverD, hu, Exit.thenS, hta]
  apply wpS_seq
  apply wpS_region
  simp [wpOpsS, go_sem, recoverD, hu, Exit.thenS, hta]
  refine wpS_cond (t := false) (by simp [Act.eval, Array.replicate]) ?_
  simp only [Bool.false_eq_true, if_false]
  refine wpS_of_wp (wp_skip ?_)
  cases c₀
  simp_all [bodyPostS, results, Tryd.results108]
set_option maxRecDepth 20000 in
set_option maxHeartbeats 1000000 in
theorem catch_panicking (p : Addr) (n : Int) (older : List PanicEntry) (w : World) (hc : w.cell? p = some (.int .i64 0)) (hz : w.frozen? p = false) :
    CallsD Tryd.prog 108 #[.pointer (some p)] (.panicking ({ v := .iface 25 (.int .i64 n), recovered := false } :: older)) w fun e u' w' =>
      e = .returned (.tuple #[]) ∧ u' = .panicking ({ v := .iface 25 (.int .i64 n), recovered := true } :: older) ∧ w' = w.setCell p (.int .i64 n) := by
  have hta := ta_errno n
  refine callsD_of_wpS Tryd.func108 rfl fun c₀ cs hu => ?_
  simp only [Tryd.ntmps108, List.size_toArray, List.length_cons, List.length_nil, Nat.reduceAdd, Nat.reduceSub, Array.replicate_succ, Array.replicate_zero, List.push_toArray, List.append_toArray, List.nil_append, List.cons_append]
  apply wpS_seq
  apply wpS_region
  simp [wpOpsS, go_sem, recoverD, hu, Exit.thenS, hta]
  apply wpS_seq
  apply wpS_region
  simp [wpOpsS, go_sem, recoverD, hu, Exit.thenS, hta]
  refine wpS_cond (t := true) (by simp [Act.eval, Array.replicate]) ?_
  simp only [if_true]
  apply wpS_region
  simp [wpOpsS, go_sem, hc, hz, bodyPostS, results, Tryd.results108]
/-! ### lay -/
def M.lay (m : M) (T : List ByteArray) : M := m.sync.put (snap (m.no + 1) T) 0
theorem TAt.keep {ok : TypeId → Prop} {B : Nat} {w w' : World} {v : Value} {T : List ByteArray} (h : TAt w v T) (hk : ∀ b o s, w.cell? ⟨b, o, none⟩ = some (.string s) → w'.cell? ⟨b, o, none⟩ = some (.string s)) : TAt w' v T := by
  obtain ⟨ao, cap, rfl, hc⟩ := h
  refine ⟨ao, cap, rfl, fun i hi => ?_⟩
  obtain ⟨b, o, h1, h2⟩ := hc i hi
  exact ⟨b, o, h1, hk _ _ _ h2⟩
set_option maxRecDepth 10000 in
set_option maxHeartbeats 1000000 in
theorem lay_bad (B V : Nat) (m : M) (v : Value) (T : List ByteArray) (w : World) (hm : VM w B V m) (hT : ∀ W, TS okV B w W → TAt W v T) (hl : T.length ≤ 16777216) (hs : ∀ s ∈ T, s.size ≤ 1048576) (hno : 2147483647 ≤ m.no) :
    Calls Tryd.prog 87 #[.pointer (some ⟨V, 0, none⟩), v] w fun e w' => e = .returned (.int .i64 3) ∧ Turns nobody w w' := by
  have hmf : ∀ (fn : Fn) (first cap : Array Value) (w : World), (Instr.makeFunc fn first cap).run Tryd.prog w = .ok (.func fn first cap) w := fun _ _ _ _ => rfl
  obtain ⟨E, hE⟩ : ∃ E, w.heap.size = E := ⟨_, rfl⟩
  obtain ⟨w1, hw1⟩ : ∃ w1, w1 = w.alloc (.cells #[.int .i64 0] 25) := ⟨_, rfl⟩
  have t1 : Turns nobody w w1 := by rw [hw1]; exact (Turns.refl _ _).alloc _
  have h1 : w1.heap[E]? = some (.cells #[.int .i64 0] 25 (0, 0)) := by rw [hw1, ← hE]; exact heap_alloc_new w _
  have hT1 := hT w1 (TS.still t1)
  obtain ⟨q0, q1, p0, p1, hg⟩ := (hm.still t1).c
  have hmay := may_any V m.no v T w1 (cells_of hg.h 5 _ rfl) hT1 hl hs
  rw [decide_eq_false (by omega)] at hmay
  obtain ⟨ao, cap, rfl, -⟩ := hT1
  have HW1 := Lib.hid hw1
  have HT1 := Lib.hid t1
  have HH1 := Lib.hid h1
  have HE := Lib.hid hE
  clear hw1 t1 h1 hT hm hs hg
  go_enter_defers Tryd.func87, Tryd.ntmps87
  go_upto_region 1 with fail
  rw [← HW1.out]
  clear hE HW1
  go_wp2_with (go_at_call 109; refine hmay.mono ?_; rintro e w' ⟨rfl, rfl⟩)
  refine leaves_cons (f := 108) (args := #[.pointer (some ⟨E, 0, none⟩)]) (by simp) (by simp [go_sem]) ?_
  refine (catch_panicking ⟨E, 0, none⟩ 3 [] _ (cells_of HH1.out 0 _ rfl) (free_of HH1.out 0)).mono ?_
  rintro e u' w'' ⟨rfl, rfl, rfl⟩
  have hc := cells_of (heap_setCell_at HH1.out 0 (.int .i64 3)) 0 _ rfl
  have HF := Lib.hid (HT1.out.trans2 (Turns.set w1 E 0 (.int .i64 3)) (fun i hi => by rw [show i = E from hi]; have := HE.out; omega))
  generalize w1.setCell ⟨E, 0, none⟩ (.int .i64 3) = W at *
  simp [Leaves, settle, results, Tryd.results87, go_sem, hc]
  exact HF.out
/-- In the midst of a snapshot. -/
structure LG (w : World) (B V : Nat) (cur : Array Value) (pu qu : Nat) (Lu : List RV) (P qo : Nat) (Lo : List RV) (W : World) : Prop where
  h : W.heap[V]? = some (.cells cur 110 (0, 0))
  ju : JAt W pu qu (cat Lu) (endOf Lu Lu.length) Lu.length Lu.length
  jo : JAt W P qo (cat Lo) (endOf Lo 0) Lo.length 0
  g : record.Good Lo
  ne : qu ≠ qo
  pP : pu ≠ P
  bq : B ≤ qo
  bP : B ≤ P
  bV : B ≤ V
  ts : TS okV B w W
theorem LG.still {w W W' : World} {B V : Nat} {cur : Array Value} {pu qu : Nat} {Lu : List RV} {P qo : Nat} {Lo : List RV} (h : LG w B V cur pu qu Lu P qo Lo W) (ht : Turns nobody W W') : LG w B V cur pu qu Lu P qo Lo W' :=
  ⟨heap_newer h.h ht (fun h => h), h.ju.still ht, h.jo.still ht, h.g, h.ne, h.pP, h.bq, h.bP, h.bV, h.ts.trans (TS.still ht)⟩
theorem LG.vne {w W : World} {B V : Nat} {cur : Array Value} {pu qu : Nat} {Lu : List RV} {P qo : Nat} {Lo : List RV} (h : LG w B V cur pu qu Lu P qo Lo W) : V ≠ P ∧ V ≠ qo := by
  refine ⟨?_, v_ne_q h.h h.jo.b⟩
  rintro rfl
  have h2 := h.jo.h
  rw [h.h] at h2
  simp at h2
theorem LG.app {w W W' : World} {B V : Nat} {cur : Array Value} {pu qu : Nat} {Lu : List RV} {P qo : Nat} {Lo : List RV} (h : LG w B V cur pu qu Lu P qo Lo W) {Lo' : List RV} (hj : JAt W' P qo (cat Lo') (endOf Lo' 0) Lo'.length 0) (hg : record.Good Lo') (ht : Turns (two P qo) W W') : LG w B V cur pu qu Lu P qo Lo' W' := by
  obtain ⟨v1, v2⟩ := h.vne
  refine ⟨heap_newer h.h ht (fun e => by rcases e with e | e; exact v1 e; exact v2 e), h.ju.keep ht (fun e => ?_) (fun e => ?_) h.jo.nobytes, hj, hg, h.ne, h.pP, h.bq, h.bP, h.bV, h.ts.trans (JAt.ts h.jo ht h.bP h.bq)⟩
  · rcases e with e | e
    · exact h.pP e
    · exact block_ne_j h.ju h.jo e
  · rcases e with e | e
    · exact block_ne_j h.jo h.ju e.symm
    · exact h.ne e
theorem snap_part (n : Nat) (T : List ByteArray) (hT : ∀ s ∈ T, s.size ≤ 300) (k : Nat) : record.Good (genR n :: (T.take k).map entR) := by
  intro r hr
  rcases List.mem_cons.1 hr with rfl | hr
  · exact good_gen n
  · obtain ⟨s, hs, rfl⟩ := List.mem_map.1 hr
    exact good_ent (hT s (List.mem_of_mem_take hs))
theorem snap_step (n : Nat) (T : List ByteArray) (k : Nat) (hk : k < T.length) : genR n :: (T.take k).map entR ++ [entR (T.getD k nil)] = genR n :: (T.take (k + 1)).map entR := by
  rw [List.take_add_one, List.getElem?_eq_getElem hk, List.getD_eq_getElem?_getD, List.getElem?_eq_getElem hk, List.map_append]
  rfl
theorem VG.still_ts {w w' : World} {B V q0 q1 p0 p1 : Nat} {L0 : List RV} {n0 : Nat} {L1 : List RV} {n1 : Nat} {u no : Nat} (h : VG w B V q0 q1 p0 p1 L0 n0 L1 n1 u no) (ht : Turns nobody w w') : VG w' B V q0 q1 p0 p1 L0 n0 L1 n1 u no := h.still ht
/-- New memory beside. -/
theorem TS.fresh {ok : TypeId → Prop} {B : Nat} {w W W' : World} {E : Nat} (h : TS ok B w W) (ht : Turns (fun i => i = E) W W') (hE : w.heap.size ≤ E) : TS ok B w W' := by
  obtain ⟨F, h1, h2⟩ := h.out
  exact ⟨F, h1.trans ht (fun i hi => Or.inr (by rw [show i = E from hi]; exact hE)), h2⟩
theorem BlockAt.setT {w : World} {E q : Nat} {cur : Array Value} {T : TypeId} {l : List UInt8} {sb : Nat} (hb : BlockAt w q l sb) (h : w.heap[E]? = some (.cells cur T (0, 0))) (h1 : T ≠ 79) (h2 : T ≠ 5) (k : Nat) (v : Value) : BlockAt (w.setCell ⟨E, k, none⟩ v) q l sb := by
  refine block_keep hb (Turns.set w E k v) (fun e => ?_) (fun i hi c hc => ?_)
  · obtain ⟨_, u, h3, _⟩ := hb
    have e : q = E := e
    rw [e, h] at h3
    simp at h3
    exact h1 h3.2
  · have e : i = E := hi
    rw [e, h] at hc
    simp at hc
    exact h2 hc.2
theorem JAt.setT {w : World} {E p q : Nat} {cur : Array Value} {T : TypeId} {l : List UInt8} {sb n sn : Nat} (hj : JAt w p q l sb n sn) (h : w.heap[E]? = some (.cells cur T (0, 0))) (h1 : T ≠ 79) (h2 : T ≠ 5) (h3 : T ≠ 77) (k : Nat) (v : Value) : JAt (w.setCell ⟨E, k, none⟩ v) p q l sb n sn := by
  refine ⟨heap_newer hj.h (Turns.set w E k v) (fun e => ?_), BlockAt.setT hj.b h h1 h2 k v⟩
  have e : p = E := e
  have h4 := hj.h
  rw [e, h] at h4
  simp at h4
  exact h3 h4.2
theorem VG.errset {w : World} {B V q0 q1 p0 p1 E : Nat} {L0 : List RV} {n0 : Nat} {L1 : List RV} {n1 : Nat} {u no : Nat} {cur : Array Value} (h : VG w B V q0 q1 p0 p1 L0 n0 L1 n1 u no) (he : w.heap[E]? = some (.cells cur 25 (0, 0))) (v : Value) : VG (w.setCell ⟨E, 0, none⟩ v) B V q0 q1 p0 p1 L0 n0 L1 n1 u no := by
  refine ⟨heap_newer h.h (Turns.set w E 0 v) (fun e => ?_), JAt.setT h.j0 he (by decide) (by decide) (by decide) 0 v, JAt.setT h.j1 he (by decide) (by decide) (by decide) 0 v, h.g0, h.g1, h.s0, h.s1, h.ne, h.bV, h.bq0, h.bq1, h.bp0, h.bp1⟩
  have e : V = E := e
  have h4 := h.h
  rw [e, he] at h4
  simp at h4
theorem err_keep {w W : World} {B E : Nat} (h : TS okV B w W) (he : w.heap[E]? = some (.cells #[.int .i64 0] 25 (0, 0))) : W.heap[E]? = some (.cells #[.int .i64 0] 25 (0, 0)) := h.heap he (by unfold okV; decide)
theorem block_new_lt {W : World} {B : Nat} {h : World} (x : TS okV B W h) : W.heap.size ≤ h.heap.size := x.size
set_option maxRecDepth 10000 in
set_option maxHeartbeats 4000000 in
theorem lay_ok (B V : Nat) (m : M) (v : Value) (T : List ByteArray) (w : World) (hm : VM w B V m) (hsm : small m) (hT : ∀ W, TS okV B w W → TAt W v T) (hl : T.length ≤ 100) (hs : ∀ s ∈ T, s.size ≤ 300) (hno : m.no < 2147483647) (ht : TabB B w) :
    Calls Tryd.prog 87 #[.pointer (some ⟨V, 0, none⟩), v] w fun e w' => e = .returned (.int .i64 0) ∧ VM w' B V (m.lay T) ∧ TS okV B w w' := by
  have hmf : ∀ (fn : Fn) (first cap : Array Value) (w : World), (Instr.makeFunc fn first cap).run Tryd.prog w = .ok (.func fn first cap) w := fun _ _ _ _ => rfl
  have hbs := build_seal
  obtain ⟨ao, cap, rfl, -⟩ := hT w (TS.refl _ _ _)
  obtain ⟨E, hE⟩ : ∃ E, w.heap.size = E := ⟨_, rfl⟩
  obtain ⟨w1, hw1⟩ : ∃ w1, w1 = w.alloc (.cells #[.int .i64 0] 25) := ⟨_, rfl⟩
  have t1 : Turns nobody w w1 := by rw [hw1]; exact (Turns.refl _ _).alloc _
  have h1 : w1.heap[E]? = some (.cells #[.int .i64 0] 25 (0, 0)) := by rw [hw1, ← hE]; exact heap_alloc_new w _
  have hT1 := hT w1 (TS.still t1)
  have hm1 := hm.still t1
  obtain ⟨q0, q1, p0, p1, hg⟩ := hm1.c
  have hmay := may_any V m.no _ T w1 (cells_of hg.h 5 _ rfl) hT1 (by omega) (fun s h => by have := hs s h; omega)
  rw [decide_eq_true (by omega)] at hmay
  have hsy := sync_any B V m w1 hm1 hsm
  have HW1 := Lib.hid hw1
  have HH1 := Lib.hid h1
  have HT : Hid (∀ W, TS okV B w1 W → TAt W (.slice ao T.length cap) T) := Lib.hid (fun W hW => hT W ((TS.still t1).trans hW))
  have HS := Lib.hid hs
  have HTB := Lib.hid (ht.still t1)
  have HT1 := Lib.hid t1
  have HE := Lib.hid hE
  have HNO := Lib.hid hno
  have HLL := Lib.hid hl
  clear hw1 t1 h1 hT1 hT hm hm1 hg hs ht hE
  go_enter_defers Tryd.func87, Tryd.ntmps87
  go_upto_region 1 with fail
  rw [← HW1.out]
  clear HW1
  rw [show w.heap.size = E from HE.out]
  go_upto_region 5 with first
    | (go_at_call 109; refine hmay.mono ?_; rintro e w' ⟨rfl, rfl⟩)
    | (go_at_call 43; refine hsy.mono ?_; rintro e w2 ⟨rfl, hm2, ts2⟩; have HM2 := Lib.hid hm2; have HTS2 := Lib.hid ts2; clear hm2 ts2)
  clear hmay hsy hno hl
  have h2 := HM2.out
  obtain ⟨⟨q0, q1, p0, p1, h⟩, -⟩ := h2
  obtain ⟨L0, n0, L1, n1, u, no⟩ := m
  have hu := HM2.out.u
  have hu' : u = 0 ∨ u = 1 := by
    rcases Nat.eq_zero_or_pos u with h0 | h0
    · exact Or.inl h0
    · have e : (M.sync ⟨L0, n0, L1, n1, u, no⟩).u = u := by unfold M.sync M.set; rw [if_neg (by show ¬ u = 0; omega)]
      rw [e] at hu; exact hu
  clear hu
  simp only at HNO
  rcases hu' with rfl | rfl
  · rw [show M.sync ⟨L0, n0, L1, n1, 0, no⟩ = ⟨L0, L0.length, L1, n1, 0, no⟩ from rfl] at h
    simp only at h
    have c4 := cells_of h.h 4 _ rfl
    have c0 := cells_of h.h 1 _ rfl
    have hcut := block.cut_ok q1 (cat L1) (endOf L1 n1) 0 w2 h.j1.b (Nat.zero_le _)
    have HH2 := Lib.hid h.h
    have HJ := Lib.hid h.j0
    have HB := Lib.hid h.j1.b
    have HG0 := Lib.hid h.g0
    have HNE := Lib.hid h.ne
    have HBB := Lib.hid (And.intro h.bV (And.intro h.bq0 (And.intro h.bq1 (And.intro h.bp0 h.bp1))))
    have HSZ := Lib.hid h.size
    have HVNE := Lib.hid h.vne
    have HJJ := Lib.hid (block_ne_j h.j0 h.j1)
    clear h HM2
    go_upto_region 7 with first
      | (go_at_call 76; refine hcut.mono ?_; rintro e w3 ⟨rfl, b3, g3⟩; rw [List.take_zero] at b3; have HB3 := Lib.hid b3; have HT3 := Lib.hid (turns_one g3); clear b3 g3)
      | (go_at_call 110; refine (must_ok _).mono ?_; rintro e w' ⟨rfl, rfl⟩)
    clear c4 c0 hcut
    have hts3 : TS okV B w2 w3 := BlockAt.ts HB.out HT3.out HBB.out.2.2.1
    have hV3 := heap_newer HH2.out HT3.out HVNE.out.2.1
    have hj3 := HJ.out.keep HT3.out (fun e => HJJ.out e) (fun e => HNE.out e) (nobytes_block HB.out)
    have hop := journal.open_new q1 w3 HB3.out ((HTB.out.ts HTS2.out).ts hts3).t
    have c0 := cells_of hV3 1 _ rfl
    have HV3 := Lib.hid hV3
    have HJ3 := Lib.hid hj3
    have HTS3 := Lib.hid (HTS2.out.trans hts3)
    clear hts3 hV3 hj3
    go_upto_region 8 with (go_at_call 26; refine hop.mono ?_; rintro e w4 ⟨xo, xc, P, rfl, hj4, hP, t4⟩; have HJ4 := Lib.hid hj4; have HP := Lib.hid hP; have HT4 := Lib.hid t4; clear hj4 hP t4)
    clear c0 hop
    have hG4 : LG w1 B V #[.pointer (some ⟨q0, 0, none⟩), .pointer (some ⟨q1, 0, none⟩), .pointer (some ⟨p0, 0, none⟩), .pointer (some ⟨p1, 0, none⟩), .int .i64 0, .int .i64 (no : Int)] p0 q0 L0 P q1 [] w4 := by
      have hlt := lt_of_block HJ3.out.h
      exact ⟨heap_newer HV3.out HT4.out HVNE.out.2.1, HJ3.out.keep HT4.out (fun e => HJJ.out e) (fun e => HNE.out e) (nobytes_block HB3.out), HJ4.out, (fun _ h => by cases h), HNE.out, (fun e => by have := HP.out; omega), HBB.out.2.2.1, Nat.le_trans (Nat.le_trans HSZ.out HT3.out.size) HP.out, HBB.out.1, HTS3.out.trans (BlockAt.ts HB3.out HT4.out HBB.out.2.2.1)⟩
    have HG4 := Lib.hid hG4
    have c5 := cells_of hG4.h 5 _ rfl
    clear hG4 HJ4 HT4 HV3 HJ3 HTS3
    have hgen := gen_any (no + 1) w4 (by have := HNO.out; omega)
    have HNO1 : Hid (IntKind.i64.wrap ((no : Int) + 1) = ((no + 1 : Nat) : Int)) := Lib.hid (by rw [IntWalk.i64_in _ (by have := HNO.out; omega)]; push_cast; rfl)
    have hwr := HNO1.out
    unfold recV at hgen
    go_upto_region 9 with first
      | (go_at_call 85; refine hgen.mono ?_; rintro e w5 ⟨rfl, t5⟩; have HG5 := Lib.hid (HG4.out.still t5); clear t5)
      | (go_at_call 28; refine (japp (genR (no + 1)) HG5.out.jo HG5.out.g (Nat.zero_le _) (by decide) (good_gen _) (HTB.out.ts HG5.out.ts).t).mono ?_; rintro e w6 ⟨rfl, hj6, t6⟩; have HG6 := Lib.hid (HG5.out.app hj6 (fun r hr => by rw [List.mem_singleton.1 hr]; exact good_gen _) t6); clear hj6 t6)
      | (go_at_call 110; refine (must_ok _).mono ?_; rintro e w' ⟨rfl, rfl⟩)
    clear c5 hgen hwr HG4 HG5
    go_upto_region 10 with fail
    go_loopw [52] (fun i wr => ∃ k : Nat, k ≤ T.length ∧ i = .int .i64 k ∧ LG w1 B V #[.pointer (some ⟨q0, 0, none⟩), .pointer (some ⟨q1, 0, none⟩), .pointer (some ⟨p0, 0, none⟩), .pointer (some ⟨p1, 0, none⟩), .int .i64 0, .int .i64 (no : Int)] p0 q0 L0 P q1 (genR (no + 1) :: (T.take k).map entR) wr) (fun i _ => T.length - (intOf i).toNat)
    case atStart => exact ⟨0, Nat.zero_le _, rfl, HG6.out⟩
    case round =>
      obtain ⟨k, hk, rfl, hG⟩ := hrel
      have HG := Lib.hid hG
      have hkl : k ≤ 100 := by have := HLL.out; omega
      by_cases hlt : k < T.length
      · obtain ⟨ao', cap', hv, hc⟩ := HT.out wr hG.ts
        cases hv
        obtain ⟨b, o, rfl, c0⟩ := hc k hlt
        have hsz := HS.out (T.getD k nil) (by rw [List.getD_eq_getElem?_getD, List.getElem?_eq_getElem hlt]; exact List.getElem_mem hlt)
        have HST := Lib.hid (snap_step (no + 1) T k hlt)
        have HGD := Lib.hid (snap_part (no + 1) T HS.out (k + 1))
        clear hG hc
        generalize T.getD k nil = s at *
        have hge := good_ent hsz
        have hap := japp (entR s) HG.out.jo HG.out.g (Nat.zero_le _) (by rw [List.length_cons, List.length_map, List.length_take]; omega) hge (HTB.out.ts HG.out.ts).t
        rw [HST.out] at hap
        have hbe := build_ent s
        have hltI : (k : Int) < (T.length : Int) := by omega
        rw [show (entR s).1 = 3 from rfl, show (entR s).2 = s from rfl] at hap
        clear hsz hge
        go_wp2_with first
          | (go_at_call 28; refine hap.mono ?_; rintro e w6 ⟨rfl, hj6, t6⟩; have HG6 := Lib.hid (HG.out.app hj6 HGD.out t6); clear hj6 t6)
          | (go_at_call 110; refine (must_ok _).mono ?_; rintro e w' ⟨rfl, rfl⟩)
        go_roundw
        case rel => exact ⟨k + 1, by omega, by go_num, HG6.out⟩
        case measure => simp [intOf]; omega
      · obtain rfl : k = T.length := by omega
        rw [List.take_length] at HG
        have hltI : ¬ (T.length : Int) < (T.length : Int) := by omega
        have hap := japp sealR HG.out.jo HG.out.g (Nat.zero_le _) (by rw [List.length_cons, List.length_map]; omega) good_seal (HTB.out.ts HG.out.ts).t
        rw [show sealR.1 = 2 from rfl, show sealR.2 = nil from rfl] at hap
        clear hG hlt hk
        go_upto_region 15 with first
          | (with_reducible refine wpList_exec (exec_build _ _ rfl #[(0, .int .i64 2)] (by kernel_rfl) (hbs _)) rfl ?_)
          | (go_at_call 28; refine hap.mono ?_; rintro e w6 ⟨rfl, hj6, t6⟩; have HG7 := Lib.hid (HG.out.app hj6 (good_snap HS.out) t6); clear hj6 t6)
          | (go_at_call 110; refine (must_ok _).mono ?_; rintro e w' ⟨rfl, rfl⟩)
        clear hap
        have hV7 := HG7.out.h
        obtain ⟨W2, hW2⟩ : ∃ W2, W2 = w6.setCell ⟨V, 3, none⟩ (.pointer (some ⟨P, 0, none⟩)) := ⟨_, rfl⟩
        have hV2 : W2.heap[V]? = some (.cells #[.pointer (some ⟨q0, 0, none⟩), .pointer (some ⟨q1, 0, none⟩), .pointer (some ⟨p0, 0, none⟩), .pointer (some ⟨P, 0, none⟩), .int .i64 0, .int .i64 (no : Int)] 110 (0, 0)) := by rw [hW2]; exact heap_setCell_at hV7 3 _
        have ju2 := JAt.setV HG7.out.ju hV7 3 (.pointer (some ⟨P, 0, none⟩))
        have jo2 := JAt.setV HG7.out.jo hV7 3 (.pointer (some ⟨P, 0, none⟩))
        rw [← hW2] at ju2 jo2
        have h0g0 := HG0.out
        have hVG : VG W2 B V q0 q1 p0 P L0 L0.length (snap (no + 1) T) 0 0 no := ⟨hV2, ju2, jo2, h0g0, good_snap HS.out, Nat.le_refl _, Nat.zero_le _, HNE.out, HBB.out.1, HBB.out.2.1, HBB.out.2.2.1, HBB.out.2.2.2.1, HG.out.bP⟩
        have hts2 : TS okV B w1 W2 := HG7.out.ts.trans (by rw [hW2]; exact TS.setV hV7 HBB.out.1 3 _)
        have hE2 := err_keep hts2 HH1.out
        have HF := Lib.hid (And.intro hVG (And.intro hts2 hE2))
        have HW2 := Lib.hid hW2
        have c0 := cells_of hV7 3 _ rfl
        have f0 := free_of hV7 3
        clear hV7 hW2 hV2 ju2 jo2 hVG hts2 hE2 h0g0
        go_upto_region 16 with fail
        rw [← HW2.out]
        have c0 := cells_of HF.out.2.2 0 _ rfl
        have f0 := free_of HF.out.2.2 0
        go_wp2
        refine leaves_cons (f := 108) (args := #[.pointer (some ⟨E, 0, none⟩)]) (by simp) (by simp [go_sem]) ?_
        refine (catch_idle ⟨E, 0, none⟩ _).mono ?_
        rintro e u' w'' ⟨rfl, rfl, rfl⟩
        have hc := cells_of (heap_setCell_at HF.out.2.2 0 (.int .i64 0)) 0 _ rfl
        have HV := Lib.hid (HF.out.1.errset HF.out.2.2 (.int .i64 0))
        have HTF := Lib.hid (((TS.still HT1.out).trans HF.out.2.1).fresh (Turns.set W2 E 0 (.int .i64 0)) (by rw [HE.out]; exact Nat.le_refl _))
        generalize W2.setCell ⟨E, 0, none⟩ (.int .i64 0) = W at *
        simp [Leaves, settle, results, Tryd.results87, go_sem, hc]
        exact ⟨⟨⟨q0, q1, p0, P, HV.out⟩, Or.inl rfl⟩, HTF.out⟩
  · rw [show M.sync ⟨L0, n0, L1, n1, 1, no⟩ = ⟨L0, n0, L1, L1.length, 1, no⟩ from rfl] at h
    simp only at h
    have c4 := cells_of h.h 4 _ rfl
    have c0 := cells_of h.h 0 _ rfl
    have hcut := block.cut_ok q0 (cat L0) (endOf L0 n0) 0 w2 h.j0.b (Nat.zero_le _)
    have HH2 := Lib.hid h.h
    have HJ := Lib.hid h.j1
    have HB := Lib.hid h.j0.b
    have HG0 := Lib.hid h.g1
    have HNE := Lib.hid h.ne
    have HBB := Lib.hid (And.intro h.bV (And.intro h.bq0 (And.intro h.bq1 (And.intro h.bp0 h.bp1))))
    have HSZ := Lib.hid h.size
    have HVNE := Lib.hid h.vne
    have HJJ := Lib.hid (block_ne_j h.j1 h.j0)
    clear h HM2
    go_upto_region 7 with first
      | (go_at_call 76; refine hcut.mono ?_; rintro e w3 ⟨rfl, b3, g3⟩; rw [List.take_zero] at b3; have HB3 := Lib.hid b3; have HT3 := Lib.hid (turns_one g3); clear b3 g3)
      | (go_at_call 110; refine (must_ok _).mono ?_; rintro e w' ⟨rfl, rfl⟩)
    clear c4 c0 hcut
    have hts3 : TS okV B w2 w3 := BlockAt.ts HB.out HT3.out HBB.out.2.1
    have hV3 := heap_newer HH2.out HT3.out HVNE.out.1
    have hj3 := HJ.out.keep HT3.out (fun e => HJJ.out e) (fun e => HNE.out e.symm) (nobytes_block HB.out)
    have hop := journal.open_new q0 w3 HB3.out ((HTB.out.ts HTS2.out).ts hts3).t
    have c0 := cells_of hV3 0 _ rfl
    have HV3 := Lib.hid hV3
    have HJ3 := Lib.hid hj3
    have HTS3 := Lib.hid (HTS2.out.trans hts3)
    clear hts3 hV3 hj3
    go_upto_region 8 with (go_at_call 26; refine hop.mono ?_; rintro e w4 ⟨xo, xc, P, rfl, hj4, hP, t4⟩; have HJ4 := Lib.hid hj4; have HP := Lib.hid hP; have HT4 := Lib.hid t4; clear hj4 hP t4)
    clear c0 hop
    have hG4 : LG w1 B V #[.pointer (some ⟨q0, 0, none⟩), .pointer (some ⟨q1, 0, none⟩), .pointer (some ⟨p0, 0, none⟩), .pointer (some ⟨p1, 0, none⟩), .int .i64 1, .int .i64 (no : Int)] p1 q1 L1 P q0 [] w4 := by
      have hlt := lt_of_block HJ3.out.h
      exact ⟨heap_newer HV3.out HT4.out HVNE.out.1, HJ3.out.keep HT4.out (fun e => HJJ.out e) (fun e => HNE.out e.symm) (nobytes_block HB3.out), HJ4.out, (fun _ h => by cases h), fun e => HNE.out e.symm, (fun e => by have := HP.out; omega), HBB.out.2.1, Nat.le_trans (Nat.le_trans HSZ.out HT3.out.size) HP.out, HBB.out.1, HTS3.out.trans (BlockAt.ts HB3.out HT4.out HBB.out.2.1)⟩
    have HG4 := Lib.hid hG4
    have c5 := cells_of hG4.h 5 _ rfl
    clear hG4 HJ4 HT4 HV3 HJ3 HTS3
    have hgen := gen_any (no + 1) w4 (by have := HNO.out; omega)
    have HNO1 : Hid (IntKind.i64.wrap ((no : Int) + 1) = ((no + 1 : Nat) : Int)) := Lib.hid (by rw [IntWalk.i64_in _ (by have := HNO.out; omega)]; push_cast; rfl)
    have hwr := HNO1.out
    unfold recV at hgen
    go_upto_region 9 with first
      | (go_at_call 85; refine hgen.mono ?_; rintro e w5 ⟨rfl, t5⟩; have HG5 := Lib.hid (HG4.out.still t5); clear t5)
      | (go_at_call 28; refine (japp (genR (no + 1)) HG5.out.jo HG5.out.g (Nat.zero_le _) (by decide) (good_gen _) (HTB.out.ts HG5.out.ts).t).mono ?_; rintro e w6 ⟨rfl, hj6, t6⟩; have HG6 := Lib.hid (HG5.out.app hj6 (fun r hr => by rw [List.mem_singleton.1 hr]; exact good_gen _) t6); clear hj6 t6)
      | (go_at_call 110; refine (must_ok _).mono ?_; rintro e w' ⟨rfl, rfl⟩)
    clear c5 hgen hwr HG4 HG5
    go_upto_region 10 with fail
    go_loopw [52] (fun i wr => ∃ k : Nat, k ≤ T.length ∧ i = .int .i64 k ∧ LG w1 B V #[.pointer (some ⟨q0, 0, none⟩), .pointer (some ⟨q1, 0, none⟩), .pointer (some ⟨p0, 0, none⟩), .pointer (some ⟨p1, 0, none⟩), .int .i64 1, .int .i64 (no : Int)] p1 q1 L1 P q0 (genR (no + 1) :: (T.take k).map entR) wr) (fun i _ => T.length - (intOf i).toNat)
    case atStart => exact ⟨0, Nat.zero_le _, rfl, HG6.out⟩
    case round =>
      obtain ⟨k, hk, rfl, hG⟩ := hrel
      have HG := Lib.hid hG
      have hkl : k ≤ 100 := by have := HLL.out; omega
      by_cases hlt : k < T.length
      · obtain ⟨ao', cap', hv, hc⟩ := HT.out wr hG.ts
        cases hv
        obtain ⟨b, o, rfl, c0⟩ := hc k hlt
        have hsz := HS.out (T.getD k nil) (by rw [List.getD_eq_getElem?_getD, List.getElem?_eq_getElem hlt]; exact List.getElem_mem hlt)
        have HST := Lib.hid (snap_step (no + 1) T k hlt)
        have HGD := Lib.hid (snap_part (no + 1) T HS.out (k + 1))
        clear hG hc
        generalize T.getD k nil = s at *
        have hge := good_ent hsz
        have hap := japp (entR s) HG.out.jo HG.out.g (Nat.zero_le _) (by rw [List.length_cons, List.length_map, List.length_take]; omega) hge (HTB.out.ts HG.out.ts).t
        rw [HST.out] at hap
        have hbe := build_ent s
        have hltI : (k : Int) < (T.length : Int) := by omega
        rw [show (entR s).1 = 3 from rfl, show (entR s).2 = s from rfl] at hap
        clear hsz hge
        go_wp2_with first
          | (go_at_call 28; refine hap.mono ?_; rintro e w6 ⟨rfl, hj6, t6⟩; have HG6 := Lib.hid (HG.out.app hj6 HGD.out t6); clear hj6 t6)
          | (go_at_call 110; refine (must_ok _).mono ?_; rintro e w' ⟨rfl, rfl⟩)
        go_roundw
        case rel => exact ⟨k + 1, by omega, by go_num, HG6.out⟩
        case measure => simp [intOf]; omega
      · obtain rfl : k = T.length := by omega
        rw [List.take_length] at HG
        have hltI : ¬ (T.length : Int) < (T.length : Int) := by omega
        have hap := japp sealR HG.out.jo HG.out.g (Nat.zero_le _) (by rw [List.length_cons, List.length_map]; omega) good_seal (HTB.out.ts HG.out.ts).t
        rw [show sealR.1 = 2 from rfl, show sealR.2 = nil from rfl] at hap
        clear hG hlt hk
        go_upto_region 15 with first
          | (with_reducible refine wpList_exec (exec_build _ _ rfl #[(0, .int .i64 2)] (by kernel_rfl) (hbs _)) rfl ?_)
          | (go_at_call 28; refine hap.mono ?_; rintro e w6 ⟨rfl, hj6, t6⟩; have HG7 := Lib.hid (HG.out.app hj6 (good_snap HS.out) t6); clear hj6 t6)
          | (go_at_call 110; refine (must_ok _).mono ?_; rintro e w' ⟨rfl, rfl⟩)
        clear hap
        have hV7 := HG7.out.h
        obtain ⟨W2, hW2⟩ : ∃ W2, W2 = w6.setCell ⟨V, 2, none⟩ (.pointer (some ⟨P, 0, none⟩)) := ⟨_, rfl⟩
        have hV2 : W2.heap[V]? = some (.cells #[.pointer (some ⟨q0, 0, none⟩), .pointer (some ⟨q1, 0, none⟩), .pointer (some ⟨P, 0, none⟩), .pointer (some ⟨p1, 0, none⟩), .int .i64 1, .int .i64 (no : Int)] 110 (0, 0)) := by rw [hW2]; exact heap_setCell_at hV7 2 _
        have ju2 := JAt.setV HG7.out.ju hV7 2 (.pointer (some ⟨P, 0, none⟩))
        have jo2 := JAt.setV HG7.out.jo hV7 2 (.pointer (some ⟨P, 0, none⟩))
        rw [← hW2] at ju2 jo2
        have h0g0 := HG0.out
        have hVG : VG W2 B V q0 q1 P p1 (snap (no + 1) T) 0 L1 L1.length 1 no := ⟨hV2, jo2, ju2, good_snap HS.out, h0g0, Nat.zero_le _, Nat.le_refl _, HNE.out, HBB.out.1, HBB.out.2.1, HBB.out.2.2.1, HG.out.bP, HBB.out.2.2.2.2⟩
        have hts2 : TS okV B w1 W2 := HG7.out.ts.trans (by rw [hW2]; exact TS.setV hV7 HBB.out.1 2 _)
        have hE2 := err_keep hts2 HH1.out
        have HF := Lib.hid (And.intro hVG (And.intro hts2 hE2))
        have HW2 := Lib.hid hW2
        have c0 := cells_of hV7 2 _ rfl
        have f0 := free_of hV7 2
        clear hV7 hW2 hV2 ju2 jo2 hVG hts2 hE2 h0g0
        go_upto_region 16 with fail
        rw [← HW2.out]
        have c0 := cells_of HF.out.2.2 0 _ rfl
        have f0 := free_of HF.out.2.2 0
        go_wp2
        refine leaves_cons (f := 108) (args := #[.pointer (some ⟨E, 0, none⟩)]) (by simp) (by simp [go_sem]) ?_
        refine (catch_idle ⟨E, 0, none⟩ _).mono ?_
        rintro e u' w'' ⟨rfl, rfl, rfl⟩
        have hc := cells_of (heap_setCell_at HF.out.2.2 0 (.int .i64 0)) 0 _ rfl
        have HV := Lib.hid (HF.out.1.errset HF.out.2.2 (.int .i64 0))
        have HTF := Lib.hid (((TS.still HT1.out).trans HF.out.2.1).fresh (Turns.set W2 E 0 (.int .i64 0)) (by rw [HE.out]; exact Nat.le_refl _))
        generalize W2.setCell ⟨E, 0, none⟩ (.int .i64 0) = W at *
        simp [Leaves, settle, results, Tryd.results87, go_sem, hc]
        exact ⟨⟨⟨q0, q1, P, p1, HV.out⟩, Or.inr rfl⟩, HTF.out⟩
end Go.Proofs.YtlhcmgjkhkcgcaaDoor.vault

namespace Go.Proofs.YtlhcmgjkhkcgcaaDoor.vault
open Go.RowKit
open Go.Proofs.YtlhcmgjkhkcgcaaDoor.stepkit Go.Proofs.YtlhcmgjkhkcgcaaDoor.obj Go.Proofs.YtlhcmgjkhkcgcaaDoor.row Go.Proofs.YtlhcmgjkhkcgcaaDoor.mix Go.Proofs.YtlhcmgjkhkcgcaaDoor.idkit Go.Proofs.YtlhcmgjkhkcgcaaDoor.bytes Go.Proofs.YtlhcmgjkhkcgcaaDoor.octet Go.Proofs.YtlhcmgjkhkcgcaaDoor.eqkit Go.Proofs.YtlhcmgjkhkcgcaaDoor.record Go.Proofs.YtlhcmgjkhkcgcaaDoor.argkit
open Go.Proofs.YtlhcmgjkhkcgcaaDoor.journal (JAt two NoBytes turns_one block_keep block_still block_lt at_store)
open Go.Proofs.YtlhcmgjkhkcgcaaDoor.block (BlockAt keepOf keepOf_le keepOf_ge keepOf_all)

def M.snp (m : M) (T : List ByteArray) : M := M.sync ⟨(m.lay T).L0, (m.lay T).n0, (m.lay T).L1, (m.lay T).n1, 1 - m.u, m.no + 1⟩
noncomputable def M.die (m : M) (T : List ByteArray) (k : Int) : M := if m.u = 0 then (m.lay T).load m.L0 (leftOf (snap (m.no + 1) T) 0 k) else (m.lay T).load (leftOf (snap (m.no + 1) T) 0 k) m.L1
noncomputable def M.dieT (m : M) (T : List ByteArray) (k : Int) : List ByteArray := if m.u = 0 then loadT m.L0 (leftOf (snap (m.no + 1) T) 0 k) else loadT (leftOf (snap (m.no + 1) T) 0 k) m.L1
set_option maxRecDepth 10000 in
set_option maxHeartbeats 2000000 in

theorem snap_bad (B V : Nat) (m : M) (v : Value) (T : List ByteArray) (w : World) (hm : VM w B V m) (hT : ∀ W, TS okV B w W → TAt W v T) (hl : T.length ≤ 16777216) (hs : ∀ s ∈ T, s.size ≤ 1048576) (hno : 2147483647 ≤ m.no) :
    Calls Tryd.prog 50 #[.pointer (some ⟨V, 0, none⟩), v] w fun e w' => e = .returned (.int .i64 3) ∧ Turns nobody w w' := by
  have hla := lay_bad B V m v T w hm hT hl hs hno
  obtain ⟨ao, cap, rfl, -⟩ := hT w (TS.refl _ _ _)
  obtain ⟨q0, q1, p0, p1, h⟩ := hm.c
  have c0 := cells_of h.h 0 _ rfl
  clear h hm hT hs
  go_enter Tryd.func50, Tryd.ntmps50
  go_wp2_with first
    | (go_at_call 86; refine (none_no _ _ _ c0).mono ?_; rintro e w' ⟨rfl, rfl⟩)
    | (go_at_call 87; refine hla.mono ?_; rintro e w2 ⟨rfl, t2⟩; have HT := Lib.hid t2; clear t2)
  go_ret
  exact ⟨rfl, HT.out⟩
set_option maxRecDepth 10000 in
set_option maxHeartbeats 2000000 in

theorem die_bad (B V : Nat) (m : M) (v : Value) (T : List ByteArray) (k : Int) (w : World) (hm : VM w B V m) (hT : ∀ W, TS okV B w W → TAt W v T) (hl : T.length ≤ 16777216) (hs : ∀ s ∈ T, s.size ≤ 1048576) (hno : 2147483647 ≤ m.no) :
    Calls Tryd.prog 48 #[.pointer (some ⟨V, 0, none⟩), v, .int .i64 k] w fun e w' => e = .returned (.tuple #[.slice none 0 0, .int .i64 3]) ∧ Turns nobody w w' := by
  have hla := lay_bad B V m v T w hm hT hl hs hno
  obtain ⟨ao, cap, rfl, -⟩ := hT w (TS.refl _ _ _)
  obtain ⟨q0, q1, p0, p1, h⟩ := hm.c
  have c0 := cells_of h.h 0 _ rfl
  clear h hm hT hs
  go_enter Tryd.func48, Tryd.ntmps48
  go_wp2_with first
    | (go_at_call 86; refine (none_no _ _ _ c0).mono ?_; rintro e w' ⟨rfl, rfl⟩)
    | (go_at_call 87; refine hla.mono ?_; rintro e w2 ⟨rfl, t2⟩; have HT := Lib.hid t2; clear t2)
  exact bodyPost_ret (results_tmp2 rfl _ _ _) rfl ⟨rfl, HT.out⟩
set_option maxRecDepth 10000 in
set_option maxHeartbeats 2000000 in

theorem snap_ok (B V : Nat) (m : M) (v : Value) (T : List ByteArray) (w : World) (hm : VM w B V m) (hsm : small m) (hT : ∀ W, TS okV B w W → TAt W v T) (hl : T.length ≤ 100) (hs : ∀ s ∈ T, s.size ≤ 300) (hno : m.no < 2147483647) (ht : TabB B w) :
    Calls Tryd.prog 50 #[.pointer (some ⟨V, 0, none⟩), v] w fun e w' => e = .returned (.int .i64 0) ∧ VM w' B V (m.snp T) ∧ TS okV B w w' := by
  have hla := lay_ok B V m v T w hm hsm hT hl hs hno ht
  obtain ⟨ao, cap, rfl, -⟩ := hT w (TS.refl _ _ _)
  obtain ⟨q0, q1, p0, p1, h⟩ := hm.c
  have c0 := cells_of h.h 0 _ rfl
  have HNO := Lib.hid hno
  have HLL := Lib.hid hl
  have HTB := Lib.hid ht
  have HSM := Lib.hid hsm
  have hu := hm.u
  clear h hm hT hs hsm hno hl ht
  go_enter Tryd.func50, Tryd.ntmps50
  go_upto_region 6 with first
    | (go_at_call 86; refine (none_no _ _ _ c0).mono ?_; rintro e w' ⟨rfl, rfl⟩)
    | (go_at_call 87; refine hla.mono ?_; rintro e w2 ⟨rfl, hm2, ts2⟩; have HM2 := Lib.hid hm2; have HTS2 := Lib.hid ts2; clear hm2 ts2)
  clear c0 hla
  obtain ⟨L0, n0, L1, n1, u, no⟩ := m
  simp only at hu HNO
  rcases hu with rfl | rfl
  · have hm2 := HM2.out
    rw [show M.lay ⟨L0, n0, L1, n1, 0, no⟩ T = ⟨L0, L0.length, snap (no + 1) T, 0, 0, no⟩ from rfl] at hm2
    obtain ⟨⟨q0, q1, p0, p1, h⟩, -⟩ := hm2
    simp only at h
    have HH := Lib.hid h
    have c4 := cells_of h.h 4 _ rfl
    have f4 := free_of h.h 4
    have hV3 := heap_setCell_at h.h 4 (.int .i64 1)
    obtain ⟨w3, hw3⟩ : ∃ w3, w3 = w2.setCell ⟨V, 4, none⟩ (.int .i64 1) := ⟨_, rfl⟩
    rw [← hw3] at hV3
    have hV3 : w3.heap[V]? = some (.cells #[.pointer (some ⟨q0, 0, none⟩), .pointer (some ⟨q1, 0, none⟩), .pointer (some ⟨p0, 0, none⟩), .pointer (some ⟨p1, 0, none⟩), .int .i64 1, .int .i64 (no : Int)] 110 (0, 0)) := hV3
    have hj0 := JAt.setV h.j0 h.h 4 (.int .i64 1)
    have hj1 := JAt.setV h.j1 h.h 4 (.int .i64 1)
    rw [← hw3] at hj0 hj1
    have hts3 : TS okV B w2 w3 := by rw [hw3]; exact TS.setV h.h h.bV 4 _
    have HW3 := Lib.hid hw3
    clear h hw3
    go_upto_region 7 with fail
    rw [← HW3.out]
    clear c4 f4
    have c5 := cells_of hV3 5 _ rfl
    have f5 := free_of hV3 5
    have hV4 := heap_setCell_at hV3 5 (.int .i64 ((no : Int) + 1))
    obtain ⟨w4, hw4⟩ : ∃ w4, w4 = w3.setCell ⟨V, 5, none⟩ (.int .i64 ((no : Int) + 1)) := ⟨_, rfl⟩
    rw [← hw4] at hV4
    have hV4 : w4.heap[V]? = some (.cells #[.pointer (some ⟨q0, 0, none⟩), .pointer (some ⟨q1, 0, none⟩), .pointer (some ⟨p0, 0, none⟩), .pointer (some ⟨p1, 0, none⟩), .int .i64 1, .int .i64 ((no + 1 : Nat) : Int)] 110 (0, 0)) := hV4
    have hj0' := JAt.setV hj0 hV3 5 (.int .i64 ((no : Int) + 1))
    have hj1' := JAt.setV hj1 hV3 5 (.int .i64 ((no : Int) + 1))
    rw [← hw4] at hj0' hj1'
    have hts4 : TS okV B w2 w4 := hts3.trans (by rw [hw4]; exact TS.setV hV3 HH.out.bV 5 _)
    have hm4 : VM w4 B V ⟨L0, L0.length, snap (no + 1) T, 0, 1, no + 1⟩ := ⟨⟨q0, q1, p0, p1, ⟨hV4, hj0', hj1', HH.out.g0, HH.out.g1, HH.out.s0, HH.out.s1, HH.out.ne, HH.out.bV, HH.out.bq0, HH.out.bq1, HH.out.bp0, HH.out.bp1⟩⟩, Or.inr rfl⟩
    have hsy := sync_any B V _ w4 hm4 ⟨by exact HSM.out.1, by show (snap (no + 1) T).length ≤ _; rw [snap_len]; have := HLL.out; omega⟩
    have HTS4 := Lib.hid (HTS2.out.trans hts4)
    have HW4 := Lib.hid hw4
    have HNO1 : Hid (IntKind.i64.wrap ((no : Int) + 1) = (no : Int) + 1) := Lib.hid (IntWalk.i64_in _ (by have := HNO.out; omega))
    have hwr := HNO1.out
    clear hV3 hj0 hj1 hts3 hw4 hV4 hj0' hj1' hts4 hm4
    go_upto_region 8 with fail
    rw [← HW4.out]
    clear c5 f5 hwr
    go_wp2_with (go_at_call 43; refine hsy.mono ?_; rintro e w5 ⟨rfl, hm5, ts5⟩; have HM5 := Lib.hid hm5; have HTS5 := Lib.hid (HTS4.out.trans ts5); clear hm5 ts5)
    go_ret
    exact ⟨rfl, HM5.out, HTS5.out⟩
  · have hm2 := HM2.out
    rw [show M.lay ⟨L0, n0, L1, n1, 1, no⟩ T = ⟨snap (no + 1) T, 0, L1, L1.length, 1, no⟩ from rfl] at hm2
    obtain ⟨⟨q0, q1, p0, p1, h⟩, -⟩ := hm2
    simp only at h
    have HH := Lib.hid h
    have c4 := cells_of h.h 4 _ rfl
    have f4 := free_of h.h 4
    have hV3 := heap_setCell_at h.h 4 (.int .i64 0)
    obtain ⟨w3, hw3⟩ : ∃ w3, w3 = w2.setCell ⟨V, 4, none⟩ (.int .i64 0) := ⟨_, rfl⟩
    rw [← hw3] at hV3
    have hV3 : w3.heap[V]? = some (.cells #[.pointer (some ⟨q0, 0, none⟩), .pointer (some ⟨q1, 0, none⟩), .pointer (some ⟨p0, 0, none⟩), .pointer (some ⟨p1, 0, none⟩), .int .i64 0, .int .i64 (no : Int)] 110 (0, 0)) := hV3
    have hj0 := JAt.setV h.j0 h.h 4 (.int .i64 0)
    have hj1 := JAt.setV h.j1 h.h 4 (.int .i64 0)
    rw [← hw3] at hj0 hj1
    have hts3 : TS okV B w2 w3 := by rw [hw3]; exact TS.setV h.h h.bV 4 _
    have HW3 := Lib.hid hw3
    clear h hw3
    go_upto_region 7 with fail
    rw [← HW3.out]
    clear c4 f4
    have c5 := cells_of hV3 5 _ rfl
    have f5 := free_of hV3 5
    have hV4 := heap_setCell_at hV3 5 (.int .i64 ((no : Int) + 1))
    obtain ⟨w4, hw4⟩ : ∃ w4, w4 = w3.setCell ⟨V, 5, none⟩ (.int .i64 ((no : Int) + 1)) := ⟨_, rfl⟩
    rw [← hw4] at hV4
    have hV4 : w4.heap[V]? = some (.cells #[.pointer (some ⟨q0, 0, none⟩), .pointer (some ⟨q1, 0, none⟩), .pointer (some ⟨p0, 0, none⟩), .pointer (some ⟨p1, 0, none⟩), .int .i64 0, .int .i64 ((no + 1 : Nat) : Int)] 110 (0, 0)) := hV4
    have hj0' := JAt.setV hj0 hV3 5 (.int .i64 ((no : Int) + 1))
    have hj1' := JAt.setV hj1 hV3 5 (.int .i64 ((no : Int) + 1))
    rw [← hw4] at hj0' hj1'
    have hts4 : TS okV B w2 w4 := hts3.trans (by rw [hw4]; exact TS.setV hV3 HH.out.bV 5 _)
    have hm4 : VM w4 B V ⟨snap (no + 1) T, 0, L1, L1.length, 0, no + 1⟩ := ⟨⟨q0, q1, p0, p1, ⟨hV4, hj0', hj1', HH.out.g0, HH.out.g1, HH.out.s0, HH.out.s1, HH.out.ne, HH.out.bV, HH.out.bq0, HH.out.bq1, HH.out.bp0, HH.out.bp1⟩⟩, Or.inl rfl⟩
    have hsy := sync_any B V _ w4 hm4 ⟨by show (snap (no + 1) T).length ≤ _; rw [snap_len]; have := HLL.out; omega, by exact HSM.out.2⟩
    have HTS4 := Lib.hid (HTS2.out.trans hts4)
    have HW4 := Lib.hid hw4
    have HNO1 : Hid (IntKind.i64.wrap ((no : Int) + 1) = (no : Int) + 1) := Lib.hid (IntWalk.i64_in _ (by have := HNO.out; omega))
    have hwr := HNO1.out
    clear hV3 hj0 hj1 hts3 hw4 hV4 hj0' hj1' hts4 hm4
    go_upto_region 8 with fail
    rw [← HW4.out]
    clear c5 f5 hwr
    go_wp2_with (go_at_call 43; refine hsy.mono ?_; rintro e w5 ⟨rfl, hm5, ts5⟩; have HM5 := Lib.hid hm5; have HTS5 := Lib.hid (HTS4.out.trans ts5); clear hm5 ts5)
    go_ret
    exact ⟨rfl, HM5.out, HTS5.out⟩
set_option maxRecDepth 10000 in
set_option maxHeartbeats 2000000 in

theorem die_ok (B V : Nat) (m : M) (v : Value) (T : List ByteArray) (k : Int) (w : World) (hm : VM w B V m) (hsm : small m) (hT : ∀ W, TS okV B w W → TAt W v T) (hl : T.length ≤ 100) (hs : ∀ s ∈ T, s.size ≤ 300) (hno : m.no < 2147483647) (hk1 : -9223372036854775808 ≤ k) (hk2 : k ≤ 9223372036854775807) (ht : TabB B w) :
    Calls Tryd.prog 48 #[.pointer (some ⟨V, 0, none⟩), v, .int .i64 k] w fun e w' => ∃ v', e = .returned (.tuple #[v', .int .i64 0]) ∧ TSl w' v' (m.dieT T k) ∧ (∀ i, blk v' i → w.heap.size ≤ i) ∧ VM w' B V (m.die T k) ∧ TS okV B w w' := by
  have HK := Lib.hid (And.intro hk1 hk2)
  clear hk1 hk2
  have hla := lay_ok B V m v T w hm hsm hT hl hs hno ht
  obtain ⟨ao, cap, rfl, -⟩ := hT w (TS.refl _ _ _)
  obtain ⟨q0, q1, p0, p1, h⟩ := hm.c
  have c0 := cells_of h.h 0 _ rfl
  have HNO := Lib.hid hno
  have HLL := Lib.hid hl
  have HTB := Lib.hid ht
  have HSM := Lib.hid hsm
  have hu := hm.u
  clear h hm hT hs hsm hno hl ht
  go_enter Tryd.func48, Tryd.ntmps48
  go_upto_region 6 with first
    | (go_at_call 86; refine (none_no _ _ _ c0).mono ?_; rintro e w' ⟨rfl, rfl⟩)
    | (go_at_call 87; refine hla.mono ?_; rintro e w2 ⟨rfl, hm2, ts2⟩; have HM2 := Lib.hid hm2; have HTS2 := Lib.hid ts2; clear hm2 ts2)
  clear c0 hla
  obtain ⟨L0, n0, L1, n1, u, no⟩ := m
  simp only at hu HNO
  rcases hu with rfl | rfl
  · have hm2 := HM2.out
    rw [show M.lay ⟨L0, n0, L1, n1, 0, no⟩ T = ⟨L0, L0.length, snap (no + 1) T, 0, 0, no⟩ from rfl] at hm2
    obtain ⟨⟨q0, q1, p0, p1, h⟩, -⟩ := hm2
    simp only at h
    have HH := Lib.hid h
    have hd : Turns nobody w2 w2.drew := (Turns.refl _ _).drew
    have hap := block.crash_any q1 (cat (snap (no + 1) T)) (endOf (snap (no + 1) T) 0) k w2.drew (block_still h.j1.b hd) (by have := cat_16 h.g1 (by rw [snap_len]; have := HLL.out; omega); omega) HK.out.1 HK.out.2
    have HLF : Hid (leftOf (snap (no + 1) T) 0 k = (snap (no + 1) T).take (cutN (snap (no + 1) T) (keepOf (cat (snap (no + 1) T)).length (endOf (snap (no + 1) T) 0) k))) := Lib.hid rfl
    have hml : keepOf (cat (snap (no + 1) T)).length (endOf (snap (no + 1) T) 0) k ≤ (cat (snap (no + 1) T)).length := keepOf_le h.j1.b.1 k
    obtain ⟨m, hmm⟩ : ∃ m, keepOf (cat (snap (no + 1) T)).length (endOf (snap (no + 1) T) 0) k = m := ⟨_, rfl⟩
    rw [hmm] at hap hml HLF
    have HM := Lib.hid (And.intro hmm hml)
    have HAP := Lib.hid hap
    clear h hap hmm hml hd
    refine wp_region_mix [(0, true, true), (1, true, true), (2, true, true), (3, true, true), (4, true, true), (5, true, true), (6, true, true), (7, true, true), (8, true, true), (9, true, true), (10, true, true), (11, false, false)] (fun W => W.heap[V]? = some (.cells #[.pointer (some ⟨q0, 0, none⟩), .pointer (some ⟨q1, 0, none⟩), .pointer (some ⟨p0, 0, none⟩), .pointer (some ⟨p1, 0, none⟩), .int .i64 0, .int .i64 (no : Int)] 110 (0, 0))) (by kernel_rfl) (by kernel_rfl) (HH.out.h) ?_
    simp only [picked, List.filterMap_cons, List.filterMap_nil, List.getElem?_toArray, List.getElem?_cons_zero, List.getElem?_cons_succ, Option.map_some]
    repeat (refine mix_free (v := ?_) rfl ?_ ?_; rotate_left; (focus (intro w' hI; have e4 := cells_of hI 4 _ rfl; have e0 := cells_of hI 1 _ rfl; clear hI; go_simp; try with_reducible rfl)); simp only [Act.put, List.setIfInBounds_toArray, List.set_cons_zero, List.set_cons_succ])
    rw [show IntKind.i64.wrap 1 = 1 from by decide]
    repeat (refine mix_free (v := ?_) rfl ?_ ?_; rotate_left; (focus (intro w' hI; have e4 := cells_of hI 4 _ rfl; have e0 := cells_of hI 1 _ rfl; clear hI; go_simp; try with_reducible rfl)); simp only [Act.put, List.setIfInBounds_toArray, List.set_cons_zero, List.set_cons_succ])
    refine mix_big rfl (fun K hK => ?_)
    go_wp2_with (go_at_call 79; refine HAP.out.mono ?_; rintro e w7 ⟨rfl, b7, g7⟩; have HB7 := Lib.hid b7; have HT7 := Lib.hid (((Turns.refl nobody w2).drew.mono (G := fun i => i = q1) (fun _ h => h.elim)).trans (turns_one g7) (fun _ h => Or.inl h)); clear b7 g7)
    refine hK _ _ (by simp) ?_
    clear hK K
    refine mix_nil ?_
    have hts7 : TS okV B w2 w7 := BlockAt.ts HH.out.j1.b HT7.out HH.out.bq1
    have hbo : BlockAt w7 q0 (cat L0) _ := block_keep HH.out.j0.b HT7.out (fun e => HH.out.ne e) (nobytes_block HH.out.j1.b)
    have hld := load_any B V q0 q1 _ _ 0 no (cat L0) _ ((cat (snap (no + 1) T)).take m) _ w7 (heap_newer HH.out.h HT7.out (v_ne_q HH.out.h HH.out.j1.b)) hbo HB7.out (cat_16 HH.out.g0 HSM.out.1) (by rw [List.length_take]; have := cat_16 HH.out.g1 (by rw [snap_len]; have := HLL.out; omega); omega) HH.out.ne HH.out.bV HH.out.bq0 HH.out.bq1 (Nat.le_trans HH.out.size HT7.out.size) ((HTB.out.ts HTS2.out).ts hts7)
    have HTS7 := Lib.hid (HTS2.out.trans hts7)
    clear hts7 hbo
    go_wp2_with (go_at_call 84; refine hld.mono ?_; rintro e w8 ⟨k0, E0, P0, k1, E1, P1, v, hD0, hD1, rfl, hs2⟩; have HDD := Lib.hid (And.intro hD0 hD1); have HS2 := Lib.hid hs2; clear hD0 hD1 hs2)
    refine bodyPost_ret (results_tmp2 rfl _ _ _) rfl ?_
    have hs2 := HS2.out
    have hr0 := read_all HH.out.g0 HDD.out.1
    have hr1 := read_of HH.out.g1 HM.out.2 HDD.out.2
    rw [← HLF.out] at hr1
    rw [hr0, hr1] at hs2
    exact ⟨_, rfl, hs2.s, fun i hi => Nat.le_trans HTS7.out.size (hs2.n i hi), S2.vm hs2 (Or.inl rfl) HH.out.g0 (good_take HH.out.g1 _) HH.out.ne HH.out.bV HH.out.bq0 HH.out.bq1, HTS7.out.trans hs2.ts⟩
  · have hm2 := HM2.out
    rw [show M.lay ⟨L0, n0, L1, n1, 1, no⟩ T = ⟨snap (no + 1) T, 0, L1, L1.length, 1, no⟩ from rfl] at hm2
    obtain ⟨⟨q0, q1, p0, p1, h⟩, -⟩ := hm2
    simp only at h
    have HH := Lib.hid h
    have hd : Turns nobody w2 w2.drew := (Turns.refl _ _).drew
    have hap := block.crash_any q0 (cat (snap (no + 1) T)) (endOf (snap (no + 1) T) 0) k w2.drew (block_still h.j0.b hd) (by have := cat_16 h.g0 (by rw [snap_len]; have := HLL.out; omega); omega) HK.out.1 HK.out.2
    have HLF : Hid (leftOf (snap (no + 1) T) 0 k = (snap (no + 1) T).take (cutN (snap (no + 1) T) (keepOf (cat (snap (no + 1) T)).length (endOf (snap (no + 1) T) 0) k))) := Lib.hid rfl
    have hml : keepOf (cat (snap (no + 1) T)).length (endOf (snap (no + 1) T) 0) k ≤ (cat (snap (no + 1) T)).length := keepOf_le h.j0.b.1 k
    obtain ⟨m, hmm⟩ : ∃ m, keepOf (cat (snap (no + 1) T)).length (endOf (snap (no + 1) T) 0) k = m := ⟨_, rfl⟩
    rw [hmm] at hap hml HLF
    have HM := Lib.hid (And.intro hmm hml)
    have HAP := Lib.hid hap
    clear h hap hmm hml hd
    refine wp_region_mix [(0, true, true), (1, true, true), (2, true, true), (3, true, true), (4, true, true), (5, true, true), (6, true, true), (7, true, true), (8, true, true), (9, true, true), (10, true, true), (11, false, false)] (fun W => W.heap[V]? = some (.cells #[.pointer (some ⟨q0, 0, none⟩), .pointer (some ⟨q1, 0, none⟩), .pointer (some ⟨p0, 0, none⟩), .pointer (some ⟨p1, 0, none⟩), .int .i64 1, .int .i64 (no : Int)] 110 (0, 0))) (by kernel_rfl) (by kernel_rfl) (HH.out.h) ?_
    simp only [picked, List.filterMap_cons, List.filterMap_nil, List.getElem?_toArray, List.getElem?_cons_zero, List.getElem?_cons_succ, Option.map_some]
    repeat (refine mix_free (v := ?_) rfl ?_ ?_; rotate_left; (focus (intro w' hI; have e4 := cells_of hI 4 _ rfl; have e0 := cells_of hI 0 _ rfl; clear hI; go_simp; try with_reducible rfl)); simp only [Act.put, List.setIfInBounds_toArray, List.set_cons_zero, List.set_cons_succ])
    rw [show IntKind.i64.wrap 0 = 0 from by decide]
    repeat (refine mix_free (v := ?_) rfl ?_ ?_; rotate_left; (focus (intro w' hI; have e4 := cells_of hI 4 _ rfl; have e0 := cells_of hI 0 _ rfl; clear hI; go_simp; try with_reducible rfl)); simp only [Act.put, List.setIfInBounds_toArray, List.set_cons_zero, List.set_cons_succ])
    refine mix_big rfl (fun K hK => ?_)
    go_wp2_with (go_at_call 79; refine HAP.out.mono ?_; rintro e w7 ⟨rfl, b7, g7⟩; have HB7 := Lib.hid b7; have HT7 := Lib.hid (((Turns.refl nobody w2).drew.mono (G := fun i => i = q0) (fun _ h => h.elim)).trans (turns_one g7) (fun _ h => Or.inl h)); clear b7 g7)
    refine hK _ _ (by simp) ?_
    clear hK K
    refine mix_nil ?_
    have hts7 : TS okV B w2 w7 := BlockAt.ts HH.out.j0.b HT7.out HH.out.bq0
    have hbo : BlockAt w7 q1 (cat L1) _ := block_keep HH.out.j1.b HT7.out (fun e => HH.out.ne e.symm) (nobytes_block HH.out.j0.b)
    have hld := load_any B V q0 q1 _ _ 1 no ((cat (snap (no + 1) T)).take m) _ (cat L1) _ w7 (heap_newer HH.out.h HT7.out (v_ne_q HH.out.h HH.out.j0.b)) HB7.out hbo (by rw [List.length_take]; have := cat_16 HH.out.g0 (by rw [snap_len]; have := HLL.out; omega); omega) (cat_16 HH.out.g1 HSM.out.2) HH.out.ne HH.out.bV HH.out.bq0 HH.out.bq1 (Nat.le_trans HH.out.size HT7.out.size) ((HTB.out.ts HTS2.out).ts hts7)
    have HTS7 := Lib.hid (HTS2.out.trans hts7)
    clear hts7 hbo
    go_wp2_with (go_at_call 84; refine hld.mono ?_; rintro e w8 ⟨k0, E0, P0, k1, E1, P1, v, hD0, hD1, rfl, hs2⟩; have HDD := Lib.hid (And.intro hD0 hD1); have HS2 := Lib.hid hs2; clear hD0 hD1 hs2)
    refine bodyPost_ret (results_tmp2 rfl _ _ _) rfl ?_
    have hs2 := HS2.out
    have hr1 := read_all HH.out.g1 HDD.out.2
    have hr0 := read_of HH.out.g0 HM.out.2 HDD.out.1
    rw [← HLF.out] at hr0
    rw [hr0, hr1] at hs2
    exact ⟨_, rfl, hs2.s, fun i hi => Nat.le_trans HTS7.out.size (hs2.n i hi), S2.vm hs2 (Or.inr rfl) (good_take HH.out.g0 _) HH.out.g1 HH.out.ne HH.out.bV HH.out.bq0 HH.out.bq1, HTS7.out.trans hs2.ts⟩
set_option maxRecDepth 10000 in
set_option maxHeartbeats 2000000 in

theorem vload_any (a b : ByteArray) (w : World) (ha : a.size ≤ 2000) (hb : b.size ≤ 2000) (ht : TabB w.heap.size w) :
    Calls Tryd.prog 60 #[.string a, .string b] w fun e w' => ∃ k0 E0 k1 E1, Done a k0 E0 ∧ Done b k1 E1 ∧ TS okV w.heap.size w w' ∧
      ((pick (numOf (recs a k0)) (numOf (recs b k1)) = 2 ∧ e = .returned (.tuple #[.pointer none, .slice none 0 0, .int .i64 4])) ∨
       (pick (numOf (recs a k0)) (numOf (recs b k1)) ≠ 2 ∧ ∃ V v, e = .returned (.tuple #[.pointer (some ⟨V, 0, none⟩), v, .int .i64 0]) ∧ TSl w' v (loadT (recs a k0) (recs b k1)) ∧ (∀ i, blk v i → w.heap.size ≤ i) ∧ VM w' w.heap.size V (M.load ⟨[], 0, [], 0, 0, 0⟩ (recs a k0) (recs b k1)))) := by
  have hof := of_any a b w (by omega) (by omega)
  obtain ⟨B, hB⟩ : ∃ B, w.heap.size = B := ⟨_, rfl⟩
  have HTB := Lib.hid ht
  have HB := Lib.hid hB
  have HZ := Lib.hid (And.intro ha hb)
  clear ht ha hb
  go_enter Tryd.func60, Tryd.ntmps60
  go_upto_region 2 with (go_at_call 83; refine hof.mono ?_; rintro e w1 ⟨V, q0, q1, rfl, ho⟩; have HO := Lib.hid ho; clear ho)
  clear hof
  have hld := load_any B V q0 q1 _ _ 0 0 _ _ _ _ w1 HO.out.h HO.out.b0 HO.out.b1 (by rw [str_len]; have := HZ.out.1; omega) (by rw [str_len]; have := HZ.out.2; omega) HO.out.ne (by rw [← HB.out]; exact HO.out.v) (by rw [← HB.out]; exact HO.out.n0) (by rw [← HB.out]; exact HO.out.n1) (by rw [← HB.out]; exact HO.out.t.size) (by rw [← HB.out]; exact HTB.out.still HO.out.t)
  rw [show (⟨a.data.toList.toArray⟩ : ByteArray) = a from by cases a; simp, show (⟨b.data.toList.toArray⟩ : ByteArray) = b from by cases b; simp] at hld
  go_upto_region 3 with (go_at_call 84; refine hld.mono ?_; rintro e w2 ⟨k0, E0, p0, k1, E1, p1, v, hD0, hD1, rfl, hs2⟩; obtain ⟨bb, hbb⟩ : ∃ bb, decide (¬ pick (numOf (recs a k0)) (numOf (recs b k1)) = 2) = bb := ⟨_, rfl⟩; rw [hbb]; have HBB := Lib.hid hbb; have HS2 := Lib.hid hs2; have HDD := Lib.hid (And.intro hD0 hD1); clear hD0 hD1 hs2 hbb)
  clear hld
  have HTS : Hid (TS okV B w w2) := Lib.hid ((TS.still HO.out.t).trans HS2.out.ts)
  cases bb with
  | false =>
    have HP : Hid (pick (numOf (recs a k0)) (numOf (recs b k1)) = 2) := Lib.hid (Classical.not_not.1 (of_decide_eq_false HBB.out))
    clear HBB
    go_wp2
    refine bodyPost_ret (results_tmp3 rfl _ _ _) rfl ?_
    rw [HB.out]
    exact ⟨k0, E0, k1, E1, HDD.out.1, HDD.out.2, HTS.out, Or.inl ⟨HP.out, rfl⟩⟩
  | true =>
    have HP : Hid (¬ pick (numOf (recs a k0)) (numOf (recs b k1)) = 2) := Lib.hid (of_decide_eq_true HBB.out)
    obtain ⟨vo, vc, rfl, -⟩ := Sl.shape HS2.out.s
    clear HBB
    go_wp2
    refine bodyPost_ret (results_tmp3 rfl _ _ _) rfl ?_
    rw [HB.out]
    refine ⟨k0, E0, k1, E1, HDD.out.1, HDD.out.2, HTS.out, Or.inr ⟨HP.out, V, _, rfl, HS2.out.s, fun i hi => by rw [← HB.out]; exact Nat.le_trans HO.out.t.size (HS2.out.n i hi), ?_⟩⟩
    exact S2.vm HS2.out (Or.inl rfl) (ok_good HDD.out.1.1 (by have := HZ.out.1; omega)) (ok_good HDD.out.2.1 (by have := HZ.out.2; omega)) HO.out.ne (by rw [← HB.out]; exact HO.out.v) (by rw [← HB.out]; exact HO.out.n0) (by rw [← HB.out]; exact HO.out.n1)
end Go.Proofs.YtlhcmgjkhkcgcaaDoor.vault

namespace Go.Proofs.YtlhcmgjkhkcgcaaDoor.vault
open Go.RowKit
open Go.Proofs.YtlhcmgjkhkcgcaaDoor.stepkit Go.Proofs.YtlhcmgjkhkcgcaaDoor.obj Go.Proofs.YtlhcmgjkhkcgcaaDoor.row Go.Proofs.YtlhcmgjkhkcgcaaDoor.mix Go.Proofs.YtlhcmgjkhkcgcaaDoor.idkit Go.Proofs.YtlhcmgjkhkcgcaaDoor.bytes Go.Proofs.YtlhcmgjkhkcgcaaDoor.octet Go.Proofs.YtlhcmgjkhkcgcaaDoor.eqkit Go.Proofs.YtlhcmgjkhkcgcaaDoor.record Go.Proofs.YtlhcmgjkhkcgcaaDoor.argkit
open Go.Proofs.YtlhcmgjkhkcgcaaDoor.journal (JAt two NoBytes turns_one block_keep block_still block_lt at_store)
open Go.Proofs.YtlhcmgjkhkcgcaaDoor.block (BlockAt keepOf keepOf_le keepOf_ge keepOf_all)

/-! ### Texts -/
def same (T U : List ByteArray) : Bool := decide (T = U)
theorem same_self (T : List ByteArray) : same T T = true := decide_eq_true rfl
theorem get_eq {T U : List ByteArray} (hl : T.length = U.length) (h : ∀ i, i < T.length → T.getD i nil = U.getD i nil) : T = U := by
  apply List.ext_getElem hl
  intro i h1 h2
  have := h i h1
  rw [List.getD_eq_getElem?_getD, List.getD_eq_getElem?_getD, List.getElem?_eq_getElem h1, List.getElem?_eq_getElem h2] at this
  exact this
set_option maxRecDepth 10000 in
set_option maxHeartbeats 1000000 in
theorem texts_all (a b : Value) (T U : List ByteArray) (w : World) (ha : TAt w a T) (hb : TAt w b U) (hl : T.length ≤ 16777216) (hl2 : U.length ≤ 16777216) :
    Calls Tryd.prog 45 #[a, b] w fun e w' => e = .returned (.bool (same T U)) ∧ Turns nobody w w' := by
  obtain ⟨ao, ca, rfl, ha⟩ := ha
  obtain ⟨bo, cb, rfl, hb⟩ := hb
  have HA := Lib.hid ha
  have HB := Lib.hid hb
  clear ha hb
  obtain ⟨R, hR⟩ : ∃ R, same T U = R := ⟨_, rfl⟩
  have HR := Lib.hid hR
  rw [hR]
  clear hR
  by_cases hlen : T.length = U.length
  · have hne : ((T.length : Int) != (U.length : Int)) = false := by rw [hlen]; simp
    have HLEN := Lib.hid hlen
    rw [← hlen]
    clear hlen hne
    have hne : ((T.length : Int) != (T.length : Int)) = false := by simp
    go_enter Tryd.func45, Tryd.ntmps45
    go_upto_region 4 with fail
    go_loopw [5] (fun i wr => ∃ k : Nat, k ≤ T.length ∧ i = .int .i64 k ∧ (∀ j, j < k → T.getD j nil = U.getD j nil) ∧ ∃ n, wr = w.drewN n) (fun i _ => T.length - (intOf i).toNat)
    case atStart => exact ⟨0, Nat.zero_le _, rfl, fun j hj => absurd hj (Nat.not_lt_zero j), 0, rfl⟩
    case round =>
      obtain ⟨k, hk, rfl, hall, n, rfl⟩ := hrel
      have HALL := Lib.hid hall
      clear hall
      by_cases hlt : k < T.length
      · obtain ⟨g, o, rfl, x0⟩ := HA.out k hlt
        obtain ⟨g', o', rfl, y0⟩ := HB.out k (by have := HLEN.out; omega)
        obtain ⟨s, hs⟩ : ∃ s, T.getD k nil = s := ⟨_, rfl⟩
        obtain ⟨t, ht⟩ : ∃ t, U.getD k nil = t := ⟨_, rfl⟩
        rw [hs] at x0
        rw [ht] at y0
        have HST := Lib.hid (And.intro hs ht)
        clear hs ht
        have hltI : (k : Int) < (T.length : Int) := by omega
        by_cases hst : s = t
        · subst hst
          go_wp2
          go_quiet (fail)
          go_wp2
          go_roundw
          case rel => exact ⟨k + 1, by omega, by go_num, fun j hj => by
            rcases Nat.lt_or_ge j k with h | h
            · exact HALL.out j h
            · obtain rfl : j = k := by omega
              rw [HST.out.1, HST.out.2], n + nq, rfl⟩
          case measure => simp [intOf]; omega
        · have hstI : (s.toList == t.toList) = false := by
            rw [beq_eq_false_iff_ne]
            intro e
            rw [ByteArray.toList_eq, ByteArray.toList_eq] at e
            exact hst (ByteArray.ext (Array.ext' e))
          have hR : R = false := by
            rw [← HR.out]
            refine decide_eq_false (fun e => hst ?_)
            rw [← HST.out.1, ← HST.out.2, e]
          subst hR
          clear hst
          go_wp2
          go_quiet (fail)
          go_wp2
          go_ret
          exact ⟨rfl, (Turns.drawn (F := nobody) ⟨n, rfl⟩).trans (Turns.drawn (F := nobody) ⟨nq, rfl⟩) (fun _ h => h.elim)⟩
      · have hltI : ¬ (k : Int) < (T.length : Int) := by omega
        have hR : R = true := by
          rw [← HR.out]
          exact decide_eq_true (get_eq HLEN.out (fun i hi => HALL.out i (by omega)))
        subst hR
        go_wp2
        go_ret
        exact ⟨rfl, Turns.drawn (F := nobody) ⟨_, rfl⟩⟩
  · have hne : ((T.length : Int) != (U.length : Int)) = true := by simp; omega
    have hne2 : ((T.length : Int) == (U.length : Int)) = false := by simp; omega
    have hR : R = false := by
      rw [← HR.out]
      exact decide_eq_false (fun e => hlen (by rw [e]))
    subst hR
    clear hlen
    go_enter Tryd.func45, Tryd.ntmps45
    go_wp2
    go_ret
    exact ⟨rfl, Turns.refl _ _⟩

/-! ### Nobody made it -/
theorem use_none (u : Value) (w : World) (h : NoneAt u w) : Calls Tryd.prog 49 #[u] w fun e w' => e = .returned (.tuple #[.int .i64 0, .int .i64 0]) ∧ w = w' := by
  have hn := none_true u w h
  clear h
  go_enter Tryd.func49, Tryd.ntmps49
  go_wp2_with (go_at_call 86; refine hn.mono ?_; rintro e w' ⟨rfl, rfl⟩)
  exact bodyPost_ret (results_tmp2 rfl _ _ _) rfl ⟨rfl, rfl⟩
theorem files_none (u : Value) (w : World) (h : NoneAt u w) : Calls Tryd.prog 58 #[u] w fun e w' => e = .returned (.tuple #[.string ⟨#[]⟩, .string ⟨#[]⟩]) ∧ w = w' := by
  have hn := none_true u w h
  clear h
  go_enter Tryd.func58, Tryd.ntmps58
  go_wp2_with (go_at_call 86; refine hn.mono ?_; rintro e w' ⟨rfl, rfl⟩)
  exact bodyPost_ret (results_tmp2 rfl _ _ _) rfl ⟨rfl, rfl⟩
theorem size_none (u : Value) (w : World) (h : NoneAt u w) : Calls Tryd.prog 59 #[u] w fun e w' => e = .returned (.int .i64 0) ∧ w = w' := by
  have hn := none_true u w h
  clear h
  go_enter Tryd.func59, Tryd.ntmps59
  go_wp2_with (go_at_call 86; refine hn.mono ?_; rintro e w' ⟨rfl, rfl⟩)
  go_ret
  exact ⟨rfl, rfl⟩
theorem sync_none (u : Value) (w : World) (h : NoneAt u w) : Calls Tryd.prog 43 #[u] w fun e w' => e = .returned (.int .i64 0) ∧ w = w' := by
  have hn := none_true u w h
  clear h
  go_enter Tryd.func43, Tryd.ntmps43
  go_wp2_with (go_at_call 86; refine hn.mono ?_; rintro e w' ⟨rfl, rfl⟩)
  go_ret
  exact ⟨rfl, rfl⟩
theorem append_none (u : Value) (s : ByteArray) (w : World) (h : NoneAt u w) : Calls Tryd.prog 42 #[u, .string s] w fun e w' => e = .returned (.int .i64 8) ∧ w = w' := by
  have hn := none_true u w h
  clear h
  go_enter Tryd.func42, Tryd.ntmps42
  go_wp2_with (go_at_call 86; refine hn.mono ?_; rintro e w' ⟨rfl, rfl⟩)
  go_ret
  exact ⟨rfl, rfl⟩
theorem snap_none (u : Value) (w : World) (h : NoneAt u w) : Calls Tryd.prog 50 #[u, .slice none 0 0] w fun e w' => e = .returned (.int .i64 8) ∧ w = w' := by
  have hn := none_true u w h
  clear h
  go_enter Tryd.func50, Tryd.ntmps50
  go_wp2_with (go_at_call 86; refine hn.mono ?_; rintro e w' ⟨rfl, rfl⟩)
  go_ret
  exact ⟨rfl, rfl⟩
theorem crash_none (u : Value) (k : Int) (w : World) (h : NoneAt u w) : Calls Tryd.prog 44 #[u, .int .i64 k] w fun e w' => e = .returned (.slice none 0 0) ∧ w = w' := by
  have hn := none_true u w h
  clear h
  go_enter Tryd.func44, Tryd.ntmps44
  go_wp2_with (go_at_call 86; refine hn.mono ?_; rintro e w' ⟨rfl, rfl⟩)
  go_ret
  exact ⟨rfl, rfl⟩
theorem die_none (u : Value) (k : Int) (w : World) (h : NoneAt u w) : Calls Tryd.prog 48 #[u, .slice none 0 0, .int .i64 k] w fun e w' => e = .returned (.tuple #[.slice none 0 0, .int .i64 8]) ∧ w = w' := by
  have hn := none_true u w h
  clear h
  go_enter Tryd.func48, Tryd.ntmps48
  go_wp2_with (go_at_call 86; refine hn.mono ?_; rintro e w' ⟨rfl, rfl⟩)
  exact bodyPost_ret (results_tmp2 rfl _ _ _) rfl ⟨rfl, rfl⟩

/-! ### Plain: what a crash leaves -/
theorem rb_pos (r : RV) : 0 < (rb r).length := by rw [rb_len]; omega
theorem cutN_at {L : List RV} {n : Nat} (hn : n ≤ L.length) : cutN L (endOf L n) = n := by
  have h1 := cutN_ge hn (Nat.le_refl _)
  obtain ⟨h2, h3, -⟩ := cutN_spec L (endOf L n)
  rcases Nat.lt_or_ge n (cutN L (endOf L n)) with h | h
  · have h4 := endOf_le L (n + 1) _ h
    have h5 := endOf_succ L n (by omega)
    have h6 := rb_pos (L[n]'(by omega))
    omega
  · omega
theorem keepOf_zero (len safe : Nat) : keepOf len safe 0 = safe := by unfold keepOf; omega
theorem leftOf_zero {L : List RV} {n : Nat} (hn : n ≤ L.length) : leftOf L n 0 = L.take n := by
  unfold leftOf
  rw [keepOf_zero, cutN_at hn]
theorem leftOf_all {L : List RV} (k : Int) : leftOf L L.length k = L := by
  unfold leftOf
  rw [endOf_all, keepOf_all, cutN_all (Nat.le_refl _), List.take_length]
/-- What is left of a file begins with what was safe. -/
theorem leftOf_ge {L : List RV} {n : Nat} (hn : n ≤ L.length) (hs : endOf L n ≤ (cat L).length) (k : Int) : ∃ j, n ≤ j ∧ j ≤ L.length ∧ leftOf L n k = L.take j :=
  ⟨_, cutN_ge hn (keepOf_ge _ _ _), (cutN_spec L _).1, rfl⟩

/-! ### awake -/
abbrev sa : ByteArray := ⟨#[97]⟩
abbrev sb : ByteArray := ⟨#[98]⟩
def A1 : M := ⟨[genR 0, sealR, entR sa, entR sb], 3, [], 0, 0, 0⟩
theorem numOf_new (l : List RV) : numOf (genR 0 :: sealR :: l) = 0 := by
  have h := numOf_more (l := snap 0 []) (m := l) (by rw [numOf_snap (by decide)]; decide)
  rw [numOf_snap (by decide)] at h
  exact h
theorem A1_left : leftOf [genR 0, sealR, entR sa, entR sb] 3 0 = [genR 0, sealR, entR sa] := leftOf_zero (by decide)
theorem heldOf_new (l : List RV) : heldOf (genR 0 :: sealR :: l) = heldOf l := rfl
theorem A1_crash : A1.crash 0 = ⟨[genR 0, sealR, entR sa], 3, [], 0, 0, 0⟩ := by
  show M.load A1 (leftOf [genR 0, sealR, entR sa, entR sb] 3 0) [] = _
  rw [A1_left]
  unfold M.load useOf noOf
  rw [numOf_new, numOf_nil]
  rfl
theorem A1_text : A1.crashT 0 = [sa] := by
  show loadT (leftOf [genR 0, sealR, entR sa, entR sb] 3 0) [] = _
  rw [A1_left]
  unfold loadT
  rw [numOf_new, numOf_nil]
  rfl
set_option maxRecDepth 10000 in
set_option maxHeartbeats 2000000 in
theorem awake_any (w : World) (ht : TabB w.heap.size w) : Calls Tryd.prog 46 #[] w fun e w' => e = .returned (.bool true) ∧ Turns nobody w w' := by
  have hnew := new_any w ht
  have hz0 : small M0 := ⟨by show 2 ≤ 5000; decide, by show 0 ≤ 5000; decide⟩
  have hz1 : small (M0.app ⟨#[97]⟩) := ⟨by show 3 ≤ 5000; decide, by show 0 ≤ 5000; decide⟩
  have hz2 : small (M0.app ⟨#[97]⟩).sync := ⟨by show 3 ≤ 5000; decide, by show 0 ≤ 5000; decide⟩
  have hz3 : small A1 := ⟨by show 4 ≤ 5000; decide, by show 0 ≤ 5000; decide⟩
  have HZ := Lib.hid (And.intro hz0 (And.intro hz1 (And.intro hz2 hz3)))
  clear hz0 hz1 hz2 hz3
  have HTB := Lib.hid ht
  clear ht
  go_enter Tryd.func46, Tryd.ntmps46
  go_upto_region 6 with first
    | (go_at_call 41; refine hnew.mono ?_; rintro e w1 ⟨V, rfl, hm1, ts1⟩; have HM1 := Lib.hid hm1; have HTS1 := Lib.hid ts1; clear hm1 ts1)
    | (go_at_call 42; (with_reducible refine (append_any _ V M0 ⟨#[97]⟩ _ HM1.out HZ.out.1 (by decide) (HTB.out.ts HTS1.out)).mono ?_); rintro e w2 ⟨rfl, hm2, ts2⟩; have HM2 := Lib.hid hm2; have HTS2 := Lib.hid (HTS1.out.trans ts2); clear hm2 ts2)
    | (go_at_call 43; refine (sync_any _ V _ _ HM2.out HZ.out.2.1).mono ?_; rintro e w3 ⟨rfl, hm3, ts3⟩; have HM3 := Lib.hid hm3; have HTS3 := Lib.hid (HTS2.out.trans ts3); clear hm3 ts3)
    | (go_at_call 42; (with_reducible refine (append_any _ V _ ⟨#[98]⟩ _ HM3.out HZ.out.2.2.1 (by decide) (HTB.out.ts HTS3.out)).mono ?_); rintro e w4 ⟨rfl, hm4, ts4⟩; have HM4 : Hid (VM w4 w.heap.size V A1) := Lib.hid hm4; have HTS4 := Lib.hid (HTS3.out.trans ts4); clear hm4 ts4)
    | (go_at_call 44; refine (crash_any _ V A1 0 _ HM4.out HZ.out.2.2.2 (by decide) (by decide) (HTB.out.ts HTS4.out)).mono ?_; rintro e w5 ⟨v, rfl, hs, hn, hm5, ts5⟩; rw [A1_crash] at hm5; rw [A1_text] at hs; have HM5 := Lib.hid hm5; have HS5 := Lib.hid hs; have HTS5 := Lib.hid (HTS4.out.trans ts5); clear hs hn hm5 ts5)
  clear hnew HM1 HM2 HM3 HM4 HTS1 HTS2 HTS3 HTS4
  obtain ⟨ao, cap, hv, hc⟩ := TSl.at_ HS5.out
  obtain ⟨b, o, rfl, c0⟩ := hc 0 (by decide)
  subst hv
  have c0 : w5.cell? ⟨b, o, none⟩ = some (.string ⟨#[97]⟩) := c0
  have hsn := snap_ok _ V _ _ [sa] w5 HM5.out ⟨by decide, by decide⟩ (fun W hW => TSl.at_ (hW.sl HS5.out not_okV_str)) (by decide) (fun s hs => by rw [List.mem_singleton.1 hs]; decide) (by decide) (HTB.out.ts HTS5.out)
  clear hc
  go_wp2_with first
    | (go_at_call 50; refine hsn.mono ?_; rintro e w6 ⟨rfl, hm6, ts6⟩; have HTS6 := Lib.hid (HTS5.out.trans ts6); have hsz := size_any _ V _ _ hm6; have HSZ := Lib.hid hsz; clear hm6 ts6 hsz)
    | (go_at_call 59; refine HSZ.out.mono ?_; rintro e w7 ⟨rfl, t7⟩; have HT7 := Lib.hid (HTS6.out.turns (Turns.refl nobody _)); have HT8 := Lib.hid (HT7.out.trans t7 (fun _ h => h.elim)); clear t7)
  go_ret
  refine ⟨?_, HT8.out⟩
  have hp : 0 < (cat (M.snp ⟨[genR 0, sealR, entR sa], 3, [], 0, 0, 0⟩ [sa]).L).length := by
    show 0 < (cat (genR 1 :: ([entR sa] ++ [sealR]))).length
    rw [cat_cons, List.length_append]
    have := rb_pos (genR 1)
    omega
  rw [decide_eq_true hp]
  rfl
set_option maxRecDepth 10000 in
set_option maxHeartbeats 2000000 in
theorem zero_any (s : ByteArray) (k : Int) (w : World) (ht : TabB w.heap.size w) : Calls Tryd.prog 14 #[.string s, .int .i64 k] w fun e w' => e = .returned (.bool true) ∧ Turns nobody w w' := by
  obtain ⟨P, hP⟩ : ∃ P, w.heap.size = P := ⟨_, rfl⟩
  obtain ⟨w1, hw1⟩ : ∃ w1, w1 = w.alloc (.cells #[.pointer none, .pointer none, .pointer none, .pointer none, .int .i64 0, .int .i64 0] 110) := ⟨_, rfl⟩
  have t1 : Turns nobody w w1 := by rw [hw1]; exact (Turns.refl _ _).alloc _
  have h1 : w1.heap[P]? = some (.cells #[.pointer none, .pointer none, .pointer none, .pointer none, .int .i64 0, .int .i64 0] 110 (0, 0)) := by rw [hw1, ← hP]; exact heap_alloc_new w _
  have hn : NoneAt (.pointer none) w1 := Or.inl rfl
  have hz : NoneAt (.pointer (some ⟨P, 0, none⟩)) w1 := Or.inr ⟨P, rfl, cells_of h1 0 _ rfl⟩
  have htb : TabB w1.heap.size w1 := ⟨(ht.still t1).t, Nat.lt_of_lt_of_le ht.lt t1.size⟩
  have haw := awake_any w1 htb
  have HA := Lib.hid haw
  have HZ := Lib.hid (And.intro hn hz)
  have HT1 := Lib.hid t1
  have HW1 := Lib.hid hw1
  clear t1 h1 hn hz htb haw hw1 ht
  have hem : ((⟨#[]⟩ : ByteArray) ++ ⟨#[]⟩).toList = [] := by rw [ByteArray.toList_eq, ByteArray.data_append]; rfl
  go_enter Tryd.func14, Tryd.ntmps14
  go_upto_region 3 with fail
  rw [← HW1.out]
  clear hP HW1
  go_wp2_with first
    | (go_at_call 48; refine (die_none _ k _ (by first | exact HZ.out.1 | exact HZ.out.2)).mono ?_; rintro e w' ⟨rfl, rfl⟩)
    | (go_at_call 58; refine (files_none _ _ (by first | exact HZ.out.1 | exact HZ.out.2)).mono ?_; rintro e w' ⟨rfl, rfl⟩)
    | (go_at_call 49; refine (use_none _ _ (by first | exact HZ.out.1 | exact HZ.out.2)).mono ?_; rintro e w' ⟨rfl, rfl⟩)
    | (go_at_call 42; refine (append_none _ s _ (by first | exact HZ.out.1 | exact HZ.out.2)).mono ?_; rintro e w' ⟨rfl, rfl⟩)
    | (go_at_call 50; refine (snap_none _ _ (by first | exact HZ.out.1 | exact HZ.out.2)).mono ?_; rintro e w' ⟨rfl, rfl⟩)
    | (go_at_call 44; refine (crash_none _ k _ (by first | exact HZ.out.1 | exact HZ.out.2)).mono ?_; rintro e w' ⟨rfl, rfl⟩)
    | (go_at_call 43; refine (sync_none _ _ (by first | exact HZ.out.1 | exact HZ.out.2)).mono ?_; rintro e w' ⟨rfl, rfl⟩)
    | (go_at_call 59; refine (size_none _ _ (by first | exact HZ.out.1 | exact HZ.out.2)).mono ?_; rintro e w' ⟨rfl, rfl⟩)
    | (go_at_call 46; refine HA.out.mono ?_; rintro e w9 ⟨rfl, t9⟩; have HT9 := Lib.hid (HT1.out.trans t9 (fun _ h => h.elim)); clear t9)
  go_ret
  exact ⟨rfl, HT9.out⟩
end Go.Proofs.YtlhcmgjkhkcgcaaDoor.vault
