/- Package chase: what each call answers, and what it does to what is asked for. -/
import Derived.Test.YtcgnadihjbdolabFork
import Derived.Test.YtcgnadihjbdolabObj
import Derived.Test.YtcgnadihjbdolabIdKit
import Derived.Lib.SmallJoins
import Derived.WalkSmall
import Derived.Deep.QuietTactic
import Derived.BigQuiet
namespace Go.Proofs.Ytcgnadihjbdolab.chase
open Go.RowKit
open Go.Proofs.Ytcgnadihjbdolab.stepkit Go.Proofs.Ytcgnadihjbdolab.row Go.Proofs.Ytcgnadihjbdolab.mix Go.Proofs.Ytcgnadihjbdolab.obj Go.Proofs.Ytcgnadihjbdolab.eqkit Go.Proofs.Ytcgnadihjbdolab.idkit

/-- What is asked for: of whom, till when. -/
structure Ch where
  id : List Int
  peer : Int
  due : Int

def Ch.cs (c : Ch) : List Value := idc c.id ++ [Value.int .i64 c.peer, Value.int .i64 c.due]
def Ch.val (c : Ch) : Value := .agg c.cs.toArray
def ch0 : Ch := ⟨[], 0, 0⟩
def ccells (l : List Ch) : List Value := (l.map Ch.cs).flatten
/-- Ids of 32 bytes. -/
def Whole (l : List Ch) : Prop := ∀ c ∈ l, c.id.length = 32

theorem cs_len {c : Ch} (h : c.id.length = 32) : c.cs.length = 34 := by simp [Ch.cs, idc_len, h]
theorem cs_all {l : List Ch} (h : Whole l) : ∀ r ∈ l.map Ch.cs, r.length = 34 := by
  intro r hr
  obtain ⟨x, hx, rfl⟩ := List.mem_map.1 hr
  exact cs_len (h x hx)
theorem ccells_len {l : List Ch} (h : Whole l) : (ccells l).length = l.length * 34 := by
  unfold ccells
  rw [length_flat (cs_all h), List.length_map]
theorem ccells_one (l : List Ch) : ∀ u ∈ ccells l, u.oneCell' = true := by
  intro u hu
  unfold ccells at hu
  obtain ⟨r, hr, hu⟩ := List.mem_flatten.1 hu
  obtain ⟨x, _, rfl⟩ := List.mem_map.1 hr
  unfold Ch.cs at hu
  rcases List.mem_append.1 hu with h | h
  · exact idc_one _ u h
  · simp only [List.mem_cons, List.not_mem_nil, or_false] at h
    rcases h with rfl | rfl <;> rfl
theorem ccells_append (l m : List Ch) : ccells (l ++ m) = ccells l ++ ccells m := by simp [ccells]
theorem ccells_take {l : List Ch} (h : Whole l) (k : Nat) : (ccells l).take (k * 34) = ccells (l.take k) := by unfold ccells; rw [take_flat (cs_all h), List.map_take]
theorem ccells_drop {l : List Ch} (h : Whole l) (k : Nat) : (ccells l).drop (k * 34) = ccells (l.drop k) := by unfold ccells; rw [drop_flat (cs_all h), List.map_drop]

/-- A slice of such. -/
def CSl (w : World) (v : Value) (l : List Ch) : Prop := Sl w 34 34 v l.length (ccells l)

/-- One of them, where it lies. -/
theorem CSl.range {w : World} {g o cap : Nat} {sp : Option Nat} {l : List Ch} (hw : Whole l) (h : CSl w (.slice (some ⟨g, o, sp⟩) l.length cap) l) (i : Nat) (hi : i < l.length) : w.rangeAt g (o + i * 34) (l.getD i ch0).cs := by
  intro j v hj
  have hm : l.getD i ch0 ∈ l := by rw [List.getD, List.getElem?_eq_getElem hi]; exact List.getElem_mem _
  have hjl : j < 34 := by have := (List.getElem?_eq_some_iff.1 hj).1; rw [cs_len (hw _ hm)] at this; exact this
  have hc := Sl.cell h (i * 34 + j) (by rw [ccells_len hw]; omega)
  unfold ccells at hc
  rw [getD_flat (cs_all hw) i j (by simpa using hi) hjl] at hc
  have hg : (l.map Ch.cs).getD i [] = (l.getD i ch0).cs := by simp [List.getD, hi]
  rw [hg, ← Nat.add_assoc] at hc
  rw [hc, List.getD, hj]
  rfl

theorem range_left {w : World} {b o : Nat} {xs ys : List Value} (h : w.rangeAt b o (xs ++ ys)) : w.rangeAt b o xs := fun j v hj => h j v (by rw [List.getElem?_append_left (List.getElem?_eq_some_iff.1 hj).1]; exact hj)
theorem range_right {w : World} {b o n : Nat} {xs ys : List Value} (h : w.rangeAt b o (xs ++ ys)) (hn : xs.length = n) : w.rangeAt b (o + n) ys := fun j v hj => by
  have := h (n + j) v (by rw [List.getElem?_append_right (by omega), hn, Nat.add_sub_cancel_left]; exact hj)
  rwa [← Nat.add_assoc] at this
theorem range_block {w : World} {b : Nat} {cs : Array Value} {t : TypeId} {fr : Nat × Nat} (h : w.heap[b]? = some (.cells cs t fr)) : w.rangeAt b 0 cs.toList := fun j v hj => by
  simp only [Nat.zero_add, World.cell?, h]
  simpa using hj
theorem range_turns {w w' : World} {b o : Nat} {cs : List Value} (h : w.rangeAt b o cs) (ht : Turns nobody w w') : w'.rangeAt b o cs := fun j v hj => (ht.cell (lt_of_cell' (h j v hj)) (fun h => h)).trans (h j v hj)

theorem infoId : (Try.prog.info? 26).map (·.size) = some 32 := by kernel_rfl
theorem infoCh : (Try.prog.info? 34).map (·.size) = some 34 := by kernel_rfl
theorem load_id {w : World} {b o : Nat} {id : List Int} (h : w.rangeAt b o (idc id)) (hl : id.length = 32) : (Instr.loadAt 26 (.pointer (some ⟨b, o, none⟩))).run Try.prog w = .ok (idv id) w :=
  run_loadAt_mid w b o _ _ _ h Try.underlying26 rfl (by rw [infoId, idc_len, hl])
theorem load_ch {w : World} {b o : Nat} {c : Ch} (h : w.rangeAt b o c.cs) (hl : c.id.length = 32) : (Instr.loadAt 34 (.pointer (some ⟨b, o, none⟩))).run Try.prog w = .ok c.val w :=
  run_loadAt_mid w b o _ _ _ h Try.underlying34 rfl (by rw [infoCh, cs_len hl])

theorem infoU8' : ∃ i, Try.prog.info? 5 = some i := info_of_underlying Try.underlying5
theorem eq_id (w : World) (xs ys : List Int) (hx : xs.length = 32) (hy : ys.length = 32) :
    (binOp .neq 26 (idv xs) (idv ys)).run Try.prog w = .ok (.bool (!(decide (xs = ys)))) w ∧ (binOp .eql 26 (idv xs) (idv ys)).run Try.prog w = .ok (.bool (decide (xs = ys))) w := by
  obtain ⟨i, hi⟩ := infoU8'
  exact eq_bytes Try.underlying26 Try.underlying5 (by kernel_rfl) hi (by kernel_rfl) w xs ys hx hy

theorem eq_op (w : World) (xs ys : List Int) (hx : xs.length = 32) (hy : ys.length = 32) : (Op.equalIn 10000 26 (.agg (idc xs).toArray) (.agg (idc ys).toArray)).run Try.prog w = .ok (decide (xs = ys)) w := by
  obtain ⟨i, hi⟩ := infoU8'
  have := op_eq_bytes Try.underlying26 Try.underlying5 (by kernel_rfl) hi (by kernel_rfl) w xs ys hx hy
  exact this

/-- The closure of find. -/
theorem found_any (c : Ch) (hc : c.id.length = 32) (b : Nat) (id : List Int) (hid : id.length = 32) (w : World) (h : w.heap[b]? = some (.cells (idc id).toArray 26 (0, 0))) :
    Calls Try.prog 20 #[c.val, .pointer (some ⟨b, 0, none⟩)] w fun e w' => e = .returned (.bool (decide (c.id = id))) ∧ Turns nobody w w' := by
  have ht := (Turns.refl nobody w).alloc (.cells c.cs.toArray 34)
  have h1 : (w.alloc (.cells c.cs.toArray 34)).rangeAt w.heap.size 0 (idc c.id) := range_left (by have := range_block (heap_alloc_new w (.cells c.cs.toArray 34)); rw [List.toList_toArray] at this; exact this)
  have h2 : (w.alloc (.cells c.cs.toArray 34)).rangeAt b 0 (idc id) := by have := range_block (heap_newer h ht (fun h => h)); rw [List.toList_toArray] at this; exact this
  have h3 := eq_op (w.alloc (.cells c.cs.toArray 34)) c.id id hc hid
  have s1 : (Try.prog.info? 26).map (·.size) = some (idc c.id).length := by rw [infoId, idc_len, hc]
  have s2 : (Try.prog.info? 26).map (·.size) = some (idc id).length := by rw [infoId, idc_len, hid]
  have H1 := Lib.hid h1
  have H2 := Lib.hid h2
  have S1 := Lib.hid s1
  have S2 := Lib.hid s2
  have H3 := Lib.hid h3
  clear h1 h2 s1 s2 h h3
  unfold Ch.val
  go_enter Try.func20, Try.ntmps20
  go_wp2_with first
    | (with_reducible refine wpList_load_mid rfl _ _ rfl _ _ rfl _ _ H1.out Try.underlying26 rfl S1.out ?_)
    | (with_reducible refine wpList_load_mid rfl _ _ rfl _ _ rfl _ _ H2.out Try.underlying26 rfl S2.out ?_)
  rw [H3.out]
  simp only [Result.andThen_ok, Oper.upon]
  go_wp2
  refine ⟨rfl, _, results_tmp (t := 3) ?_ _ _ _, ?_⟩
  · kernel_rfl
  · exact ⟨rfl, ht⟩

end Go.Proofs.Ytcgnadihjbdolab.chase
