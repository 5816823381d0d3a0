/- Package outbox: what each call answers, and what it does to what waits. -/
import Derived.Test.YtjjapnphljhicabCommKit
import Derived.Test.YtjjapnphljhicabFork
import Derived.Test.YtjjapnphljhicabObj
import Derived.Test.YtjjapnphljhicabEqKit
import Derived.Conc.SmallLaws
import Derived.Deep.QuietTactic
import Derived.BigQuiet
import Derived.Lib.SmallJoins
import Derived.WalkSmall
namespace Go.Proofs.Ytjjapnphljhicab.outbox
open Go.RowKit Go.Conc
open Go.Proofs.Ytjjapnphljhicab.stepkit Go.Proofs.Ytjjapnphljhicab.row Go.Proofs.Ytjjapnphljhicab.mix Go.Proofs.Ytjjapnphljhicab.obj Go.Proofs.Ytjjapnphljhicab.eqkit Go.Proofs.Ytjjapnphljhicab.commkit

/-- A message that waits. -/
structure Ou where
  t : Int
  b : ByteArray

def Ou.cs (p : Ou) : List Value := [.int .i64 p.t, .string p.b]
def Ou.val (p : Ou) : Value := .agg #[.int .i64 p.t, .string p.b]
def ou0 : Ou := ⟨0, ⟨#[]⟩⟩
def ocells (l : List Ou) : List Value := (l.map Ou.cs).flatten
theorem ocs_len (l : List Ou) : ∀ r ∈ l.map Ou.cs, r.length = 2 := by
  intro r hr
  obtain ⟨x, _, rfl⟩ := List.mem_map.1 hr
  rfl
theorem ocells_len (l : List Ou) : (ocells l).length = l.length * 2 := by
  unfold ocells
  rw [length_flat (ocs_len l), List.length_map]
theorem ocells_one (l : List Ou) : ∀ u ∈ ocells l, u.oneCell' = true := by
  intro u hu
  unfold ocells at hu
  obtain ⟨r, hr, hu⟩ := List.mem_flatten.1 hu
  obtain ⟨x, _, rfl⟩ := List.mem_map.1 hr
  simp only [Ou.cs, List.mem_cons, List.not_mem_nil, or_false] at hu
  rcases hu with rfl | rfl <;> rfl
theorem ocells_append (l m : List Ou) : ocells (l ++ m) = ocells l ++ ocells m := by simp [ocells]
theorem ocells_take (l : List Ou) (k : Nat) : (ocells l).take (k * 2) = ocells (l.take k) := by unfold ocells; rw [take_flat (ocs_len l), List.map_take]
theorem ocells_drop (l : List Ou) (k : Nat) : (ocells l).drop (k * 2) = ocells (l.drop k) := by unfold ocells; rw [drop_flat (ocs_len l), List.map_drop]
theorem ocells_get (l : List Ou) (i j : Nat) (hi : i < l.length) (hj : j < 2) : (ocells l).getD (i * 2 + j) undef = ((l.getD i ou0).cs).getD j undef := by
  unfold ocells
  rw [getD_flat (ocs_len l) i j (by simpa using hi) hj]
  simp [List.getD, hi]

/-- A slice of such. -/
def OSl (w : World) (v : Value) (l : List Ou) : Prop := Sl w 29 2 v l.length (ocells l)
theorem OSl.cell {w : World} {g o cap : Nat} {sp : Option Nat} {l : List Ou} (h : OSl w (.slice (some ⟨g, o, sp⟩) l.length cap) l) (i : Nat) (hi : i < l.length) :
    w.cell? ⟨g, o + i * 2, none⟩ = some (.int .i64 (l.getD i ou0).t) ∧ w.cell? ⟨g, o + i * 2 + 1, none⟩ = some (.string (l.getD i ou0).b) := by
  unfold OSl at h
  have hc := fun j (hj : j < 2) => h.cell (i * 2 + j) (by rw [ocells_len]; omega)
  have h0 := hc 0 (by omega)
  have h1 := hc 1 (by omega)
  rw [ocells_get l i _ hi (by omega)] at h0 h1
  rw [← Nat.add_assoc] at h0 h1
  exact ⟨h0, h1⟩
theorem infoOu : (Try.prog.info? 29).map (fun i => (i.zero, i.size, i.bytes)) = some (some (.agg #[.int .i64 0, .string ⟨#[]⟩]), 2, 24) := by kernel_rfl

theorem cells_of {w : World} {p : Nat} {cs : Array Value} {t : TypeId} (h : w.heap[p]? = some (.cells cs t (0, 0))) (i : Nat) (v : Value) (hv : cs[i]? = some v) : w.cell? ⟨p, i, none⟩ = some v := by simp [World.cell?, h, hv]
theorem free_of {w : World} {p : Nat} {cs : Array Value} {t : TypeId} (h : w.heap[p]? = some (.cells cs t (0, 0))) (i : Nat) : w.frozen? ⟨p, i, none⟩ = false := by simp [World.frozen?, h]

theorem Turns.setChan {F : Nat → Prop} {a b : World} (h : Turns F a b) (c cap : Nat) (buf : Array Value) (cl : Bool) (s r : Nat) (tm : Bool) (hc : F c ∨ a.heap.size ≤ c) : Turns F a (b.setChan c cap buf cl s r tm) :=
  ⟨h.os, h.tape, h.output, by rw [size_setChan]; exact h.size, fun i hi hn => by
    have hic : c ≠ i := fun e => by rcases hc with hc | hc; exact hn (e ▸ hc); omega
    have := h.block i hi hn
    rw [← this]
    simp [World.setChan, Array.getElem?_setIfInBounds_ne hic]⟩

/-- A box: what waits lies in the channel. -/
def OutAt (p most : Nat) (l : List Ou) (lost : Int) : (Nat → Prop) → World → Prop := fun F w => ∃ c s r, w.heap[p]? = some (.cells #[.chan (some c), .int .i64 lost] 47 (0, 0)) ∧
  w.heap[c]? = some (.chan most (l.map Ou.val).toArray false s r false) ∧ p ≠ c ∧ F = fun i => i = p ∨ i = c
theorem local_out (p most : Nat) (l : List Ou) (lost : Int) : Local (OutAt p most l lost) := by
  rintro F w ⟨c, s, r, h1, h2, h3, rfl⟩
  refine ⟨fun i hi => ?_, fun w' hs hb => ⟨c, s, r, ?_, ?_, h3, rfl⟩⟩
  · rcases hi with rfl | rfl
    · exact lt_of_block h1
    · exact lt_of_block h2
  · rw [hb p (Or.inl rfl)]; exact h1
  · rw [hb c (Or.inr rfl)]; exact h2

theorem eq_chan (c : Nat) (w : World) : (binOp .eql 45 (.chan (some c)) (.chan none)).run Try.prog w = .ok (.bool false) w := by kernel_rfl
theorem eq_chan_nil (w : World) : (binOp .eql 45 (.chan none) (.chan none)).run Try.prog w = .ok (.bool true) w := by kernel_rfl

theorem none_no (p : Nat) (c : Nat) (w : World) (h : w.cell? ⟨p, 0, none⟩ = some (.chan (some c))) :
    Calls Try.prog 16 #[.pointer (some ⟨p, 0, none⟩)] w fun e w' => e = .returned (.bool false) ∧ w = w' := by
  have hq1 := eq_chan
  have hq2 := eq_chan_nil
  go_enter Try.func16, Try.ntmps16
  go_wp2
  go_ret
  exact ⟨rfl, rfl⟩
theorem none_zero (p : Nat) (w : World) (h : w.cell? ⟨p, 0, none⟩ = some (.chan none)) :
    Calls Try.prog 16 #[.pointer (some ⟨p, 0, none⟩)] w fun e w' => e = .returned (.bool true) ∧ w = w' := by
  have hq1 := eq_chan
  have hq2 := eq_chan_nil
  go_enter Try.func16, Try.ntmps16
  go_wp2
  go_ret
  exact ⟨rfl, rfl⟩
theorem none_nil (w : World) :
    Calls Try.prog 16 #[.pointer none] w fun e w' => e = .returned (.bool true) ∧ w = w' := by
  have hq1 := eq_chan
  have hq2 := eq_chan_nil
  go_enter Try.func16, Try.ntmps16
  go_wp2
  go_ret
  exact ⟨rfl, rfl⟩

theorem lost_any (p most : Nat) (l : List Ou) (lost : Int) (F : Nat → Prop) (w : World) (h : OutAt p most l lost F w) :
    Calls Try.prog 10 #[.pointer (some ⟨p, 0, none⟩)] w fun e w' => e = .returned (.int .i64 lost) ∧ w = w' := by
  obtain ⟨c, s, r, hp, hc, hne, _⟩ := h
  have c0 := cells_of hp 0 _ rfl
  have c1 := cells_of hp 1 _ rfl
  clear hp hc
  go_enter Try.func10, Try.ntmps10
  go_wp2_with (go_at_call 16; refine (none_no _ _ _ c0).mono ?_; rintro e w' ⟨rfl, rfl⟩)
  go_ret
  exact ⟨rfl, rfl⟩
theorem len_any (p most : Nat) (l : List Ou) (lost : Int) (F : Nat → Prop) (w : World) (h : OutAt p most l lost F w) :
    Calls Try.prog 15 #[.pointer (some ⟨p, 0, none⟩)] w fun e w' => e = .returned (.int .i64 l.length) ∧ w = w' := by
  obtain ⟨c, s, r, hp, hc, hne, _⟩ := h
  have c0 := cells_of hp 0 _ rfl
  have hlen := fun ty => run_len_chan (P := Try.prog) 45 ty Try.underlying45 hc
  simp only [List.size_toArray, List.length_map, goInt] at hlen
  clear hp hc
  go_enter Try.func15, Try.ntmps15
  go_wp2_with (go_at_call 16; refine (none_no _ _ _ c0).mono ?_; rintro e w' ⟨rfl, rfl⟩)
  go_ret
  exact ⟨rfl, rfl⟩

theorem new_bad (m : Int) (w : World) (h : m < 1 ∨ 256 < m) :
    Calls Try.prog 7 #[.int .i64 m] w fun e w' => e = .returned (.tuple #[.pointer none, .int .i64 1]) ∧ w = w' := by
  go_enter Try.func7, Try.ntmps7
  rcases h with h | h
  · go_wp2
    exact bodyPost_ret (v := .tuple #[.pointer none, .int .i64 1]) (by simp [results, Try.results7, go_sem]) rfl ⟨rfl, rfl⟩
  · have h1 : ¬ m < 1 := by omega
    go_wp2
    exact bodyPost_ret (v := .tuple #[.pointer none, .int .i64 1]) (by simp [results, Try.results7, go_sem]) rfl ⟨rfl, rfl⟩
theorem new_ok (m : Nat) (w : World) (h1 : 1 ≤ m) (h2 : m ≤ 256) :
    Calls Try.prog 7 #[.int .i64 m] w fun e w' => e = .returned (.tuple #[.pointer (some ⟨w.heap.size + 1, 0, none⟩), .int .i64 0]) ∧
      w' = (w.alloc (.chan m #[] false 0 0 false)).alloc (.cells #[.chan (some w.heap.size), .int .i64 0] 47) := by
  have hb : ∃ i, Try.prog.info? 29 = some i ∧ i.bytes = 24 := by
    have h : (Try.prog.info? 29).map (·.bytes) = some 24 := by kernel_rfl
    obtain ⟨i, hi, hb⟩ := Option.map_eq_some_iff.1 h
    exact ⟨i, hi, hb⟩
  obtain ⟨i, hi, hb⟩ := hb
  have hmc := fun w => run_makeChan (P := Try.prog) (w := w) Try.underlying45 hi .i64 m (by omega) (by rw [hb]; omega)
  have g1 : ¬ (m : Int) < 1 := by omega
  have g2 : ¬ (256 : Int) < m := by omega
  clear hi hb
  go_enter Try.func7, Try.ntmps7
  go_wp2
  exact bodyPost_ret (v := .tuple #[.pointer (some ⟨w.heap.size + 1, 0, none⟩), .int .i64 0]) (by simp [results, Try.results7, go_sem]) rfl ⟨rfl, rfl⟩

set_option maxRecDepth 10000 in
theorem put_room (p most : Nat) (l : List Ou) (lost : Int) (o : Ou) (F : Nat → Prop) (w : World) (h : OutAt p most l lost F w) (hl : l.length < most) :
    Calls Try.prog 8 #[.pointer (some ⟨p, 0, none⟩), o.val] w fun e w' => e = .returned (.int .i64 0) ∧ Step F (OutAt p most (l ++ [o]) lost) w w' := by
  have ht := (Turns.refl nobody w).alloc (.cells #[.int .i64 o.t, .string o.b] 29)
  have h' := (local_out _ _ _ _).keep h ht (fun _ _ h => h)
  obtain ⟨w1, hw1⟩ : ∃ w1, w1 = w.alloc (.cells #[.int .i64 o.t, .string o.b] 29) := ⟨_, rfl⟩
  have hx := heap_alloc_new w (.cells #[.int .i64 o.t, .string o.b] 29)
  rw [← hw1] at ht h' hx
  obtain ⟨c, s, r, hp, hc, hne, hF⟩ := h'
  have c0 : w1.cell? ⟨p, 0, none⟩ = some (.chan (some c)) := cells_of hp 0 _ rfl
  have x0 : w1.cell? ⟨w.heap.size, 0, none⟩ = some (.int .i64 o.t) := cells_of hx 0 _ rfl
  have x1 : w1.cell? ⟨w.heap.size, 1, none⟩ = some (.string o.b) := cells_of hx 1 _ rfl
  have HC := Lib.hid hc
  have HP := Lib.hid hp
  have HF := Lib.hid hF
  have HW := Lib.hid hw1
  have HT := Lib.hid ht
  clear hp hc hF h hx hw1 ht
  unfold Ou.val
  refine calls_of_wpN Try.func8 rfl ?_
  simp only [Try.ntmps8, List.size_toArray, List.length_cons, List.length_nil, Nat.reduceAdd, Nat.reduceSub, Array.replicate_succ, Array.replicate_zero, List.push_toArray, List.append_toArray, List.nil_append, List.cons_append]
  apply wpN_seq_k; intro K hK
  refine wpN_of ?_
  go_wp2
  rw [← HW.out]
  try clear hK K
  apply wpN_seq_k; intro K hK
  refine wpN_of ?_
  go_wp2_with (go_at_call 16; refine (none_no _ _ _ c0).mono ?_; rintro e w' ⟨rfl, rfl⟩)
  try clear hK K
  apply wpN_seq_k; intro K hK
  apply wpN_seq_k; intro K2 hK2
  refine wpN_of ?_
  go_wp2
  try clear hK2 K2
  apply wpN_seq_k; intro K2 hK2
  refine wpN_region_comm rfl (v := .tuple #[goInt 0, .bool false]) (w' := w1.setChan c most ((l.map Ou.val).toArray.push (.agg #[.int .i64 o.t, .string o.b])) false (s + 1) r false) (cases := #[scase c (.agg #[.int .i64 o.t, .string o.b]) (.agg #[.int .i64 0, .string ⟨#[]⟩])]) (blocking := false) (shape := .select) (w₁ := w1) (by simp [go_sem, execOp, scase, Act.eval]) (fun fr cs es h => step_lone_select_send_room h HC.out (by simpa using hl)) ?_
  go_wp2
  refine wpN_of ?_
  go_wp2
  go_ret
  refine ⟨rfl, F, ⟨c, s + 1, r, ?_, ?_, hne, HF.out⟩, Turns.setChan (HT.out.mono (fun _ h => h.elim)) _ _ _ _ _ _ _ (Or.inl (by rw [HF.out]; exact Or.inr rfl)), fun i h => Or.inl h⟩
  · simp only [World.setChan]
    rw [Array.getElem?_setIfInBounds_ne (fun e => hne e.symm)]
    exact HP.out
  · rw [heap_setChan _ _ _ _ _ _ _ _ (lt_of_block HC.out)]
    simp [Ou.val]

theorem out_lost {p most c s r : Nat} {l : List Ou} {lost : Int} {F : Nat → Prop} {w w1 : World} (hp : w1.heap[p]? = some (.cells #[.chan (some c), .int .i64 lost] 47 (0, 0)))
    (hc : w1.heap[c]? = some (.chan most (l.map Ou.val).toArray false s r false)) (hne : p ≠ c) (hF : F = fun i => i = p ∨ i = c) (ht : Turns nobody w w1) (x : Int) : Step F (OutAt p most l x) w (w1.setCell ⟨p, 1, none⟩ (.int .i64 x)) := by
  refine ⟨F, ⟨c, s, r, heap_setCell_at hp 1 _, ?_, hne, hF⟩, (ht.mono (fun _ h => h.elim)).setCell p 1 _ (Or.inl (by rw [hF]; exact Or.inl rfl)), fun i h => Or.inl h⟩
  rw [Below.heap_setCell _ _ _ _ (fun e => hne e.symm)]
  exact hc

set_option maxRecDepth 10000 in
theorem put_full (p most : Nat) (l : List Ou) (lost : Int) (o : Ou) (F : Nat → Prop) (w : World) (h : OutAt p most l lost F w) (hl : most ≤ l.length) (hlo : 0 ≤ lost) (hhi : lost ≤ 1000) :
    Calls Try.prog 8 #[.pointer (some ⟨p, 0, none⟩), o.val] w fun e w' => e = .returned (.int .i64 6) ∧ Step F (OutAt p most l (min (lost + 1) 1000)) w w' := by
  have ht := (Turns.refl nobody w).alloc (.cells #[.int .i64 o.t, .string o.b] 29)
  have h' := (local_out _ _ _ _).keep h ht (fun _ _ h => h)
  obtain ⟨w1, hw1⟩ : ∃ w1, w1 = w.alloc (.cells #[.int .i64 o.t, .string o.b] 29) := ⟨_, rfl⟩
  have hx := heap_alloc_new w (.cells #[.int .i64 o.t, .string o.b] 29)
  rw [← hw1] at ht h' hx
  obtain ⟨c, s, r, hp, hc, hne, hF⟩ := h'
  have c0 : w1.cell? ⟨p, 0, none⟩ = some (.chan (some c)) := cells_of hp 0 _ rfl
  have c1 : w1.cell? ⟨p, 1, none⟩ = some (.int .i64 lost) := cells_of hp 1 _ rfl
  have d1 := free_of hp 1
  have x0 : w1.cell? ⟨w.heap.size, 0, none⟩ = some (.int .i64 o.t) := cells_of hx 0 _ rfl
  have x1 : w1.cell? ⟨w.heap.size, 1, none⟩ = some (.string o.b) := cells_of hx 1 _ rfl
  have HC := Lib.hid hc
  have HP := Lib.hid hp
  have HF := Lib.hid hF
  have HW := Lib.hid hw1
  have HT := Lib.hid ht
  clear hp hc hF h hx hw1 ht
  unfold Ou.val
  refine calls_of_wpN Try.func8 rfl ?_
  simp only [Try.ntmps8, List.size_toArray, List.length_cons, List.length_nil, Nat.reduceAdd, Nat.reduceSub, Array.replicate_succ, Array.replicate_zero, List.push_toArray, List.append_toArray, List.nil_append, List.cons_append]
  apply wpN_seq_k; intro K hK
  refine wpN_of ?_
  go_wp2
  rw [← HW.out]
  try clear hK K
  apply wpN_seq_k; intro K hK
  refine wpN_of ?_
  go_wp2_with (go_at_call 16; refine (none_no _ _ _ c0).mono ?_; rintro e w' ⟨rfl, rfl⟩)
  try clear hK K
  apply wpN_seq_k; intro K hK
  apply wpN_seq_k; intro K2 hK2
  refine wpN_of ?_
  go_wp2
  try clear hK2 K2
  apply wpN_seq_k; intro K2 hK2
  refine wpN_region_comm rfl (v := .tuple #[goInt (-1), .bool false]) (w' := w1) (cases := #[scase c (.agg #[.int .i64 o.t, .string o.b]) (.agg #[.int .i64 0, .string ⟨#[]⟩])]) (blocking := false) (shape := .select) (w₁ := w1) (by simp [go_sem, execOp, scase, Act.eval]) (fun fr cs es h => step_lone_select_send_full h HC.out (by simpa using hl)) ?_
  go_wp2
  refine wpN_of ?_
  go_wp2
  refine wpN_of ?_
  go_wp2
  · go_ret
    have e : (1000 : Int) = min (lost + 1) 1000 := by omega
    rw [← e]
    exact ⟨rfl, out_lost HP.out HC.out hne HF.out HT.out _⟩
  · go_ret
    have e : lost + 1 = min (lost + 1) 1000 := by omega
    rw [← e]
    exact ⟨rfl, out_lost HP.out HC.out hne HF.out HT.out _⟩

end Go.Proofs.Ytjjapnphljhicab.outbox
