/- All records of a text: the program's All. -/
import Derived.Test.YtlhcmgjkhkcgcaaDoorRecEach
import Derived.Test.YtlhcmgjkhkcgcaaDoorMix3
namespace Go.Proofs.YtlhcmgjkhkcgcaaDoor.record
open Go.RowKit Go.Shelf
open Go.Proofs.YtlhcmgjkhkcgcaaDoor.stepkit Go.Proofs.YtlhcmgjkhkcgcaaDoor.obj Go.Proofs.YtlhcmgjkhkcgcaaDoor.row Go.Proofs.YtlhcmgjkhkcgcaaDoor.mix Go.Proofs.YtlhcmgjkhkcgcaaDoor.idkit Go.Proofs.YtlhcmgjkhkcgcaaDoor.bytes Go.Proofs.YtlhcmgjkhkcgcaaDoor.octet Go.Proofs.YtlhcmgjkhkcgcaaDoor.eqkit Go.Proofs.YtlhcmgjkhkcgcaaDoor.round

theorem each_any (s : ByteArray) (w : World) : Calls Tryd.prog 75 #[.string s] w fun e w' => e = .returned (.func (.func 104) #[] #[.pointer (some ⟨w.heap.size, 0, none⟩)]) ∧ w.alloc (.cells #[.string s] 9) = w' := by
  go_enter Tryd.func75, Tryd.ntmps75
  go_wp2
  go_ret
  exact ⟨rfl, rfl⟩

theorem turns_putObj {F : Nat → Prop} {W : World} {l : Nat} (o : Obj) (h : F l) : Turns F W (W.putObj l o) := Turns.of_grown (grownBy_putObj' W l o) (fun i e => by cases e; exact Or.inl h)

theorem Sl.elem {w : World} {e : TypeId} {sz : Nat} {v : Value} {n : Nat} {xs : List Value} (h : Sl w e sz v n xs) : ∀ g, blk v g → ∃ cur, w.heap[g]? = some (.cells cur e (0, 0)) := by
  intro g hg
  obtain ⟨_, ⟨rfl, _⟩ | ⟨g', o, cap, cur, rfl, hh, _⟩⟩ := h
  · cases hg
  · simp only [blk, Value.ownBlock, Option.some.injEq] at hg
    subst hg
    exact ⟨cur, hh⟩
/-- The six boxes and what lies in them. -/
structure AllI (w : World) (m : Nat) (rv : Value) (rn re : Int) (v : Value) (l : List RV) (n : Int) (W : World) : Prop where
  t : Turns (fun i => m ≤ i) w W
  r2 : Boxed W m 41 rv
  r3 : Boxed W (m + 1) 3 (.int .i64 rn)
  r4 : Boxed W (m + 2) 25 (.int .i64 re)
  out : Boxed W (m + 3) 41 v
  at_ : Boxed W (m + 4) 3 (.int .i64 n)
  sl : RSl W v l
  new : ∀ j, blk v j → m + 6 ≤ j
  sz : m + 6 ≤ W.heap.size
theorem AllI.grown {w : World} {m : Nat} {rv : Value} {rn re : Int} {v : Value} {l : List RV} {n : Int} {W W' : World} {row : Option Nat} (h : AllI w m rv rn re v l n W) (hg : W.grownBy W' row) (hr : ∀ r, row = some r → m + 6 ≤ r ∧ ∃ o : Obj, W.heap[r]? = some o ∧ o.isCells = false) : AllI w m rv rn re v l n W' := by
  have hne : ∀ i, i < m + 6 → some i ≠ row := fun i hi e => by have := (hr i e.symm).1; omega
  refine ⟨h.t.trans (Turns.of_grown hg (fun i e => Or.inl (by have := (hr i e).1; show m ≤ i; omega))) (fun _ h => Or.inl h), h.r2.kept hg (hne _ (by omega)), h.r3.kept hg (hne _ (by omega)), h.r4.kept hg (hne _ (by omega)), h.out.kept hg (hne _ (by omega)), h.at_.kept hg (hne _ (by omega)), ?_, h.new, Nat.le_trans h.sz hg.size⟩
  refine Sl.of_heap h.sl fun g hg2 => hg.block g (Sl.lt h.sl g hg2) (fun e => ?_)
  obtain ⟨_, o, ho, hc⟩ := hr g e.symm
  obtain ⟨cur, h1⟩ := Sl.elem h.sl g hg2
  rw [h1] at ho
  cases ho
  cases hc
theorem keeps_of {F : Nat → Prop} {B : Nat} {W W' : World} (t : Turns F W W') (h : ∀ k, F k → k < B ∨ ∃ o : Obj, W.heap[k]? = some o ∧ o.isCells = true) : KeepsFrom B W W' := by
  refine ⟨t.size, fun k o hk ho hc => (t.block k (lt_of_block ho) (fun hf => ?_)).trans ho⟩
  rcases h k hf with h | ⟨o', h1, h2⟩
  · omega
  · rw [ho] at h1; cases h1; rw [hc] at h2; cases h2
theorem Boxed.turns {W W' : World} {F : Nat → Prop} {B : Nat} {t : TypeId} {v : Value} (h : Boxed W B t v) (ht : Turns F W W') (hn : ¬ F B) : Boxed W' B t v := (ht.block B h.lt hn).trans h
def nextOf (s : ByteArray) (pre : List Nat) : Int := match pre.getLast? with | none => 0 | some i => nxN s (pos s i : Nat)
theorem nextOf_snoc (s : ByteArray) (q : List Nat) (x : Nat) : nextOf s (q ++ [x]) = nxN s (pos s x : Nat) := by unfold nextOf; rw [List.getLast?_append]; rfl
theorem nextOf_range (s : ByteArray) (k : Nat) (h : ∀ i ∈ List.range k, nxE s (pos s i : Nat) = 0) : nextOf s (List.range k) = (pos s k : Int) := by
  cases k with
  | zero => rfl
  | succ j =>
    rw [List.range_succ, nextOf_snoc]
    exact (pos_succ (h j (by simp))).1
def InvI (s : ByteArray) (w : World) (m : Nat) (pre : List Nat) (W : World) : Prop := (∀ i ∈ pre, nxE s (pos s i : Nat) = 0) ∧ ∃ v, AllI w m (.slice none 0 0) 0 0 v (pre.map (recAt s)) (nextOf s pre) W
def InvX (s : ByteArray) (w : World) (m : Nat) (c : Code) (pre : List Nat) (W : World) : Prop := c = .ret ∧ ∃ q x v, pre = q ++ [x] ∧ (∀ i ∈ q, nxE s (pos s i : Nat) = 0) ∧ nxE s (pos s x : Nat) ≠ 0 ∧ AllI w m v (nextOf s q) (nxE s (pos s x : Nat)) v (q.map (recAt s)) (nextOf s q) W
def StepAt (s : ByteArray) (m Bx x : Nat) (W : World) : Prop := m + 6 ≤ Bx ∧ W.heap[Bx]? = some (.cells #[.int .i64 (nxK s (pos s x : Nat)), .string (nxB s (pos s x : Nat)), .int .i64 (nxN s (pos s x : Nat)), .int .i64 (nxE s (pos s x : Nat))] 138 (0, 0))

theorem own_invI (s : ByteArray) (w : World) (m : Nat) : OwnFrom (m + 6) (InvI s w m) := fun pre W W' row h hg hr => by
  obtain ⟨h1, v, h2⟩ := h
  exact ⟨h1, v, h2.grown hg hr⟩
theorem own_invX (s : ByteArray) (w : World) (m : Nat) (c : Code) : OwnFrom (m + 6) (InvX s w m c) := fun pre W W' row h hg hr => by
  obtain ⟨h1, q, x, v, h2, h3, h4, h5⟩ := h
  exact ⟨h1, q, x, v, h2, h3, h4, h5.grown hg hr⟩
theorem own_step (s : ByteArray) (m Bx x : Nat) : OwnFrom (m + 6) (fun (_ : Unit) W => StepAt s m Bx x W) := fun _ W W' row h hg hr => by
  obtain ⟨h1, h2⟩ := h
  refine ⟨h1, (hg.block Bx (lt_of_block h2) (fun e => ?_)).trans h2⟩
  obtain ⟨_, o, ho, hc⟩ := hr Bx e.symm
  rw [h2] at ho
  cases ho
  cases hc

theorem results_all {fn : Func} {s u q : Tmp} (h : fn.results = #[.cell s 41, .cell u 3, .cell q 25]) (tmps : Array Value) (w : World) {b1 b2 b3 : Nat} {v : Value} {n e : Int} (hs : tmps.getD s undef = .pointer (some ⟨b1, 0, none⟩)) (hu : tmps.getD u undef = .pointer (some ⟨b2, 0, none⟩)) (hq : tmps.getD q undef = .pointer (some ⟨b3, 0, none⟩))
    (h1 : w.cell? ⟨b1, 0, none⟩ = some v) (h2 : w.cell? ⟨b2, 0, none⟩ = some (.int .i64 n)) (h3 : w.cell? ⟨b3, 0, none⟩ = some (.int .i64 e)) : (results fn tmps).run Tryd.prog w = .ok (.tuple #[v, .int .i64 n, .int .i64 e]) w := by
  have hs' : tmps[s]?.getD undef = .pointer (some ⟨b1, 0, none⟩) := by rw [← hs]; simp
  have hu' : tmps[u]?.getD undef = .pointer (some ⟨b2, 0, none⟩) := by rw [← hu]; simp
  have hq' : tmps[q]?.getD undef = .pointer (some ⟨b3, 0, none⟩) := by rw [← hq]; simp
  simp [results, h, hs', hu', hq', asAddr, go_sem, Tryd.underlying41, Tryd.underlying3, Tryd.underlying25, h1, h2, h3]

set_option maxRecDepth 10000 in
set_option maxHeartbeats 1000000 in
theorem all_any (s : ByteArray) (w : World) (hs : s.size ≤ 16777216) (ht : crc.TabAt w) :
    Calls Tryd.prog 22 #[.string s] w fun e w' => ∃ k E v, Done s k E ∧ e = .returned (.tuple #[v, .int .i64 (pos s k : Int), .int .i64 (E : Int)]) ∧ RSl w' v (recs s k) ∧ (∀ i, blk v i → w.heap.size ≤ i) ∧ Turns nobody w w' := by
  have htb := Tab.lt ht
  obtain ⟨m, hm⟩ : ∃ m, w.heap.size = m := ⟨_, rfl⟩
  have HTB := Lib.hid ht
  refine (callsIn_wide (n := 3)).1 ?_
  refine callsIn_of_wp_marks Tryd.func22 rfl trivial ?_
  simp only [Tryd.ntmps22, List.size_toArray, List.length_cons, List.length_nil, Nat.reduceAdd, Nat.reduceSub, Array.replicate_succ, Array.replicate_zero, List.push_toArray, List.append_toArray, List.nil_append, List.cons_append]
  gi_wp2_with (refine ⟨trivial, ?_⟩; gi_at_call 75; refine (callsIn_wide.2 (each_any _ _)).mono ?_; rintro e w' ⟨rfl, rfl⟩)
  obtain ⟨W0, hW0⟩ : ∃ W0, W0 = ((((((w.alloc (Obj.cells #[Value.slice none 0 0] 41)).alloc (Obj.cells #[Value.int IntKind.i64 0] 3)).alloc (Obj.cells #[Value.int IntKind.i64 0] 25)).alloc (Obj.cells #[Value.slice none 0 0] 41)).alloc (Obj.cells #[Value.int IntKind.i64 0] 3)).alloc (Obj.cells #[Value.string s] 9)) := ⟨_, rfl⟩
  rw [← hW0]
  simp only [Nat.add_assoc, Nat.reduceAdd]
  have hI0 : AllI w m (.slice none 0 0) 0 0 (.slice none 0 0) [] 0 W0 ∧ Boxed W0 (m + 5) 9 (.string s) ∧ W0.heap.size = m + 6 ∧ Turns nobody w W0 := by
    subst hm
    have b1 := Boxed.new w 41 (.slice none 0 0)
    have b2 := Boxed.new (w.alloc (Obj.cells #[Value.slice none 0 0] 41)) 3 (.int .i64 0)
    have b3 := Boxed.new ((w.alloc (Obj.cells #[Value.slice none 0 0] 41)).alloc (Obj.cells #[Value.int IntKind.i64 0] 3)) 25 (.int .i64 0)
    have b4 := Boxed.new (((w.alloc (Obj.cells #[Value.slice none 0 0] 41)).alloc (Obj.cells #[Value.int IntKind.i64 0] 3)).alloc (Obj.cells #[Value.int IntKind.i64 0] 25)) 41 (.slice none 0 0)
    have b5 := Boxed.new ((((w.alloc (Obj.cells #[Value.slice none 0 0] 41)).alloc (Obj.cells #[Value.int IntKind.i64 0] 3)).alloc (Obj.cells #[Value.int IntKind.i64 0] 25)).alloc (Obj.cells #[Value.slice none 0 0] 41)) 3 (.int .i64 0)
    have b6 := Boxed.new (((((w.alloc (Obj.cells #[Value.slice none 0 0] 41)).alloc (Obj.cells #[Value.int IntKind.i64 0] 3)).alloc (Obj.cells #[Value.int IntKind.i64 0] 25)).alloc (Obj.cells #[Value.slice none 0 0] 41)).alloc (Obj.cells #[Value.int IntKind.i64 0] 3)) 9 (.string s)
    simp only [World.size_alloc] at b2 b3 b4 b5 b6
    have tt : Turns nobody w W0 := by rw [hW0]; exact ((((((Turns.refl _ _).alloc _).alloc _).alloc _).alloc _).alloc _).alloc _
    refine ⟨⟨tt.mono (fun _ h => h.elim), ?_, ?_, ?_, ?_, ?_, Sl.nil _ _ _, (fun j h => by cases h), ?_⟩, ?_, ?_, tt⟩
    · rw [hW0]; exact ((((b1.alloc _).alloc _).alloc _).alloc _).alloc _
    · rw [hW0]; exact (((b2.alloc _).alloc _).alloc _).alloc _
    · rw [hW0]; exact ((b3.alloc _).alloc _).alloc _
    · rw [hW0]; exact (b4.alloc _).alloc _
    · rw [hW0]; exact b5.alloc _
    · rw [hW0]; simp only [World.size_alloc]; omega
    · rw [hW0]; exact b6
    · rw [hW0]; simp only [World.size_alloc]
  obtain ⟨hA0, hB0, hz0, ht0⟩ := hI0
  have HZ0 := Lib.hid hz0
  have HT0 := Lib.hid ht0
  have HM := Lib.hid hm
  have hmw : m ≤ W0.heap.size := by omega
  have hstops := each_stops 2 (by omega) s hs m (m + 5) W0 hB0.cell (Tab.turns ht ht0 (fun h => h)) (by omega) hmw
  clear hB0 ht ht0 hW0 hm htb
  rename_i Kr hKr
  refine wpIn_rangeFunc_ownH rfl (by decide) (gf := 104) (lb := #[.pointer (some ⟨m + 5, 0, none⟩)]) rfl trivial (enters_of Tryd.func104 (by kernel_rfl) rfl)
    hstops (fun h k => h.trans k (fun _ h => Or.inl h)) (fun W l o o' hl _ _ _ => turns_putObj o' ⟨by omega, by omega⟩) (Below.refl _ _) (fun _ => rfl)
    (InvI s w m) (InvX s w m) (by rw [hz0]; exact own_invI s w m) (fun c => by rw [hz0]; exact own_invX s w m c) ⟨(fun _ h => by cases h), _, hA0⟩
    (fun x a' W => ∃ Bx, StepAt s m Bx x W ∧ a' = { tmps := #[Value.string s, undef, .pointer (some ⟨m, 0, none⟩), .pointer (some ⟨m + 1, 0, none⟩), .pointer (some ⟨m + 2, 0, none⟩), .pointer (some ⟨m + 3, 0, none⟩), .pointer (some ⟨m + 4, 0, none⟩), .pointer (some ⟨Bx, 0, none⟩), .string s, .func (.func 104) #[] #[.pointer (some ⟨m + 5, 0, none⟩)], .agg #[.int .i64 (nxK s (pos s x : Nat)), .string (nxB s (pos s x : Nat)), .int .i64 (nxN s (pos s x : Nat)), .int .i64 (nxE s (pos s x : Nat))], undef, undef, undef, undef, undef, undef, undef, undef, undef, undef, undef, undef, undef, undef, undef, undef], defers := [] })
    (fun x a' => by
      rw [hz0]
      intro u W W' row h hg hr
      obtain ⟨Bx, h1, h2⟩ := h
      exact ⟨Bx, own_step s m Bx x () W W' row h1 hg hr, h2⟩) ?assign ?body ?done ?stop
  case assign =>
    intro l pre x W K hi hK
    have hsz : m + 6 ≤ W.heap.size := by obtain ⟨_, v, h⟩ := hi; exact h.sz
    have HI := Lib.hid hi
    have HSZ := Lib.hid hsz
    have HEAP := Lib.hid (heap_alloc_new W (.cells #[.int .i64 (nxK s (pos s x : Nat)), .string (nxB s (pos s x : Nat)), .int .i64 (nxN s (pos s x : Nat)), .int .i64 (nxE s (pos s x : Nat))] 138))
    have HST : Hid (∀ (W1 : World) (Bx : Nat), m + 6 ≤ Bx → W1.heap[Bx]? = some (.cells #[.int .i64 (nxK s (pos s x : Nat)), .string (nxB s (pos s x : Nat)), .int .i64 (nxN s (pos s x : Nat)), .int .i64 (nxE s (pos s x : Nat))] 138 (0, 0)) → StepAt s m Bx x W1) := Lib.hid (fun _ _ h1 h2 => ⟨h1, h2⟩)
    unfold encStep
    clear hi hsz
    generalize (nxK s (pos s x : Nat) : Int) = k at *
    generalize nxB s (pos s x : Nat) = b at *
    generalize nxN s (pos s x : Nat) = nn at *
    generalize (nxE s (pos s x : Nat) : Int) = e at *
    refine round_region (by kernel_rfl) (fun _ _ h => h) ?_
    go_wp2
    have ta : Turns (But m (m + 5)) W (W.alloc (.cells #[.int .i64 k, .string b, .int .i64 nn, .int .i64 e] 138)) := (Turns.refl _ _).alloc _
    refine hK _ _ ((KeepsOthers.alloc _ _).from _) ta (own_invI s w m _ _ _ none HI.out (grown_none ((Turns.refl _ _).alloc _)) (fun r e => by cases e)) ⟨W.heap.size, HST.out _ _ HSZ.out HEAP.out, rfl⟩
  case body =>
    rintro l pre x a' W hl ⟨r, hr⟩ ⟨hp, v, hA⟩ ⟨Bx, ⟨hBx, hcx⟩, rfl⟩ hlen
    refine wpIn_block ?_
    refine wpIn_seq_k (fun K hK => ?_)
    refine wpIn_seq_k (fun K2 hK2 => ?_)
    obtain ⟨E, hE⟩ : ∃ E, nxE s (pos s x : Nat) = E := ⟨_, rfl⟩
    have hr1 : recAt s x = ((nxK s (pos s x : Nat) : Int), nxB s (pos s x : Nat)) := rfl
    obtain ⟨nn, hnn⟩ : ∃ nn, nxN s (pos s x : Nat) = nn := ⟨_, rfl⟩
    rw [hE, hnn] at hcx ⊢
    generalize (nxK s (pos s x : Nat) : Int) = k at *
    generalize nxB s (pos s x : Nat) = b at *
    have HE := Lib.hid hE
    have HNN := Lib.hid hnn
    have HR1 := Lib.hid hr1
    clear hE hnn hr1
    have c0 := cells_of hcx 0 _ rfl
    have c1 := cells_of hcx 1 _ rfl
    have c2 := cells_of hcx 2 _ rfl
    have c3 := cells_of hcx 3 _ rfl
    obtain ⟨ao, cap, rfl, _⟩ := hA.sl.shape
    obtain ⟨ql, hql⟩ : ∃ ql, pre.map (recAt s) = ql := ⟨_, rfl⟩
    rcases Nat.eq_zero_or_pos E with hz | hz
    · subst hz
      refine round_region (by kernel_rfl) (fun _ _ h => h) ?_
      go_wp2
      refine wpIn_cond_false rfl ?_
      refine wpIn_skip ?_
      refine hK _ _ ?_
      have hqs : ql.length < s.size := by rw [← hql, List.length_map]; exact hlen
      rw [hql] at hA
      have HQL := Lib.hid hql
      clear hql
      refine round_mix3 [(0, true, []), (1, true, []), (2, true, []), (5, true, []), (6, true, []), (3, false, [0, 5, 6]), (4, false, [5, 6]), (7, false, [5, 6]), (8, false, [])] [0, 1, 2, 5, 6] (by2 1 (fun W => W.heap[m + 3]? = some (.cells #[.slice ao ql.length cap] 41 (0, 0))) (fun W => W.heap[Bx]? = some (.cells #[.int .i64 k, .string b, .int .i64 nn, .int .i64 (0 : Nat)] 138 (0, 0)))) (by kernel_rfl) (fun _ _ h => h) (by kernel_rfl) (by kernel_rfl) (fun x _ => by2_both hA.out hcx x) ?_
      simp only [picked3, List.filterMap_cons, List.filterMap_nil, List.getElem?_toArray, List.getElem?_cons_zero, List.getElem?_cons_succ, Option.map_some]
      (refine mix3_free (v := ?_) rfl ?_ ?_; rotate_left; (focus (intro w' hI; have d4 := cells_of ((by2_lo (by decide)).1 hI) 0 _ rfl; clear hI; go_simp; try with_reducible rfl)); simp only [Act.put, List.setIfInBounds_toArray, List.set_cons_zero, List.set_cons_succ])
      (refine mix3_free (v := ?_) rfl ?_ ?_; rotate_left; (focus (intro w' hI; clear hI; go_simp; try with_reducible rfl)); simp only [Act.put, List.setIfInBounds_toArray, List.set_cons_zero, List.set_cons_succ])
      (refine mix3_free (v := ?_) rfl ?_ ?_; rotate_left; (focus (intro w' hI; have hI := (by2_hi (by decide)).1 hI; have d0 := cells_of hI 0 _ rfl; have d1 := cells_of hI 1 _ rfl; clear hI; go_simp; try with_reducible rfl)); simp only [Act.put, List.setIfInBounds_toArray, List.set_cons_zero, List.set_cons_succ])
      (refine mix3_free (v := ?_) rfl ?_ ?_; rotate_left; (focus (intro w' hI; clear hI; go_simp; try with_reducible rfl)); simp only [Act.put, List.setIfInBounds_toArray, List.set_cons_zero, List.set_cons_succ])
      (refine mix3_free (v := ?_) rfl ?_ ?_; rotate_left; (focus (intro w' hI; have hI := (by2_hi (by decide)).1 hI; have d3 := cells_of hI 2 _ rfl; clear hI; go_simp; try with_reducible rfl)); simp only [Act.put, List.setIfInBounds_toArray, List.set_cons_zero, List.set_cons_succ])
      have hb2 : ¬ blk (.slice ao ql.length cap) Bx := fun h => by
        obtain ⟨cur, h1⟩ := Sl.elem hA.sl Bx h
        rw [hcx] at h1
        simp at h1
      obtain ⟨W1, hW1⟩ : ∃ W1, W1 = (W.alloc (.cells #[.int .i64 k, .string b] 23)).drew := ⟨_, rfl⟩
      have t1 : Turns nobody W W1 := by rw [hW1]; exact ((Turns.refl _ _).alloc _).drew
      have e1 : W1.heap[W.heap.size]? = some (.cells #[.int .i64 k, .string b] 23 (0, 0)) := by rw [hW1]; exact heap_alloc_new W _
      have HSRC := Lib.hid (src_rec (r := (k, b)) e1)
      have HSL1 : Hid (RSl W1 (.slice ao ql.length cap) ql) := Lib.hid (Sl.keep hA.sl t1 (fun _ _ h => h))
      have HB1 : Hid (W1.heap[Bx]? = some (.cells #[.int .i64 k, .string b, .int .i64 nn, .int .i64 (0 : Nat)] 138 (0, 0))) := Lib.hid (heap_newer hcx t1 (fun h => h))
      have HA := Lib.hid hA
      have HT1 := Lib.hid t1
      have HBI := Lib.hid hb2
      have hout1 := Boxed.turns hA.out t1 (fun h => h)
      have HO1 := Lib.hid hout1
      have hat1 := Boxed.turns hA.at_ t1 (fun h => h)
      have HAT1 := Lib.hid hat1
      have HQS := Lib.hid hqs
      have HCX := Lib.hid hcx
      obtain ⟨i, hi, hzz0, hzz1, hzz2⟩ := infoRec2
      clear t1 e1 hA hb2 hout1 hat1 hqs hcx c0 c1 c2 c3
      refine mix3_big rfl (fun K4 hK4 => ?_)
      go_wp2
      rw [← hW1]
      refine hK4 _ _ (fun x hx => by2_both HO1.out HB1.out x) ?_
      clear hK4 K4 hW1
      refine mix3_big rfl (fun K5 hK5 => ?_)
      go_wp2_with (at_builtin; refine wpList_append_sl rfl _ _ 41 rfl Tryd.underlying41 hi hzz0 hzz1 hzz2 rfl (by decide) rfl rfl HSL1.out HSRC.out (by have := HQS.out; unfold maxLen; omega) (by have := HQS.out; omega) ?_; intro v5 w5 h5 t5 n5 _; have H5 := Lib.hid h5; have T5 : Hid (Turns (blk (.slice ao ql.length cap)) W1 w5) := Lib.hid t5; have N5 : Hid (Newer (.slice ao ql.length cap) v5 W1) := Lib.hid n5; clear t5 n5)
      have HB5 : Hid (w5.heap[Bx]? = some (.cells #[.int .i64 k, .string b, .int .i64 nn, .int .i64 (0 : Nat)] 138 (0, 0))) := Lib.hid ((T5.out.block Bx (lt_of_block HB1.out) HBI.out).trans HB1.out)
      have hno : ∀ i, i < m + 6 → ¬ blk (.slice ao ql.length cap) i := fun i hi h => by have := HA.out.new i h; omega
      have hO5 : Boxed w5 (m + 3) 41 (.slice ao ql.length cap) := Boxed.turns HO1.out T5.out (hno _ (by omega))
      have hAt5 : Boxed w5 (m + 4) 3 (.int .i64 (nextOf s pre)) := Boxed.turns HAT1.out T5.out (hno _ (by omega))
      obtain ⟨ao5, cap5, rfl, _⟩ := h5.shape
      have HO5 := Lib.hid hO5
      have HAT5 := Lib.hid hAt5
      have HNO := Lib.hid hno
      refine hK5 _ _ (by2_only HB5.out (by decide)) ?_
      simp only [Act.put, List.setIfInBounds_toArray, List.set_cons_zero, List.set_cons_succ]
      clear hK5 K5 h5 hno
      refine mix3_big rfl (fun K6 hK6 => ?_)
      have o0 := hO5.cell
      have o1 := hO5.frozen
      go_wp2
      clear o0 o1
      obtain ⟨w6, hw6⟩ : ∃ w6, w6 = w5.setCell ⟨m + 3, 0, none⟩ (.slice ao5 (ql.length + 1) cap5) := ⟨_, rfl⟩
      rw [← hw6]
      have t6 : Turns (fun i => i = m + 3) w5 w6 := by rw [hw6]; exact Turns.set _ _ _ _
      refine hK6 _ _ (by2_only ((t6.block Bx (lt_of_block HB5.out) (by omega)).trans HB5.out) (by decide)) ?_
      clear hK6 K6
      have hAt6 : Boxed w6 (m + 4) 3 (.int .i64 (nextOf s pre)) := Boxed.turns hAt5 t6 (by omega)
      have hO6 : Boxed w6 (m + 3) 41 (.slice ao5 (ql.length + 1) cap5) := by rw [hw6]; exact Boxed.set _ hO5
      have HO6 := Lib.hid hO6
      have HAT6 := Lib.hid hAt6
      have HT6 := Lib.hid t6
      have o0 := hAt6.cell
      have o1 := hAt6.frozen
      clear hw6 hO5 hAt5 hO6 hAt6 t6
      refine mix3_big rfl (fun K7 hK7 => ?_)
      go_wp2
      clear o0 o1
      refine hK7 _ _ (fun x hx => by cases hx) ?_
      clear hK7 K7
      refine mix3_nil ?_
      obtain ⟨w7, hw7⟩ : ∃ w7, w7 = w6.setCell ⟨m + 4, 0, none⟩ (.int .i64 nn) := ⟨_, rfl⟩
      rw [← hw7]
      have t7 : Turns (fun i => i = m + 4) w6 w7 := by rw [hw7]; exact Turns.set _ _ _ _
      have hAt7 : Boxed w7 (m + 4) 3 (.int .i64 nn) := by rw [hw7]; exact Boxed.set _ HAT6.out
      have hO7 : Boxed w7 (m + 3) 41 (.slice ao5 (ql.length + 1) cap5) := Boxed.turns HO6.out t7 (by omega)
      clear hw7
      have tt : Turns (fun i => i = m + 3 ∨ i = m + 4 ∨ blk (.slice ao ql.length cap) i) W w7 :=
        (((HT1.out.mono (fun _ h => h.elim)).trans T5.out (fun i h => Or.inl (Or.inr (Or.inr h)))).trans HT6.out (fun i h => Or.inl (Or.inl h))).trans t7 (fun i h => Or.inl (Or.inr (Or.inl h)))
      have hnm : ∀ i, i = m + 3 ∨ i = m + 4 ∨ blk (.slice ao ql.length cap) i → m + 3 ≤ i ∧ i ≠ m + 5 := fun i h => by
        rcases h with h | h | h
        · omega
        · omega
        · have := HA.out.new i h; omega
      have hn5 : ∀ i, blk (.slice ao5 (ql.length + 1) cap5) i → m + 6 ≤ i := fun i h => by
        rcases N5.out i h with h | h
        · exact HA.out.new i h
        · have := HA.out.sz; have := HT1.out.size; omega
      show KeepsFrom _ W w7 ∧ Turns (But m (m + 5)) W w7 ∧ InvI s w m (pre ++ [x]) w7
      refine ⟨keeps_of tt (fun i h => ?_), tt.mono (fun i h => Or.inl ⟨by have := (hnm i h).1; omega, (hnm i h).2⟩), ?_, .slice ao5 (ql.length + 1) cap5, ?_⟩
      · rcases h with h | h | h
        · have := HZ0.out; left; omega
        · have := HZ0.out; left; omega
        · obtain ⟨cur, h1⟩ := Sl.elem HA.out.sl i h
          exact Or.inr ⟨_, h1, rfl⟩
      · intro i hi
        rcases List.mem_append.1 hi with hi | hi
        · exact hp i hi
        · rw [List.mem_singleton.1 hi]; exact HE.out
      · refine ⟨HA.out.t.trans tt (fun i h => Or.inl (by have := (hnm i h).1; show m ≤ i; omega)), Boxed.turns HA.out.r2 tt (fun h => by have := (hnm _ h).1; omega), Boxed.turns HA.out.r3 tt (fun h => by have := (hnm _ h).1; omega), Boxed.turns HA.out.r4 tt (fun h => by have := (hnm _ h).1; omega), hO7, ?_, ?_, hn5, Nat.le_trans HA.out.sz tt.size⟩
        · rw [nextOf_snoc, HNN.out]; exact hAt7
        · have h6 : RSl w5 (.slice ao5 (ql.length + 1) cap5) (ql ++ [(k, b)]) := by unfold RSl; rw [List.length_append, List.length_singleton, rcells_append]; exact H5.out
          rw [List.map_append, HQL.out, List.map_singleton, HR1.out]
          exact Sl.keep (Sl.keep h6 HT6.out (fun i h e => by have := hn5 i h; omega)) t7 (fun i h e => by have := hn5 i h; omega)
    · have hez : ((E : Int) != 0) = true := by simp; omega
      refine round_region (by kernel_rfl) (fun _ _ h => h) ?_
      go_wp2
      refine wpIn_cond_true rfl ?_
      refine wpIn_seq_k (fun K3 hK3 => ?_)
      rw [hql] at hA
      have HQL := Lib.hid hql
      clear hql
      refine round_mix3 [(0, true, []), (1, true, []), (2, true, []), (3, true, []), (4, false, [1, 2, 3]), (5, false, [2, 3]), (6, false, [])] [0, 1, 2, 3] (by2 2 (fun W => W.heap[m + 3]? = some (.cells #[.slice ao ql.length cap] 41 (0, 0)) ∧ W.heap[m + 4]? = some (.cells #[.int .i64 (nextOf s pre)] 3 (0, 0))) (fun W => W.heap[Bx]? = some (.cells #[.int .i64 k, .string b, .int .i64 nn, .int .i64 E] 138 (0, 0)))) (by kernel_rfl) (fun _ _ h => h) (by kernel_rfl) (by kernel_rfl) (fun x _ => by2_both ⟨hA.out, hA.at_⟩ hcx x) ?_
      simp only [picked3, List.filterMap_cons, List.filterMap_nil, List.getElem?_toArray, List.getElem?_cons_zero, List.getElem?_cons_succ, Option.map_some]
      (refine mix3_free (v := ?_) rfl ?_ ?_; rotate_left; (focus (intro w' hI; have d4 := cells_of ((by2_lo (by decide)).1 hI).1 0 _ rfl; clear hI; go_simp; try with_reducible rfl)); simp only [Act.put, List.setIfInBounds_toArray, List.set_cons_zero, List.set_cons_succ])
      (refine mix3_free (v := ?_) rfl ?_ ?_; rotate_left; (focus (intro w' hI; have d4 := cells_of ((by2_lo (by decide)).1 hI).2 0 _ rfl; clear hI; go_simp; try with_reducible rfl)); simp only [Act.put, List.setIfInBounds_toArray, List.set_cons_zero, List.set_cons_succ])
      (refine mix3_free (v := ?_) rfl ?_ ?_; rotate_left; (focus (intro w' hI; clear hI; go_simp; try with_reducible rfl)); simp only [Act.put, List.setIfInBounds_toArray, List.set_cons_zero, List.set_cons_succ])
      (refine mix3_free (v := ?_) rfl ?_ ?_; rotate_left; (focus (intro w' hI; have hI := (by2_hi (by decide)).1 hI; have d3 := cells_of hI 3 _ rfl; clear hI; go_simp; try with_reducible rfl)); simp only [Act.put, List.setIfInBounds_toArray, List.set_cons_zero, List.set_cons_succ])
      obtain ⟨W1, hW1⟩ : ∃ W1, W1 = W.drew := ⟨_, rfl⟩
      have t1 : Turns nobody W W1 := by rw [hW1]; exact (Turns.refl _ _).drew
      rw [← hW1]
      have hb1 := heap_newer hcx t1 (fun h => h)
      have HA := Lib.hid hA
      have HT1 := Lib.hid t1
      have HZ := Lib.hid hz
      have hm1 := Boxed.turns hA.r2 t1 (fun h => h)
      have hm2 := Boxed.turns hA.r3 t1 (fun h => h)
      have hm3 := Boxed.turns hA.r4 t1 (fun h => h)
      have ho1 := Boxed.turns hA.out t1 (fun h => h)
      have ha1 := Boxed.turns hA.at_ t1 (fun h => h)
      have HB1 := Lib.hid hb1
      have HM1 := Lib.hid hm1
      have HM2 := Lib.hid hm2
      have HM3 := Lib.hid hm3
      have HO1 := Lib.hid ho1
      have HAT1 := Lib.hid ha1
      clear hA hb1 hcx c0 c1 c2 c3 t1 hz hm1 hm2 hm3 ho1 ha1 hW1
      refine mix3_big rfl (fun K4 hK4 => ?_)
      have o0 := HM1.out.cell
      have o1 := HM1.out.frozen
      go_wp2
      clear o0 o1
      obtain ⟨w6, hw6⟩ : ∃ w6, w6 = W1.setCell ⟨m, 0, none⟩ (.slice ao ql.length cap) := ⟨_, rfl⟩
      rw [← hw6]
      have t6 : Turns (fun i => i = m) W1 w6 := by rw [hw6]; exact Turns.set _ _ _ _
      have hb6 := (t6.block Bx (lt_of_block HB1.out) (by omega)).trans HB1.out
      refine hK4 _ _ (fun x _ => by2_both ⟨Boxed.turns HO1.out t6 (by omega), Boxed.turns HAT1.out t6 (by omega)⟩ hb6 x) ?_
      clear hK4 K4
      have hr6 : Boxed w6 m 41 (.slice ao ql.length cap) := by rw [hw6]; exact Boxed.set _ HM1.out
      have hm26 := Boxed.turns HM2.out t6 (by omega)
      have hm36 := Boxed.turns HM3.out t6 (by omega)
      have HT6 := Lib.hid t6
      have HR6 := Lib.hid hr6
      have HM26 := Lib.hid hm26
      have HM36 := Lib.hid hm36
      have HB6 := Lib.hid hb6
      have o0 := hm26.cell
      have o1 := hm26.frozen
      clear hw6 t6 hr6 hm26 hm36 hb6
      refine mix3_big rfl (fun K5 hK5 => ?_)
      go_wp2
      clear o0 o1
      obtain ⟨w7, hw7⟩ : ∃ w7, w7 = w6.setCell ⟨m + 1, 0, none⟩ (.int .i64 (nextOf s pre)) := ⟨_, rfl⟩
      rw [← hw7]
      have t7 : Turns (fun i => i = m + 1) w6 w7 := by rw [hw7]; exact Turns.set _ _ _ _
      refine hK5 _ _ (by2_only ((t7.block Bx (lt_of_block HB6.out) (by omega)).trans HB6.out) (by decide)) ?_
      clear hK5 K5
      have hm37 := Boxed.turns HM36.out t7 (by omega)
      have HM37 := Lib.hid hm37
      have HR7 := Lib.hid (Boxed.turns HR6.out t7 (by omega))
      have HM27 : Hid (Boxed w7 (m + 1) 3 (.int .i64 (nextOf s pre))) := Lib.hid (by rw [hw7]; exact Boxed.set _ HM26.out)
      have HT7 := Lib.hid t7
      have o0 := hm37.cell
      have o1 := hm37.frozen
      clear hw7 t7 hm37
      refine mix3_big rfl (fun K6 hK6 => ?_)
      go_wp2
      clear o0 o1
      refine hK6 _ _ (fun x hx => by cases hx) ?_
      clear hK6 K6
      refine mix3_nil ?_
      obtain ⟨w8, hw8⟩ : ∃ w8, w8 = w7.setCell ⟨m + 2, 0, none⟩ (.int .i64 E) := ⟨_, rfl⟩
      rw [← hw8]
      have t8 : Turns (fun i => i = m + 2) w7 w8 := by rw [hw8]; exact Turns.set _ _ _ _
      have hm38 : Boxed w8 (m + 2) 25 (.int .i64 E) := by rw [hw8]; exact Boxed.set _ HM37.out
      clear hw8
      refine hK3 _ _ (wpIn_ret ?_)
      have tt : Turns (fun i => i = m ∨ i = m + 1 ∨ i = m + 2) W w8 :=
        (((HT1.out.mono (fun _ h => h.elim)).trans HT6.out (fun i h => Or.inl (Or.inl h))).trans HT7.out (fun i h => Or.inl (Or.inr (Or.inl h)))).trans t8 (fun i h => Or.inl (Or.inr (Or.inr h)))
      show KeepsFrom _ W w8 ∧ InvX s w m .ret (pre ++ [x]) w8
      refine ⟨keeps_of tt (fun i h => Or.inl (by have := HZ0.out; omega)), rfl, pre, x, .slice ao ql.length cap, rfl, hp, by rw [HE.out]; have := HZ.out; omega, ?_⟩
      rw [HE.out, HQL.out]
      exact ⟨HA.out.t.trans tt (fun i h => Or.inl (by show m ≤ i; omega)), Boxed.turns (Boxed.turns HR7.out t8 (by omega)) (Turns.refl nobody _) (fun h => h), Boxed.turns HM27.out t8 (by omega), hm38, Boxed.turns HA.out.out tt (by omega), Boxed.turns HA.out.at_ tt (by omega),
        Sl.keep HA.out.sl tt (fun i h e => by have := HA.out.new i h; omega), HA.out.new, Nat.le_trans HA.out.sz tt.size⟩
  case done =>
    rintro D xs W hD ⟨k, rfl, hk⟩ ⟨hp, v, hA⟩ hdd
    have hdone : Done s k 0 := by
      rcases hk with ⟨h1, h2⟩ | ⟨j, rfl, _, _, h3⟩
      · exact ⟨h1, Or.inl ⟨h2, rfl⟩⟩
      · exact absurd (hp j (by simp)) h3
    have hnx := nextOf_range s k hp
    rw [hnx] at hA
    obtain ⟨ql, hql⟩ : ∃ ql, (List.range k).map (recAt s) = ql := ⟨_, rfl⟩
    have hql' : recs s k = ql := hql
    rw [hql] at hA
    obtain ⟨ao, cap, rfl, _⟩ := hA.sl.shape
    have HD := Lib.hid hdone
    have HQL := Lib.hid hql'
    clear hdone hnx hql hql' hp hk
    refine hKr _ _ (wpIn_wide.2 ?_)
    refine wp_seq_k (fun K2 hK2 => ?_)
    obtain ⟨P, hP⟩ : ∃ P : Int, (pos s k : Int) = P := ⟨_, rfl⟩
    rw [hP] at hA
    have HP := Lib.hid hP
    clear hP
    refine wp_region_mix3 [(0, true, []), (1, true, []), (2, false, [1]), (3, false, []), (4, false, [])] [0, 1] (by2 1 (fun W => W.heap[m + 3]? = some (.cells #[.slice ao ql.length cap] 41 (0, 0))) (fun W => W.heap[m + 4]? = some (.cells #[.int .i64 P] 3 (0, 0)))) (by kernel_rfl) (by kernel_rfl) (fun x _ => by2_both hA.out hA.at_ x) ?_
    simp only [picked3, List.filterMap_cons, List.filterMap_nil, List.getElem?_toArray, List.getElem?_cons_zero, List.getElem?_cons_succ, Option.map_some]
    (refine mix3_free (v := ?_) rfl ?_ ?_; rotate_left; (focus (intro w' hI; have d4 := cells_of ((by2_lo (by decide)).1 hI) 0 _ rfl; clear hI; go_simp; try with_reducible rfl)); simp only [Act.put, List.setIfInBounds_toArray, List.set_cons_zero, List.set_cons_succ])
    (refine mix3_free (v := ?_) rfl ?_ ?_; rotate_left; (focus (intro w' hI; have d4 := cells_of ((by2_hi (by decide)).1 hI) 0 _ rfl; clear hI; go_simp; try with_reducible rfl)); simp only [Act.put, List.setIfInBounds_toArray, List.set_cons_zero, List.set_cons_succ])
    obtain ⟨W1, hW1⟩ : ∃ W1, W1 = W.drew := ⟨_, rfl⟩
    have t1 : Turns nobody W W1 := by rw [hW1]; exact (Turns.refl _ _).drew
    rw [← hW1]
    have HA := Lib.hid hA
    have HT1 := Lib.hid t1
    have HDD : Hid (W1.heap[D]? = some (.deferred (some []))) := Lib.hid (by rw [hW1]; exact hdd)
    have HM1 := Lib.hid (Boxed.turns hA.r2 t1 (fun h => h))
    have HM2 := Lib.hid (Boxed.turns hA.r3 t1 (fun h => h))
    have HM3 := Lib.hid (Boxed.turns hA.r4 t1 (fun h => h))
    have HAT1 := Lib.hid (Boxed.turns hA.at_ t1 (fun h => h))
    clear hA t1 hW1 hdd
    refine mix3_big rfl (fun K4 hK4 => ?_)
    have o0 := HM1.out.cell
    have o1 := HM1.out.frozen
    go_wp2
    clear o0 o1
    obtain ⟨w6, hw6⟩ : ∃ w6, w6 = W1.setCell ⟨m, 0, none⟩ (.slice ao ql.length cap) := ⟨_, rfl⟩
    rw [← hw6]
    have t6 : Turns (fun i => i = m) W1 w6 := by rw [hw6]; exact Turns.set _ _ _ _
    refine hK4 _ _ (by2_only (Boxed.turns HAT1.out t6 (by omega)) (by decide)) ?_
    clear hK4 K4
    have HR6 : Hid (Boxed w6 m 41 (.slice ao ql.length cap)) := Lib.hid (by rw [hw6]; exact Boxed.set _ HM1.out)
    have hm26 := Boxed.turns HM2.out t6 (by omega)
    have HM26 := Lib.hid hm26
    have HM36 := Lib.hid (Boxed.turns HM3.out t6 (by omega))
    have HT6 := Lib.hid t6
    have o0 := hm26.cell
    have o1 := hm26.frozen
    clear hw6 t6 hm26
    refine mix3_big rfl (fun K5 hK5 => ?_)
    go_wp2
    clear o0 o1
    obtain ⟨w7, hw7⟩ : ∃ w7, w7 = w6.setCell ⟨m + 1, 0, none⟩ (.int .i64 P) := ⟨_, rfl⟩
    rw [← hw7]
    have t7 : Turns (fun i => i = m + 1) w6 w7 := by rw [hw7]; exact Turns.set _ _ _ _
    refine hK5 _ _ (fun x hx => by cases hx) ?_
    clear hK5 K5
    have hm37 := Boxed.turns HM36.out t7 (by omega)
    have HM37 := Lib.hid hm37
    have HR7 := Lib.hid (Boxed.turns HR6.out t7 (by omega))
    have HM27 : Hid (Boxed w7 (m + 1) 3 (.int .i64 P)) := Lib.hid (by rw [hw7]; exact Boxed.set _ HM26.out)
    have HT7 := Lib.hid t7
    have o0 := hm37.cell
    have o1 := hm37.frozen
    clear hw7 t7 hm37
    refine mix3_big rfl (fun K6 hK6 => ?_)
    go_wp2
    clear o0 o1
    refine hK6 _ _ (fun x hx => by cases hx) ?_
    clear hK6 K6
    refine mix3_nil ?_
    obtain ⟨w8, hw8⟩ : ∃ w8, w8 = w7.setCell ⟨m + 2, 0, none⟩ (.int .i64 0) := ⟨_, rfl⟩
    rw [← hw8]
    have t8 : Turns (fun i => i = m + 2) w7 w8 := by rw [hw8]; exact Turns.set _ _ _ _
    have hm38 : Boxed w8 (m + 2) 25 (.int .i64 0) := by rw [hw8]; exact Boxed.set _ HM37.out
    clear hw8
    refine hK2 _ _ (wp_ret ?_)
    have hz := HZ0.out
    have hdm : m + 6 ≤ D := by omega
    have tt : Turns (fun i => i = m ∨ i = m + 1 ∨ i = m + 2) W1 w8 :=
      ((HT6.out.mono (fun i h => Or.inl (Or.inl h))).trans HT7.out (fun i h => Or.inl (Or.inr (Or.inl h)))).trans t8 (fun i h => Or.inl (Or.inr (Or.inr h)))
    have hd8 : w8.heap[D]? = some (.deferred (some [])) := (tt.block D (lt_of_block HDD.out) (by omega)).trans HDD.out
    have tp : Turns (fun i => i = D) w8 (w8.putObj D (.deferred none)) := turns_putObj _ rfl
    refine ⟨by simp, .inl ⟨_, _, rfl, run_takeDeferred hd8, ?_⟩⟩
    have r2 := (Boxed.turns (Boxed.turns HR7.out t8 (by omega)) tp (by omega)).cell
    have r3 := (Boxed.turns (Boxed.turns HM27.out t8 (by omega)) tp (by omega)).cell
    have r4 := (Boxed.turns hm38 tp (by omega)).cell
    have hsl8 : RSl w8 (.slice ao ql.length cap) ql := Sl.keep (Sl.keep HA.out.sl HT1.out (fun _ _ h => h)) tt (fun i h e => by have := HA.out.new i h; omega)
    have hbd : ¬ blk (.slice ao ql.length cap) D := fun h => by
      obtain ⟨cur, h1⟩ := Sl.elem hsl8 D h
      rw [hd8] at h1
      simp at h1
    have T0 : Turns nobody w W := HA.out.t.mono (fun i h => Or.inr (by have := HM.out; have h' : m ≤ i := h; omega))
    refine ⟨_, results_all rfl _ _ rfl rfl rfl r2 r3 r4, k, 0, _, HD.out, by rw [HP.out]; rfl, ?_, fun i h => ?_, ?_⟩
    · rw [HQL.out]
      exact Sl.keep hsl8 tp (fun i h e => hbd (e ▸ h))
    · have := HA.out.new i h; have := HM.out; omega
    · exact ((T0.trans HT1.out (fun _ h => h.elim)).trans2 tt (fun i h => by have := HM.out; omega)).trans2 tp (fun i h => by have := HM.out; omega)
  case stop =>
    rintro D c pre W hD ⟨j, rfl, hok, hlt⟩ ⟨rfl, q, x, v, hq, hp, hne, hA⟩ hdd
    have hz := HZ0.out
    have hdm : m + 6 ≤ D := by omega
    rw [List.range_succ] at hq
    obtain ⟨rfl, hx⟩ := List.append_inj' hq rfl
    obtain rfl : j = x := by simpa using hx
    have hnx := nextOf_range s j hp
    rw [hnx] at hA
    have hD2 : Done s j (nxE s (pos s j : Nat)) := ⟨hok, Or.inr ⟨hlt, rfl, hne⟩⟩
    refine wpIn_ret ?_
    have tp : Turns (fun i => i = D) W (W.putObj D (.deferred none)) := turns_putObj _ rfl
    have hbd : ¬ blk v D := fun h => by
      obtain ⟨cur, h1⟩ := Sl.elem hA.sl D h
      rw [hdd] at h1
      simp at h1
    have T0 : Turns nobody w W := hA.t.mono (fun i h => Or.inr (by have := HM.out; have h' : m ≤ i := h; omega))
    refine ⟨by simp, .inl ⟨_, _, rfl, run_takeDeferred hdd, ?_⟩⟩
    have r2 := (Boxed.turns hA.r2 tp (by omega)).cell
    have r3 := (Boxed.turns hA.r3 tp (by omega)).cell
    have r4 := (Boxed.turns hA.r4 tp (by omega)).cell
    refine ⟨_, results_all rfl _ _ rfl rfl rfl r2 r3 r4, j, _, v, hD2, rfl, ?_, fun i h => ?_, ?_⟩
    · exact Sl.keep hA.sl tp (fun i h e => hbd (e ▸ h))
    · have := hA.new i h; have := HM.out; omega
    · exact T0.trans2 tp (fun i h => by have := HM.out; omega)
end Go.Proofs.YtlhcmgjkhkcgcaaDoor.record
