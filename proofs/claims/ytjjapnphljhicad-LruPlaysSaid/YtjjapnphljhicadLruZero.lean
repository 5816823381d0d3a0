/- Package lru: one that nobody made; and that the program computes at all. -/
import Derived.Test.YtjjapnphljhicadLruAll
namespace Go.Proofs.Ytjjapnphljhicad.lru
open Go.RowKit
open Go.Proofs.Ytjjapnphljhicad.stepkit Go.Proofs.Ytjjapnphljhicad.eqkit Go.Proofs.Ytjjapnphljhicad.idkit Go.Proofs.Ytjjapnphljhicad.obj Go.Proofs.Ytjjapnphljhicad.row Go.Proofs.Ytjjapnphljhicad.mapkit Go.Proofs.Ytjjapnphljhicad.mix

/-- The object, made since w0: the ids in their order. -/
def Live (w0 : World) (p : Nat) (x : List (List Int)) (w : World) : Prop := ∃ ns F, ns.map (·.1) = x ∧ LruAt p ns F w ∧ Turns nobody w0 w ∧ ∀ i, F i → w0.heap.size ≤ i

theorem Live.still {w0 w w' : World} {p : Nat} {x : List (List Int)} (h : Live w0 p x w) (ht : Turns nobody w w') : Live w0 p x w' := by
  obtain ⟨ns, F, hx, ha, h1, h2⟩ := h
  exact ⟨ns, F, hx, (local_lru p ns).keep ha ht (fun _ _ h => h), h1.trans ht (fun _ h => False.elim h), h2⟩
theorem Live.turns {w0 w : World} {p : Nat} {x : List (List Int)} (h : Live w0 p x w) : Turns nobody w0 w := by obtain ⟨_, _, _, _, h, _⟩ := h; exact h
theorem Live.wh {w0 w : World} {p : Nat} {x : List (List Int)} (h : Live w0 p x w) : Wh x := by
  obtain ⟨ns, F, rfl, ⟨r, mb, _, hr, _⟩, _⟩ := h
  intro y hy
  obtain ⟨z, hz, rfl⟩ := List.mem_map.1 hy
  exact hr.wh z (List.mem_cons_of_mem _ hz)
theorem Live.nodup {w0 w : World} {p : Nat} {x : List (List Int)} (h : Live w0 p x w) : x.Nodup := by
  obtain ⟨ns, F, rfl, ⟨r, mb, _, _, _, hn, _⟩, _⟩ := h
  exact hn
theorem Live.step {w0 w w' : World} {p : Nat} {ns' : List (List Int × Nat)} {x' : List (List Int)} {F : Nat → Prop} (hx : ns'.map (·.1) = x') (ht : Turns nobody w0 w) (hF : ∀ i, F i → w0.heap.size ≤ i) (h : Step F (LruAt p ns') w w') : Live w0 p x' w' := by
  obtain ⟨F', ha, h1, h2⟩ := h
  exact ⟨ns', F', hx, ha, ht.trans h1 (fun i h => Or.inr (hF i h)), fun i hi => by rcases h2 i hi with h | h; exact hF i h; exact Nat.le_trans ht.size h⟩

theorem new_live (w : World) : Calls Try.prog 7 #[] w fun e w' => e = .returned (.pointer (some ⟨w.heap.size + 2, 0, none⟩)) ∧ Live w (w.heap.size + 2) [] w' :=
  (new_any w).mono fun e w' h => ⟨h.1, by obtain ⟨F, a, b, c⟩ := h.2; exact ⟨[], F, rfl, a, b, c⟩⟩
theorem use_live {w0 w : World} {p : Nat} {x x' : List (List Int)} {id : List Int} (hL : Live w0 p x w) (hid : id.length = 32) (hx : useL x id = x') :
    Calls Try.prog 8 #[.pointer (some ⟨p, 0, none⟩), .agg (idc id).toArray] w fun e w' => e = .returned (.int .i64 0) ∧ Live w0 p x' w' := by
  obtain ⟨ns, F, rfl, ha, h1, h2⟩ := hL
  refine (use_any p ns id hid F w ha).mono fun e w' ⟨he, ns', hn, hs⟩ => ⟨he, Live.step (hn.trans hx) h1 h2 hs⟩
theorem drop_live {w0 w : World} {p : Nat} {x : List (List Int)} {id : List Int} (hL : Live w0 p x w) (hid : id.length = 32) :
    Calls Try.prog 9 #[.pointer (some ⟨p, 0, none⟩), .agg (idc id).toArray] w fun e w' => e = .returned (.int .i64 (if id ∈ x then 0 else 7)) ∧ Live w0 p (dropL x id) w' := by
  obtain ⟨ns, F, rfl, ha, h1, h2⟩ := hL
  refine (drop_any p ns id hid F w ha).mono fun e w' ⟨he, ns', hn, hs⟩ => ⟨he, Live.step hn h1 h2 hs⟩
theorem len_live {w0 w : World} {p : Nat} {x : List (List Int)} (hL : Live w0 p x w) :
    Calls Try.prog 19 #[.pointer (some ⟨p, 0, none⟩)] w fun e w' => e = .returned (.int .i64 x.length) ∧ w = w' := by
  obtain ⟨ns, F, rfl, ha, h1, h2⟩ := hL
  rw [List.length_map]
  exact len_any p ns F w ha
theorem all_live {w0 w : World} {p : Nat} {x : List (List Int)} (hL : Live w0 p x w) (hn : x.length ≤ 1024) :
    Calls Try.prog 10 #[.pointer (some ⟨p, 0, none⟩)] w fun e w' => ∃ v, e = .returned v ∧ ISl w' v x ∧ (∀ j, blk v j → w.heap.size ≤ j) ∧ Turns nobody w w' := by
  obtain ⟨ns, F, rfl, ha, h1, h2⟩ := hL
  exact all_any p ns F w ha (by simpa using hn)
/-- The first one. -/
def headX (x : List (List Int)) : List Int := if x.length = 0 then zid else x.getD 0 []
theorem at_map (ns : List (List Int × Nat)) {i : Nat} (h : i < ns.length) : (at' ns i).1 = (ns.map (·.1)).getD i [] := by
  unfold at'
  rw [List.getD, List.getD, List.getElem?_map, List.getElem?_eq_getElem h]
  rfl
theorem oldest_live {w0 w : World} {p : Nat} {x : List (List Int)} (hL : Live w0 p x w) :
    Calls Try.prog 18 #[.pointer (some ⟨p, 0, none⟩)] w fun e w' => e = .returned (.tuple #[.agg (idc (headX x)).toArray, .bool (decide (x.length ≠ 0))]) ∧ Turns nobody w w' := by
  obtain ⟨ns, F, rfl, ha, h1, h2⟩ := hL
  have := oldest_any p ns F w ha
  have e : headId ns = headX (ns.map (·.1)) := by
    unfold headId headX
    rw [List.length_map]
    split
    · rfl
    · exact at_map ns (by omega)
  rw [e] at this
  rw [List.length_map]
  exact this
/-- The one behind it. -/
def idxX (x : List (List Int)) (id : List Int) : Nat := x.findIdx (fun y => decide (y = id))
def afterX (x : List (List Int)) (id : List Int) : Option (List Int) := if idxX x id + 1 < x.length then some (x.getD (idxX x id + 1) []) else none
theorem after_live {w0 w : World} {p : Nat} {x : List (List Int)} {id : List Int} (hL : Live w0 p x w) (hid : id.length = 32) :
    Calls Try.prog 16 #[.pointer (some ⟨p, 0, none⟩), .agg (idc id).toArray] w fun e w' => e = .returned (.tuple #[.agg (idc ((afterX x id).getD zid)).toArray, .bool (afterX x id).isSome]) ∧ Turns nobody w w' := by
  obtain ⟨ns, F, rfl, ha, h1, h2⟩ := hL
  have := after_any p ns id hid F w ha
  have e : afterId ns id = afterX (ns.map (·.1)) id := by
    unfold afterId afterX
    have e2 : idxOf ns id = idxX (ns.map (·.1)) id := rfl
    rw [List.length_map, e2]
    split
    · rw [at_map ns (by assumption)]
    · rfl
  rw [e] at this
  exact this

theorem run_eql_of {t : TypeId} {cs ds : Array Value} {w : World} {r : Bool} (h : (Op.equal t (.agg cs) (.agg ds)).run Try.prog w = .ok r w) : (binOp .neq t (.agg cs) (.agg ds)).run Try.prog w = .ok (.bool (!r)) w ∧ (binOp .eql t (.agg cs) (.agg ds)).run Try.prog w = .ok (.bool r) w := run_neq_of_eql h
theorem exec_eq {op : Oper} {a : Act} {w : World} (x y : Operand) (d : TypeId) (ho : op.op = .binOp .eql 24 x y d) (xs ys : List Int) (hx : a.eval x = .agg (idc xs).toArray) (hy : a.eval y = .agg (idc ys).toArray) (h1 : xs.length = 32) (h2 : ys.length = 32) {r : Bool} (hr : decide (xs = ys) = r) :
    (execOp a.eval op).run Try.prog w = .ok (.value (.bool r)) w := by
  have h3 : (Op.equalIn 10000 24 (.agg (idc xs).toArray) (.agg (idc ys).toArray)).run Try.prog w = .ok r w := by rw [← hr]; exact eq_key w xs ys h1 h2
  clear hr
  unfold execOp
  simp only [ho, hx, hy]
  go_simp
theorem exec_ne {op : Oper} {a : Act} {w : World} (x y : Operand) (d : TypeId) (ho : op.op = .binOp .neq 24 x y d) (xs ys : List Int) (hx : a.eval x = .agg (idc xs).toArray) (hy : a.eval y = .agg (idc ys).toArray) (h1 : xs.length = 32) (h2 : ys.length = 32) {r : Bool} (hr : (!decide (xs = ys)) = r) :
    (execOp a.eval op).run Try.prog w = .ok (.value (.bool r)) w := by
  have h3 : (Op.equalIn 10000 24 (.agg (idc xs).toArray) (.agg (idc ys).toArray)).run Try.prog w = .ok (decide (xs = ys)) w := eq_key w xs ys h1 h2
  subst hr
  unfold execOp
  simp only [ho, hx, hy]
  go_simp

def one : List Int := 1 :: List.replicate 31 0
def two : List Int := 2 :: List.replicate 31 0
theorem one_len : one.length = 32 := by decide
theorem two_len : two.length = 32 := by decide
theorem build_one (w : World) : (Instr.build 24 #[(0, .int .u8 1)]).run Try.prog w = .ok (.agg (idc one).toArray) w := by kernel_rfl
theorem build_two (w : World) : (Instr.build 24 #[(0, .int .u8 2)]).run Try.prog w = .ok (.agg (idc two).toArray) w := by kernel_rfl

set_option maxRecDepth 10000 in
set_option maxHeartbeats 1000000 in
theorem awake_any (w : World) : Calls Try.prog 13 #[] w fun e w' => e = .returned (.bool true) ∧ Turns nobody w w' := by
  have N := new_live w
  have q1 : ∀ W, Live w (w.heap.size + 2) [] W → _ := fun W h => use_live (id := one) (x' := [one]) h one_len (by decide)
  have q2 : ∀ W, Live w (w.heap.size + 2) [one] W → _ := fun W h => use_live (id := two) (x' := [one, two]) h two_len (by decide)
  have q3 : ∀ W, Live w (w.heap.size + 2) [one, two] W → _ := fun W h => use_live (id := one) (x' := [two, one]) h one_len (by decide)
  have q4 : ∀ W, Live w (w.heap.size + 2) [two, one] W → _ := fun W h => oldest_live h
  have e4 : headX [two, one] = two := rfl
  rw [e4] at q4
  have B1 := Lib.hid build_one
  have B2 := Lib.hid build_two
  have l2 := two_len
  have HS := Lib.hid (sizeId two_len)
  have HL2 := Lib.hid (show (idc two).length = 32 by rw [idc_len, two_len])
  generalize one = o1 at *
  generalize two = o2 at *
  go_enter Try.func13, Try.ntmps13
  go_wp2_with first
    | (go_at_call 7; refine N.mono ?_; rintro e w1 ⟨rfl, h1⟩)
    | (with_reducible refine wpList_exec (exec_build _ _ rfl #[(0, .int .u8 1)] (by with_unfolding_all rfl) (B1.out _)) (by first | rfl | go_simp) ?_)
    | (with_reducible refine wpList_exec (exec_build _ _ rfl #[(0, .int .u8 2)] (by with_unfolding_all rfl) (B2.out _)) (by first | rfl | go_simp) ?_)
    | (go_at_call 8; (with_reducible refine (q3 _ h3).mono ?_); rintro e w4 ⟨rfl, h4⟩)
    | (go_at_call 8; (with_reducible refine (q2 _ h2).mono ?_); rintro e w3 ⟨rfl, h3⟩)
    | (go_at_call 8; (with_reducible refine (q1 _ h1).mono ?_); rintro e w2 ⟨rfl, h2⟩)
    | (go_at_call 18; (with_reducible refine (q4 _ h4).mono ?_); rintro e w5 ⟨rfl, t5⟩; have h5 := h4.still t5; have HI := Lib.hid (idcell (Turns.refl nobody (w5.alloc _)) (idc o2) HL2.out))
    | (refine wpList_store_mid rfl _ _ _ rfl _ _ _ rfl rfl HI.out.1 (by rw [List.size_toArray]; exact HS.out) (all_oneCell_toArray (idc_one _)) ?_; rw [List.toList_toArray]; have h6 := h5.still HI.out.2.1)
    | (with_reducible refine wpList_exec (exec_load_mid _ _ rfl _ _ rfl (idc o2) _ HI.out.2.2 Try.underlying24 rfl HS.out) (by first | rfl | go_simp) ?_)
    | (refine wpList_exec (exec_eq _ _ _ rfl o2 o2 rfl rfl l2 l2 (decide_eq_true rfl)) (by first | rfl | go_simp) ?_)
    | (go_at_call 19; (with_reducible refine (len_live h6).mono ?_); rintro e w6 ⟨rfl, rfl⟩)
  go_ret
  exact ⟨rfl, h6.turns⟩

theorem use_nil (id : List Int) (w : World) : Calls Try.prog 8 #[.pointer none, .agg (idc id).toArray] w fun e w' => e = .returned (.int .i64 8) ∧ Turns nobody w w' := by
  go_enter Try.func8, Try.ntmps8
  go_wp2_with (go_at_call 20; refine (none_nil _).mono ?_; rintro e w' ⟨rfl, rfl⟩)
  go_ret
  exact ⟨rfl, (Turns.refl _ _).alloc _⟩
theorem use_unmade (p : Nat) (id : List Int) (w : World) (h : w.heap[p]? = some (.cells #[.pointer none, .map none] 47 (0, 0))) : Calls Try.prog 8 #[.pointer (some ⟨p, 0, none⟩), .agg (idc id).toArray] w fun e w' => e = .returned (.int .i64 8) ∧ Turns nobody w w' := by
  have ht : Turns nobody w _ := (Turns.refl nobody w).alloc (.cells (idc id).toArray 24)
  have c1 := cells_of (heap_newer h ht (fun h => h)) 0 (.pointer none) rfl
  clear h
  go_enter Try.func8, Try.ntmps8
  go_wp2_with (go_at_call 20; refine (none_zero _ _ c1).mono ?_; rintro e w' ⟨rfl, rfl⟩)
  go_ret
  exact ⟨rfl, ht⟩

theorem drop_nil (id : List Int) (w : World) : Calls Try.prog 9 #[.pointer none, .agg (idc id).toArray] w fun e w' => e = .returned (.int .i64 8) ∧ Turns nobody w w' := by
  go_enter Try.func9, Try.ntmps9
  go_wp2_with (go_at_call 20; refine (none_nil _).mono ?_; rintro e w' ⟨rfl, rfl⟩)
  go_ret
  exact ⟨rfl, (Turns.refl _ _).alloc _⟩
theorem drop_unmade (p : Nat) (id : List Int) (w : World) (h : w.heap[p]? = some (.cells #[.pointer none, .map none] 47 (0, 0))) : Calls Try.prog 9 #[.pointer (some ⟨p, 0, none⟩), .agg (idc id).toArray] w fun e w' => e = .returned (.int .i64 8) ∧ Turns nobody w w' := by
  have ht : Turns nobody w _ := (Turns.refl nobody w).alloc (.cells (idc id).toArray 24)
  have c1 := cells_of (heap_newer h ht (fun h => h)) 0 (.pointer none) rfl
  clear h
  go_enter Try.func9, Try.ntmps9
  go_wp2_with (go_at_call 20; refine (none_zero _ _ c1).mono ?_; rintro e w' ⟨rfl, rfl⟩)
  go_ret
  exact ⟨rfl, ht⟩

theorem all_nil (w : World) : Calls Try.prog 10 #[.pointer none] w fun e w' => e = .returned (.slice none 0 0) ∧ Turns nobody w w' := by
  go_enter Try.func10, Try.ntmps10
  go_wp2_with (go_at_call 20; refine (none_nil _).mono ?_; rintro e w' ⟨rfl, rfl⟩)
  go_ret
  exact ⟨rfl, Turns.refl _ _⟩
theorem all_unmade (p : Nat) (w : World) (h : w.heap[p]? = some (.cells #[.pointer none, .map none] 47 (0, 0))) : Calls Try.prog 10 #[.pointer (some ⟨p, 0, none⟩)] w fun e w' => e = .returned (.slice none 0 0) ∧ Turns nobody w w' := by
  have ht : Turns nobody w _ := Turns.refl nobody w
  have c1 := cells_of (heap_newer h ht (fun h => h)) 0 (.pointer none) rfl
  clear h
  go_enter Try.func10, Try.ntmps10
  go_wp2_with (go_at_call 20; refine (none_zero _ _ c1).mono ?_; rintro e w' ⟨rfl, rfl⟩)
  go_ret
  exact ⟨rfl, ht⟩

theorem len_nil (w : World) : Calls Try.prog 19 #[.pointer none] w fun e w' => e = .returned (.int .i64 0) ∧ Turns nobody w w' := by
  go_enter Try.func19, Try.ntmps19
  go_wp2_with (go_at_call 20; refine (none_nil _).mono ?_; rintro e w' ⟨rfl, rfl⟩)
  go_ret
  exact ⟨rfl, Turns.refl _ _⟩
theorem len_unmade (p : Nat) (w : World) (h : w.heap[p]? = some (.cells #[.pointer none, .map none] 47 (0, 0))) : Calls Try.prog 19 #[.pointer (some ⟨p, 0, none⟩)] w fun e w' => e = .returned (.int .i64 0) ∧ Turns nobody w w' := by
  have ht : Turns nobody w _ := Turns.refl nobody w
  have c1 := cells_of (heap_newer h ht (fun h => h)) 0 (.pointer none) rfl
  clear h
  go_enter Try.func19, Try.ntmps19
  go_wp2_with (go_at_call 20; refine (none_zero _ _ c1).mono ?_; rintro e w' ⟨rfl, rfl⟩)
  go_ret
  exact ⟨rfl, ht⟩

end Go.Proofs.Ytjjapnphljhicad.lru
