/- Package chase: one that nobody made; and that the program computes at all. -/
import Derived.Test.YtcgnadihjbdolabChaseOver
namespace Go.Proofs.Ytcgnadihjbdolab.chase
open Go.RowKit
open Go.Proofs.Ytcgnadihjbdolab.stepkit Go.Proofs.Ytcgnadihjbdolab.row Go.Proofs.Ytcgnadihjbdolab.mix Go.Proofs.Ytcgnadihjbdolab.obj Go.Proofs.Ytcgnadihjbdolab.eqkit Go.Proofs.Ytcgnadihjbdolab.idkit

theorem new_any (w : World) : Calls Try.prog 6 #[] w fun e w' => e = .returned (.pointer (some ⟨w.heap.size, 0, none⟩)) ∧ ∃ F, ChAt w.heap.size [] F w' ∧ Turns nobody w w' ∧ ∀ i, F i → w.heap.size ≤ i := by
  have hb : ∀ w, (Instr.build 42 #[(1, .bool true)]).run Try.prog w = .ok (.agg #[.slice none 0 0, .bool true]) w := fun _ => by kernel_rfl
  go_enter Try.func6, Try.ntmps6
  go_wp2
  go_ret
  exact ⟨rfl, _, Box1.fresh (mk := fun v => #[v, .bool true]), (Turns.refl _ _).alloc _, fun i hi => by rcases hi with rfl | h; exact Nat.le_refl _; cases h⟩

/-- The object, made since w0; what was there before lies as it lay. -/
def Live (w0 : World) (p : Nat) (l : List Ch) (w : World) : Prop := ∃ F, ChAt p l F w ∧ Turns nobody w0 w ∧ ∀ i, F i → w0.heap.size ≤ i

theorem Live.step {w0 w w' : World} {p : Nat} {l' : List Ch} {F : Nat → Prop} (ht : Turns nobody w0 w) (hF : ∀ i, F i → w0.heap.size ≤ i) (h : Step F (ChAt p l') w w') : Live w0 p l' w' := by
  obtain ⟨F', ha, h1, h2⟩ := h
  exact ⟨F', ha, ht.trans h1 (fun i h => Or.inr (hF i h)), fun i hi => by rcases h2 i hi with h | h; exact hF i h; exact Nat.le_trans ht.size h⟩
theorem Live.still {w0 w w' : World} {p : Nat} {l : List Ch} (h : Live w0 p l w) (ht : Turns nobody w w') : Live w0 p l w' := by
  obtain ⟨F, ha, h1, h2⟩ := h
  exact ⟨F, (local_ch p l).keep ha ht (fun _ _ h => h), h1.trans ht (fun _ h => False.elim h), h2⟩

theorem want_live {w0 w : World} {p : Nat} {l l' : List Ch} {id : List Int} {peer now : Int} {r : Bool} (hL : Live w0 p l w) (hw : Whole l) (hid : id.length = 32) (hl : l.length ≤ 32) (hr : wantOk l id (clk now) = r) (hn : wantNew l id peer (clk now) = l') :
    Calls Try.prog 8 #[.pointer (some ⟨p, 0, none⟩), idv id, .int .i64 peer, .int .i64 now] w fun e w' => e = .returned (.bool r) ∧ Live w0 p l' w' := by
  obtain ⟨F, ha, h1, h2⟩ := hL
  subst hr hn
  exact (want_any p l id peer now F w ha hw hid hl).mono fun e w' h => ⟨h.1, Live.step h1 h2 h.2⟩
theorem done_live {w0 w : World} {p : Nat} {l l' : List Ch} {id : List Int} {r : Bool} (hL : Live w0 p l w) (hw : Whole l) (hid : id.length = 32) (hl : l.length ≤ 32) (hr : (findAt l id).isSome = r) (hn : dropAt l (findAt l id) = l') :
    Calls Try.prog 7 #[.pointer (some ⟨p, 0, none⟩), idv id] w fun e w' => e = .returned (.bool r) ∧ Live w0 p l' w' := by
  obtain ⟨F, ha, h1, h2⟩ := hL
  subst hr hn
  exact (done_any p l id F w ha hw hid (by omega)).mono fun e w' h => ⟨h.1, Live.step h1 h2 h.2⟩
theorem over_live {w0 w : World} {p : Nat} {l l' : List Ch} {now : Int} {n : Nat} (hL : Live w0 p l w) (hw : Whole l) (hl : l.length ≤ 32) (hr : (overOf l (clk now)).length = n) (hn : leftOf l (clk now) = l') :
    Calls Try.prog 11 #[.pointer (some ⟨p, 0, none⟩), .int .i64 now] w fun e w' => (∃ ao c, e = .returned (.slice ao n c)) ∧ Live w0 p l' w' := by
  obtain ⟨F, ha, h1, h2⟩ := hL
  subst hr hn
  refine (over_any p l now F w ha hw (by omega)).mono fun e w' h => ?_
  obtain ⟨v, rfl, hs, _, hstep⟩ := h
  obtain ⟨ao, c, rfl, _⟩ := (show Sl _ _ _ _ _ _ from hs).shape
  exact ⟨⟨ao, c, rfl⟩, Live.step h1 h2 hstep⟩
theorem len_live {w0 w : World} {p : Nat} {l : List Ch} (hL : Live w0 p l w) :
    Calls Try.prog 12 #[.pointer (some ⟨p, 0, none⟩)] w fun e w' => e = .returned (.int .i64 l.length) ∧ w = w' := by
  obtain ⟨F, ha, h1, h2⟩ := hL
  exact len_any p l F w ha
theorem new_live (w : World) : Calls Try.prog 6 #[] w fun e w' => e = .returned (.pointer (some ⟨w.heap.size, 0, none⟩)) ∧ Live w w.heap.size [] w' :=
  (new_any w).mono fun e w' h => ⟨h.1, by obtain ⟨F, a, b, c⟩ := h.2; exact ⟨F, a, b, c⟩⟩

def one : List Int := 1 :: List.replicate 31 0
theorem one_len : one.length = 32 := by decide
theorem build_one (w : World) : (Instr.build 26 #[(0, .int .u8 1)]).run Try.prog w = .ok (idv one) w := by kernel_rfl
theorem whole_one (a b : Int) : Whole [⟨one, a, b⟩] := fun c hc => by rw [List.mem_singleton.1 hc]; exact one_len

theorem find_self (id : List Int) (a b : Int) : findAt [⟨id, a, b⟩] id = some 0 := by simp [findAt]
theorem find_nil (id : List Int) : findAt [] id = none := rfl

set_option maxRecDepth 10000 in
set_option maxHeartbeats 1000000 in
theorem awake_any (w : World) : Calls Try.prog 10 #[] w fun e w' => e = .returned (.bool true) ∧ Turns nobody w w' := by
  have N := new_live w
  have k0 : clk 0 = 0 := by decide
  have k3 : clk 3 = 3 := by decide
  have k4 : clk 4 = 4 := by decide
  have hw0 : Whole [] := fun c hc => by cases hc
  have q1 : ∀ W, Live w w.heap.size [] W → _ := fun W h => want_live (id := one) (peer := 1) (now := 0) (r := true) (l' := [⟨one, 1, 4⟩]) h hw0 one_len (by decide) (by simp [wantOk, find_nil]) (by simp [wantNew, wantOk, find_nil, dropAt, k0, k3, k4])
  have q2 : ∀ W, Live w w.heap.size [⟨one, 1, 4⟩] W → _ := fun W h => want_live (id := one) (peer := 2) (now := 3) (r := false) (l' := [⟨one, 1, 4⟩]) h (whole_one _ _) one_len (by simp) (by simp [wantOk, find_self, k0, k3, k4]) (by simp [wantNew, wantOk, find_self, dropAt, k0, k3, k4])
  have q3 : ∀ W, Live w w.heap.size [⟨one, 1, 4⟩] W → _ := fun W h => want_live (id := one) (peer := 2) (now := 4) (r := true) (l' := [⟨one, 2, 8⟩]) h (whole_one _ _) one_len (by simp) (by simp [wantOk, find_self, k0, k3, k4]) (by simp [wantNew, wantOk, find_self, dropAt, k0, k3, k4])
  have q4 : ∀ W, Live w w.heap.size [⟨one, 2, 8⟩] W → _ := fun W h => done_live (id := one) (r := true) (l' := []) h (whole_one _ _) one_len (by simp) (by simp [find_self]) (by simp [find_self, dropAt])
  have B := Lib.hid build_one
  generalize one = o1 at *
  go_enter Try.func10, Try.ntmps10
  go_wp2_with first
    | (go_at_call 6; refine N.mono ?_; rintro e w1 ⟨rfl, h1⟩)
    | (with_reducible refine wpList_exec (exec_build _ _ rfl #[(0, .int .u8 1)] (by kernel_rfl) (B.out _)) (by first | rfl | go_simp) ?_)
    | (go_at_call 8; refine (q3 _ h3).mono ?_; rintro e w4 ⟨rfl, h4⟩)
    | (go_at_call 8; refine (q2 _ h2).mono ?_; rintro e w3 ⟨rfl, h3⟩)
    | (go_at_call 8; refine (q1 _ h1).mono ?_; rintro e w2 ⟨rfl, h2⟩)
    | (go_at_call 12; refine (len_live h4).mono ?_; rintro e w5 ⟨rfl, rfl⟩)
    | (go_at_call 7; refine (q4 _ h4).mono ?_; rintro e w6 ⟨rfl, h6⟩)
  go_ret
  exact ⟨rfl, by obtain ⟨F, _, h, _⟩ := h6; exact h⟩

theorem want_nil (id : List Int) (peer now : Int) (w : World) : Calls Try.prog 8 #[.pointer none, idv id, .int .i64 peer, .int .i64 now] w fun e w' => e = .returned (.bool false) ∧ Turns nobody w w' := by
  unfold idv
  go_enter Try.func8, Try.ntmps8
  go_wp2_with (go_at_call 13; refine (none_nil _).mono ?_; rintro e w' ⟨rfl, rfl⟩)
  go_ret
  exact ⟨rfl, (Turns.refl _ _).alloc _⟩
theorem done_nil (id : List Int) (w : World) : Calls Try.prog 7 #[.pointer none, idv id] w fun e w' => e = .returned (.bool false) ∧ Turns nobody w w' := by
  unfold idv
  go_enter Try.func7, Try.ntmps7
  go_wp2_with (go_at_call 13; refine (none_nil _).mono ?_; rintro e w' ⟨rfl, rfl⟩)
  go_ret
  exact ⟨rfl, (Turns.refl _ _).alloc _⟩
theorem over_nil (now : Int) (w : World) : Calls Try.prog 11 #[.pointer none, .int .i64 now] w fun e w' => e = .returned (.slice none 0 0) ∧ Turns nobody w w' := by
  go_enter Try.func11, Try.ntmps11
  go_wp2_with (go_at_call 13; refine (none_nil _).mono ?_; rintro e w' ⟨rfl, rfl⟩)
  go_ret
  exact ⟨rfl, Turns.refl _ _⟩
theorem all_nil (w : World) : Calls Try.prog 9 #[.pointer none] w fun e w' => e = .returned (.slice none 0 0) ∧ Turns nobody w w' := by
  go_enter Try.func9, Try.ntmps9
  go_wp2_with (go_at_call 13; refine (none_nil _).mono ?_; rintro e w' ⟨rfl, rfl⟩)
  go_ret
  exact ⟨rfl, Turns.refl _ _⟩
theorem len_nil (w : World) : Calls Try.prog 12 #[.pointer none] w fun e w' => e = .returned (.int .i64 0) ∧ Turns nobody w w' := by
  go_enter Try.func12, Try.ntmps12
  go_wp2_with (go_at_call 13; refine (none_nil _).mono ?_; rintro e w' ⟨rfl, rfl⟩)
  go_ret
  exact ⟨rfl, Turns.refl _ _⟩

theorem want_unmade (p : Nat) (id : List Int) (peer now : Int) (w : World) (h : w.heap[p]? = some (.cells #[.slice none 0 0, .bool false] 42 (0, 0))) : Calls Try.prog 8 #[.pointer (some ⟨p, 0, none⟩), idv id, .int .i64 peer, .int .i64 now] w fun e w' => e = .returned (.bool false) ∧ Turns nobody w w' := by
  have ht := (Turns.refl nobody w).alloc (.cells (idc id).toArray 26)
  have c1 := cells_of (heap_newer h ht (fun h => h)) 1 (.bool false) rfl
  unfold idv
  clear h
  go_enter Try.func8, Try.ntmps8
  go_wp2_with (go_at_call 13; refine (none_unmade _ _ c1).mono ?_; rintro e w' ⟨rfl, rfl⟩)
  go_ret
  exact ⟨rfl, ht⟩
theorem done_unmade (p : Nat) (id : List Int) (w : World) (h : w.heap[p]? = some (.cells #[.slice none 0 0, .bool false] 42 (0, 0))) : Calls Try.prog 7 #[.pointer (some ⟨p, 0, none⟩), idv id] w fun e w' => e = .returned (.bool false) ∧ Turns nobody w w' := by
  have ht := (Turns.refl nobody w).alloc (.cells (idc id).toArray 26)
  have c1 := cells_of (heap_newer h ht (fun h => h)) 1 (.bool false) rfl
  unfold idv
  clear h
  go_enter Try.func7, Try.ntmps7
  go_wp2_with (go_at_call 13; refine (none_unmade _ _ c1).mono ?_; rintro e w' ⟨rfl, rfl⟩)
  go_ret
  exact ⟨rfl, ht⟩
theorem over_unmade (p : Nat) (now : Int) (w : World) (h : w.heap[p]? = some (.cells #[.slice none 0 0, .bool false] 42 (0, 0))) : Calls Try.prog 11 #[.pointer (some ⟨p, 0, none⟩), .int .i64 now] w fun e w' => e = .returned (.slice none 0 0) ∧ Turns nobody w w' := by
  have ht := Turns.refl nobody w
  have c1 := cells_of h 1 (.bool false) rfl
  clear h
  go_enter Try.func11, Try.ntmps11
  go_wp2_with (go_at_call 13; refine (none_unmade _ _ c1).mono ?_; rintro e w' ⟨rfl, rfl⟩)
  go_ret
  exact ⟨rfl, ht⟩
theorem all_unmade (p : Nat) (w : World) (h : w.heap[p]? = some (.cells #[.slice none 0 0, .bool false] 42 (0, 0))) : Calls Try.prog 9 #[.pointer (some ⟨p, 0, none⟩)] w fun e w' => e = .returned (.slice none 0 0) ∧ Turns nobody w w' := by
  have ht := Turns.refl nobody w
  have c1 := cells_of h 1 (.bool false) rfl
  clear h
  go_enter Try.func9, Try.ntmps9
  go_wp2_with (go_at_call 13; refine (none_unmade _ _ c1).mono ?_; rintro e w' ⟨rfl, rfl⟩)
  go_ret
  exact ⟨rfl, ht⟩
theorem len_unmade (p : Nat) (w : World) (h : w.heap[p]? = some (.cells #[.slice none 0 0, .bool false] 42 (0, 0))) : Calls Try.prog 12 #[.pointer (some ⟨p, 0, none⟩)] w fun e w' => e = .returned (.int .i64 0) ∧ Turns nobody w w' := by
  have ht := Turns.refl nobody w
  have c1 := cells_of h 1 (.bool false) rfl
  clear h
  go_enter Try.func12, Try.ntmps12
  go_wp2_with (go_at_call 13; refine (none_unmade _ _ c1).mono ?_; rintro e w' ⟨rfl, rfl⟩)
  go_ret
  exact ⟨rfl, ht⟩

end Go.Proofs.Ytcgnadihjbdolab.chase
