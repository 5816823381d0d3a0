/- ChaseAgain: the walk. -/
import Derived.Test.YtcgnadihjbdolabChaseZero
namespace Go.Proofs.Ytcgnadihjbdolab.chase
open Go.RowKit
open Go.Proofs.Ytcgnadihjbdolab.stepkit Go.Proofs.Ytcgnadihjbdolab.row Go.Proofs.Ytcgnadihjbdolab.mix Go.Proofs.Ytcgnadihjbdolab.obj Go.Proofs.Ytcgnadihjbdolab.eqkit Go.Proofs.Ytcgnadihjbdolab.idkit

theorem Live.turns {w0 w : World} {p : Nat} {l : List Ch} (h : Live w0 p l w) : Turns nobody w0 w := by obtain ⟨_, _, h, _⟩ := h; exact h
theorem clk_id {n : Int} (h0 : 0 ≤ n) (h1 : n ≤ 1073741824) : clk n = n := by unfold clk; omega
theorem whole_of (id : List Int) (hid : id.length = 32) (a b : Int) : Whole [⟨id, a, b⟩] := fun c hc => by rw [List.mem_singleton.1 hc]; exact hid
theorem over_hit {c : Ch} {t : Int} (h : c.due ≤ t) : (overOf [c] t).length = 1 ∧ leftOf [c] t = [] := by simp [overOf, leftOf, h]
theorem over_miss {c : Ch} {t : Int} (h : ¬ c.due ≤ t) : (overOf [c] t).length = 0 ∧ leftOf [c] t = [c] := by
  have : decide (c.due ≤ t) = false := decide_eq_false h
  simp [overOf, leftOf, List.filter_cons, this]
theorem whole_nil : Whole [] := fun c hc => by cases hc


set_option maxRecDepth 10000 in
set_option maxHeartbeats 1000000 in
theorem again_any (id : List Int) (hid : id.length = 32) (peer : Int) (n m : Nat) (hn : n ≤ 65535) (hm : m ≤ 65535) (w : World) : Calls Try.prog 4 #[idv id, .int .i64 peer, .int .u16 n, .int .u16 m] w fun e w' => e = .returned (.bool true) ∧ Below w.heap.size w w' := by
  obtain ⟨w1, hw1⟩ : ∃ w1, w1 = w.alloc (.cells (idc id).toArray 26) := ⟨_, rfl⟩
  have ht1 : Turns nobody w w1 := by rw [hw1]; exact (Turns.refl _ _).alloc _
  have hb1 : w1.heap[w.heap.size]? = some (.cells (idc id).toArray 26 (0, 0)) := by rw [hw1]; exact heap_alloc_new w _
  have HX : Hid (∀ W, Turns nobody w1 W → W.rangeAt w.heap.size 0 (idc id)) := Lib.hid fun W h => range_id (heap_newer hb1 h (fun h => h))
  have S1 := Lib.hid (show (Try.prog.info? 26).map (·.size) = some (idc id).length by rw [infoId, idc_len, hid])
  have W1 := Lib.hid hw1
  have fin : ∀ W, Turns nobody w1 W → Below w.heap.size w W := fun W h => (ht1.trans h (fun _ h => False.elim h)).below (Nat.le_refl _) (fun _ h => False.elim h)
  have e1 : w1.heap.size = w.heap.size + 1 := by rw [hw1]; simp
  have N := new_live w1
  clear hw1 ht1 hb1
  obtain ⟨q, hq⟩ : ∃ q, m % 20 = q := ⟨_, rfl⟩
  have hq20 : q < 20 := by rw [← hq]; exact Nat.mod_lt _ (by decide)
  have hqm : Int.tmod (m : Int) 20 = (q : Int) := by rw [Int.tmod_eq_emod_of_nonneg (by omega)]; omega
  clear hq
  have kn : clk (n : Int) = n := clk_id (by omega) (by omega)
  have q1 : ∀ W, Live w1 w1.heap.size [] W → _ := fun W h => want_live (id := id) (peer := peer) (now := n) (r := true) (l' := [⟨id, peer, n + 4⟩]) h whole_nil hid (by decide) (by simp [wantOk, find_nil]) (by simp [wantNew, wantOk, find_nil, dropAt, kn])
  have q6 : ∀ W, Live w1 w1.heap.size [] W → _ := fun W h => done_live (id := id) (r := false) (l' := []) h whole_nil hid (by decide) (by simp [find_nil]) (by simp [find_nil, dropAt])
  have kq : clk ((n : Int) + (q : Int)) = n + q := clk_id (by omega) (by omega)
  by_cases h4 : 4 ≤ q
  · have h4i : (4 : Int) ≤ (q : Int) := by omega
    have d4 : decide ((4 : Int) ≤ (q : Int)) = true := decide_eq_true h4i
    have q2 : ∀ W, Live w1 w1.heap.size [⟨id, peer, n + 4⟩] W → _ := fun W h => want_live (id := id) (peer := peer) (now := (n : Int) + (q : Int)) (r := true) (l' := [⟨id, peer, n + q + 4⟩]) h (whole_of _ hid _ _) hid (by simp) (by simp [wantOk, find_self, kq]; omega) (by simp [wantNew, wantOk, find_self, dropAt, kq]; omega)
    have k1 : clk ((n : Int) + q + 4 - 1) = n + q + 4 - 1 := clk_id (by omega) (by omega)
    have k2 : clk ((n : Int) + q + 4) = n + q + 4 := clk_id (by omega) (by omega)
    have q3 : ∀ W, Live w1 w1.heap.size [⟨id, peer, n + q + 4⟩] W → _ := fun W h => over_live (now := (n : Int) + q + 4 - 1) (n := 0) (l' := [⟨id, peer, n + q + 4⟩]) h (whole_of _ hid _ _) (by simp) (over_miss (by rw [k1]; simp only; omega)).1 (over_miss (by rw [k1]; simp only; omega)).2
    have q4 : ∀ W, Live w1 w1.heap.size [⟨id, peer, n + q + 4⟩] W → _ := fun W h => over_live (now := (n : Int) + q + 4) (n := 1) (l' := []) h (whole_of _ hid _ _) (by simp) (over_hit (by rw [k2]; simp only; omega)).1 (over_hit (by rw [k2]; simp only; omega)).2
    clear k1 k2
    unfold idv at q1 q2 q6 ⊢
    rw [e1] at N q1 q2 q3 q4 q6
    clear e1
    clear kn kq
    go_enter Try.func4, Try.ntmps4
    go_wp2_with first
      | (try (rw [← W1.out])
         with_reducible refine wpList_exec (exec_load_mid _ _ rfl _ _ rfl (idc id) _ (HX.out _ hT) Try.underlying26 rfl S1.out) (by first | rfl | go_simp) ?_)
      | (go_at_call 10; refine (awake_any _).mono ?_; rintro e w' ⟨rfl, g⟩; replace hT := hT.trans g (fun _ h => False.elim h))
      | (go_at_call 7; (with_reducible refine (q6 _ h6).mono ?_); rintro e w7 ⟨rfl, h7⟩; replace hT := h7.turns)
      | (go_at_call 12; (with_reducible refine (len_live h6).mono ?_); rintro e w7 ⟨rfl, rfl⟩)
      | (go_at_call 11; (with_reducible refine (q4 _ h5).mono ?_); rintro e w6 ⟨⟨ao6, c6, rfl⟩, h6⟩; replace hT := h6.turns)
      | (go_at_call 11; (with_reducible refine (q3 _ h4).mono ?_); rintro e w5 ⟨⟨ao5, c5, rfl⟩, h5⟩; replace hT := h5.turns)
      | (go_at_call 8; (with_reducible refine (q2 _ h3).mono ?_); rintro e w4 ⟨rfl, h4⟩; replace hT := h4.turns)
      | (go_at_call 8; (with_reducible refine (q1 _ h2).mono ?_); rintro e w3 ⟨rfl, h3⟩; replace hT := h3.turns)
      | (go_at_call 6; rw [← W1.out]; (with_reducible refine N.mono ?_); rintro e w2 ⟨rfl, h2⟩; have hT := h2.turns)
    go_ret
    exact ⟨rfl, fin _ hT⟩
  · have h4i : ¬ (4 : Int) ≤ (q : Int) := by omega
    have d4 : decide ((4 : Int) ≤ (q : Int)) = false := decide_eq_false h4i
    have q2 : ∀ W, Live w1 w1.heap.size [⟨id, peer, n + 4⟩] W → _ := fun W h => want_live (id := id) (peer := peer) (now := (n : Int) + (q : Int)) (r := false) (l' := [⟨id, peer, n + 4⟩]) h (whole_of _ hid _ _) hid (by simp) (by simp [wantOk, find_self, kq]; omega) (by simp [wantNew, wantOk, find_self, dropAt, kq]; omega)
    have k1 : clk ((n : Int) + 4 - 1) = n + 4 - 1 := clk_id (by omega) (by omega)
    have k2 : clk ((n : Int) + 4) = n + 4 := clk_id (by omega) (by omega)
    have q3 : ∀ W, Live w1 w1.heap.size [⟨id, peer, n + 4⟩] W → _ := fun W h => over_live (now := (n : Int) + 4 - 1) (n := 0) (l' := [⟨id, peer, n + 4⟩]) h (whole_of _ hid _ _) (by simp) (over_miss (by rw [k1]; simp only; omega)).1 (over_miss (by rw [k1]; simp only; omega)).2
    have q4 : ∀ W, Live w1 w1.heap.size [⟨id, peer, n + 4⟩] W → _ := fun W h => over_live (now := (n : Int) + 4) (n := 1) (l' := []) h (whole_of _ hid _ _) (by simp) (over_hit (by rw [k2]; simp only; omega)).1 (over_hit (by rw [k2]; simp only; omega)).2
    clear k1 k2
    unfold idv at q1 q2 q6 ⊢
    rw [e1] at N q1 q2 q3 q4 q6
    clear e1
    clear kn kq
    go_enter Try.func4, Try.ntmps4
    go_wp2_with first
      | (try (rw [← W1.out])
         with_reducible refine wpList_exec (exec_load_mid _ _ rfl _ _ rfl (idc id) _ (HX.out _ hT) Try.underlying26 rfl S1.out) (by first | rfl | go_simp) ?_)
      | (go_at_call 10; refine (awake_any _).mono ?_; rintro e w' ⟨rfl, g⟩; replace hT := hT.trans g (fun _ h => False.elim h))
      | (go_at_call 7; (with_reducible refine (q6 _ h6).mono ?_); rintro e w7 ⟨rfl, h7⟩; replace hT := h7.turns)
      | (go_at_call 12; (with_reducible refine (len_live h6).mono ?_); rintro e w7 ⟨rfl, rfl⟩)
      | (go_at_call 11; (with_reducible refine (q4 _ h5).mono ?_); rintro e w6 ⟨⟨ao6, c6, rfl⟩, h6⟩; replace hT := h6.turns)
      | (go_at_call 11; (with_reducible refine (q3 _ h4).mono ?_); rintro e w5 ⟨⟨ao5, c5, rfl⟩, h5⟩; replace hT := h5.turns)
      | (go_at_call 8; (with_reducible refine (q2 _ h3).mono ?_); rintro e w4 ⟨rfl, h4⟩; replace hT := h4.turns)
      | (go_at_call 8; (with_reducible refine (q1 _ h2).mono ?_); rintro e w3 ⟨rfl, h3⟩; replace hT := h3.turns)
      | (go_at_call 6; rw [← W1.out]; (with_reducible refine N.mono ?_); rintro e w2 ⟨rfl, h2⟩; have hT := h2.turns)
    go_ret
    exact ⟨rfl, fin _ hT⟩

end Go.Proofs.Ytcgnadihjbdolab.chase
