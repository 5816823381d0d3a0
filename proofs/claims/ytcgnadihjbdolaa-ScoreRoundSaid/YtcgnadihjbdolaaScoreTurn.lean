/- Package score: turning scores, all peers, the best one; and the document's. -/
import Derived.Test.YtcgnadihjbdolaaScore
namespace Go.Proofs.Ytcgnadihjbdolaa.score
open Go.RowKit
open Go.Proofs.Ytcgnadihjbdolaa.stepkit Go.Proofs.Ytcgnadihjbdolaa.row Go.Proofs.Ytcgnadihjbdolaa.mix Go.Proofs.Ytcgnadihjbdolaa.obj Go.Proofs.Ytcgnadihjbdolaa.sat

theorem turn_bad (p : Nat) (s : List Int) (self : Nat) (hs : s.length = 6) (x d : Int) (F : Nat → Prop) (w : World) (h : BoardAt p s self F w) (hb : isB self x = false) :
    Calls Try.prog 8 #[.pointer (some ⟨p, 0, none⟩), .int .i64 x, .int .i64 d] w fun e w' => e = .returned (.int .i64 1) ∧ w = w' := by
  have hi := is_any p s self hs x F w h
  rw [hb] at hi
  obtain ⟨_, _, c7⟩ := board_cells h hs
  clear h hb
  go_enter Try.func8, Try.ntmps8
  go_wp2_with first | (go_at_call 16; refine (none_no _ _ c7).mono ?_; rintro e w' ⟨rfl, rfl⟩) | (go_at_call 10; refine hi.mono ?_; rintro e w' ⟨rfl, rfl⟩)
  go_ret
  exact ⟨rfl, rfl⟩

theorem satAdd_ok {n d : Int} : -100 ≤ satAdd n d (-100) 100 ∧ satAdd n d (-100) 100 ≤ 100 := by unfold satAdd clamp; omega
theorem OkS.set {s : List Int} (h : OkS s) (k : Nat) {v : Int} (h1 : -100 ≤ v) (h2 : v ≤ 100) : OkS (s.set k v) := by
  refine ⟨by simpa using h.1, fun j => ?_⟩
  have := h.2 j
  simp only [List.getD, List.getElem?_set] at this ⊢
  split
  · split
    · exact ⟨h1, h2⟩
    · simp
  · exact this

set_option maxHeartbeats 400000 in
theorem turn_ok (p : Nat) (s : List Int) (self : Nat) (hs : OkS s) (k : Nat) (d : Int) (F : Nat → Prop) (w : World) (h : BoardAt p s self F w) (hb : isB self (k : Int) = true) (hd1 : -9223372036854775808 ≤ d) (hd2 : d ≤ 9223372036854775807) :
    Calls Try.prog 8 #[.pointer (some ⟨p, 0, none⟩), .int .i64 (k : Int), .int .i64 d] w fun e w' => e = .returned (.int .i64 0) ∧ Step F (BoardAt p (s.set k (satAdd (s.getD k 0) d (-100) 100)) self) w w' := by
  have hi := is_any p s self hs.1 k F w h
  rw [hb] at hi
  obtain ⟨hk0, hk6, _⟩ := isB_iff.1 hb
  have H := Lib.hid h
  obtain ⟨hc, _, c7⟩ := board_cells h hs.1
  have ck := hc k (by omega)
  have hfr := board_free h k
  have hsk := hs.2 k
  have HS := Lib.hid hs
  generalize s.getD k 0 = n at *
  clear h hb hc hs
  go_enter Try.func8, Try.ntmps8
  go_wp2_with first | (go_at_call 16; refine (none_no _ _ c7).mono ?_; rintro e w' ⟨rfl, rfl⟩) | (go_at_call 10; refine hi.mono ?_; rintro e w' ⟨rfl, rfl⟩)
  refine wp_region_mix [(0, true, true), (1, true, true), (2, true, true), (3, true, true), (4, true, true), (5, true, true), (6, true, true), (7, true, true), (8, true, true), (10, true, true), (11, true, true), (9, false, true), (12, true, true), (13, false, false)] (fun W => W = w.drew) (by kernel_rfl) (by kernel_rfl) (rfl) ?_
  simp only [picked, List.filterMap_cons, List.filterMap_nil, List.getElem?_toArray, List.getElem?_cons_zero, List.getElem?_cons_succ, Option.map_some]
  repeat (refine mix_free (v := ?_) rfl ?_ ?_; rotate_left; (focus (intro w' hI; subst hI; go_simp; try with_reducible rfl)); simp only [Act.put, List.setIfInBounds_toArray, List.set_cons_zero, List.set_cons_succ])
  refine mix_big rfl (fun K hK => ?_)
  go_wp2_with (go_at_call 17; refine (add_any _ _ _ _ _ (by omega) (by omega) hd1 hd2).mono ?_; rintro e w' ⟨rfl, rfl⟩)
  refine hK _ _ (fun _ => rfl) ?_
  clear hK K
  repeat (refine mix_free (v := ?_) rfl ?_ ?_; rotate_left; (focus (intro w' hI; subst hI; go_simp; try with_reducible rfl)); simp only [Act.put, List.setIfInBounds_toArray, List.set_cons_zero, List.set_cons_succ])
  refine mix_big rfl (fun K hK => ?_)
  go_wp2
  refine hK _ _ (fun h => by cases h) ?_
  clear hK K
  refine mix_nil ?_
  go_wp2
  go_ret
  exact ⟨rfl, (show Step F (BoardAt p _ self) w _ from BoxAt.set H.out (Turns.refl _ _) k _ (board_set s self k _ HS.out.1 (by omega))).still (local_board _ _ _) (Turns.refl _ _).drew⟩

end Go.Proofs.Ytcgnadihjbdolaa.score
