/- ScoreRound: all peers are told, each once, none with a greater score than one ahead. -/
import Derived.Test.YtcgnadihjbdolaaScorePlays
import Derived.Test.YtcgnadihjbdolaaScoreRem
namespace Go.Proofs.Ytcgnadihjbdolaa.score
open Go.RowKit
open Go.Proofs.Ytcgnadihjbdolaa.stepkit Go.Proofs.Ytcgnadihjbdolaa.row Go.Proofs.Ytcgnadihjbdolaa.mix Go.Proofs.Ytcgnadihjbdolaa.obj Go.Proofs.Ytcgnadihjbdolaa.sat Go.Proofs.Ytcgnadihjbdolaa.argkit

theorem turn_some (p : Nat) (s : List Int) (self : Nat) (hs : OkS s) (x d : Int) (hd1 : -9223372036854775808 ≤ d) (hd2 : d ≤ 9223372036854775807) : ∃ z s', OkS s' ∧ ∀ F w, BoardAt p s self F w →
    Calls Try.prog 8 #[.pointer (some ⟨p, 0, none⟩), .int .i64 x, .int .i64 d] w fun e w' => e = .returned (.int .i64 z) ∧ Step F (BoardAt p s' self) w w' := by
  cases hib : isB self x with
  | true =>
    obtain ⟨x0, x6, xne⟩ := isB_iff.1 hib
    obtain ⟨k, rfl⟩ : ∃ k : Nat, x = k := ⟨x.toNat, by omega⟩
    exact ⟨0, _, hs.set k satAdd_ok.1 satAdd_ok.2, fun F w h => turn_ok p s self hs k d F w h hib hd1 hd2⟩
  | false => exact ⟨1, s, hs, fun F w h => (turn_bad p s self hs.1 x d F w h hib).mono fun e w' ⟨h1, h2⟩ => ⟨h1, h2 ▸ Step.same (A := BoardAt p s self) h (Turns.refl _ _)⟩⟩

theorem score_of (p : Nat) (s : List Int) (self : Nat) (hs : s.length = 6) (k : Nat) (hb : isB self (k : Int) = true) (F : Nat → Prop) (w : World) (h : BoardAt p s self F w) :
    Calls Try.prog 14 #[.pointer (some ⟨p, 0, none⟩), .int .i64 (k : Int)] w fun e w' => e = .returned (.int .i64 (s.getD k 0)) ∧ w = w' := by
  have := score_any p s self hs (k : Int) F w h
  rw [hb] at this
  exact this

theorem unt_one {t : Int} {k : Nat} (h : unt t k = true) : (bits .and .i64 (t / 2 ^ k) 1 == 1) = false := by
  rw [and_one]
  unfold unt at h
  have := of_decide_eq_true h
  simp [this]
theorem wrap_pow (p : Nat) (h : p < 6) : IntKind.i64.wrap (2 ^ p) = 2 ^ p := by
  obtain rfl | rfl | rfl | rfl | rfl | rfl : p = 0 ∨ p = 1 ∨ p = 2 ∨ p = 3 ∨ p = 4 ∨ p = 5 := by omega
  all_goals decide

set_option maxRecDepth 20000 in
set_option maxHeartbeats 4000000 in
theorem round_any (z : Nat) (ao : Option Addr) (rows : List (List Value)) (cap : Nat) (w : World) (hz : z ≤ 255) (hcap : rows.length ≤ maxLen) (hrow : RowsAt w w.heap.size 3 ao rows) (hfit : ∀ r ∈ rows, Fits actKinds r) :
    Calls Try.prog 4 #[.int .u8 (z : Int), .slice ao rows.length cap] w fun e w' => e = .returned (.bool true) ∧ Below w.heap.size w w' := by
  unfold maxLen at hcap
  obtain ⟨self, hself⟩ : ∃ self, z % 6 = self := ⟨_, rfl⟩
  have hm6 : ((z : Int) % 6) = (self : Int) := by omega
  have hself6 : self < 6 := by omega
  obtain ⟨B, hB⟩ : ∃ B, w.heap.size = B := ⟨_, rfl⟩
  rw [hB] at hrow ⊢
  clear hself
  go_enter Try.func4, Try.ntmps4
  go_wp2_with (go_at_call 6; refine (new_ok self w hself6).mono ?_; rintro e w1 ⟨rfl, hw1⟩; obtain ⟨F, hd⟩ := board_new hw1; rw [hB] at hd ⊢; clear hw1 hB)
  have HD := Lib.hid hd
  clear hd hm6
  go_loopw [8] (fun i wr => ∃ (j : Nat) (s : List Int), j ≤ rows.length ∧ j ≤ 100 ∧ i = .int .i64 j ∧ OkS s ∧ ∃ F, Duo B w (BoardAt B s self) nothing F nobody wr) (fun i _ => 100 - (intOf i).toNat)
  case atStart => exact ⟨0, nought, by omega, by omega, rfl, nought_ok, F, HD.out⟩
  case round =>
    clear HD F
    obtain ⟨j, s, hj, hj100, rfl, hok, F, hd⟩ := hrel
    by_cases hlt : j < rows.length ∧ j < 100
    · obtain ⟨h3, h4⟩ := hlt
      obtain ⟨bb, oo, rfl, hbb, hcell⟩ := hrow (by omega)
      have hmem : rows.getD j [] ∈ rows := by rw [List.getD, List.getElem?_eq_getElem h3]; exact List.getElem_mem _
      obtain ⟨x, d, t, hr, hx, hdd, _⟩ := act_row (hfit _ hmem)
      have hdb := Go.bounds_i64 hdd
      have hc := fun (i : Nat) (hi : i < 3) => (hd.below.cell (p := ⟨bb, oo + j * 3 + i, none⟩) hbb).trans (hcell j h3 i hi)
      rw [hr] at hc
      have c0 : wr.cell? ⟨bb, oo + j * 3, none⟩ = some (.int .i64 x) := hc 0 (by omega)
      have c1 : wr.cell? ⟨bb, oo + j * 3 + 1, none⟩ = some (.int .i64 d) := hc 1 (by omega)
      obtain ⟨zz, s', hok', hturn⟩ := turn_some B s self hok x d hdb.1 hdb.2
      have hdD := hd.still (local_board _ _ _) local_nothing (Turns.refl nobody wr).drew
      clear hc hr hmem hcell hrow hx hdd hd
      go_wp2
      refine wp_region_mix [(0, true, true), (1, true, true), (2, true, true), (3, true, true), (4, true, true), (5, true, true), (6, true, true), (7, true, true), (8, true, true), (9, true, true), (10, true, true), (11, false, false)] (fun W => W = wr.drew) (by kernel_rfl) (by kernel_rfl) (rfl) ?_
      simp only [picked, List.filterMap_cons, List.filterMap_nil, List.getElem?_toArray, List.getElem?_cons_zero, List.getElem?_cons_succ, Option.map_some]
      repeat (refine mix_free (v := ?_) rfl ?_ ?_; rotate_left; (focus (intro w' hI; subst hI; go_simp; try with_reducible rfl)); simp only [Act.put, List.setIfInBounds_toArray, List.set_cons_zero, List.set_cons_succ])
      refine mix_big rfl (fun K hK => ?_)
      go_wp2_with (go_at_call 8; refine (hturn _ _ hdD.a).mono ?_; rintro e w2 ⟨rfl, hs⟩)
      obtain ⟨F2, hd2⟩ := hdD.left local_nothing hs
      refine hK _ _ (fun h => by cases h) ?_
      clear hK K
      refine mix_nil ?_
      go_wp2
      go_roundw
      case rel => exact ⟨j + 1, s', by omega, by omega, by go_num, hok', _, hd2⟩
      case measure => simp [intOf]; omega
    · have hex : rows.length ≤ j ∨ (j < rows.length ∧ 100 ≤ j) := by omega
      clear hlt hrow
      have h5 := peers_five self hself6
      have hl0 : (left self 0).length + 0 = 5 := by rw [left_zero, h5]
      rcases hex with hex | ⟨hex1, hex2⟩
      all_goals
        go_wp2
        obtain ⟨wo, rfl⟩ : ∃ wo : World, wo = wr := ⟨_, rfl⟩
        go_loopw [12, 9, 10, 11] (fun i tr c la ws => ∃ (n m : Nat) (last : Int), n ≤ 5 ∧ i = .int .i64 n ∧ tr = .int .i64 m ∧ c = .int .i64 n ∧ la = .int .i64 last ∧ m < 64 ∧ (left self m).length + n = 5 ∧ (∀ q ∈ left self m, s.getD q 0 ≤ last) ∧ Turns nobody wo ws) (fun i _ _ _ _ => 10 - (intOf i).toNat)
        case atStart => exact ⟨0, 0, 100, by omega, rfl, rfl, rfl, rfl, by omega, hl0, fun q _ => (hok.2 q).2, Turns.refl _ _⟩
        case round =>
          obtain ⟨n, m, last, hn, rfl, rfl, rfl, rfl, hm, hlen, hlast, ht⟩ := hrel
          have hd2 := hd.still (local_board _ _ _) local_nothing ht
          have hbest := fun ws h => best_any B s self hok (m : Int) F ws h
          rcases left_pick s self m with ⟨p1, p2⟩ | ⟨p, p1, p2, p3, p4, p5, p6⟩
          · simp only [p1, bestV, okV, Option.isSome] at hbest
            have hn5 : n = 5 := by rw [p2] at hlen; simpa using hlen
            subst hn5
            have HT := Lib.hid ht
            clear p1 p2 hlen hlast ht
            go_wp2_with first
              | (go_at_call 12; refine (hbest _ hd2.a).mono ?_; rintro e w3 ⟨rfl, ht3⟩; replace hd2 := hd2.still (local_board _ _ _) local_nothing ht3; clear ht3)
              | (go_at_call 7; refine (awake_any _).mono ?_; rintro e w5 ⟨rfl, hw5⟩)
            go_ret
            exact ⟨rfl, hd2.below.trans (hw5.mono hd2.size)⟩
          · simp only [p1, bestV, okV, Option.isSome] at hbest
            have hisP := fun F' W (h : BoardAt B s self F' W) => is_any B s self hok.1 (p : Int) F' W h
            simp only [p4] at hisP
            have hscP := fun F' W (h : BoardAt B s self F' W) => score_of B s self hok.1 p p4 F' W h
            have hbit := unt_one p5
            have hk64 : IntKind.u64.wrap (p : Int) = (p : Int) := by rw [IntKind.wrap_u64]; omega
            have hk65 : min p 64 = p := by omega
            have hwp := wrap_pow p p3
            have hor := or_nat m p hm p3
            obtain ⟨l1, l2⟩ := left_or self m p p2
            have hpl := hlast p p2
            have HNEW : Hid ((m ||| 2 ^ p) < 64 ∧ (left self (m ||| 2 ^ p)).length + (n + 1) = 5 ∧ (∀ q ∈ left self (m ||| 2 ^ p), s.getD q 0 ≤ s.getD p 0)) := Lib.hid ⟨or_lt m p hm p3, by omega, fun q hq => p6 q (l2 q hq)⟩
            have hn4 : n ≤ 4 := by omega
            have HT := Lib.hid ht
            obtain ⟨sp, hsp⟩ : ∃ sp, s.getD p 0 = sp := ⟨_, rfl⟩
            obtain ⟨mp, hmp⟩ : ∃ mp, m ||| 2 ^ p = mp := ⟨_, rfl⟩
            rw [hsp, hmp] at HNEW
            rw [hsp] at hpl
            simp only [hsp] at hscP
            rw [hmp] at hor
            have hgt : ¬ last < sp := by omega
            clear p1 p2 p5 p6 hlen hlast ht l1 l2 hsp hmp hpl
            go_wp2_with first
              | (go_at_call 12; refine (hbest _ hd2.a).mono ?_; rintro e w3 ⟨rfl, ht3⟩; have hd3 := hd2.still (local_board _ _ _) local_nothing ht3; have HT3 := Lib.hid (HT.out.trans ht3 (fun _ h => h.elim)); clear ht3)
              | (go_at_call 10; refine (hisP _ _ hd3.a).mono ?_; rintro e w4 ⟨rfl, rfl⟩)
              | (go_at_call 14; refine (hscP _ _ hd3.a).mono ?_; rintro e w4 ⟨rfl, rfl⟩)
            go_roundw
            case rel => exact ⟨n + 1, mp, sp, by omega, by go_num, rfl, by go_num, rfl, HNEW.out.1, HNEW.out.2.1, HNEW.out.2.2, HT3.out⟩
            case measure => simp [intOf]; omega

end Go.Proofs.Ytcgnadihjbdolaa.score
