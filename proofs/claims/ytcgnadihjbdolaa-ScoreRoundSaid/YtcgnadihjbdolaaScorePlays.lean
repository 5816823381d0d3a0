/- ScorePlays: whatever turns scores. -/
import Derived.Test.YtcgnadihjbdolaaScoreZero
import Derived.Test.YtcgnadihjbdolaaFlatKit
import Derived.Deep.CutRange
namespace Go.Proofs.Ytcgnadihjbdolaa.score
open Go.RowKit
open Go.Proofs.Ytcgnadihjbdolaa.stepkit Go.Proofs.Ytcgnadihjbdolaa.row Go.Proofs.Ytcgnadihjbdolaa.mix Go.Proofs.Ytcgnadihjbdolaa.obj Go.Proofs.Ytcgnadihjbdolaa.sat Go.Proofs.Ytcgnadihjbdolaa.argkit

/-- The document's scores. -/
def RefAt (v : Value) (s : List Int) : (Nat → Prop) → World → Prop := fun F w => Sl w 3 1 v s.length (ints s) ∧ F = blk v
theorem local_ref (v : Value) (s : List Int) : Local (RefAt v s) := by
  rintro F w ⟨h, rfl⟩
  exact ⟨Sl.lt h, fun w' _ hh => ⟨Sl.of_heap h hh, rfl⟩⟩

theorem ints_one (s : List Int) : ∀ u ∈ ints s, u.oneCell' = true := by
  intro u hu
  obtain ⟨x, _, rfl⟩ := List.mem_map.1 hu
  rfl

/-- A store into a slice. -/
theorem Sl.set1 {w : World} {e : TypeId} {g o n cap : Nat} {xs : List Value} (h : Sl w e 1 (.slice (some ⟨g, o, none⟩) n cap) n xs) (k : Nat) (hk : k < n) (u : Value) : Sl (w.setCell ⟨g, o + k, none⟩ u) e 1 (.slice (some ⟨g, o, none⟩) n cap) n (xs.set k u) := by
  obtain ⟨h1, ⟨hv, _⟩ | ⟨g', o', cap', cur, hv, hh, hn, hm, hs, ht⟩⟩ := h
  · cases hv
  · cases hv
    refine ⟨by simpa using h1, Or.inr ⟨g, o, cap, _, rfl, heap_setCell_at hh (o + k) u, hn, hm, by simpa using hs, ?_⟩⟩
    rw [← ht, Array.toList_setIfInBounds]
    apply List.ext_getElem?
    intro i
    simp only [List.getElem?_take, List.getElem?_drop, List.getElem?_set, List.length_take, List.length_drop, List.length_set]
    by_cases hi : i < n * 1
    · simp only [hi, if_true]
      by_cases hik : k = i
      · subst hik
        have : k < cur.toList.length - o := by rw [Array.length_toList]; omega
        simp only [if_true]
        rw [if_pos (by rw [Array.length_toList]; omega), if_pos (by omega)]
      · rw [if_neg (by omega), if_neg hik]
    · simp only [hi, if_false]
      by_cases hik : k = i
      · omega
      · rw [if_neg hik]

theorem ref_turn (s : List Int) (hs : OkS s) (k : Nat) (hk : k < 6) (d : Int) (v : Value) (w : World) (h : Sl w 3 1 v s.length (ints s)) (hd1 : -9223372036854775808 ≤ d) (hd2 : d ≤ 9223372036854775807) :
    Calls Try.prog 11 #[v, .int .i64 (k : Int), .int .i64 d] w fun e w' => ∃ v', e = .returned v' ∧ Step (blk v) (RefAt v' (s.set k (satAdd (s.getD k 0) d (-100) 100))) w w' := by
  have hsrc := h.src (ints_one s)
  obtain ⟨g, o, cap, rfl, _, _, hcell⟩ := ints_get h (by rw [hs.1]; omega)
  have ck := hcell k (by rw [hs.1]; omega)
  have hb := hs.2 k
  have hsl := hs.1
  have HL := Lib.hid hs.1
  have hlt := h.lt g rfl
  have HS := Lib.hid h
  obtain ⟨i0, hi, hz0, hz1, hz2⟩ := info_parts infoInt
  obtain ⟨c, hc⟩ : ∃ c, satAdd (s.getD k 0) d (-100) 100 = c := ⟨_, rfl⟩
  rw [hc]
  have HC := Lib.hid hc
  rw [hsl] at hsrc
  have HSRC := Lib.hid hsrc
  rw [hsl]
  generalize hn : s.getD k 0 = n at *
  clear h hcell hsrc hc hn
  go_enter Try.func11, Try.ntmps11
  go_wp2_with (at_builtin; refine wpList_append_sl rfl _ _ 28 rfl Try.underlying28 hi hz0 hz1 hz2 rfl (by decide) rfl rfl (Sl.empty (heap_alloc_new _ _) (Nat.zero_le _)) (HSRC.out.alloc _) (by unfold maxLen; omega) (by omega) ?_)
  intro v2 w2 h2 _ hn2 hc2
  try simp only [Nat.zero_add, List.nil_append] at h2
  have ht2 : Turns nobody w w2 := ((Turns.refl _ _).alloc _).trans (hc2 _ rfl).1 (fun _ h => h.elim)
  have hf2 : ∀ k, blk v2 k → w.heap.size ≤ k := fun k hk => by
    rcases hn2 k hk with h | h
    · simp only [blk, Value.ownBlock, Option.some.injEq] at h; omega
    · rw [World.size_alloc] at h; omega
  have hI := ints_get (w := w2) (v := v2) (s := s) (by rw [hsl]; exact h2) (by omega)
  rw [hsl] at hI
  obtain ⟨g2, o2, cap2, rfl, _, hm2, hcell2⟩ := hI
  have c2 := hcell2 k hk
  have ck2 := (ht2.cell (p := ⟨g, o + k, none⟩) hlt (fun h => h)).trans ck
  have fk2 : w2.frozen? ⟨g2, o2 + k, none⟩ = false := by
    obtain ⟨_, ⟨hv, _⟩ | ⟨g', o', cap', cur, hv, hh, _⟩⟩ := h2
    · cases hv
    · cases hv; simp [World.frozen?, hh]
  have hfin : Step (blk (.slice (some ⟨g, o, none⟩) 6 cap)) (RefAt (.slice (some ⟨g2, o2, none⟩) 6 cap2) (s.set k c)) w (w2.setCell ⟨g2, o2 + k, none⟩ (.int .i64 c)) := by
    have hst := Sl.set1 h2 k hk (.int .i64 c)
    refine ⟨_, ⟨?_, rfl⟩, (ht2.mono (fun _ h => h.elim)).setCell g2 _ _ (Or.inr (hf2 g2 rfl)), fun i hi => Or.inr (hf2 i hi)⟩
    rw [List.length_set]
    have e : ints (s.set k c) = (ints s).set k (.int .i64 c) := by simp [ints, List.map_set]
    rw [e, HL.out]
    exact hst
  have HF := Lib.hid hfin
  clear hfin h2 hn2 hc2 ht2 hf2 hcell2
  go_wp2_with (go_at_call 18; refine (ref_add_any _ _ _ _ _ (by omega) (by omega) hd1 hd2 (by omega) (by omega) (by omega) (by omega)).mono ?_; rw [HC.out]; rintro e w' ⟨rfl, rfl⟩)
  go_ret
  exact ⟨_, rfl, HF.out⟩

def actKinds : List TypeDesc := [.int .i64, .int .i64, .int .i64]
theorem act_row {r : List Value} (h : Fits actKinds r) : ∃ (a b c : Int), r = [.int .i64 a, .int .i64 b, .int .i64 c] ∧ (Lit.int .i64 a).wf = true ∧ (Lit.int .i64 b).wf = true ∧ (Lit.int .i64 c).wf = true := by
  obtain ⟨_, r1, rfl, ⟨a, rfl, ha⟩, h1⟩ := h.cons
  obtain ⟨_, r2, rfl, ⟨b, rfl, hb⟩, h2⟩ := h1.cons
  obtain ⟨_, r3, rfl, ⟨c, rfl, hc⟩, h3⟩ := h2.cons
  obtain rfl := h3.nil
  exact ⟨a, b, c, rfl, ha, hb, hc⟩

theorem peers_five (self : Nat) (h : self < 6) : (peersN self 6).length = 5 := by
  obtain rfl | rfl | rfl | rfl | rfl | rfl : self = 0 ∨ self = 1 ∨ self = 2 ∨ self = 3 ∨ self = 4 ∨ self = 5 := by omega
  all_goals decide +kernel

/-- At a round's head: one's own score is nought. -/
def Ok0 (s : List Int) (self : Nat) : Prop := OkS s ∧ s.getD self 0 = 0
theorem Ok0.turn {s : List Int} {self k : Nat} (h : Ok0 s self) (hne : k ≠ self) (d : Int) : Ok0 (s.set k (satAdd (s.getD k 0) d (-100) 100)) self := by
  refine ⟨h.1.set k satAdd_ok.1 satAdd_ok.2, ?_⟩
  have := h.2
  simp only [List.getD, List.getElem?_set] at this ⊢
  rw [if_neg hne]
  exact this
theorem Ok0.score {s : List Int} {self : Nat} (h : Ok0 s self) (k : Nat) (hk : k < 6) : (bif isB self (k : Int) then s.getD ((k : Int)).toNat 0 else 0) = s.getD k 0 := by
  cases hb : isB self (k : Int) with
  | true => simp
  | false =>
    have := isB_no.1 hb
    have hks : k = self := by omega
    rw [cond_false, hks, h.2]

set_option maxRecDepth 20000 in
set_option maxHeartbeats 4000000 in
theorem plays_any (me : Int) (ao : Option Addr) (rows : List (List Value)) (cap : Nat) (w : World) (hcap : rows.length ≤ maxLen) (hrow : RowsAt w w.heap.size 3 ao rows) (hfit : ∀ r ∈ rows, Fits actKinds r) :
    Calls Try.prog 3 #[.int .i64 me, .slice ao rows.length cap] w fun e w' => e = .returned (.bool true) ∧ Below w.heap.size w w' := by
  unfold maxLen at hcap
  by_cases hme : me < 0 ∨ 6 ≤ me
  · have hnew := new_bad me w hme
    rcases hme with h | h
    · have h1 : decide (0 ≤ me) = false := by simpa using h
      clear hrow
      go_enter Try.func3, Try.ntmps3
      go_wp2_with first
        | (go_at_call 6; refine hnew.mono ?_; rintro e w1 ⟨rfl, rfl⟩)
        | (go_at_call 7; refine (awake_any _).mono ?_; rintro e w4 ⟨rfl, hw4⟩)
      go_ret
      exact ⟨rfl, hw4⟩
    · have h1 : decide (0 ≤ me) = true := by simp; omega
      have h2 : decide (me < 6) = false := by simpa using h
      clear hrow
      go_enter Try.func3, Try.ntmps3
      go_wp2_with first
        | (go_at_call 6; refine hnew.mono ?_; rintro e w1 ⟨rfl, rfl⟩)
        | (go_at_call 7; refine (awake_any _).mono ?_; rintro e w4 ⟨rfl, hw4⟩)
      go_ret
      exact ⟨rfl, hw4⟩
  · obtain ⟨self, rfl⟩ : ∃ n : Nat, me = n := ⟨me.toNat, by omega⟩
    have hself : self < 6 := by omega
    have h1 : decide (0 ≤ (self : Int)) = true := by simp
    have h2 : decide ((self : Int) < 6) = true := by simp; omega
    obtain ⟨B, hB⟩ : ∃ B, w.heap.size = B := ⟨_, rfl⟩
    rw [hB] at hrow ⊢
    clear hme
    have hmk : ∀ w, (Instr.makeSlice 28 (.int .i64 6) (.int .i64 6)).run Try.prog w = .ok (.slice (some ⟨w.heap.size, 0, none⟩) 6 6) (w.alloc (.cells #[.int .i64 0, .int .i64 0, .int .i64 0, .int .i64 0, .int .i64 0, .int .i64 0] 3)) := fun _ => by kernel_rfl
    go_enter Try.func3, Try.ntmps3
    go_wp2_with (go_at_call 6; refine (new_ok self w hself).mono ?_; rintro e w1 ⟨rfl, hw1⟩; obtain ⟨F, hd⟩ := board_new hw1; rw [hB] at hd ⊢; clear hw1 hB)
    have hstart : ∃ F G, Duo B w (BoardAt B nought self) (RefAt (.slice (some ⟨w1.heap.size, 0, none⟩) 6 6) nought) F G (w1.alloc (.cells #[.int .i64 0, .int .i64 0, .int .i64 0, .int .i64 0, .int .i64 0, .int .i64 0] 3)) := by
      refine ⟨F, hd.right (local_board _ _ _) ⟨_, ⟨⟨rfl, Or.inr ⟨w1.heap.size, 0, 6, _, rfl, heap_alloc_new _ _, by simp [nought], by unfold maxLen; omega, by simp, rfl⟩⟩, rfl⟩, (Turns.refl _ _).alloc _, fun i hi => ?_⟩⟩
      simp only [blk, Value.ownBlock, Option.some.injEq] at hi
      exact Or.inr (by omega)
    have HST := Lib.hid hstart
    clear hstart hd hmk
    have hok0 : Ok0 nought self := ⟨nought_ok, by
      obtain rfl | rfl | rfl | rfl | rfl | rfl : self = 0 ∨ self = 1 ∨ self = 2 ∨ self = 3 ∨ self = 4 ∨ self = 5 := by omega
      all_goals rfl⟩
    go_loopw [9, 8] (fun i v wr => ∃ (j : Nat) (s : List Int) (v' : Value), j ≤ rows.length ∧ j ≤ 100 ∧ i = .int .i64 j ∧ Ok0 s self ∧ v' = v ∧ ∃ F G, Duo B w (BoardAt B s self) (RefAt v' s) F G wr) (fun i _ _ => 100 - (intOf i).toNat)
    case atStart => exact ⟨0, nought, _, by omega, by omega, rfl, hok0, rfl, HST.out⟩
    case round =>
      clear HST hok0 F
      obtain ⟨j, s, v, hj, hj100, rfl, hok, rfl, F, G, hd⟩ := hrel
      by_cases hlt : j < rows.length ∧ j < 100
      · obtain ⟨h3, h4⟩ := hlt
        obtain ⟨bb, oo, rfl, hbb, hcell⟩ := hrow (by omega)
        have hmem : rows.getD j [] ∈ rows := by rw [List.getD, List.getElem?_eq_getElem h3]; exact List.getElem_mem _
        obtain ⟨x, d, t, hr, hx, hdd, _⟩ := act_row (hfit _ hmem)
        have hdb := Go.bounds_i64 hdd
        have hc := fun (i : Nat) (hi : i < 3) => (hd.below.cell (p := ⟨bb, oo + j * 3 + i, none⟩) hbb).trans (hcell j h3 i hi)
        rw [hr] at hc
        have c0 : wr.cell? ⟨bb, oo + j * 3, none⟩ = some (.int .i64 x) := hc 0 (by omega)
        have c1 : wr.cell? ⟨bb, oo + j * 3 + 1, none⟩ = some (.int .i64 d) := hc 1 (by omega)
        have c2 : wr.cell? ⟨bb, oo + j * 3 + 2, none⟩ = some (.int .i64 t) := hc 2 (by omega)
        have hbw : bb < wr.heap.size := by have := hd.size; omega
        clear hc hr hmem hcell hrow hx hdd
        have HACT : Hid (∀ W : World, W.heap[wr.heap.size]? = some (.cells #[.int .i64 x, .int .i64 d, .int .i64 t] 30 (0, 0)) → W.cell? ⟨wr.heap.size, 0, none⟩ = some (.int .i64 x) ∧ W.cell? ⟨wr.heap.size, 1, none⟩ = some (.int .i64 d) ∧ W.cell? ⟨wr.heap.size, 2, none⟩ = some (.int .i64 t)) := Lib.hid (fun W h => by simp [World.cell?, h])
        have hdA := hd.still (local_board _ _ _) (local_ref _ _) ((Turns.refl nobody _).alloc (.cells #[.int .i64 x, .int .i64 d, .int .i64 t] 30))
        have hactA := heap_alloc_new wr (.cells #[.int .i64 x, .int .i64 d, .int .i64 t] 30)
        have hFA : ¬ F wr.heap.size := fun h => by have := ((local_board _ _ _) F wr hd.a).1 _ h; omega
        have hGA : ¬ G wr.heap.size := fun h => by have := ((local_ref _ _) G wr hd.c).1 _ h; omega
        obtain rfl : G = blk v := hd.c.2
        clear hd
        cases hib : isB self x with
        | true =>
          obtain ⟨x0, x6, xne⟩ := isB_iff.1 hib
          obtain ⟨k, rfl⟩ : ∃ k : Nat, x = k := ⟨x.toNat, by omega⟩
          have hturn := turn_ok B s self hok.1 k d F _ hdA.a hib hdb.1 hdb.2
          have hok' := hok.turn (k := k) (by omega) d
          have hrt := fun W h => ref_turn s hok.1 k (by omega) d v W h hdb.1 hdb.2
          have his := fun W => ref_is self (k : Int) W
          simp only [hib] at his
          obtain ⟨s', hs'⟩ : ∃ s', s.set k (satAdd (s.getD k 0) d (-100) 100) = s' := ⟨_, rfl⟩
          rw [hs'] at hturn hok'
          simp only [hs'] at hrt
          have hisB := fun F' W (h : BoardAt B s' self F' W) => is_any B s' self hok'.1.1 (k : Int) F' W h
          simp only [hib] at hisB
          clear hs' hib x0 x6 xne
          go_upto_region 18 with first
            | (go_at_call 8; refine hturn.mono ?_; rintro e w2 ⟨rfl, hs⟩; obtain ⟨F2, hd2⟩ := hdA.left (local_ref _ _) hs; have hact2 := heap_newer hactA hs.turned hFA; obtain ⟨y0, y1, y2⟩ := HACT.out _ hact2; clear hs hdA hactA c0 c1 c2)
            | (go_at_call 9; refine (his _).mono ?_; rintro e w3 ⟨rfl, rfl⟩)
            | (go_at_call 10; refine (hisB _ _ hd2.a).mono ?_; rintro e w3 ⟨rfl, rfl⟩)
            | (go_at_call 11; refine (hrt _ hd2.c.1).mono ?_; rintro e w4 ⟨v', rfl, hs⟩; obtain ⟨G4, hd⟩ := hd2.right (local_board _ _ _) hs; have hact := heap_newer hact2 hs.turned hGA; clear hs hd2 hact2 y0 y1 y2 hturn hrt his hisB; obtain ⟨y0, y1, y2⟩ := HACT.out _ hact)
          clear y0 y1 y2
          obtain ⟨d0, d1, d2⟩ := HACT.out _ hact
          have hbest := best_any B s' self hok'.1 t _ _ hd.a
          have hrbest := fun W h => ref_best s' self hok'.1 t v' W h
          cases hbo : pick s' t (peersN self 6) with
          | none =>
            simp only [hbo, bestV, okV, Option.isSome] at hbest hrbest
            clear hbo
            go_wp2_with first
              | (go_at_call 12; refine hbest.mono ?_; rintro e w7 ⟨rfl, ht7⟩; have hd7 := hd.still (local_board _ _ _) (local_ref _ _) ht7; have hact7 := heap_newer hact ht7 (fun h => h); obtain ⟨x0, x1, x2⟩ := HACT.out _ hact7)
              | (go_at_call 13; refine (hrbest _ hd7.c.1).mono ?_; rintro e w8 ⟨rfl, hw8⟩; have hd8 := hd7.still (local_board _ _ _) (local_ref _ _) (Turns.drawn hw8))
            clear hbest hrbest hact hd hd7 hact7 x0 x1 x2 d0 d1 d2 ht7 hw8
            have HD8 := Lib.hid hd8
            clear hd8
            go_loopw [17] (fun i ws => ∃ q : Nat, q ≤ 6 ∧ i = .int .i64 q ∧ ∃ n, ws = w8.drewN n) (fun i _ => 6 - (intOf i).toNat)
            case atStart => exact ⟨0, by omega, rfl, 0, rfl⟩
            case round =>
              obtain ⟨q, hq, rfl, nq0, rfl⟩ := hrel
              have hd9 := HD8.out.still (local_board _ _ _) (local_ref _ _) (Turns.drawn ⟨nq0, rfl⟩)
              by_cases hq6 : q < 6
              · have hsc := fun n => score_any B s' self hok'.1.1 (q : Int) _ _ ((local_board _ _ _).drawn HD8.out.a (w' := w8.drewN n) ⟨n, rfl⟩)
                simp only [hok'.score q hq6] at hsc
                obtain ⟨xg, xo, xc, hxv, _, _, hxc⟩ := ints_get HD8.out.c.1 (by rw [hok'.1.1]; omega)
                rw [hok'.1.1] at hxv hxc
                subst hxv
                have cx := hxc q hq6
                have hrange := hok'.1.2 q
                generalize s'.getD q 0 = sq at *
                have hq7 : (q : Int) < 6 := by omega
                have hr1 : ¬ 100 < sq := by omega
                have hr2 : ¬ sq < -100 := by omega
                clear hd9 hxc
                go_wp2
                go_quiet ((go_at_call 14; exact (hsc _).mono fun _ _ h => ⟨h.1, _, h.2.symm⟩))
                go_wp2
                exact ⟨⟨q + 1, by omega, by go_num, _, rfl⟩, by simp [intOf]; omega⟩
              · go_wp2
                go_roundw
                case rel => exact ⟨j + 1, s', v', by omega, by omega, by go_num, hok', rfl, _, _, hd9⟩
                case measure => simp [intOf]; omega
          | some r =>
            simp only [hbo, bestV, okV, Option.isSome] at hbest hrbest
            clear hbo
            go_wp2_with first
              | (go_at_call 12; refine hbest.mono ?_; rintro e w7 ⟨rfl, ht7⟩; have hd7 := hd.still (local_board _ _ _) (local_ref _ _) ht7; have hact7 := heap_newer hact ht7 (fun h => h); obtain ⟨x0, x1, x2⟩ := HACT.out _ hact7)
              | (go_at_call 13; refine (hrbest _ hd7.c.1).mono ?_; rintro e w8 ⟨rfl, hw8⟩; have hd8 := hd7.still (local_board _ _ _) (local_ref _ _) (Turns.drawn hw8))
            clear hbest hrbest hact hd hd7 hact7 x0 x1 x2 d0 d1 d2 ht7 hw8
            have HD8 := Lib.hid hd8
            clear hd8
            go_loopw [17] (fun i ws => ∃ q : Nat, q ≤ 6 ∧ i = .int .i64 q ∧ ∃ n, ws = w8.drewN n) (fun i _ => 6 - (intOf i).toNat)
            case atStart => exact ⟨0, by omega, rfl, 0, rfl⟩
            case round =>
              obtain ⟨q, hq, rfl, nq0, rfl⟩ := hrel
              have hd9 := HD8.out.still (local_board _ _ _) (local_ref _ _) (Turns.drawn ⟨nq0, rfl⟩)
              by_cases hq6 : q < 6
              · have hsc := fun n => score_any B s' self hok'.1.1 (q : Int) _ _ ((local_board _ _ _).drawn HD8.out.a (w' := w8.drewN n) ⟨n, rfl⟩)
                simp only [hok'.score q hq6] at hsc
                obtain ⟨xg, xo, xc, hxv, _, _, hxc⟩ := ints_get HD8.out.c.1 (by rw [hok'.1.1]; omega)
                rw [hok'.1.1] at hxv hxc
                subst hxv
                have cx := hxc q hq6
                have hrange := hok'.1.2 q
                generalize s'.getD q 0 = sq at *
                have hq7 : (q : Int) < 6 := by omega
                have hr1 : ¬ 100 < sq := by omega
                have hr2 : ¬ sq < -100 := by omega
                clear hd9 hxc
                go_wp2
                go_quiet ((go_at_call 14; exact (hsc _).mono fun _ _ h => ⟨h.1, _, h.2.symm⟩))
                go_wp2
                exact ⟨⟨q + 1, by omega, by go_num, _, rfl⟩, by simp [intOf]; omega⟩
              · go_wp2
                go_roundw
                case rel => exact ⟨j + 1, s', v', by omega, by omega, by go_num, hok', rfl, _, _, hd9⟩
                case measure => simp [intOf]; omega
        | false =>
          have hturn := turn_bad B s self hok.1.1 x d F _ hdA.a hib
          have his := fun W => ref_is self x W
          simp only [hib] at his
          have hisB := is_any B s self hok.1.1 x F _ hdA.a
          rw [hib] at hisB
          obtain ⟨y0, y1, y2⟩ := HACT.out _ hactA
          go_upto_region 18 with first
            | (go_at_call 8; refine hturn.mono ?_; rintro e w2 ⟨rfl, rfl⟩)
            | (go_at_call 9; refine (his _).mono ?_; rintro e w3 ⟨rfl, rfl⟩)
            | (go_at_call 10; refine hisB.mono ?_; rintro e w3 ⟨rfl, rfl⟩)
          clear hturn his hisB hib c0 c1 c2 y0 y1 y2
          obtain ⟨s', rfl⟩ : ∃ s', s' = s := ⟨_, rfl⟩
          obtain ⟨v', rfl⟩ : ∃ v', v' = v := ⟨_, rfl⟩
          have hok' := hok
          have hd := hdA
          have hact := hactA
          clear hdA hactA hok
          obtain ⟨d0, d1, d2⟩ := HACT.out _ hact
          have hbest := best_any B s' self hok'.1 t _ _ hd.a
          have hrbest := fun W h => ref_best s' self hok'.1 t v' W h
          cases hbo : pick s' t (peersN self 6) with
          | none =>
            simp only [hbo, bestV, okV, Option.isSome] at hbest hrbest
            clear hbo
            go_wp2_with first
              | (go_at_call 12; refine hbest.mono ?_; rintro e w7 ⟨rfl, ht7⟩; have hd7 := hd.still (local_board _ _ _) (local_ref _ _) ht7; have hact7 := heap_newer hact ht7 (fun h => h); obtain ⟨x0, x1, x2⟩ := HACT.out _ hact7)
              | (go_at_call 13; refine (hrbest _ hd7.c.1).mono ?_; rintro e w8 ⟨rfl, hw8⟩; have hd8 := hd7.still (local_board _ _ _) (local_ref _ _) (Turns.drawn hw8))
            clear hbest hrbest hact hd hd7 hact7 x0 x1 x2 d0 d1 d2 ht7 hw8
            have HD8 := Lib.hid hd8
            clear hd8
            go_loopw [17] (fun i ws => ∃ q : Nat, q ≤ 6 ∧ i = .int .i64 q ∧ ∃ n, ws = w8.drewN n) (fun i _ => 6 - (intOf i).toNat)
            case atStart => exact ⟨0, by omega, rfl, 0, rfl⟩
            case round =>
              obtain ⟨q, hq, rfl, nq0, rfl⟩ := hrel
              have hd9 := HD8.out.still (local_board _ _ _) (local_ref _ _) (Turns.drawn ⟨nq0, rfl⟩)
              by_cases hq6 : q < 6
              · have hsc := fun n => score_any B s' self hok'.1.1 (q : Int) _ _ ((local_board _ _ _).drawn HD8.out.a (w' := w8.drewN n) ⟨n, rfl⟩)
                simp only [hok'.score q hq6] at hsc
                obtain ⟨xg, xo, xc, hxv, _, _, hxc⟩ := ints_get HD8.out.c.1 (by rw [hok'.1.1]; omega)
                rw [hok'.1.1] at hxv hxc
                subst hxv
                have cx := hxc q hq6
                have hrange := hok'.1.2 q
                generalize s'.getD q 0 = sq at *
                have hq7 : (q : Int) < 6 := by omega
                have hr1 : ¬ 100 < sq := by omega
                have hr2 : ¬ sq < -100 := by omega
                clear hd9 hxc
                go_wp2
                go_quiet ((go_at_call 14; exact (hsc _).mono fun _ _ h => ⟨h.1, _, h.2.symm⟩))
                go_wp2
                exact ⟨⟨q + 1, by omega, by go_num, _, rfl⟩, by simp [intOf]; omega⟩
              · go_wp2
                go_roundw
                case rel => exact ⟨j + 1, s', v', by omega, by omega, by go_num, hok', rfl, _, _, hd9⟩
                case measure => simp [intOf]; omega
          | some r =>
            simp only [hbo, bestV, okV, Option.isSome] at hbest hrbest
            clear hbo
            go_wp2_with first
              | (go_at_call 12; refine hbest.mono ?_; rintro e w7 ⟨rfl, ht7⟩; have hd7 := hd.still (local_board _ _ _) (local_ref _ _) ht7; have hact7 := heap_newer hact ht7 (fun h => h); obtain ⟨x0, x1, x2⟩ := HACT.out _ hact7)
              | (go_at_call 13; refine (hrbest _ hd7.c.1).mono ?_; rintro e w8 ⟨rfl, hw8⟩; have hd8 := hd7.still (local_board _ _ _) (local_ref _ _) (Turns.drawn hw8))
            clear hbest hrbest hact hd hd7 hact7 x0 x1 x2 d0 d1 d2 ht7 hw8
            have HD8 := Lib.hid hd8
            clear hd8
            go_loopw [17] (fun i ws => ∃ q : Nat, q ≤ 6 ∧ i = .int .i64 q ∧ ∃ n, ws = w8.drewN n) (fun i _ => 6 - (intOf i).toNat)
            case atStart => exact ⟨0, by omega, rfl, 0, rfl⟩
            case round =>
              obtain ⟨q, hq, rfl, nq0, rfl⟩ := hrel
              have hd9 := HD8.out.still (local_board _ _ _) (local_ref _ _) (Turns.drawn ⟨nq0, rfl⟩)
              by_cases hq6 : q < 6
              · have hsc := fun n => score_any B s' self hok'.1.1 (q : Int) _ _ ((local_board _ _ _).drawn HD8.out.a (w' := w8.drewN n) ⟨n, rfl⟩)
                simp only [hok'.score q hq6] at hsc
                obtain ⟨xg, xo, xc, hxv, _, _, hxc⟩ := ints_get HD8.out.c.1 (by rw [hok'.1.1]; omega)
                rw [hok'.1.1] at hxv hxc
                subst hxv
                have cx := hxc q hq6
                have hrange := hok'.1.2 q
                generalize s'.getD q 0 = sq at *
                have hq7 : (q : Int) < 6 := by omega
                have hr1 : ¬ 100 < sq := by omega
                have hr2 : ¬ sq < -100 := by omega
                clear hd9 hxc
                go_wp2
                go_quiet ((go_at_call 14; exact (hsc _).mono fun _ _ h => ⟨h.1, _, h.2.symm⟩))
                go_wp2
                exact ⟨⟨q + 1, by omega, by go_num, _, rfl⟩, by simp [intOf]; omega⟩
              · go_wp2
                go_roundw
                case rel => exact ⟨j + 1, s', v', by omega, by omega, by go_num, hok', rfl, _, _, hd9⟩
                case measure => simp [intOf]; omega
      · have hex : rows.length ≤ j ∨ (j < rows.length ∧ 100 ≤ j) := by omega
        clear hlt
        have hpeers := peers_any B s self hok.1.1 F wr hd.a
        rw [peers_five self hself] at hpeers
        rcases hex with hex | ⟨hex1, hex2⟩
        all_goals
          go_wp2_with first
            | (go_at_call 15; refine hpeers.mono ?_; rintro e w3 ⟨vp, rfl, hsl3, ht3, _⟩; obtain ⟨_, _, rfl, _⟩ := hsl3.shape)
            | (go_at_call 7; refine (awake_any _).mono ?_; rintro e w4 ⟨rfl, hw4⟩)
          go_ret
          exact ⟨rfl, (hd.below.trans (ht3.below hd.size (fun _ h => h.elim))).trans (hw4.mono (Nat.le_trans hd.size ht3.size))⟩

end Go.Proofs.Ytcgnadihjbdolaa.score
