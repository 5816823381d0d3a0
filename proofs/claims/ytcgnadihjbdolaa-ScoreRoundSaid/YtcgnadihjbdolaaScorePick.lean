/- Package score: the best one; the document's. -/
import Derived.Test.YtcgnadihjbdolaaScoreBest
namespace Go.Proofs.Ytcgnadihjbdolaa.score
open Go.RowKit
open Go.Proofs.Ytcgnadihjbdolaa.stepkit Go.Proofs.Ytcgnadihjbdolaa.row Go.Proofs.Ytcgnadihjbdolaa.mix Go.Proofs.Ytcgnadihjbdolaa.obj Go.Proofs.Ytcgnadihjbdolaa.sat

theorem nats_get {w : World} {v : Value} {l : List Nat} (h : Sl w 3 1 v l.length (nats l)) (j : Nat) (hj : j < l.length) : ∃ g o cap, v = .slice (some ⟨g, o, none⟩) l.length cap ∧ w.cell? ⟨g, o + j, none⟩ = some (.int .i64 ((l.getD j 0 : Nat) : Int)) := by
  obtain ⟨g, o, cap, rfl, _⟩ := h.some_of_pos (by omega)
  refine ⟨g, o, cap, rfl, ?_⟩
  rw [h.cell j (by simpa [nats] using hj)]
  simp [nats, List.getD, hj]

def bestV (b : Option Nat) : Value := match b with | none => .int .i64 0 | some p => .int .i64 (p : Int)
def okV (b : Option Nat) : Value := .bool b.isSome

set_option maxRecDepth 10000 in
set_option maxHeartbeats 2000000 in
theorem best_any (p : Nat) (s : List Int) (self : Nat) (hs : OkS s) (t : Int) (F : Nat → Prop) (w : World) (h : BoardAt p s self F w) :
    Calls Try.prog 12 #[.pointer (some ⟨p, 0, none⟩), .int .i64 t] w fun e w' => e = .returned (.tuple #[bestV (pick s t (peersN self 6)), okV (pick s t (peersN self 6))]) ∧ Turns nobody w w' := by
  have hp := peers_any p s self hs.1 F w h
  have H := Lib.hid h
  have hplen := peersN_len self 6
  obtain ⟨ps, hps⟩ : ∃ ps, ps = peersN self 6 := ⟨_, rfl⟩
  have HPS := Lib.hid hps
  rw [← hps] at hp hplen ⊢
  clear h hps
  go_enter Try.func12, Try.ntmps12
  go_wp2_with (go_at_call 15; refine hp.mono ?_; rintro e w1 ⟨v, rfl, hsl, ht1, hf1⟩; obtain ⟨va, vc, rfl, _⟩ := hsl.shape)
  have H1 := Lib.hid ((local_board p s self).keep H.out ht1 (fun _ _ h => h))
  have HSL := Lib.hid hsl
  have HT1 := Lib.hid ht1
  clear hsl ht1 hf1 hp
  go_loopw [13, 6, 7] (fun i b o wr => ∃ j : Nat, j ≤ ps.length ∧ i = .int .i64 j ∧ b = bestV (pick s t (ps.take j)) ∧ o = okV (pick s t (ps.take j)) ∧ ∃ n, wr = w1.drewN n) (fun i _ _ _ => ps.length - (intOf i).toNat)
  case atStart => exact ⟨0, Nat.zero_le _, rfl, rfl, rfl, 0, rfl⟩
  case round =>
    obtain ⟨j, hj, rfl, rfl, rfl, nn, rfl⟩ := hrel
    by_cases hlt : j < ps.length
    · obtain ⟨g, o, cap, hv, hcell⟩ := nats_get HSL.out j hlt
      cases hv
      obtain ⟨q, hq⟩ : ∃ q, ps.getD j 0 = q := ⟨_, rfl⟩
      have hqm : q ∈ ps := by rw [← hq, List.getD, List.getElem?_eq_getElem hlt]; exact List.getElem_mem _
      have hq6 : q < 6 := by rw [HPS.out] at hqm; exact (peersN_mem hqm).1
      have htk : ps.take (j + 1) = ps.take j ++ [q] := by
        rw [List.take_succ_eq_append_getElem hlt, ← hq]
        simp [List.getD, hlt]
      have hpk := pick_snoc s t (ps.take j) q
      rw [← htk] at hpk
      have hmem := fun r hr => (peersN_mem (self := self) (k := 6) (q := r) (by rw [← HPS.out]; exact List.mem_of_mem_take (pick_mem s t (ps.take j) r hr))).1
      rw [hq] at hcell
      have hbit := and_pow t q hq6
      cases hu : unt t q with
      | false =>
        rw [hu] at hpk hbit
        simp only [Bool.false_and, cond_false] at hpk
        have HPK := Lib.hid hpk
        clear hpk hu htk hq hqm hmem
        generalize hb0 : pick s t (ps.take j) = b0 at *
        clear hb0
        cases b0 with
        | none =>
          simp only [bestV, okV, Option.isSome]
          go_wp2
          go_quiet ((go_at_call 19; exact (bit_any q hq6 _).mono fun _ _ h => ⟨h.1, _, h.2.symm⟩))
          go_wp2
          exact ⟨⟨j + 1, by omega, by go_num, (by rw [HPK.out]; try rfl), (by rw [HPK.out]; try rfl), _, rfl⟩, by simp [intOf]; omega⟩
        | some r =>
          simp only [bestV, okV, Option.isSome]
          go_wp2
          go_quiet ((go_at_call 19; exact (bit_any q hq6 _).mono fun _ _ h => ⟨h.1, _, h.2.symm⟩))
          go_wp2
          exact ⟨⟨j + 1, by omega, by go_num, (by rw [HPK.out]; try rfl), (by rw [HPK.out]; try rfl), _, rfl⟩, by simp [intOf]; omega⟩
      | true =>
        rw [hu] at hpk hbit
        simp only [Bool.true_and] at hpk
        obtain ⟨hc, _, _⟩ := board_cells (show BoardAt p s self F w1 from H1.out) hs.1
        have cq := hc q hq6
        generalize hb0 : pick s t (ps.take j) = b0 at *
        cases b0 with
        | none =>
          simp only [better, cond_true] at hpk
          have HPK := Lib.hid hpk
          clear hpk hu htk hq hqm hmem hb0 hc
          simp only [bestV, okV, Option.isSome]
          go_wp2
          go_quiet ((go_at_call 19; exact (bit_any q hq6 _).mono fun _ _ h => ⟨h.1, _, h.2.symm⟩))
          go_wp2
          exact ⟨⟨j + 1, by omega, by go_num, (by rw [HPK.out]; try rfl), (by rw [HPK.out]; try rfl), _, rfl⟩, by simp [intOf]; omega⟩
        | some r =>
          have hr6 := hmem r rfl
          have cr := hc r hr6
          simp only [better] at hpk
          obtain ⟨vr, hvr⟩ : ∃ vr, s.getD r 0 = vr := ⟨_, rfl⟩
          obtain ⟨vq, hvq⟩ : ∃ vq, s.getD q 0 = vq := ⟨_, rfl⟩
          rw [hvr, hvq] at hpk
          rw [hvr] at cr
          rw [hvq] at cq
          clear hvr hvq
          cases hbt : decide (vr < vq) with
          | true =>
            simp only [hbt, cond_true] at hpk
            have HPK := Lib.hid hpk
            clear hpk hu htk hq hqm hmem hb0 hc
            simp only [bestV, okV, Option.isSome]
            go_wp2
            go_quiet ((go_at_call 19; exact (bit_any q hq6 _).mono fun _ _ h => ⟨h.1, _, h.2.symm⟩))
            go_wp2
            exact ⟨⟨j + 1, by omega, by go_num, (by rw [HPK.out]; try rfl), (by rw [HPK.out]; try rfl), _, rfl⟩, by simp [intOf]; omega⟩
          | false =>
            simp only [hbt, cond_false] at hpk
            have HPK := Lib.hid hpk
            clear hpk hu htk hq hqm hmem hb0 hc
            simp only [bestV, okV, Option.isSome]
            go_wp2
            go_quiet ((go_at_call 19; exact (bit_any q hq6 _).mono fun _ _ h => ⟨h.1, _, h.2.symm⟩))
            go_wp2
            exact ⟨⟨j + 1, by omega, by go_num, (by rw [HPK.out]; try rfl), (by rw [HPK.out]; try rfl), _, rfl⟩, by simp [intOf]; omega⟩
    · obtain rfl : j = ps.length := by omega
      rw [List.take_length]
      go_wp2
      go_ret2
      exact ⟨rfl, HT1.out.drewN _⟩


/-! ### The document's -/
def worseV (b : Option Nat) : Value := match b with | none => .int .i64 (-1) | some p => .int .i64 (p : Int)

theorem ints_get {w : World} {v : Value} {s : List Int} (h : Sl w 3 1 v s.length (ints s)) (h0 : 0 < s.length) : ∃ g o cap, v = .slice (some ⟨g, o, none⟩) s.length cap ∧ s.length ≤ cap ∧ cap ≤ maxLen ∧ ∀ j, j < s.length → w.cell? ⟨g, o + j, none⟩ = some (.int .i64 (s.getD j 0)) := by
  obtain ⟨_, _, hv, h1, h2, _⟩ := h.shape
  obtain ⟨g, o, cap, rfl, _⟩ := h.some_of_pos h0
  cases hv
  refine ⟨g, o, _, rfl, h1, h2, fun j hj => ?_⟩
  rw [h.cell j (by simpa [ints] using hj)]
  simp [ints, List.getD, hj]

set_option maxRecDepth 10000 in
set_option maxHeartbeats 2000000 in
theorem ref_best (s : List Int) (self : Nat) (hs : OkS s) (t : Int) (v : Value) (w : World) (h : Sl w 3 1 v s.length (ints s)) :
    Calls Try.prog 13 #[v, .int .i64 (self : Int), .int .i64 t] w fun e w' => e = .returned (.tuple #[bestV (pick s t (peersN self 6)), okV (pick s t (peersN self 6))]) ∧ ∃ n, w' = w.drewN n := by
  obtain ⟨g, o, cap, rfl, _, _, hcell⟩ := ints_get h (by rw [hs.1]; omega)
  rw [hs.1] at hcell ⊢
  have HC := Lib.hid hcell
  obtain ⟨bb, hbb⟩ : ∃ bb, pick s t (peersN self 6) = bb := ⟨_, rfl⟩
  rw [hbb]
  have HBB := Lib.hid hbb
  clear h hcell hbb
  go_enter Try.func13, Try.ntmps13
  go_wp2
  go_loopw [9, 8] (fun i b wr => ∃ k : Nat, k ≤ 6 ∧ i = .int .i64 k ∧ b = worseV (pick s t (peersN self k)) ∧ ∃ n, wr = w.drewN n) (fun i _ _ => 6 - (intOf i).toNat)
  case atStart => exact ⟨0, Nat.zero_le _, rfl, rfl, 0, rfl⟩
  case round =>
    obtain ⟨k, hk, rfl, rfl, nn, rfl⟩ := hrel
    by_cases hlt : k < 6
    · have his := fun w => ref_is self (k : Int) w
      have hps := peersN_succ self k
      have hbit := shr_and t k
      have hk64 : IntKind.u64.wrap (k : Int) = (k : Int) := by rw [IntKind.wrap_u64]; omega
      have hk65 : min k 64 = k := by omega
      have cq := HC.out k hlt
      have hmem := fun r hr => (peersN_mem (self := self) (k := k) (q := r) (pick_mem s t (peersN self k) r hr)).1
      cases hib : isB self (k : Int) with
      | false =>
        rw [hib] at hps
        simp only [hib] at his
        simp only [Bool.false_eq_true, if_false, List.append_nil] at hps
        have HPK : Hid (pick s t (peersN self (k + 1)) = pick s t (peersN self k)) := Lib.hid (by rw [hps])
        clear hps hib hmem
        generalize hb0 : pick s t (peersN self k) = b0 at *
        clear hb0
        cases b0 with
        | none =>
          simp only [worseV]
          go_wp2
          go_quiet ((go_at_call 9; exact (his _).mono fun _ _ h => ⟨h.1, _, h.2.symm⟩))
          go_wp2
          exact ⟨⟨k + 1, by omega, by go_num, (by rw [HPK.out]; try rfl), _, rfl⟩, by simp [intOf]; omega⟩
        | some r =>
          simp only [worseV]
          go_wp2
          go_quiet ((go_at_call 9; exact (his _).mono fun _ _ h => ⟨h.1, _, h.2.symm⟩))
          go_wp2
          exact ⟨⟨k + 1, by omega, by go_num, (by rw [HPK.out]; try rfl), _, rfl⟩, by simp [intOf]; omega⟩
      | true =>
        rw [hib] at hps
        simp only [hib] at his
        simp only [if_true] at hps
        have hpk := pick_snoc s t (peersN self k) k
        rw [← hps] at hpk
        clear hps hib
        generalize hb0 : pick s t (peersN self k) = b0 at *
        cases hu : unt t k with
        | false =>
          rw [hu] at hpk hbit
          simp only [Bool.false_and, cond_false] at hpk
          have HPK := Lib.hid hpk
          clear hpk hu hb0 hmem
          cases b0 with
          | none =>
            simp only [worseV]
            go_wp2
            go_quiet ((go_at_call 9; exact (his _).mono fun _ _ h => ⟨h.1, _, h.2.symm⟩))
            go_wp2
            exact ⟨⟨k + 1, by omega, by go_num, (by rw [HPK.out]; try rfl), _, rfl⟩, by simp [intOf]; omega⟩
          | some r =>
            simp only [worseV]
            go_wp2
            go_quiet ((go_at_call 9; exact (his _).mono fun _ _ h => ⟨h.1, _, h.2.symm⟩))
            go_wp2
            exact ⟨⟨k + 1, by omega, by go_num, (by rw [HPK.out]; try rfl), _, rfl⟩, by simp [intOf]; omega⟩
        | true =>
          rw [hu] at hpk hbit
          simp only [Bool.true_and] at hpk
          cases b0 with
          | none =>
            simp only [better, cond_true] at hpk
            have HPK := Lib.hid hpk
            clear hpk hu hb0 hmem
            simp only [worseV]
            go_wp2
            go_quiet ((go_at_call 9; exact (his _).mono fun _ _ h => ⟨h.1, _, h.2.symm⟩))
            go_wp2
            exact ⟨⟨k + 1, by omega, by go_num, (by rw [HPK.out]; try rfl), _, rfl⟩, by simp [intOf]; omega⟩
          | some r =>
            have hr6 := hmem r rfl
            have cr := HC.out r (by omega)
            have hr7 : (r : Int) < 6 := by omega
            have hr8 : (0 : Int) ≤ r := by omega
            have hr9 : ¬ (r : Int) < 0 := by omega
            simp only [better] at hpk
            obtain ⟨vr, hvr⟩ : ∃ vr, s.getD r 0 = vr := ⟨_, rfl⟩
            obtain ⟨vq, hvq⟩ : ∃ vq, s.getD k 0 = vq := ⟨_, rfl⟩
            rw [hvr, hvq] at hpk
            rw [hvr] at cr
            rw [hvq] at cq
            clear hvr hvq
            cases hbt : decide (vr < vq) with
            | true =>
              simp only [hbt, cond_true] at hpk
              have HPK := Lib.hid hpk
              clear hpk hu hb0 hmem
              simp only [worseV]
              go_wp2
              go_quiet ((go_at_call 9; exact (his _).mono fun _ _ h => ⟨h.1, _, h.2.symm⟩))
              go_wp2
              exact ⟨⟨k + 1, by omega, by go_num, (by rw [HPK.out]; try rfl), _, rfl⟩, by simp [intOf]; omega⟩
            | false =>
              simp only [hbt, cond_false] at hpk
              have HPK := Lib.hid hpk
              clear hpk hu hb0 hmem
              simp only [worseV]
              go_wp2
              go_quiet ((go_at_call 9; exact (his _).mono fun _ _ h => ⟨h.1, _, h.2.symm⟩))
              go_wp2
              exact ⟨⟨k + 1, by omega, by go_num, (by rw [HPK.out]; try rfl), _, rfl⟩, by simp [intOf]; omega⟩
    · obtain rfl : k = 6 := by omega
      rw [HBB.out]
      clear HBB
      cases bb with
      | none =>
        simp only [worseV]
        go_wp2
        go_ret2
        exact ⟨rfl, _, rfl⟩
      | some r =>
        simp only [worseV]
        go_wp2
        go_ret2
        exact ⟨rfl, _, rfl⟩

end Go.Proofs.Ytcgnadihjbdolaa.score
