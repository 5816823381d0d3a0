/- Package score: all peers, the best one; and the document's. -/
import Derived.Test.YtcgnadihjbdolaaScoreTurn
namespace Go.Proofs.Ytcgnadihjbdolaa.score
open Go.RowKit
open Go.Proofs.Ytcgnadihjbdolaa.stepkit Go.Proofs.Ytcgnadihjbdolaa.row Go.Proofs.Ytcgnadihjbdolaa.mix Go.Proofs.Ytcgnadihjbdolaa.obj Go.Proofs.Ytcgnadihjbdolaa.sat

/-- The peers below k. -/
def peersN (self : Nat) (k : Nat) : List Nat := (List.range k).filter fun p => isB self (p : Int)
theorem peersN_succ (self k : Nat) : peersN self (k + 1) = peersN self k ++ (if isB self (k : Int) then [k] else []) := by
  unfold peersN
  rw [List.range_succ, List.filter_append]
  congr 1
  simp [List.filter_cons]
def nats (l : List Nat) : List Value := l.map fun (p : Nat) => Value.int .i64 (p : Int)
theorem nats_one (l : List Nat) : ∀ u ∈ nats l, u.oneCell' = true := by
  intro u hu
  obtain ⟨x, _, rfl⟩ := List.mem_map.1 hu
  rfl
theorem peersN_len (self k : Nat) : (peersN self k).length ≤ k := by
  unfold peersN
  exact Nat.le_trans (List.length_filter_le _ _) (by simp)
theorem infoInt : (Try.prog.info? 3).map (fun i => (i.zero, i.size, i.bytes)) = some (some (.int .i64 0), 1, 8) := by kernel_rfl

set_option maxRecDepth 10000 in
set_option maxHeartbeats 400000 in
theorem peers_any (p : Nat) (s : List Int) (self : Nat) (hs : s.length = 6) (F : Nat → Prop) (w : World) (h : BoardAt p s self F w) :
    Calls Try.prog 15 #[.pointer (some ⟨p, 0, none⟩)] w fun e w' => ∃ v, e = .returned v ∧ Sl w' 3 1 v (peersN self 6).length (nats (peersN self 6)) ∧ Turns nobody w w' ∧ ∀ j, blk v j → w.heap.size ≤ j := by
  have H := Lib.hid h
  clear h
  obtain ⟨i0, hi, hz0, hz1, hz2⟩ := info_parts infoInt
  go_enter Try.func15, Try.ntmps15
  go_wp2
  go_loopw [5, 3] (fun i v wr => ∃ k : Nat, k ≤ 6 ∧ i = .int .i64 k ∧ Sl wr 3 1 v (peersN self k).length (nats (peersN self k)) ∧ Turns nobody w wr ∧ ∀ j, blk v j → w.heap.size ≤ j) (fun i _ _ => 6 - (intOf i).toNat)
  case atStart => exact ⟨0, by omega, rfl, Sl.nil _ _ _, Turns.refl _ _, fun j hj => by cases hj⟩
  case round =>
    obtain ⟨k, hk, rfl, hsl, ht, hf⟩ := hrel
    have HSL := Lib.hid hsl
    have HT := Lib.hid ht
    have HF := Lib.hid hf
    have hb := (local_board p s self).keep H.out ht (fun _ _ h => h)
    have hps := peersN_succ self k
    have hpl := peersN_len self k
    have HPS := Lib.hid hps
    clear hsl ht hf hps
    by_cases hlt : k < 6
    · have his := is_any p s self hs k F wr hb
      cases hib : isB self (k : Int) with
      | false =>
        rw [hib] at his
        rw [hib] at HPS
        clear hib hb
        go_wp2_with (go_at_call 10; refine his.mono ?_; rintro e w' ⟨rfl, rfl⟩)
        go_roundw
        case rel => exact ⟨k + 1, by omega, by go_num, by rw [HPS.out]; simpa using HSL.out, HT.out, HF.out⟩
        case measure => simp [intOf]; omega
      | true =>
        rw [hib] at his
        rw [hib] at HPS
        clear hib hb
        generalize hn : (peersN self k).length = n at *
        have HN := Lib.hid hn
        clear hn
        have hsrc : ∀ W : World, Src (W.alloc (.cells #[.int .i64 (k : Int)] 3)) 1 (.slice (some ⟨W.heap.size, 0, none⟩) 1 1) 1 (nats [k]) := fun W => by
          refine Src.of_row (by rfl) (nats_one [k]) (fun j u hj => ?_)
          have hj0 : j = 0 := by have := (List.getElem?_eq_some_iff.1 hj).1; simp [nats] at this; omega
          subst hj0
          simp only [nats, List.map_cons, List.map_nil, List.getElem?_cons_zero, Option.some.injEq] at hj
          rw [Addr.add_lit, ← hj]
          simp only [World.cell?, Nat.add_zero]
          rw [heap_alloc_new]
          rfl
        have HSRC := Lib.hid hsrc
        clear hsrc
        go_wp2_with first
          | (go_at_call 10; refine his.mono ?_; rintro e w' ⟨rfl, rfl⟩)
          | (at_builtin; refine wpList_append_sl rfl _ _ 28 rfl Try.underlying28 hi hz0 hz1 hz2 rfl (by decide) rfl rfl (HSL.out.keep ((Turns.refl nobody _).alloc _) (fun _ _ h => h)) (HSRC.out _) (by unfold maxLen; omega) (by omega) ?_)
        intro v' w2 h2 ht2 hn2 _
        have hrel : Sl w2 3 1 v' (peersN self (k + 1)).length (nats (peersN self (k + 1))) ∧ Turns nobody w w2 ∧ ∀ j, blk v' j → w.heap.size ≤ j := by
          refine ⟨?_, ?_, fun j hj => ?_⟩
          · rw [HPS.out]
            simp only [if_true, List.length_append, List.length_cons, List.length_nil, HN.out, nats, List.map_append]
            simpa [nats] using h2
          · exact (HT.out.alloc _).trans ht2 (fun i hi => Or.inr (HF.out i hi))
          · rcases hn2 j hj with h | h
            · exact HF.out j h
            · have := HT.out.size; rw [World.size_alloc] at h; omega
        have HR := Lib.hid hrel
        clear hrel h2 ht2 hn2
        go_wp2
        go_roundw
        case rel => exact ⟨k + 1, by omega, by go_num, HR.out⟩
        case measure => simp [intOf]; omega
    · obtain rfl : k = 6 := by omega
      go_wp2
      go_ret
      exact ⟨_, rfl, HSL.out, HT.out, HF.out⟩

theorem bit_any (k : Nat) (hk : k < 6) (w : World) :
    Calls Try.prog 19 #[.int .i64 (k : Int)] w fun e w' => e = .returned (.int .i64 ((2 ^ k : Nat) : Int)) ∧ w = w' := by
  have hx : ∀ w : World, (Instr.index 43 (.agg #[.int .i64 1, .int .i64 2, .int .i64 4, .int .i64 8, .int .i64 16, .int .i64 32]) (.int .i64 (k : Int))).run Try.prog w = .ok (.int .i64 ((2 ^ k : Nat) : Int)) w := fun w => by
    obtain rfl | rfl | rfl | rfl | rfl | rfl : k = 0 ∨ k = 1 ∨ k = 2 ∨ k = 3 ∨ k = 4 ∨ k = 5 := by omega
    all_goals kernel_rfl
  go_enter Try.func19, Try.ntmps19
  go_wp2
  go_ret
  exact ⟨rfl, rfl⟩

/-- A number's bit is nought. -/
def unt (t : Int) (k : Nat) : Bool := decide (t / 2 ^ k % 2 = 0)

theorem ofInt_nat (t : Int) : (BitVec.ofInt 64 t).toNat = (t % 18446744073709551616).toNat := by
  rw [BitVec.toNat_ofInt]
  rfl

theorem and_one (t : Int) : bits .and .i64 t 1 = t % 2 := by
  unfold bits
  show IntKind.i64.wrap (((BitVec.ofInt 64 t &&& BitVec.ofInt 64 1).toNat : Nat) : Int) = t % 2
  rw [BitVec.toNat_and, ofInt_nat, show (BitVec.ofInt 64 1).toNat = 1 from by decide, Nat.and_one_is_mod]
  rw [IntWalk.i64_in _ (by omega)]
  omega

theorem and_pow_zero (a k : Nat) : (a &&& 2 ^ k = 0) ↔ a / 2 ^ k % 2 = 0 := by
  have hb : a.testBit k = decide (a / 2 ^ k % 2 = 1) := Nat.testBit_eq_decide_div_mod_eq
  constructor
  · intro h
    have h1 := congrArg (fun n => Nat.testBit n k) h
    simp only [Nat.testBit_and, Nat.testBit_two_pow_self, Bool.and_true, Nat.zero_testBit] at h1
    rw [hb] at h1
    simp at h1
    omega
  · intro h
    refine Nat.eq_of_testBit_eq fun i => ?_
    rw [Nat.testBit_and, Nat.zero_testBit, Nat.testBit_two_pow]
    by_cases hi : k = i
    · subst hi
      rw [hb]
      simp [h]
    · simp [hi]

theorem and_pow (t : Int) (k : Nat) (hk : k < 6) : (bits .and .i64 t (2 ^ k) == 0) = unt t k := by
  have key : bits .and .i64 t (2 ^ k) = (((t % 18446744073709551616).toNat &&& 2 ^ k : Nat) : Int) := by
    unfold bits
    show IntKind.i64.wrap (((BitVec.ofInt 64 t &&& BitVec.ofInt 64 (2 ^ k)).toNat : Nat) : Int) = _
    have h2 : (BitVec.ofInt 64 (2 ^ k)).toNat = 2 ^ k := by
      obtain rfl | rfl | rfl | rfl | rfl | rfl : k = 0 ∨ k = 1 ∨ k = 2 ∨ k = 3 ∨ k = 4 ∨ k = 5 := by omega
      all_goals decide
    rw [BitVec.toNat_and, ofInt_nat, h2]
    have h3 : (t % 18446744073709551616).toNat &&& 2 ^ k ≤ 2 ^ k := Nat.and_le_right
    have h4 : 2 ^ k ≤ 2 ^ 5 := Nat.pow_le_pow_right (by omega) (by omega)
    rw [IntWalk.i64_in _ (by omega)]
  rw [key]
  have hz := and_pow_zero (t % 18446744073709551616).toNat k
  unfold unt
  rw [Bool.eq_iff_iff]
  simp only [beq_iff_eq, decide_eq_true_eq]
  rw [show (((t % 18446744073709551616).toNat &&& 2 ^ k : Nat) : Int) = 0 ↔ ((t % 18446744073709551616).toNat &&& 2 ^ k) = 0 from by omega, hz]
  obtain rfl | rfl | rfl | rfl | rfl | rfl : k = 0 ∨ k = 1 ∨ k = 2 ∨ k = 3 ∨ k = 4 ∨ k = 5 := by omega
  all_goals
    simp only [Nat.reducePow, Int.reducePow]
    omega

theorem shr_and (t : Int) (k : Nat) : (bits .and .i64 (t / 2 ^ k) 1 == 0) = unt t k := by
  rw [and_one]
  unfold unt
  rw [Bool.eq_iff_iff]
  simp
attribute [irreducible] unt

/-- The better one of two. -/
def better (s : List Int) (b : Option Nat) (p : Nat) : Bool := match b with | none => true | some q => decide (s.getD q 0 < s.getD p 0)
def pick (s : List Int) (t : Int) (l : List Nat) : Option Nat := l.foldl (fun b p => bif unt t p && better s b p then some p else b) none
theorem pick_snoc (s : List Int) (t : Int) (l : List Nat) (p : Nat) : pick s t (l ++ [p]) = bif unt t p && better s (pick s t l) p then some p else pick s t l := by
  unfold pick; rw [List.foldl_append]; rfl
theorem pick_mem (s : List Int) (t : Int) (l : List Nat) : ∀ q, pick s t l = some q → q ∈ l := by
  unfold pick
  have gen : ∀ (l : List Nat) (b : Option Nat) q, l.foldl (fun b p => bif unt t p && better s b p then some p else b) b = some q → q ∈ l ∨ b = some q := by
    intro l
    induction l with
    | nil => intro b q h; exact Or.inr h
    | cons p l ih =>
      intro b q h
      rw [List.foldl_cons] at h
      rcases ih _ q h with h | h
      · exact Or.inl (List.mem_cons_of_mem _ h)
      · cases hc : unt t p && better s b p with
        | true => rw [hc] at h; cases h; exact Or.inl (by simp)
        | false => rw [hc] at h; exact Or.inr h
  intro q h
  rcases gen l none q h with h | h
  · exact h
  · cases h
theorem peersN_mem {self k q : Nat} (h : q ∈ peersN self k) : q < k ∧ isB self (q : Int) = true := by
  unfold peersN at h
  simpa using h
end Go.Proofs.Ytcgnadihjbdolaa.score
