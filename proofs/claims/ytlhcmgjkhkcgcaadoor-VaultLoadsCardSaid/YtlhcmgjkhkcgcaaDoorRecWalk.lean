/- All records of a text, by place: plain; the reference's All and Same. -/
import Derived.Test.YtlhcmgjkhkcgcaaDoorRecLaw1
namespace Go.Proofs.YtlhcmgjkhkcgcaaDoor.record
open Go.RowKit
open Go.Proofs.YtlhcmgjkhkcgcaaDoor.stepkit Go.Proofs.YtlhcmgjkhkcgcaaDoor.obj Go.Proofs.YtlhcmgjkhkcgcaaDoor.row Go.Proofs.YtlhcmgjkhkcgcaaDoor.mix Go.Proofs.YtlhcmgjkhkcgcaaDoor.idkit Go.Proofs.YtlhcmgjkhkcgcaaDoor.bytes Go.Proofs.YtlhcmgjkhkcgcaaDoor.octet Go.Proofs.YtlhcmgjkhkcgcaaDoor.eqkit

/-! ### Plain -/
/-- Where the i-th record begins. -/
def pos (s : ByteArray) : Nat → Nat
  | 0 => 0
  | i + 1 => (nxN s (pos s i : Nat)).toNat
/-- The first k are records. -/
def Ok (s : ByteArray) (k : Nat) : Prop := ∀ i, i < k → pos s i < s.size ∧ nxE s (pos s i : Nat) = 0
def Done (s : ByteArray) (k : Nat) (e : Nat) : Prop := Ok s k ∧ ((s.size ≤ pos s k ∧ e = 0) ∨ (pos s k < s.size ∧ nxE s (pos s k : Nat) = e ∧ e ≠ 0))
abbrev RV := Int × ByteArray
def recAt (s : ByteArray) (i : Nat) : RV := ((nxK s (pos s i : Nat) : Int), nxB s (pos s i : Nat))
def recs (s : ByteArray) (k : Nat) : List RV := (List.range k).map (recAt s)
def rcells (l : List RV) : List Value := l.flatMap fun r => [.int .i64 r.1, .string r.2]
theorem rcells_append (l m : List RV) : rcells (l ++ m) = rcells l ++ rcells m := by unfold rcells; simp
theorem rcells_len (l : List RV) : (rcells l).length = l.length * 2 := by induction l with | nil => rfl | cons r l ih => show (rcells l).length + 1 + 1 = _; rw [ih, List.length_cons]; omega
theorem recs_len (s : ByteArray) (k : Nat) : (recs s k).length = k := by unfold recs; simp
theorem recs_succ (s : ByteArray) (k : Nat) : recs s (k + 1) = recs s k ++ [recAt s k] := by unfold recs; rw [List.range_succ, List.map_append]; rfl

theorem pos_step {s : ByteArray} {p : Nat} (h : nxE s (p : Nat) = 0) : nxN s (p : Nat) = ((nxN s (p : Nat)).toNat : Int) ∧ p + 9 ≤ (nxN s (p : Nat)).toNat := by
  unfold nxN
  rw [if_pos h]
  constructor <;> omega
theorem pos_succ {s : ByteArray} {i : Nat} (h : nxE s (pos s i : Nat) = 0) : nxN s (pos s i : Nat) = (pos s (i + 1) : Int) ∧ pos s i + 9 ≤ pos s (i + 1) := pos_step h
theorem Ok.zero (s : ByteArray) : Ok s 0 := fun i h => absurd h (Nat.not_lt_zero i)
theorem Ok.succ {s : ByteArray} {k : Nat} (h : Ok s k) (h1 : pos s k < s.size) (h2 : nxE s (pos s k : Nat) = 0) : Ok s (k + 1) := fun i hi => by
  rcases Nat.lt_or_ge i k with h' | h'
  · exact h i h'
  · obtain rfl : i = k := by omega
    exact ⟨h1, h2⟩
theorem Ok.far {s : ByteArray} : ∀ {k : Nat}, Ok s k → 9 * k ≤ pos s k
  | 0, _ => Nat.zero_le _
  | k + 1, h => by
    have h1 := Ok.far (k := k) (fun i hi => h i (by omega))
    have h2 := (pos_succ (h k (by omega)).2).2
    omega
theorem Ok.lt {s : ByteArray} {k : Nat} (h : Ok s k) (h1 : pos s k < s.size) : k < s.size := by have := h.far; omega
theorem Done.uniq {s : ByteArray} {k k' e e' : Nat} (h : Done s k e) (h' : Done s k' e') : k = k' ∧ e = e' := by
  have hk : ∀ {k k' e e' : Nat}, Done s k e → Done s k' e' → ¬ k < k' := fun {k k' e e'} h h' hlt => by
    have h1 := h'.1 k hlt
    rcases h.2 with ⟨h2, _⟩ | ⟨_, h3, h4⟩
    · omega
    · omega
  have h1 := hk h h'
  have h2 := hk h' h
  obtain rfl : k = k' := by omega
  refine ⟨rfl, ?_⟩
  rcases h.2 with ⟨a, b⟩ | ⟨a, b, c⟩ <;> rcases h'.2 with ⟨a', b'⟩ | ⟨a', b', c'⟩ <;> omega

theorem _root_.Go.Proofs.YtlhcmgjkhkcgcaaDoor.obj.Turns.trans2 {F : Nat → Prop} {a b c : World} (h : Turns nobody a b) (k : Turns F b c) (hF : ∀ j, F j → a.heap.size ≤ j) : Turns nobody a c := h.trans k (fun j hj => Or.inr (hF j hj))
/-! ### The reference's All -/
def RSl (w : World) (v : Value) (l : List RV) : Prop := Sl w 23 2 v l.length (rcells l)
theorem src_rec {w : World} {b : Nat} {r : RV} {t : TypeId} (h : w.heap[b]? = some (.cells #[.int .i64 r.1, .string r.2] t (0, 0))) : Go.Proofs.YtlhcmgjkhkcgcaaDoor.obj.Src w 2 (.slice (some ⟨b, 0, none⟩) 1 1) 1 (rcells [r]) := by
  refine Go.Proofs.YtlhcmgjkhkcgcaaDoor.obj.Src.of_row (by simp [rcells]) (fun u hu => ?_) (fun j u hu => ?_)
  · simp only [rcells, List.flatMap_cons, List.flatMap_nil, List.append_nil, List.mem_cons, List.not_mem_nil, or_false] at hu
    rcases hu with rfl | rfl <;> rfl
  · rw [Addr.add_lit]
    rw [show (0 : Nat) + j = j by omega]
    refine cells_of h j u ?_
    simpa [rcells] using hu
theorem infoRec2 : ∃ i, Tryd.prog.info? 23 = some i ∧ i.zero = some (.agg #[.int .i64 0, .string nil]) ∧ i.size = 2 ∧ i.bytes = 24 := by
  have h : (Tryd.prog.info? 23).map (fun i => (i.zero, i.size, i.bytes)) = some (some (.agg #[.int .i64 0, .string nil]), 2, 24) := by kernel_rfl
  cases hi : Tryd.prog.info? 23 with
  | none => rw [hi] at h; cases h
  | some i =>
    rw [hi] at h
    simp only [Option.map_some, Option.some.injEq, Prod.mk.injEq] at h
    exact ⟨i, rfl, h.1, h.2.1, h.2.2⟩

set_option maxRecDepth 10000 in
set_option maxHeartbeats 1000000 in
theorem refall_any (s : ByteArray) (w : World) (hs : s.size ≤ 16777216) :
    Calls Tryd.prog 23 #[.string s] w fun e w' => ∃ k E v, Done s k E ∧ e = .returned (.tuple #[v, .int .i64 (pos s k : Int), .int .i64 (E : Int)]) ∧ RSl w' v (recs s k) ∧ (∀ i, blk v i → w.heap.size ≤ i) ∧ Turns nobody w w' := by
  have hnx := fun k W => refnext_any s k W hs
  unfold recV at hnx
  have HNX := Lib.hid hnx
  obtain ⟨i, hi, hz0, hz1, hz2⟩ := infoRec2
  clear hnx
  go_enter Tryd.func23, Tryd.ntmps23
  go_upto_region 3 with fail
  go_loopw [5, 6] (fun p q wr => ∃ (k : Nat), q = .int .i64 (pos s k : Int) ∧ Ok s k ∧ RSl wr p (recs s k) ∧ (∀ j, blk p j → w.heap.size ≤ j) ∧ Turns nobody w wr)
    (fun p q wr => s.size - (intOf q).toNat)
  case atStart => exact ⟨0, rfl, Ok.zero s, Sl.nil _ _ _, (fun j h => by cases h), Turns.refl _ _⟩
  case round =>
    obtain ⟨k, rfl, hok, hsl, hnew, ht⟩ := hrel
    have hkl := recs_len s k
    have HRK := Lib.hid hkl
    obtain ⟨ao, cap, hv, _⟩ := hsl.shape
    rw [hkl] at hv
    subst hv
    rcases Nat.lt_or_ge (pos s k) s.size with hlt | hge
    · have hltI : (pos s k : Int) < (s.size : Int) := by omega
      have HLT := Lib.hid hlt
      have HOK := Lib.hid hok
      have HSL := Lib.hid hsl
      have HNEW := Lib.hid hnew
      have HT := Lib.hid ht
      have HKS : Hid (k < s.size) := Lib.hid (hok.lt hlt)
      clear hlt hok hsl hnew ht hkl
      obtain ⟨p, hp⟩ : ∃ p, pos s k = p := ⟨_, rfl⟩
      have HP := Lib.hid hp
      rw [hp] at hltI ⊢
      clear hp
      rcases Classical.em (nxE s (p : Nat) = 0) with he | he
      · obtain ⟨hn1, hn2⟩ := pos_step he
        have hr : recAt s k = ((nxK s (p : Nat) : Int), nxB s (p : Nat)) := by unfold recAt; rw [HP.out]
        have hps : pos s (k + 1) = (nxN s (p : Nat)).toNat := by show (nxN s (pos s k : Nat)).toNat = _; rw [HP.out]
        have hx := fun W => HNX.out (p : Nat) W
        rw [he, hn1] at hx
        generalize (nxN s (p : Nat)).toNat = q at *
        generalize nxB s (p : Nat) = b at *
        generalize (nxK s (p : Nat) : Int) = K at *
        have HX := Lib.hid hx
        have HR := Lib.hid hr
        have HPS := Lib.hid hps
        have HN2 := Lib.hid hn2
        have HE := Lib.hid he
        clear hx hr hps he hn1 hn2
        go_upto_region 7 with first
          | (go_at_call 20; refine (HX.out _).mono ?_; rintro e w1 ⟨rfl, t1⟩; have HT1 := Lib.hid t1; clear t1)
        obtain ⟨H1, hH1⟩ : ∃ H1, w1.heap.size = H1 := ⟨_, rfl⟩
        obtain ⟨w2, hw2⟩ : ∃ w2, w2 = w1.alloc (.cells #[.int .i64 K, .string b] 23) := ⟨_, rfl⟩
        have t2 : Turns nobody w1 w2 := by rw [hw2]; exact (Turns.refl _ _).alloc _
        have c2 : w2.heap[H1]? = some (.cells #[.int .i64 K, .string b] 23 (0, 0)) := by rw [hw2, ← hH1]; exact heap_alloc_new w1 _
        rw [← hw2, hH1]
        have c0 := cells_of c2 0 _ rfl
        have c1 := cells_of c2 1 _ rfl
        obtain ⟨w3, hw3⟩ : ∃ w3, w3 = w2.alloc (.cells #[.int .i64 K, .string b] 23) := ⟨_, rfl⟩
        have t3 : Turns nobody w2 w3 := by rw [hw3]; exact (Turns.refl _ _).alloc _
        have c3 : w3.heap[w2.heap.size]? = some (.cells #[.int .i64 K, .string b] 23 (0, 0)) := by rw [hw3]; exact heap_alloc_new w2 _
        have ts : Turns nobody wr w3 := (HT1.out.trans t2 (fun _ h => h.elim)).trans t3 (fun _ h => h.elim)
        have HSL3 := Lib.hid (Sl.keep HSL.out ts (fun _ _ h => h))
        rw [HRK.out] at HSL3
        have HSRC := Lib.hid (src_rec (r := (K, b)) c3)
        have HTS := Lib.hid ts
        have HW3 := Lib.hid hw3
        clear hw2 t2 c2 hw3 t3 c3 ts hH1
        go_wp2_with first
          | (at_builtin; rw [← HW3.out]; refine wpList_append_sl rfl _ _ 41 rfl Tryd.underlying41 hi hz0 hz1 hz2 rfl (by decide) rfl rfl HSL3.out HSRC.out (by have := HKS.out; unfold maxLen; omega) (by have := HKS.out; omega) ?_; intro v5 w5 h5 t5 n5 _; have H5 := Lib.hid h5; have T5 : Hid (Turns (blk (.slice ao k cap)) w3 w5) := Lib.hid t5; have N5 : Hid (Newer (.slice ao k cap) v5 w3) := Lib.hid n5; clear h5 t5 n5)
        have HT5 : Turns nobody w w5 := (HT.out.trans HTS.out (fun _ h => h.elim)).trans2 T5.out (fun j hj => HNEW.out j hj)
        go_roundw
        case rel =>
          refine ⟨k + 1, by rw [HPS.out], HOK.out.succ (by rw [HP.out]; omega) (by rw [HP.out]; exact HE.out), ?_, fun j hj => ?_, HT5⟩
          · unfold RSl; rw [recs_len, recs_succ, rcells_append, HR.out]; exact H5.out
          · rcases N5.out j hj with h | h
            · exact HNEW.out j h
            · exact Nat.le_trans (HT.out.trans HTS.out (fun _ h => h.elim)).size h
        case measure => have := HN2.out; simp [intOf]; omega
      · have hx := fun W => HNX.out (p : Nat) W
        have hE1 : nxK s (p : Nat) = 0 ∧ nxB s (p : Nat) = nil ∧ nxN s (p : Nat) = 0 := by unfold nxK nxB nxN; rw [if_neg he, if_neg he, if_neg he]; exact ⟨rfl, rfl, rfl⟩
        rw [hE1.1, hE1.2.1, hE1.2.2] at hx
        obtain ⟨E, hE⟩ : ∃ E, nxE s (p : Nat) = E := ⟨_, rfl⟩
        rw [hE] at hx he
        have hez : ((E : Int) != 0) = true := by simpa using he
        have HD : Hid (Done s k E) := Lib.hid ⟨HOK.out, Or.inr ⟨by rw [HP.out]; omega, by rw [HP.out]; exact hE, he⟩⟩
        have HX := Lib.hid hx
        clear hx he hE hE1
        go_wp2_with first
          | (go_at_call 20; refine (HX.out _).mono ?_; rintro e w1 ⟨rfl, t1⟩; have HT1 := Lib.hid t1; clear t1)
        refine bodyPost_ret (results_tmp3 rfl _ _ _) rfl ?_
        have ts : Turns nobody wr (w1.alloc (.cells #[.int .i64 0, .string nil] 23)) := HT1.out.alloc _
        exact ⟨k, E, _, HD.out, (by rw [HP.out]; rfl), Sl.keep HSL.out ts (fun _ _ h => h), HNEW.out, HT.out.trans ts (fun _ h => h.elim)⟩
    · have hgeI : ¬ (pos s k : Int) < (s.size : Int) := by omega
      have HD : Hid (Done s k 0) := Lib.hid ⟨hok, Or.inl ⟨hge, rfl⟩⟩
      have HSL := Lib.hid hsl
      have HNEW := Lib.hid hnew
      have HT := Lib.hid ht
      clear hge hok hsl hnew ht
      go_wp2
      refine bodyPost_ret (results_tmp3 rfl _ _ _) rfl ?_
      refine ⟨k, 0, HD.out, _, rfl, HSL.out, HNEW.out, HT.out⟩

/-! ### The reference's Same -/
theorem rcells_get : ∀ (l : List RV) (k : Nat), k < l.length → (rcells l).getD (k * 2) undef = .int .i64 (l.getD k (0, nil)).1 ∧ (rcells l).getD (k * 2 + 1) undef = .string (l.getD k (0, nil)).2
  | [], k, h => absurd h (Nat.not_lt_zero k)
  | r :: l, 0, _ => ⟨rfl, rfl⟩
  | r :: l, k + 1, h => by
    have ih := rcells_get l k (by simpa using h)
    rw [show (k + 1) * 2 = k * 2 + 1 + 1 by omega]
    exact ih
theorem RSl.cell {w : World} {g o cap : Nat} {l : List RV} (h : RSl w (.slice (some ⟨g, o, none⟩) l.length cap) l) (k : Nat) (hk : k < l.length) :
    w.cell? ⟨g, o + k * 2, none⟩ = some (.int .i64 (l.getD k (0, nil)).1) ∧ w.cell? ⟨g, o + k * 2 + 1, none⟩ = some (.string (l.getD k (0, nil)).2) := by
  have h1 := Sl.cell h (k * 2) (by rw [rcells_len]; omega)
  have h2 := Sl.cell h (k * 2 + 1) (by rw [rcells_len]; omega)
  have h3 := rcells_get l k hk
  rw [h3.1] at h1
  rw [h3.2] at h2
  exact ⟨h1, h2⟩
set_option maxHeartbeats 400000 in
theorem same_any (a b : Value) (l : List RV) (w : World) (ha : RSl w a l) (hb : RSl w b l) (hl : l.length ≤ 16777216) :
    Calls Tryd.prog 24 #[a, b] w fun e w' => e = .returned (.bool true) ∧ ∃ n, w' = w.drewN n := by
  have ha' : Sl w _ _ _ _ _ := ha
  have hb' : Sl w _ _ _ _ _ := hb
  obtain ⟨ao, ca, rfl, _, _, hao, _⟩ := ha'.shape
  obtain ⟨bo, cb, rfl, _, _, hbo, _⟩ := hb'.shape
  have HA : ∀ k, k < l.length → ∃ g o, ao = some ⟨g, o, none⟩ ∧ w.cell? ⟨g, o + k * 2, none⟩ = some (.int .i64 (l.getD k (0, nil)).1) ∧ w.cell? ⟨g, o + k * 2 + 1, none⟩ = some (.string (l.getD k (0, nil)).2) := fun k hk => by
    obtain ⟨g, o, c, hv, _⟩ := ha'.some_of_pos (by omega)
    cases hv
    exact ⟨g, o, rfl, RSl.cell ha k hk⟩
  have HB : ∀ k, k < l.length → ∃ g o, bo = some ⟨g, o, none⟩ ∧ w.cell? ⟨g, o + k * 2, none⟩ = some (.int .i64 (l.getD k (0, nil)).1) ∧ w.cell? ⟨g, o + k * 2 + 1, none⟩ = some (.string (l.getD k (0, nil)).2) := fun k hk => by
    obtain ⟨g, o, c, hv, _⟩ := hb'.some_of_pos (by omega)
    cases hv
    exact ⟨g, o, rfl, RSl.cell hb k hk⟩
  have HHA := Lib.hid HA
  have HHB := Lib.hid HB
  clear HA HB ha hb ha' hb' hao hbo
  go_enter Tryd.func24, Tryd.ntmps24
  go_wp2
  go_loopw [5] (fun i wr => ∃ k : Nat, k ≤ l.length ∧ i = .int .i64 k ∧ ∃ n, wr = w.drewN n) (fun i _ => l.length - (intOf i).toNat)
  case atStart => exact ⟨0, Nat.zero_le _, rfl, 0, rfl⟩
  case round =>
    obtain ⟨k, hk, rfl, n, rfl⟩ := hrel
    by_cases hlt : k < l.length
    · obtain ⟨g, o, rfl, x0, x1⟩ := HHA.out k hlt
      obtain ⟨g', o', rfl, y0, y1⟩ := HHB.out k hlt
      have he := fun w => (eq_rec2 w (l.getD k (0, nil)).1 (l.getD k (0, nil)).2).1
      generalize (l.getD k (0, nil)).1 = x at *
      generalize (l.getD k (0, nil)).2 = y at *
      go_wp2
      go_quiet (fail)
      go_wp2
      exact ⟨⟨k + 1, by omega, by go_num, n + nq, rfl⟩, by simp [intOf]; omega⟩
    · go_wp2
      go_ret
      exact ⟨rfl, n, rfl⟩
end Go.Proofs.YtlhcmgjkhkcgcaaDoor.record
