/- BlockZero: what a block answers that nobody made; and awake. -/
import Derived.Test.YtndgggodkfealaaBlock
import Derived.Lib.SmallJoins
import Derived.WalkSmall
namespace Go.Proofs.Ytndgggodkfealaa.block
open Go.RowKit
open Go.Proofs.Ytndgggodkfealaa.stepkit Go.Proofs.Ytndgggodkfealaa.mix Go.Proofs.Ytndgggodkfealaa.row

/-- Nobody made it: nil, or the zero value. -/
def NoneAt (w : World) (v : Value) : Prop := Calls Try.prog 17 #[v] w fun e w' => e = .returned (.bool true) ∧ w = w'

theorem zero_tail (v : Value)  (w : World) (h : NoneAt w v) :
    Calls Try.prog 16 #[v] w fun e w' => e = .returned (.int .i64 0) ∧ w = w' := by
  unfold NoneAt at h
  go_enter Try.func16, Try.ntmps16
  go_wp2_with (go_at_call 17; refine h.mono ?_; rintro e w1 ⟨rfl, rfl⟩)
  go_ret
  exact ⟨rfl, rfl⟩

theorem zero_write (v : Value) (s : ByteArray) (w : World) (h : NoneAt w v) :
    Calls Try.prog 7 #[v, .string s] w fun e w' => e = .returned (.int .i64 8) ∧ w = w' := by
  unfold NoneAt at h
  go_enter Try.func7, Try.ntmps7
  go_wp2_with (go_at_call 17; refine h.mono ?_; rintro e w1 ⟨rfl, rfl⟩)
  go_ret
  exact ⟨rfl, rfl⟩

theorem zero_cut (v : Value) (k : Int) (w : World) (h : NoneAt w v) :
    Calls Try.prog 12 #[v, .int .i64 k] w fun e w' => e = .returned (.int .i64 8) ∧ w = w' := by
  unfold NoneAt at h
  go_enter Try.func12, Try.ntmps12
  go_wp2_with (go_at_call 17; refine h.mono ?_; rintro e w1 ⟨rfl, rfl⟩)
  go_ret
  exact ⟨rfl, rfl⟩

theorem zero_sync (v : Value)  (w : World) (h : NoneAt w v) :
    Calls Try.prog 8 #[v] w fun e w' => e = .returned (.int .i64 0) ∧ w = w' := by
  unfold NoneAt at h
  go_enter Try.func8, Try.ntmps8
  go_wp2_with (go_at_call 16; refine (zero_tail _ _ h).mono ?_; rintro e w1 ⟨rfl, rfl⟩)
  go_ret
  exact ⟨rfl, rfl⟩

theorem zero_crash (v : Value) (k : Int) (w : World) (h : NoneAt w v) :
    Calls Try.prog 9 #[v, .int .i64 k] w fun e w' => e = .returned (.int .i64 0) ∧ w = w' := by
  unfold NoneAt at h
  go_enter Try.func9, Try.ntmps9
  go_wp2_with (go_at_call 17; refine h.mono ?_; rintro e w1 ⟨rfl, rfl⟩)
  go_ret
  exact ⟨rfl, rfl⟩

theorem zero_size (v : Value)  (w : World) (h : NoneAt w v) :
    Calls Try.prog 15 #[v] w fun e w' => e = .returned (.int .i64 0) ∧ w = w' := by
  unfold NoneAt at h
  go_enter Try.func15, Try.ntmps15
  go_wp2_with (go_at_call 17; refine h.mono ?_; rintro e w1 ⟨rfl, rfl⟩)
  go_ret
  exact ⟨rfl, rfl⟩

theorem zero_data (v : Value)  (w : World) (h : NoneAt w v) :
    Calls Try.prog 10 #[v] w fun e w' => e = .returned (.string (ByteArray.mk #[])) ∧ w = w' := by
  unfold NoneAt at h
  go_enter Try.func10, Try.ntmps10
  go_wp2_with (go_at_call 17; refine h.mono ?_; rintro e w1 ⟨rfl, rfl⟩)
  go_ret
  exact ⟨rfl, rfl⟩

theorem grown_below {B : Nat} {a b c : World} {p : Nat} (h : Below B a b) (hg : b.grownBy c (some p)) (hB : B ≤ p) (hb : B ≤ b.heap.size) : Below B a c :=
  h.trans (grownBy_below hg hb (fun k hk => by cases hk; exact hB))

/-- A file of the call's own. -/
def Held (B : Nat) (w0 : World) (p : Nat) (l : List UInt8) (safe : Nat) (w : World) : Prop := BlockAt w p l safe ∧ Below B w0 w ∧ B ≤ p ∧ B ≤ w.heap.size

theorem Held.step {B : Nat} {w0 w w' : World} {p : Nat} {l l' : List UInt8} {safe safe' : Nat} (h : Held B w0 p l safe w) (hb : BlockAt w' p l' safe') (hg : w.grownBy w' (some p)) : Held B w0 p l' safe' w' :=
  ⟨hb, grown_below h.2.1 hg h.2.2.1 h.2.2.2, h.2.2.1, Nat.le_trans h.2.2.2 hg.size⟩
theorem Held.new {w w' : World} (h : w' = w.alloc (.cells #[.slice none 0 0, .int .i64 0, .bool true] 42)) : Held w.heap.size w w.heap.size [] 0 w' := by
  obtain ⟨h1, h2⟩ := new_at h
  exact ⟨h1, grownBy_below h2 (Nat.le_refl _) (fun k hk => by cases hk), Nat.le_refl _, h2.size⟩

theorem awake_any (w : World) :
    Calls Try.prog 11 #[] w fun e w' => e = .returned (.bool true) ∧ Below w.heap.size w w' := by
  go_enter Try.func11, Try.ntmps11
  go_wp2_with first
    | (go_at_call 6; refine (new_any _).mono ?_; rintro e w1 ⟨rfl, hw1⟩; have hb := Held.new hw1; clear hw1)
    | (go_at_call 7; refine (write_any _ _ _ _ _ hb.1 (by decide)).mono ?_; rintro e w2 ⟨rfl, hb2, hg2⟩; replace hb := hb.step hb2 hg2; clear hb2 hg2)
    | (go_at_call 8; refine (sync_any _ _ _ _ hb.1 (by decide)).mono ?_; rintro e w3 ⟨rfl, hb3, hg3⟩; replace hb := hb.step hb3 hg3; clear hb3 hg3)
    | (go_at_call 9; refine (crash_any _ _ _ _ _ hb.1 (by decide) (by decide) (by decide)).mono ?_; rintro e w4 ⟨rfl, hb4, hg4⟩; replace hb := hb.step hb4 hg4; clear hb4 hg4)
    | (go_at_call 10; refine (data_any _ _ _ _ hb.1).mono ?_; rintro e w5 ⟨rfl, rfl⟩)
    | (go_at_call 16; refine (tail_any _ _ _ _ hb.1 (by decide)).mono ?_; rintro e w6 ⟨rfl, n, rfl⟩)
  go_ret
  exact ⟨rfl, below_drewN hb.2.1 _⟩

set_option maxHeartbeats 400000 in
theorem zero_any (s : ByteArray) (n : Int) (w : World) :
    Calls Try.prog 5 #[.string s, .int .i64 n] w fun e w' => e = .returned (.bool true) ∧ Below w.heap.size w w' := by
  have hn : ∀ w, NoneAt w (.pointer none) := none_nil
  have hz : NoneAt (w.alloc (.cells #[.slice none 0 0, .int .i64 0, .bool false] 42)) (.pointer (some ⟨w.heap.size, 0, none⟩)) := none_zero _ _ (cells_of (heap_alloc_new w _) 2 _ rfl)
  have hbel := Joins.below_alloc1 w (.cells #[.slice none 0 0, .int .i64 0, .bool false] 42)
  go_enter Try.func5, Try.ntmps5
  go_wp2_with first
    | (go_at_call 7; (first | with_reducible refine (zero_write _ _ _ (hn _)).mono ?_ | with_reducible refine (zero_write _ _ _ hz).mono ?_); rintro e w2 ⟨rfl, rfl⟩)
    | (go_at_call 12; (first | with_reducible refine (zero_cut _ _ _ (hn _)).mono ?_ | with_reducible refine (zero_cut _ _ _ hz).mono ?_); rintro e w2 ⟨rfl, rfl⟩)
    | (go_at_call 9; (first | with_reducible refine (zero_crash _ _ _ (hn _)).mono ?_ | with_reducible refine (zero_crash _ _ _ hz).mono ?_); rintro e w2 ⟨rfl, rfl⟩)
    | (go_at_call 8; (first | with_reducible refine (zero_sync _ _ (hn _)).mono ?_ | with_reducible refine (zero_sync _ _ hz).mono ?_); rintro e w2 ⟨rfl, rfl⟩)
    | (go_at_call 15; (first | with_reducible refine (zero_size _ _ (hn _)).mono ?_ | with_reducible refine (zero_size _ _ hz).mono ?_); rintro e w2 ⟨rfl, rfl⟩)
    | (go_at_call 16; (first | with_reducible refine (zero_tail _ _ (hn _)).mono ?_ | with_reducible refine (zero_tail _ _ hz).mono ?_); rintro e w2 ⟨rfl, rfl⟩)
    | (go_at_call 10; (first | with_reducible refine (zero_data _ _ (hn _)).mono ?_ | with_reducible refine (zero_data _ _ hz).mono ?_); rintro e w2 ⟨rfl, rfl⟩)
    | (go_at_call 11; refine (awake_any _).mono ?_; rintro e w2 ⟨rfl, hw2⟩)
  all_goals first
    | (exfalso; rename_i hh; exact hh (by first | decide | decide +kernel | kernel_rfl))
    | (go_ret; exact ⟨rfl, hbel.trans (hw2.mono (by simp))⟩)

end Go.Proofs.Ytndgggodkfealaa.block
