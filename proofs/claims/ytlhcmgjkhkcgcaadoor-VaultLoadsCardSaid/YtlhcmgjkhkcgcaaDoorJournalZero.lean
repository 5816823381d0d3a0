/- Journals that nobody made; awake; JournalZero. -/
import Derived.Test.YtlhcmgjkhkcgcaaDoorJournal
namespace Go.Proofs.YtlhcmgjkhkcgcaaDoor.journal
open Go.RowKit
open Go.Proofs.YtlhcmgjkhkcgcaaDoor.stepkit Go.Proofs.YtlhcmgjkhkcgcaaDoor.obj Go.Proofs.YtlhcmgjkhkcgcaaDoor.row Go.Proofs.YtlhcmgjkhkcgcaaDoor.mix Go.Proofs.YtlhcmgjkhkcgcaaDoor.idkit Go.Proofs.YtlhcmgjkhkcgcaaDoor.bytes Go.Proofs.YtlhcmgjkhkcgcaaDoor.octet Go.Proofs.YtlhcmgjkhkcgcaaDoor.eqkit Go.Proofs.YtlhcmgjkhkcgcaaDoor.record
open Go.Proofs.YtlhcmgjkhkcgcaaDoor.block (BlockAt keepOf keepOf_le keepOf_ge)

/-- No journal. -/
def NoneAt (u : Value) (w : World) : Prop := u = .pointer none ∨ ∃ p, u = .pointer (some ⟨p, 0, none⟩) ∧ w.cell? ⟨p, 0, none⟩ = some (.pointer none)
theorem NoneAt.keep {u : Value} {w w' : World} (h : NoneAt u w) (ht : Turns nobody w w') : NoneAt u w' := by
  rcases h with h | ⟨p, h1, h2⟩
  · exact Or.inl h
  · exact Or.inr ⟨p, h1, (ht.cell (p := ⟨p, 0, none⟩) (lt_of_cell' h2) (fun h => h)).trans h2⟩
theorem none_true (u : Value) (w : World) (h : NoneAt u w) : Calls Tryd.prog 77 #[u] w fun e w' => e = .returned (.bool true) ∧ w = w' := by
  rcases h with rfl | ⟨p, rfl, h⟩
  · exact none_nil w
  · exact none_zero p w h
theorem sync_none (u : Value) (w : World) (h : NoneAt u w) : Calls Tryd.prog 29 #[u] w fun e w' => e = .returned (.int .i64 0) ∧ w = w' := by
  have hn := none_true u w h
  clear h
  go_enter Tryd.func29, Tryd.ntmps29
  go_wp2_with (go_at_call 77; refine hn.mono ?_; rintro e w' ⟨rfl, rfl⟩)
  go_ret
  exact ⟨rfl, rfl⟩
theorem len_none (u : Value) (w : World) (h : NoneAt u w) : Calls Tryd.prog 38 #[u] w fun e w' => e = .returned (.int .i64 0) ∧ w = w' := by
  have hn := none_true u w h
  clear h
  go_enter Tryd.func38, Tryd.ntmps38
  go_wp2_with (go_at_call 77; refine hn.mono ?_; rintro e w' ⟨rfl, rfl⟩)
  go_ret
  exact ⟨rfl, rfl⟩
theorem safe_none (u : Value) (w : World) (h : NoneAt u w) : Calls Tryd.prog 30 #[u] w fun e w' => e = .returned (.int .i64 0) ∧ w = w' := by
  have hn := none_true u w h
  clear h
  go_enter Tryd.func30, Tryd.ntmps30
  go_wp2_with (go_at_call 77; refine hn.mono ?_; rintro e w' ⟨rfl, rfl⟩)
  go_ret
  exact ⟨rfl, rfl⟩
theorem size_none (u : Value) (w : World) (h : NoneAt u w) : Calls Tryd.prog 39 #[u] w fun e w' => e = .returned (.int .i64 0) ∧ w = w' := by
  have hn := none_true u w h
  clear h
  go_enter Tryd.func39, Tryd.ntmps39
  go_wp2_with (go_at_call 77; refine hn.mono ?_; rintro e w' ⟨rfl, rfl⟩)
  go_ret
  exact ⟨rfl, rfl⟩
theorem crash_none (u : Value) (k : Int) (w : World) (h : NoneAt u w) : Calls Tryd.prog 31 #[u, .int .i64 k] w fun e w' => e = .returned (.slice none 0 0) ∧ w = w' := by
  have hn := none_true u w h
  clear h
  go_enter Tryd.func31, Tryd.ntmps31
  go_wp2_with (go_at_call 77; refine hn.mono ?_; rintro e w' ⟨rfl, rfl⟩)
  go_ret
  exact ⟨rfl, rfl⟩
theorem append_none (u : Value) (K : Int) (b : ByteArray) (w : World) (h : NoneAt u w) : Calls Tryd.prog 28 #[u, recV K b] w fun e w' => e = .returned (.int .i64 8) ∧ Turns nobody w w' := by
  have ta : Turns nobody w (w.alloc (.cells #[.int .i64 K, .string b] 23)) := (Turns.refl _ _).alloc _
  have hn := none_true u _ (h.keep ta)
  have HTA := Lib.hid ta
  clear h ta
  unfold recV
  go_enter Tryd.func28, Tryd.ntmps28
  go_wp2_with (go_at_call 77; refine hn.mono ?_; rintro e w' ⟨rfl, rfl⟩)
  go_ret
  exact ⟨rfl, HTA.out⟩
theorem write_none (u : Value) (s : ByteArray) (w : World) (hn : Calls Tryd.prog 80 #[u] w fun e w' => e = .returned (.bool true) ∧ w = w') : Calls Tryd.prog 33 #[u, .string s] w fun e w' => e = .returned (.int .i64 8) ∧ w = w' := by
  go_enter Tryd.func33, Tryd.ntmps33
  go_wp2_with (go_at_call 80; refine hn.mono ?_; rintro e w' ⟨rfl, rfl⟩)
  go_ret
  exact ⟨rfl, rfl⟩
theorem open_none (u : Value) (w : World) (hn : Calls Tryd.prog 80 #[u] w fun e w' => e = .returned (.bool true) ∧ w = w') : Calls Tryd.prog 26 #[u] w fun e w' => e = .returned (.tuple #[.pointer none, .slice none 0 0]) ∧ w = w' := by
  have hw := write_none u ⟨#[]⟩ w hn
  clear hn
  go_enter Tryd.func26, Tryd.ntmps26
  go_wp2_with (go_at_call 33; refine hw.mono ?_; rintro e w' ⟨rfl, rfl⟩)
  exact bodyPost_ret (results_tmp2 rfl _ _ _) rfl ⟨rfl, rfl⟩

theorem done_nil : Done ⟨([] : List UInt8).toArray⟩ 0 0 := ⟨fun i h => absurd h (Nat.not_lt_zero i), Or.inl ⟨Nat.zero_le _, rfl⟩⟩
/-- A journal in a file without bytes. -/
theorem open_new (q : Nat) (w : World) (h : BlockAt w q [] 0) (ht : crc.TabAt w) :
    Calls Tryd.prog 26 #[.pointer (some ⟨q, 0, none⟩)] w fun e w' => ∃ ao cap P, e = .returned (.tuple #[.pointer (some ⟨P, 0, none⟩), .slice ao 0 cap]) ∧ JAt w' P q [] 0 0 0 ∧ w.heap.size ≤ P ∧ Turns (fun i => i = q) w w' := by
  refine (open_any q [] 0 w h (by simp) ht).mono ?_
  rintro e w' ⟨k, E, v, P, hD, rfl, hj, hsl, hP, hn, t⟩
  obtain ⟨rfl, rfl⟩ := hD.uniq done_nil
  obtain ⟨ao, cap, rfl, -⟩ := Sl.shape hsl
  exact ⟨ao, cap, P, rfl, hj, hP, t⟩
theorem putE_seal : putE 2 nil = 0 := by decide
theorem build_r2 (W : World) : (Instr.build 23 #[(0, .int .i64 2)]).run Tryd.prog W = .ok (.agg #[.int .i64 2, .string nil]) W := by kernel_rfl
set_option maxRecDepth 10000 in
set_option maxHeartbeats 1000000 in
theorem awake_any (w : World) (ht : crc.TabAt w) : Calls Tryd.prog 32 #[] w fun e w' => e = .returned (.bool true) ∧ Turns nobody w w' := by
  have HTB := Lib.hid ht
  have HB := Lib.hid build_r2
  have HQ := Lib.hid (Tab.lt ht)
  obtain ⟨q, hq⟩ : ∃ q, w.heap.size = q := ⟨_, rfl⟩
  have HQQ := Lib.hid hq
  clear ht
  go_enter Tryd.func32, Tryd.ntmps32
  go_wp2_with first
    | (go_at_call 27; refine (block.new_any _).mono ?_; rintro e w1 ⟨rfl, hw1⟩; have hb := (block.new_at hw1).1; rw [hq] at hb ⊢; have HB1 := Lib.hid hb; have HT1 : Hid (Turns nobody w w1) := Lib.hid (by rw [hw1]; exact (Turns.refl _ _).alloc _); clear hw1 hb)
    | (go_at_call 26; refine (open_new q _ HB1.out (Tab.turns HTB.out HT1.out (fun h => h))).mono ?_; rintro e w2 ⟨ao, cap, P, rfl, hj, hP, t2⟩; have HJ := Lib.hid hj; have HT2 := Lib.hid (HT1.out.trans2 t2 (fun i hi => by have := HQQ.out; omega)); have HPP : Hid (w.heap.size ≤ P) := Lib.hid (Nat.le_trans HT1.out.size hP); clear hj hP t2)
    | (with_reducible refine wpList_exec (exec_build _ _ rfl #[(0, .int .i64 2)] (by kernel_rfl) (HB.out _)) rfl ?_)
    | (go_at_call 28; refine (append_ok P q [] 0 0 0 2 nil _ HJ.out (by omega) (by simp) (by decide) (Tab.turns HTB.out HT2.out (fun h => h)) putE_seal).mono ?_; rintro e w3 ⟨rfl, hj, t3⟩; have HJ3 := Lib.hid hj; have HT3 := Lib.hid (HT2.out.trans2 t3 (fun i hi => by have := HQQ.out; have := HPP.out; rcases hi with h | h <;> omega)); clear hj t3)
    | (go_at_call 38; refine (len_any P q 1 0 _ HJ3.out.h).mono ?_; rintro e w' ⟨rfl, rfl⟩)
    | (go_at_call 30; refine (safe_any P q 1 0 _ HJ3.out.h).mono ?_; rintro e w' ⟨rfl, rfl⟩)
    | (go_at_call 29; refine (sync_any P q _ 0 1 0 _ HJ3.out (by omega) (by omega) (by rw [List.nil_append]; decide +kernel)).mono ?_; rintro e w4 ⟨rfl, hj, t4⟩; have HT4 := Lib.hid (HT3.out.trans2 t4 (fun i hi => by have := HQQ.out; have := HPP.out; rcases hi with h | h <;> omega)); clear hj t4)
  go_ret
  exact ⟨rfl, HT4.out⟩
set_option maxRecDepth 10000 in
set_option maxHeartbeats 1000000 in
theorem zero_any (K : Int) (b : ByteArray) (k : Int) (w : World) (ht : crc.TabAt w) : Calls Tryd.prog 10 #[recV K b, .int .i64 k] w fun e w' => e = .returned (.bool true) ∧ Turns nobody w w' := by
  have HTB := Lib.hid ht
  clear ht
  unfold recV
  go_enter Tryd.func10, Tryd.ntmps10
  go_upto_region 4 with fail
  obtain ⟨H, hH⟩ : ∃ H, w.heap.size = H := ⟨_, rfl⟩
  obtain ⟨w0, hw0⟩ : ∃ w0, w0 = ((w.alloc (.cells #[.int .i64 K, .string b] 23)).alloc (.cells #[.pointer none, .int .i64 0, .int .i64 0] 77)).alloc (.cells #[.slice none 0 0, .int .i64 0, .bool false] 79) := ⟨_, rfl⟩
  rw [hH, ← hw0]
  have t0 : Turns nobody w w0 := by rw [hw0]; exact (((Turns.refl _ _).alloc _).alloc _).alloc _
  have hR : w0.heap[H]? = some (.cells #[.int .i64 K, .string b] 23 (0, 0)) := by
    rw [hw0, ← hH]
    have h1 := heap_alloc_new w (.cells #[.int .i64 K, .string b] 23)
    exact heap_newer h1 (((Turns.refl nobody _).alloc _).alloc _) (fun h => h)
  have hJ : w0.heap[H + 1]? = some (.cells #[.pointer none, .int .i64 0, .int .i64 0] 77 (0, 0)) := by
    rw [hw0, ← hH]
    have h1 := heap_alloc_new (w.alloc (.cells #[.int .i64 K, .string b] 23)) (.cells #[.pointer none, .int .i64 0, .int .i64 0] 77)
    rw [World.size_alloc] at h1
    exact heap_newer h1 ((Turns.refl nobody _).alloc _) (fun h => h)
  have hB : w0.heap[H + 1 + 1]? = some (.cells #[.slice none 0 0, .int .i64 0, .bool false] 79 (0, 0)) := by
    rw [hw0, ← hH]
    have h1 := heap_alloc_new ((w.alloc (.cells #[.int .i64 K, .string b] 23)).alloc (.cells #[.pointer none, .int .i64 0, .int .i64 0] 77)) (.cells #[.slice none 0 0, .int .i64 0, .bool false] 79)
    rw [World.size_alloc, World.size_alloc] at h1
    exact h1
  have HZ : Hid (NoneAt (.pointer (some ⟨H + 1, 0, none⟩)) w0) := Lib.hid (Or.inr ⟨_, rfl, cells_of hJ 0 _ rfl⟩)
  have hbn := block.none_zero (H + 1 + 1) w0 (cells_of hB 2 _ rfl)
  have hnn := block.none_nil w0
  have HO1 := Lib.hid (open_none _ w0 hnn)
  have HO2 := Lib.hid (open_none _ w0 hbn)
  have HT0 := Lib.hid t0
  have HR := Lib.hid hR
  have c0 := cells_of hR 0 _ rfl
  have c1 := cells_of hR 1 _ rfl
  clear t0 hR hJ hB hbn hnn hw0
  go_upto_region 5 with (go_at_call 26; refine HO1.out.mono ?_; rintro e w' ⟨rfl, rfl⟩)
  go_upto_region 6 with (go_at_call 26; refine HO2.out.mono ?_; rintro e w' ⟨rfl, rfl⟩)
  clear HO1 HO2
  have HA1 := Lib.hid (append_none (.pointer none) K b w0 (Or.inl rfl))
  have HA2 : Hid (∀ W, NoneAt (.pointer (some ⟨H + 1, 0, none⟩)) W → _) := Lib.hid (fun W hW => append_none (.pointer (some ⟨H + 1, 0, none⟩)) K b W hW)
  unfold recV at HA1 HA2
  go_wp2_with first
    | (go_at_call 28; (with_reducible refine HA1.out.mono ?_); rintro e w1 ⟨rfl, t1⟩; have HT1 := Lib.hid t1; have d0 := cells_of (heap_newer HR.out t1 (fun h => h)) 0 _ rfl; have d1 := cells_of (heap_newer HR.out t1 (fun h => h)) 1 _ rfl; clear t1)
    | (go_at_call 28; (with_reducible refine (HA2.out _ (HZ.out.keep HT1.out)).mono ?_); rintro e w2 ⟨rfl, t2⟩; have HT2 := Lib.hid (HT0.out.trans (HT1.out.trans t2 (fun _ h => h.elim)) (fun _ h => h.elim)); have HZ2 := Lib.hid ((HZ.out.keep HT1.out).keep t2); clear t2)
    | (go_at_call 29; refine (sync_none _ _ (by first | exact Or.inl rfl | exact HZ2.out)).mono ?_; rintro e w' ⟨rfl, rfl⟩)
    | (go_at_call 31; refine (crash_none _ _ _ (by first | exact Or.inl rfl | exact HZ2.out)).mono ?_; rintro e w' ⟨rfl, rfl⟩)
    | (go_at_call 38; refine (len_none _ _ (by first | exact Or.inl rfl | exact HZ2.out)).mono ?_; rintro e w' ⟨rfl, rfl⟩)
    | (go_at_call 30; refine (safe_none _ _ (by first | exact Or.inl rfl | exact HZ2.out)).mono ?_; rintro e w' ⟨rfl, rfl⟩)
    | (go_at_call 39; refine (size_none _ _ (by first | exact Or.inl rfl | exact HZ2.out)).mono ?_; rintro e w' ⟨rfl, rfl⟩)
    | (go_at_call 32; refine (awake_any _ (Tab.turns HTB.out HT2.out (fun h => h))).mono ?_; rintro e w9 ⟨rfl, t9⟩; have HT9 := Lib.hid (HT2.out.trans t9 (fun _ h => h.elim)); clear t9)
  go_ret
  exact ⟨rfl, HT9.out⟩
end Go.Proofs.YtlhcmgjkhkcgcaaDoor.journal
