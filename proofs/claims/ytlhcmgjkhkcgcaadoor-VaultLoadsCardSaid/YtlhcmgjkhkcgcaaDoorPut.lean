/- A record as bytes: the program's. -/
import Derived.Test.YtlhcmgjkhkcgcaaDoorNext
namespace Go.Proofs.YtlhcmgjkhkcgcaaDoor.record
open Go.RowKit
open Go.Proofs.YtlhcmgjkhkcgcaaDoor.stepkit Go.Proofs.YtlhcmgjkhkcgcaaDoor.obj Go.Proofs.YtlhcmgjkhkcgcaaDoor.row Go.Proofs.YtlhcmgjkhkcgcaaDoor.mix Go.Proofs.YtlhcmgjkhkcgcaaDoor.idkit Go.Proofs.YtlhcmgjkhkcgcaaDoor.bytes Go.Proofs.YtlhcmgjkhkcgcaaDoor.octet

/-- Why a record is none that may be put; nought: it may. -/
def putE (K : Int) (b : ByteArray) : Nat := if ¬ (1 ≤ K ∧ K ≤ 3) then 10 else if 1048576 < b.size then 3 else 0
def putL (K : Nat) (b : ByteArray) : List UInt8 := (([] ++ be4 b.size) ++ (innerB K b).data.toList) ++ be4 (crcOf K b)
def putS (K : Int) (b : ByteArray) : ByteArray := if putE K b = 0 then ⟨(putL K.toNat b).toArray⟩ else nil
theorem putL_len (K : Nat) (b : ByteArray) : (putL K b).length = b.size + 9 := by
  unfold putL
  rw [List.length_append, List.length_append, List.nil_append, be4_len, be4_len, str_len, inner_size]; omega

/-- A writer made since. -/
def PS (w : World) (p : Nat) (l : List UInt8) (W : World) : Prop := ∃ F, WrAt p l F W ∧ (∀ i, F i → w.heap.size ≤ i) ∧ Turns nobody w W
theorem PS.t {w W : World} {p : Nat} {l : List UInt8} (h : PS w p l W) : Turns nobody w W := by obtain ⟨_, _, _, h⟩ := h; exact h
theorem PS.step {w W W' : World} {p : Nat} {l' : List UInt8} {F : Nat → Prop} (hF : ∀ i, F i → w.heap.size ≤ i) (ht : Turns nobody w W) (h : Step F (WrAt p l') W W') : PS w p l' W' := by
  obtain ⟨F', a, t, n⟩ := h
  refine ⟨F', a, fun i hi => ?_, ht.trans t (fun i hi => Or.inr (hF i hi))⟩
  rcases n i hi with h | h
  · exact hF i h
  · exact Nat.le_trans ht.size h
theorem PS.still {w W W' : World} {p : Nat} {l : List UInt8} (h : PS w p l W) (ht : Turns nobody W W') : PS w p l W' := by
  obtain ⟨F, a, n, t⟩ := h
  exact ⟨F, (local_wr p l).keep a ht (fun _ _ h => h), n, t.trans ht (fun _ h => h.elim)⟩
theorem PS.new (w : World) : Calls Tryd.prog 64 #[] w fun e w' => e = .returned (.pointer (some ⟨w.heap.size, 0, none⟩)) ∧ PS w w.heap.size [] w' := by
  refine (octet.new_any w).mono ?_
  rintro e w' ⟨rfl, rfl⟩
  refine ⟨rfl, _, new_wr w, fun i hi => ?_, (Turns.refl _ _).alloc _⟩
  rcases hi with h | h
  · omega
  · cases h
theorem PS.num {w W : World} {p : Nat} {l : List UInt8} (h : PS w p l W) (n : Nat) (hn : n < 4294967296) (hl : l.length ≤ 16777216) :
    Calls Tryd.prog 65 #[.pointer (some ⟨p, 0, none⟩), .int .i64 n, .int .i64 4] W fun e w' => e = .returned (.pointer (some ⟨p, 0, none⟩)) ∧ PS w p (l ++ be4 n) w' := by
  obtain ⟨F, a, hF, t⟩ := h
  exact (num_any p l n F W a hn hl).mono fun e w' ⟨he, hs⟩ => ⟨he, PS.step hF t hs⟩
theorem PS.raw {w W : World} {p : Nat} {l : List UInt8} (h : PS w p l W) (s : ByteArray) (hl : l.length + s.size ≤ 16777216) :
    Calls Tryd.prog 66 #[.pointer (some ⟨p, 0, none⟩), .string s] W fun e w' => e = .returned (.pointer (some ⟨p, 0, none⟩)) ∧ PS w p (l ++ s.data.toList) w' := by
  obtain ⟨F, a, hF, t⟩ := h
  exact (octet.raw_any p l s F W a hl).mono fun e w' ⟨he, hs⟩ => ⟨he, PS.step hF t hs⟩
theorem PS.done {w W : World} {p : Nat} {l : List UInt8} (h : PS w p l W) :
    Calls Tryd.prog 68 #[.pointer (some ⟨p, 0, none⟩)] W fun e w' => e = .returned (.tuple #[.string ⟨l.toArray⟩, .int .i64 0]) ∧ W = w' := by
  obtain ⟨F, a, _⟩ := h
  exact done_any p l F W a

set_option maxRecDepth 10000 in
set_option maxHeartbeats 1000000 in
theorem put_any (K : Int) (b : ByteArray) (w : World) (ht : crc.TabAt w) (hb : b.size ≤ 9223372036854775807) :
    Calls Tryd.prog 17 #[recV K b] w fun e w' => e = .returned (.tuple #[.string (putS K b), .int .i64 (putE K b)]) ∧ Turns nobody w w' := by
  have hkn := fun W => known_any K W
  unfold recV
  by_cases hk : 1 ≤ K ∧ K ≤ 3
  · rw [decide_eq_true hk] at hkn
    have HKN := Lib.hid hkn
    by_cases hbig : 1048576 < b.size
    · have hE : putE K b = 3 := by unfold putE; rw [if_neg (by simpa using hk), if_pos hbig]
      have hS : putS K b = nil := by unfold putS; rw [hE]; rfl
      rw [hS, hE]
      have hbi : (1048576 : Int) < (b.size : Int) := by omega
      clear hE hS hk hkn hb ht hbig
      go_enter Tryd.func17, Tryd.ntmps17
      go_wp2_with (go_at_call 62; refine (HKN.out _).mono ?_; rintro e w' ⟨rfl, rfl⟩)
      exact bodyPost_ret (v := .tuple #[.string nil, .int .i64 3]) (by simp [results, Tryd.results17, go_sem, nil]) rfl ⟨rfl, (Turns.refl _ _).alloc _⟩
    · have hE : putE K b = 0 := by unfold putE; rw [if_neg (by simpa using hk), if_neg hbig]
      obtain ⟨k, rfl⟩ : ∃ k : Nat, K = (k : Int) := ⟨K.toNat, by omega⟩
      have hS : putS k b = ⟨(putL k b).toArray⟩ := by unfold putS; rw [hE]; rfl
      rw [hS, hE]
      have hbi : ¬ (1048576 : Int) < (b.size : Int) := by omega
      obtain ⟨H, hH⟩ : ∃ H, w.heap.size = H := ⟨_, rfl⟩
      have hin := fun W => inner_any k b (by omega) (by omega) W
      have hisz := inner_size k b
      have hcrc := crc_lt k b
      have hsm := fun W hW => crc.sum_any (innerB k b) W (by rw [hisz]; unfold maxLen; omega) hW
      rw [show ((crc.add 0#32 (innerB k b).data.toList).toNat : Int) = (crcOf k b : Int) from rfl] at hsm
      have hpl : putL k b = (([] ++ be4 b.size) ++ (innerB k b).data.toList) ++ be4 (crcOf k b) := rfl
      have hil := str_len (innerB k b)
      generalize putL k b = pl at *
      generalize crcOf k b = c at *
      generalize innerB k b = I at *
      have HIN := Lib.hid hin
      have HSM := Lib.hid hsm
      have HPL := Lib.hid hpl
      have HC := Lib.hid hcrc
      have HIS := Lib.hid hisz
      have HIL := Lib.hid hil
      have HTB := Lib.hid ht
      have hbs : b.size ≤ 1048576 := by omega
      unfold recV at HIN
      clear hE hS hk hkn hb ht hbig hin hisz hcrc hsm hpl hil
      go_enter Tryd.func17, Tryd.ntmps17
      go_wp2_with first
        | (go_at_call 62; refine (HKN.out _).mono ?_; rintro e w' ⟨rfl, rfl⟩)
        | (go_at_call 63; refine (HIN.out _).mono ?_; rintro e w1 ⟨rfl, t1⟩; have HT1 := Lib.hid (((Turns.refl nobody w).alloc (.cells #[.int .i64 (k : Int), .string b] 23)).trans t1 (fun _ h => h.elim)); have HC1 := Lib.hid (heap_newer (heap_alloc_new w (.cells #[.int .i64 (k : Int), .string b] 23)) t1 (fun h => h)); clear t1)
      rw [hH] at HC1
      have hHl : H < w1.heap.size := lt_of_block HC1.out
      refine wp_region_mix [(1, true, true), (2, true, true), (3, true, true), (5, true, true), (7, true, true), (0, false, true), (4, false, true), (6, false, true), (8, false, true), (9, true, true), (10, false, true), (11, false, true), (12, true, true), (13, true, true), (14, true, true), (15, true, true)] (fun W => W.heap[H]? = some (.cells #[.int .i64 (k : Int), .string b] 23 (0, 0))) (by kernel_rfl) (by kernel_rfl) (HC1.out) ?_
      simp only [picked, List.filterMap_cons, List.filterMap_nil, List.getElem?_toArray, List.getElem?_cons_zero, List.getElem?_cons_succ, Option.map_some]
      repeat (refine mix_free (v := ?_) rfl ?_ ?_; rotate_left; (focus (intro w' hI; have d0 := cells_of hI 0 _ rfl; have d1 := cells_of hI 1 _ rfl; clear hI; go_simp; try with_reducible rfl)); simp only [Act.put, List.setIfInBounds_toArray, List.set_cons_zero, List.set_cons_succ])
      obtain ⟨w2, hw2⟩ : ∃ w2, w2 = w1.drew := ⟨_, rfl⟩
      have hc2 : w2.heap[H]? = some (.cells #[.int .i64 (k : Int), .string b] 23 (0, 0)) := by rw [hw2]; exact HC1.out
      have t2 : Turns nobody w1 w2 := by rw [hw2]; exact (Turns.refl _ _).drew
      obtain ⟨P, hP⟩ : ∃ P, w2.heap.size = P := ⟨_, rfl⟩
      have hnew := PS.new w2
      rw [hP] at hnew
      have HC2 := Lib.hid hc2
      have HT2 : Hid (Turns nobody w w2) := Lib.hid (HT1.out.trans t2 (fun _ h => h.elim))
      have hinv : ∀ l W, PS w2 P l W → W.heap[H]? = some (.cells #[.int .i64 (k : Int), .string b] 23 (0, 0)) := fun l W h => heap_newer HC2.out h.t (fun h => h)
      have HINV := Lib.hid hinv
      rw [← hw2]
      clear hw2 hc2 t2 hinv hP HT1 HC1 hHl
      refine mix_big rfl (fun K1 hK => ?_)
      go_wp2_with (go_at_call 64; refine hnew.mono ?_; rintro e w3 ⟨rfl, q3⟩)
      refine hK _ _ (fun _ => HINV.out _ _ q3) ?_
      clear hK K1 hnew
      refine mix_big rfl (fun K1 hK => ?_)
      go_wp2_with (go_at_call 65; refine (q3.num b.size (by omega) (by simp)).mono ?_; rintro e w4 ⟨rfl, q4⟩)
      refine hK _ _ (fun _ => HINV.out _ _ q4) ?_
      clear hK K1 q3
      refine mix_big rfl (fun K1 hK => ?_)
      go_wp2_with (go_at_call 66; refine (q4.raw I (by have := HIS.out; rw [List.nil_append, be4_len]; omega)).mono ?_; rintro e w5 ⟨rfl, q5⟩)
      refine hK _ _ (fun _ => HINV.out _ _ q5) ?_
      clear hK K1 q4
      refine mix_big rfl (fun K1 hK => ?_)
      go_wp2_with (go_at_call 67; refine (HSM.out _ (Tab.turns HTB.out (HT2.out.trans q5.t (fun _ h => h.elim)) (fun h => h))).mono ?_; rintro e w6 ⟨rfl, hw6⟩; have q6 := q5.still (Turns.drawn hw6); clear hw6)
      refine hK _ _ (fun _ => HINV.out _ _ q6) ?_
      clear hK K1 q5
      have hcw : IntKind.i64.wrap (c : Int) = c := by have := HC.out; exact IntWalk.i64_in _ (by omega)
      (refine mix_free (v := ?_) rfl ?_ ?_; rotate_left; (focus (intro w' hI; clear hI; go_simp; try with_reducible rfl)); simp only [Act.put, List.setIfInBounds_toArray, List.set_cons_zero, List.set_cons_succ])
      refine mix_big rfl (fun K1 hK => ?_)
      go_wp2_with (go_at_call 65; refine (q6.num c HC.out (by have := HIS.out; have := HIL.out; rw [List.nil_append, List.length_append, be4_len]; omega)).mono ?_; rintro e w7 ⟨rfl, q7⟩)
      refine hK _ _ (fun _ => HINV.out _ _ q7) ?_
      clear hK K1 q6
      rw [← HPL.out] at q7
      refine mix_big rfl (fun K1 hK => ?_)
      go_wp2_with (go_at_call 68; refine (q7.done).mono ?_; rintro e w' ⟨rfl, rfl⟩)
      refine hK _ _ (fun _ => HINV.out _ _ q7) ?_
      clear hK K1
      repeat (refine mix_free (v := ?_) rfl ?_ ?_; rotate_left; (focus (intro w' hI; clear hI; go_simp; try with_reducible rfl)); simp only [Act.put, List.setIfInBounds_toArray, List.set_cons_zero, List.set_cons_succ])
      refine mix_nil ?_
      go_wp2
      exact bodyPost_ret (v := .tuple #[.string ⟨pl.toArray⟩, .int .i64 0]) (by simp [results, Tryd.results17, go_sem]) rfl ⟨rfl, HT2.out.trans q7.t (fun _ h => h.elim)⟩
  · rw [decide_eq_false hk] at hkn
    have HKN := Lib.hid hkn
    have hE : putE K b = 10 := by unfold putE; rw [if_pos hk]
    have hS : putS K b = nil := by unfold putS; rw [hE]; rfl
    rw [hS, hE]
    clear hE hS hk hkn hb ht
    go_enter Tryd.func17, Tryd.ntmps17
    go_wp2_with (go_at_call 62; refine (HKN.out _).mono ?_; rintro e w' ⟨rfl, rfl⟩)
    exact bodyPost_ret (v := .tuple #[.string nil, .int .i64 10]) (by simp [results, Tryd.results17, go_sem, nil]) rfl ⟨rfl, (Turns.refl _ _).alloc _⟩
end Go.Proofs.YtlhcmgjkhkcgcaaDoor.record
