/- The iterator of a text's records. -/
import Derived.RangeFuncNested
import Derived.RangeFuncBound
import Derived.RangeFuncCalls
import Derived.RangeFuncLeaves
import Derived.Shelf.Abstract
import Derived.Shelf.RegionOpen
import Derived.WalkKit
import Derived.OwnWalkIn
import Derived.TacticsInMore
import Derived.LoopNIn
import Derived.LoopIn
import Derived.Test.YtlhcmgjkhkcgcaaDoorRound
import Derived.Test.YtlhcmgjkhkcgcaaDoorRecWalk
namespace Go.Proofs.YtlhcmgjkhkcgcaaDoor.record
open Go.RowKit Go.Shelf
open Go.Proofs.YtlhcmgjkhkcgcaaDoor.stepkit Go.Proofs.YtlhcmgjkhkcgcaaDoor.obj Go.Proofs.YtlhcmgjkhkcgcaaDoor.row Go.Proofs.YtlhcmgjkhkcgcaaDoor.mix Go.Proofs.YtlhcmgjkhkcgcaaDoor.idkit Go.Proofs.YtlhcmgjkhkcgcaaDoor.bytes Go.Proofs.YtlhcmgjkhkcgcaaDoor.octet Go.Proofs.YtlhcmgjkhkcgcaaDoor.eqkit Go.Proofs.YtlhcmgjkhkcgcaaDoor.round

theorem build_step (K : Int) (B : ByteArray) (n e : Int) (W : World) : (Instr.build 138 #[(0, .agg #[.int .i64 K, .string B]), (1, .int .i64 n), (2, .int .i64 e)]).run Tryd.prog W = .ok (.agg #[.int .i64 K, .string B, .int .i64 n, .int .i64 e]) W := by kernel_rfl
def encStep (s : ByteArray) (i : Nat) : Array Value := #[.agg #[.int .i64 (nxK s (pos s i : Nat)), .string (nxB s (pos s i : Nat)), .int .i64 (nxN s (pos s i : Nat)), .int .i64 (nxE s (pos s i : Nat))]]
def SAll (s : ByteArray) (xs : List Nat) : Prop := ∃ k, xs = List.range k ∧ ((Ok s k ∧ s.size ≤ pos s k) ∨ (∃ j, k = j + 1 ∧ Ok s j ∧ pos s j < s.size ∧ nxE s (pos s j : Nat) ≠ 0))
def SPart (s : ByteArray) (pre : List Nat) : Prop := ∃ j, pre = List.range (j + 1) ∧ Ok s j ∧ pos s j < s.size
def But (n B : Nat) : Nat → Prop := fun i => n ≤ i ∧ i ≠ B
theorem grown_none {a b : World} (t : Turns nobody a b) : a.grownBy b none := ⟨t.os, t.tape, t.output, t.size, fun k hk _ => t.block k hk (fun h => h)⟩

set_option maxRecDepth 10000 in
set_option maxHeartbeats 1000000 in
theorem each_stops (n : Nat) (hn : 1 ≤ n) (s : ByteArray) (hs : s.size ≤ 16777216) (n0 B : Nat) (w0 : World) (hB : w0.cell? ⟨B, 0, none⟩ = some (.string s)) (ht : crc.TabAt w0) (htb : 0 < n0) (h0 : n0 ≤ w0.heap.size) :
    SeqStopsK Fence.wide n Tryd.prog 104 #[.pointer (some ⟨B, 0, none⟩)] (encStep s) (fun W W' => Turns (But n0 B) W W') (SAll s) (SPart s) s.size w0 := by
  intro l J Jx W hW hJ hJx hY hJ0
  have hBW : W.cell? ⟨B, 0, none⟩ = some (.string s) := (hW.cell (p := ⟨B, 0, none⟩) (lt_of_cell' hB)).trans hB
  have htW : crc.TabAt W := fun i hi => (hW.cell (p := ⟨0, i, none⟩) (lt_of_cell' (ht i hi))).trans (ht i hi)
  have HBW := Lib.hid hBW
  have HTB := Lib.hid htW
  have HBS := Lib.hid (show B < W.heap.size from lt_of_cell' hBW)
  have HNS := Lib.hid (show n0 ≤ W.heap.size from Nat.le_trans h0 hW.size)
  clear hBW htW hB ht hW h0 w0
  refine callsIn_of_wp Tryd.func104 rfl trivial ?_
  simp only [Tryd.ntmps104, List.size_toArray, List.length_cons, List.length_nil, Nat.reduceAdd, Nat.reduceSub, Array.replicate_succ, Array.replicate_zero, List.push_toArray, List.append_toArray, List.nil_append, List.cons_append]
  gi_wp2
  gi_loopw [3] (fun p wr => ∃ k : Nat, p = .int .i64 (pos s k : Int) ∧ Ok s k ∧ J (List.range k) wr ∧ Turns (But n0 B) W wr)
    (fun p wr => s.size - (intOf p).toNat)
  case atStart => exact ⟨0, rfl, Ok.zero s, hJ0, Turns.refl _ _⟩
  case round =>
    obtain ⟨k, rfl, hok, hj, htr⟩ := hrel
    rcases Nat.lt_or_ge (pos s k) s.size with hlt | hge
    · have hltI : (pos s k : Int) < (s.size : Int) := by omega
      have hks : (List.range k).length < s.size := by rw [List.length_range]; exact hok.lt hlt
      have hcb : wr.cell? ⟨B, 0, none⟩ = some (.string s) := (htr.cell (p := ⟨B, 0, none⟩) HBS.out (fun h => h.2 rfl)).trans HBW.out
      have htb2 : crc.TabAt wr := Tab.turns HTB.out htr (fun h => by have := h.1; omega)
      have hnx := next_any s (pos s k : Nat) wr hs htb2
      have hyy : ∀ W1, J (List.range k) W1 → YieldAt Fence.wide (n - 1) Tryd.prog l #[.agg #[.int .i64 (nxK s (pos s k : Nat)), .string (nxB s (pos s k : Nat)), .int .i64 (nxN s (pos s k : Nat)), .int .i64 (nxE s (pos s k : Nat))]] W1 _ := fun W1 h1 => hY (List.range k) k W1 h1 hks
      rw [← List.range_succ] at hyy
      unfold recV at hnx
      obtain ⟨E, hE⟩ : ∃ E, nxE s (pos s k : Nat) = E := ⟨_, rfl⟩
      have hps : E = 0 → nxN s (pos s k : Nat) = (pos s (k + 1) : Int) ∧ pos s k + 9 ≤ pos s (k + 1) := fun h => pos_succ (hE.trans h)
      rw [hE] at hnx hyy
      obtain ⟨nn, hnn⟩ : ∃ nn, nxN s (pos s k : Nat) = nn := ⟨_, rfl⟩
      rw [hnn] at hnx hyy hps
      generalize nxB s (pos s k : Nat) = b at hnx hyy
      generalize (nxK s (pos s k : Nat) : Int) = K at hnx hyy
      have HE := Lib.hid hE
      have HPS := Lib.hid hps
      have HNX := Lib.hid hnx
      have HYY := Lib.hid hyy
      have HOK := Lib.hid hok
      have HTR := Lib.hid htr
      have HLT := Lib.hid hlt
      have HJ := Lib.hid hj
      have HBD := fun W => build_step K b nn E W
      clear hE hps hnx hyy hok htr hlt hj hks htb2 hnn
      obtain ⟨p, hp⟩ : ∃ p, pos s k = p := ⟨_, rfl⟩
      rw [hp] at hltI HNX HPS ⊢
      have HP := Lib.hid hp
      clear hp
      gi_wp2_with first
        | (refine ⟨trivial, ?_⟩; gi_at_call 19; refine (callsIn_wide.2 HNX.out).mono ?_; rintro e w1 ⟨rfl, t1⟩; have HT1 := Lib.hid t1; clear t1; obtain ⟨fn, tmps, assign, body, hy, hR⟩ := HYY.out (w1.alloc (.cells #[.int .i64 K, .string b] 23)) (hJ _ _ _ none HJ.out (grown_none (HT1.out.alloc _)) (fun r e => by cases e)); have hcb := (HT1.out.cell (p := ⟨B, 0, none⟩) (lt_of_cell' hcb) (fun h => h)).trans hcb)
      refine hR.mono ?_
      clear hy hR
      rintro e W3 (⟨rfl, hJ3, hk3⟩ | ⟨rfl, hJx3⟩)
      · have HJ3 := Lib.hid hJ3
        have t1 : Turns (But n0 B) wr (w1.alloc (.cells #[.int .i64 K, .string b] 23)) := (HT1.out.alloc _).mono (fun _ h => h.elim)
        have HT3 := Lib.hid ((HTR.out.trans t1 (fun _ h => Or.inl h)).trans hk3 (fun _ h => Or.inl h))
        clear hJ3 hk3 t1 HYY HNX
        rcases Nat.eq_zero_or_pos E with hz | hz
        · subst hz
          obtain ⟨h1, h2⟩ := HPS.out rfl
          subst h1
          have H2 := Lib.hid h2
          clear h2
          gi_wp2
          go_roundw
          case rel => exact ⟨k + 1, rfl, HOK.out.succ HLT.out HE.out, HJ3.out, HT3.out⟩
          case measure => have := H2.out; have := HLT.out; have := HP.out; simp [intOf]; omega
        · have hez : ((E : Int) != 0) = true := by simp; omega
          have HZ := Lib.hid hz
          clear hz
          gi_wp2
          refine bodyPost_ret (results_none rfl _ _ _) rfl ?_
          exact ⟨⟨_, rfl⟩, .inl ⟨_, ⟨k + 1, rfl, Or.inr ⟨k, rfl, HOK.out, HLT.out, by rw [HE.out]; have := HZ.out; omega⟩⟩, HJ3.out⟩⟩
      · have HJ3 := Lib.hid hJx3
        clear hJx3 HYY HNX
        gi_wp2
        refine bodyPost_ret (results_none rfl _ _ _) rfl ?_
        exact ⟨⟨_, rfl⟩, .inr ⟨_, ⟨k, rfl, HOK.out, HLT.out⟩, HJ3.out⟩⟩
    · have hgeI : ¬ (pos s k : Int) < (s.size : Int) := by omega
      have hcb : wr.cell? ⟨B, 0, none⟩ = some (.string s) := (htr.cell (p := ⟨B, 0, none⟩) HBS.out (fun h => h.2 rfl)).trans HBW.out
      have HJ := Lib.hid hj
      have HS : Hid (SAll s (List.range k)) := Lib.hid ⟨k, rfl, Or.inl ⟨hok, hge⟩⟩
      clear htr hok hj hge
      gi_wp2
      go_end0
      exact ⟨⟨_, rfl⟩, .inl ⟨_, HS.out, HJ.out⟩⟩
end Go.Proofs.YtlhcmgjkhkcgcaaDoor.record
