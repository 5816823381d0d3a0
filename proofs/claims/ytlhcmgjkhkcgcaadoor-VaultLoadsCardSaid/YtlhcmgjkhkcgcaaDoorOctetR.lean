/- Package octet: what is read. -/
import Derived.Test.YtlhcmgjkhkcgcaaDoorOctet
import Derived.Test.YtlhcmgjkhkcgcaaDoorSlG
namespace Go.Proofs.YtlhcmgjkhkcgcaaDoor.octet
open Go.RowKit
open Go.Proofs.YtlhcmgjkhkcgcaaDoor.stepkit Go.Proofs.YtlhcmgjkhkcgcaaDoor.obj Go.Proofs.YtlhcmgjkhkcgcaaDoor.row Go.Proofs.YtlhcmgjkhkcgcaaDoor.mix Go.Proofs.YtlhcmgjkhkcgcaaDoor.idkit Go.Proofs.YtlhcmgjkhkcgcaaDoor.bytes

def rcs (s : ByteArray) (k : Nat) (bad : Int) : Array Value := #[.string s, .int .i64 k, .int .i64 bad, .bool true]
/-- A reader. -/
def RdAt (p : Nat) (s : ByteArray) (k : Nat) (bad : Int) : (Nat → Prop) → World → Prop := BoxAt p (rcs s k bad) 168
theorem RdAt.c {p : Nat} {s : ByteArray} {k : Nat} {bad : Int} {F : Nat → Prop} {w : World} (h : RdAt p s k bad F w) : w.cell? ⟨p, 0, none⟩ = some (.string s) ∧ w.cell? ⟨p, 1, none⟩ = some (.int .i64 k) ∧ w.cell? ⟨p, 2, none⟩ = some (.int .i64 bad) ∧ w.cell? ⟨p, 3, none⟩ = some (.bool true) :=
  ⟨cells_of h.1 0 _ rfl, cells_of h.1 1 _ rfl, cells_of h.1 2 _ rfl, cells_of h.1 3 _ rfl⟩
theorem local_rd (p : Nat) (s : ByteArray) (k : Nat) (bad : Int) : Local (RdAt p s k bad) := local_box _ _ _

/-- The number of bytes, the greatest first. -/
def val (l : List UInt8) : Nat := l.foldl (fun n c => n * 256 + c.toNat) 0
theorem val_nil : val [] = 0 := rfl
theorem val_snoc (l : List UInt8) (x : UInt8) : val (l ++ [x]) = val l * 256 + x.toNat := by simp [val]
theorem val_go (l : List UInt8) : ∀ n, l.foldl (fun n c => n * 256 + c.toNat) n < (n + 1) * 256 ^ l.length := by
  induction l with
  | nil => intro n; simp
  | cons x l ih =>
    intro n
    have h := ih (n * 256 + x.toNat)
    have := x.toNat_lt
    rw [List.foldl_cons, List.length_cons, Nat.pow_succ, Nat.mul_comm (256 ^ l.length) 256, ← Nat.mul_assoc]
    exact Nat.lt_of_lt_of_le h (Nat.mul_le_mul_right _ (by omega))
theorem val_lt (l : List UInt8) : val l < 256 ^ l.length := by have := val_go l 0; simpa [val] using this
theorem or_byte (a b : Nat) (ha : a < 4294967296) (hb : b < 256) : bits .or .i64 ((a : Int) * 256) (b : Int) = ((a * 256 + b : Nat) : Int) := by
  have h1 : ((a : Int) * 256) = ((a * 256 : Nat) : Int) := by simp
  rw [h1]
  show IntKind.i64.wrap ((BitVec.ofInt 64 ((a * 256 : Nat) : Int) ||| BitVec.ofInt 64 (b : Int)).toNat : Int) = _
  rw [BitVec.ofInt_natCast, BitVec.ofInt_natCast, BitVec.toNat_or, BitVec.toNat_ofNat, BitVec.toNat_ofNat, Nat.mod_eq_of_lt (by omega), Nat.mod_eq_of_lt (by omega)]
  have h2 : a * 256 ||| b = a * 256 + b := by
    have := Nat.shiftLeft_add_eq_or_of_lt (i := 8) (show b < 2 ^ 8 from hb) a
    rw [Nat.shiftLeft_eq] at this
    exact this.symm
  rw [h2]
  exact IntWalk.i64_in _ (by omega)

theorem open_any (s : ByteArray) (w : World) : Calls Tryd.prog 99 #[.string s] w fun e w' => e = .returned (.pointer (some ⟨w.heap.size, 0, none⟩)) ∧ w' = w.alloc (.cells (rcs s 0 0) 168) := by
  have hb : ∀ W : World, (Instr.build 168 #[(0, .string s), (3, .bool true)]).run Tryd.prog W = .ok (.agg #[.string s, .int .i64 0, .int .i64 0, .bool true]) W := fun _ => by kernel_rfl
  go_enter Tryd.func99, Tryd.ntmps99
  go_wp2
  go_ret
  exact ⟨rfl, rfl⟩
theorem open_at {w w' : World} {s : ByteArray} (h : w' = w.alloc (.cells (rcs s 0 0) 168)) : RdAt w.heap.size s 0 0 (fun i => i = w.heap.size) w' ∧ Turns nobody w w' := by
  rw [h]
  exact ⟨⟨heap_alloc_new w _, rfl⟩, (Turns.refl _ _).alloc _⟩
theorem rnone_no (p : Nat) (s : ByteArray) (k : Nat) (bad : Int) (F : Nat → Prop) (w : World) (h : RdAt p s k bad F w) :
    Calls Tryd.prog 114 #[.pointer (some ⟨p, 0, none⟩)] w fun e w' => e = .returned (.bool false) ∧ w = w' := by
  have c3 := h.c.2.2.2
  clear h
  go_enter Tryd.func114, Tryd.ntmps114
  go_wp2
  go_ret
  exact ⟨rfl, rfl⟩
theorem stuck_no (p : Nat) (s : ByteArray) (k : Nat) (F : Nat → Prop) (w : World) (h : RdAt p s k 0 F w) :
    Calls Tryd.prog 113 #[.pointer (some ⟨p, 0, none⟩)] w fun e w' => e = .returned (.bool false) ∧ w = w' := by
  have c2 := h.c.2.2.1
  go_enter Tryd.func113, Tryd.ntmps113
  go_wp2_with (go_at_call 114; refine (rnone_no _ _ _ _ _ _ h).mono ?_; rintro e w' ⟨rfl, rfl⟩)
  go_ret
  exact ⟨rfl, rfl⟩
theorem stuck_yes (p : Nat) (s : ByteArray) (k : Nat) (F : Nat → Prop) (w : World) (h : RdAt p s k 2 F w) :
    Calls Tryd.prog 113 #[.pointer (some ⟨p, 0, none⟩)] w fun e w' => e = .returned (.bool true) ∧ w = w' := by
  have c2 := h.c.2.2.1
  go_enter Tryd.func113, Tryd.ntmps113
  go_wp2_with (go_at_call 114; refine (rnone_no _ _ _ _ _ _ h).mono ?_; rintro e w' ⟨rfl, rfl⟩)
  go_ret
  exact ⟨rfl, rfl⟩
theorem err_any (p : Nat) (s : ByteArray) (k : Nat) (bad : Int) (F : Nat → Prop) (w : World) (h : RdAt p s k bad F w) :
    Calls Tryd.prog 101 #[.pointer (some ⟨p, 0, none⟩)] w fun e w' => e = .returned (.int .i64 bad) ∧ w = w' := by
  have c2 := h.c.2.2.1
  go_enter Tryd.func101, Tryd.ntmps101
  go_wp2_with (go_at_call 114; refine (rnone_no _ _ _ _ _ _ h).mono ?_; rintro e w' ⟨rfl, rfl⟩)
  go_ret
  exact ⟨rfl, rfl⟩
theorem raw_stuck (p : Nat) (s : ByteArray) (k : Nat) (n : Nat) (F : Nat → Prop) (w : World) (h : RdAt p s k 2 F w) :
    Calls Tryd.prog 102 #[.pointer (some ⟨p, 0, none⟩), .int .i64 n] w fun e w' => e = .returned (.string ⟨#[]⟩) ∧ w = w' := by
  go_enter Tryd.func102, Tryd.ntmps102
  go_wp2_with (go_at_call 113; refine (stuck_yes _ _ _ _ _ h).mono ?_; rintro e w' ⟨rfl, rfl⟩)
  go_ret
  exact ⟨rfl, rfl⟩
set_option maxRecDepth 10000 in
theorem raw_short (p : Nat) (s : ByteArray) (k : Nat) (n : Nat) (F : Nat → Prop) (w : World) (h : RdAt p s k 0 F w) (hs : s.size ≤ 16777216) (hk : k ≤ s.size) (hn : s.size < k + n) :
    Calls Tryd.prog 102 #[.pointer (some ⟨p, 0, none⟩), .int .i64 n] w fun e w' => e = .returned (.string ⟨#[]⟩) ∧ Step F (RdAt p s k 2) w w' := by
  have H := Lib.hid h
  have c0 := h.c.1
  have c1 := h.c.2.1
  have c2 := h.c.2.2.1
  have f2 := free_of h.1 2
  have hw : IntKind.i64.wrap ((s.size : Int) - (k : Int)) = (s.size : Int) - k := IntWalk.i64_in _ (by omega)
  have hc : (s.size : Int) - (k : Int) < (n : Int) := by omega
  clear h
  go_enter Tryd.func102, Tryd.ntmps102
  go_wp2_with (go_at_call 113; refine (stuck_no _ _ _ _ _ H.out).mono ?_; rintro e w' ⟨rfl, rfl⟩)
  go_quiet (fail)
  go_wp2
  go_ret
  exact ⟨rfl, BoxAt.set H.out (Turns.drawn ⟨_, rfl⟩) 2 _ rfl⟩
set_option maxRecDepth 10000 in
theorem raw_ok (p : Nat) (s : ByteArray) (k : Nat) (n : Nat) (F : Nat → Prop) (w : World) (h : RdAt p s k 0 F w) (hs : s.size ≤ 16777216) (hn : k + n ≤ s.size) :
    Calls Tryd.prog 102 #[.pointer (some ⟨p, 0, none⟩), .int .i64 n] w fun e w' => e = .returned (.string (s.extract k (k + n))) ∧ Step F (RdAt p s (k + n) 0) w w' := by
  have H := Lib.hid h
  obtain ⟨m, hm⟩ : ∃ m, k + n = m := ⟨_, rfl⟩
  rw [hm] at hn ⊢
  have c0 := h.c.1
  have c1 := h.c.2.1
  have c2 := h.c.2.2.1
  have f1 := free_of h.1 1
  have hw : IntKind.i64.wrap ((s.size : Int) - (k : Int)) = (s.size : Int) - k := IntWalk.i64_in _ (by omega)
  have hc : ¬ (s.size : Int) - (k : Int) < (n : Int) := by omega
  clear h
  go_enter Tryd.func102, Tryd.ntmps102
  go_wp2_with (go_at_call 113; refine (stuck_no _ _ _ _ _ H.out).mono ?_; rintro e w' ⟨rfl, rfl⟩)
  go_quiet (fail)
  go_wp2
  have hmi : (k : Int) + (n : Int) = (m : Int) := by omega
  have hmn : (m : Int) - (n : Int) = (k : Int) := by omega
  have hms : m ≤ s.size := hn
  have hkm : k ≤ m := by omega
  have hmw : IntKind.i64.wrap (k : Int) = k := IntWalk.i64_in _ (by omega)
  rw [hmi]
  obtain ⟨w1, hw1⟩ : ∃ w1, w1 = (w.drewN nq).setCell ⟨p, 1, none⟩ (.int .i64 (m : Int)) := ⟨_, rfl⟩
  have hst : Step F (RdAt p s m 0) w w1 := by rw [hw1]; exact BoxAt.set H.out (Turns.drawn ⟨_, rfl⟩) 1 _ rfl
  have HST := Lib.hid hst
  obtain ⟨F1, ha, _⟩ := hst
  have d0 := ha.c.1
  have d1 := ha.c.2.1
  rw [← hw1]
  clear hw1 ha c0 c1 c2 f1 hc hw hmi hm hn
  go_quiet (fail)
  go_wp2
  go_ret
  exact ⟨rfl, HST.out.still (local_rd _ _ _ _) (Turns.drawn ⟨_, rfl⟩)⟩
/-- A number of one byte or four. -/
theorem num_stuck (p : Nat) (s : ByteArray) (k : Nat) (n : Int) (F : Nat → Prop) (w : World) (h : RdAt p s k 2 F w) :
    Calls Tryd.prog 100 #[.pointer (some ⟨p, 0, none⟩), .int .i64 n] w fun e w' => e = .returned (.int .i64 0) ∧ w = w' := by
  go_enter Tryd.func100, Tryd.ntmps100
  go_wp2_with (go_at_call 113; refine (stuck_yes _ _ _ _ _ h).mono ?_; rintro e w' ⟨rfl, rfl⟩)
  go_ret
  exact ⟨rfl, rfl⟩

theorem conv_slG (w : World) (s : ByteArray) (hs : s.size ≤ maxLen) : ∃ cap W', (convert 9 38 (.string s)).run Tryd.prog w = .ok (.slice (some ⟨w.heap.size, 0, none⟩) s.size cap) W' ∧ SlG W' 5 1 (.slice (some ⟨w.heap.size, 0, none⟩) s.size cap) s.size (bcs s.data.toList) ∧ Turns nobody w W' := by
  refine ⟨_, _, run_bytes_of_string (P := Tryd.prog) w 9 38 5 s Tryd.underlying9 Tryd.underlying38 Tryd.underlying5, ⟨?_, Or.inr ⟨w.heap.size, 0, _, _, _, rfl, heap_alloc_new w.drew _, fun i hi => ?_, grownCap_ge w s.size 0 _, grownCap_le_maxLen w s.size 0 _ hs, ?_, ?_⟩⟩, (Turns.refl _ _).drew.alloc _⟩
  · rw [bcs_len]; simp
  · have hh : (w.drew.alloc (.cells (bytesRow s (grownCap w s.size 0 5)) 5 ((bytesRow s (grownCap w s.size 0 5)).size, (bytesRow s (grownCap w s.size 0 5)).size + 1))).heap[w.heap.size]? = some _ := heap_alloc_new w.drew _
    simp only [World.frozen?, hh]
    simp; omega
  · have hge := grownCap_ge w s.size 0 5
    unfold bytesRow
    simp only [Array.size_append, Array.size_map, Array.size_replicate]
    have : s.data.size = s.size := rfl
    omega
  · unfold bytesRow
    rw [List.drop_zero, Array.toList_append, Nat.mul_one, List.take_append_of_le_length (by simp), List.take_of_length_le (by simp)]
    simp [bcs, bc]
theorem ext_list (s : ByteArray) (k n : Nat) (h : k + n ≤ s.size) : (s.extract k (k + n)).data.toList = (s.data.toList.drop k).take n := by
  simp

set_option maxRecDepth 10000 in
theorem num_core (p j : Nat) (b : Int) (t : ByteArray) (R : World → Prop) (w : World) (hb : ∀ W : World, Calls Tryd.prog 96 #[.int .i64 j] W fun e w' => e = .returned (.int .i64 b) ∧ W = w') (hb0 : (b == 0) = false) (hst : Calls Tryd.prog 113 #[.pointer (some ⟨p, 0, none⟩)] w fun e w' => e = .returned (.bool false) ∧ w = w')
    (hr : Calls Tryd.prog 102 #[.pointer (some ⟨p, 0, none⟩), .int .i64 j] w fun e w' => e = .returned (.string t) ∧ R w') (ht : t.size ≤ 4) :
    Calls Tryd.prog 100 #[.pointer (some ⟨p, 0, none⟩), .int .i64 j] w fun e w' => e = .returned (.int .i64 (val t.data.toList)) ∧ ∃ w2, R w2 ∧ Turns nobody w2 w' := by
  have hcv := fun W => conv_slG W t (by unfold maxLen; omega)
  have htl := str_len t
  have HCV := Lib.hid hcv
  have HTL := Lib.hid htl
  clear hcv htl
  go_enter Tryd.func100, Tryd.ntmps100
  go_wp2_with first
    | (go_at_call 113; refine hst.mono ?_; rintro e w' ⟨rfl, rfl⟩)
    | (go_at_call 96; refine (hb _).mono ?_; rintro e w' ⟨rfl, rfl⟩)
    | (go_at_call 102; refine hr.mono ?_; rintro e w2 ⟨rfl, hR⟩; obtain ⟨cap, w3, h3, s3, t3⟩ := HCV.out w2; have H3 := Lib.hid h3; have S3 := Lib.hid s3; have T3 := Lib.hid t3; clear h3 s3 t3)
    | (refine wpList_exec (exec_conv _ _ _ rfl rfl H3.out) rfl ?_)
  obtain ⟨l, hl⟩ : ∃ l, t.data.toList = l := ⟨_, rfl⟩
  obtain ⟨n, hn⟩ : ∃ n, t.size = n := ⟨_, rfl⟩
  have HL := Lib.hid hl
  have HN := Lib.hid hn
  rw [hl, hn] at S3
  rw [hl, hn] at HTL
  rw [hn] at ht ⊢
  obtain ⟨g, hg⟩ : ∃ g, w2.heap.size = g := ⟨_, rfl⟩
  rw [hg] at S3 ⊢
  clear hl hn hg
  go_loopw [21, 5] (fun i v wr => ∃ q : Nat, q ≤ n ∧ i = .int .i64 q ∧ v = .int .i64 (val (l.take q)) ∧ w3 = wr) (fun i _ _ => n - (intOf i).toNat)
  case atStart => exact ⟨0, by omega, rfl, rfl, rfl⟩
  case round =>
    obtain ⟨q, hq, rfl, rfl, rfl⟩ := hrel
    by_cases hqn : q < n
    · have hc := S3.out.cell q (by rw [bcs_len, HTL.out]; exact hqn)
      rw [bcs_get l q (by rw [HTL.out]; exact hqn), Nat.zero_add] at hc
      have hv : l.take (q + 1) = l.take q ++ [l.getD q 0] := by
        have hql : q < l.length := by rw [HTL.out]; exact hqn
        rw [List.take_add_one, List.getElem?_eq_getElem hql]
        simp [List.getD, hql]
      have hlt := val_lt (l.take q)
      have hlt2 : val (l.take q) < 16777216 := by
        refine Nat.lt_of_lt_of_le hlt ?_
        have : (l.take q).length ≤ 3 := by rw [List.length_take]; omega
        exact Nat.pow_le_pow_right (by decide) this
      generalize hx : l.getD q 0 = x at hc hv
      have hor := or_byte (val (l.take q)) x.toNat (by omega) x.toNat_lt
      rw [← val_snoc, ← hv] at hor
      have HOR := Lib.hid hor
      have hqz : (q : Int) < (n : Int) := by omega
      have hxl := x.toNat_lt
      clear hor hv hlt hx
      generalize val (l.take q) = a at hlt2 HOR
      have hwr : IntKind.i64.wrap ((a : Int) * 256) = (a : Int) * 256 := IntWalk.i64_in _ (by omega)
      go_wp2
      rw [HOR.out]
      exact ⟨⟨q + 1, by omega, by go_num, rfl, trivial⟩, by simp [intOf]; omega⟩
    · obtain rfl : q = n := by omega
      rw [List.take_of_length_le (by rw [HTL.out]; exact Nat.le_refl _)]
      go_wp2
      go_ret
      exact ⟨by rw [HL.out]; rfl, _, hR, T3.out⟩

theorem bits_of (j : Nat) (hj : j = 1 ∨ j = 4) : ∃ b : Int, (b == 0) = false ∧ ∀ W : World, Calls Tryd.prog 96 #[.int .i64 j] W fun e w' => e = .returned (.int .i64 b) ∧ W = w' := by
  rcases hj with rfl | rfl
  · exact ⟨8, rfl, bits_one⟩
  · exact ⟨32, rfl, bits_four⟩
theorem num_ok (p : Nat) (s : ByteArray) (k j : Nat) (F : Nat → Prop) (w : World) (h : RdAt p s k 0 F w) (hj : j = 1 ∨ j = 4) (hs : s.size ≤ 16777216) (hn : k + j ≤ s.size) :
    Calls Tryd.prog 100 #[.pointer (some ⟨p, 0, none⟩), .int .i64 j] w fun e w' => e = .returned (.int .i64 (val ((s.data.toList.drop k).take j))) ∧ Step F (RdAt p s (k + j) 0) w w' := by
  obtain ⟨b, hb0, hb⟩ := bits_of j hj
  refine (num_core p j b _ _ w hb hb0 (stuck_no p s k F w h) (raw_ok p s k j F w h hs hn) (by rw [ByteArray.size_extract]; omega)).mono ?_
  rintro e w' ⟨rfl, w2, h2, t2⟩
  exact ⟨by rw [ext_list s k j hn], h2.still (local_rd _ _ _ _) t2⟩
theorem num_short (p : Nat) (s : ByteArray) (k j : Nat) (F : Nat → Prop) (w : World) (h : RdAt p s k 0 F w) (hj : j = 1 ∨ j = 4) (hs : s.size ≤ 16777216) (hk : k ≤ s.size) (hn : s.size < k + j) :
    Calls Tryd.prog 100 #[.pointer (some ⟨p, 0, none⟩), .int .i64 j] w fun e w' => e = .returned (.int .i64 0) ∧ Step F (RdAt p s k 2) w w' := by
  obtain ⟨b, hb0, hb⟩ := bits_of j hj
  refine (num_core p j b _ _ w hb hb0 (stuck_no p s k F w h) (raw_short p s k j F w h hs hk hn) (by decide)).mono ?_
  rintro e w' ⟨rfl, w2, h2, t2⟩
  exact ⟨rfl, h2.still (local_rd _ _ _ _) t2⟩
end Go.Proofs.YtlhcmgjkhkcgcaaDoor.octet
