/- Records equal; there and back; awake; RecordPuts. -/
import Derived.Test.YtlhcmgjkhkcgcaaDoorRefNext
import Derived.Test.YtlhcmgjkhkcgcaaDoorEqKit
namespace Go.Proofs.YtlhcmgjkhkcgcaaDoor.record
open Go.RowKit
open Go.Proofs.YtlhcmgjkhkcgcaaDoor.stepkit Go.Proofs.YtlhcmgjkhkcgcaaDoor.obj Go.Proofs.YtlhcmgjkhkcgcaaDoor.row Go.Proofs.YtlhcmgjkhkcgcaaDoor.mix Go.Proofs.YtlhcmgjkhkcgcaaDoor.idkit Go.Proofs.YtlhcmgjkhkcgcaaDoor.bytes Go.Proofs.YtlhcmgjkhkcgcaaDoor.octet Go.Proofs.YtlhcmgjkhkcgcaaDoor.eqkit

/-! ### There and back -/
theorem val_be4 (n : Nat) (h : n < 4294967296) : val (be4 n) = n := by
  have e : be4 n = [UInt8.ofNat (n / 2 ^ 24), UInt8.ofNat (n / 2 ^ 16), UInt8.ofNat (n / 2 ^ 8), UInt8.ofNat (n / 2 ^ 0)] := rfl
  rw [e]
  simp [val]
  omega
theorem back {s b : ByteArray} {K : Nat} {r : List UInt8} (hs : s.data.toList = putL K b ++ r) (hK : 1 ≤ K ∧ K ≤ 3) (hb : b.size ≤ 1048576) :
    errOf s = 0 ∧ kOf s = K ∧ bodyOf s = b ∧ n4 s = b.size := by
  have hsz : s.size = b.size + 9 + r.length := by rw [← str_len, hs, List.length_append, putL_len]
  have hp : putL K b ++ r = be4 b.size ++ (UInt8.ofNat K :: (b.data.toList ++ (be4 (crcOf K b) ++ r))) := by
    unfold putL
    rw [inner_list]
    simp
  have hn : n4 s = b.size := by
    unfold n4
    rw [hs, hp, List.take_append_of_le_length (by rw [be4_len]; omega), List.take_of_length_le (by rw [be4_len]; omega), val_be4 _ (by omega)]
  have hd4 : s.data.toList.drop 4 = UInt8.ofNat K :: (b.data.toList ++ (be4 (crcOf K b) ++ r)) := by
    rw [hs, hp, show 4 = (be4 b.size).length from (be4_len _).symm, List.drop_left]
  have hk : kOf s = K := by
    unfold kOf
    rw [hd4]
    simp [val]
    omega
  have hd5 : s.data.toList.drop 5 = b.data.toList ++ (be4 (crcOf K b) ++ r) := by
    rw [show 5 = 4 + 1 from rfl, ← List.drop_drop, hd4]; rfl
  have hbd : bodyOf s = b := by
    apply ByteArray.ext
    apply Array.ext'
    unfold bodyOf
    rw [hn, ext_list s 5 b.size (by omega), hd5, List.take_append_of_le_length (by rw [str_len]; omega), List.take_of_length_le (by rw [str_len]; omega)]
  have hsum : sumOf s = crcOf K b := by
    unfold sumOf
    rw [hn, ← List.drop_drop, hd5, show b.size = b.data.toList.length from (str_len b).symm, List.drop_left, List.take_append_of_le_length (by rw [be4_len]; omega), List.take_of_length_le (by rw [be4_len]; omega), val_be4 _ (crc_lt K b)]
  refine ⟨?_, hk, hbd, hn⟩
  unfold errOf
  rw [hn, hk, hbd, hsum, if_neg (by omega), if_neg (by omega), if_neg (by omega), if_neg (by simpa using hK), if_neg (by simp)]

theorem fieldsRec : (Tryd.prog.fieldsOf 23).toList.map (fun f => (f.type, f.offset, f.name == "_")) = [(3, 0, false), (9, 1, false)] := by kernel_rfl
theorem eq_rec (w : World) (K : Int) (b : ByteArray) : (Op.equalIn 10000 23 (.agg #[.int .i64 K, .string b]) (.agg #[.int .i64 K, .string b])).run Tryd.prog w = .ok true w := by
  rw [run_equalIn_agg _ _ _ _ _ (by kernel_rfl) (by kernel_rfl)]
  have hf := fieldsRec
  generalize (Tryd.prog.fieldsOf 23).toList = fs at hf
  obtain ⟨f0, fs, rfl, g0, hf⟩ := List.map_eq_cons_iff.1 hf
  obtain ⟨f1, fs, rfl, g1, hf⟩ := List.map_eq_cons_iff.1 hf
  obtain rfl := List.map_eq_nil_iff.1 hf
  rw [eqFields_int (by kernel_rfl) Tryd.underlying3 g0 rfl, eqFields_str (by kernel_rfl) Tryd.underlying9 g1 rfl]
  rfl
theorem eq_rec2 (w : World) (K : Int) (b : ByteArray) : (binOp .neq 23 (.agg #[.int .i64 K, .string b]) (.agg #[.int .i64 K, .string b])).run Tryd.prog w = .ok (.bool false) w ∧ (binOp .eql 23 (.agg #[.int .i64 K, .string b]) (.agg #[.int .i64 K, .string b])).run Tryd.prog w = .ok (.bool true) w :=
  run_neq_of_eql (r := true) (eq_rec w K b)

/-! ### awake -/
def xB : ByteArray := ⟨#[120]⟩
theorem put_x : putE 2 xB = 0 ∧ (putS 2 xB).data.toList = putL 2 xB ++ [] := by
  have h : putE 2 xB = 0 := by decide
  refine ⟨h, ?_⟩
  unfold putS
  rw [h]
  simp
theorem put_x_size : (putS 2 xB).size = 10 := by rw [← str_len, put_x.2, List.append_nil, putL_len]; rfl
theorem next_x : nxE (putS 2 xB) 0 = 0 ∧ nxK (putS 2 xB) 0 = 2 ∧ nxB (putS 2 xB) 0 = xB ∧ nxN (putS 2 xB) 0 = 10 := by
  obtain ⟨h1, h2, h3, h4⟩ := back put_x.2 (by omega) (by decide)
  have hE : nxE (putS 2 xB) 0 = 0 := by
    unfold nxE
    rw [if_neg (by omega), Int.toNat_zero, from_zero, h1]
  refine ⟨hE, ?_, ?_, ?_⟩
  · unfold nxK; rw [hE, Int.toNat_zero, from_zero, h2]; rfl
  · unfold nxB; rw [hE, Int.toNat_zero, from_zero, h3]; rfl
  · unfold nxN; rw [hE, Int.toNat_zero, from_zero, h4]; rfl
set_option maxRecDepth 10000 in
theorem awake_any (w : World) (ht : crc.TabAt w) :
    Calls Tryd.prog 16 #[] w fun e w' => e = .returned (.bool true) ∧ Turns nobody w w' := by
  have hput := put_any 2 xB w ht (by decide)
  rw [put_x.1] at hput
  obtain ⟨s, hs⟩ : ∃ s, putS 2 xB = s := ⟨_, rfl⟩
  have hn := next_x
  have hz := put_x_size
  rw [hs] at hput hn hz
  have hnx := fun W hW => next_any s 0 W (by omega) hW
  rw [hn.1, hn.2.1, hn.2.2.1, hn.2.2.2] at hnx
  unfold recV at hput hnx
  have hb2 := fun W => build_rec2 2 xB W
  have HTB := Lib.hid ht
  have HNX := Lib.hid hnx
  have hxb : Hid (xB = ⟨#[120]⟩) := Lib.hid rfl
  clear hs hn hz hnx ht
  go_enter Tryd.func16, Tryd.ntmps16
  rw [← hxb.out]
  go_wp2_with first
    | (go_at_call 17; refine hput.mono ?_; rintro e w1 ⟨rfl, t1⟩; have HT1 := Lib.hid t1; clear t1)
    | (go_at_call 19; refine (HNX.out _ (Tab.turns HTB.out HT1.out (fun h => h))).mono ?_; rintro e w2 ⟨rfl, t2⟩; have HT2 := Lib.hid (HT1.out.trans t2 (fun _ h => h.elim)); clear t2)
  trace_state
  go_ret
  exact ⟨rfl, HT2.out.alloc _⟩
end Go.Proofs.YtlhcmgjkhkcgcaaDoor.record
