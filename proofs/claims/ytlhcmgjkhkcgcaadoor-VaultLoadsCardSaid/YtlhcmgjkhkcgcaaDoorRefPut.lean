/- The reference's records. -/
import Derived.Test.YtlhcmgjkhkcgcaaDoorRefRd
namespace Go.Proofs.YtlhcmgjkhkcgcaaDoor.record
open Go.RowKit
open Go.Proofs.YtlhcmgjkhkcgcaaDoor.stepkit Go.Proofs.YtlhcmgjkhkcgcaaDoor.obj Go.Proofs.YtlhcmgjkhkcgcaaDoor.row Go.Proofs.YtlhcmgjkhkcgcaaDoor.mix Go.Proofs.YtlhcmgjkhkcgcaaDoor.idkit Go.Proofs.YtlhcmgjkhkcgcaaDoor.bytes Go.Proofs.YtlhcmgjkhkcgcaaDoor.octet

theorem putL_cat (k : Nat) (b : ByteArray) : (ByteArray.mk (be4 b.size).toArray ++ innerB k b) ++ ByteArray.mk (be4 (crcOf k b)).toArray = ⟨(putL k b).toArray⟩ := by
  apply ByteArray.ext
  apply Array.ext'
  unfold putL
  simp
set_option maxRecDepth 10000 in
set_option maxHeartbeats 1000000 in
theorem refput_any (K : Int) (b : ByteArray) (w : World) (hb : b.size ≤ 140737488351232) :
    Calls Tryd.prog 18 #[recV K b] w fun e w' => e = .returned (.tuple #[.string (putS K b), .int .i64 (putE K b)]) ∧ Turns nobody w w' := by
  unfold recV
  by_cases hk : 1 ≤ K ∧ K ≤ 3
  · have hk1 : ¬ K < 1 := by omega
    have hk3 : ¬ (3 : Int) < K := by omega
    by_cases hbig : 1048576 < b.size
    · have hE : putE K b = 3 := by unfold putE; rw [if_neg (by simpa using hk), if_pos hbig]
      have hS : putS K b = nil := by unfold putS; rw [hE]; rfl
      rw [hS, hE]
      have hbi : (1048576 : Int) < (b.size : Int) := by omega
      clear hE hS hk hb hbig
      go_enter Tryd.func18, Tryd.ntmps18
      go_wp2
      exact bodyPost_ret (v := .tuple #[.string nil, .int .i64 3]) (by simp [results, Tryd.results18, go_sem, nil]) rfl ⟨rfl, (Turns.refl _ _).alloc _⟩
    · have hE : putE K b = 0 := by unfold putE; rw [if_neg (by simpa using hk), if_neg hbig]
      obtain ⟨k, rfl⟩ : ∃ k : Nat, K = (k : Int) := ⟨K.toNat, by omega⟩
      have hS : putS k b = ⟨(putL k b).toArray⟩ := by unfold putS; rw [hE]; rfl
      rw [hS, hE, ← putL_cat]
      have hbi : ¬ (1048576 : Int) < (b.size : Int) := by omega
      have hin := fun W => refinner_any k b (by omega) (by omega) W
      have hisz := inner_size k b
      have hcrc := crc_lt k b
      have hsm := fun W => crc.refAdd_any 0#32 0 (innerB k b) W rfl (by rw [hisz]; unfold maxLen; omega)
      rw [show ((crc.add 0#32 (innerB k b).data.toList).toNat : Int) = (crcOf k b : Int) from rfl] at hsm
      have hn1 := fun W => refnum11_any b.size W (by omega)
      have hn2 := fun W => refnum11_any (crcOf k b) W hcrc
      have hcw : IntKind.i64.wrap (crcOf k b : Int) = (crcOf k b : Int) := IntWalk.i64_in _ (by omega)
      generalize crcOf k b = c at *
      generalize innerB k b = I at *
      have hs1 := bytes_size (be4 b.size)
      have hs2 := bytes_size (be4 c)
      rw [be4_len] at hs1 hs2
      generalize ByteArray.mk (be4 b.size).toArray = X at *
      generalize ByteArray.mk (be4 c).toArray = Y at *
      have hiz : I.size ≤ 2000000 := by omega
      have HIN := Lib.hid hin
      have HSM := Lib.hid hsm
      have HN1 := Lib.hid hn1
      have HN2 := Lib.hid hn2
      have HIS := Lib.hid hisz
      have HH := Lib.hid (heap_alloc_new w (.cells #[.int .i64 (k : Int), .string b] 23))
      have HT := Lib.hid ((Turns.refl nobody w).alloc (.cells #[.int .i64 (k : Int), .string b] 23))
      unfold recV at HIN
      clear hE hS hk hb hbig hin hisz hcrc hsm hn1 hn2
      go_enter Tryd.func18, Tryd.ntmps18
      go_wp2_with first
        | (go_at_call 69; refine (HIN.out _).mono ?_; rintro e w1 ⟨rfl, t1⟩; have d0 := cells_of (heap_newer HH.out t1 (fun h => h)) 0 _ rfl; have d1 := cells_of (heap_newer HH.out t1 (fun h => h)) 1 _ rfl; have HT1 := Lib.hid (HT.out.trans t1 (fun _ h => h.elim)); clear t1)
        | (go_at_call 71; refine (HSM.out _).mono ?_; rintro e w' ⟨rfl, rfl⟩)
        | (go_at_call 70; have HT2b := HT2; refine (HN2.out _).mono ?_; rintro e w3 ⟨rfl, t3⟩; have HT3 := Lib.hid (HT2.out.trans t3 (fun _ h => h.elim)); clear t3)
        | (go_at_call 70; refine (HN1.out _).mono ?_; rintro e w2 ⟨rfl, t2⟩; have HT2 := Lib.hid (HT1.out.trans t2 (fun _ h => h.elim)); clear t2)
      exact bodyPost_ret (v := .tuple #[.string (X ++ I ++ Y), .int .i64 0]) (by simp [results, Tryd.results18, go_sem]) rfl ⟨rfl, HT3.out⟩
  · have hE : putE K b = 10 := by unfold putE; rw [if_pos hk]
    have hS : putS K b = nil := by unfold putS; rw [hE]; rfl
    rw [hS, hE]
    have hk' : K < 1 ∨ (¬ K < 1 ∧ (3 : Int) < K) := by omega
    clear hE hS hk hb
    rcases hk' with hk | ⟨hk1, hk2⟩
    all_goals
      go_enter Tryd.func18, Tryd.ntmps18
      go_wp2
      exact bodyPost_ret (v := .tuple #[.string nil, .int .i64 10]) (by simp [results, Tryd.results18, go_sem, nil]) rfl ⟨rfl, (Turns.refl _ _).alloc _⟩
end Go.Proofs.YtlhcmgjkhkcgcaaDoor.record
