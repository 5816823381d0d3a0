/- RecordTurned. -/
import Derived.Test.YtlhcmgjkhkcgcaaDoorRecTurn
import Derived.Test.YtlhcmgjkhkcgcaaDoorRecAllLaw0
import Derived.Test.YtlhcmgjkhkcgcaaDoorNumKit
import Derived.Laws.IdiomStrings
namespace Go.Proofs.YtlhcmgjkhkcgcaaDoor.record
open Go.RowKit
open Go.Proofs.YtlhcmgjkhkcgcaaDoor.stepkit Go.Proofs.YtlhcmgjkhkcgcaaDoor.obj Go.Proofs.YtlhcmgjkhkcgcaaDoor.row Go.Proofs.YtlhcmgjkhkcgcaaDoor.mix Go.Proofs.YtlhcmgjkhkcgcaaDoor.idkit Go.Proofs.YtlhcmgjkhkcgcaaDoor.bytes Go.Proofs.YtlhcmgjkhkcgcaaDoor.octet Go.Proofs.YtlhcmgjkhkcgcaaDoor.eqkit Go.Proofs.YtlhcmgjkhkcgcaaDoor.argkit
open Go.Proofs.YtlhcmgjkhkcgcaaDoor.crc (nowByte pb nowByte_yes nowByte_no nowByte_zero bit_val burst burst_length)

theorem build_rec0 (W : World) : (Instr.build 23 #[]).run Tryd.prog W = .ok (.agg #[.int .i64 0, .string nil]) W := by kernel_rfl
set_option maxRecDepth 10000 in
set_option maxHeartbeats 1600000 in
theorem turned_any (K : Int) (b : ByteArray) (t : Nat) (p : Int) (w : World) (ht : crc.TabAt w) (hb : b.size ≤ 9223372036854775807) (ht16 : t < 65536) :
    Calls Tryd.prog 4 #[recV K b, .int .u16 t, .int .u32 p] w fun e w' => e = .returned (.bool true) ∧ Turns nobody w w' := by
  obtain ⟨wa, hwa⟩ : ∃ wa, wa = w.alloc (.cells #[.int .i64 K, .string b] 23) := ⟨_, rfl⟩
  have ta : Turns nobody w wa := by rw [hwa]; exact (Turns.refl _ _).alloc _
  obtain ⟨H, hH⟩ : ∃ H, w.heap.size = H := ⟨_, rfl⟩
  have hca : wa.heap[H]? = some (.cells #[.int .i64 K, .string b] 23 (0, 0)) := by rw [hwa, ← hH]; exact heap_alloc_new w _
  have c0 := cells_of hca 0 _ rfl
  have c1 := cells_of hca 1 _ rfl
  have HWA := Lib.hid hwa
  have HTA := Lib.hid ta
  have HCA := Lib.hid hca
  have hput := put_any K b wa (Tab.turns ht ta (fun h => h)) hb
  have HTB := Lib.hid ht
  unfold recV at hput ⊢
  clear hwa ta hca ht hb
  obtain ⟨S, hS⟩ : ∃ S, putS K b = S := ⟨_, rfl⟩
  rw [hS] at hput
  rcases Nat.eq_zero_or_pos (putE K b) with he | he
  · rw [he] at hput
    by_cases hbig : 2000 < S.size
    · have hbI : (2000 : Int) < (S.size : Int) := by omega
      clear he hS hbig
      go_enter Tryd.func4, Tryd.ntmps4
      go_upto_region 1 with fail
      rw [← HWA.out]
      go_wp2_with first
        | (go_at_call 17; refine hput.mono ?_; rintro e w1 ⟨rfl, t1⟩; have HT1 := Lib.hid (HTA.out.trans t1 (fun _ h => h.elim)); clear t1)
        | (go_at_call 16; refine (awake_any _ (Tab.turns HTB.out HT1.out (fun h => h))).mono ?_; rintro e w4 ⟨rfl, t4⟩; have HT4 := Lib.hid (HT1.out.trans t4 (fun _ h => h.elim)); clear t4)
      go_ret
      exact ⟨rfl, HT4.out⟩
    · have hg : 1 ≤ K ∧ K ≤ 3 ∧ b.size ≤ 1048576 := by
        have h0 := he
        unfold putE at h0
        split at h0
        · omega
        · rename_i h1
          split at h0
          · omega
          · have h1' := Classical.not_not.1 h1
            exact ⟨h1'.1, h1'.2, by omega⟩
      obtain ⟨k, rfl⟩ : ∃ k : Nat, K = (k : Int) := ⟨K.toNat, by omega⟩
      have hSl : S.data.toList = putL k b := by rw [← hS]; unfold putS; rw [if_pos he]; simp
      obtain ⟨n, hn⟩ : ∃ n, S.size = n := ⟨_, rfl⟩
      have hnb : n = b.size + 9 := by rw [← hn, ← str_len, hSl, putL_len]
      have hn2 : n ≤ 2000 := by omega
      have hbig' : ¬ (2000 : Int) < (n : Int) := by omega
      have hne : ((n : Int) != (b.size : Int) + 9) = false := by simp; omega
      have hconv := fun w => run_bytes_of_string (P := Tryd.prog) w 9 38 5 S Tryd.underlying9 Tryd.underlying38 Tryd.underlying5
      rw [hn] at hconv
      obtain ⟨f, hf, hf2⟩ : ∃ f : Nat, (t : Int) % (8 * ((b.size : Int) + 1)) = (f : Int) ∧ f < 8 * (b.size + 1) := ⟨t % (8 * (b.size + 1)), by push_cast; rfl, Nat.mod_lt _ (by omega)⟩
      have htell := fun (j : Nat) (hj : 0 < j) (hj2 : j ≤ 32) (hfj : f + j ≤ 8 * (b.size + 1)) => turned_tells k b (by omega) f j (pb p) hj hj2 hfj (t := ⟨(burst S.data.toList (f + 32) (pb p) j).toArray⟩) (by rw [← hSl])
      have HTELL := Lib.hid htell
      have HBR := Lib.hid build_rec0
      have hbs : b.size ≤ 1991 := by omega
      have hnI : (S.size : Int) = (n : Int) := by rw [hn]
      have heq := fun W => (eq_rec2 W 0 nil).2
      have HEQ := Lib.hid heq
      have HNB := Lib.hid hnb
      have hHB : H < wa.heap.size := lt_of_block HCA.out
      clear hS he hg hSl htell heq hbig hnb hn
      go_enter Tryd.func4, Tryd.ntmps4
      go_upto_region 1 with fail
      rw [← HWA.out]
      go_upto_region 2 with (go_at_call 17; refine hput.mono ?_; rintro e w1 ⟨rfl, t1⟩; have HC1 := Lib.hid (heap_newer HCA.out t1 (fun h => h)); have HT1 := Lib.hid (HTA.out.trans t1 (fun _ h => h.elim)); clear t1)
      clear c0 c1 hput
      have c0 := cells_of HC1.out 0 _ rfl
      have c1 := cells_of HC1.out 1 _ rfl
      go_upto_region 5 with fail
      obtain ⟨B, hB⟩ : ∃ B, w1.heap.size = B := ⟨_, rfl⟩
      obtain ⟨cpb, hcpb⟩ : ∃ c, grownCap w1 n 0 5 = c := ⟨_, rfl⟩
      rw [hB, hcpb]
      obtain ⟨w2, hw2⟩ : ∃ w2, w2 = (w1.alloc (.cells (bytesRow S cpb) 5 ((bytesRow S cpb).size, (bytesRow S cpb).size + 1))).drew := ⟨_, rfl⟩
      rw [← hw2]
      have hSn : S.size = n := by omega
      have t2 : Turns nobody w1 w2 := by rw [hw2]; exact ((Turns.refl _ _).alloc _).drew
      have hcs : ∀ q, q < n → w2.cell? ⟨B, q, none⟩ = some (.int .u8 ((nowByte S.data.toList (f + 32) (pb p) 0 q).toNat : Int)) ∧ w2.frozen? ⟨B, q, none⟩ = false := by
        intro q hq
        rw [nowByte_zero, ← hB, hw2]
        have hqs2 : q < S.size := by omega
        refine ⟨?_, ?_⟩
        · show World.cell? { w1 with heap := w1.heap.push _ } _ = _
          simp [World.cell?, bytesRow, Array.getElem?_append, hqs2]
        · show World.frozen? { w1 with heap := w1.heap.push _ } _ = _
          simp [World.frozen?, bytesRow]
          omega
      have HCS := Lib.hid hcs
      have hHB1 : H < B := by have := HT1.out.size; have := (lt_of_block HC1.out); omega
      have c0 := cells_of (heap_newer HC1.out t2 (fun h => h)) 0 _ rfl
      have c1 := cells_of (heap_newer HC1.out t2 (fun h => h)) 1 _ rfl
      have HSN := Lib.hid hSn
      have HT2 := Lib.hid (HT1.out.trans t2 (fun _ h => h.elim))
      have HHW : Hid (w.heap.size ≤ B) := Lib.hid (by have := HT1.out.size; omega)
      clear hw2 t2 hcs hSn hB hcpb hHB hnI
      go_upto_region 9 with fail
      rw [hf]
      clear hf c0 c1
      go_upto_region 10 with fail
      go_loopw [12] (fun i wr => ∃ j : Nat, j ≤ 32 ∧ f + j ≤ 8 * (b.size + 1) ∧ i = .int .i64 j ∧ (∀ q, q < n → wr.cell? ⟨B, q, none⟩ = some (.int .u8 ((nowByte S.data.toList (f + 32) (pb p) j q).toNat : Int))) ∧ (∀ q, q < n → wr.frozen? ⟨B, q, none⟩ = false) ∧ Turns nobody w wr)
        (fun i _ => 32 - (intOf i).toNat)
      case atStart => exact ⟨0, by omega, by omega, rfl, fun q hq => (HCS.out q hq).1, fun q hq => (HCS.out q hq).2, HT2.out⟩
      case round =>
        obtain ⟨j, hj, hfj, rfl, hcell, hfree, hbel⟩ := hrel
        by_cases hlt : j < 32 ∧ f + j < 8 * (b.size + 1)
        · obtain ⟨hl1, hl2⟩ := hlt
          have hq : 4 + (f + j) / 8 < n := by have := HNB.out; omega
          have hc1 := hcell _ hq
          have hr1 := hfree _ hq
          have hbelS := fun v : Value => hbel.setCell B (4 + (f + j) / 8) v (Or.inr HHW.out)
          have hyes : ∀ (_h : j = 0 ∨ pb p j = true), (∀ q, q < n → (wr.setCell ⟨B, 4 + (f + j) / 8, none⟩ (.int .u8 (bits .xor .u8 ((nowByte S.data.toList (f + 32) (pb p) j (4 + (f + j) / 8)).toNat : Int) (2 ^ ((f + j) % 8) % 256)))).cell? ⟨B, q, none⟩ = some (.int .u8 ((nowByte S.data.toList (f + 32) (pb p) (j + 1) q).toNat : Int))) ∧
              ∀ q, q < n → (wr.setCell ⟨B, 4 + (f + j) / 8, none⟩ (.int .u8 (bits .xor .u8 ((nowByte S.data.toList (f + 32) (pb p) j (4 + (f + j) / 8)).toNat : Int) (2 ^ ((f + j) % 8) % 256)))).frozen? ⟨B, q, none⟩ = false := by
            intro h
            refine ⟨fun q hqn => ?_, fun q hqn => by rw [World.frozen?_setCell]; exact hfree q hqn⟩
            have e1 : (f + 32 + j) / 8 = 4 + (f + j) / 8 := by omega
            have e2 : (f + 32 + j) % 8 = (f + j) % 8 := by omega
            rw [nowByte_yes _ _ _ _ _ h, bit_val _ _ (Nat.mod_lt _ (by omega)), e1, e2]
            by_cases he : q = 4 + (f + j) / 8
            · rw [if_pos he, he]
              exact World.cell?_setCell_same _ _ _ hc1
            · rw [if_neg he, World.cell?_setCell_other _ _ _ _ (by intro h2; simp only [Addr.mk.injEq] at h2; omega)]
              exact hcell q hqn
          have HY := Lib.hid hyes
          have HBS := Lib.hid hbelS
          have HC := Lib.hid hcell
          have HR := Lib.hid hfree
          clear hcell hfree hyes hbelS
          by_cases hj0 : j = 0
          · subst hj0
            simp only [Nat.add_zero] at hc1 hr1 hq HY HBS
            go_wp2
            go_roundw
            case rel => exact ⟨1, by omega, by omega, rfl, (HY.out (Or.inl (by trivial))).1, (HY.out (Or.inl (by trivial))).2, HBS.out _⟩
            case measure => simp [intOf]
          · have hjz : ((j : Int) == 0) = false := by rw [beq_eq_false_iff_ne]; omega
            by_cases hpb : pb p j = true
            · have hp3 : (bits .and .u32 (p / 2 ^ j) 1 == 1) = true := hpb
              have HP := Lib.hid hpb
              clear hpb hj0
              go_wp2
              go_roundw
              case rel => exact ⟨j + 1, by omega, by omega, by go_num, (HY.out (Or.inr HP.out)).1, (HY.out (Or.inr HP.out)).2, HBS.out _⟩
              case measure => simp [intOf]; omega
            · have hp3 : (bits .and .u32 (p / 2 ^ j) 1 == 1) = false := by simpa [pb] using hpb
              have HP := Lib.hid (show pb p j = false from by simpa using hpb)
              have HJ := Lib.hid hj0
              clear hpb hj0
              go_wp2
              go_roundw
              case rel => exact ⟨j + 1, by omega, by omega, by go_num, fun q hq => by rw [nowByte_no _ _ _ _ _ HJ.out HP.out]; exact HC.out q hq, HR.out, hbel⟩
              case measure => simp [intOf]; omega
        · have hj1 : 0 < j := by omega
          have hconv2 := run_convert_bytes_arg (P := Tryd.prog) wr 38 5 Tryd.underlying38 Tryd.underlying5 B 0 n cpb ((burst S.data.toList (f + 32) (pb p) j).map fun x : UInt8 => (x.toNat : Int)) (by rw [List.length_map, burst_length, str_len]; exact HSN.out) (by
            intro q hq
            rw [Nat.zero_add, hcell q hq]
            have hqs : q < S.size := by have := HSN.out; omega
            simp [burst, List.getD, hqs]) 9 Tryd.underlying9
          rw [nums_bytes] at hconv2
          have ht10 := HTELL.out j hj1 hj hfj
          have hsz2 : (⟨(burst S.data.toList (f + 32) (pb p) j).toArray⟩ : ByteArray).size = n := by
            show (burst S.data.toList (f + 32) (pb p) j).toArray.size = n
            rw [List.size_toArray, burst_length, str_len]; exact HSN.out
          obtain ⟨T, hT⟩ : ∃ T : ByteArray, ⟨(burst S.data.toList (f + 32) (pb p) j).toArray⟩ = T := ⟨_, rfl⟩
          rw [hT] at hconv2 ht10 hsz2
          have hnx := next_any T 0 wr (by omega) (Tab.turns HTB.out hbel (fun h => h))
          have hE : nxE T 0 = errOf T := by unfold nxE; rw [if_neg (by omega), Int.toNat_zero, from_zero]
          have hE0 : ¬ nxE T 0 = 0 := by rw [hE]; omega
          have hK : nxK T 0 = 0 := by unfold nxK; rw [if_neg hE0]
          have hBd : nxB T 0 = nil := by unfold nxB; rw [if_neg hE0]
          have hN : nxN T 0 = 0 := by unfold nxN; rw [if_neg hE0]
          rw [hE, hK, hBd, hN] at hnx
          unfold recV at hnx
          have HBEL := Lib.hid hbel
          clear hcell hfree hT hE hE0 hK hBd hN hsz2 hbel
          rcases ht10 with h10 | h10
          · rw [h10] at hnx
            clear h10
            by_cases hj32 : j < 32
            · have hfe : ¬ f + j < 8 * (b.size + 1) := fun h => hlt ⟨hj32, h⟩
              clear hlt
              go_upto_region 16 with (go_at_call 19; refine hnx.mono ?_; rintro e w2 ⟨rfl, t2⟩; have HT2 := Lib.hid (HBEL.out.trans t2 (fun _ h => h.elim)); clear t2)
              obtain ⟨P, hP⟩ : ∃ P, w2.heap.size = P := ⟨_, rfl⟩
              obtain ⟨w3, hw3⟩ : ∃ w3, w3 = w2.alloc (.cells #[.int .i64 0, .string nil] 23) := ⟨_, rfl⟩
              have t3 : Turns nobody w2 w3 := by rw [hw3]; exact (Turns.refl _ _).alloc _
              have e3 : w3.heap[P]? = some (.cells #[.int .i64 0, .string nil] 23 (0, 0)) := by rw [hw3, ← hP]; exact heap_alloc_new w2 _
              rw [← hw3, hP]
              have d0 := cells_of e3 0 _ rfl
              have d1 := cells_of e3 1 _ rfl
              have HT3 := Lib.hid (HT2.out.trans t3 (fun _ h => h.elim))
              clear hw3 t3 hP e3
              have heq := HEQ.out
              go_wp2_with first
                | (refine wpList_exec (exec_build _ _ rfl #[] (by kernel_rfl) (HBR.out _)) rfl ?_)
                | (go_at_call 16; refine (awake_any _ (Tab.turns HTB.out HT3.out (fun h => h))).mono ?_; rintro e w4 ⟨rfl, t4⟩; have HT4 := Lib.hid (HT3.out.trans t4 (fun _ h => h.elim)); clear t4)
              go_ret
              exact ⟨rfl, HT4.out⟩
            · clear hlt
              go_upto_region 16 with (go_at_call 19; refine hnx.mono ?_; rintro e w2 ⟨rfl, t2⟩; have HT2 := Lib.hid (HBEL.out.trans t2 (fun _ h => h.elim)); clear t2)
              obtain ⟨P, hP⟩ : ∃ P, w2.heap.size = P := ⟨_, rfl⟩
              obtain ⟨w3, hw3⟩ : ∃ w3, w3 = w2.alloc (.cells #[.int .i64 0, .string nil] 23) := ⟨_, rfl⟩
              have t3 : Turns nobody w2 w3 := by rw [hw3]; exact (Turns.refl _ _).alloc _
              have e3 : w3.heap[P]? = some (.cells #[.int .i64 0, .string nil] 23 (0, 0)) := by rw [hw3, ← hP]; exact heap_alloc_new w2 _
              rw [← hw3, hP]
              have d0 := cells_of e3 0 _ rfl
              have d1 := cells_of e3 1 _ rfl
              have HT3 := Lib.hid (HT2.out.trans t3 (fun _ h => h.elim))
              clear hw3 t3 hP e3
              have heq := HEQ.out
              go_wp2_with first
                | (refine wpList_exec (exec_build _ _ rfl #[] (by kernel_rfl) (HBR.out _)) rfl ?_)
                | (go_at_call 16; refine (awake_any _ (Tab.turns HTB.out HT3.out (fun h => h))).mono ?_; rintro e w4 ⟨rfl, t4⟩; have HT4 := Lib.hid (HT3.out.trans t4 (fun _ h => h.elim)); clear t4)
              go_ret
              exact ⟨rfl, HT4.out⟩
          · rw [h10] at hnx
            clear h10
            by_cases hj32 : j < 32
            · have hfe : ¬ f + j < 8 * (b.size + 1) := fun h => hlt ⟨hj32, h⟩
              clear hlt
              go_upto_region 16 with (go_at_call 19; refine hnx.mono ?_; rintro e w2 ⟨rfl, t2⟩; have HT2 := Lib.hid (HBEL.out.trans t2 (fun _ h => h.elim)); clear t2)
              obtain ⟨P, hP⟩ : ∃ P, w2.heap.size = P := ⟨_, rfl⟩
              obtain ⟨w3, hw3⟩ : ∃ w3, w3 = w2.alloc (.cells #[.int .i64 0, .string nil] 23) := ⟨_, rfl⟩
              have t3 : Turns nobody w2 w3 := by rw [hw3]; exact (Turns.refl _ _).alloc _
              have e3 : w3.heap[P]? = some (.cells #[.int .i64 0, .string nil] 23 (0, 0)) := by rw [hw3, ← hP]; exact heap_alloc_new w2 _
              rw [← hw3, hP]
              have d0 := cells_of e3 0 _ rfl
              have d1 := cells_of e3 1 _ rfl
              have HT3 := Lib.hid (HT2.out.trans t3 (fun _ h => h.elim))
              clear hw3 t3 hP e3
              have heq := HEQ.out
              go_wp2_with first
                | (refine wpList_exec (exec_build _ _ rfl #[] (by kernel_rfl) (HBR.out _)) rfl ?_)
                | (go_at_call 16; refine (awake_any _ (Tab.turns HTB.out HT3.out (fun h => h))).mono ?_; rintro e w4 ⟨rfl, t4⟩; have HT4 := Lib.hid (HT3.out.trans t4 (fun _ h => h.elim)); clear t4)
              go_ret
              exact ⟨rfl, HT4.out⟩
            · clear hlt
              go_upto_region 16 with (go_at_call 19; refine hnx.mono ?_; rintro e w2 ⟨rfl, t2⟩; have HT2 := Lib.hid (HBEL.out.trans t2 (fun _ h => h.elim)); clear t2)
              obtain ⟨P, hP⟩ : ∃ P, w2.heap.size = P := ⟨_, rfl⟩
              obtain ⟨w3, hw3⟩ : ∃ w3, w3 = w2.alloc (.cells #[.int .i64 0, .string nil] 23) := ⟨_, rfl⟩
              have t3 : Turns nobody w2 w3 := by rw [hw3]; exact (Turns.refl _ _).alloc _
              have e3 : w3.heap[P]? = some (.cells #[.int .i64 0, .string nil] 23 (0, 0)) := by rw [hw3, ← hP]; exact heap_alloc_new w2 _
              rw [← hw3, hP]
              have d0 := cells_of e3 0 _ rfl
              have d1 := cells_of e3 1 _ rfl
              have HT3 := Lib.hid (HT2.out.trans t3 (fun _ h => h.elim))
              clear hw3 t3 hP e3
              have heq := HEQ.out
              go_wp2_with first
                | (refine wpList_exec (exec_build _ _ rfl #[] (by kernel_rfl) (HBR.out _)) rfl ?_)
                | (go_at_call 16; refine (awake_any _ (Tab.turns HTB.out HT3.out (fun h => h))).mono ?_; rintro e w4 ⟨rfl, t4⟩; have HT4 := Lib.hid (HT3.out.trans t4 (fun _ h => h.elim)); clear t4)
              go_ret
              exact ⟨rfl, HT4.out⟩
  · have hez : ((putE K b : Int) != 0) = true := by simpa using Nat.pos_iff_ne_zero.1 he
    generalize putE K b = E at *
    clear he hS
    go_enter Tryd.func4, Tryd.ntmps4
    go_upto_region 1 with fail
    rw [← HWA.out]
    go_wp2_with first
      | (go_at_call 17; refine hput.mono ?_; rintro e w1 ⟨rfl, t1⟩; have HT1 := Lib.hid (HTA.out.trans t1 (fun _ h => h.elim)); clear t1)
      | (go_at_call 16; refine (awake_any _ (Tab.turns HTB.out HT1.out (fun h => h))).mono ?_; rintro e w4 ⟨rfl, t4⟩; have HT4 := Lib.hid (HT1.out.trans t4 (fun _ h => h.elim)); clear t4)
    go_ret
    exact ⟨rfl, HT4.out⟩
end Go.Proofs.YtlhcmgjkhkcgcaaDoor.record
