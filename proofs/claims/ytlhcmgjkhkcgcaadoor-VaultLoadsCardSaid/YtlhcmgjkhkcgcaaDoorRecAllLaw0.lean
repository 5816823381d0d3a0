/- RecordAll. -/
import Derived.Test.YtlhcmgjkhkcgcaaDoorRecAll
namespace Go.Proofs.YtlhcmgjkhkcgcaaDoor.record
open Go.RowKit
open Go.Proofs.YtlhcmgjkhkcgcaaDoor.stepkit Go.Proofs.YtlhcmgjkhkcgcaaDoor.obj Go.Proofs.YtlhcmgjkhkcgcaaDoor.row Go.Proofs.YtlhcmgjkhkcgcaaDoor.mix Go.Proofs.YtlhcmgjkhkcgcaaDoor.idkit Go.Proofs.YtlhcmgjkhkcgcaaDoor.bytes Go.Proofs.YtlhcmgjkhkcgcaaDoor.octet Go.Proofs.YtlhcmgjkhkcgcaaDoor.eqkit

theorem Ok.bound {s : ByteArray} {k : Nat} (h : Ok s k) : k ≤ s.size := by
  cases k with
  | zero => exact Nat.zero_le _
  | succ j =>
    have h1 := (h j (by omega)).1
    have h2 := Ok.far (k := j) (fun i hi => h i (by omega))
    omega
set_option maxRecDepth 10000 in
set_option maxHeartbeats 1000000 in
theorem recall_any (s : ByteArray) (w : World) (ht : crc.TabAt w) (hs : s.size ≤ maxLen) :
    Calls Tryd.prog 5 #[.string s] w fun e w' => e = .returned (.bool true) ∧ Turns nobody w w' := by
  rcases Nat.lt_or_ge 5000 s.size with hl | hl
  · have ha := awake_any w ht
    go_enter Tryd.func5, Tryd.ntmps5
    go_wp2_with (go_at_call 16; refine ha.mono ?_; rintro e w1 ⟨rfl, ht1⟩)
    go_ret
    exact ⟨rfl, ht1⟩
  · have h5 : ¬ (5000 : Int) < (s.size : Int) := by omega
    have hall := all_any s w (by omega) ht
    have href := fun W => refall_any s W (by omega)
    have HT := Lib.hid ht
    have HRF := Lib.hid href
    have HL := Lib.hid hl
    clear ht href hl
    go_enter Tryd.func5, Tryd.ntmps5
    go_upto_region 3 with fail
    go_upto_region 4 with (go_at_call 22; refine hall.mono ?_; rintro e w1 ⟨k, E, v, hD, rfl, hsl, hn, t1⟩; have HD := Lib.hid hD; have HSL := Lib.hid hsl; have HT1 := Lib.hid t1; clear hD hsl hn t1)
    go_upto_region 5 with (go_at_call 23; refine (HRF.out _).mono ?_; rintro e w2 ⟨k', E', v', hD', rfl, hsl', hn', t2⟩; obtain ⟨rfl, rfl⟩ := HD.out.uniq hD'; have HSL2 := Lib.hid (Sl.keep HSL.out t2 (fun _ _ h => h)); have HSL' := Lib.hid hsl'; have HT2 := Lib.hid (HT1.out.trans t2 (fun _ h => h.elim)); clear hD' hsl' hn' t2)
    have hk : k ≤ 16777216 := by have := HD.out.1.bound; have := HL.out; omega
    have HK := Lib.hid hk
    have HRL := Lib.hid (recs_len s k)
    clear hk
    generalize (pos s k : Int) = p at *
    go_wp2_with first
      | (go_at_call 24; refine (same_any _ _ (recs s k) _ HSL2.out HSL'.out (by rw [HRL.out]; exact HK.out)).mono ?_; rintro e w3 ⟨rfl, t3⟩; have HT3 := Lib.hid (HT2.out.trans (Turns.drawn (F := nobody) t3) (fun _ h => h.elim)); clear t3)
      | (go_at_call 16; refine (awake_any _ (Tab.turns HT.out HT3.out (fun h => h))).mono ?_; rintro e w4 ⟨rfl, t4⟩; have HT4 := Lib.hid (HT3.out.trans t4 (fun _ h => h.elim)); clear t4)
    go_ret
    exact ⟨rfl, HT4.out⟩
end Go.Proofs.YtlhcmgjkhkcgcaaDoor.record
