/- RecordBack, RecordTorn. -/
import Derived.Test.YtlhcmgjkhkcgcaaDoorRecOf
import Derived.Test.YtlhcmgjkhkcgcaaDoorRecAllLaw0
namespace Go.Proofs.YtlhcmgjkhkcgcaaDoor.record
open Go.RowKit
open Go.Proofs.YtlhcmgjkhkcgcaaDoor.stepkit Go.Proofs.YtlhcmgjkhkcgcaaDoor.obj Go.Proofs.YtlhcmgjkhkcgcaaDoor.row Go.Proofs.YtlhcmgjkhkcgcaaDoor.mix Go.Proofs.YtlhcmgjkhkcgcaaDoor.idkit Go.Proofs.YtlhcmgjkhkcgcaaDoor.bytes Go.Proofs.YtlhcmgjkhkcgcaaDoor.octet Go.Proofs.YtlhcmgjkhkcgcaaDoor.eqkit Go.Proofs.YtlhcmgjkhkcgcaaDoor.argkit

theorem cat_bound {g : List RV} (hg : Good g) (h : g.length ≤ 20) : (⟨(cat g).toArray⟩ : ByteArray).size ≤ 60000 := by
  have h1 := cat_small hg
  show (cat g).toArray.size ≤ _
  rw [List.size_toArray]; omega
theorem list_mk (l : List UInt8) : (⟨l.toArray⟩ : ByteArray).data.toList = l := by simp
set_option maxRecDepth 10000 in
set_option maxHeartbeats 1000000 in
theorem back_any (ao : Option Addr) (l : List RV) (cap : Nat) (w : World) (hcap : l.length ≤ 9223372036854775807) (hsz : ∀ r ∈ l, r.2.size ≤ 9223372036854775807) (hin : RIn w w.heap.size ao l) (ht : crc.TabAt w) :
    Calls Tryd.prog 6 #[.slice ao l.length cap] w fun e w' => e = .returned (.bool true) ∧ Turns nobody w w' := by
  have hof := of_any ao l cap w hcap hsz hin ht
  have HTB := Lib.hid ht
  clear hcap hsz hin ht
  go_enter Tryd.func6, Tryd.ntmps6
  go_upto_region 2 with (go_at_call 25; refine hof.mono ?_; rintro e w1 ⟨g, v1, v2, rfl, hg, hl, hb⟩; have HG := Lib.hid hg; have HL := Lib.hid hl; have HB := Lib.hid hb; clear hg hl hb)
  have hsb := cat_bound HG.out HL.out
  have hd := whole_done HG.out (list_mk (cat g))
  obtain ⟨s, hs⟩ : ∃ s : ByteArray, ⟨(cat g).toArray⟩ = s := ⟨_, rfl⟩
  rw [hs] at hsb hd ⊢
  have hall := all_any s w1 (by omega) (Tab.turns HTB.out HB.out.tu (fun h => h))
  have HD := Lib.hid hd
  clear hs hd hsb hof
  go_upto_region 3 with (go_at_call 22; refine hall.mono ?_; rintro e w2 ⟨k, E, v, hD, rfl, hsl, hn, t2⟩; obtain ⟨rfl, rfl⟩ := hD.uniq HD.out.1; have HT2 := Lib.hid t2; have HSL := Lib.hid hsl; clear hD hsl hn t2)
  rw [HD.out.2.2]
  rw [HD.out.2.1] at HSL
  have hsm := same_any v v1 g w2 HSL.out (Sl.keep HB.out.sp HT2.out (fun _ _ h => h)) (by have := HL.out; omega)
  clear hall
  go_wp2_with first
    | (go_at_call 24; refine hsm.mono ?_; rintro e w3 ⟨rfl, t3⟩; have HT3 := Lib.hid ((HB.out.tu.trans HT2.out (fun _ h => h.elim)).trans (Turns.drawn (F := nobody) t3) (fun _ h => h.elim)); clear t3)
    | (go_at_call 16; refine (awake_any _ (Tab.turns HTB.out HT3.out (fun h => h))).mono ?_; rintro e w4 ⟨rfl, t4⟩; have HT4 := Lib.hid (HT3.out.trans t4 (fun _ h => h.elim)); clear t4)
  go_ret
  exact ⟨rfl, HT4.out⟩

/-! ### Torn -/
theorem ISl.cell {w : World} {g o cap : Nat} {l : List Nat} (h : ISl w (.slice (some ⟨g, o, none⟩) l.length cap) l) (k : Nat) (hk : k < l.length) : w.cell? ⟨g, o + k, none⟩ = some (.int .i64 (l.getD k 0 : Nat)) := by
  have h1 := Sl.cell h k (by unfold icells; rw [List.length_map]; exact hk)
  rw [h1]
  unfold icells
  simp [List.getD, hk]
theorem rcells_take : ∀ (l : List RV) (n : Nat), rcells (l.take n) = (rcells l).take (n * 2)
  | [], n => by simp [rcells]
  | r :: l, 0 => by simp [rcells]
  | r :: l, n + 1 => by
    rw [List.take_succ_cons, show (n + 1) * 2 = n * 2 + 1 + 1 by omega]
    show (.int .i64 r.1) :: (.string r.2) :: rcells (l.take n) = (.int .i64 r.1 :: .string r.2 :: rcells l).take (n * 2 + 1 + 1)
    rw [rcells_take l n, List.take_succ_cons, List.take_succ_cons]
theorem RSl.cut {w : World} {ao : Option Addr} {cap : Nat} {g : List RV} (h : RSl w (.slice ao g.length cap) g) (n : Nat) (hn : n ≤ g.length) (hc : g.length ≤ cap) : RSl w (Go.sliced ao 0 n cap 2) (g.take n) := by
  have h1 := Sl.sliced h 0 n cap (Nat.zero_le _) hn (by omega) (Nat.le_refl _)
  unfold RSl
  rw [rcells_take, List.length_take, Nat.min_eq_left hn]
  simpa using h1
theorem sizeRec : (Tryd.prog.info? 23).map (·.size) = some 2 := by kernel_rfl

structure TI (g : List RV) (c n j : Nat) : Prop where
  ta : n ≤ j
  tb : j ≤ g.length
  tc : endOf g n ≤ c
  td : ∀ k, n < k → k ≤ j → c < endOf g k

set_option maxRecDepth 10000 in
set_option maxHeartbeats 1000000 in
theorem torn_any (ao : Option Addr) (l : List RV) (cap t : Nat) (w : World) (ht16 : t < 65536) (hcap : l.length ≤ 9223372036854775807) (hsz : ∀ r ∈ l, r.2.size ≤ 9223372036854775807) (hin : RIn w w.heap.size ao l) (ht : crc.TabAt w) :
    Calls Tryd.prog 7 #[.slice ao l.length cap, .int .u16 t] w fun e w' => e = .returned (.bool true) ∧ Turns nobody w w' := by
  have hof := of_any ao l cap w hcap hsz hin ht
  have HTB := Lib.hid ht
  clear hcap hsz hin ht
  go_enter Tryd.func7, Tryd.ntmps7
  go_upto_region 2 with (go_at_call 25; refine hof.mono ?_; rintro e w1 ⟨g, v1, v2, rfl, hg, hl, hb⟩; have HG := Lib.hid hg; have HL := Lib.hid hl; have HB := Lib.hid hb; clear hg hl hb)
  have hsb := cat_bound HG.out HL.out
  have hls := list_mk (cat g)
  obtain ⟨s, hs⟩ : ∃ s : ByteArray, ⟨(cat g).toArray⟩ = s := ⟨_, rfl⟩
  rw [hs] at hsb hls ⊢
  obtain ⟨c, hc, hc2⟩ : ∃ c : Nat, (t : Int) % ((s.size : Int) + 1) = (c : Int) ∧ c ≤ s.size := ⟨t % (s.size + 1), by push_cast; rfl, by have := Nat.mod_lt t (show 0 < s.size + 1 by omega); omega⟩
  obtain ⟨ap, cp, rfl, hcp1, hcp2, -⟩ := Sl.shape HB.out.sp
  obtain ⟨aq, cq, rfl, -⟩ := Sl.shape HB.out.sq
  have HLS := Lib.hid hls
  have HSB := Lib.hid hsb
  have HC2 := Lib.hid hc2
  have HCP := Lib.hid hcp1
  clear hs hls hof hcp1 hcp2 hc2
  have hel := ends_len g
  rw [hel]
  have HEL := Lib.hid hel
  clear hel
  go_upto_region 6 with fail
  rw [hc]
  clear hc
  go_loopw [9, 10, 11] (fun n x i wr => ∃ n' j : Nat, n = .int .i64 n' ∧ x = .int .i64 (endOf g n' : Nat) ∧ i = .int .i64 j ∧ TI g c n' j ∧ Turns nobody w1 wr)
    (fun n x i wr => g.length - (intOf i).toNat)
  case atStart => exact ⟨0, 0, rfl, rfl, rfl, ⟨Nat.le_refl _, Nat.zero_le _, Nat.zero_le _, fun k h1 h2 => by omega⟩, Turns.refl _ _⟩
  case round =>
    obtain ⟨n, j, rfl, rfl, rfl, hti, htr⟩ := hrel
    have HTI := Lib.hid hti
    have HTR := Lib.hid htr
    by_cases hlt : j < g.length
    · have hltI : (j : Int) < (g.length : Int) := by omega
      have hlB := HL.out
      have hq := Sl.keep HB.out.sq htr (fun _ _ h => h)
      obtain ⟨b0, o0, c0, hv, _⟩ := Sl.some_of_pos hq (by rw [HEL.out]; omega)
      cases hv
      have hce := ISl.cell (l := ends g) hq j (by rw [HEL.out]; omega)
      rw [ends_get g j hlt] at hce
      obtain ⟨x, hx⟩ : ∃ x, endOf g (j + 1) = x := ⟨_, rfl⟩
      rw [hx] at hce
      have HX := Lib.hid hx
      clear hx hq hti htr
      by_cases hle : x ≤ c
      · have hleI : (x : Int) ≤ (c : Int) := by omega
        have HLE := Lib.hid hle
        clear hle
        go_wp2
        go_roundw
        case rel => exact ⟨j + 1, j + 1, by go_num, by rw [HX.out], by go_num, ⟨Nat.le_refl _, hlt, by rw [HX.out]; exact HLE.out, fun k h1 h2 => by omega⟩, HTR.out⟩
        case measure => simp [intOf]; omega
      · have hleI : ¬ (x : Int) ≤ (c : Int) := by omega
        have HLE := Lib.hid hle
        clear hle
        go_wp2
        go_roundw
        case rel =>
          refine ⟨n, j + 1, by go_num, by go_num, by go_num, ⟨Nat.le_succ_of_le HTI.out.ta, hlt, HTI.out.tc, fun k h1 h2 => ?_⟩, HTR.out⟩
          rcases Nat.lt_or_ge k (j + 1) with h | h
          · exact HTI.out.td k h1 (by omega)
          · obtain rfl : k = j + 1 := by omega
            rw [HX.out]; have := HLE.out; omega
        case measure => simp [intOf]; omega
    · have hltI : ¬ (j : Int) < (g.length : Int) := by omega
      have hjl : j = g.length := by have := hti.tb; omega
      have hcl : c ≤ (cat g).length := by have := HC2.out; rw [← str_len, HLS.out] at this; exact this
      have hls2 : (s.extract 0 c).data.toList = (cat g).take c := by
        have := ext_list s 0 c (by have := HC2.out; omega)
        rw [Nat.zero_add] at this
        rw [this, HLS.out, List.drop_zero]
      have hd := torn_done HG.out hls2 hcl n (by have := hti.ta; omega) hti.tc (by
        rcases Nat.lt_or_ge n g.length with h | h
        · exact Or.inr (hti.td (n + 1) (by omega) (by omega))
        · exact Or.inl (by have := hti.ta; omega))
      have hsz2 : (s.extract 0 c).size ≤ 16777216 := by rw [ByteArray.size_extract]; have := HSB.out; omega
      have hnl : n ≤ g.length := by have := hti.ta; omega
      have HNL := Lib.hid hnl
      have hcI : (c : Int) ≤ (s.size : Int) := by have := HC2.out; omega
      obtain ⟨s2, hs2⟩ : ∃ s2, s.extract 0 c = s2 := ⟨_, rfl⟩
      rw [hs2] at hd hsz2
      have hall := all_any s2 wr hsz2 (Tab.turns HTB.out (HB.out.tu.trans htr (fun _ h => h.elim)) (fun h => h))
      have HD := Lib.hid hd
      clear hls2 hd hcl hjl hti htr hsz2 hnl
      go_upto_region 12 with (go_at_call 22; refine hall.mono ?_; rintro e w2 ⟨k, E, v, hD, rfl, hsl, hn, t2⟩; obtain ⟨rfl, rfl⟩ := hD.uniq HD.out.1; have HT2 := Lib.hid ((HB.out.tu.trans HTR.out (fun _ h => h.elim)).trans t2 (fun _ h => h.elim)); have HSP2 := Lib.hid (Sl.keep (Sl.keep HB.out.sp HTR.out (fun _ _ h => h)) t2 (fun _ _ h => h)); have HSL := Lib.hid hsl; clear hD hsl hn t2)
      rw [HD.out.2.2]
      rw [HD.out.2.1] at HSL
      obtain ⟨a1, ha1⟩ : ∃ a1, Go.sliced ap 0 k cp 2 = a1 := ⟨_, rfl⟩
      have hsm := same_any v a1 (g.take k) w2 HSL.out (by rw [← ha1]; exact RSl.cut HSP2.out k HNL.out HCP.out) (by rw [List.length_take]; have := HL.out; omega)
      have hcp2 : k ≤ cp := by have := HNL.out; have := HCP.out; omega
      have HCP := Lib.hid hcp2
      clear hall hcp2 hcI
      by_cases he : endOf g k = c
      · rw [if_pos he]
        have heI : ((endOf g k : Int) == (c : Int)) = true := by rw [he]; simp
        clear he
        generalize endOf g k = y at *
        go_wp2_with first
          | (refine wpList_exec (exec_cut_h Tryd.underlying41 sizeRec _ _ rfl rfl rfl HCP.out ha1) rfl ?_)
          | (go_at_call 24; refine hsm.mono ?_; rintro e w3 ⟨rfl, t3⟩; have HT3 := Lib.hid (HT2.out.trans (Turns.drawn (F := nobody) t3) (fun _ h => h.elim)); clear t3)
          | (go_at_call 16; refine (awake_any _ (Tab.turns HTB.out HT3.out (fun h => h))).mono ?_; rintro e w4 ⟨rfl, t4⟩; have HT4 := Lib.hid (HT3.out.trans t4 (fun _ h => h.elim)); clear t4)
        go_ret
        exact ⟨rfl, HT4.out⟩
      · rw [if_neg he]
        have heI : ((endOf g k : Int) == (c : Int)) = false := by simpa using fun h : (endOf g k : Int) = (c : Int) => he (by omega)
        generalize endOf g k = y at *
        clear he
        go_wp2_with first
          | (refine wpList_exec (exec_cut_h Tryd.underlying41 sizeRec _ _ rfl rfl rfl HCP.out ha1) rfl ?_)
          | (go_at_call 24; refine hsm.mono ?_; rintro e w3 ⟨rfl, t3⟩; have HT3 := Lib.hid (HT2.out.trans (Turns.drawn (F := nobody) t3) (fun _ h => h.elim)); clear t3)
          | (go_at_call 16; refine (awake_any _ (Tab.turns HTB.out HT3.out (fun h => h))).mono ?_; rintro e w4 ⟨rfl, t4⟩; have HT4 := Lib.hid (HT3.out.trans t4 (fun _ h => h.elim)); clear t4)
        go_ret
        exact ⟨rfl, HT4.out⟩
end Go.Proofs.YtlhcmgjkhkcgcaaDoor.record
