/- StoreQuota: the walk. -/
import Derived.Test.YtjnplcajajdkiaaDoorStoAwake
import Derived.Test.YtjnplcajajdkiaaDoorFlatKit
namespace Go.Proofs.YtjnplcajajdkiaaDoor.store
open Go.RowKit
open Go.Proofs.YtjnplcajajdkiaaDoor.stepkit Go.Proofs.YtjnplcajajdkiaaDoor.eqkit Go.Proofs.YtjnplcajajdkiaaDoor.idkit Go.Proofs.YtjnplcajajdkiaaDoor.obj Go.Proofs.YtjnplcajajdkiaaDoor.row Go.Proofs.YtjnplcajajdkiaaDoor.mapkit Go.Proofs.YtjnplcajajdkiaaDoor.mix Go.Proofs.YtjnplcajajdkiaaDoor.lru Go.Proofs.YtjnplcajajdkiaaDoor.argkit
open Go.Proofs.YtjnplcajajdkiaaDoor.sha (Tabs wpList_putc new32 range_of)

def qKinds : List TypeDesc := [.int .i64, .string, .int .i64]
theorem qact_row {r : List Value} (h : Fits qKinds r) : ∃ (K : Int) (b : ByteArray) (n : Int), r = [.int .i64 K, .string b, .int .i64 n] ∧ b.size ≤ maxLen := by
  obtain ⟨_, r1, rfl, ⟨K, rfl, _⟩, e1⟩ := argkit.Fits.cons h
  obtain ⟨_, r2, rfl, ⟨b, rfl, hb⟩, e2⟩ := argkit.Fits.cons e1
  obtain ⟨_, r3, rfl, ⟨n, rfl, _⟩, e3⟩ := argkit.Fits.cons e2
  obtain rfl := argkit.Fits.nil e3
  exact ⟨K, b, n, rfl, hb⟩
theorem qact_at {w W : World} {B : Nat} {rows : List (List Value)} {b o : Nat} (hb : b < B) (hc : ∀ i, i < rows.length → ∀ j, j < 3 → w.cell? ⟨b, o + i * 3 + j, none⟩ = some ((rows.getD i []).getD j undef)) (hW : Below B w W) {K n : Int} {s : ByteArray} (i : Nat) (hi : i < rows.length) (hr : rows.getD i [] = [.int .i64 K, .string s, .int .i64 n]) :
    W.rangeAt b (o + i * 3) [.int .i64 K, .string s, .int .i64 n] := by
  have hh : ∀ j, j < 3 → W.cell? ⟨b, o + i * 3 + j, none⟩ = some ([Value.int .i64 K, .string s, .int .i64 n].getD j undef) := fun j hj => by
    rw [hW.cell (p := ⟨b, o + i * 3 + j, none⟩) hb, hc i hi j hj, hr]
  intro j v hv
  rcases j with _ | _ | _ | j
  · simp at hv; rw [← hv]; exact hh 0 (by omega)
  · simp at hv; rw [← hv]; exact hh 1 (by omega)
  · simp at hv; rw [← hv]; exact hh 2 (by omega)
  · simp at hv
theorem infoQAct : (Tryd.prog.info? 29).map (·.size) = some 3 := by kernel_rfl

/-- What is held is what was put, of its sum. -/
def Good (E : Held) : Prop := ∀ x ∈ E, checkE x.2 = 0 ∧ sumB x.2 = x.1
theorem Good.act {q : Nat} {E : Held} (h : Good E) (K : Int) (b : ByteArray) : Good (actH q E K b) := by
  unfold actH
  split
  · unfold putH
    split
    · next hh =>
      intro x hx
      rcases List.mem_append.1 hx with hx | hx
      · exact h x hx
      · rw [List.mem_singleton.1 hx]; exact ⟨hh.1, rfl⟩
    · exact h
  · split
    · unfold useH
      split
      · next hm =>
        intro x hx
        rcases List.mem_append.1 hx with hx | hx
        · exact h x (List.mem_filter.1 hx).1
        · rw [List.mem_singleton.1 hx]
          have h1 := h _ (en_mem (place_lt hm))
          have h2 := place_id (place_lt hm)
          rw [h2] at h1
          exact h1
      · exact h
    · split
      · unfold dropH
        split
        · exact fun x hx => h x (List.mem_filter.1 hx).1
        · exact h
      · exact h
theorem check_size {b : ByteArray} (h : checkE b = 0) : b.size ≤ 512 := by
  unfold checkE at h
  split at h
  · cases h
  · split at h
    · cases h
    · omega

theorem at_store {P : Program} {ops : Array Oper} {Q : Exit → Act → World → Prop} {rest : List Oper} {a : Act} {w : World} {d : Option Tmp} {x y : Operand} {t ty : TypeId} {ps : _} {af : Array Edge} {gd : Option (Nat × Bool)} (h : wpList P ops Q ({ dst := d, op := .store t x y, type := ty, pos := ps, after := af, guard := gd } :: rest) a w) : wpList P ops Q ({ dst := d, op := .store t x y, type := ty, pos := ps, after := af, guard := gd } :: rest) a w := h
/-- The store beside a slice of ids. -/
theorem local_slo (v : Value) (y : List (List Int)) : Local (SlObj v y) := local_sl v y


set_option maxRecDepth 20000 in
set_option maxHeartbeats 8000000 in
theorem quota_any (qi : Int) (ao : Option Addr) (rows : List (List Value)) (cap : Nat) (w : World) (hcap : rows.length ≤ maxLen) (hrow : RowsAt w w.heap.size 3 ao rows) (hfit : ∀ r ∈ rows, Fits qKinds r) (ht : Tabs w) (hpos : 1 < w.heap.size ∧ 0 < w.heap.size) :
    Calls Tryd.prog 5 #[.int .i64 qi, .slice ao rows.length cap] w fun e w' => e = .returned (.bool true) ∧ Below w.heap.size w w' := by
  unfold maxLen at hcap
  have HTB := Lib.hid ht
  have HPOS := Lib.hid hpos
  have HAW : Hid (∀ W, Below w.heap.size w W → w.heap.size ≤ W.heap.size → Calls Tryd.prog 8 #[] W fun e w' => e = .returned (.bool true) ∧ Below w.heap.size w w') := Lib.hid fun W hW hs => (awake_any W (ht.below hW hpos) ⟨by omega, by omega⟩).mono fun e w' ⟨he, hb⟩ => ⟨he, hW.trans (hb.mono hs)⟩
  obtain ⟨B, hB⟩ : ∃ B, w.heap.size = B := ⟨_, rfl⟩
  by_cases hq : 0 ≤ qi ∧ qi ≤ 4096
  · obtain ⟨q, rfl⟩ : ∃ q : Nat, qi = (q : Int) := ⟨qi.toNat, by omega⟩
    have hq4 : q ≤ 4096 := by omega
    have hN := new_d q hq4 w
    rw [hB] at hN hrow HPOS HAW ⊢
    have HQ4 := Lib.hid hq4
    have g0 : (0 : Int) ≤ (q : Int) := by omega
    have g3 : (q : Int) ≤ 4096 := by omega
    clear hB ht hpos hq hq4
    go_enter Tryd.func5, Tryd.ntmps5
    go_wp2_with (go_at_call 7; refine hN.mono ?_; rintro e w2 ⟨p, F, rfl, hd⟩; have HD2 := Lib.hid hd; clear hd hN)
    go_loopw [7] (fun i wr => ∃ (j : Nat) (E : Held) (P : List (List Int)), j ≤ rows.length ∧ j ≤ 50 ∧ i = .int .i64 j ∧ Ok q j E P ∧ Good E ∧ ∃ F, Duo B w (StAt p q E P) nothing F nobody wr) (fun i _ => 50 - (intOf i).toNat)
    case atStart => exact ⟨0, [], [], by omega, by omega, rfl, Ok.start HQ4.out, (fun _ h => by cases h), _, HD2.out⟩
    case round =>
      clear HD2 F
      obtain ⟨j, E, P, hj, hj50, rfl, hok, hgd, F, hd⟩ := hrel
      by_cases hlt : j < rows.length ∧ j < 50
      · obtain ⟨h3, h4⟩ := hlt
        obtain ⟨bb, oo, rfl, hbb, hcell⟩ := hrow (by omega)
        have hmem : rows.getD j [] ∈ rows := by rw [List.getD, List.getElem?_eq_getElem h3]; exact List.getElem_mem _
        obtain ⟨K, b, n, hr, hbm⟩ := qact_row (hfit _ hmem)
        have RR := Lib.hid (qact_at hbb hcell hd.below j h3 hr)
        have HD := Lib.hid hd
        have HOK := Lib.hid hok
        have HGD := Lib.hid hgd
        have HJL : Hid (j + 1 ≤ rows.length ∧ j + 1 ≤ 50) := Lib.hid ⟨h3, h4⟩
        clear hr hmem hcell hd hok hfit hrow hgd
        have HNW := Lib.hid (heap_alloc_new wr (.cells #[.int .i64 0, .string ⟨#[]⟩, .int .i64 0] 29))
        have r0 : wr.cell? ⟨bb, oo + j * 3, none⟩ = some (.int .i64 K) := RR.out 0 _ rfl
        have r1 : wr.cell? ⟨bb, oo + j * 3 + 1, none⟩ = some (.string b) := RR.out 1 _ rfl
        have r2 : wr.cell? ⟨bb, oo + j * 3 + 2, none⟩ = some (.int .i64 n) := RR.out 2 _ rfl
        go_upto_region 8 with ((with_reducible refine at_store ?_); refine wpList_putc rfl _ _ _ rfl [.int .i64 K, .string b, .int .i64 n] HNW.out rfl (by intro v hv; simp only [List.mem_cons, List.not_mem_nil, or_false] at hv; rcases hv with rfl | rfl | rfl <;> rfl) rfl rfl infoQAct ?_; intro w4 t4 a4 z4)
        clear r0 r1 r2
        obtain ⟨A0, hA0⟩ : ∃ A0, wr.heap.size = A0 := ⟨_, rfl⟩
        rw [hA0] at t4 a4 ⊢
        have hd4 := HD.out.still (local_st _ _ _ _) local_nothing (((Turns.refl nobody wr).alloc _).trans t4 (fun i hi => Or.inr (by omega)))
        have HD4 := Lib.hid hd4
        have HA4 := Lib.hid a4
        have c0 := cells_of a4 0 (.int .i64 K) rfl
        have c1 := cells_of a4 1 (.string b) rfl
        clear t4 a4 z4 hA0 hd4
        by_cases hb : b.size ≤ 1000
        · have hsum := sha.refsum_any b w4 (by omega)
          have hid := sumB_len b
          have NI := Lib.hid (zid_size (sumB b) hid)
          have SI := Lib.hid (sizeId hid)
          go_upto_region 10 with first
            | (go_at_call 9; refine hsum.mono ?_; rintro e wa ⟨rfl, ta⟩; have HTa := Lib.hid ta; have HNa := Lib.hid (new32 wa); clear ta hsum)
            | (refine wpList_putc rfl _ _ _ rfl (idc (sumB b)) HNa.out NI.out (idc_one _) rfl rfl SI.out ?_; intro wb tb ab zb)
          obtain ⟨J, hJ⟩ : ∃ J, wa.heap.size = J := ⟨_, rfl⟩
          rw [hJ] at tb ab ⊢
          have t4b : Turns nobody w4 wb := (HTa.out.alloc _).trans tb (fun i hi => Or.inr (by have := HTa.out.size; omega))
          have HDb := Lib.hid (HD4.out.still (local_st _ _ _ _) local_nothing t4b)
          have RJ := Lib.hid (range_of ab)
          have d0 := cells_of (heap_newer HA4.out t4b (fun h => h)) 0 (.int .i64 K) rfl
          have d1 := cells_of (heap_newer HA4.out t4b (fun h => h)) 1 (.string b) rfl
          clear t4b tb ab zb hJ c0 c1
          have hput := put_d HDb.out local_nothing HOK.out (by omega) HTB.out HPOS.out b (by omega)
          have huse := use_d HDb.out local_nothing (sumB b) hid
          have hpin := pin_d HDb.out local_nothing HOK.out (sumB b) hid
          have hdrop := drop_d HDb.out local_nothing HOK.out (sumB b) hid
          have HPUT := Lib.hid hput
          have HUSE := Lib.hid huse
          have HPIN := Lib.hid hpin
          have HDROP := Lib.hid hdrop
          clear hput huse hpin hdrop
          simp only [Act.put]
          go_cut [49] from 27 to 133 (fun t wc => wb = wc ∧ t = .int .i64 K)
          case first =>
            go_wp2_with fail
            go_meet
            exact ⟨rfl, rfl⟩
          case rest =>
          obtain ⟨rfl, rfl⟩ := hcut
          clear d0
          rename_i Kx hKx
          refine hKx _ _ ?_
          clear hKx Kx
          go_cut [] from 27 to 133 (fun wc => ∃ F', Duo B w (StAt p q (actH q E K b) (actP E P K b)) nothing F' nobody wc)
          case first =>
            by_cases h0 : K = 0
            · have HE1 : Hid (actH q E K b = putH q E b) := Lib.hid (by unfold actH; rw [if_pos (Or.inl h0)])
              have HE2 : Hid (actP E P K b = P) := Lib.hid (by unfold actP; rw [if_neg (by omega), if_neg (by omega)])
              have k0 : (K == 0) = true := by simpa using h0
              clear h0
              go_wp2_with (go_at_call 10; refine HPUT.out.mono ?_; rintro e wc ⟨rfl, F', hd'⟩; have HDc := Lib.hid hd'; clear hd')
              go_meet
              exact ⟨_, by rw [HE1.out, HE2.out]; exact HDc.out⟩
            have k0 : (K == 0) = false := by simpa using h0
            by_cases h1 : K = 1
            · have HE1 : Hid (actH q E K b = putH q E b) := Lib.hid (by unfold actH; rw [if_pos (Or.inr h1)])
              have HE2 : Hid (actP E P K b = P) := Lib.hid (by unfold actP; rw [if_neg (by omega), if_neg (by omega)])
              have k1 : (K == 1) = true := by simpa using h1
              clear h0 h1
              go_wp2_with (go_at_call 10; refine HPUT.out.mono ?_; rintro e wc ⟨rfl, F', hd'⟩; have HDc := Lib.hid hd'; clear hd')
              go_meet
              exact ⟨_, by rw [HE1.out, HE2.out]; exact HDc.out⟩
            have k1 : (K == 1) = false := by simpa using h1
            have h01 : ¬ (K = 0 ∨ K = 1) := by omega
            by_cases h2 : K = 2
            · have HE1 : Hid (actH q E K b = useH E (sumB b)) := Lib.hid (by unfold actH; rw [if_neg h01, if_pos h2])
              have HE2 : Hid (actP E P K b = P) := Lib.hid (by unfold actP; rw [if_neg (by omega), if_neg (by omega)])
              have k2 : (K == 2) = true := by simpa using h2
              clear h0 h1 h01 h2
              go_wp2_with first
                | (with_reducible refine wpList_load_mid rfl _ _ rfl _ _ rfl _ _ RJ.out Tryd.underlying31 rfl SI.out ?_)
                | (go_at_call 11; refine HUSE.out.mono ?_; rintro e wc ⟨rfl, F', hd'⟩; have HDc := Lib.hid hd'; clear hd')
              go_meet
              exact ⟨_, by rw [HE1.out, HE2.out]; exact HDc.out⟩
            have k2 : (K == 2) = false := by simpa using h2
            by_cases h3 : K = 3
            · have HE1 : Hid (actH q E K b = E) := Lib.hid (by unfold actH; rw [if_neg h01, if_neg h2, if_neg (by omega)])
              have HE2 : Hid (actP E P K b = pinP E P (sumB b)) := Lib.hid (by unfold actP; rw [if_pos h3])
              have k3 : (K == 3) = true := by simpa using h3
              clear h0 h1 h01 h2 h3
              go_wp2_with first
                | (with_reducible refine wpList_load_mid rfl _ _ rfl _ _ rfl _ _ RJ.out Tryd.underlying31 rfl SI.out ?_)
                | (go_at_call 12; refine HPIN.out.mono ?_; rintro e wc ⟨rfl, F', hd'⟩; have HDc := Lib.hid hd'; clear hd')
              go_meet
              exact ⟨_, by rw [HE1.out, HE2.out]; exact HDc.out⟩
            have k3 : (K == 3) = false := by simpa using h3
            by_cases h4 : K = 4
            · have HE1 : Hid (actH q E K b = dropH E (sumB b)) := Lib.hid (by unfold actH; rw [if_neg h01, if_neg h2, if_pos h4])
              have HE2 : Hid (actP E P K b = dropP E P (sumB b)) := Lib.hid (by unfold actP; rw [if_neg h3, if_pos h4])
              have k4 : (K == 4) = true := by simpa using h4
              clear h0 h1 h01 h2 h3 h4
              go_wp2_with first
                | (with_reducible refine wpList_load_mid rfl _ _ rfl _ _ rfl _ _ RJ.out Tryd.underlying31 rfl SI.out ?_)
                | (go_at_call 18; refine HDROP.out.mono ?_; rintro e wc ⟨rfl, F', hd'⟩; have HDc := Lib.hid hd'; clear hd')
              go_meet
              exact ⟨_, by rw [HE1.out, HE2.out]; exact HDc.out⟩
            have k4 : (K == 4) = false := by simpa using h4
            have HE1 : Hid (actH q E K b = E) := Lib.hid (by unfold actH; rw [if_neg h01, if_neg h2, if_neg h4])
            have HE2 : Hid (actP E P K b = P) := Lib.hid (by unfold actP; rw [if_neg h3, if_neg h4])
            clear h0 h1 h01 h2 h3 h4
            go_wp2_with fail
            go_meet
            exact ⟨_, by rw [HE1.out, HE2.out]; exact HDb.out⟩
          case rest =>
            obtain ⟨F', hd'⟩ := hcut
            have HOK2 := Lib.hid (HOK.out.act K b)
            have HGD2 := Lib.hid (HGD.out.act (q := q) K b)
            have HDc := Lib.hid hd'
            clear hd' d1 HPUT HUSE HPIN HDROP RJ HDb HD4 HD
            generalize actH q E K b = E' at *
            generalize actP E P K b = P' at *
            have hE1 : E'.length ≤ 1000 := by have := HOK2.out.len; omega
            have hall := all_st HDc.out.a hE1
            have hsz0 : sz E' ≤ 4096 := by have := HOK2.out.fits; have := HQ4.out; omega
            have HSZ := Lib.hid hsz0
            have hnd := HOK2.out.nd
            have hw := HOK2.out.wh
            have HND := Lib.hid hnd
            have HWH := Lib.hid hw
            clear hnd hw hsz0
            go_wp2_with (go_at_call 13; refine hall.mono ?_; rintro e wd ⟨vd, rfl, sd, nd, td⟩; have HDd := Lib.hid (Duo.beside HDc.out (local_st _ _ _ _) td (show SlObj vd (ids E') _ wd from ⟨sd, rfl⟩) nd); clear hall sd nd td)
            obtain ⟨ad, cd, hvd, _⟩ := (show Sl _ _ _ _ _ _ from HDd.out.c.1).shape
            subst hvd
            rw [ids_len] at HDd ⊢
            go_loopw [11, 12] (fun m k wx => ∃ (i : Nat), i ≤ E'.length ∧ k = .int .i64 i ∧ m = .int .i64 (sz (E'.take i) : Int) ∧ ∃ F G, Duo B w (StAt p q E' P') (SlObj (.slice ad E'.length cd) (ids E')) F G wx) (fun _ k _ => E'.length - (intOf k).toNat)
            case atStart => exact ⟨0, Nat.zero_le _, rfl, by simp [sz], _, _, HDd.out⟩
            case round =>
              clear HDd HDc
              obtain ⟨i, hi, rfl, rfl, F2, G2, hx⟩ := hrel
              by_cases hlt : i < E'.length
              · have hsl : ISl wr (.slice ad (ids E').length cd) (ids E') := by rw [ids_len]; exact hx.c.1
                obtain ⟨gg, og, rfl, rI⟩ := ISl.reads HWH.out hsl i (by rw [ids_len]; exact hlt)
                rw [ids_get E' hlt] at rI
                obtain ⟨hg2, hg1⟩ := HGD2.out _ (en_mem hlt)
                have hidl : (en E' i).1.length = 32 := by rw [← hg1]; exact sumB_len _
                have hmem2 : (en E' i).1 ∈ ids E' := by unfold ids; exact List.mem_map.2 ⟨_, en_mem hlt, rfl⟩
                have hgs : getS E' (en E' i).1 = (en E' i).2 := by unfold getS; rw [if_pos hmem2, place_of HND.out hlt]
                have hgi : getI E' (en E' i).1 = 0 := by unfold getI; rw [if_pos hmem2]
                have hve : verE (en E' i).1 (en E' i).2 = 0 := by unfold verE; rw [if_neg (by simpa using hg2), if_pos hg1]
                have hget := get_st hx.a (en E' i).1 hidl
                rw [hgs, hgi] at hget
                have hst := sz_take_succ E' hlt
                have hle : sz (E'.take (i + 1)) ≤ 4096 := by
                  have : sz E' = sz (E'.take (i + 1)) + sz (E'.drop (i + 1)) := by rw [← sz_append, List.take_append_drop]
                  have := HSZ.out
                  omega
                have hbs := check_size hg2
                have hb1 : (sz (E'.take i) : Int) + ((en E' i).2.size : Int) ≤ 4096 := by omega
                have hb0 : (0 : Int) ≤ (sz (E'.take i) : Int) := by omega
                have hsum : ∀ W, Calls Tryd.prog 9 #[.string (en E' i).2] W fun e w' => e = .returned (.agg (idc (en E' i).1).toArray) ∧ Turns nobody W w' := fun W => by
                  have := sha.refsum_any (en E' i).2 W (by omega)
                  rw [show sha.sum (en E' i).2.data.toList = sumB (en E' i).2 from rfl, hg1] at this
                  exact this
                have hver : ∀ W (F0 : Nat → Prop), StAt p q E' P' F0 W → Tabs W → Calls Tryd.prog 26 #[.pointer (some ⟨p, 0, none⟩), .agg (idc (en E' i).1).toArray, .string (en E' i).2] W fun e w' => e = .returned (.int .i64 0) ∧ Turns nobody W w' := fun W F0 hW htb => by
                  have := verify_st hW htb (en E' i).1 hidl (en E' i).2 (by omega)
                  rw [hve] at this
                  exact this
                have HSUM := Lib.hid hsum
                have HVER := Lib.hid hver
                have HST := Lib.hid hst
                have HLT := Lib.hid hlt
                have RI := Lib.hid rI
                have HXD := Lib.hid hx
                have SK := Lib.hid (sizeId hidl)
                have hi1k : (i : Int) + 1 ≤ 1001 := by omega
                have hil : (i : Int) < (E'.length : Int) := by omega
                clear hsl rI hg1 hg2 hmem2 hgs hgi hve hst hle hsum hver hx hlt
                generalize (en E' i).1 = eid at *
                generalize (en E' i).2 = eb at *
                generalize sz (E'.take i) = sn at *
                go_upto_region 26 with first
                  | (with_reducible refine wpList_load_mid rfl _ _ rfl _ _ rfl _ _ (RI.out _ (Turns.refl _ _)) Tryd.underlying31 rfl SK.out ?_)
                  | (go_at_call 23; refine hget.mono ?_; rintro e wf ⟨rfl, tf⟩; have HTf := Lib.hid tf; have HDf := Lib.hid (HXD.out.still (local_st _ _ _ _) (local_sl _ _) tf); clear tf hget)
                have RI2 : Hid (∀ W, Turns nobody wf W → W.rangeAt gg (og + i * 32) (idc eid)) := Lib.hid fun W ht => RI.out _ (HTf.out.trans ht (fun _ h => False.elim h))
                refine wp_region_mix [(0, true, true), (1, true, true), (2, true, true), (3, true, true), (5, true, true), (6, true, true), (7, true, true), (8, true, true), (4, false, true), (9, true, true), (10, true, true), (11, true, true), (12, true, true), (13, true, true), (14, true, true), (15, true, true), (16, true, true), (17, true, true), (18, false, true), (19, true, true), (20, true, true)] (fun W => Turns nobody wf W) (by kernel_rfl) (by kernel_rfl) ((Turns.refl nobody wf).drew) ?_
                simp only [picked, List.filterMap_cons, List.filterMap_nil, List.getElem?_toArray, List.getElem?_cons_zero, List.getElem?_cons_succ, Option.map_some]
                iterate 7 (refine mix_free (v := ?_) rfl ?_ ?_; rotate_left; (focus (intro w' hI; go_simp; try with_reducible rfl)); simp only [Act.put, List.setIfInBounds_toArray, List.set_cons_zero, List.set_cons_succ])
                refine mix_free (v := .agg (idc eid).toArray) rfl (fun w' hI => exec_load_mid _ _ rfl _ _ rfl (idc eid) _ (RI2.out _ hI) Tryd.underlying31 rfl SK.out) ?_
                simp only [Act.put, List.setIfInBounds_toArray, List.set_cons_zero, List.set_cons_succ]
                refine mix_big rfl (fun K' hK => ?_)
                go_wp2_with (go_at_call 9; refine (HSUM.out _).mono ?_; rintro e wg ⟨rfl, tg⟩; have HTg := Lib.hid ((Turns.refl nobody wf).drew.trans tg (fun _ h => False.elim h)); clear tg)
                refine hK _ _ (fun _ => HTg.out) ?_
                clear hK K'
                refine mix_free (v := .bool false) rfl (fun w' hI => exec_ne _ _ _ rfl eid eid rfl rfl hidl hidl (by simp)) ?_
                simp only [Act.put, List.setIfInBounds_toArray, List.set_cons_zero, List.set_cons_succ]
                iterate 6 (refine mix_free (v := ?_) rfl ?_ ?_; rotate_left; (focus (intro w' hI; go_simp; try with_reducible rfl)); simp only [Act.put, List.setIfInBounds_toArray, List.set_cons_zero, List.set_cons_succ])
                refine mix_free (v := .agg (idc eid).toArray) rfl (fun w' hI => exec_load_mid _ _ rfl _ _ rfl (idc eid) _ (RI2.out _ hI) Tryd.underlying31 rfl SK.out) ?_
                simp only [Act.put, List.setIfInBounds_toArray, List.set_cons_zero, List.set_cons_succ]
                iterate 1 (refine mix_free (v := ?_) rfl ?_ ?_; rotate_left; (focus (intro w' hI; go_simp; try with_reducible rfl)); simp only [Act.put, List.setIfInBounds_toArray, List.set_cons_zero, List.set_cons_succ])
                have HDg := Lib.hid (HDf.out.still (local_st _ _ _ _) (local_sl _ _) HTg.out)
                refine mix_big rfl (fun K' hK => ?_)
                go_wp2_with (go_at_call 26; refine (HVER.out _ _ HDg.out.a (Duo.tabs HDg.out HTB.out HPOS.out)).mono ?_; rintro e wi ⟨rfl, ti⟩; have HTi := Lib.hid (HTg.out.trans ti (fun _ h => False.elim h)); clear ti)
                refine hK _ _ (fun _ => HTi.out) ?_
                clear hK K'
                repeat (refine mix_free (v := ?_) rfl ?_ ?_; rotate_left; (focus (intro w' hI; go_simp; try with_reducible rfl)); simp only [Act.put, List.setIfInBounds_toArray, List.set_cons_zero, List.set_cons_succ])
                refine mix_nil ?_
                have HDi := Lib.hid (HDf.out.still (local_st _ _ _ _) (local_sl _ _) HTi.out)
                go_wp2
                go_roundw
                case rel => exact ⟨i + 1, HLT.out, by go_num, by rw [HST.out]; go_num, _, _, HDi.out⟩
                case measure => simp [intOf]; omega
              · obtain rfl : i = E'.length := by omega
                rw [List.take_length]
                have hpl := pins_le P' E'
                have hfq := HOK2.out.fits
                have q1 : (sz E' : Int) ≤ (q : Int) := by omega
                have q2 : (pins P' E' : Int) ≤ (sz E' : Int) := by omega
                have q3 : (0 : Int) ≤ (pins P' E' : Int) := by omega
                have hby := bytes_st hx.a
                have hpi := pinned_st hx.a
                have HXD := Lib.hid hx
                clear hx hpl hfq hlt
                generalize sz E' = sn at *
                generalize pins P' E' = pn at *
                go_wp2_with first
                  | (go_at_call 17; refine hby.mono ?_; rintro e w' ⟨rfl, rfl⟩)
                  | (go_at_call 15; refine hpi.mono ?_; rintro e w' ⟨rfl, rfl⟩)
                go_roundw
                case rel => exact ⟨j + 1, E', P', HJL.out.1, HJL.out.2, by go_num, HOK2.out, HGD2.out, _, Duo.alone HXD.out⟩
                case measure => simp [intOf]; omega
        · have hb2 : (1000 : Int) < (b.size : Int) := by omega
          unfold maxLen at hbm
          clear hb
          go_wp2
          go_roundw
          case rel => exact ⟨j + 1, E, P, HJL.out.1, HJL.out.2, by go_num, HOK.out.mono (Nat.le_succ j), HGD.out, _, HD4.out⟩
          case measure => simp [intOf]; omega
      · have hex : rows.length ≤ j ∨ (j < rows.length ∧ 50 ≤ j) := by omega
        have haw := HAW.out _ hd.below hd.size
        clear hd hok hfit hrow hlt hgd
        rcases hex with hex | ⟨hex1, hex2⟩
        all_goals
          go_wp2_with (go_at_call 8; refine haw.mono ?_; rintro e w9 ⟨rfl, hb9⟩; have HB9 := Lib.hid hb9; clear hb9)
          go_ret
          exact ⟨rfl, HB9.out⟩
  · have hN := new_bad qi (by omega) w
    have haw := HAW.out w (Below.refl _ _) (Nat.le_refl _)
    rw [hB] at haw ⊢
    clear hrow hfit ht hpos hq hB
    go_enter Tryd.func5, Tryd.ntmps5
    go_wp2_with first
      | (go_at_call 7; refine hN.mono ?_; rintro e w2 ⟨rfl, rfl⟩)
      | (go_at_call 8; refine haw.mono ?_; rintro e w9 ⟨rfl, hb9⟩; have HB9 := Lib.hid hb9; clear hb9)
    go_ret
    exact ⟨rfl, HB9.out⟩

end Go.Proofs.YtjnplcajajdkiaaDoor.store
