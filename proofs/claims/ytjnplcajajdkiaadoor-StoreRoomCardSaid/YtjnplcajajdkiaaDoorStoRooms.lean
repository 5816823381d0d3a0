/- StoreRoom: the walk. -/
import Derived.Test.YtjnplcajajdkiaaDoorStoAwake
import Derived.Test.YtjnplcajajdkiaaDoorFlatKit
namespace Go.Proofs.YtjnplcajajdkiaaDoor.store
open Go.RowKit
open Go.Proofs.YtjnplcajajdkiaaDoor.stepkit Go.Proofs.YtjnplcajajdkiaaDoor.eqkit Go.Proofs.YtjnplcajajdkiaaDoor.idkit Go.Proofs.YtjnplcajajdkiaaDoor.obj Go.Proofs.YtjnplcajajdkiaaDoor.row Go.Proofs.YtjnplcajajdkiaaDoor.mapkit Go.Proofs.YtjnplcajajdkiaaDoor.mix Go.Proofs.YtjnplcajajdkiaaDoor.lru Go.Proofs.YtjnplcajajdkiaaDoor.argkit
open Go.Proofs.YtjnplcajajdkiaaDoor.sha (Tabs wpList_putc new32 range_of)

def rKinds : List TypeDesc := [.int .i64, .string, .int .i64]
theorem ract_row {r : List Value} (h : Fits rKinds r) : ∃ (K : Int) (b : ByteArray) (n : Int), r = [.int .i64 K, .string b, .int .i64 n] ∧ b.size ≤ maxLen := by
  obtain ⟨_, r1, rfl, ⟨K, rfl, _⟩, e1⟩ := argkit.Fits.cons h
  obtain ⟨_, r2, rfl, ⟨b, rfl, hb⟩, e2⟩ := argkit.Fits.cons e1
  obtain ⟨_, r3, rfl, ⟨n, rfl, _⟩, e3⟩ := argkit.Fits.cons e2
  obtain rfl := argkit.Fits.nil e3
  exact ⟨K, b, n, rfl, hb⟩
theorem ract_at {w W : World} {B : Nat} {rows : List (List Value)} {b o : Nat} (hb : b < B) (hc : ∀ i, i < rows.length → ∀ j, j < 3 → w.cell? ⟨b, o + i * 3 + j, none⟩ = some ((rows.getD i []).getD j undef)) (hW : Below B w W) {K n : Int} {s : ByteArray} (i : Nat) (hi : i < rows.length) (hr : rows.getD i [] = [.int .i64 K, .string s, .int .i64 n]) :
    W.cell? ⟨b, o + i * 3, none⟩ = some (.int .i64 K) ∧ W.cell? ⟨b, o + i * 3 + 1, none⟩ = some (.string s) := by
  have hh : ∀ j, j < 3 → W.cell? ⟨b, o + i * 3 + j, none⟩ = some ([Value.int .i64 K, .string s, .int .i64 n].getD j undef) := fun j hj => by
    rw [hW.cell (p := ⟨b, o + i * 3 + j, none⟩) hb, hc i hi j hj, hr]
  exact ⟨hh 0 (by omega), hh 1 (by omega)⟩

def rH (q : Nat) (E : Held) (K : Int) (b : ByteArray) : Held := if K = 0 ∨ K = 1 then putH q E b else if K = 2 then useH E (sumB b) else E
def rP (E : Held) (P : List (List Int)) (K : Int) (b : ByteArray) : List (List Int) := if K = 3 then pinP E P (sumB b) else P
theorem Ok.ract {q k : Nat} {E : Held} {P : List (List Int)} (h : Ok q k E P) (K : Int) (b : ByteArray) : Ok q (k + 1) (rH q E K b) (rP E P K b) := by
  unfold rH rP
  by_cases h01 : K = 0 ∨ K = 1
  · rw [if_pos h01, if_neg (by omega)]
    exact h.putH b
  · rw [if_neg h01]
    by_cases h2 : K = 2
    · rw [if_pos h2, if_neg (by omega)]
      exact h.useH _
    · rw [if_neg h2]
      by_cases h3 : K = 3
      · rw [if_pos h3]
        exact h.pinP _
      · rw [if_neg h3]
        exact h.mono (Nat.le_succ k)

/-! ### Those that went, one behind the other -/
def gone (E : Held) (O : List (List Int)) : Held := E.filter fun x => decide (x.1 ∉ O)
theorem gone_nil (E : Held) : gone E [] = E := by unfold gone; simp
theorem gone_next (E : Held) (O : List (List Int)) {i : Nat} (h : i < O.length) : dropE (gone E (O.take i)) (O.getD i []) = gone E (O.take (i + 1)) := by
  unfold dropE gone
  rw [List.filter_filter]
  refine List.filter_congr fun x _ => ?_
  have e : O.take (i + 1) = O.take i ++ [O.getD i []] := by rw [List.take_add_one, List.getElem?_eq_getElem h, List.getD, List.getElem?_eq_getElem h]; rfl
  rw [e]
  by_cases h1 : x.1 ∈ O.take i <;> by_cases h2 : x.1 = O.getD i [] <;> simp [h1, h2]
theorem ids_gone (E : Held) (O : List (List Int)) : ids (gone E O) = (ids E).filter fun y => decide (y ∉ O) := by
  unfold ids gone
  rw [List.filter_map]
  rfl
theorem filter_next (x : List (List Int)) (O : List (List Int)) {i : Nat} (h : i < O.length) : dropL (x.filter fun y => decide (y ∉ O.take i)) (O.getD i []) = x.filter fun y => decide (y ∉ O.take (i + 1)) := by
  unfold dropL
  rw [List.filter_filter]
  refine List.filter_congr fun y _ => ?_
  have e : O.take (i + 1) = O.take i ++ [O.getD i []] := by rw [List.take_add_one, List.getElem?_eq_getElem h, List.getD, List.getElem?_eq_getElem h]; rfl
  rw [e]
  by_cases h1 : y ∈ O.take i <;> by_cases h2 : y = O.getD i [] <;> simp [h1, h2]
theorem filter_sub {E S : Held} (h : S.Sublist E) (hn : (ids E).Nodup) : (E.filter fun x => decide (x.1 ∈ ids S)) = S := by
  induction h with
  | slnil => rfl
  | @cons S E a hs ih =>
    unfold ids at hn
    rw [List.map_cons, List.nodup_cons] at hn
    have hna : a.1 ∉ ids S := fun hm => hn.1 (by unfold ids at hm; obtain ⟨y, hy, e⟩ := List.mem_map.1 hm; exact List.mem_map.2 ⟨y, hs.subset hy, e⟩)
    rw [List.filter_cons, if_neg (by simpa using hna)]
    exact ih hn.2
  | @cons_cons S E a hs ih =>
    unfold ids at hn
    rw [List.map_cons, List.nodup_cons] at hn
    have e : (E.filter fun x => decide (x.1 ∈ ids (a :: S))) = E.filter fun x => decide (x.1 ∈ ids S) := List.filter_congr fun x hx => by
      have hne : x.1 ≠ a.1 := fun e => hn.1 (List.mem_map.2 ⟨x, hx, e⟩)
      unfold ids
      simp [hne]
    rw [List.filter_cons, if_pos (by unfold ids; simp), e, ih hn.2]
theorem outs_sub (P : List (List Int)) (E : Held) (j : Nat) : (outs P E j).Sublist E := List.filter_sublist.trans (List.take_sublist _ _)
theorem ids_take (E : Held) (i : Nat) : ids (E.take i) = (ids E).take i := by unfold ids; rw [List.map_take]
theorem sz_gone {E : Held} (hn : (ids E).Nodup) (P : List (List Int)) (J i : Nat) : sz (gone E ((ids (outs P E J)).take i)) + sz ((outs P E J).take i) = sz E := by
  have h1 := sz_filter E fun x => decide (x.1 ∈ ids ((outs P E J).take i))
  rw [filter_sub ((List.take_sublist _ _).trans (outs_sub P E J)) hn] at h1
  have h2 : (E.filter fun x => !decide (x.1 ∈ ids ((outs P E J).take i))) = gone E ((ids (outs P E J)).take i) := by
    unfold gone
    rw [← ids_take]
    exact List.filter_congr fun x _ => by simp
  rw [h2] at h1
  omega
theorem outs_at (P : List (List Int)) (E : Held) : ∀ J, J ≤ E.length → ∀ i, i < (outs P E J).length → ∃ j, j < J ∧ outs P E j = (outs P E J).take i
  | 0, _, i, h => by rw [outs_zero] at h; simp at h
  | J + 1, hJ, i, h => by
    rw [outs_succ P E (show J < E.length by omega)] at h ⊢
    by_cases hp : (en E J).1 ∈ P
    · rw [if_pos hp, List.append_nil] at h ⊢
      obtain ⟨j, hj, e⟩ := outs_at P E J (by omega) i h
      exact ⟨j, by omega, e⟩
    · rw [if_neg hp] at h ⊢
      rw [List.length_append, List.length_singleton] at h
      by_cases hi : i < (outs P E J).length
      · obtain ⟨j, hj, e⟩ := outs_at P E J (by omega) i hi
        exact ⟨j, by omega, by rw [e, List.take_append_of_le_length (by omega)]⟩
      · refine ⟨J, by omega, ?_⟩
        rw [show i = (outs P E J).length by omega, List.take_left]
theorem outs_not {P : List (List Int)} {E : Held} {J : Nat} {y : List Int} (h : y ∈ ids (outs P E J)) : y ∉ P := by
  unfold ids outs at h
  obtain ⟨x, hx, rfl⟩ := List.mem_map.1 h
  have := (List.mem_filter.1 hx).2
  simpa using this
theorem outs_ids {P : List (List Int)} {E : Held} {J : Nat} {y : List Int} (h : y ∈ ids (outs P E J)) : y ∈ ids E := by
  unfold ids at h ⊢
  obtain ⟨x, hx, rfl⟩ := List.mem_map.1 h
  exact List.mem_map.2 ⟨x, (outs_sub P E J).subset hx, rfl⟩
theorem outs_nodup {P : List (List Int)} {E : Held} (hn : (ids E).Nodup) (J : Nat) : (ids (outs P E J)).Nodup := by
  unfold ids at hn ⊢
  exact ((outs_sub P E J).map _).nodup hn
theorem Ok.gone {q k : Nat} {E : Held} {P : List (List Int)} (h : Ok q k E P) {O : List (List Int)} (hO : ∀ y ∈ O, y ∉ P) : Ok q k (store.gone E O) P := by
  refine ⟨h.qle, Nat.le_trans (sz_filter_le _ _) h.fits, fun y hy => ?_, Nat.le_trans (List.length_filter_le _ _) h.len, h.plen, ?_, ?_⟩
  · rw [ids_gone]
    exact List.mem_filter.2 ⟨h.sub y hy, by simpa using fun hm => hO y hm hy⟩
  · rw [ids_gone]
    exact fun y hy => h.wh y (List.mem_filter.1 hy).1
  · rw [ids_gone]
    exact h.nd.sublist List.filter_sublist
theorem pins_gone {P : List (List Int)} {E : Held} {O : List (List Int)} (hO : ∀ y ∈ O, y ∉ P) : pins P (gone E O) = pins P E := by
  unfold pins gone
  rw [List.filter_filter]
  refine sz_filter_congr fun x _ => ?_
  by_cases hp : x.1 ∈ P
  · have : x.1 ∉ O := fun h => hO _ h hp
    simp [hp, this]
  · simp [hp]
theorem drop_none {P : List (List Int)} {id : List Int} (h : id ∉ P) : dropL P id = P := by
  unfold dropL
  exact List.filter_eq_self.2 fun y hy => by simp only [ne_eq, decide_eq_true_eq]; exact fun e => h (e ▸ hy)
theorem not_take {O : List (List Int)} (hn : O.Nodup) {i : Nat} (h : i < O.length) : O.getD i [] ∉ O.take i := not_in_take hn h

set_option maxRecDepth 20000 in
set_option maxHeartbeats 8000000 in
theorem rooms_any (qi : Int) (ao : Option Addr) (rows : List (List Value)) (cap : Nat) (n : Int) (w : World) (hcap : rows.length ≤ maxLen) (hrow : RowsAt w w.heap.size 3 ao rows) (hfit : ∀ r ∈ rows, Fits rKinds r) (ht : Tabs w) (hpos : 1 < w.heap.size ∧ 0 < w.heap.size) :
    Calls Tryd.prog 3 #[.int .i64 qi, .slice ao rows.length cap, .int .i64 n] w fun e w' => e = .returned (.bool true) ∧ Below w.heap.size w w' := by
  unfold maxLen at hcap
  have HTB := Lib.hid ht
  have HPOS := Lib.hid hpos
  have HAW : Hid (∀ W, Below w.heap.size w W → w.heap.size ≤ W.heap.size → Calls Tryd.prog 8 #[] W fun e w' => e = .returned (.bool true) ∧ Below w.heap.size w w') := Lib.hid fun W hW hs => (awake_any W (ht.below hW hpos) ⟨by omega, by omega⟩).mono fun e w' ⟨he, hb⟩ => ⟨he, hW.trans (hb.mono hs)⟩
  obtain ⟨B, hB⟩ : ∃ B, w.heap.size = B := ⟨_, rfl⟩
  by_cases hq : 0 ≤ qi ∧ qi ≤ 4096
  · obtain ⟨q, rfl⟩ : ∃ q : Nat, qi = (q : Int) := ⟨qi.toNat, by omega⟩
    have hq4 : q ≤ 4096 := by omega
    have hN := new_d q hq4 w
    rw [hB] at hN hrow HPOS HAW ⊢
    have HQ4 := Lib.hid hq4
    have g0 : (0 : Int) ≤ (q : Int) := by omega
    have g3 : (q : Int) ≤ 4096 := by omega
    clear hB ht hpos hq hq4
    go_enter Tryd.func3, Tryd.ntmps3
    go_wp2_with (go_at_call 7; refine hN.mono ?_; rintro e w2 ⟨p, F, rfl, hd⟩; have HD2 := Lib.hid hd; clear hd hN)
    go_loopw [9] (fun i wr => ∃ (j : Nat) (E : Held) (P : List (List Int)), j ≤ rows.length ∧ j ≤ 50 ∧ i = .int .i64 j ∧ Ok q j E P ∧ ∃ F, Duo B w (StAt p q E P) nothing F nobody wr) (fun i _ => 50 - (intOf i).toNat)
    case atStart => exact ⟨0, [], [], by omega, by omega, rfl, Ok.start HQ4.out, _, HD2.out⟩
    case round =>
      clear HD2 F
      obtain ⟨j, E, P, hj, hj50, rfl, hok, F, hd⟩ := hrel
      by_cases hlt : j < rows.length ∧ j < 50
      · obtain ⟨h3, h4⟩ := hlt
        obtain ⟨bb, oo, rfl, hbb, hcell⟩ := hrow (by omega)
        have hmem : rows.getD j [] ∈ rows := by rw [List.getD, List.getElem?_eq_getElem h3]; exact List.getElem_mem _
        obtain ⟨K, b, nn, hr, hbm⟩ := ract_row (hfit _ hmem)
        have HROW : Hid (∀ W, Below B w W → W.cell? ⟨bb, oo + j * 3, none⟩ = some (.int .i64 K) ∧ W.cell? ⟨bb, oo + j * 3 + 1, none⟩ = some (.string b)) := Lib.hid fun W hW => ract_at hbb hcell hW j h3 hr
        have HD := Lib.hid hd
        have HOK := Lib.hid hok
        have HJL : Hid (j + 1 ≤ rows.length ∧ j + 1 ≤ 50) := Lib.hid ⟨h3, h4⟩
        obtain ⟨r0, r1⟩ := HROW.out _ hd.below
        clear hr hmem hcell hd hok hfit hrow
        by_cases hb : b.size ≤ 1000
        · have hsum := sha.refsum_any b wr (by omega)
          have hid := sumB_len b
          have NI := Lib.hid (zid_size (sumB b) hid)
          have SI := Lib.hid (sizeId hid)
          go_upto_region 9 with first
            | (go_at_call 9; refine hsum.mono ?_; rintro e wa ⟨rfl, ta⟩; have HTa := Lib.hid ta; have HNa := Lib.hid (new32 wa); clear ta hsum)
            | (refine wpList_putc rfl _ _ _ rfl (idc (sumB b)) HNa.out NI.out (idc_one _) rfl rfl SI.out ?_; intro wb tb ab zb)
          obtain ⟨J, hJ⟩ : ∃ J, wa.heap.size = J := ⟨_, rfl⟩
          rw [hJ] at tb ab ⊢
          have t4b : Turns nobody wr wb := (HTa.out.alloc _).trans tb (fun i hi => Or.inr (by have := HTa.out.size; omega))
          have HDb := Lib.hid (HD.out.still (local_st _ _ _ _) local_nothing t4b)
          have RJ := Lib.hid (range_of ab)
          clear r0 r1
          obtain ⟨d0, d1⟩ := HROW.out _ HDb.out.below
          clear t4b tb ab zb hJ
          have hput := put_d HDb.out local_nothing HOK.out (by omega) HTB.out HPOS.out b (by omega)
          have huse := use_d HDb.out local_nothing (sumB b) hid
          have hpin := pin_d HDb.out local_nothing HOK.out (sumB b) hid
          have HPUT := Lib.hid hput
          have HUSE := Lib.hid huse
          have HPIN := Lib.hid hpin
          clear hput huse hpin
          simp only [Act.put]
          go_cut [57] from 30 to 77 (fun t wc => wb = wc ∧ t = .int .i64 K)
          case first =>
            go_wp2_with fail
            go_meet
            exact ⟨rfl, rfl⟩
          case rest =>
          obtain ⟨rfl, rfl⟩ := hcut
          clear d0
          rename_i Kx hKx
          refine hKx _ _ ?_
          clear hKx Kx
          have HOK2 := Lib.hid (HOK.out.ract K b)
          by_cases h0 : K = 0
          · have HE1 : Hid (rH q E K b = putH q E b) := Lib.hid (by unfold rH; rw [if_pos (Or.inl h0)])
            have HE2 : Hid (rP E P K b = P) := Lib.hid (by unfold rP; rw [if_neg (by omega)])
            have k0 : (K == 0) = true := by simpa using h0
            clear h0
            go_wp2_with (go_at_call 10; refine HPUT.out.mono ?_; rintro e wc ⟨rfl, F', hd'⟩; have HDc := Lib.hid hd'; clear hd')
            go_roundw
            case rel => exact ⟨j + 1, _, _, HJL.out.1, HJL.out.2, by go_num, HOK2.out, _, by rw [HE1.out, HE2.out]; exact HDc.out⟩
            case measure => simp [intOf]; omega
          have k0 : (K == 0) = false := by simpa using h0
          by_cases h1 : K = 1
          · have HE1 : Hid (rH q E K b = putH q E b) := Lib.hid (by unfold rH; rw [if_pos (Or.inr h1)])
            have HE2 : Hid (rP E P K b = P) := Lib.hid (by unfold rP; rw [if_neg (by omega)])
            have k1 : (K == 1) = true := by simpa using h1
            clear h0 h1
            go_wp2_with (go_at_call 10; refine HPUT.out.mono ?_; rintro e wc ⟨rfl, F', hd'⟩; have HDc := Lib.hid hd'; clear hd')
            go_roundw
            case rel => exact ⟨j + 1, _, _, HJL.out.1, HJL.out.2, by go_num, HOK2.out, _, by rw [HE1.out, HE2.out]; exact HDc.out⟩
            case measure => simp [intOf]; omega
          have k1 : (K == 1) = false := by simpa using h1
          have h01 : ¬ (K = 0 ∨ K = 1) := by omega
          by_cases h2 : K = 2
          · have HE1 : Hid (rH q E K b = useH E (sumB b)) := Lib.hid (by unfold rH; rw [if_neg h01, if_pos h2])
            have HE2 : Hid (rP E P K b = P) := Lib.hid (by unfold rP; rw [if_neg (by omega)])
            have k2 : (K == 2) = true := by simpa using h2
            clear h0 h1 h01 h2
            go_wp2_with first
              | (with_reducible refine wpList_load_mid rfl _ _ rfl _ _ rfl _ _ RJ.out Tryd.underlying31 rfl SI.out ?_)
              | (go_at_call 11; refine HUSE.out.mono ?_; rintro e wc ⟨rfl, F', hd'⟩; have HDc := Lib.hid hd'; clear hd')
            go_roundw
            case rel => exact ⟨j + 1, _, _, HJL.out.1, HJL.out.2, by go_num, HOK2.out, _, by rw [HE1.out, HE2.out]; exact HDc.out⟩
            case measure => simp [intOf]; omega
          have k2 : (K == 2) = false := by simpa using h2
          by_cases h3 : K = 3
          · have HE1 : Hid (rH q E K b = E) := Lib.hid (by unfold rH; rw [if_neg h01, if_neg h2])
            have HE2 : Hid (rP E P K b = pinP E P (sumB b)) := Lib.hid (by unfold rP; rw [if_pos h3])
            have k3 : (K == 3) = true := by simpa using h3
            clear h0 h1 h01 h2 h3
            go_wp2_with first
              | (with_reducible refine wpList_load_mid rfl _ _ rfl _ _ rfl _ _ RJ.out Tryd.underlying31 rfl SI.out ?_)
              | (go_at_call 12; refine HPIN.out.mono ?_; rintro e wc ⟨rfl, F', hd'⟩; have HDc := Lib.hid hd'; clear hd')
            go_roundw
            case rel => exact ⟨j + 1, _, _, HJL.out.1, HJL.out.2, by go_num, HOK2.out, _, by rw [HE1.out, HE2.out]; exact HDc.out⟩
            case measure => simp [intOf]; omega
          have k3 : (K == 3) = false := by simpa using h3
          have HE1 : Hid (rH q E K b = E) := Lib.hid (by unfold rH; rw [if_neg h01, if_neg h2])
          have HE2 : Hid (rP E P K b = P) := Lib.hid (by unfold rP; rw [if_neg h3])
          clear h0 h1 h01 h2 h3
          go_wp2_with fail
          go_roundw
          case rel => exact ⟨j + 1, _, _, HJL.out.1, HJL.out.2, by go_num, HOK2.out, _, by rw [HE1.out, HE2.out]; exact HDb.out⟩
          case measure => simp [intOf]; omega
        · have hb2 : (1000 : Int) < (b.size : Int) := by omega
          unfold maxLen at hbm
          clear hb
          go_wp2
          go_roundw
          case rel => exact ⟨j + 1, E, P, HJL.out.1, HJL.out.2, by go_num, HOK.out.mono (Nat.le_succ j), _, HD.out⟩
          case measure => simp [intOf]; omega
      · have hex : rows.length ≤ j ∨ (j < rows.length ∧ 50 ≤ j) := by omega
        have hE1 : E.length ≤ 1000 := by have := hok.len; omega
        have hall := all_st hd.a hE1
        have HD := Lib.hid hd
        have HOK := Lib.hid hok
        have HEL := Lib.hid hE1
        clear hd hok hfit hrow hlt
        rcases hex with hex | ⟨hex1, hex2⟩
        all_goals
          go_upto_region 18 with (go_at_call 13; refine hall.mono ?_; rintro e wd ⟨vd, rfl, sd, nd, td⟩; have HDd := Lib.hid (Duo.beside HD.out (local_st _ _ _ _) td (show SlObj vd (ids E) _ wd from ⟨sd, rfl⟩) nd); clear hall sd nd td)
          have hroom := room_st HDd.out.a HOK.out (by omega) n
          go_upto_region 19 with (go_at_call 14; refine hroom.mono ?_; rintro e we ⟨ve, rfl, se, ne, te⟩; obtain ⟨Ge, hde⟩ := Duo.both HDd.out (local_st _ _ _ _) te se ne; have HDe := Lib.hid hde; clear hroom se ne te hde)
          obtain ⟨ad, cd, hvd, _⟩ := (show Sl _ _ _ _ _ _ from HDe.out.c.1).shape
          obtain ⟨ae, ce, hve, _⟩ := (show Sl _ _ _ _ _ _ from HDe.out.c.2.1).shape
          subst hvd
          subst hve
          have HWH := Lib.hid HOK.out.wh
          have HBW : Hid (∀ W, Turns nobody we W → Calls Tryd.prog 8 #[] W fun e w' => e = .returned (.bool true) ∧ Below B w w') := Lib.hid fun W ht => by
            have hx := HDe.out.still (local_st _ _ _ _) (local_two _ _ _ _) ht
            exact HAW.out W hx.below hx.size
          have hpl := pins_le P E
          have hfq := HOK.out.fits
          have hq4 := HQ4.out
          by_cases hf : roomE P q n E = 0
          · have hn0 : ¬ n < 0 := fun h => by unfold roomE at hf; rw [if_pos h] at hf; cases hf
            have hro : roomOk P q n E = true := by
              unfold roomE at hf
              rw [if_neg hn0] at hf
              by_cases h : roomOk P q n E = true
              · exact h
              · rw [if_neg h] at hf; cases hf
            have hrl : roomL P q n E = ids (outs P E (goes P q n E)) := by unfold roomL roomIds; rw [if_pos hf]
            have hfin : n ≤ (q : Int) - left P E (goes P q n E) := by unfold roomOk at hro; exact of_decide_eq_true hro
            have hmid : ∀ j', j' < goes P q n E → ¬ n ≤ (q : Int) - left P E j' := fun j' h => goes_not h
            have hJ := goes_le P q n E
            rw [hf]
            rw [hrl] at HDe ⊢
            clear hf hrl hro
            generalize goes P q n E = J at *
            have HNT : Hid (∀ y ∈ ids (outs P E J), y ∉ P) := Lib.hid fun y hy => outs_not hy
            have HOI : Hid (∀ y ∈ ids (outs P E J), y ∈ ids E) := Lib.hid fun y hy => outs_ids hy
            have HON : Hid (ids (outs P E J)).Nodup := Lib.hid (outs_nodup HOK.out.nd J)
            have HZG : Hid (∀ i, sz (gone E ((ids (outs P E J)).take i)) + sz ((outs P E J).take i) = sz E) := Lib.hid (sz_gone HOK.out.nd P J)
            have hol : (ids (outs P E J)).length = (outs P E J).length := ids_len _
            have HMD : Hid (∀ i, i < (ids (outs P E J)).length → ¬ n ≤ (q : Int) - (sz (gone E ((ids (outs P E J)).take i)) : Int)) := Lib.hid fun i hi => by
              obtain ⟨j', hj', e⟩ := outs_at P E J hJ i (by omega)
              have h1 := hmid j' hj'
              have h2 := HZG.out i
              unfold left at h1
              rw [e] at h1
              omega
            have HFN : Hid (n ≤ (q : Int) - (sz (gone E (ids (outs P E J))) : Int)) := Lib.hid (by
              have h2 := HZG.out (ids (outs P E J)).length
              rw [List.take_length, List.take_of_length_le (by omega)] at h2
              unfold left at hfin
              omega)
            have HOL : Hid ((ids (outs P E J)).length ≤ E.length) := Lib.hid (by rw [hol]; exact outs_len P E J)
            clear HZG hol hmid hfin hJ
            generalize ids (outs P E J) = O at *
            have hpi := pinned_st HDe.out.a
            go_wp2_with (go_at_call 15; refine hpi.mono ?_; rintro e w' ⟨rfl, rfl⟩)
            go_loopw [15] (fun k wr => ∃ (i : Nat), i ≤ O.length ∧ k = .int .i64 i ∧ ∃ F G, Duo B w (StAt p q (gone E (O.take i)) P) (SlTwo (.slice ad (ids E).length cd) (ids E) (.slice ae O.length ce) O) F G wr) (fun k _ => O.length - (intOf k).toNat)
            case atStart => exact ⟨0, Nat.zero_le _, rfl, _, _, by rw [List.take_zero, gone_nil]; exact HDe.out⟩
            case round =>
              clear HBW
              obtain ⟨i, hi, rfl, F2, G2, hx⟩ := hrel
              have HXD := Lib.hid hx
              clear hx HDe
              by_cases hlt : i < O.length
              · have HNX := Lib.hid (gone_next E O hlt)
                have HLT := Lib.hid hlt
                have hmem : O.getD i [] ∈ O := by rw [List.getD, List.getElem?_eq_getElem hlt]; exact List.getElem_mem _
                have hin : O.getD i [] ∈ ids (gone E (O.take i)) := by
                  rw [ids_gone]
                  exact List.mem_filter.2 ⟨HOI.out _ hmem, by simpa using not_take HON.out hlt⟩
                have hid : (O.getD i []).length = 32 := HWH.out _ (HOI.out _ hmem)
                have hwO : Wh O := fun y hy => HWH.out y (HOI.out y hy)
                obtain ⟨gg, og, rfl, rI⟩ := ISl.reads hwO HXD.out.c.2.1 i hlt
                have RI := Lib.hid rI
                have SK := Lib.hid (sizeId hid)
                have hok2 : Ok q j (gone E (O.take i)) P := HOK.out.gone fun y hy => HNT.out y (List.mem_of_mem_take hy)
                have hby := bytes_st HXD.out.a
                have hdr := drop_d HXD.out (local_two _ _ _ _) hok2 (O.getD i []) hid
                have hg : getI (gone E (O.take i)) (O.getD i []) = 0 := by unfold getI; rw [if_pos hin]
                have hd1 : dropH (gone E (O.take i)) (O.getD i []) = gone E (O.take (i + 1)) := by unfold dropH; rw [if_pos hin, HNX.out]
                have hd2 : dropP (gone E (O.take i)) P (O.getD i []) = P := by unfold dropP; rw [if_pos hin, drop_none (HNT.out _ hmem)]
                rw [hg, hd1, hd2] at hdr
                have HDR := Lib.hid hdr
                have hmd := HMD.out i hlt
                have hil : (i : Int) < (O.length : Int) := by omega
                have hi1k : (i : Int) + 1 ≤ 1001 := by have := HOL.out; omega
                have hszg : (sz (gone E (O.take i)) : Int) ≤ (q : Int) := by have := hok2.fits; omega
                have hszn : (0 : Int) ≤ (sz (gone E (O.take i)) : Int) := by omega
                have hnlt : (q : Int) - (sz (gone E (O.take i)) : Int) < n := by omega
                clear hmd hdr hd1 hd2 hg hok2 hin hmem rI hlt hwO HNX
                generalize O.getD i [] = eid at *
                generalize hsn : sz (gone E (O.take i)) = sn at *
                clear hsn
                go_wp2_with first
                  | (with_reducible refine wpList_exec (exec_load_mid _ _ rfl _ _ rfl (idc eid) _ (RI.out _ (Turns.refl _ _)) Tryd.underlying31 rfl SK.out) (by first | rfl | go_simp) ?_)
                  | (go_at_call 17; refine hby.mono ?_; rintro e w' ⟨rfl, rfl⟩)
                  | (go_at_call 18; refine HDR.out.mono ?_; rintro e wf ⟨rfl, F3, hd3⟩; have HD3 := Lib.hid hd3; clear hd3)
                go_roundw
                case rel => exact ⟨i + 1, HLT.out, by go_num, _, _, HD3.out⟩
                case measure => simp [intOf]; omega
              · obtain rfl : i = O.length := by omega
                rw [List.take_length] at HXD
                have hg1 : (gone E O).length ≤ 1000 := by have h1 : (gone E O).length ≤ E.length := List.length_filter_le _ _; have := HEL.out; omega
                have hall3 := all_st HXD.out.a hg1
                go_wp2_with (go_at_call 13; refine hall3.mono ?_; rintro e wl ⟨vl, rfl, sl, nl, tl⟩; have HSL := Lib.hid sl; have HDl := Lib.hid (HXD.out.still (local_st _ _ _ _) (local_two _ _ _ _) tl); clear sl nl tl hall3)
                go_loopw [11, 17] (fun m k wx => ∃ (i : Nat), i ≤ O.length ∧ k = .int .i64 i ∧ ISl wx m ((ids E).filter fun y => decide (y ∉ O.take i)) ∧ Turns nobody wl wx) (fun _ k _ => O.length - (intOf k).toNat)
                case atStart => exact ⟨0, Nat.zero_le _, rfl, by rw [List.take_zero, (List.filter_eq_self.2 (fun _ _ => by simp) : ((ids E).filter fun y => decide (y ∉ ([] : List (List Int)))) = ids E)]; exact HDl.out.c.1, Turns.refl _ _⟩
                case round =>
                  obtain ⟨i, hi, rfl, hm, tx⟩ := hrel
                  have HT := Lib.hid tx
                  have HM := Lib.hid hm
                  clear hm tx hlt
                  by_cases hlt : i < O.length
                  · have HFX := Lib.hid (filter_next (ids E) O hlt)
                    have HLT := Lib.hid hlt
                    have hmem : O.getD i [] ∈ O := by rw [List.getD, List.getElem?_eq_getElem hlt]; exact List.getElem_mem _
                    have hid : (O.getD i []).length = 32 := HWH.out _ (HOI.out _ hmem)
                    have hwO : Wh O := fun y hy => HWH.out y (HOI.out y hy)
                    obtain ⟨gg, og, rfl, rI⟩ := ISl.reads hwO HDl.out.c.2.1 i hlt
                    have RI := Lib.hid rI
                    have SK := Lib.hid (sizeId hid)
                    have hwf : Wh ((ids E).filter fun y => decide (y ∉ O.take i)) := fun y hy => HWH.out y (List.mem_filter.1 hy).1
                    have hfl : ((ids E).filter fun y => decide (y ∉ O.take i)).length ≤ 1024 := by have h1 := List.length_filter_le (fun y => decide (y ∉ O.take i)) (ids E); rw [ids_len] at h1; have := HEL.out; omega
                    have hrd := ref_drop _ _ hwf (O.getD i []) hid _ HM.out hfl
                    rw [HFX.out] at hrd
                    have HRD := Lib.hid hrd
                    have hil : (i : Int) < (O.length : Int) := by omega
                    have hi1k : (i : Int) + 1 ≤ 1001 := by have := HOL.out; omega
                    clear hrd hfl hwf hmem rI hlt hwO HFX
                    generalize O.getD i [] = eid at *
                    go_wp2_with first
                      | (with_reducible refine wpList_load_mid rfl _ _ rfl _ _ rfl _ _ (RI.out _ HT.out) Tryd.underlying31 rfl SK.out ?_)
                      | (go_at_call 19; refine HRD.out.mono ?_; rintro e wf ⟨vf, rfl, sf, nf, tf⟩; have HSF := Lib.hid sf; have HTF := Lib.hid (HT.out.trans tf (fun _ h => False.elim h)); clear sf nf tf)
                    go_roundw
                    case rel => exact ⟨i + 1, HLT.out, by go_num, HSF.out, HTF.out⟩
                    case measure => simp [intOf]; omega
                  · obtain rfl : i = O.length := by omega
                    rw [List.take_length, ← ids_gone] at HM
                    have HDz := Lib.hid (HDl.out.still (local_st _ _ _ _) (local_two _ _ _ _) HT.out)
                    have hby := bytes_st HDz.out.a
                    have hpi2 := pinned_st HDz.out.a
                    rw [pins_gone HNT.out] at hpi2
                    have hwg : Wh (ids (gone E O)) := by rw [ids_gone]; exact fun y hy => HWH.out y (List.mem_filter.1 hy).1
                    have hsm := same_any _ _ (ids (gone E O)) hwg _ HM.out (Sl.keep HSL.out HT.out (fun _ _ h => h)) (by rw [ids_len]; omega)
                    have haw := fun W (ht : Turns nobody wr W) => HAW.out W (HDz.out.still (local_st _ _ _ _) (local_two _ _ _ _) ht).below (HDz.out.still (local_st _ _ _ _) (local_two _ _ _ _) ht).size
                    have HAZ := Lib.hid haw
                    have hfn := HFN.out
                    have hszg : (sz (gone E O) : Int) ≤ (q : Int) := by have := sz_filter_le E (fun x => decide (x.1 ∉ O)); unfold gone; omega
                    have hszn : (0 : Int) ≤ (sz (gone E O) : Int) := by omega
                    clear haw hwg hlt
                    generalize sz (gone E O) = sn at *
                    generalize pins P E = pn at *
                    go_wp2_with first
                      | (go_at_call 17; refine hby.mono ?_; rintro e w' ⟨rfl, rfl⟩)
                      | (go_at_call 15; refine hpi2.mono ?_; rintro e w' ⟨rfl, rfl⟩)
                      | (go_at_call 16; refine hsm.mono ?_; rintro e wy ⟨rfl, ty⟩; have HTY := Lib.hid ty; clear ty)
                      | (go_at_call 8; refine (HAZ.out _ HTY.out).mono ?_; rintro e w9 ⟨rfl, hb9⟩; have HB9 := Lib.hid hb9; clear hb9)
                    go_ret
                    exact ⟨rfl, HB9.out⟩
          · have hrl : roomL P q n E = [] := by unfold roomL; rw [if_neg hf]
            have hal2 := all_st HDe.out.a HEL.out
            have hpi := pinned_st HDe.out.a
            have HSM : Hid (∀ W v2, Turns nobody we W → ISl W v2 (ids E) → Calls Tryd.prog 16 #[.slice ad (ids E).length cd, v2] W fun e w' => e = .returned (.bool true) ∧ Turns nobody W w') := Lib.hid fun W v2 ht hs => same_any _ _ (ids E) HWH.out W (Sl.keep HDe.out.c.1 ht (fun _ _ h => h)) hs (by rw [ids_len]; have := HEL.out; omega)
            rw [hrl]
            by_cases hn : n < 0
            · have he : roomE P q n E = 1 := by unfold roomE; rw [if_pos hn]
              rw [he]
              clear hf he hrl hpl hfq hq4
              go_wp2_with first
                | (go_at_call 15; refine hpi.mono ?_; rintro e w' ⟨rfl, rfl⟩)
                | (go_at_call 13; refine hal2.mono ?_; rintro e w3 ⟨v3, rfl, s3, n3, t3⟩; have HS3 := Lib.hid s3; have HT3 := Lib.hid t3; clear s3 n3 t3)
                | (go_at_call 16; refine (HSM.out _ _ HT3.out HS3.out).mono ?_; rintro e w4 ⟨rfl, t4⟩; have HT4 := Lib.hid (HT3.out.trans t4 (fun _ h => False.elim h)); clear t4)
                | (go_at_call 8; refine (HBW.out _ HT4.out).mono ?_; rintro e w9 ⟨rfl, hb9⟩; have HB9 := Lib.hid hb9; clear hb9)
              go_ret
              exact ⟨rfl, HB9.out⟩
            · have hro : ¬ roomOk P q n E = true := fun h => hf (by unfold roomE; rw [if_neg hn, if_pos h])
              have he : roomE P q n E = 14 := by unfold roomE; rw [if_neg hn, if_neg hro]
              have hgt : (q : Int) - (pins P E : Int) < n := by
                unfold roomOk at hro
                have h1 : ¬ n ≤ (q : Int) - left P E (goes P q n E) := by simpa using hro
                have h2 : goes P q n E = E.length := by
                  have := goes_le P q n E
                  by_cases h : goes P q n E < E.length
                  · exact absurd (goes_yes h) h1
                  · omega
                rw [h2, left_end] at h1
                omega
              have hpq : (pins P E : Int) ≤ (q : Int) := by omega
              have hp0 : (0 : Int) ≤ (pins P E : Int) := by omega
              rw [he]
              clear hf he hrl hpl hfq hq4 hro
              generalize pins P E = pn at *
              go_wp2_with first
                | (go_at_call 15; refine hpi.mono ?_; rintro e w' ⟨rfl, rfl⟩)
                | (go_at_call 13; refine hal2.mono ?_; rintro e w3 ⟨v3, rfl, s3, n3, t3⟩; have HS3 := Lib.hid s3; have HT3 := Lib.hid t3; clear s3 n3 t3)
                | (go_at_call 16; refine (HSM.out _ _ HT3.out HS3.out).mono ?_; rintro e w4 ⟨rfl, t4⟩; have HT4 := Lib.hid (HT3.out.trans t4 (fun _ h => False.elim h)); clear t4)
                | (go_at_call 8; refine (HBW.out _ HT4.out).mono ?_; rintro e w9 ⟨rfl, hb9⟩; have HB9 := Lib.hid hb9; clear hb9)
              go_ret
              exact ⟨rfl, HB9.out⟩
  · have hN := new_bad qi (by omega) w
    have haw := HAW.out w (Below.refl _ _) (Nat.le_refl _)
    rw [hB] at haw ⊢
    clear hrow hfit ht hpos hq hB
    go_enter Tryd.func3, Tryd.ntmps3
    go_wp2_with first
      | (go_at_call 7; refine hN.mono ?_; rintro e w2 ⟨rfl, rfl⟩)
      | (go_at_call 8; refine haw.mono ?_; rintro e w9 ⟨rfl, hb9⟩; have HB9 := Lib.hid hb9; clear hb9)
    go_ret
    exact ⟨rfl, HB9.out⟩

end Go.Proofs.YtjnplcajajdkiaaDoor.store
