/- The reference's numbers and reader. -/
import Derived.Test.YtlhcmgjkhkcgcaaDoorPut
namespace Go.Proofs.YtlhcmgjkhkcgcaaDoor.record
open Go.RowKit
open Go.Proofs.YtlhcmgjkhkcgcaaDoor.stepkit Go.Proofs.YtlhcmgjkhkcgcaaDoor.obj Go.Proofs.YtlhcmgjkhkcgcaaDoor.row Go.Proofs.YtlhcmgjkhkcgcaaDoor.mix Go.Proofs.YtlhcmgjkhkcgcaaDoor.idkit Go.Proofs.YtlhcmgjkhkcgcaaDoor.bytes Go.Proofs.YtlhcmgjkhkcgcaaDoor.octet

/-! ### A number's bytes -/
def part (n j : Nat) : List UInt8 := List.replicate (4 - j) 0 ++ (be4 n).drop (4 - j)
theorem part_len (n j : Nat) (h : j ≤ 4) : (part n j).length = 4 := by unfold part; rw [List.length_append, List.length_replicate, List.length_drop, be4_len]; omega
theorem part_set (n j : Nat) (h : j < 4) : (part n j).set (3 - j) (UInt8.ofNat (n / 256 ^ j)) = part n (j + 1) := by
  have : j = 0 ∨ j = 1 ∨ j = 2 ∨ j = 3 := by omega
  rcases this with rfl | rfl | rfl | rfl <;> simp [part, be4, be, List.range_succ]
theorem part_all (n : Nat) : part n 4 = be4 n := by simp [part]
theorem put_part {w : World} {B n j : Nat} (hj : j < 4) (h : w.heap[B]? = some (.cells (bcs (part n j)).toArray 5 (0, 0))) :
    (w.setCell ⟨B, 3 - j, none⟩ (.int .u8 ((UInt8.ofNat (n / 256 ^ j)).toNat : Int))).heap[B]? = some (.cells (bcs (part n (j + 1))).toArray 5 (0, 0)) := by
  have h1 := heap_setCell_at h (3 - j) (.int .u8 ((UInt8.ofNat (n / 256 ^ j)).toNat : Int))
  rw [h1, List.setIfInBounds_toArray, ← part_set n j hj]
  congr 3
  unfold bcs
  rw [List.map_set]
  rfl
theorem ofNat_mod (m : Nat) : (m : Int) % 256 = ((UInt8.ofNat m).toNat : Int) := by simp

set_option maxRecDepth 10000 in
set_option maxHeartbeats 1000000 in
theorem refnum_any (n : Nat) (w : World) (hn : n < 4294967296) :
    Calls Tryd.prog 98 #[.int .i64 n, .int .i64 4] w fun e w' => e = .returned (.tuple #[.string ⟨(be4 n).toArray⟩, .int .i64 0]) ∧ Turns nobody w w' := by
  obtain ⟨Z, hZ⟩ : ∃ Z, (bcs (List.replicate 4 0)).toArray = Z := ⟨_, rfl⟩
  have hmk : ∀ W : World, (Instr.makeSlice 38 (.int .i64 4) (.int .i64 4)).run Tryd.prog W = .ok (.slice (some ⟨W.heap.size, 0, none⟩) 4 4) (W.alloc (.cells Z 5)) := fun W => by rw [← hZ]; exact make_u8 4 (by omega) W
  obtain ⟨B, hB⟩ : ∃ B, w.heap.size = B := ⟨_, rfl⟩
  obtain ⟨w1, hw1⟩ : ∃ w1, w1 = w.alloc (.cells Z 5) := ⟨_, rfl⟩
  have hb1 : w1.heap[B]? = some (.cells (bcs (part n 0)).toArray 5 (0, 0)) := by rw [hw1, ← hB, ← hZ]; exact heap_alloc_new w _
  have t1 : Turns nobody w w1 := by rw [hw1]; exact (Turns.refl _ _).alloc _
  have HB1 := Lib.hid hb1
  have HT1 := Lib.hid t1
  have HW1 := Lib.hid hw1
  have HN := Lib.hid hn
  have HMK := Lib.hid hmk
  have hneg : ¬ (n : Int) < 0 := by omega
  clear hb1 t1 hw1 hn hmk hZ
  go_enter Tryd.func98, Tryd.ntmps98
  go_wp2
  go_loopw [7, 6] (fun i m wr => ∃ q : Nat, 1 ≤ q ∧ q ≤ 4 ∧ i = .int .i64 q ∧ m = .int .i64 ((256 ^ q : Nat) : Int) ∧ w = wr) (fun i _ _ => 4 - (intOf i).toNat)
  case atStart => exact ⟨1, by omega, by omega, rfl, rfl, rfl⟩
  case round =>
    obtain ⟨q, hq1, hq4, rfl, rfl, rfl⟩ := hrel
    have : q = 1 ∨ q = 2 ∨ q = 3 ∨ q = 4 := by omega
    rcases this with rfl | rfl | rfl | rfl
    · go_wp2
      exact ⟨⟨2, by omega, by omega, rfl, rfl, trivial⟩, by simp [intOf]⟩
    · go_wp2
      exact ⟨⟨3, by omega, by omega, rfl, rfl, trivial⟩, by simp [intOf]⟩
    · go_wp2
      exact ⟨⟨4, by omega, by omega, rfl, rfl, trivial⟩, by simp [intOf]⟩
    · have hlt : ¬ ((4294967296 : Int) ≤ (n : Int)) := by have := HN.out; omega
      have hmk := HMK.out
      rw [show ((256 ^ 4 : Nat) : Int) = 4294967296 from by decide, show ((4 : Nat) : Int) = 4 from rfl]
      go_wp2
      rw [← HW1.out]
      clear hmk hlt
      go_loopw [10, 9] (fun i x wr => ∃ (j : Nat) (z : Int), j ≤ 4 ∧ z = 3 - (j : Int) ∧ i = .int .i64 z ∧ x = .int .i64 ((n / 256 ^ j : Nat) : Int) ∧ wr.heap[B]? = some (.cells (bcs (part n j)).toArray 5 (0, 0)) ∧ Turns (fun b => b = B) w1 wr) (fun i _ _ => (intOf i + 1).toNat)
      case atStart => exact ⟨0, 3, by omega, by omega, rfl, by simp, HB1.out, Turns.refl _ _⟩
      case round =>
        clear HB1
        obtain ⟨j, z, hj, hz, rfl, rfl, hb, ht⟩ := hrel
        by_cases hj4 : j < 4
        · obtain ⟨k, hk⟩ : ∃ k : Nat, 3 - j = k := ⟨_, rfl⟩
          obtain rfl : z = (k : Int) := by omega
          obtain ⟨y, hy⟩ : ∃ y, wr.cell? ⟨B, k, none⟩ = some y := ⟨_, cells_of hb k _ (List.getElem?_toArray.trans (List.getElem?_eq_getElem (by rw [bcs_len, part_len _ _ hj]; omega)))⟩
          have hfr := free_of hb k
          have HP := Lib.hid (put_part hj4 hb)
          rw [hk] at HP
          have hm : ((n / 256 ^ j : Nat) : Int) / 256 = ((n / 256 ^ (j + 1) : Nat) : Int) := by
            rw [Nat.pow_succ, ← Nat.div_div_eq_div_mul]; omega
          have hmo := ofNat_mod (n / 256 ^ j)
          have HT := Lib.hid ht
          have hk4 : k < 4 := by omega
          have hzz : Hid ((k : Int) - 1 = 3 - ((j + 1 : Nat) : Int)) := Lib.hid (by omega)
          have HJ := Lib.hid hj4
          generalize n / 256 ^ j = a at hm hmo HP ⊢
          obtain ⟨b, hbq⟩ : ∃ b, n / 256 ^ (j + 1) = b := ⟨_, rfl⟩
          have HBQ := Lib.hid hbq
          rw [hbq] at hm
          have hwb : IntKind.i64.wrap (b : Int) = b := by
            have h1 : b ≤ n := by rw [← hbq]; exact Nat.div_le_self _ _
            have := HN.out
            exact IntWalk.i64_in _ (by omega)
          clear hbq
          generalize UInt8.ofNat a = x at hmo HP
          have hb4 : Hid (((j + 1 : Nat)) ≤ 4) := Lib.hid hj4
          clear hb ht hz
          go_wp2
          exact ⟨⟨j + 1, _, hb4.out, hzz.out, by go_num, by rw [HBQ.out], HP.out, HT.out.setCell B _ _ (Or.inl rfl)⟩, by simp [intOf]⟩
        · obtain rfl : j = 4 := by omega
          obtain rfl : z = -1 := by omega
          rw [part_all] at hb
          have hbs : BSl wr (.slice (some ⟨B, 0, none⟩) 4 4) (be4 n) := by
            refine ⟨by rw [bcs_len]; omega, Or.inr ⟨B, 0, 4, _, by rw [be4_len], hb, by rw [be4_len]; omega, by decide, by simp [bcs_len, be4_len], ?_⟩⟩
            rw [List.drop_zero, List.take_of_length_le (by rw [bcs_len]; omega)]
          have HC := Lib.hid (BSl.conv hbs)
          have HT := Lib.hid ht
          clear hb hbs ht hz hj hj4
          go_wp2_with (refine wpList_exec (exec_conv _ _ _ rfl rfl HC.out) rfl ?_)
          exact bodyPost_ret (v := .tuple #[.string ⟨(be4 n).toArray⟩, .int .i64 0]) (by simp [results, Tryd.results98, go_sem]) rfl ⟨rfl, HT1.out.trans HT.out (fun i hi => Or.inr (by omega))⟩

theorem refnum11_any (n : Nat) (w : World) (hn : n < 4294967296) :
    Calls Tryd.prog 70 #[.int .i64 n] w fun e w' => e = .returned (.string ⟨(be4 n).toArray⟩) ∧ Turns nobody w w' := by
  have hr := refnum_any n w hn
  clear hn
  go_enter Tryd.func70, Tryd.ntmps70
  go_wp2_with (go_at_call 98; refine hr.mono ?_; rintro e w' ⟨rfl, ht⟩)
  go_ret
  exact ⟨rfl, ht⟩

/-! ### The reference's reader -/
def RRcs (t : ByteArray) (k : Nat) (bad : Int) : Array Value := #[.string (from_ t k), .int .i64 bad]
def RR (w : World) (p : Nat) (t : ByteArray) (k : Nat) (bad : Int) : Prop := w.heap[p]? = some (.cells #[.string (from_ t k), .int .i64 bad] 133 (0, 0))
theorem from_take (t : ByteArray) (k n : Nat) (h : k + n ≤ t.size) : (from_ t k).extract 0 n = t.extract k (k + n) := by
  unfold from_
  apply ByteArray.ext
  apply Array.ext'
  simp
  omega
theorem from_drop (t : ByteArray) (k n : Nat) (h : k + n ≤ t.size) : (from_ t k).extract n (from_ t k).size = from_ t (k + n) := by
  unfold from_
  apply ByteArray.ext
  apply Array.ext'
  simp
  omega
theorem from_len (t : ByteArray) (k : Nat) : (from_ t k).size = t.size - k := from_size t k

set_option maxRecDepth 10000 in
theorem refraw_st (p : Nat) (t : ByteArray) (k : Nat) (bad : Int) (n : Nat) (w : World) (h : RR w p t k bad) (hb : bad = 0 ∨ bad = 2) (hs : t.size ≤ 16777216) (hk : k ≤ t.size) :
    Calls Tryd.prog 74 #[.pointer (some ⟨p, 0, none⟩), .int .i64 n] w fun e w' => ∃ v k' bad', e = .returned (.string v) ∧ RR w' p t k' bad' ∧ Turns (fun i => i = p) w w' ∧ k' ≤ t.size ∧ (bad' = 0 ∨ bad' = 2) ∧ RawR t k bad n v k' bad' := by
  have c0 := cells_of h 0 _ rfl
  have c1 := cells_of h 1 _ rfl
  have f0 := free_of h 0
  have f1 := free_of h 1
  have H := Lib.hid h
  have hz := from_len t k
  rcases hb with rfl | rfl
  · by_cases hl : k + n ≤ t.size
    · have ht := from_take t k n hl
      have hd := from_drop t k n hl
      obtain ⟨S, hS⟩ : ∃ S, from_ t k = S := ⟨_, rfl⟩
      rw [hS] at c0 ht hd hz
      have hc : ¬ (S.size : Int) < (n : Int) := by omega
      have hc2 : (n : Int) ≤ (S.size : Int) := by omega
      obtain ⟨A, hA⟩ : ∃ A, t.extract k (k + n) = A := ⟨_, rfl⟩
      obtain ⟨D, hD⟩ : ∃ D, from_ t (k + n) = D := ⟨_, rfl⟩
      have HA := Lib.hid hA
      have HD := Lib.hid hD
      rw [hA] at ht
      rw [hD] at hd
      have HL := Lib.hid hl
      clear h hz hS hA hD hl
      go_enter Tryd.func74, Tryd.ntmps74
      go_wp2
      go_ret
      have hRR : RR (w.setCell ⟨p, 0, none⟩ (.string D)) p t (k + n) 0 := by
        unfold RR
        rw [HD.out]
        exact heap_setCell_at H.out 0 _
      exact ⟨A, rfl, k + n, 0, hRR, Turns.set _ _ _ _, HL.out, Or.inl rfl, Or.inl ⟨rfl, HL.out, HA.out.symm, rfl, rfl⟩⟩
    · have hc : ((from_ t k).size : Int) < (n : Int) := by omega
      have HL := Lib.hid hl
      generalize from_ t k = S at c0 hc
      clear h hz hl
      go_enter Tryd.func74, Tryd.ntmps74
      go_wp2
      go_ret
      exact ⟨nil, k, 2, rfl, heap_setCell_at H.out 1 _, Turns.set _ _ _ _, hk, Or.inr rfl, Or.inr ⟨Or.inr (by have := HL.out; omega), rfl, rfl⟩⟩
  · clear h hz
    go_enter Tryd.func74, Tryd.ntmps74
    go_wp2
    go_ret
    exact ⟨nil, k, 2, rfl, H.out, Turns.refl _ _, hk, Or.inr rfl, Or.inr ⟨Or.inl rfl, rfl, rfl⟩⟩
set_option maxRecDepth 10000 in
theorem refnum_st (p : Nat) (t : ByteArray) (k : Nat) (bad : Int) (j : Nat) (w : World) (h : RR w p t k bad) (hb : bad = 0 ∨ bad = 2) (hj : j = 1 ∨ j = 4) (hs : t.size ≤ 16777216) (hk : k ≤ t.size) :
    Calls Tryd.prog 73 #[.pointer (some ⟨p, 0, none⟩), .int .i64 j] w fun e w' => ∃ v k' bad', e = .returned (.int .i64 v) ∧ RR w' p t k' bad' ∧ Turns (fun i => i = p) w w' ∧ k' ≤ t.size ∧ (bad' = 0 ∨ bad' = 2) ∧ NumR t k bad j v k' bad' := by
  have c1 := cells_of h 1 _ rfl
  have hraw := refraw_st p t k bad j w h hb hs hk
  have hbad : (bad == 0) = true ∨ (bad == 0) = false := by rcases hb with rfl | rfl; exact Or.inl rfl; exact Or.inr rfl
  clear h
  have core : Calls Tryd.prog 73 #[.pointer (some ⟨p, 0, none⟩), .int .i64 j] w fun e w' => ∃ v k' bad', e = .returned (.int .i64 (val v.data.toList)) ∧ RR w' p t k' bad' ∧ Turns (fun i => i = p) w w' ∧ k' ≤ t.size ∧ (bad' = 0 ∨ bad' = 2) ∧ RawR t k bad j v k' bad' := by
    have hsz : ∀ v k' bad', RawR t k bad j v k' bad' → v.size ≤ 4 := fun v k' bad' h => by
      rcases h with ⟨_, h1, rfl, _, _⟩ | ⟨_, rfl, _⟩
      · rw [ByteArray.size_extract]; omega
      · decide
    have HSZ := Lib.hid hsz
    clear hsz
    rcases hj with rfl | rfl <;> rcases hbad with hbad | hbad
    all_goals
      go_enter Tryd.func73, Tryd.ntmps73
      go_wp2_with (go_at_call 74; refine hraw.mono ?_; rintro e w2 ⟨v, k', bad', rfl, h2, t2, l2, o2, r2⟩; have HR := Lib.hid (And.intro h2 (And.intro t2 (And.intro l2 (And.intro o2 r2)))); have hv4 := HSZ.out _ _ _ r2; clear h2 t2 l2 o2 r2)
      obtain ⟨n, hn⟩ : ∃ n, v.size = n := ⟨_, rfl⟩
      obtain ⟨l, hl⟩ : ∃ l, v.data.toList = l := ⟨_, rfl⟩
      have hln : l.length = n := by rw [← hl, str_len, hn]
      have HL := Lib.hid hl
      have HN := Lib.hid hn
      have HLN := Lib.hid hln
      rw [hn] at hv4
      clear hl hln
      go_loopw [7, 6] (fun i x wr => ∃ q : Nat, q ≤ n ∧ i = .int .i64 q ∧ x = .int .i64 (val (l.take q)) ∧ w2 = wr) (fun i _ _ => n - (intOf i).toNat)
      case atStart => exact ⟨0, by omega, rfl, rfl, rfl⟩
      case round =>
        obtain ⟨q, hq, rfl, rfl, rfl⟩ := hrel
        by_cases hqn : q < n
        · have hqz : (q : Int) < (n : Int) := by omega
          have hql : q < l.length := by rw [HLN.out]; exact hqn
          have hqv : q < v.size := by rw [hn]; exact hqn
          have hvx : (v[q]'hqv) = l.getD q 0 := by
            have : v[q]'hqv = v.data.toList[q]'(by rw [str_len]; exact hqv) := by simp [ByteArray.getElem_eq_getElem_data]
            rw [this]
            simp [← HL.out, List.getD]
            rw [Array.getElem?_eq_getElem (show q < v.data.size from hqv)]
            rfl
          have htk : l.take (q + 1) = l.take q ++ [l.getD q 0] := by
            rw [List.take_add_one, List.getElem?_eq_getElem hql]
            simp [List.getD, hql]
          have hlt2 : val (l.take q) < 16777216 := by
            refine Nat.lt_of_lt_of_le (val_lt _) ?_
            have : (l.take q).length ≤ 3 := by rw [List.length_take]; omega
            exact Nat.pow_le_pow_right (by decide) this
          have hfin : wrap64 (wrap64 (256 * ((val (l.take q) : Nat) : Int)) + wrap64 (((v[q]'hqv).toNat : Nat) : Int)) = ((val (l.take (q + 1)) : Nat) : Int) := by
            rw [hvx, htk, val_snoc]
            have := (l.getD q 0).toNat_lt
            rw [IntWalk.wrap64_in (256 * _) (by omega), IntWalk.wrap64_in (((l.getD q 0).toNat : Nat) : Int) (by omega), IntWalk.wrap64_in _ (by omega)]
            push_cast
            omega
          have HFIN := Lib.hid hfin
          clear hvx htk hlt2 hql hfin
          go_wp2
          exact ⟨⟨q + 1, by omega, by go_num, by rw [HFIN.out], trivial⟩, by simp [intOf]; omega⟩
        · obtain rfl : q = n := by omega
          rw [List.take_of_length_le (by rw [HLN.out]; exact Nat.le_refl _)]
          go_wp2
          go_ret
          obtain ⟨h2, t2, l2, o2, r2⟩ := HR.out
          exact ⟨v, k', bad', by rw [HL.out]; rfl, h2, t2, l2, o2, r2⟩
  refine core.mono ?_
  rintro e w' ⟨v, k', bad', rfl, h1, h2, h3, h4, h5⟩
  refine ⟨_, k', bad', rfl, h1, h2, h3, h4, ?_⟩
  rcases h5 with ⟨e1, e2, rfl, e4, e5⟩ | ⟨e1, rfl, e3⟩
  · exact Or.inl ⟨e1, e2, by rw [ext_list t k j e2], e4, e5⟩
  · exact Or.inr ⟨e1, rfl, e3⟩
end Go.Proofs.YtlhcmgjkhkcgcaaDoor.record
