/- The walk of CrcTwo: the checksums of two texts of one length differ as that of their difference from that of noughts. -/
import Derived.Test.YtjecikojdbiloaaDoorCrcSum
import Derived.Test.YtjecikojdbiloaaDoorArgKit
import Derived.Test.YtjecikojdbiloaaDoorStepKit
import Derived.Test.YtjecikojdbiloaaDoorMix
namespace Go.Proofs.YtjecikojdbiloaaDoor.crc
open Go.RowKit
open Go.Proofs.YtjecikojdbiloaaDoor.argkit Go.Proofs.YtjecikojdbiloaaDoor.stepkit Go.Proofs.YtjecikojdbiloaaDoor.mix

/-- Byte by byte. -/
def xorBytes (a b : List UInt8) : List UInt8 := List.zipWith (fun x y => x ^^^ y) a b

theorem bits_xor_u8 (x y : UInt8) : bits .xor .u8 (x.toNat : Int) (y.toNat : Int) = ((x ^^^ y).toNat : Int) := by
  have hx := x.toNat_lt
  have hy := y.toNat_lt
  have h1 : (BitVec.ofInt 8 (x.toNat : Int)).toNat = x.toNat := by rw [BitVec.ofInt_natCast, BitVec.toNat_ofNat]; exact Nat.mod_eq_of_lt hx
  have h2 : (BitVec.ofInt 8 (y.toNat : Int)).toNat = y.toNat := by rw [BitVec.ofInt_natCast, BitVec.toNat_ofNat]; exact Nat.mod_eq_of_lt hy
  show IntKind.u8.wrap ((BitVec.ofInt 8 (x.toNat : Int) ^^^ BitVec.ofInt 8 (y.toNat : Int)).toNat : Int) = _
  rw [BitVec.toNat_xor, h1, h2, UInt8.toNat_xor]
  have h3 : x.toNat ^^^ y.toNat < 2 ^ 8 := Nat.xor_lt_two_pow hx hy
  simp only [IntKind.wrap, IntKind.bits, IntKind.signed]
  simp
  omega

theorem xorBytes_length (a b : List UInt8) (h : a.length = b.length) : (xorBytes a b).length = a.length := by simp [xorBytes, h]

theorem xorBytes_snoc (a b : ByteArray) (k : Nat) (ha : k < a.size) (hb : k < b.size) : xorBytes (a.data.toList.take (k + 1)) (b.data.toList.take (k + 1)) = xorBytes (a.data.toList.take k) (b.data.toList.take k) ++ [a[k] ^^^ b[k]] := by
  rw [take_snoc a k ha, take_snoc b k hb]
  unfold xorBytes
  rw [List.zipWith_append (by simp; omega)]
  rfl

theorem byteStep_xor (w v : BitVec 32) (x y : UInt8) : byteStep (w ^^^ v) (wd (x ^^^ y)) = byteStep w (wd x) ^^^ byteStep v (wd y) := by
  have h : wd (x ^^^ y) = wd x ^^^ wd y := by
    apply BitVec.eq_of_toNat_eq
    rw [wd_toNat, BitVec.toNat_xor, wd_toNat, wd_toNat, UInt8.toNat_xor]
  unfold byteStep
  rw [h, ← Tn_xor, xor4]

theorem reg_xor : ∀ (a b : List UInt8) (w v : BitVec 32), a.length = b.length → reg (w ^^^ v) (xorBytes a b) = reg w a ^^^ reg v b
  | [], [], _, _, _ => rfl
  | x :: a, y :: b, w, v, h => by
    show reg (byteStep (w ^^^ v) (wd (x ^^^ y))) (xorBytes a b) = reg (byteStep w (wd x)) a ^^^ reg (byteStep v (wd y)) b
    rw [byteStep_xor]
    exact reg_xor a b _ _ (by simpa using h)
  | [], _ :: _, _, _, h => by simp at h
  | _ :: _, [], _, _, h => by simp at h

theorem xor_noughts (a : List UInt8) : xorBytes a (List.replicate a.length 0) = a := by
  induction a with
  | nil => rfl
  | cons x a ih =>
    show (x ^^^ 0) :: xorBytes a (List.replicate a.length 0) = x :: a
    rw [ih]; simp

theorem not_xor_not (a b : BitVec 32) : ~~~ a ^^^ ~~~ b = a ^^^ b := by
  ext i hi; simp only [BitVec.getElem_xor, BitVec.getElem_not]; cases a[i] <;> cases b[i] <;> rfl

theorem two_eq (a b : List UInt8) (h : a.length = b.length) : add 0#32 a ^^^ add 0#32 b = add 0#32 (xorBytes a b) ^^^ add 0#32 (List.replicate a.length 0) := by
  unfold add
  rw [not_xor_not, not_xor_not, ← reg_xor a b _ _ h]
  have h2 := reg_xor (xorBytes a b) (List.replicate a.length 0) (~~~ 0#32) (~~~ 0#32) (by rw [xorBytes_length a b h]; simp)
  rw [← h2]
  have h3 := xor_noughts (xorBytes a b)
  rw [xorBytes_length a b h] at h3
  rw [h3]

theorem infoU8 : (Tryd.prog.info? 5).map (fun i => (i.zero, i.size, i.bytes)) = some (some (.int .u8 0), 1, 1) := by kernel_rfl

set_option maxHeartbeats 400000 in
theorem two_other (a b : ByteArray) (w : World) (h : ¬ (a.size = b.size ∧ a.size ≤ 1000)) (ht : TabAt w) :
    Calls Tryd.prog 6 #[.string a, .string b] w fun e w' => e = .returned (.bool true) ∧ ∃ n, w' = w.drewN n := by
  by_cases he : a.size = b.size
  · have h2 : (1000 : Int) < a.size := by omega
    have h3 : ((a.size : Int) != b.size) = false := by simp [he]
    clear h he
    go_enter Tryd.func6, Tryd.ntmps6
    go_wp2_with (go_at_call 7; refine (awake_any _ ht).mono ?_; rintro e w1 ⟨rfl, hw1⟩)
    go_ret
    exact ⟨rfl, hw1⟩
  · have h3 : ((a.size : Int) != b.size) = true := by simp; omega
    clear h he
    go_enter Tryd.func6, Tryd.ntmps6
    go_wp2_with (go_at_call 7; refine (awake_any _ ht).mono ?_; rintro e w1 ⟨rfl, hw1⟩)
    go_ret
    exact ⟨rfl, hw1⟩

def noughts (n : Nat) : List UInt8 := List.replicate n 0
theorem noughts_length (n : Nat) : (noughts n).length = n := List.length_replicate ..

theorem zeros_u8 (n : Nat) : (madeCells #[Value.int .u8 0] n).toList = u8s (noughts n) := by
  rw [toList_madeCells_one]; simp [u8s, noughts]

set_option maxHeartbeats 400000 in
theorem two_walk (a b : ByteArray) (n : Nat) (w : World) (ha : a.size = n) (hb : b.size = n) (hn : n ≤ 1000) (hpos : 0 < w.heap.size) (ht : TabAt w) :
    Calls Tryd.prog 6 #[.string a, .string b] w fun e w' => e = .returned (.bool true) ∧ Below w.heap.size w w' := by
  obtain ⟨i0, hi, hz0, hz1, hz2⟩ := info_parts infoU8
  have h3 : ((n : Int) != n) = false := by simp
  go_enter Tryd.func6, Tryd.ntmps6
  go_wp2_with (at_make; refine wpList_make_full _ rfl _ _ 31 rfl w.heap.size 5 i0 (.int .u8 0) 1 Tryd.underlying31 hi hz0 hz1 _ _ _ _ n rfl rfl rfl rfl ?b1 ?b2 ?b3 ?_)
  case b1 => rw [hz2]; omega
  case b2 => unfold maxLen; omega
  case b3 => exact Nat.le_refl _
  intro w1 hown0 hgrow0
  obtain ⟨B, hB⟩ : ∃ B, B = w.heap.size := ⟨_, rfl⟩
  have hB1 : B < w1.heap.size := by have := hown0.lt B (by rw [hB]; rfl); omega
  have hbel0 : Below B w w1 := by rw [hB]; exact (Below.refl _ _).grown hgrow0 (Nat.le_refl _) (fun k h => by cases h)
  rw [← hB] at hown0
  have hposB : 0 < B := by omega
  rw [← hB]
  have HB := Lib.hid hB
  clear hB hgrow0 hpos
  go_wp2
  go_loopw [5, 7] (fun v i wr => ∃ k : Nat, k ≤ n ∧ i = .int .i64 k ∧ wr.ownsRow (B + 1) 5 1 v k (u8s (xorBytes (a.data.toList.take k) (b.data.toList.take k))) ∧
      wr.ownsRow B 5 1 (.slice (some ⟨B, 0, none⟩) n n) n (madeCells #[Value.int .u8 0] n).toList ∧ Below B w wr) (fun _ i _ => n - (intOf i).toNat)
  case atStart => exact ⟨0, by omega, rfl, World.ownsRow_nil _ _ _ _, hown0, hbel0⟩
  case round =>
    obtain ⟨k, hk, rfl, hown, hnone, hbel⟩ := hrel
    have hsz : B < wr.heap.size := (hnone.lt B rfl).2
    clear hown0 hbel0
    by_cases hlt : k < n
    · have hka : k < a.size := by omega
      have hkb : k < b.size := by omega
      go_wp2
      refine wp_region_mix [(0, true, true), (1, true, true), (2, true, true), (3, true, true), (4, true, true), (5, true, true), (6, true, true), (7, true, true), (8, false, true), (9, false, true), (10, true, true)] (fun _ => True) (by kernel_rfl) (by kernel_rfl) (trivial) ?_
      simp only [picked, List.filterMap_cons, List.filterMap_nil, List.getElem?_toArray, List.getElem?_cons_zero, List.getElem?_cons_succ, Option.map_some]
      repeat (refine mix_free (v := ?_) rfl ?_ ?_; rotate_left; (focus (intro w' hI; go_simp; try with_reducible rfl)); simp only [Act.put, List.setIfInBounds_toArray, List.set_cons_zero, List.set_cons_succ])
      refine mix_big rfl (fun K hK => ?_)
      go_wp2_with fail
      refine hK _ _ (fun _ => trivial) ?_
      clear hK K
      refine mix_big rfl (fun K hK => ?_)
      refine wpList_append_own _ rfl _ _ 31 rfl (B + 1) 5 i0 (.int .u8 0) 1 1 Tryd.underlying31 hi hz0 hz1 hz2 rfl (by decide) _ _ _ rfl (hown.alloc _).drew ⟨wr.heap.size, 0, none⟩ 1 1 [.int .u8 (bits .xor .u8 (a[k].toNat : Int) (b[k].toNat : Int))] rfl rfl (cell_one_new _ _ _) (by intro u hu; simp at hu; subst hu; rfl) (by unfold maxLen; omega) (by omega) (by simp; omega) ?_
      intro v' w2 hown' hgrow' _
      go_wp2_with fail
      refine hK _ _ (fun _ => trivial) ?_
      clear hK K
      repeat (refine mix_free (v := ?_) rfl ?_ ?_; rotate_left; (focus (intro w' hI; go_simp; try with_reducible rfl)); simp only [Act.put, List.setIfInBounds_toArray, List.set_cons_zero, List.set_cons_succ])
      refine mix_nil ?_
      go_wp2
      have hE : u8s (xorBytes (a.data.toList.take k) (b.data.toList.take k)) ++ [Value.int .u8 (bits .xor .u8 (a[k].toNat : Int) (b[k].toNat : Int))] = u8s (xorBytes (a.data.toList.take (k + 1)) (b.data.toList.take (k + 1))) := by
        rw [xorBytes_snoc a b k hka hkb, u8s_append, bits_xor_u8]; rfl
      rw [hE] at hown'
      have hnone' := ownsRow_apart (hnone.alloc (.cells #[Value.int .u8 (bits .xor .u8 (a[k].toNat : Int) (b[k].toNat : Int))] 5)).drew (hown.alloc _).drew
        (fun b1 b2 h1 h2 => by have := hown.lt b2 h2; simp [Value.ownBlock] at h1; omega) hgrow'
      have hbel' := ((hbel.alloc (by omega) (.cells #[Value.int .u8 (bits .xor .u8 (a[k].toNat : Int) (b[k].toNat : Int))] 5)).drew).grown hgrow' (by simp; omega) (fun b2 h2 => by have := hown.lt b2 h2; omega)
      go_roundw
      case rel => exact ⟨k + 1, by omega, by go_num, hown', hnone', hbel'⟩
      case measure => simp [intOf]; omega
    · obtain rfl : k = n := by omega
      clear hlt
      go_wp2
      have hA : a.data.toList.take k = a.data.toList := List.take_of_length_le (by simp; omega)
      have hB' : b.data.toList.take k = b.data.toList := List.take_of_length_le (by simp; omega)
      rw [hA, hB'] at hown
      rw [zeros_u8] at hnone
      have hr1 := ht.below hbel hposB
      have hEq : (bits .xor .u32 ((add 0#32 a.data.toList).toNat : Int) ((add 0#32 b.data.toList).toNat : Int) == bits .xor .u32 ((add 0#32 (xorBytes a.data.toList b.data.toList)).toNat : Int) ((add 0#32 (noughts k)).toNat : Int)) = true := by
        rw [bits_xor_bv, bits_xor_bv, two_eq _ _ (by simp; omega), show a.data.toList.length = k from by simpa using ha]; exact beq_self_eq_true _
      refine wp_region_mix [(0, true, true), (2, true, true), (5, true, true), (6, true, true), (8, true, true), (9, true, true), (1, false, true), (3, false, true), (4, true, true), (7, false, true), (10, false, true), (11, true, true), (12, true, true), (13, true, true), (14, false, true), (15, true, true), (16, true, true)] (fun w' => w'.ownsRow (B + 1) 5 1 u5 k (u8s (xorBytes a.data.toList b.data.toList)) ∧ w'.ownsRow B 5 1 (.slice (some ⟨B, 0, none⟩) k k) k (u8s (noughts k))) (by kernel_rfl) (by kernel_rfl) (⟨hown.drew, hnone.drew⟩) ?_
      simp only [picked, List.filterMap_cons, List.filterMap_nil, List.getElem?_toArray, List.getElem?_cons_zero, List.getElem?_cons_succ, Option.map_some]
      repeat (refine mix_free (v := ?_) rfl ?_ ?_; rotate_left; (focus (intro w' hI; have hc1 := conv_owned (P := Tryd.prog) (src := 31) (dst := 9) Tryd.underlying31 Tryd.underlying5 Tryd.underlying9 hI.1; have hc2 := conv_owned (P := Tryd.prog) (src := 31) (dst := 9) Tryd.underlying31 Tryd.underlying5 Tryd.underlying9 hI.2; clear hI; go_simp; try with_reducible rfl)); simp only [Act.put, List.setIfInBounds_toArray, List.set_cons_zero, List.set_cons_succ])
      have hXl : (xorBytes a.data.toList b.data.toList).length = k := by rw [xorBytes_length _ _ (by simp; omega)]; simpa using ha
      have hr2 : TabAt wr.drew := fun i hi => hr1 i hi
      refine mix_big rfl (fun K hK => ?_)
      go_wp2_with (go_at_call 10; refine (sum_any _ _ (by unfold maxLen; omega) hr2).mono ?_; rintro e w2 ⟨rfl, hw2⟩)
      refine hK _ _ (fun _ => ⟨drawn_row hw2 hown.drew, drawn_row hw2 hnone.drew⟩) ?_
      clear hK K
      have hr3 := hr2.drawn hw2
      refine mix_big rfl (fun K hK => ?_)
      go_wp2_with (go_at_call 10; refine (sum_any _ _ (by unfold maxLen; omega) hr3).mono ?_; rintro e w3 ⟨rfl, hw3⟩)
      refine hK _ _ (fun _ => ⟨drawn_row hw3 (drawn_row hw2 hown.drew), drawn_row hw3 (drawn_row hw2 hnone.drew)⟩) ?_
      clear hK K
      have hr4 := hr3.drawn hw3
      repeat (refine mix_free (v := ?_) rfl ?_ ?_; rotate_left; (focus (intro w' hI; go_simp; try with_reducible rfl)); simp only [Act.put, List.setIfInBounds_toArray, List.set_cons_zero, List.set_cons_succ])
      refine mix_big rfl (fun K hK => ?_)
      go_wp2_with (go_at_call 10; refine (sum_any _ _ (by rw [bytes_size, hXl]; unfold maxLen; omega) hr4).mono ?_; rintro e w4 ⟨rfl, hw4⟩)
      refine hK _ _ (fun _ => ⟨drawn_row hw4 (drawn_row hw3 (drawn_row hw2 hown.drew)), drawn_row hw4 (drawn_row hw3 (drawn_row hw2 hnone.drew))⟩) ?_
      clear hK K
      have hr5 := hr4.drawn hw4
      refine mix_big rfl (fun K hK => ?_)
      go_wp2_with (go_at_call 10; refine (sum_any _ _ (by rw [bytes_size, noughts_length]; unfold maxLen; omega) hr5).mono ?_; rintro e w5 ⟨rfl, hw5⟩)
      refine hK _ _ (fun _ => ⟨drawn_row hw5 (drawn_row hw4 (drawn_row hw3 (drawn_row hw2 hown.drew))), drawn_row hw5 (drawn_row hw4 (drawn_row hw3 (drawn_row hw2 hnone.drew)))⟩) ?_
      clear hK K
      have hr6 := hr5.drawn hw5
      repeat (refine mix_free (v := ?_) rfl ?_ ?_; rotate_left; (focus (intro w' hI; go_simp; try with_reducible rfl)); simp only [Act.put, List.setIfInBounds_toArray, List.set_cons_zero, List.set_cons_succ])
      refine mix_big rfl (fun K hK => ?_)
      go_wp2_with (go_at_call 7; refine (awake_any _ hr6).mono ?_; rintro e w6 ⟨rfl, hw6⟩)
      refine hK _ _ (fun _ => ⟨drawn_row hw6 (drawn_row hw5 (drawn_row hw4 (drawn_row hw3 (drawn_row hw2 hown.drew)))), drawn_row hw6 (drawn_row hw5 (drawn_row hw4 (drawn_row hw3 (drawn_row hw2 hnone.drew))))⟩) ?_
      clear hK K
      repeat (refine mix_free (v := ?_) rfl ?_ ?_; rotate_left; (focus (intro w' hI; go_simp; try with_reducible rfl)); simp only [Act.put, List.setIfInBounds_toArray, List.set_cons_zero, List.set_cons_succ])
      refine mix_nil ?_
      go_wp2
      go_ret
      refine ⟨rfl, ?_⟩
      have hb6 : Below B wr w6 := ((((((Below.refl B wr).drew).trans (drawn_below B hw2)).trans (drawn_below B hw3)).trans (drawn_below B hw4)).trans (drawn_below B hw5)).trans (drawn_below B hw6)
      rw [← HB.out]
      exact hbel.trans hb6
end Go.Proofs.YtjecikojdbiloaaDoor.crc
