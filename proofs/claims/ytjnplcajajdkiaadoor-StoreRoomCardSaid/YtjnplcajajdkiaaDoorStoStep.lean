/- StorePlays: a call, of both. -/
import Derived.Test.YtjnplcajajdkiaaDoorStoNew
namespace Go.Proofs.YtjnplcajajdkiaaDoor.store
open Go.RowKit
open Go.Proofs.YtjnplcajajdkiaaDoor.stepkit Go.Proofs.YtjnplcajajdkiaaDoor.eqkit Go.Proofs.YtjnplcajajdkiaaDoor.idkit Go.Proofs.YtjnplcajajdkiaaDoor.obj Go.Proofs.YtjnplcajajdkiaaDoor.row Go.Proofs.YtjnplcajajdkiaaDoor.mapkit Go.Proofs.YtjnplcajajdkiaaDoor.mix Go.Proofs.YtjnplcajajdkiaaDoor.lru
open Go.Proofs.YtjnplcajajdkiaaDoor.sha (Tabs wpList_putc new32 range_of)

/-- What a call leaves held, and pinned. -/
def actH (q : Nat) (E : Held) (K : Int) (b : ByteArray) : Held := if K = 0 ∨ K = 1 then putH q E b else if K = 2 then useH E (sumB b) else if K = 4 then dropH E (sumB b) else E
def actP (E : Held) (P : List (List Int)) (K : Int) (b : ByteArray) : List (List Int) := if K = 3 then pinP E P (sumB b) else if K = 4 then dropP E P (sumB b) else P
theorem Ok.act {q k : Nat} {E : Held} {P : List (List Int)} (h : Ok q k E P) (K : Int) (b : ByteArray) : Ok q (k + 1) (actH q E K b) (actP E P K b) := by
  unfold actH actP
  by_cases h01 : K = 0 ∨ K = 1
  · rw [if_pos h01, if_neg (by omega), if_neg (by omega)]
    exact h.putH b
  · rw [if_neg h01]
    by_cases h2 : K = 2
    · rw [if_pos h2, if_neg (by omega), if_neg (by omega)]
      exact h.useH _
    · rw [if_neg h2]
      by_cases h3 : K = 3
      · rw [if_pos h3, if_neg (by omega)]
        exact h.pinP _
      · rw [if_neg h3]
        by_cases h4 : K = 4
        · rw [if_pos h4, if_pos h4]
          exact h.dropHP _
        · rw [if_neg h4, if_neg h4]
          exact h.mono (Nat.le_succ k)

theorem Duo.tabs {B : Nat} {w0 w : World} {A C : (Nat → Prop) → World → Prop} {F G : Nat → Prop} (h : Duo B w0 A C F G w) (ht : Tabs w0) (hB : 1 < B ∧ 0 < B) : Tabs w := ht.below h.below hB

section
variable {B p X q k : Nat} {w0 w : World} {E : Held} {P : List (List Int)} {F G : Nat → Prop}



set_option maxRecDepth 10000 in
set_option maxHeartbeats 1000000 in
theorem step_put (hd : Duo B w0 (StAt p q E P) (RefAt X q E P) F G w) (ho : Ok q k E P) (hk : k ≤ 1000) (ht : Tabs w0) (hB : 1 < B ∧ 0 < B) (K : Int) (hK : K = 0 ∨ K = 1) (b : ByteArray) (hb : b.size ≤ 1000000) (n : Int) :
    Calls Tryd.prog 20 #[.pointer (some ⟨p, 0, none⟩), .pointer (some ⟨X, 0, none⟩), .agg #[.int .i64 K, .string b, .int .i64 n]] w fun e w' => e = .returned (.bool true) ∧ ∃ F' G', Duo B w0 (StAt p q (putH q E b) P) (RefAt X q (putH q E b) P) F' G' w' := by
  rcases hK with rfl | rfl
  · obtain ⟨K, hK⟩ : ∃ K : Int, K = 0 := ⟨_, rfl⟩
    rw [← hK]
    have k0 : (K == 0) = true := by rw [hK]; rfl
    clear hK
    have hA := local_st p q E P
    have hC := local_ref X q E P
    have hFlt := (hA F w hd.a).1
    have hGlt := (hC G w hd.c).1
    obtain ⟨w1, hw1⟩ : ∃ w1, w1 = w.alloc (.cells #[.int .i64 K, .string b, .int .i64 n] 29) := ⟨_, rfl⟩
    have t1 : Turns nobody w w1 := by rw [hw1]; exact (Turns.refl _ _).alloc _
    obtain ⟨A0, hA0⟩ : ∃ A0, w.heap.size = A0 := ⟨_, rfl⟩
    have hb1 : w1.heap[A0]? = some (.cells #[.int .i64 K, .string b, .int .i64 n] 29 (0, 0)) := by rw [hw1, ← hA0]; exact heap_alloc_new w _
    have hd1 := hd.still hA hC t1
    have HD1 := Lib.hid hd1
    have HB1 := Lib.hid hb1
    have HW1 := Lib.hid hw1
    have HA0 := Lib.hid hA0
    have HFL : Hid (∀ i, F i → i < A0) := Lib.hid (by rw [← hA0]; exact hFlt)
    have HGL : Hid (∀ i, G i → i < A0) := Lib.hid (by rw [← hA0]; exact hGlt)
    have c0 := cells_of hb1 0 (.int .i64 K) rfl
    have c1 := cells_of hb1 1 (.string b) rfl
    have hsum : Calls Tryd.prog 9 #[.string b] w1 fun e w' => e = .returned (.agg (idc (sumB b)).toArray) ∧ Turns nobody w1 w' := sha.refsum_any b w1 hb
    have hid := sumB_len b
    have NI := Lib.hid (zid_size (sumB b) hid)
    have SI := Lib.hid (sizeId hid)
    have HOK := Lib.hid ho
    have HTB := Lib.hid ht
    clear hw1 t1 hA0 hb1 hd1 hA hC hFlt hGlt hd ht
    go_enter Tryd.func20, Tryd.ntmps20
    go_upto_region 1 with fail
    rw [← HW1.out, HA0.out]
    go_upto_region 2 with first
      | (go_at_call 9; refine hsum.mono ?_; rintro e w2 ⟨rfl, t2⟩; have HT2 := Lib.hid t2; have HN2 := Lib.hid (new32 w2); clear t2)
      | (refine wpList_putc rfl _ _ _ rfl (idc (sumB b)) HN2.out NI.out (idc_one _) rfl rfl SI.out ?_; intro w3 t3 a3 z3)
    obtain ⟨J, hJ⟩ : ∃ J, w2.heap.size = J := ⟨_, rfl⟩
    rw [hJ] at t3 a3 ⊢
    have hAJ : A0 < J := by have := lt_of_block HB1.out; have := HT2.out.size; omega
    have t13 : Turns nobody w1 w3 := (HT2.out.alloc _).trans t3 (fun i hi => Or.inr (by have := HT2.out.size; omega))
    have HT13 := Lib.hid t13
    have HJ3 := Lib.hid a3
    have HAJ := Lib.hid hAJ
    have HD3 := Lib.hid (HD1.out.still (local_st _ _ _ _) (local_ref _ _ _ _) t13)
    have HB3 := Lib.hid (heap_newer HB1.out t13 (fun h => h))
    have HZ3 := Lib.hid (lt_of_block a3)
    have RJ := Lib.hid (range_of a3)
    have c0 := cells_of HB3.out 0 (.int .i64 K) rfl
    have c1 := cells_of HB3.out 1 (.string b) rfl
    have c2 := cells_of HB3.out 2 (.int .i64 n) rfl
    clear t3 a3 z3 hJ hAJ t13 hsum
    have HI0 := Lib.hid (putI_len q E b)
    have NP := Lib.hid (zid_size (putI q E b) HI0.out)
    have SP := Lib.hid (sizeId HI0.out)
    have hput := fun (W : World) (F' : Nat → Prop) (h : StAt p q E P F' W) (htb : Tabs W) => put_st h HOK.out hk htb b hb
    have hrput := fun (W : World) (G' : Nat → Prop) (h : RefAt X (q : Int) E P G' W) => put_rf h HOK.out hk b hb
    have HPUT := Lib.hid hput
    have HRPUT := Lib.hid hrput
    clear hput hrput
    generalize hpi : putI q E b = pi at *
    generalize hpn : putN q E b = pn at *
    clear hpi hpn
    go_upto_region 6 with first
      | (go_at_call 10; refine (HPUT.out _ _ HD3.out.a (Duo.tabs HD3.out HTB.out hB)).mono ?_; rintro e w4 ⟨rfl, hs4⟩; have HS4 := Lib.hid hs4.turned; obtain ⟨F4, hd4⟩ := HD3.out.left (local_ref _ _ _ _) hs4; have HD4 := Lib.hid hd4; have HN4 := Lib.hid (new32 w4); clear hs4 hd4)
      | (refine wpList_putc rfl _ _ _ rfl (idc pi) HN4.out NP.out (idc_one _) rfl rfl SP.out ?_; intro w5 t5 a5 z5)
    have hFA : ¬ F A0 := fun h => by have := HFL.out A0 h; omega
    have hGA : ¬ G A0 := fun h => by have := HGL.out A0 h; omega
    have HFA := Lib.hid hFA
    have HGA := Lib.hid hGA
    obtain ⟨J5, hJ5⟩ : ∃ J5, w4.heap.size = J5 := ⟨_, rfl⟩
    rw [hJ5] at t5 a5 ⊢
    have t45 : Turns nobody w4 w5 := ((Turns.refl nobody w4).alloc _).trans t5 (fun i hi => Or.inr (by omega))
    have HD5 := Lib.hid (HD4.out.still (local_st _ _ _ _) (local_ref _ _ _ _) t45)
    have HB5 := Lib.hid (heap_newer (heap_newer HB3.out HS4.out HFA.out) t45 (fun h => h))
    have HG5 : Hid (¬ G J5) := Lib.hid (fun h => by have := HGL.out J5 h; have := HAJ.out; have := HZ3.out; have := HS4.out.size; omega)
    have HA5 := Lib.hid a5
    have c1 := cells_of HB5.out 1 (.string b) rfl
    clear t5 a5 z5 t45 hJ5 hFA hGA
    go_upto_region 7 with first
      | (go_at_call 42; refine (HRPUT.out _ _ HD5.out.c).mono ?_; rintro e w6 ⟨rfl, hs6⟩; have HS6 := Lib.hid hs6.turned; obtain ⟨G6, hd6⟩ := HD5.out.right (local_st _ _ _ _) hs6; have HD6 := Lib.hid hd6; have HN6 := Lib.hid (new32 w6); clear hs6 hd6)
      | (refine wpList_putc rfl _ _ _ rfl (idc pi) HN6.out NP.out (idc_one _) rfl rfl SP.out ?_; intro w7 t7 a7 z7)
    have t67 : Turns nobody w6 w7 := ((Turns.refl nobody w6).alloc _).trans t7 (fun i hi => Or.inr (by omega))
    have HD7 := Lib.hid (HD6.out.still (local_st _ _ _ _) (local_ref _ _ _ _) t67)
    have R5 := Lib.hid (range_of (heap_newer (heap_newer HA5.out HS6.out HG5.out) t67 (fun h => h)))
    have R7 := Lib.hid (range_of a7)
    have hpl := HI0.out
    clear t7 a7 z7 t67
    go_wp2_with first
      | (with_reducible refine wpList_load_mid rfl _ _ rfl _ _ rfl _ _ R5.out Tryd.underlying31 rfl SP.out ?_)
      | (with_reducible refine wpList_load_mid rfl _ _ rfl _ _ rfl _ _ R7.out Tryd.underlying31 rfl SP.out ?_)
      | (refine wpList_exec (exec_eq _ _ _ rfl pi pi rfl rfl hpl hpl (decide_eq_true rfl)) (by first | rfl | go_simp) ?_)
    go_ret
    exact ⟨rfl, _, _, HD7.out⟩
  · obtain ⟨K, hK⟩ : ∃ K : Int, K = 1 := ⟨_, rfl⟩
    rw [← hK]
    have k0 : (K == 0) = false := by rw [hK]; rfl
    have k1 : (K == 1) = true := by rw [hK]; rfl
    clear hK
    have hA := local_st p q E P
    have hC := local_ref X q E P
    have hFlt := (hA F w hd.a).1
    have hGlt := (hC G w hd.c).1
    obtain ⟨w1, hw1⟩ : ∃ w1, w1 = w.alloc (.cells #[.int .i64 K, .string b, .int .i64 n] 29) := ⟨_, rfl⟩
    have t1 : Turns nobody w w1 := by rw [hw1]; exact (Turns.refl _ _).alloc _
    obtain ⟨A0, hA0⟩ : ∃ A0, w.heap.size = A0 := ⟨_, rfl⟩
    have hb1 : w1.heap[A0]? = some (.cells #[.int .i64 K, .string b, .int .i64 n] 29 (0, 0)) := by rw [hw1, ← hA0]; exact heap_alloc_new w _
    have hd1 := hd.still hA hC t1
    have HD1 := Lib.hid hd1
    have HB1 := Lib.hid hb1
    have HW1 := Lib.hid hw1
    have HA0 := Lib.hid hA0
    have HFL : Hid (∀ i, F i → i < A0) := Lib.hid (by rw [← hA0]; exact hFlt)
    have HGL : Hid (∀ i, G i → i < A0) := Lib.hid (by rw [← hA0]; exact hGlt)
    have c0 := cells_of hb1 0 (.int .i64 K) rfl
    have c1 := cells_of hb1 1 (.string b) rfl
    have hsum : Calls Tryd.prog 9 #[.string b] w1 fun e w' => e = .returned (.agg (idc (sumB b)).toArray) ∧ Turns nobody w1 w' := sha.refsum_any b w1 hb
    have hid := sumB_len b
    have NI := Lib.hid (zid_size (sumB b) hid)
    have SI := Lib.hid (sizeId hid)
    have HOK := Lib.hid ho
    have HTB := Lib.hid ht
    clear hw1 t1 hA0 hb1 hd1 hA hC hFlt hGlt hd ht
    go_enter Tryd.func20, Tryd.ntmps20
    go_upto_region 1 with fail
    rw [← HW1.out, HA0.out]
    go_upto_region 2 with first
      | (go_at_call 9; refine hsum.mono ?_; rintro e w2 ⟨rfl, t2⟩; have HT2 := Lib.hid t2; have HN2 := Lib.hid (new32 w2); clear t2)
      | (refine wpList_putc rfl _ _ _ rfl (idc (sumB b)) HN2.out NI.out (idc_one _) rfl rfl SI.out ?_; intro w3 t3 a3 z3)
    obtain ⟨J, hJ⟩ : ∃ J, w2.heap.size = J := ⟨_, rfl⟩
    rw [hJ] at t3 a3 ⊢
    have hAJ : A0 < J := by have := lt_of_block HB1.out; have := HT2.out.size; omega
    have t13 : Turns nobody w1 w3 := (HT2.out.alloc _).trans t3 (fun i hi => Or.inr (by have := HT2.out.size; omega))
    have HT13 := Lib.hid t13
    have HJ3 := Lib.hid a3
    have HAJ := Lib.hid hAJ
    have HD3 := Lib.hid (HD1.out.still (local_st _ _ _ _) (local_ref _ _ _ _) t13)
    have HB3 := Lib.hid (heap_newer HB1.out t13 (fun h => h))
    have HZ3 := Lib.hid (lt_of_block a3)
    have RJ := Lib.hid (range_of a3)
    have c0 := cells_of HB3.out 0 (.int .i64 K) rfl
    have c1 := cells_of HB3.out 1 (.string b) rfl
    have c2 := cells_of HB3.out 2 (.int .i64 n) rfl
    clear t3 a3 z3 hJ hAJ t13 hsum
    have HI0 := Lib.hid (putI_len q E b)
    have NP := Lib.hid (zid_size (putI q E b) HI0.out)
    have SP := Lib.hid (sizeId HI0.out)
    have hput := fun (W : World) (F' : Nat → Prop) (h : StAt p q E P F' W) (htb : Tabs W) => put_st h HOK.out hk htb b hb
    have hrput := fun (W : World) (G' : Nat → Prop) (h : RefAt X (q : Int) E P G' W) => put_rf h HOK.out hk b hb
    have HPUT := Lib.hid hput
    have HRPUT := Lib.hid hrput
    clear hput hrput
    generalize hpi : putI q E b = pi at *
    generalize hpn : putN q E b = pn at *
    clear hpi hpn
    go_upto_region 6 with first
      | (go_at_call 10; refine (HPUT.out _ _ HD3.out.a (Duo.tabs HD3.out HTB.out hB)).mono ?_; rintro e w4 ⟨rfl, hs4⟩; have HS4 := Lib.hid hs4.turned; obtain ⟨F4, hd4⟩ := HD3.out.left (local_ref _ _ _ _) hs4; have HD4 := Lib.hid hd4; have HN4 := Lib.hid (new32 w4); clear hs4 hd4)
      | (refine wpList_putc rfl _ _ _ rfl (idc pi) HN4.out NP.out (idc_one _) rfl rfl SP.out ?_; intro w5 t5 a5 z5)
    have hFA : ¬ F A0 := fun h => by have := HFL.out A0 h; omega
    have hGA : ¬ G A0 := fun h => by have := HGL.out A0 h; omega
    have HFA := Lib.hid hFA
    have HGA := Lib.hid hGA
    obtain ⟨J5, hJ5⟩ : ∃ J5, w4.heap.size = J5 := ⟨_, rfl⟩
    rw [hJ5] at t5 a5 ⊢
    have t45 : Turns nobody w4 w5 := ((Turns.refl nobody w4).alloc _).trans t5 (fun i hi => Or.inr (by omega))
    have HD5 := Lib.hid (HD4.out.still (local_st _ _ _ _) (local_ref _ _ _ _) t45)
    have HB5 := Lib.hid (heap_newer (heap_newer HB3.out HS4.out HFA.out) t45 (fun h => h))
    have HG5 : Hid (¬ G J5) := Lib.hid (fun h => by have := HGL.out J5 h; have := HAJ.out; have := HZ3.out; have := HS4.out.size; omega)
    have HA5 := Lib.hid a5
    have c1 := cells_of HB5.out 1 (.string b) rfl
    clear t5 a5 z5 t45 hJ5 hFA hGA
    go_upto_region 7 with first
      | (go_at_call 42; refine (HRPUT.out _ _ HD5.out.c).mono ?_; rintro e w6 ⟨rfl, hs6⟩; have HS6 := Lib.hid hs6.turned; obtain ⟨G6, hd6⟩ := HD5.out.right (local_st _ _ _ _) hs6; have HD6 := Lib.hid hd6; have HN6 := Lib.hid (new32 w6); clear hs6 hd6)
      | (refine wpList_putc rfl _ _ _ rfl (idc pi) HN6.out NP.out (idc_one _) rfl rfl SP.out ?_; intro w7 t7 a7 z7)
    have t67 : Turns nobody w6 w7 := ((Turns.refl nobody w6).alloc _).trans t7 (fun i hi => Or.inr (by omega))
    have HD7 := Lib.hid (HD6.out.still (local_st _ _ _ _) (local_ref _ _ _ _) t67)
    have R5 := Lib.hid (range_of (heap_newer (heap_newer HA5.out HS6.out HG5.out) t67 (fun h => h)))
    have R7 := Lib.hid (range_of a7)
    have hpl := HI0.out
    clear t7 a7 z7 t67
    go_wp2_with first
      | (with_reducible refine wpList_load_mid rfl _ _ rfl _ _ rfl _ _ R5.out Tryd.underlying31 rfl SP.out ?_)
      | (with_reducible refine wpList_load_mid rfl _ _ rfl _ _ rfl _ _ R7.out Tryd.underlying31 rfl SP.out ?_)
      | (refine wpList_exec (exec_eq _ _ _ rfl pi pi rfl rfl hpl hpl (decide_eq_true rfl)) (by first | rfl | go_simp) ?_)
    go_ret
    exact ⟨rfl, _, _, HD7.out⟩


set_option maxRecDepth 10000 in
set_option maxHeartbeats 1000000 in
theorem step_use (hd : Duo B w0 (StAt p q E P) (RefAt X q E P) F G w) (ho : Ok q k E P) (hk : k ≤ 1000) (ht : Tabs w0) (hB : 1 < B ∧ 0 < B) (b : ByteArray) (hb : b.size ≤ 1000000) (n : Int) :
    Calls Tryd.prog 20 #[.pointer (some ⟨p, 0, none⟩), .pointer (some ⟨X, 0, none⟩), .agg #[.int .i64 2, .string b, .int .i64 n]] w fun e w' => e = .returned (.bool true) ∧ ∃ F' G', Duo B w0 (StAt p q (useH E (sumB b)) P) (RefAt X q (useH E (sumB b)) P) F' G' w' := by
  obtain ⟨K, hK⟩ : ∃ K : Int, K = 2 := ⟨_, rfl⟩
  rw [← hK]
  have k0 : (K == 0) = false := by rw [hK]; rfl
  have k1 : (K == 1) = false := by rw [hK]; rfl
  have k2 : (K == 2) = true := by rw [hK]; rfl
  clear hK
  have hA := local_st p q E P
  have hC := local_ref X q E P
  have hFlt := (hA F w hd.a).1
  have hGlt := (hC G w hd.c).1
  obtain ⟨w1, hw1⟩ : ∃ w1, w1 = w.alloc (.cells #[.int .i64 K, .string b, .int .i64 n] 29) := ⟨_, rfl⟩
  have t1 : Turns nobody w w1 := by rw [hw1]; exact (Turns.refl _ _).alloc _
  obtain ⟨A0, hA0⟩ : ∃ A0, w.heap.size = A0 := ⟨_, rfl⟩
  have hb1 : w1.heap[A0]? = some (.cells #[.int .i64 K, .string b, .int .i64 n] 29 (0, 0)) := by rw [hw1, ← hA0]; exact heap_alloc_new w _
  have hd1 := hd.still hA hC t1
  have HD1 := Lib.hid hd1
  have HB1 := Lib.hid hb1
  have HW1 := Lib.hid hw1
  have HA0 := Lib.hid hA0
  have HFL : Hid (∀ i, F i → i < A0) := Lib.hid (by rw [← hA0]; exact hFlt)
  have HGL : Hid (∀ i, G i → i < A0) := Lib.hid (by rw [← hA0]; exact hGlt)
  have c0 := cells_of hb1 0 (.int .i64 K) rfl
  have c1 := cells_of hb1 1 (.string b) rfl
  have hsum : Calls Tryd.prog 9 #[.string b] w1 fun e w' => e = .returned (.agg (idc (sumB b)).toArray) ∧ Turns nobody w1 w' := sha.refsum_any b w1 hb
  have hid := sumB_len b
  have NI := Lib.hid (zid_size (sumB b) hid)
  have SI := Lib.hid (sizeId hid)
  have HOK := Lib.hid ho
  have HTB := Lib.hid ht
  clear hw1 t1 hA0 hb1 hd1 hA hC hFlt hGlt hd ht
  go_enter Tryd.func20, Tryd.ntmps20
  go_upto_region 1 with fail
  rw [← HW1.out, HA0.out]
  go_upto_region 2 with first
    | (go_at_call 9; refine hsum.mono ?_; rintro e w2 ⟨rfl, t2⟩; have HT2 := Lib.hid t2; have HN2 := Lib.hid (new32 w2); clear t2)
    | (refine wpList_putc rfl _ _ _ rfl (idc (sumB b)) HN2.out NI.out (idc_one _) rfl rfl SI.out ?_; intro w3 t3 a3 z3)
  obtain ⟨J, hJ⟩ : ∃ J, w2.heap.size = J := ⟨_, rfl⟩
  rw [hJ] at t3 a3 ⊢
  have hAJ : A0 < J := by have := lt_of_block HB1.out; have := HT2.out.size; omega
  have t13 : Turns nobody w1 w3 := (HT2.out.alloc _).trans t3 (fun i hi => Or.inr (by have := HT2.out.size; omega))
  have HT13 := Lib.hid t13
  have HJ3 := Lib.hid a3
  have HAJ := Lib.hid hAJ
  have HD3 := Lib.hid (HD1.out.still (local_st _ _ _ _) (local_ref _ _ _ _) t13)
  have HB3 := Lib.hid (heap_newer HB1.out t13 (fun h => h))
  have HZ3 := Lib.hid (lt_of_block a3)
  have RJ := Lib.hid (range_of a3)
  have c0 := cells_of HB3.out 0 (.int .i64 K) rfl
  have c1 := cells_of HB3.out 1 (.string b) rfl
  have c2 := cells_of HB3.out 2 (.int .i64 n) rfl
  clear t3 a3 z3 hJ hAJ t13 hsum
  have HP1 : Hid (∀ (W : World) (F' : Nat → Prop), StAt p q E P F' W → Calls Tryd.prog 11 #[.pointer (some ⟨p, 0, none⟩), .agg (idc (sumB b)).toArray] W fun e w' => e = .returned (.int .i64 (getI E (sumB b))) ∧ Step F' (StAt p q (useH E (sumB b)) P) W w') := Lib.hid fun W F' h => use_st h _ hid
  have HP2 : Hid (∀ (W : World) (G' : Nat → Prop), RefAt X (q : Int) E P G' W → Calls Tryd.prog 43 #[.pointer (some ⟨X, 0, none⟩), .agg (idc (sumB b)).toArray] W fun e w' => e = .returned (.int .i64 (getI E (sumB b))) ∧ Step G' (RefAt X q (useH E (sumB b)) P) W w') := Lib.hid fun W G' h => use_rf h HOK.out hk _ hid
  go_upto_region 9 with fail
  clear c0 c1 c2
  have HFJ : Hid (¬ F J) := Lib.hid (fun h => by have := HFL.out J h; have := HAJ.out; omega)
  have HJ3d := Lib.hid (show w3.drew.heap[J]? = some (.cells (idc (sumB b)).toArray 31 (0, 0)) from HJ3.out)
  refine wp_region_mix [(0, true, true), (1, true, true), (3, true, true), (4, true, true), (2, false, true), (5, false, true), (6, true, true), (7, true, true)] (fun W => W.rangeAt J 0 (idc (sumB b))) (by kernel_rfl) (by kernel_rfl) (range_of HJ3d.out) ?_
  simp only [picked, List.filterMap_cons, List.filterMap_nil, List.getElem?_toArray, List.getElem?_cons_zero, List.getElem?_cons_succ, Option.map_some]
  iterate 1 (refine mix_free (v := ?_) rfl ?_ ?_; rotate_left; (focus (intro w' hI; go_simp; try with_reducible rfl)); simp only [Act.put, List.setIfInBounds_toArray, List.set_cons_zero, List.set_cons_succ])
  refine mix_free (v := .agg (idc (sumB b)).toArray) rfl (fun w' hI => exec_load_mid _ _ rfl _ _ rfl (idc (sumB b)) _ hI Tryd.underlying31 rfl SI.out) ?_
  simp only [Act.put, List.setIfInBounds_toArray, List.set_cons_zero, List.set_cons_succ]
  iterate 1 (refine mix_free (v := ?_) rfl ?_ ?_; rotate_left; (focus (intro w' hI; go_simp; try with_reducible rfl)); simp only [Act.put, List.setIfInBounds_toArray, List.set_cons_zero, List.set_cons_succ])
  refine mix_free (v := .agg (idc (sumB b)).toArray) rfl (fun w' hI => exec_load_mid _ _ rfl _ _ rfl (idc (sumB b)) _ hI Tryd.underlying31 rfl SI.out) ?_
  simp only [Act.put, List.setIfInBounds_toArray, List.set_cons_zero, List.set_cons_succ]
  have HD3d := Lib.hid (HD3.out.still (local_st _ _ _ _) (local_ref _ _ _ _) (Turns.refl nobody w3).drew)
  refine mix_big rfl (fun K' hK => ?_)
  go_wp2_with (go_at_call 11; refine (HP1.out _ _ HD3d.out.a).mono ?_; rintro e w4 ⟨rfl, hs4⟩; have HS4 := Lib.hid hs4.turned; obtain ⟨F4, hd4⟩ := HD3d.out.left (local_ref _ _ _ _) hs4; have HD4 := Lib.hid hd4; clear hs4 hd4)
  have HJ4 := Lib.hid (heap_newer HJ3d.out HS4.out HFJ.out)
  refine hK _ _ (fun _ => range_of HJ4.out) ?_
  clear hK K'
  refine mix_big rfl (fun K' hK => ?_)
  go_wp2_with (go_at_call 43; refine (HP2.out _ _ HD4.out.c).mono ?_; rintro e w5 ⟨rfl, hs5⟩; have HS5 := Lib.hid hs5.turned; obtain ⟨G5, hd5⟩ := HD4.out.right (local_st _ _ _ _) hs5; have HD5 := Lib.hid hd5; clear hs5 hd5)
  have HGJ : Hid (¬ G J) := Lib.hid (fun h => by have := HGL.out J h; have := HAJ.out; omega)
  have HJ5 := Lib.hid (heap_newer HJ4.out HS5.out HGJ.out)
  refine hK _ _ (fun _ => range_of HJ5.out) ?_
  clear hK K'
  repeat (refine mix_free (v := ?_) rfl ?_ ?_; rotate_left; (focus (intro w' hI; go_simp; try with_reducible rfl)); simp only [Act.put, List.setIfInBounds_toArray, List.set_cons_zero, List.set_cons_succ])
  refine mix_nil ?_
  go_wp2
  go_ret
  exact ⟨rfl, _, _, HD5.out⟩

set_option maxRecDepth 10000 in
set_option maxHeartbeats 1000000 in
theorem step_pin (hd : Duo B w0 (StAt p q E P) (RefAt X q E P) F G w) (ho : Ok q k E P) (hk : k ≤ 1000) (ht : Tabs w0) (hB : 1 < B ∧ 0 < B) (b : ByteArray) (hb : b.size ≤ 1000000) (n : Int) :
    Calls Tryd.prog 20 #[.pointer (some ⟨p, 0, none⟩), .pointer (some ⟨X, 0, none⟩), .agg #[.int .i64 3, .string b, .int .i64 n]] w fun e w' => e = .returned (.bool true) ∧ ∃ F' G', Duo B w0 (StAt p q E (pinP E P (sumB b))) (RefAt X q E (pinP E P (sumB b))) F' G' w' := by
  obtain ⟨K, hK⟩ : ∃ K : Int, K = 3 := ⟨_, rfl⟩
  rw [← hK]
  have k0 : (K == 0) = false := by rw [hK]; rfl
  have k1 : (K == 1) = false := by rw [hK]; rfl
  have k2 : (K == 2) = false := by rw [hK]; rfl
  have k3 : (K == 3) = true := by rw [hK]; rfl
  clear hK
  have hA := local_st p q E P
  have hC := local_ref X q E P
  have hFlt := (hA F w hd.a).1
  have hGlt := (hC G w hd.c).1
  obtain ⟨w1, hw1⟩ : ∃ w1, w1 = w.alloc (.cells #[.int .i64 K, .string b, .int .i64 n] 29) := ⟨_, rfl⟩
  have t1 : Turns nobody w w1 := by rw [hw1]; exact (Turns.refl _ _).alloc _
  obtain ⟨A0, hA0⟩ : ∃ A0, w.heap.size = A0 := ⟨_, rfl⟩
  have hb1 : w1.heap[A0]? = some (.cells #[.int .i64 K, .string b, .int .i64 n] 29 (0, 0)) := by rw [hw1, ← hA0]; exact heap_alloc_new w _
  have hd1 := hd.still hA hC t1
  have HD1 := Lib.hid hd1
  have HB1 := Lib.hid hb1
  have HW1 := Lib.hid hw1
  have HA0 := Lib.hid hA0
  have HFL : Hid (∀ i, F i → i < A0) := Lib.hid (by rw [← hA0]; exact hFlt)
  have HGL : Hid (∀ i, G i → i < A0) := Lib.hid (by rw [← hA0]; exact hGlt)
  have c0 := cells_of hb1 0 (.int .i64 K) rfl
  have c1 := cells_of hb1 1 (.string b) rfl
  have hsum : Calls Tryd.prog 9 #[.string b] w1 fun e w' => e = .returned (.agg (idc (sumB b)).toArray) ∧ Turns nobody w1 w' := sha.refsum_any b w1 hb
  have hid := sumB_len b
  have NI := Lib.hid (zid_size (sumB b) hid)
  have SI := Lib.hid (sizeId hid)
  have HOK := Lib.hid ho
  have HTB := Lib.hid ht
  clear hw1 t1 hA0 hb1 hd1 hA hC hFlt hGlt hd ht
  go_enter Tryd.func20, Tryd.ntmps20
  go_upto_region 1 with fail
  rw [← HW1.out, HA0.out]
  go_upto_region 2 with first
    | (go_at_call 9; refine hsum.mono ?_; rintro e w2 ⟨rfl, t2⟩; have HT2 := Lib.hid t2; have HN2 := Lib.hid (new32 w2); clear t2)
    | (refine wpList_putc rfl _ _ _ rfl (idc (sumB b)) HN2.out NI.out (idc_one _) rfl rfl SI.out ?_; intro w3 t3 a3 z3)
  obtain ⟨J, hJ⟩ : ∃ J, w2.heap.size = J := ⟨_, rfl⟩
  rw [hJ] at t3 a3 ⊢
  have hAJ : A0 < J := by have := lt_of_block HB1.out; have := HT2.out.size; omega
  have t13 : Turns nobody w1 w3 := (HT2.out.alloc _).trans t3 (fun i hi => Or.inr (by have := HT2.out.size; omega))
  have HT13 := Lib.hid t13
  have HJ3 := Lib.hid a3
  have HAJ := Lib.hid hAJ
  have HD3 := Lib.hid (HD1.out.still (local_st _ _ _ _) (local_ref _ _ _ _) t13)
  have HB3 := Lib.hid (heap_newer HB1.out t13 (fun h => h))
  have HZ3 := Lib.hid (lt_of_block a3)
  have RJ := Lib.hid (range_of a3)
  have c0 := cells_of HB3.out 0 (.int .i64 K) rfl
  have c1 := cells_of HB3.out 1 (.string b) rfl
  have c2 := cells_of HB3.out 2 (.int .i64 n) rfl
  clear t3 a3 z3 hJ hAJ t13 hsum
  have HP1 : Hid (∀ (W : World) (F' : Nat → Prop), StAt p q E P F' W → Calls Tryd.prog 12 #[.pointer (some ⟨p, 0, none⟩), .agg (idc (sumB b)).toArray] W fun e w' => e = .returned (.int .i64 (getI E (sumB b))) ∧ Step F' (StAt p q E (pinP E P (sumB b))) W w') := Lib.hid fun W F' h => pin_st h HOK.out _ hid
  have HP2 : Hid (∀ (W : World) (G' : Nat → Prop), RefAt X (q : Int) E P G' W → Calls Tryd.prog 44 #[.pointer (some ⟨X, 0, none⟩), .agg (idc (sumB b)).toArray] W fun e w' => e = .returned (.int .i64 (getI E (sumB b))) ∧ Step G' (RefAt X q E (pinP E P (sumB b))) W w') := Lib.hid fun W G' h => pin_rf h HOK.out hk _ hid
  go_upto_region 11 with fail
  clear c0 c1 c2
  have HFJ : Hid (¬ F J) := Lib.hid (fun h => by have := HFL.out J h; have := HAJ.out; omega)
  have HJ3d := Lib.hid (show w3.drew.heap[J]? = some (.cells (idc (sumB b)).toArray 31 (0, 0)) from HJ3.out)
  refine wp_region_mix [(0, true, true), (1, true, true), (3, true, true), (4, true, true), (2, false, true), (5, false, true), (6, true, true), (7, true, true)] (fun W => W.rangeAt J 0 (idc (sumB b))) (by kernel_rfl) (by kernel_rfl) (range_of HJ3d.out) ?_
  simp only [picked, List.filterMap_cons, List.filterMap_nil, List.getElem?_toArray, List.getElem?_cons_zero, List.getElem?_cons_succ, Option.map_some]
  iterate 1 (refine mix_free (v := ?_) rfl ?_ ?_; rotate_left; (focus (intro w' hI; go_simp; try with_reducible rfl)); simp only [Act.put, List.setIfInBounds_toArray, List.set_cons_zero, List.set_cons_succ])
  refine mix_free (v := .agg (idc (sumB b)).toArray) rfl (fun w' hI => exec_load_mid _ _ rfl _ _ rfl (idc (sumB b)) _ hI Tryd.underlying31 rfl SI.out) ?_
  simp only [Act.put, List.setIfInBounds_toArray, List.set_cons_zero, List.set_cons_succ]
  iterate 1 (refine mix_free (v := ?_) rfl ?_ ?_; rotate_left; (focus (intro w' hI; go_simp; try with_reducible rfl)); simp only [Act.put, List.setIfInBounds_toArray, List.set_cons_zero, List.set_cons_succ])
  refine mix_free (v := .agg (idc (sumB b)).toArray) rfl (fun w' hI => exec_load_mid _ _ rfl _ _ rfl (idc (sumB b)) _ hI Tryd.underlying31 rfl SI.out) ?_
  simp only [Act.put, List.setIfInBounds_toArray, List.set_cons_zero, List.set_cons_succ]
  have HD3d := Lib.hid (HD3.out.still (local_st _ _ _ _) (local_ref _ _ _ _) (Turns.refl nobody w3).drew)
  refine mix_big rfl (fun K' hK => ?_)
  go_wp2_with (go_at_call 12; refine (HP1.out _ _ HD3d.out.a).mono ?_; rintro e w4 ⟨rfl, hs4⟩; have HS4 := Lib.hid hs4.turned; obtain ⟨F4, hd4⟩ := HD3d.out.left (local_ref _ _ _ _) hs4; have HD4 := Lib.hid hd4; clear hs4 hd4)
  have HJ4 := Lib.hid (heap_newer HJ3d.out HS4.out HFJ.out)
  refine hK _ _ (fun _ => range_of HJ4.out) ?_
  clear hK K'
  refine mix_big rfl (fun K' hK => ?_)
  go_wp2_with (go_at_call 44; refine (HP2.out _ _ HD4.out.c).mono ?_; rintro e w5 ⟨rfl, hs5⟩; have HS5 := Lib.hid hs5.turned; obtain ⟨G5, hd5⟩ := HD4.out.right (local_st _ _ _ _) hs5; have HD5 := Lib.hid hd5; clear hs5 hd5)
  have HGJ : Hid (¬ G J) := Lib.hid (fun h => by have := HGL.out J h; have := HAJ.out; omega)
  have HJ5 := Lib.hid (heap_newer HJ4.out HS5.out HGJ.out)
  refine hK _ _ (fun _ => range_of HJ5.out) ?_
  clear hK K'
  repeat (refine mix_free (v := ?_) rfl ?_ ?_; rotate_left; (focus (intro w' hI; go_simp; try with_reducible rfl)); simp only [Act.put, List.setIfInBounds_toArray, List.set_cons_zero, List.set_cons_succ])
  refine mix_nil ?_
  go_wp2
  go_ret
  exact ⟨rfl, _, _, HD5.out⟩

set_option maxRecDepth 10000 in
set_option maxHeartbeats 1000000 in
theorem step_drop (hd : Duo B w0 (StAt p q E P) (RefAt X q E P) F G w) (ho : Ok q k E P) (hk : k ≤ 1000) (ht : Tabs w0) (hB : 1 < B ∧ 0 < B) (b : ByteArray) (hb : b.size ≤ 1000000) (n : Int) :
    Calls Tryd.prog 20 #[.pointer (some ⟨p, 0, none⟩), .pointer (some ⟨X, 0, none⟩), .agg #[.int .i64 4, .string b, .int .i64 n]] w fun e w' => e = .returned (.bool true) ∧ ∃ F' G', Duo B w0 (StAt p q (dropH E (sumB b)) (dropP E P (sumB b))) (RefAt X q (dropH E (sumB b)) (dropP E P (sumB b))) F' G' w' := by
  obtain ⟨K, hK⟩ : ∃ K : Int, K = 4 := ⟨_, rfl⟩
  rw [← hK]
  have k0 : (K == 0) = false := by rw [hK]; rfl
  have k1 : (K == 1) = false := by rw [hK]; rfl
  have k2 : (K == 2) = false := by rw [hK]; rfl
  have k3 : (K == 3) = false := by rw [hK]; rfl
  have k4 : (K == 4) = true := by rw [hK]; rfl
  clear hK
  have hA := local_st p q E P
  have hC := local_ref X q E P
  have hFlt := (hA F w hd.a).1
  have hGlt := (hC G w hd.c).1
  obtain ⟨w1, hw1⟩ : ∃ w1, w1 = w.alloc (.cells #[.int .i64 K, .string b, .int .i64 n] 29) := ⟨_, rfl⟩
  have t1 : Turns nobody w w1 := by rw [hw1]; exact (Turns.refl _ _).alloc _
  obtain ⟨A0, hA0⟩ : ∃ A0, w.heap.size = A0 := ⟨_, rfl⟩
  have hb1 : w1.heap[A0]? = some (.cells #[.int .i64 K, .string b, .int .i64 n] 29 (0, 0)) := by rw [hw1, ← hA0]; exact heap_alloc_new w _
  have hd1 := hd.still hA hC t1
  have HD1 := Lib.hid hd1
  have HB1 := Lib.hid hb1
  have HW1 := Lib.hid hw1
  have HA0 := Lib.hid hA0
  have HFL : Hid (∀ i, F i → i < A0) := Lib.hid (by rw [← hA0]; exact hFlt)
  have HGL : Hid (∀ i, G i → i < A0) := Lib.hid (by rw [← hA0]; exact hGlt)
  have c0 := cells_of hb1 0 (.int .i64 K) rfl
  have c1 := cells_of hb1 1 (.string b) rfl
  have hsum : Calls Tryd.prog 9 #[.string b] w1 fun e w' => e = .returned (.agg (idc (sumB b)).toArray) ∧ Turns nobody w1 w' := sha.refsum_any b w1 hb
  have hid := sumB_len b
  have NI := Lib.hid (zid_size (sumB b) hid)
  have SI := Lib.hid (sizeId hid)
  have HOK := Lib.hid ho
  have HTB := Lib.hid ht
  clear hw1 t1 hA0 hb1 hd1 hA hC hFlt hGlt hd ht
  go_enter Tryd.func20, Tryd.ntmps20
  go_upto_region 1 with fail
  rw [← HW1.out, HA0.out]
  go_upto_region 2 with first
    | (go_at_call 9; refine hsum.mono ?_; rintro e w2 ⟨rfl, t2⟩; have HT2 := Lib.hid t2; have HN2 := Lib.hid (new32 w2); clear t2)
    | (refine wpList_putc rfl _ _ _ rfl (idc (sumB b)) HN2.out NI.out (idc_one _) rfl rfl SI.out ?_; intro w3 t3 a3 z3)
  obtain ⟨J, hJ⟩ : ∃ J, w2.heap.size = J := ⟨_, rfl⟩
  rw [hJ] at t3 a3 ⊢
  have hAJ : A0 < J := by have := lt_of_block HB1.out; have := HT2.out.size; omega
  have t13 : Turns nobody w1 w3 := (HT2.out.alloc _).trans t3 (fun i hi => Or.inr (by have := HT2.out.size; omega))
  have HT13 := Lib.hid t13
  have HJ3 := Lib.hid a3
  have HAJ := Lib.hid hAJ
  have HD3 := Lib.hid (HD1.out.still (local_st _ _ _ _) (local_ref _ _ _ _) t13)
  have HB3 := Lib.hid (heap_newer HB1.out t13 (fun h => h))
  have HZ3 := Lib.hid (lt_of_block a3)
  have RJ := Lib.hid (range_of a3)
  have c0 := cells_of HB3.out 0 (.int .i64 K) rfl
  have c1 := cells_of HB3.out 1 (.string b) rfl
  have c2 := cells_of HB3.out 2 (.int .i64 n) rfl
  clear t3 a3 z3 hJ hAJ t13 hsum
  have HP1 : Hid (∀ (W : World) (F' : Nat → Prop), StAt p q E P F' W → Calls Tryd.prog 18 #[.pointer (some ⟨p, 0, none⟩), .agg (idc (sumB b)).toArray] W fun e w' => e = .returned (.int .i64 (getI E (sumB b))) ∧ Step F' (StAt p q (dropH E (sumB b)) (dropP E P (sumB b))) W w') := Lib.hid fun W F' h => drop_st h HOK.out _ hid
  have HP2 : Hid (∀ (W : World) (G' : Nat → Prop), RefAt X (q : Int) E P G' W → Calls Tryd.prog 45 #[.pointer (some ⟨X, 0, none⟩), .agg (idc (sumB b)).toArray] W fun e w' => e = .returned (.int .i64 (getI E (sumB b))) ∧ Step G' (RefAt X q (dropH E (sumB b)) (dropP E P (sumB b))) W w') := Lib.hid fun W G' h => drop_rf h HOK.out hk _ hid
  go_upto_region 13 with fail
  clear c0 c1 c2
  have HFJ : Hid (¬ F J) := Lib.hid (fun h => by have := HFL.out J h; have := HAJ.out; omega)
  have HJ3d := Lib.hid (show w3.drew.heap[J]? = some (.cells (idc (sumB b)).toArray 31 (0, 0)) from HJ3.out)
  refine wp_region_mix [(0, true, true), (1, true, true), (3, true, true), (4, true, true), (2, false, true), (5, false, true), (6, true, true), (7, true, true)] (fun W => W.rangeAt J 0 (idc (sumB b))) (by kernel_rfl) (by kernel_rfl) (range_of HJ3d.out) ?_
  simp only [picked, List.filterMap_cons, List.filterMap_nil, List.getElem?_toArray, List.getElem?_cons_zero, List.getElem?_cons_succ, Option.map_some]
  iterate 1 (refine mix_free (v := ?_) rfl ?_ ?_; rotate_left; (focus (intro w' hI; go_simp; try with_reducible rfl)); simp only [Act.put, List.setIfInBounds_toArray, List.set_cons_zero, List.set_cons_succ])
  refine mix_free (v := .agg (idc (sumB b)).toArray) rfl (fun w' hI => exec_load_mid _ _ rfl _ _ rfl (idc (sumB b)) _ hI Tryd.underlying31 rfl SI.out) ?_
  simp only [Act.put, List.setIfInBounds_toArray, List.set_cons_zero, List.set_cons_succ]
  iterate 1 (refine mix_free (v := ?_) rfl ?_ ?_; rotate_left; (focus (intro w' hI; go_simp; try with_reducible rfl)); simp only [Act.put, List.setIfInBounds_toArray, List.set_cons_zero, List.set_cons_succ])
  refine mix_free (v := .agg (idc (sumB b)).toArray) rfl (fun w' hI => exec_load_mid _ _ rfl _ _ rfl (idc (sumB b)) _ hI Tryd.underlying31 rfl SI.out) ?_
  simp only [Act.put, List.setIfInBounds_toArray, List.set_cons_zero, List.set_cons_succ]
  have HD3d := Lib.hid (HD3.out.still (local_st _ _ _ _) (local_ref _ _ _ _) (Turns.refl nobody w3).drew)
  refine mix_big rfl (fun K' hK => ?_)
  go_wp2_with (go_at_call 18; refine (HP1.out _ _ HD3d.out.a).mono ?_; rintro e w4 ⟨rfl, hs4⟩; have HS4 := Lib.hid hs4.turned; obtain ⟨F4, hd4⟩ := HD3d.out.left (local_ref _ _ _ _) hs4; have HD4 := Lib.hid hd4; clear hs4 hd4)
  have HJ4 := Lib.hid (heap_newer HJ3d.out HS4.out HFJ.out)
  refine hK _ _ (fun _ => range_of HJ4.out) ?_
  clear hK K'
  refine mix_big rfl (fun K' hK => ?_)
  go_wp2_with (go_at_call 45; refine (HP2.out _ _ HD4.out.c).mono ?_; rintro e w5 ⟨rfl, hs5⟩; have HS5 := Lib.hid hs5.turned; obtain ⟨G5, hd5⟩ := HD4.out.right (local_st _ _ _ _) hs5; have HD5 := Lib.hid hd5; clear hs5 hd5)
  have HGJ : Hid (¬ G J) := Lib.hid (fun h => by have := HGL.out J h; have := HAJ.out; omega)
  have HJ5 := Lib.hid (heap_newer HJ4.out HS5.out HGJ.out)
  refine hK _ _ (fun _ => range_of HJ5.out) ?_
  clear hK K'
  repeat (refine mix_free (v := ?_) rfl ?_ ?_; rotate_left; (focus (intro w' hI; go_simp; try with_reducible rfl)); simp only [Act.put, List.setIfInBounds_toArray, List.set_cons_zero, List.set_cons_succ])
  refine mix_nil ?_
  go_wp2
  go_ret
  exact ⟨rfl, _, _, HD5.out⟩

set_option maxRecDepth 10000 in
set_option maxHeartbeats 1000000 in
theorem step_room (hd : Duo B w0 (StAt p q E P) (RefAt X q E P) F G w) (ho : Ok q k E P) (hk : k ≤ 1000) (ht : Tabs w0) (hB : 1 < B ∧ 0 < B) (K : Int) (hK : K ≠ 0 ∧ K ≠ 1 ∧ K ≠ 2 ∧ K ≠ 3 ∧ K ≠ 4) (b : ByteArray) (hb : b.size ≤ 1000000) (n : Int) :
    Calls Tryd.prog 20 #[.pointer (some ⟨p, 0, none⟩), .pointer (some ⟨X, 0, none⟩), .agg #[.int .i64 K, .string b, .int .i64 n]] w fun e w' => e = .returned (.bool true) ∧ ∃ F' G', Duo B w0 (StAt p q E P) (RefAt X q E P) F' G' w' := by
  have k0 : (K == 0) = false := by simpa using hK.1
  have k1 : (K == 1) = false := by simpa using hK.2.1
  have k2 : (K == 2) = false := by simpa using hK.2.2.1
  have k3 : (K == 3) = false := by simpa using hK.2.2.2.1
  have k4 : (K == 4) = false := by simpa using hK.2.2.2.2
  clear hK
  have hA := local_st p q E P
  have hC := local_ref X q E P
  have hFlt := (hA F w hd.a).1
  have hGlt := (hC G w hd.c).1
  obtain ⟨w1, hw1⟩ : ∃ w1, w1 = w.alloc (.cells #[.int .i64 K, .string b, .int .i64 n] 29) := ⟨_, rfl⟩
  have t1 : Turns nobody w w1 := by rw [hw1]; exact (Turns.refl _ _).alloc _
  obtain ⟨A0, hA0⟩ : ∃ A0, w.heap.size = A0 := ⟨_, rfl⟩
  have hb1 : w1.heap[A0]? = some (.cells #[.int .i64 K, .string b, .int .i64 n] 29 (0, 0)) := by rw [hw1, ← hA0]; exact heap_alloc_new w _
  have hd1 := hd.still hA hC t1
  have HD1 := Lib.hid hd1
  have HB1 := Lib.hid hb1
  have HW1 := Lib.hid hw1
  have HA0 := Lib.hid hA0
  have HFL : Hid (∀ i, F i → i < A0) := Lib.hid (by rw [← hA0]; exact hFlt)
  have HGL : Hid (∀ i, G i → i < A0) := Lib.hid (by rw [← hA0]; exact hGlt)
  have c0 := cells_of hb1 0 (.int .i64 K) rfl
  have c1 := cells_of hb1 1 (.string b) rfl
  have hsum : Calls Tryd.prog 9 #[.string b] w1 fun e w' => e = .returned (.agg (idc (sumB b)).toArray) ∧ Turns nobody w1 w' := sha.refsum_any b w1 hb
  have hid := sumB_len b
  have NI := Lib.hid (zid_size (sumB b) hid)
  have SI := Lib.hid (sizeId hid)
  have HOK := Lib.hid ho
  have HTB := Lib.hid ht
  clear hw1 t1 hA0 hb1 hd1 hA hC hFlt hGlt hd ht
  go_enter Tryd.func20, Tryd.ntmps20
  go_upto_region 1 with fail
  rw [← HW1.out, HA0.out]
  go_upto_region 2 with first
    | (go_at_call 9; refine hsum.mono ?_; rintro e w2 ⟨rfl, t2⟩; have HT2 := Lib.hid t2; have HN2 := Lib.hid (new32 w2); clear t2)
    | (refine wpList_putc rfl _ _ _ rfl (idc (sumB b)) HN2.out NI.out (idc_one _) rfl rfl SI.out ?_; intro w3 t3 a3 z3)
  obtain ⟨J, hJ⟩ : ∃ J, w2.heap.size = J := ⟨_, rfl⟩
  rw [hJ] at t3 a3 ⊢
  have hAJ : A0 < J := by have := lt_of_block HB1.out; have := HT2.out.size; omega
  have t13 : Turns nobody w1 w3 := (HT2.out.alloc _).trans t3 (fun i hi => Or.inr (by have := HT2.out.size; omega))
  have HT13 := Lib.hid t13
  have HJ3 := Lib.hid a3
  have HAJ := Lib.hid hAJ
  have HD3 := Lib.hid (HD1.out.still (local_st _ _ _ _) (local_ref _ _ _ _) t13)
  have HB3 := Lib.hid (heap_newer HB1.out t13 (fun h => h))
  have HZ3 := Lib.hid (lt_of_block a3)
  have RJ := Lib.hid (range_of a3)
  have c0 := cells_of HB3.out 0 (.int .i64 K) rfl
  have c1 := cells_of HB3.out 1 (.string b) rfl
  have c2 := cells_of HB3.out 2 (.int .i64 n) rfl
  clear t3 a3 z3 hJ hAJ t13 hsum
  have hroom := room_st HD3.out.a HOK.out hk n
  have hrroom := fun (W : World) (h : RefAt X (q : Int) E P G W) => room_rf h HOK.out hk n
  have HRR := Lib.hid hrroom
  have hwl : Wh (roomL P q n E) := by
    intro y hy
    unfold roomL at hy
    split at hy
    · have : y ∈ ids E := by
        unfold roomIds ids outs at hy
        obtain ⟨z, hz, rfl⟩ := List.mem_map.1 hy
        exact List.mem_map.2 ⟨z, List.mem_of_mem_take (List.mem_filter.1 hz).1, rfl⟩
      exact HOK.out.wh y this
    · cases hy
  have hll : (roomL P q n E).length ≤ 1024 := by
    unfold roomL
    split
    · unfold roomIds
      rw [ids_len]
      exact Nat.le_trans (outs_len P E _) (by have := HOK.out.len; omega)
    · exact Nat.zero_le _
  have HWL := Lib.hid hwl
  have HLL := Lib.hid hll
  clear hrroom hwl hll
  generalize roomL P q n E = rl at *
  generalize roomE P q n E = re at *
  go_wp2_with first
    | (go_at_call 14; refine hroom.mono ?_; rintro e w4 ⟨v4, rfl, hs4, hn4, t4⟩; have HD4 := Lib.hid (HD3.out.still (local_st _ _ _ _) (local_ref _ _ _ _) t4); have HS4 := Lib.hid hs4; have c2 := cells_of (heap_newer HB3.out t4 (fun h => h)) 2 (.int .i64 n) rfl; clear hroom hs4 hn4 t4)
    | (go_at_call 46; refine (HRR.out _ HD4.out.c).mono ?_; rintro e w5 ⟨v5, rfl, hs5, hn5, t5⟩; have HD5 := Lib.hid (HD4.out.still (local_st _ _ _ _) (local_ref _ _ _ _) t5); have HS5 := Lib.hid hs5; have HS45 := Lib.hid (Sl.keep HS4.out t5 (fun _ _ h => h)); clear hs5 hn5 t5)
    | (go_at_call 16; refine (same_any _ _ rl HWL.out _ HS45.out HS5.out HLL.out).mono ?_; rintro e w6 ⟨rfl, t6⟩; have HD6 := Lib.hid (HD5.out.still (local_st _ _ _ _) (local_ref _ _ _ _) t6); clear t6)
  go_ret
  exact ⟨rfl, _, _, HD6.out⟩

theorem step_both (hd : Duo B w0 (StAt p q E P) (RefAt X q E P) F G w) (ho : Ok q k E P) (hk : k ≤ 1000) (ht : Tabs w0) (hB : 1 < B ∧ 0 < B) (K : Int) (b : ByteArray) (hb : b.size ≤ 1000000) (n : Int) :
    Calls Tryd.prog 20 #[.pointer (some ⟨p, 0, none⟩), .pointer (some ⟨X, 0, none⟩), .agg #[.int .i64 K, .string b, .int .i64 n]] w fun e w' => e = .returned (.bool true) ∧ ∃ F' G', Duo B w0 (StAt p q (actH q E K b) (actP E P K b)) (RefAt X q (actH q E K b) (actP E P K b)) F' G' w' := by
  unfold actH actP
  by_cases h01 : K = 0 ∨ K = 1
  · rw [if_pos h01, if_neg (by omega), if_neg (by omega)]
    exact step_put hd ho hk ht hB K h01 b hb n
  · rw [if_neg h01]
    by_cases h2 : K = 2
    · rw [if_pos h2, if_neg (by omega), if_neg (by omega), h2]
      exact step_use hd ho hk ht hB b hb n
    · rw [if_neg h2]
      by_cases h3 : K = 3
      · rw [if_pos h3, if_neg (by omega), h3]
        exact step_pin hd ho hk ht hB b hb n
      · rw [if_neg h3]
        by_cases h4 : K = 4
        · rw [if_pos h4, if_pos h4, h4]
          exact step_drop hd ho hk ht hB b hb n
        · rw [if_neg h4, if_neg h4]
          exact step_room hd ho hk ht hB K ⟨fun h => h01 (Or.inl h), fun h => h01 (Or.inr h), h2, h3, h4⟩ b hb n
end

end Go.Proofs.YtjnplcajajdkiaaDoor.store
