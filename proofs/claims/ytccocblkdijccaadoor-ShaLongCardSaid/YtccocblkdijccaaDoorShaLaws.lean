/- awake; one that nobody made; ShaPlays. -/
import Derived.Test.YtccocblkdijccaaDoorShaRefSum
import Derived.Test.YtccocblkdijccaaDoorShaAbc
namespace Go.Proofs.YtccocblkdijccaaDoor.sha
open Go.RowKit
open Go.Proofs.YtccocblkdijccaaDoor.stepkit Go.Proofs.YtccocblkdijccaaDoor.obj Go.Proofs.YtccocblkdijccaaDoor.row Go.Proofs.YtccocblkdijccaaDoor.mix Go.Proofs.YtccocblkdijccaaDoor.idkit

theorem eq_ids (w : World) (xs ys : List Int) (hx : xs.length = 32) (hy : ys.length = 32) : (Op.equalIn 10000 24 (.agg (idc xs).toArray) (.agg (idc ys).toArray)).run Tryd.prog w = .ok (decide (xs = ys)) w := by
  obtain ⟨i, hi, _⟩ := info_parts infoU8
  exact op_eq_bytes Tryd.underlying24 Tryd.underlying5 (by kernel_rfl) hi (by kernel_rfl) w xs ys hx hy
theorem eq_sum (w : World) (l : List UInt8) : (Op.equalIn 10000 24 (.agg (idc (sum l)).toArray) (.agg (idc (sum l)).toArray)).run Tryd.prog w = .ok true w := by
  rw [eq_ids w _ _ (sum_len l) (sum_len l)]; simp

theorem write_none (x : Value) (s : ByteArray) (w : World) (hn : Calls Tryd.prog 17 #[x] w fun e w' => e = .returned (.bool true) ∧ w = w') :
    Calls Tryd.prog 11 #[x, .string s] w fun e w' => e = .returned (.int .i64 0) ∧ w = w' := by
  go_enter Tryd.func11, Tryd.ntmps11
  go_wp2_with (go_at_call 17; refine hn.mono ?_; rintro e w' ⟨rfl, rfl⟩)
  go_ret
  exact ⟨rfl, rfl⟩
theorem len_none (x : Value) (w : World) (hn : Calls Tryd.prog 17 #[x] w fun e w' => e = .returned (.bool true) ∧ w = w') :
    Calls Tryd.prog 13 #[x] w fun e w' => e = .returned (.int .i64 0) ∧ w = w' := by
  go_enter Tryd.func13, Tryd.ntmps13
  go_wp2_with (go_at_call 17; refine hn.mono ?_; rintro e w' ⟨rfl, rfl⟩)
  go_ret
  exact ⟨rfl, rfl⟩
set_option maxRecDepth 10000 in
theorem sum_none (x : Value) (w : World) (hn : ∀ W, Turns nobody w W → Calls Tryd.prog 17 #[x] W fun e w' => e = .returned (.bool true) ∧ W = w') (ht : Tabs w) :
    Calls Tryd.prog 12 #[x] w fun e w' => e = .returned (idv (sum [])) ∧ Turns nobody w w' := by
  obtain ⟨wa, hwa⟩ : ∃ wa, wa = w.alloc (.cells #[.int .u8 0, .int .u8 0, .int .u8 0, .int .u8 0, .int .u8 0, .int .u8 0, .int .u8 0, .int .u8 0, .int .u8 0, .int .u8 0, .int .u8 0, .int .u8 0, .int .u8 0, .int .u8 0, .int .u8 0, .int .u8 0, .int .u8 0, .int .u8 0, .int .u8 0, .int .u8 0, .int .u8 0, .int .u8 0, .int .u8 0, .int .u8 0, .int .u8 0, .int .u8 0, .int .u8 0, .int .u8 0, .int .u8 0, .int .u8 0, .int .u8 0, .int .u8 0] 24) := ⟨_, rfl⟩
  obtain ⟨wb, hwb⟩ : ∃ wb, wb = wa.alloc (.cells (hmk first 0 (.slice none 0 0)) 41) := ⟨_, rfl⟩
  obtain ⟨za, hfa, hr, hh, ho, htb, htt⟩ := begun hwa hwb ht
  obtain ⟨H, hH⟩ : ∃ H, w.heap.size = H := ⟨_, rfl⟩
  rw [hH] at za hr hh ho
  have hna := hn wa (by rw [hwa]; exact (Turns.refl _ _).alloc _)
  have hne := new_any wa hfa
  rw [za, ← hwb] at hne
  have hsm := sum_made (H + 1) [] _ wb hh htb (by simp)
  have HWA := Lib.hid hwa
  have HR := Lib.hid hr
  have HTT := Lib.hid htt
  have SZ := Lib.hid (sizeSum [])
  have NL := Lib.hid (nil32 [])
  clear hwa hwb hr hh ho htb htt hfa ht hn
  go_enter Tryd.func12, Tryd.ntmps12
  go_upto_region 1 with fail
  rw [← HWA.out]
  go_wp2_with first
    | (go_at_call 17; refine hna.mono ?_; rintro e w' ⟨rfl, rfl⟩)
    | (go_at_call 10; refine hne.mono ?_; rintro e w' ⟨rfl, rfl⟩)
    | (go_at_call 12; refine hsm.mono ?_; rintro e w3 ⟨rfl, ht3⟩; have HT3 := Lib.hid ht3; clear ht3)
    | (refine wpList_putc rfl _ _ _ rfl (idc (sum [])) (heap_newer HR.out HT3.out (fun h => h)) NL.out (idc_one _) rfl rfl SZ.out ?_; intro w9 t9 a9 z9)
  refine bodyPost_ret (results_one rfl _ _ rfl (range_of a9) Tryd.underlying24 rfl SZ.out) rfl ?_
  exact ⟨rfl, (HTT.out.trans HT3.out (fun _ h => h.elim)).trans t9 (fun i hi => Or.inr (by rw [hi]; omega))⟩

set_option maxRecDepth 10000 in
theorem awake_any (w : World) (ht : Tabs w) :
    Calls Tryd.prog 7 #[] w fun e w' => e = .returned (.bool true) ∧ Turns nobody w w' := by
  have htx := text_any ⟨#[97, 98, 99]⟩ w (by decide) ht
  rw [show (ByteArray.mk #[97, 98, 99]).data.toList = [97, 98, 99] from rfl, sum_abc] at htx
  have SZ : Hid ((Tryd.prog.info? 24).map (·.size) = some (idc (sum [97, 98, 99])).length) := Lib.hid (sizeSum [97, 98, 99])
  have NL := Lib.hid (nil32 [97, 98, 99])
  rw [sum_abc] at SZ NL
  go_enter Tryd.func7, Tryd.ntmps7
  go_upto_region 2 with first
    | (go_at_call 8; refine htx.mono ?_; rintro e w1 ⟨rfl, ht1⟩; have HT1 := Lib.hid ht1; have HN := Lib.hid (new32 w1); clear ht1)
    | (refine wpList_putc rfl _ _ _ rfl _ HN.out NL.out (idc_one _) rfl rfl SZ.out ?_; intro w9 t9 a9 z9)
  have c0 := cells_of a9 0 (.int .u8 186) rfl
  have c1 := cells_of a9 1 (.int .u8 120) rfl
  have c31 := cells_of a9 31 (.int .u8 173) rfl
  have HT9 : Hid (Turns nobody w w9) := Lib.hid ((HT1.out.alloc _).trans t9 (fun i hi => Or.inr (by rw [hi]; exact HT1.out.size)))
  clear a9 t9 z9
  go_wp2
  go_ret
  exact ⟨rfl, HT9.out⟩

theorem plays_any (s : ByteArray) (w : World) (ht : Tabs w) :
    Calls Tryd.prog 3 #[.string s] w fun e w' => e = .returned (.bool true) ∧ Turns nobody w w' := by
  by_cases hs : 3000 < s.size
  · have ha := awake_any w ht
    go_enter Tryd.func3, Tryd.ntmps3
    go_wp2_with (go_at_call 7; refine ha.mono ?_; rintro e w1 ⟨rfl, ht1⟩)
    go_ret
    exact ⟨rfl, ht1⟩
  · have htx := text_any s w (by omega) ht
    have hrf := fun W => refsum_any s W (by omega)
    have heq := fun W => eq_sum W s.data.toList
    have HT := Lib.hid ht
    clear ht
    unfold idv at htx hrf
    go_enter Tryd.func3, Tryd.ntmps3
    go_wp2_with first
      | (go_at_call 8; refine htx.mono ?_; rintro e w1 ⟨rfl, ht1⟩; have HT1 := Lib.hid ht1; clear ht1)
      | (go_at_call 9; refine (hrf _).mono ?_; rintro e w2 ⟨rfl, ht2⟩; have HT2 := Lib.hid (HT1.out.trans ht2 (fun _ h => h.elim)); clear ht2)
      | (go_at_call 7; refine (awake_any _ (HT.out.turns HT2.out off_none)).mono ?_; rintro e w3 ⟨rfl, ht3⟩; have HT3 := Lib.hid (HT2.out.trans ht3 (fun _ h => h.elim)); clear ht3)
    go_ret
    exact ⟨rfl, HT3.out⟩
end Go.Proofs.YtccocblkdijccaaDoor.sha
