/- A text's sum; the sum of what nobody made. -/
import Derived.Test.YtjnplcajajdkiaaDoorShaSum
namespace Go.Proofs.YtjnplcajajdkiaaDoor.sha
open Go.RowKit
open Go.Proofs.YtjnplcajajdkiaaDoor.stepkit Go.Proofs.YtjnplcajajdkiaaDoor.obj Go.Proofs.YtjnplcajajdkiaaDoor.row Go.Proofs.YtjnplcajajdkiaaDoor.mix Go.Proofs.YtjnplcajajdkiaaDoor.idkit

theorem sum_len (l : List UInt8) : (sum l).length = 32 := out_len _
theorem idc_sum_len (l : List UInt8) : (idc (sum l)).length = 32 := by rw [idc_len, sum_len]
theorem sizeSum (l : List UInt8) : (Tryd.prog.info? 31).map (·.size) = some (idc (sum l)).length := by rw [infoI, idc_sum_len]
theorem nil32 (l : List UInt8) : (idc (List.replicate 32 0)).toArray.size = (idc (sum l)).length := by rw [idc_sum_len]; rfl

/-- The beginnings of both: the result's cell, and a new object behind it. -/
theorem begun {w wa wb : World} (ha : wa = w.alloc (.cells #[.int .u8 0, .int .u8 0, .int .u8 0, .int .u8 0, .int .u8 0, .int .u8 0, .int .u8 0, .int .u8 0, .int .u8 0, .int .u8 0, .int .u8 0, .int .u8 0, .int .u8 0, .int .u8 0, .int .u8 0, .int .u8 0, .int .u8 0, .int .u8 0, .int .u8 0, .int .u8 0, .int .u8 0, .int .u8 0, .int .u8 0, .int .u8 0, .int .u8 0, .int .u8 0, .int .u8 0, .int .u8 0, .int .u8 0, .int .u8 0, .int .u8 0, .int .u8 0] 31)) (hb : wb = wa.alloc (.cells (hmk first 0 (.slice none 0 0)) 110)) (ht : Tabs w) :
    wa.heap.size = w.heap.size + 1 ∧ FirstAt wa ∧ wb.heap[w.heap.size]? = some (.cells (idc (List.replicate 32 0)).toArray 31 (0, 0)) ∧ HashAt (w.heap.size + 1) [] (fun i => i = w.heap.size + 1 ∨ blk (.slice none 0 0) i) wb ∧ off (fun i => i = w.heap.size + 1 ∨ blk (.slice none 0 0) i) ∧ Tabs wb ∧ Turns nobody w wb := by
  have ta : Turns nobody w wa := by rw [ha]; exact (Turns.refl _ _).alloc _
  have tb : Turns nobody wa wb := by rw [hb]; exact (Turns.refl _ _).alloc _
  have za : wa.heap.size = w.heap.size + 1 := by rw [ha]; simp
  have h1 := ht.k.lt
  have h2 := ht.first.lt
  refine ⟨za, (ht.turns ta off_none).first, heap_newer (by rw [ha]; exact new32 w) tb (fun h => h), ?_, ⟨fun h => ?_, fun h => ?_⟩, (ht.turns ta off_none).turns tb off_none, ta.trans tb (fun _ h => h.elim)⟩
  · rw [hb, ← za]; exact new_hash wa
  · rcases h with h | h
    · omega
    · cases h
  · rcases h with h | h
    · omega
    · cases h

set_option maxRecDepth 10000 in
theorem text_any (s : ByteArray) (w : World) (hs : s.size ≤ 1000000) (ht : Tabs w) :
    Calls Tryd.prog 34 #[.string s] w fun e w' => e = .returned (idv (sum s.data.toList)) ∧ Turns nobody w w' := by
  obtain ⟨wa, hwa⟩ : ∃ wa, wa = w.alloc (.cells #[.int .u8 0, .int .u8 0, .int .u8 0, .int .u8 0, .int .u8 0, .int .u8 0, .int .u8 0, .int .u8 0, .int .u8 0, .int .u8 0, .int .u8 0, .int .u8 0, .int .u8 0, .int .u8 0, .int .u8 0, .int .u8 0, .int .u8 0, .int .u8 0, .int .u8 0, .int .u8 0, .int .u8 0, .int .u8 0, .int .u8 0, .int .u8 0, .int .u8 0, .int .u8 0, .int .u8 0, .int .u8 0, .int .u8 0, .int .u8 0, .int .u8 0, .int .u8 0] 31) := ⟨_, rfl⟩
  obtain ⟨wb, hwb⟩ : ∃ wb, wb = wa.alloc (.cells (hmk first 0 (.slice none 0 0)) 110) := ⟨_, rfl⟩
  obtain ⟨za, hfa, hr, hh, ho, htb, htt⟩ := begun hwa hwb ht
  obtain ⟨H, hH⟩ : ∃ H, w.heap.size = H := ⟨_, rfl⟩
  rw [hH] at za hr hh ho
  have hss : s.data.toList.length = s.size := Array.length_toList
  have hn := new_any wa hfa
  rw [za, ← hwb] at hn
  have hwr := write_any (H + 1) [] _ wb hh ho s (by simpa using hs) htb
  have HWA := Lib.hid hwa
  have HR := Lib.hid hr
  have HO := Lib.hid ho
  have HTB := Lib.hid htb
  have HTT := Lib.hid htt
  have HSS := Lib.hid hss
  have SZ := Lib.hid (sizeSum s.data.toList)
  have NL := Lib.hid (nil32 s.data.toList)
  clear hwa hwb hr hh ho htb htt hss hfa ht
  go_enter Tryd.func34, Tryd.ntmps34
  go_upto_region 1 with fail
  rw [← HWA.out]
  go_wp2_with first
    | (go_at_call 52; refine hn.mono ?_; rintro e w' ⟨rfl, rfl⟩)
    | (go_at_call 53; refine hwr.mono ?_; rintro e w2 ⟨rfl, F2, hh2, ht2, hn2⟩; have HH2 := Lib.hid hh2; have HT2 := Lib.hid ht2; clear hh2 ht2 hn2 hwr)
    | (go_at_call 54; refine (sum_made (H + 1) _ _ _ HH2.out (HTB.out.turns HT2.out HO.out) (by rw [List.nil_append, HSS.out]; exact hs)).mono ?_; rintro e w3 ⟨rfl, ht3⟩; have HT3 := Lib.hid ht3; clear ht3)
    | (refine wpList_putc rfl _ _ _ rfl (idc (sum s.data.toList)) (heap_newer (heap_newer HR.out HT2.out (fun e => by rcases e with e | e; omega; cases e)) HT3.out (fun h => h)) NL.out (idc_one _) rfl rfl SZ.out ?_; intro w9 t9 a9 z9)
  refine bodyPost_ret (results_one rfl _ _ rfl (range_of a9) Tryd.underlying31 rfl SZ.out) rfl ?_
  refine ⟨rfl, ((HTT.out.trans HT2.out (fun i hi => Or.inr ?_)).trans HT3.out (fun _ h => h.elim)).trans t9 (fun i hi => Or.inr (by rw [hi]; omega))⟩
  rcases hi with hi | hi
  · omega
  · cases hi
end Go.Proofs.YtjnplcajajdkiaaDoor.sha
