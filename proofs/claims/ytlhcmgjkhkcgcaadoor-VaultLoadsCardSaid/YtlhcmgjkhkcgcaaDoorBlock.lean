/- Package block: what each call answers, and what it does to a file that lies at block p. -/
import Derived.Test.YtlhcmgjkhkcgcaaDoorRow
import Derived.Test.YtlhcmgjkhkcgcaaDoorMix
namespace Go.Proofs.YtlhcmgjkhkcgcaaDoor.block
open Go.RowKit
open Go.Proofs.YtlhcmgjkhkcgcaaDoor.stepkit Go.Proofs.YtlhcmgjkhkcgcaaDoor.row Go.Proofs.YtlhcmgjkhkcgcaaDoor.mix

/-- A file of these bytes, of which so many are safe, lies at block p. -/
def BlockAt (w : World) (p : Nat) (l : List UInt8) (safe : Nat) : Prop :=
  safe ≤ l.length ∧ ∃ v, w.heap[p]? = some (.cells #[v, .int .i64 (safe : Int), .bool true] 79 (0, 0)) ∧ Row w 5 1 v l.length (u8s l)

theorem cells_of {w : World} {p : Nat} {cs : Array Value} {t : TypeId} (h : w.heap[p]? = some (.cells cs t (0, 0))) (i : Nat) (v : Value) (hv : cs[i]? = some v) : w.cell? ⟨p, i, none⟩ = some v := by simp [World.cell?, h, hv]
theorem free_of {w : World} {p : Nat} {cs : Array Value} {t : TypeId} (h : w.heap[p]? = some (.cells cs t (0, 0))) (i : Nat) : w.frozen? ⟨p, i, none⟩ = false := by simp [World.frozen?, h]

theorem none_no (p : Nat) (w : World) (h : w.cell? ⟨p, 2, none⟩ = some (.bool true)) :
    Calls Tryd.prog 80 #[.pointer (some ⟨p, 0, none⟩)] w fun e w' => e = .returned (.bool false) ∧ w = w' := by
  go_enter Tryd.func80, Tryd.ntmps80
  go_wp2
  go_ret
  exact ⟨rfl, rfl⟩

theorem none_zero (p : Nat) (w : World) (h : w.cell? ⟨p, 2, none⟩ = some (.bool false)) :
    Calls Tryd.prog 80 #[.pointer (some ⟨p, 0, none⟩)] w fun e w' => e = .returned (.bool true) ∧ w = w' := by
  go_enter Tryd.func80, Tryd.ntmps80
  go_wp2
  go_ret
  exact ⟨rfl, rfl⟩

theorem none_nil (w : World) :
    Calls Tryd.prog 80 #[.pointer none] w fun e w' => e = .returned (.bool true) ∧ w = w' := by
  go_enter Tryd.func80, Tryd.ntmps80
  go_wp2
  go_ret
  exact ⟨rfl, rfl⟩

theorem new_any (w : World) :
    Calls Tryd.prog 27 #[] w fun e w' => e = .returned (.pointer (some ⟨w.heap.size, 0, none⟩)) ∧ w' = w.alloc (.cells #[.slice none 0 0, .int .i64 0, .bool true] 79) := by
  go_enter Tryd.func27, Tryd.ntmps27
  go_wp2
  go_ret
  exact ⟨rfl, rfl⟩

theorem new_at {w w' : World} (h : w' = w.alloc (.cells #[.slice none 0 0, .int .i64 0, .bool true] 79)) : BlockAt w' w.heap.size [] 0 ∧ w.grownBy w' none := by
  subst h
  exact ⟨⟨Nat.le_refl _, _, heap_alloc_new w _, Row.nil _ _ _⟩, World.grownBy_alloc _ _ _⟩

set_option maxHeartbeats 400000 in
theorem tail_any (p : Nat) (l : List UInt8) (safe : Nat) (w : World) (h : BlockAt w p l safe) (hl : l.length ≤ 140737488355328) :
    Calls Tryd.prog 105 #[.pointer (some ⟨p, 0, none⟩)] w fun e w' => e = .returned (.int .i64 ((l.length : Int) - safe)) ∧ ∃ n, w' = w.drewN n := by
  obtain ⟨hsl, v, hp, hr⟩ := h
  obtain ⟨ao, cap, rfl, _, _, _⟩ := hr.shape
  have c0 := cells_of hp 0 _ rfl
  have c1 := cells_of hp 1 _ rfl
  have c2 := cells_of hp 2 _ rfl
  have HP := Lib.hid hp
  have HR := Lib.hid hr
  clear hp hr
  go_enter Tryd.func105, Tryd.ntmps105
  go_wp2_with (go_at_call 80; refine (none_no _ _ c2).mono ?_; rintro e w' ⟨rfl, rfl⟩)
  go_quiet (fail)
  go_wp2
  go_ret
  exact ⟨rfl, _, rfl⟩

set_option maxHeartbeats 400000 in
theorem size_any (p : Nat) (l : List UInt8) (safe : Nat) (w : World) (h : BlockAt w p l safe) :
    Calls Tryd.prog 82 #[.pointer (some ⟨p, 0, none⟩)] w fun e w' => e = .returned (.int .i64 l.length) ∧ w = w' := by
  obtain ⟨hsl, v, hp, hr⟩ := h
  obtain ⟨ao, cap, rfl, _, _, _⟩ := hr.shape
  have c0 := cells_of hp 0 _ rfl
  have c2 := cells_of hp 2 _ rfl
  clear hp hr
  go_enter Tryd.func82, Tryd.ntmps82
  go_wp2_with (go_at_call 80; refine (none_no _ _ c2).mono ?_; rintro e w' ⟨rfl, rfl⟩)
  go_ret
  exact ⟨rfl, rfl⟩

set_option maxHeartbeats 400000 in
theorem data_any (p : Nat) (l : List UInt8) (safe : Nat) (w : World) (h : BlockAt w p l safe) :
    Calls Tryd.prog 40 #[.pointer (some ⟨p, 0, none⟩)] w fun e w' => e = .returned (.string ⟨l.toArray⟩) ∧ w = w' := by
  obtain ⟨hsl, v, hp, hr⟩ := h
  have c0 := cells_of hp 0 _ rfl
  have c2 := cells_of hp 2 _ rfl
  have hc := hr.conv (P := Tryd.prog) (src := 38) (dst := 9) Tryd.underlying38 Tryd.underlying5 Tryd.underlying9
  clear hp hr
  go_enter Tryd.func40, Tryd.ntmps40
  go_wp2_with (go_at_call 80; refine (none_no _ _ c2).mono ?_; rintro e w' ⟨rfl, rfl⟩)
  go_ret
  exact ⟨rfl, rfl⟩


theorem BlockAt.grown {w w' : World} {p : Nat} {l : List UInt8} {safe : Nat} {row : Option Nat} (h : BlockAt w p l safe) (hg : w.grownBy w' row) (hp : row ≠ some p) (hr : ∀ g cur t, row = some g → w.heap[g]? = some (.cells cur t (0, 0)) → t ≠ 5) : BlockAt w' p l safe := by
  obtain ⟨h1, v, h2, h3⟩ := h
  refine ⟨h1, v, by rw [hg.block p (lt_of_block h2) (fun e => hp e.symm)]; exact h2, h3.grown hg fun g hv e => ?_⟩
  obtain ⟨cur, hc⟩ := h3.elem g hv
  exact hr g cur _ e hc rfl

theorem infoU8 : (Tryd.prog.info? 5).map (fun i => (i.zero, i.size, i.bytes)) = some (some (.int .u8 0), 1, 1) := by kernel_rfl
theorem sizeU8 : (Tryd.prog.info? 5).map (·.size) = some 1 := by kernel_rfl

theorem write_end {w w1 : World} {p n m g cap : Nat} {l : List UInt8} {safe : Nat} {v : Value} {s : List UInt8} {cur : Array Value} (hn : l.length = n) (hm : s.length = m) (hsl : safe ≤ n) (hp : w.heap[p]? = some (.cells #[v, .int .i64 (safe : Int), .bool true] 79 (0, 0))) (hg1 : w.grownBy w1 none) (hgn : w.heap.size ≤ g)
    (hh : w1.heap[g]? = some (.cells cur 5 (0, 0))) (hnc : n + m ≤ cap) (hcm : cap ≤ maxLen) (hcs : cap * 1 ≤ cur.size) (htk : cur.toList.take ((n + m) * 1) = u8s (l ++ noughts m)) :
    BlockAt ((w1.setCell ⟨p, 0, none⟩ (.slice (some ⟨g, 0, none⟩) (n + m) cap)).setRow g (cur.toList.take n ++ (u8s s ++ cur.toList.drop (n + m))).toArray) p (l ++ s) safe ∧
      w.grownBy ((w1.setCell ⟨p, 0, none⟩ (.slice (some ⟨g, 0, none⟩) (n + m) cap)).setRow g (cur.toList.take n ++ (u8s s ++ cur.toList.drop (n + m))).toArray) (some p) := by
  have hlt := lt_of_block hp
  have hne : p ≠ g := by omega
  have hp1 : w1.heap[p]? = some (.cells #[v, .int .i64 (safe : Int), .bool true] 79 (0, 0)) := by rw [hg1.block p hlt (by simp)]; exact hp
  have hp2 := heap_setCell_at hp1 0 (.slice (some ⟨g, 0, none⟩) (n + m) cap)
  have hg2 : (w1.setCell ⟨p, 0, none⟩ (.slice (some ⟨g, 0, none⟩) (n + m) cap)).heap[g]? = some (.cells cur 5 (0, 0)) := by rw [Below.heap_setCell _ _ _ _ (by simpa using Ne.symm hne)]; exact hh
  have hl1 : cur.toList.take n = u8s l := by
    have h1 := congrArg (List.take n) htk
    rw [List.take_take, Nat.min_eq_left (by omega)] at h1
    rw [h1, u8s_append, ← hn]
    have : (u8s l).length = l.length := by simp [u8s]
    rw [← this, List.take_left]
  refine ⟨⟨by simp; omega, .slice (some ⟨g, 0, none⟩) (n + m) cap, ?_, ?_⟩, grownBy_setRow (grownBy_trans (grownBy_none hg1 _) (grownBy_setCell _ _ _ _)) hgn _⟩
  · rw [setRow_other _ g p _ hne]
    exact hp2
  · rw [hl1, ← List.append_assoc, ← u8s_append]
    have e : (l ++ s).length = n + m := by simp [hn, hm]
    rw [e]
    have hlen : (u8s (l ++ s)).length = n + m := by simp [u8s, hn, hm]
    refine ⟨by omega, Or.inr ⟨g, cap, _, rfl, setRow_heap _ g cur _ _ _ hg2, hnc, hcm, ?_, ?_⟩⟩
    · simp [hlen]; omega
    · rw [List.toList_toArray, Nat.mul_one, ← hlen, List.take_left]

set_option maxRecDepth 20000 in
set_option maxHeartbeats 800000 in
theorem write_any (p : Nat) (l : List UInt8) (safe : Nat) (s : ByteArray) (w : World) (h : BlockAt w p l safe) (hb : l.length + s.size ≤ 140737488355328) :
    Calls Tryd.prog 33 #[.pointer (some ⟨p, 0, none⟩), .string s] w fun e w' => e = .returned (.int .i64 0) ∧ BlockAt w' p (l ++ s.data.toList) safe ∧ w.grownBy w' (some p) := by
  have H := Lib.hid h
  obtain ⟨hsl, v, hp, hr⟩ := h
  obtain ⟨ao, cap, rfl, hnc, hcm, hao⟩ := hr.shape
  have c0 := cells_of hp 0 _ rfl
  have c2 := cells_of hp 2 _ rfl
  have hcut := hr.cut l.length (Nat.le_refl _)
  rw [List.take_of_length_le (by simp [u8s])] at hcut
  have HP := Lib.hid hp
  obtain ⟨i0, hi, hz0, hz1, hz2⟩ := info_parts infoU8
  clear hp hr hao
  generalize hn : l.length = n at *
  have HN := Lib.hid hn
  clear hn
  unfold maxLen at hcm
  go_enter Tryd.func33, Tryd.ntmps33
  go_wp2_with (first | (go_at_call 80; refine (none_no _ _ c2).mono ?_; rintro e w' ⟨rfl, rfl⟩) | (at_builtin; refine wpList_append_zeros rfl _ _ 38 3 rfl Tryd.underlying38 Tryd.underlying3 hi hz0 hz1 hz2 rfl rfl hcut hb ?_))
  intro v' w1 hg1 hr1 hown hsame
  have hp1 : w1.heap[p]? = some (.cells #[.slice ao n cap, .int .i64 (safe : Int), .bool true] 79 (0, 0)) := by rw [hg1.block p (lt_of_block HP.out) (by simp)]; exact HP.out
  have d0 := cells_of hp1 0 _ rfl
  have d2 := cells_of hp1 2 _ rfl
  have df := free_of hp1 0
  by_cases hm : 0 < s.size
  · have hgb := hown hm
    obtain ⟨hll, ⟨rfl, _⟩ | ⟨g, cap', cur, rfl, hgh, hnc', hcm', hcs', htk'⟩⟩ := hr1
    · cases hgb
    simp only [Value.ownBlock, Option.some.injEq] at hgb
    have hgne : p ≠ g := by have := lt_of_block HP.out; omega
    have hend := write_end (l := l) (s := s.data.toList) (safe := safe) HN.out (by simp) (by have := HN.out; omega) HP.out hg1 (by omega) hgh hnc' hcm' hcs' htk'
    have HE := Lib.hid hend
    have hgW : (w1.setCell ⟨p, 0, none⟩ (.slice (some ⟨g, 0, none⟩) (n + s.size) cap')).heap[g]? = some (.cells cur 5 (0, 0)) := by rw [Below.heap_setCell _ _ _ _ (by simpa using Ne.symm hgne)]; exact hgh
    have hcapn : ¬ cap' = n := by omega
    have hfit : n + s.size ≤ cur.size := by omega
    have HG := Lib.hid hgW
    clear hend hgW hgh htk' hown hsame hp1 hg1 hll hgb hcut hcs'
    unfold maxLen at hcm'
    go_wp2_with fail
    rw [run_copy_text (P := Tryd.prog) _ Tryd.underlying38 sizeU8 HG.out s rfl hfit]
    go_wp2
    go_ret
    exact ⟨rfl, HE.out⟩
  · have hm0 : s.size = 0 := by omega
    have hv := hsame (by first | exact hm0 | exact ByteArray.size_eq_zero_iff.1 hm0)
    subst hv
    have hs0 : s.data.toList = [] := List.eq_nil_of_length_eq_zero (by simpa using hm0)
    have hend : BlockAt (w1.setCell ⟨p, 0, none⟩ (.slice ao n n)) p (l ++ s.data.toList) safe ∧ w.grownBy (w1.setCell ⟨p, 0, none⟩ (.slice ao n n)) (some p) := by
      refine ⟨⟨by simp; have := HN.out; omega, .slice ao n n, heap_setCell_at hp1 0 _, ?_⟩, grownBy_trans (grownBy_none hg1 _) (grownBy_setCell _ _ _ _)⟩
      have e1 : (l ++ s.data.toList).length = n + s.size := by simp [HN.out]
      have e2 : noughts s.size = s.data.toList := by rw [hm0, hs0]; rfl
      rw [e1, ← e2]
      refine hr1.of_heap fun g hg => Below.heap_setCell _ _ _ _ ?_
      intro e
      obtain ⟨cur, hc⟩ := hr1.elem g hg
      simp only at e
      rw [e, hp1] at hc
      simp at hc
    have HE := Lib.hid hend
    clear hend hcut hown hsame hp1 hg1 hr1
    go_wp2_with fail
    rw [run_copy_text_none (P := Tryd.prog) _ Tryd.underlying38 sizeU8 s hm0]
    go_wp2
    go_ret
    exact ⟨rfl, HE.out⟩


set_option maxHeartbeats 400000 in
theorem cut_bad (p : Nat) (l : List UInt8) (safe : Nat) (k : Int) (w : World) (h : BlockAt w p l safe) (hk : k < 0 ∨ (l.length : Int) < k) :
    Calls Tryd.prog 76 #[.pointer (some ⟨p, 0, none⟩), .int .i64 k] w fun e w' => e = .returned (.int .i64 5) ∧ w = w' := by
  obtain ⟨hsl, v, hp, hr⟩ := h
  obtain ⟨ao, cap, rfl, _, _, _⟩ := hr.shape
  have c0 := cells_of hp 0 _ rfl
  have c2 := cells_of hp 2 _ rfl
  clear hp hr
  rcases hk with hk | hk
  · go_enter Tryd.func76, Tryd.ntmps76
    go_wp2_with (go_at_call 80; refine (none_no _ _ c2).mono ?_; rintro e w' ⟨rfl, rfl⟩)
    go_ret
    exact ⟨rfl, rfl⟩
  · have hk0 : ¬ k < 0 := by omega
    go_enter Tryd.func76, Tryd.ntmps76
    go_wp2_with (go_at_call 80; refine (none_no _ _ c2).mono ?_; rintro e w' ⟨rfl, rfl⟩)
    go_ret
    exact ⟨rfl, rfl⟩

set_option maxHeartbeats 400000 in
theorem cut_ok (p : Nat) (l : List UInt8) (safe k : Nat) (w : World) (h : BlockAt w p l safe) (hk : k ≤ l.length) :
    Calls Tryd.prog 76 #[.pointer (some ⟨p, 0, none⟩), .int .i64 k] w fun e w' => e = .returned (.int .i64 0) ∧ BlockAt w' p (l.take k) k ∧ w.grownBy w' (some p) := by
  obtain ⟨hsl, v, hp, hr⟩ := h
  obtain ⟨ao, cap, rfl, hnc, hcm, _⟩ := hr.shape
  have c0 := cells_of hp 0 _ rfl
  have c1 := cells_of hp 1 _ rfl
  have c2 := cells_of hp 2 _ rfl
  have f0 := free_of hp 0
  have f1 := free_of hp 1
  have hcut := hr.cut k hk
  have hend : BlockAt ((w.setCell ⟨p, 0, none⟩ (.slice ao k k)).setCell ⟨p, 1, none⟩ (.int .i64 k)) p (l.take k) k ∧ w.grownBy ((w.setCell ⟨p, 0, none⟩ (.slice ao k k)).setCell ⟨p, 1, none⟩ (.int .i64 k)) (some p) := by
    have hlk : (l.take k).length = k := by simp; omega
    refine ⟨⟨by omega, .slice ao k k, heap_setCell_at (heap_setCell_at hp 0 _) 1 _, ?_⟩, grownBy_trans (grownBy_setCell _ _ _ _) (grownBy_setCell _ _ _ _)⟩
    rw [hlk]
    have e : u8s (l.take k) = (u8s l).take (k * 1) := by simp [u8s]
    rw [e]
    refine hcut.of_heap fun g hg => ?_
    have hgp : g ≠ p := by
      intro e
      obtain ⟨cur, hc⟩ := hcut.elem g hg
      rw [e, hp] at hc
      simp at hc
    rw [Below.heap_setCell _ _ _ _ (by simpa using hgp), Below.heap_setCell _ _ _ _ (by simpa using hgp)]
  have HE := Lib.hid hend
  have hkI : ¬ ((l.length : Int) < k) := by omega
  clear hend hp hr hcut
  unfold maxLen at hcm
  go_enter Tryd.func76, Tryd.ntmps76
  go_wp2_with (go_at_call 80; refine (none_no _ _ c2).mono ?_; rintro e w' ⟨rfl, rfl⟩)
  go_ret
  exact ⟨rfl, HE.out⟩

set_option maxHeartbeats 400000 in
theorem sync_any (p : Nat) (l : List UInt8) (safe : Nat) (w : World) (h : BlockAt w p l safe) (hl : l.length ≤ 140737488355328) :
    Calls Tryd.prog 78 #[.pointer (some ⟨p, 0, none⟩)] w fun e w' => e = .returned (.int .i64 ((l.length : Int) - safe)) ∧ BlockAt w' p l l.length ∧ w.grownBy w' (some p) := by
  have h' := h
  obtain ⟨hsl, v, hp, hr⟩ := h'
  obtain ⟨ao, cap, rfl, hnc, hcm, _⟩ := hr.shape
  have hnext : ∀ W : World, (∃ n, W = w.drewN n) → BlockAt (W.setCell ⟨p, 1, none⟩ (.int .i64 l.length)) p l l.length ∧ w.grownBy (W.setCell ⟨p, 1, none⟩ (.int .i64 l.length)) (some p) := by
    rintro W ⟨n, rfl⟩
    refine ⟨⟨Nat.le_refl _, .slice ao l.length cap, heap_setCell_at (w := w.drewN n) hp 1 _, ?_⟩, grownBy_trans (grownBy_drewN _ _ _) (grownBy_setCell _ _ _ _)⟩
    refine hr.of_heap fun g hg => ?_
    have hgp : g ≠ p := by
      intro e
      obtain ⟨cur, hc⟩ := hr.elem g hg
      rw [e, hp] at hc
      simp at hc
    rw [Below.heap_setCell _ _ _ _ (by simpa using hgp)]
    rfl
  have hsame : safe = l.length → ∀ W : World, (∃ n, W = w.drewN n) → BlockAt W p l l.length ∧ w.grownBy W (some p) := by
    rintro hs W ⟨n, rfl⟩
    subst hs
    exact ⟨h, grownBy_drewN _ _ _⟩
  have c0 : ∀ W : World, (∃ n, W = w.drewN n) → W.cell? ⟨p, 0, none⟩ = some (.slice ao l.length cap) ∧ W.cell? ⟨p, 1, none⟩ = some (.int .i64 (safe : Int)) ∧ W.frozen? ⟨p, 1, none⟩ = false := by
    rintro W ⟨n, rfl⟩
    exact ⟨cells_of hp 0 _ rfl, cells_of hp 1 _ rfl, free_of hp 1⟩
  have HN := Lib.hid hnext
  have HS := Lib.hid hsame
  have HC := Lib.hid c0
  have HB := Lib.hid h
  clear hnext hsame c0 h hp hr
  by_cases hs : safe < l.length
  · go_enter Tryd.func78, Tryd.ntmps78
    go_wp2_with (go_at_call 105; refine (tail_any _ _ _ _ HB.out hl).mono ?_; rintro e w1 ⟨rfl, hw1⟩; obtain ⟨d0, d1, df⟩ := HC.out _ hw1)
    go_ret
    exact ⟨rfl, HN.out _ hw1⟩
  · go_enter Tryd.func78, Tryd.ntmps78
    go_wp2_with (go_at_call 105; refine (tail_any _ _ _ _ HB.out hl).mono ?_; rintro e w1 ⟨rfl, hw1⟩)
    go_ret
    exact ⟨rfl, HS.out (by omega) _ hw1⟩


theorem BlockAt.drawn {w w' : World} {p : Nat} {l : List UInt8} {safe : Nat} (h : BlockAt w p l safe) (hw : ∃ n, w' = w.drewN n) : BlockAt w' p l safe := by
  obtain ⟨n, rfl⟩ := hw
  exact h

theorem drawn_of_drew {w w' : World} (hw : ∃ n, w' = w.drew.drewN n) : ∃ n, w' = w.drewN n := by
  obtain ⟨n, rfl⟩ := hw
  exact ⟨1 + n, by rw [← World.drewN_drewN]; rfl⟩

/-- How many bytes a crash leaves. -/
def keepOf (len safe : Nat) (k : Int) : Nat := safe + (max 0 (min k ((len : Int) - safe))).toNat
theorem keepOf_le {len safe : Nat} (h : safe ≤ len) (k : Int) : keepOf len safe k ≤ len := by unfold keepOf; omega

set_option maxHeartbeats 400000 in
theorem crash_any (p : Nat) (l : List UInt8) (safe : Nat) (k : Int) (w : World) (h : BlockAt w p l safe) (hl : l.length ≤ 140737488355328) (hk1 : -9223372036854775808 ≤ k) (hk2 : k ≤ 9223372036854775807) :
    Calls Tryd.prog 79 #[.pointer (some ⟨p, 0, none⟩), .int .i64 k] w fun e w' =>
      e = .returned (.int .i64 ((l.length : Int) - keepOf l.length safe k)) ∧ BlockAt w' p (l.take (keepOf l.length safe k)) (keepOf l.length safe k) ∧ w.grownBy w' (some p) := by
  have h' := h
  obtain ⟨kp, hkp0⟩ : ∃ kp, keepOf l.length safe k = kp := ⟨_, rfl⟩
  rw [hkp0]
  have HKP := Lib.hid hkp0
  clear hkp0
  obtain ⟨hsl, v, hp, hr⟩ := h'
  obtain ⟨ao, cap, rfl, hnc, hcm, _⟩ := hr.shape
  have c0 : ∀ W : World, (∃ n, W = w.drewN n) → W.cell? ⟨p, 0, none⟩ = some (.slice ao l.length cap) ∧ W.cell? ⟨p, 1, none⟩ = some (.int .i64 (safe : Int)) := by
    rintro W ⟨n, rfl⟩
    exact ⟨cells_of hp 0 _ rfl, cells_of hp 1 _ rfl⟩
  have c2 := cells_of hp 2 _ rfl
  have HC := Lib.hid c0
  have HB := Lib.hid h
  clear c0 h hp hr
  go_enter Tryd.func79, Tryd.ntmps79
  go_wp2_with (go_at_call 80; refine (none_no _ _ c2).mono ?_; rintro e w' ⟨rfl, rfl⟩)
  refine wp_region_mix [(0, true, true), (1, true, true), (2, true, true), (3, true, true), (4, true, true), (5, true, true), (6, false, true), (7, true, true), (8, true, true), (9, true, true), (10, true, true)] (fun w' => ∃ n, w' = w.drewN n) (by kernel_rfl) (by kernel_rfl) (⟨1, rfl⟩) ?_
  simp only [picked, List.filterMap_cons, List.filterMap_nil, List.getElem?_toArray, List.getElem?_cons_zero, List.getElem?_cons_succ, Option.map_some]
  repeat (refine mix_free (v := ?_) rfl ?_ ?_; rotate_left; (focus (intro w' hI; have hI2 := HC.out _ hI; obtain ⟨d0, d1⟩ := hI2; go_simp; try with_reducible rfl)); simp only [Act.put, List.setIfInBounds_toArray, List.set_cons_zero, List.set_cons_succ])
  refine mix_big rfl (fun K hK => ?_)
  go_wp2_with (go_at_call 105; refine (tail_any _ _ _ _ (HB.out.drawn (w' := w.drew) ⟨1, rfl⟩) hl).mono ?_; rintro e w1 ⟨rfl, hw0⟩)
  have hw1 := drawn_of_drew hw0
  refine hK _ _ (fun _ => hw1) ?_
  clear hK K hw0
  repeat (refine mix_free (v := ?_) rfl ?_ ?_; rotate_left; (focus (intro w' hI; go_simp; try with_reducible rfl)); simp only [Act.put, List.setIfInBounds_toArray, List.set_cons_zero, List.set_cons_succ])
  refine mix_nil ?_
  have hkp : IntKind.i64.wrap ((safe : Int) + if 0 < (if (l.length : Int) - safe < k then (l.length : Int) - safe else k) then (if (l.length : Int) - safe < k then (l.length : Int) - safe else k) else 0) = (kp : Int) := by
    rw [← HKP.out]
    have hlt : (safe : Int) ≤ l.length := by omega
    unfold keepOf
    split <;> split <;> rw [IntWalk.i64_in _ (by omega)] <;> omega
  have hke : kp ≤ l.length := by rw [← HKP.out]; exact keepOf_le hsl k
  rw [hkp]
  clear hkp
  obtain ⟨d0, d1⟩ := HC.out _ hw1
  go_wp2_with (go_at_call 76; refine (cut_ok _ _ _ _ _ (HB.out.drawn hw1) hke).mono ?_; rintro e w2 ⟨rfl, hb2, hg2⟩)
  all_goals (go_ret; obtain ⟨n, rfl⟩ := hw1; exact ⟨rfl, hb2, grownBy_trans (grownBy_drewN _ _ _) hg2⟩)

end Go.Proofs.YtlhcmgjkhkcgcaaDoor.block
