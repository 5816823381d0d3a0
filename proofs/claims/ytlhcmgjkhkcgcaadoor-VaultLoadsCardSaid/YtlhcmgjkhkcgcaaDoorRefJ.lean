/- The reference's journal: at any place of a block. -/
import Derived.Test.YtlhcmgjkhkcgcaaDoorJournal
import Derived.Test.YtlhcmgjkhkcgcaaDoorFork
import Derived.Test.YtlhcmgjkhkcgcaaDoorRecOf
import Derived.Laws.Concat
namespace Go.Proofs.YtlhcmgjkhkcgcaaDoor.journal
open Go.RowKit
open Go.Proofs.YtlhcmgjkhkcgcaaDoor.stepkit Go.Proofs.YtlhcmgjkhkcgcaaDoor.obj Go.Proofs.YtlhcmgjkhkcgcaaDoor.row Go.Proofs.YtlhcmgjkhkcgcaaDoor.mix Go.Proofs.YtlhcmgjkhkcgcaaDoor.idkit Go.Proofs.YtlhcmgjkhkcgcaaDoor.bytes Go.Proofs.YtlhcmgjkhkcgcaaDoor.octet Go.Proofs.YtlhcmgjkhkcgcaaDoor.eqkit Go.Proofs.YtlhcmgjkhkcgcaaDoor.record
open Go.Proofs.YtlhcmgjkhkcgcaaDoor.block (BlockAt keepOf keepOf_le keepOf_ge)

/-- A journal of the reference at cell o of block X. -/
structure RJ (w : World) (X : Nat) (T : TypeId) (o : Nat) (cur : Array Value) (S : ByteArray) (sb : Nat) (v : Value) (rl : List RV) (sn : Nat) : Prop where
  h : w.heap[X]? = some (.cells cur T (0, 0))
  c0 : cur[o]? = some (.string S)
  c1 : cur[o + 1]? = some (.int .i64 (sb : Int))
  c2 : cur[o + 2]? = some v
  c3 : cur[o + 3]? = some (.int .i64 (sn : Int))
  s : RSl w v rl
/-- The four cells alone may differ. -/
structure Outs (o : Nat) (cur cur' : Array Value) : Prop where
  size : cur'.size = cur.size
  out : ∀ i, i < o ∨ o + 4 ≤ i → cur'[i]? = cur[i]?
theorem Outs.refl (o : Nat) (cur : Array Value) : Outs o cur cur := ⟨rfl, fun _ _ => rfl⟩
theorem Outs.set {o : Nat} {cur cur' : Array Value} (h : Outs o cur cur') (k : Nat) (hk : k < 4) (v : Value) : Outs o cur (cur'.setIfInBounds (o + k) v) := ⟨by simp [h.size], fun i hi => by rw [Array.getElem?_setIfInBounds_ne (by omega)]; exact h.out i hi⟩
theorem RJ.keep {w w' : World} {F : Nat → Prop} {X : Nat} {T : TypeId} {o : Nat} {cur : Array Value} {S : ByteArray} {sb : Nat} {v : Value} {rl : List RV} {sn : Nat} (h : RJ w X T o cur S sb v rl sn) (ht : Turns F w w') (hX : ¬ F X) (hv : ∀ i, blk v i → ¬ F i) : RJ w' X T o cur S sb v rl sn :=
  ⟨heap_newer h.h ht hX, h.c0, h.c1, h.c2, h.c3, Sl.keep h.s ht hv⟩
theorem RJ.still {w w' : World} {X : Nat} {T : TypeId} {o : Nat} {cur : Array Value} {S : ByteArray} {sb : Nat} {v : Value} {rl : List RV} {sn : Nat} (h : RJ w X T o cur S sb v rl sn) (ht : Turns nobody w w') : RJ w' X T o cur S sb v rl sn := h.keep ht (fun h => h) (fun _ _ h => h)
theorem get_set {cur : Array Value} {i : Nat} {u v : Value} (h : cur[i]? = some u) : (cur.setIfInBounds i v)[i]? = some v := by
  have := (Array.getElem?_eq_some_iff.1 h).1
  simp [this]
theorem get_other {cur : Array Value} {i j : Nat} {u v : Value} (h : cur[j]? = some u) (hij : i ≠ j) : (cur.setIfInBounds i v)[j]? = some u := by
  rw [Array.getElem?_setIfInBounds_ne hij]; exact h

theorem at_store {P : Program} {ops : Array Oper} {Q : Exit → Act → World → Prop} {rest : List Oper} {a : Act} {w : World} {d : Option Tmp} {x y : Operand} {t ty : TypeId} {ps : _} {af : Array Edge} {gd : Option (Nat × Bool)} (h : wpList P ops Q ({ dst := d, op := .store t x y, type := ty, pos := ps, after := af, guard := gd } :: rest) a w) : wpList P ops Q ({ dst := d, op := .store t x y, type := ty, pos := ps, after := af, guard := gd } :: rest) a w := h
theorem build_b66 (S : ByteArray) (n : Int) (W : World) : (Instr.build 66 #[(0, .string S), (1, .int .i64 n)]).run Tryd.prog W = .ok (.agg #[.string S, .int .i64 n]) W := by kernel_rfl
theorem build_j68 (S : ByteArray) (n m : Int) (ao : Option Addr) (k c : Nat) (W : World) : (Instr.build 68 #[(0, .agg #[.string S, .int .i64 n]), (1, .slice ao k c), (2, .int .i64 m)]).run Tryd.prog W = .ok (.agg #[.string S, .int .i64 n, .slice ao k c, .int .i64 m]) W := by kernel_rfl
theorem sizeJ : (Tryd.prog.info? 68).map (·.size) = some 4 := by kernel_rfl

set_option maxRecDepth 10000 in
set_option maxHeartbeats 1000000 in
theorem refopen_any (s : ByteArray) (w : World) (hs : s.size ≤ 16777216) :
    Calls Tryd.prog 34 #[.string s] w fun e w' => ∃ k E v, Done s k E ∧ e = .returned (.agg #[.string (s.extract 0 (pos s k)), .int .i64 (pos s k : Int), v, .int .i64 (k : Int)]) ∧ RSl w' v (recs s k) ∧ (∀ i, blk v i → w.heap.size ≤ i) ∧ Turns nobody w w' := by
  have hall := fun W => refall_any s W hs
  have HALL := Lib.hid hall
  have HB6 := Lib.hid build_b66
  have HB8 := Lib.hid build_j68
  have HS := Lib.hid hs
  clear hall hs
  go_enter Tryd.func34, Tryd.ntmps34
  go_upto_region 1 with fail
  obtain ⟨D, hD⟩ : ∃ D, w.heap.size = D := ⟨_, rfl⟩
  obtain ⟨w0, hw0⟩ : ∃ w0, w0 = w.alloc (.cells #[.string ⟨#[]⟩, .int .i64 0, .slice none 0 0, .int .i64 0] 68) := ⟨_, rfl⟩
  have t0 : Turns nobody w w0 := by rw [hw0]; exact (Turns.refl _ _).alloc _
  have h0 : w0.heap[D]? = some (.cells #[.string ⟨#[]⟩, .int .i64 0, .slice none 0 0, .int .i64 0] 68 (0, 0)) := by rw [hw0, ← hD]; exact heap_alloc_new w _
  rw [← hw0, hD]
  have HT0 := Lib.hid t0
  have HH0 := Lib.hid h0
  clear hw0 t0 h0
  go_upto_region 2 with (go_at_call 23; refine (HALL.out _).mono ?_; rintro e w1 ⟨k, E, v, hd, rfl, hsl, hn, t1⟩; have HD := Lib.hid hd; have HSL := Lib.hid hsl; have HN := Lib.hid hn; have HT1 := Lib.hid t1; clear hd hsl hn t1)
  obtain ⟨P, hP⟩ : ∃ P, pos s k = P := ⟨_, rfl⟩
  have hpl : P ≤ s.size := by rw [← hP]; exact pos_le HD.out.1
  have hplI : (P : Int) ≤ (s.size : Int) := by omega
  have hPI : 0 ≤ (P : Int) := by omega
  rw [hP]
  have hrl := recs_len s k
  obtain ⟨ao, cap, rfl, -⟩ := Sl.shape HSL.out
  rw [hrl] at HSL HN ⊢
  have hk16 : k ≤ 16777216 := by have := Ok.bound HD.out.1; have := HS.out; omega
  have HH1 := Lib.hid (heap_newer HH0.out HT1.out (fun h => h))
  have HP := Lib.hid hP
  have HH := Lib.hid hD
  clear hrl hP hD hpl
  go_wp2_with first
    | (with_reducible refine wpList_exec (exec_build _ _ rfl #[(0, .string (s.extract 0 P)), (1, .int .i64 (P : Int))] (by kernel_rfl) (HB6.out _ _ _)) rfl ?_)
    | (with_reducible refine wpList_exec (exec_build _ _ rfl #[(0, .agg #[.string (s.extract 0 P), .int .i64 (P : Int)]), (1, .slice ao k cap), (2, .int .i64 (k : Int))] (by kernel_rfl) (HB8.out _ _ _ _ _ _ _)) rfl ?_)
    | ((with_reducible refine at_store ?_); refine wpList_putc rfl _ _ _ rfl [.string (s.extract 0 P), .int .i64 (P : Int), .slice ao k cap, .int .i64 (k : Int)] HH1.out rfl (by intro u hu; simp only [List.mem_cons, List.not_mem_nil, or_false] at hu; rcases hu with rfl | rfl | rfl | rfl <;> rfl) rfl rfl sizeJ ?_; intro w2 t2 h2 z2; have HT2 := Lib.hid t2; have HH2 := Lib.hid h2; clear t2 h2 z2)
  have htt : Turns nobody w w2 := (HT0.out.trans HT1.out (fun _ h => h.elim)).trans2 HT2.out (fun i hi => by have := HH.out; omega)
  refine bodyPost_ret (results_one rfl _ _ rfl (range_of HH2.out) Tryd.underlying68 rfl sizeJ) rfl ⟨k, E, _, HD.out, by rw [HP.out], ?_, ?_, htt⟩
  · exact Sl.keep (show RSl w1 (.slice ao k cap) (recs s k) from HSL.out) HT2.out (fun i hi e => by have := HN.out i hi; have := lt_of_block HH0.out; omega)
  · exact fun i hi => Nat.le_trans HT0.out.size (HN.out i hi)
theorem rcells_one (l : List RV) : ∀ u ∈ rcells l, u.oneCell' = true := by
  intro u hu
  obtain ⟨r, _, hr⟩ := List.mem_flatMap.1 hu
  simp only [List.mem_cons, List.not_mem_nil, or_false] at hr
  rcases hr with rfl | rfl <;> rfl
theorem sl_not {w : World} {e T : TypeId} {sz n : Nat} {v : Value} {xs : List Value} {X : Nat} {cur : Array Value} (h : Sl w e sz v n xs) (hX : w.heap[X]? = some (.cells cur T (0, 0))) (hT : T ≠ e) : ∀ i, blk v i → i ≠ X := fun i hi e => by
  subst e
  obtain ⟨c, hc⟩ := Sl.elem h i hi
  rw [hX] at hc
  simp at hc
  exact hT hc.2
set_option maxRecDepth 10000 in
set_option maxHeartbeats 1000000 in
theorem refappend_bad (X o : Nat) (K : Int) (b : ByteArray) (w : World) (hb : b.size ≤ 140737488351232) (he : putE K b ≠ 0) :
    Calls Tryd.prog 35 #[.pointer (some ⟨X, o, none⟩), recV K b] w fun e w' => e = .returned (.int .i64 (putE K b)) ∧ Turns nobody w w' := by
  obtain ⟨wa, hwa⟩ : ∃ wa, wa = w.alloc (.cells #[.int .i64 K, .string b] 23) := ⟨_, rfl⟩
  have ta : Turns nobody w wa := by rw [hwa]; exact (Turns.refl _ _).alloc _
  obtain ⟨H, hH⟩ : ∃ H, w.heap.size = H := ⟨_, rfl⟩
  have hca : wa.heap[H]? = some (.cells #[.int .i64 K, .string b] 23 (0, 0)) := by rw [hwa, ← hH]; exact heap_alloc_new w _
  have d0 := cells_of hca 0 _ rfl
  have d1 := cells_of hca 1 _ rfl
  have hput := refput_any K b wa hb
  have HTA := Lib.hid ta
  have HWA := Lib.hid hwa
  have hez : ((putE K b : Int) != 0) = true := by simpa using he
  unfold recV at hput ⊢
  generalize putE K b = E at *
  generalize putS K b = S at *
  clear ta hwa hca he
  go_enter Tryd.func35, Tryd.ntmps35
  go_upto_region 1 with fail
  rw [← HWA.out]
  go_wp2_with first
    | (go_at_call 18; refine hput.mono ?_; rintro e w1 ⟨rfl, t1⟩; have HT1 := Lib.hid (HTA.out.trans t1 (fun _ h => h.elim)); clear t1)
  go_ret
  exact ⟨rfl, HT1.out⟩

set_option maxRecDepth 10000 in
set_option maxHeartbeats 2000000 in
theorem refappend_ok (X : Nat) (T : TypeId) (o : Nat) (cur : Array Value) (S : ByteArray) (sb : Nat) (v : Value) (rl : List RV) (sn : Nat) (rk : Int) (rbd : ByteArray) (w : World) (h : RJ w X T o cur S sb v rl sn) (hT : T ≠ 23) (hS : S.size ≤ 16777216) (hrl : rl.length ≤ 16777216) (hb : rbd.size ≤ 140737488351232) (he : putE rk rbd = 0) :
    Calls Tryd.prog 35 #[.pointer (some ⟨X, o, none⟩), recV rk rbd] w fun e w' => e = .returned (.int .i64 0) ∧ ∃ cur' v', RJ w' X T o cur' (S ++ putS rk rbd) sb v' (rl ++ [(rk, rbd)]) sn ∧ Outs o cur cur' ∧ Turns (fun i => i = X) w w' := by
  obtain ⟨wa, hwa⟩ : ∃ wa, wa = w.alloc (.cells #[.int .i64 rk, .string rbd] 23) := ⟨_, rfl⟩
  have ta : Turns nobody w wa := by rw [hwa]; exact (Turns.refl _ _).alloc _
  obtain ⟨H, hH⟩ : ∃ H, w.heap.size = H := ⟨_, rfl⟩
  have hca : wa.heap[H]? = some (.cells #[.int .i64 rk, .string rbd] 23 (0, 0)) := by rw [hwa, ← hH]; exact heap_alloc_new w _
  have d0 := cells_of hca 0 _ rfl
  have d1 := cells_of hca 1 _ rfl
  have hput := refput_any rk rbd wa hb
  rw [he] at hput
  have hps : (putS rk rbd).size ≤ 2000000 := by
    have h1 := he
    unfold putE at h1
    split at h1
    · omega
    · split at h1
      · omega
      · unfold putS
        rw [if_pos he]
        show (putL rk.toNat rbd).toArray.size ≤ _
        rw [List.size_toArray, putL_len]
        omega
  have HTA := Lib.hid ta
  have HWA := Lib.hid hwa
  have HCA := Lib.hid hca
  have HJ := Lib.hid (h.still ta)
  have HXH : Hid (X ≠ H) := Lib.hid (by have := lt_of_block h.h; omega)
  have HT := Lib.hid hT
  unfold recV at hput ⊢
  generalize putS rk rbd = Z at *
  obtain ⟨i, hi, hz0, hz1, hz2⟩ := infoRec2
  clear ta hwa hca he h hT
  go_enter Tryd.func35, Tryd.ntmps35
  go_upto_region 1 with fail
  rw [← HWA.out]
  go_upto_region 4 with (go_at_call 18; refine hput.mono ?_; rintro e w0 ⟨rfl, t1⟩; have HT0 := Lib.hid (HTA.out.trans t1 (fun _ h => h.elim)); have HJ0 := Lib.hid (HJ.out.still t1); have HC0b := Lib.hid (heap_newer HCA.out t1 (fun h => h)); clear t1)
  clear d0 d1 hput
  have c0 := cells_of HJ0.out.h o _ HJ0.out.c0
  have f0 := free_of HJ0.out.h o
  obtain ⟨w1, hw1⟩ : ∃ w1, w1 = w0.setCell ⟨X, o, none⟩ (.string (S ++ Z)) := ⟨_, rfl⟩
  have t1 : Turns (fun i => i = X) w0 w1 := by rw [hw1]; exact Turns.set _ _ _ _
  obtain ⟨cu1, hcu1⟩ : ∃ cu1, cur.setIfInBounds o (.string (S ++ Z)) = cu1 := ⟨_, rfl⟩
  have h1 : w1.heap[X]? = some (.cells cu1 T (0, 0)) := by rw [hw1, ← hcu1]; exact heap_setCell_at HJ0.out.h o _
  have HC0 : Hid (cu1[o]? = some (.string (S ++ Z))) := Lib.hid (by rw [← hcu1]; exact get_set HJ0.out.c0)
  have HC1 : Hid (cu1[o + 1]? = some (.int .i64 (sb : Int))) := Lib.hid (by rw [← hcu1]; exact get_other HJ0.out.c1 (by omega))
  have HC2 : Hid (cu1[o + 2]? = some v) := Lib.hid (by rw [← hcu1]; exact get_other HJ0.out.c2 (by omega))
  have HC3 : Hid (cu1[o + 3]? = some (.int .i64 (sn : Int))) := Lib.hid (by rw [← hcu1]; exact get_other HJ0.out.c3 (by omega))
  have HOU : Hid (Outs o cur cu1) := Lib.hid (by rw [← hcu1]; exact (Outs.refl o cur).set 0 (by omega) _)
  have hs1 : RSl w1 v rl := Sl.keep HJ0.out.s t1 (sl_not HJ0.out.s HJ0.out.h HT.out)
  obtain ⟨ao, cap, rfl, -⟩ := Sl.shape hs1
  have hx : w1.drew.heap[H]? = some (.cells #[.int .i64 rk, .string rbd] 23 (0, 0)) := heap_newer HC0b.out t1.drew (fun (e : H = X) => HXH.out e.symm)
  have HTT := Lib.hid ((HT0.out.mono (G := fun i => i = X) (fun _ h => h.elim)).trans t1 (fun _ h => Or.inl h))
  have HPL : Hid (X < w1.heap.size) := Lib.hid (lt_of_block h1)
  have HX0 : Hid (H < w1.heap.size) := Lib.hid (lt_of_block (w := w1) hx)
  have HB : Hid (∀ i, blk (.slice ao rl.length cap) i → i < w1.heap.size) := Lib.hid (Sl.lt hs1)
  have hr : RP w1 X cu1 T (.slice ao rl.length cap) 2 rl.length (rcells rl) w1.drew := ⟨h1, (Sl.src hs1 (rcells_one rl)).drew, (Turns.refl _ _).drew⟩
  have HW1 := Lib.hid hw1
  clear t1 hcu1 h1 hs1 hw1
  go_upto_region 5 with fail
  rw [← HW1.out]
  clear c0 f0 hps
  refine wp_region_fork [0, 2, 3, 4, 5, 7, 10, 11] [0, 2, 3, 4, 5, 7, 10, 11, 1, 8, 6, 9] (Plan.ofList [0, 2, 3, 4, 5, 7] (.fork 1 (.fork 6 (Plan.ofList [8, 9, 10, 11, 12] .done) 8 (Plan.ofList [6, 9, 10, 11, 12] .done)) 8 (Plan.ofList [1, 6, 9, 10, 11, 12] .done))) (fun W => RP w1 X cu1 T (.slice ao rl.length cap) 2 rl.length (rcells rl) W ∧ W.heap[H]? = some (.cells #[.int .i64 rk, .string rbd] 23 (0, 0))) (by kernel_rfl) (by kernel_rfl) (⟨hr, hx⟩) ?_
  obtain ⟨W0, hW0⟩ : ∃ W0, W0 = w1.drew := ⟨_, rfl⟩
  rw [← hW0] at hr hx ⊢
  clear hW0
  simp -failIfUnchanged only [Plan.pick, Plan.ofList, isIn, List.contains_cons, List.contains_nil, Nat.reduceBEq, Bool.or_false, Bool.false_or, Bool.or_true, Bool.true_or, cond_true, cond_false, Array.getD_eq_getD_getElem?, List.getElem?_toArray, List.getElem?_cons_zero, List.getElem?_cons_succ, Option.getD_some]
  repeat (refine plan_free (v := ?_) rfl ?_ ?_; rotate_left; (focus (intro w' hI; have d0 := cells_of hI.1.hp (o + 2) _ HC2.out; have e0 := cells_of hI.2 0 _ rfl; have e1 := cells_of hI.2 1 _ rfl; clear hI; go_simp; try with_reducible rfl)); simp only [Act.put, List.setIfInBounds_toArray, List.set_cons_zero, List.set_cons_succ])
  refine plan_fork ?_ ?_
  ·
    refine bigC_mk rfl (fun K hK => ?_)
    go_wp2
    obtain ⟨_, hg1, hle1, ht⟩ := hr.alloc (.cells #[] 23)
    try simp only [World.size_alloc] at hg1 hle1
    have HL1 := Lib.hid hle1
    clear hle1
    try replace HE1 := Lib.hid (HE1.out.keep ht (fun _ _ h => h))
    try replace HG8 := Lib.hid (HG8.out.keep ht (fun _ _ h => h))
    try replace H6 := Lib.hid (H6.out.keep ht (fun _ _ h => h))
    replace hr := hr.turns ht
    replace hx := heap_newer hx ht (fun h => h)
    have HE1 := Lib.hid (Sl.empty (sz := 2) hg1 (Nat.zero_le _))
    refine hK _ _ (fun _ => ⟨hr, hx⟩) ?_
    clear hK K hg1 ht
    refine plan_fork ?_ ?_
    ·
      refine bigC_mk rfl (fun K hK => ?_)
      go_wp2_with (at_builtin; refine wpList_append_sl rfl _ _ 41 rfl Tryd.underlying41 hi hz0 hz1 hz2 rfl (by decide) rfl rfl HE1.out hr.src (by unfold maxLen; omega) (by omega) ?_)
      intro v6 w6 h6 _ hn6 hc6
      try simp only [Nat.zero_add, List.nil_append] at h6
      have ht := (hc6 _ rfl).1
      have HF6 : Hid (∀ k, blk v6 k → w1.heap.size ≤ k) := Lib.hid (fun k hk => by
        have hh := HL1.out
        have hh2 := hr.turned.size
        rcases hn6 k hk with h | h
        · simp only [blk, Value.ownBlock, Option.some.injEq] at h; omega
        · omega)
      try replace HE1 := Lib.hid (HE1.out.keep ht (fun _ _ h => h))
      try replace HG8 := Lib.hid (HG8.out.keep ht (fun _ _ h => h))
      try replace H6 := Lib.hid (H6.out.keep ht (fun _ _ h => h))
      replace hr := hr.turns ht
      replace hx := heap_newer hx ht (fun h => h)
      have H6 := Lib.hid h6
      refine hK _ _ (fun _ => ⟨hr, hx⟩) ?_
      clear hK K ht h6 hn6 hc6
      refine plan_big ?_
      refine bigC_mk rfl (fun K hK => ?_)
      go_wp2
      obtain ⟨_, hg8, _, ht⟩ := hr.alloc (.cells #[.int .i64 rk, .string rbd] 23)
      try simp only [World.size_alloc] at hg8
      try replace HE1 := Lib.hid (HE1.out.keep ht (fun _ _ h => h))
      try replace HG8 := Lib.hid (HG8.out.keep ht (fun _ _ h => h))
      try replace H6 := Lib.hid (H6.out.keep ht (fun _ _ h => h))
      replace hr := hr.turns ht
      replace hx := heap_newer hx ht (fun h => h)
      have HG8 := Lib.hid (src_rec (r := (rk, rbd)) hg8)
      refine hK _ _ (fun _ => ⟨hr, hx⟩) ?_
      clear hK K hg8 ht
      refine plan_big (bigC_mk rfl (fun K hK => ?_))
      go_wp2_with (at_builtin; refine wpList_append_sl rfl _ _ 41 rfl Tryd.underlying41 hi hz0 hz1 hz2 rfl (by decide) rfl rfl H6.out HG8.out (by unfold maxLen; omega) (by omega) ?_)
      intro v9 w9 h9 ht9 hn9 _
      obtain ⟨ao9, cap9, rfl, -⟩ := h9.shape
      have hle := hr.turned.size
      replace hr := hr.newer ht9 HF6.out HPL.out HB.out
      replace hx := heap_newer hx ht9 (fun h => by have := HF6.out _ h; have := HX0.out; omega)
      have d0 := cells_of hr.hp (o + 2) _ HC2.out
      have df := free_of hr.hp (o + 2)
      obtain ⟨wz, hwz⟩ : ∃ wz, wz = w9.setCell ⟨X, o + 2, none⟩ (.slice ao9 (rl.length + 1) cap9) := ⟨_, rfl⟩
      have hz : wz.heap[X]? = some (.cells (cu1.setIfInBounds (o + 2) (.slice ao9 (rl.length + 1) cap9)) T (0, 0)) := by rw [hwz]; exact heap_setCell_at hr.hp (o + 2) _
      have tz : Turns (fun i => i = X) w9 wz := by rw [hwz]; exact Turns.set _ _ _ _
      have hnz : ∀ k, blk (.slice ao9 (rl.length + 1) cap9) k → k ≠ X := fun k hk e => by
        subst e
        rcases hn9 _ hk with h | h
        · have := HF6.out _ h; have := HPL.out; omega
        · have := HPL.out; omega
      have HRS : Hid (RSl wz (.slice ao9 (rl.length + 1) cap9) (rl ++ [(rk, rbd)])) := Lib.hid (by
        unfold RSl
        rw [List.length_append, List.length_singleton, rcells_append]
        exact Sl.keep h9 tz (fun k hk e => hnz k hk e))
      have HTZ := Lib.hid ((hr.turned.mono (G := fun i => i = X) (fun _ h => h.elim)).trans tz (fun _ h => Or.inl h))
      have HWZ := Lib.hid hwz
      have HZ := Lib.hid hz
      refine hK _ _ (fun _ => ⟨hr, hx⟩) ?_
      clear hK K hr hx h9 ht9 hn9 hwz hz tz hnz
      repeat (refine plan_free (v := ?_) rfl ?_ ?_; rotate_left; (focus (intro w' hI; go_simp; try with_reducible rfl)); simp only [Act.put, List.setIfInBounds_toArray, List.set_cons_zero, List.set_cons_succ])
      refine plan_big (bigC_mk rfl (fun K hK => ?_))
      go_wp2
      rw [← HWZ.out]
      refine hK _ _ (fun h => by cases h) ?_
      clear hK K
      refine plan_done ?_
      go_wp2
      go_ret
      exact ⟨rfl, cu1.setIfInBounds (o + 2) (.slice ao9 (rl.length + 1) cap9), _, ⟨HZ.out, get_other HC0.out (by omega), get_other HC1.out (by omega), get_set HC2.out, get_other HC3.out (by omega), HRS.out⟩, HOU.out.set 2 (by omega) _, HTT.out.trans HTZ.out (fun _ h => Or.inl h)⟩
    ·
      refine bigC_mk rfl (fun K hK => ?_)
      go_wp2
      obtain ⟨_, hg8, _, ht⟩ := hr.alloc (.cells #[.int .i64 rk, .string rbd] 23)
      try simp only [World.size_alloc] at hg8
      try replace HE1 := Lib.hid (HE1.out.keep ht (fun _ _ h => h))
      try replace HG8 := Lib.hid (HG8.out.keep ht (fun _ _ h => h))
      try replace H6 := Lib.hid (H6.out.keep ht (fun _ _ h => h))
      replace hr := hr.turns ht
      replace hx := heap_newer hx ht (fun h => h)
      have HG8 := Lib.hid (src_rec (r := (rk, rbd)) hg8)
      refine hK _ _ (fun _ => ⟨hr, hx⟩) ?_
      clear hK K hg8 ht
      refine plan_big ?_
      refine bigC_mk rfl (fun K hK => ?_)
      go_wp2_with (at_builtin; refine wpList_append_sl rfl _ _ 41 rfl Tryd.underlying41 hi hz0 hz1 hz2 rfl (by decide) rfl rfl HE1.out hr.src (by unfold maxLen; omega) (by omega) ?_)
      intro v6 w6 h6 _ hn6 hc6
      try simp only [Nat.zero_add, List.nil_append] at h6
      have ht := (hc6 _ rfl).1
      have HF6 : Hid (∀ k, blk v6 k → w1.heap.size ≤ k) := Lib.hid (fun k hk => by
        have hh := HL1.out
        have hh2 := hr.turned.size
        rcases hn6 k hk with h | h
        · simp only [blk, Value.ownBlock, Option.some.injEq] at h; omega
        · omega)
      try replace HE1 := Lib.hid (HE1.out.keep ht (fun _ _ h => h))
      try replace HG8 := Lib.hid (HG8.out.keep ht (fun _ _ h => h))
      try replace H6 := Lib.hid (H6.out.keep ht (fun _ _ h => h))
      replace hr := hr.turns ht
      replace hx := heap_newer hx ht (fun h => h)
      have H6 := Lib.hid h6
      refine hK _ _ (fun _ => ⟨hr, hx⟩) ?_
      clear hK K ht h6 hn6 hc6
      refine plan_big (bigC_mk rfl (fun K hK => ?_))
      go_wp2_with (at_builtin; refine wpList_append_sl rfl _ _ 41 rfl Tryd.underlying41 hi hz0 hz1 hz2 rfl (by decide) rfl rfl H6.out HG8.out (by unfold maxLen; omega) (by omega) ?_)
      intro v9 w9 h9 ht9 hn9 _
      obtain ⟨ao9, cap9, rfl, -⟩ := h9.shape
      have hle := hr.turned.size
      replace hr := hr.newer ht9 HF6.out HPL.out HB.out
      replace hx := heap_newer hx ht9 (fun h => by have := HF6.out _ h; have := HX0.out; omega)
      have d0 := cells_of hr.hp (o + 2) _ HC2.out
      have df := free_of hr.hp (o + 2)
      obtain ⟨wz, hwz⟩ : ∃ wz, wz = w9.setCell ⟨X, o + 2, none⟩ (.slice ao9 (rl.length + 1) cap9) := ⟨_, rfl⟩
      have hz : wz.heap[X]? = some (.cells (cu1.setIfInBounds (o + 2) (.slice ao9 (rl.length + 1) cap9)) T (0, 0)) := by rw [hwz]; exact heap_setCell_at hr.hp (o + 2) _
      have tz : Turns (fun i => i = X) w9 wz := by rw [hwz]; exact Turns.set _ _ _ _
      have hnz : ∀ k, blk (.slice ao9 (rl.length + 1) cap9) k → k ≠ X := fun k hk e => by
        subst e
        rcases hn9 _ hk with h | h
        · have := HF6.out _ h; have := HPL.out; omega
        · have := HPL.out; omega
      have HRS : Hid (RSl wz (.slice ao9 (rl.length + 1) cap9) (rl ++ [(rk, rbd)])) := Lib.hid (by
        unfold RSl
        rw [List.length_append, List.length_singleton, rcells_append]
        exact Sl.keep h9 tz (fun k hk e => hnz k hk e))
      have HTZ := Lib.hid ((hr.turned.mono (G := fun i => i = X) (fun _ h => h.elim)).trans tz (fun _ h => Or.inl h))
      have HWZ := Lib.hid hwz
      have HZ := Lib.hid hz
      refine hK _ _ (fun _ => ⟨hr, hx⟩) ?_
      clear hK K hr hx h9 ht9 hn9 hwz hz tz hnz
      repeat (refine plan_free (v := ?_) rfl ?_ ?_; rotate_left; (focus (intro w' hI; go_simp; try with_reducible rfl)); simp only [Act.put, List.setIfInBounds_toArray, List.set_cons_zero, List.set_cons_succ])
      refine plan_big (bigC_mk rfl (fun K hK => ?_))
      go_wp2
      rw [← HWZ.out]
      refine hK _ _ (fun h => by cases h) ?_
      clear hK K
      refine plan_done ?_
      go_wp2
      go_ret
      exact ⟨rfl, cu1.setIfInBounds (o + 2) (.slice ao9 (rl.length + 1) cap9), _, ⟨HZ.out, get_other HC0.out (by omega), get_other HC1.out (by omega), get_set HC2.out, get_other HC3.out (by omega), HRS.out⟩, HOU.out.set 2 (by omega) _, HTT.out.trans HTZ.out (fun _ h => Or.inl h)⟩
  ·
    refine bigC_mk rfl (fun K hK => ?_)
    go_wp2
    obtain ⟨_, hg8, _, ht⟩ := hr.alloc (.cells #[.int .i64 rk, .string rbd] 23)
    try simp only [World.size_alloc] at hg8
    try replace HE1 := Lib.hid (HE1.out.keep ht (fun _ _ h => h))
    try replace HG8 := Lib.hid (HG8.out.keep ht (fun _ _ h => h))
    try replace H6 := Lib.hid (H6.out.keep ht (fun _ _ h => h))
    replace hr := hr.turns ht
    replace hx := heap_newer hx ht (fun h => h)
    have HG8 := Lib.hid (src_rec (r := (rk, rbd)) hg8)
    refine hK _ _ (fun _ => ⟨hr, hx⟩) ?_
    clear hK K hg8 ht
    refine plan_big ?_
    refine bigC_mk rfl (fun K hK => ?_)
    go_wp2
    obtain ⟨_, hg1, hle1, ht⟩ := hr.alloc (.cells #[] 23)
    try simp only [World.size_alloc] at hg1 hle1
    have HL1 := Lib.hid hle1
    clear hle1
    try replace HE1 := Lib.hid (HE1.out.keep ht (fun _ _ h => h))
    try replace HG8 := Lib.hid (HG8.out.keep ht (fun _ _ h => h))
    try replace H6 := Lib.hid (H6.out.keep ht (fun _ _ h => h))
    replace hr := hr.turns ht
    replace hx := heap_newer hx ht (fun h => h)
    have HE1 := Lib.hid (Sl.empty (sz := 2) hg1 (Nat.zero_le _))
    refine hK _ _ (fun _ => ⟨hr, hx⟩) ?_
    clear hK K hg1 ht
    refine plan_big ?_
    refine bigC_mk rfl (fun K hK => ?_)
    go_wp2_with (at_builtin; refine wpList_append_sl rfl _ _ 41 rfl Tryd.underlying41 hi hz0 hz1 hz2 rfl (by decide) rfl rfl HE1.out hr.src (by unfold maxLen; omega) (by omega) ?_)
    intro v6 w6 h6 _ hn6 hc6
    try simp only [Nat.zero_add, List.nil_append] at h6
    have ht := (hc6 _ rfl).1
    have HF6 : Hid (∀ k, blk v6 k → w1.heap.size ≤ k) := Lib.hid (fun k hk => by
      have hh := HL1.out
      have hh2 := hr.turned.size
      rcases hn6 k hk with h | h
      · simp only [blk, Value.ownBlock, Option.some.injEq] at h; omega
      · omega)
    try replace HE1 := Lib.hid (HE1.out.keep ht (fun _ _ h => h))
    try replace HG8 := Lib.hid (HG8.out.keep ht (fun _ _ h => h))
    try replace H6 := Lib.hid (H6.out.keep ht (fun _ _ h => h))
    replace hr := hr.turns ht
    replace hx := heap_newer hx ht (fun h => h)
    have H6 := Lib.hid h6
    refine hK _ _ (fun _ => ⟨hr, hx⟩) ?_
    clear hK K ht h6 hn6 hc6
    refine plan_big (bigC_mk rfl (fun K hK => ?_))
    go_wp2_with (at_builtin; refine wpList_append_sl rfl _ _ 41 rfl Tryd.underlying41 hi hz0 hz1 hz2 rfl (by decide) rfl rfl H6.out HG8.out (by unfold maxLen; omega) (by omega) ?_)
    intro v9 w9 h9 ht9 hn9 _
    obtain ⟨ao9, cap9, rfl, -⟩ := h9.shape
    have hle := hr.turned.size
    replace hr := hr.newer ht9 HF6.out HPL.out HB.out
    replace hx := heap_newer hx ht9 (fun h => by have := HF6.out _ h; have := HX0.out; omega)
    have d0 := cells_of hr.hp (o + 2) _ HC2.out
    have df := free_of hr.hp (o + 2)
    obtain ⟨wz, hwz⟩ : ∃ wz, wz = w9.setCell ⟨X, o + 2, none⟩ (.slice ao9 (rl.length + 1) cap9) := ⟨_, rfl⟩
    have hz : wz.heap[X]? = some (.cells (cu1.setIfInBounds (o + 2) (.slice ao9 (rl.length + 1) cap9)) T (0, 0)) := by rw [hwz]; exact heap_setCell_at hr.hp (o + 2) _
    have tz : Turns (fun i => i = X) w9 wz := by rw [hwz]; exact Turns.set _ _ _ _
    have hnz : ∀ k, blk (.slice ao9 (rl.length + 1) cap9) k → k ≠ X := fun k hk e => by
      subst e
      rcases hn9 _ hk with h | h
      · have := HF6.out _ h; have := HPL.out; omega
      · have := HPL.out; omega
    have HRS : Hid (RSl wz (.slice ao9 (rl.length + 1) cap9) (rl ++ [(rk, rbd)])) := Lib.hid (by
      unfold RSl
      rw [List.length_append, List.length_singleton, rcells_append]
      exact Sl.keep h9 tz (fun k hk e => hnz k hk e))
    have HTZ := Lib.hid ((hr.turned.mono (G := fun i => i = X) (fun _ h => h.elim)).trans tz (fun _ h => Or.inl h))
    have HWZ := Lib.hid hwz
    have HZ := Lib.hid hz
    refine hK _ _ (fun _ => ⟨hr, hx⟩) ?_
    clear hK K hr hx h9 ht9 hn9 hwz hz tz hnz
    repeat (refine plan_free (v := ?_) rfl ?_ ?_; rotate_left; (focus (intro w' hI; go_simp; try with_reducible rfl)); simp only [Act.put, List.setIfInBounds_toArray, List.set_cons_zero, List.set_cons_succ])
    refine plan_big (bigC_mk rfl (fun K hK => ?_))
    go_wp2
    rw [← HWZ.out]
    refine hK _ _ (fun h => by cases h) ?_
    clear hK K
    refine plan_done ?_
    go_wp2
    go_ret
    exact ⟨rfl, cu1.setIfInBounds (o + 2) (.slice ao9 (rl.length + 1) cap9), _, ⟨HZ.out, get_other HC0.out (by omega), get_other HC1.out (by omega), get_set HC2.out, get_other HC3.out (by omega), HRS.out⟩, HOU.out.set 2 (by omega) _, HTT.out.trans HTZ.out (fun _ h => Or.inl h)⟩

end Go.Proofs.YtlhcmgjkhkcgcaaDoor.journal
