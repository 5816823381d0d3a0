/- JournalPlays. -/
import Derived.Test.YtlhcmgjkhkcgcaaDoorRefJ2
import Derived.Test.YtlhcmgjkhkcgcaaDoorJournalZero
namespace Go.Proofs.YtlhcmgjkhkcgcaaDoor.journal
open Go.RowKit
open Go.Proofs.YtlhcmgjkhkcgcaaDoor.stepkit Go.Proofs.YtlhcmgjkhkcgcaaDoor.obj Go.Proofs.YtlhcmgjkhkcgcaaDoor.row Go.Proofs.YtlhcmgjkhkcgcaaDoor.mix Go.Proofs.YtlhcmgjkhkcgcaaDoor.idkit Go.Proofs.YtlhcmgjkhkcgcaaDoor.bytes Go.Proofs.YtlhcmgjkhkcgcaaDoor.octet Go.Proofs.YtlhcmgjkhkcgcaaDoor.eqkit Go.Proofs.YtlhcmgjkhkcgcaaDoor.record Go.Proofs.YtlhcmgjkhkcgcaaDoor.argkit
open Go.Proofs.YtlhcmgjkhkcgcaaDoor.block (BlockAt keepOf keepOf_le keepOf_ge txt txt_take)

def actKinds : List TypeDesc := [.int .i64, .int .i64, .string, .int .i64]
theorem act_row {r : List Value} (h : Fits actKinds r) : ∃ (k rk : Int) (rb : ByteArray) (n : Int), r = [.int .i64 k, .int .i64 rk, .string rb, .int .i64 n] ∧ (Lit.int .i64 n).wf = true ∧ rb.size ≤ maxLen := by
  obtain ⟨_, r1, rfl, ⟨k, rfl, hk⟩, h1⟩ := h.cons
  obtain ⟨_, r2, rfl, ⟨rk, rfl, hrk⟩, h2⟩ := h1.cons
  obtain ⟨_, r3, rfl, ⟨rb, rfl, hrb⟩, h3⟩ := h2.cons
  obtain ⟨_, r4, rfl, ⟨n, rfl, hn⟩, h4⟩ := h3.cons
  obtain rfl := h4.nil
  exact ⟨k, rk, rb, n, rfl, hn, hrb⟩

/-- The program's journal and the document's. -/
structure JD (w0 : World) (q p X : Nat) (cur : Array Value) (l : List UInt8) (sb n sn : Nat) (S : ByteArray) (sb2 : Nat) (v : Value) (rl : List RV) (sn2 : Nat) (W : World) : Prop where
  j : JAt W p q l sb n sn
  r : RJ W X 68 0 cur S sb2 v rl sn2
  tt : Turns nobody w0 W
  nq : w0.heap.size ≤ q
  np : w0.heap.size ≤ p
  nx : w0.heap.size ≤ X
theorem JD.px {w0 : World} {q p X : Nat} {cur : Array Value} {l : List UInt8} {sb n sn : Nat} {S : ByteArray} {sb2 : Nat} {v : Value} {rl : List RV} {sn2 : Nat} {W : World} (h : JD w0 q p X cur l sb n sn S sb2 v rl sn2 W) : p ≠ X ∧ q ≠ X := by
  constructor
  · rintro rfl
    have h1 := h.j.h
    rw [h.r.h] at h1
    simp at h1
  · rintro rfl
    obtain ⟨_, _, h1, _⟩ := h.j.b
    rw [h.r.h] at h1
    simp at h1
theorem JD.left {w0 : World} {q p X : Nat} {cur : Array Value} {l : List UInt8} {sb n sn : Nat} {S : ByteArray} {sb2 : Nat} {v : Value} {rl : List RV} {sn2 : Nat} {W W' : World} (h : JD w0 q p X cur l sb n sn S sb2 v rl sn2 W) {l' : List UInt8} {sb' n' sn' : Nat} (hj : JAt W' p q l' sb' n' sn') (ht : Turns (two p q) W W') : JD w0 q p X cur l' sb' n' sn' S sb2 v rl sn2 W' := by
  obtain ⟨h1, h2⟩ := h.px
  obtain ⟨_, u, hq, _⟩ := h.j.b
  refine ⟨hj, h.r.keep ht (fun e => by rcases e with e | e; exact h1 e.symm; exact h2 e.symm) (fun i hi e => ?_), h.tt.trans2 ht (fun i hi => by rcases hi with e | e; rw [e]; exact h.np; rw [e]; exact h.nq), h.nq, h.np, h.nx⟩
  rcases e with e | e
  · exact sl_not h.r.s h.j.h (by decide) i hi e
  · exact sl_not h.r.s hq (by decide) i hi e
theorem JD.right {w0 : World} {q p X : Nat} {cur : Array Value} {l : List UInt8} {sb n sn : Nat} {S : ByteArray} {sb2 : Nat} {v : Value} {rl : List RV} {sn2 : Nat} {W W' : World} (h : JD w0 q p X cur l sb n sn S sb2 v rl sn2 W) {cur' : Array Value} {S' : ByteArray} {sb' : Nat} {v' : Value} {rl' : List RV} {sn' : Nat} (hr : RJ W' X 68 0 cur' S' sb' v' rl' sn') (ht : Turns (fun i => i = X) W W') : JD w0 q p X cur' l sb n sn S' sb' v' rl' sn' W' := by
  obtain ⟨h1, h2⟩ := h.px
  exact ⟨h.j.keep ht h1 h2 (fun i hi c hc => by subst hi; rw [h.r.h] at hc; simp at hc), hr, h.tt.trans2 ht (fun i hi => by rw [hi]; exact h.nx), h.nq, h.np, h.nx⟩
theorem JD.still {w0 : World} {q p X : Nat} {cur : Array Value} {l : List UInt8} {sb n sn : Nat} {S : ByteArray} {sb2 : Nat} {v : Value} {rl : List RV} {sn2 : Nat} {W W' : World} (h : JD w0 q p X cur l sb n sn S sb2 v rl sn2 W) (ht : Turns nobody W W') : JD w0 q p X cur l sb n sn S sb2 v rl sn2 W' :=
  ⟨h.j.still ht, h.r.still ht, h.tt.trans ht (fun _ h => h.elim), h.nq, h.np, h.nx⟩
/-- They stand alike. -/
structure JE (w0 : World) (q p X : Nat) (i : Nat) (W : World) (cur : Array Value) (l : List UInt8) (sb n sn : Nat) (S : ByteArray) (v : Value) (rl : List RV) : Prop where
  d : JD w0 q p X cur l sb n sn S sb v rl sn W
  hn : rl.length = n
  hS : ⟨l.toArray⟩ = S
  bl : l.length ≤ 2000 + 400 * i
  bn : n ≤ 2000 + 400 * i
  bs : sn ≤ 2000 + 400 * i
theorem size_of {l : List UInt8} {S : ByteArray} (h : ⟨l.toArray⟩ = S) : S.size = l.length := by rw [← h]; show l.toArray.size = _; simp

set_option maxRecDepth 20000 in
set_option maxHeartbeats 8000000 in
theorem plays_any (s : ByteArray) (ao : Option Addr) (rows : List (List Value)) (cap : Nat) (w : World) (hcap : rows.length ≤ maxLen) (hrow : RowsAt w w.heap.size 4 ao rows) (hfit : ∀ r ∈ rows, Fits actKinds r) (ht : crc.TabAt w) :
    Calls Tryd.prog 9 #[.string s, .slice ao rows.length cap] w fun e w' => e = .returned (.bool true) ∧ Turns nobody w w' := by
  unfold maxLen at hcap
  rcases Nat.lt_or_ge 2000 s.size with hbig | hsm
  · have hb : (2000 : Int) < (s.size : Int) := by omega
    have ha := awake_any w ht
    clear hrow hfit ht hbig
    go_enter Tryd.func9, Tryd.ntmps9
    go_wp2_with (go_at_call 32; refine ha.mono ?_; rintro e w1 ⟨rfl, t1⟩)
    go_ret
    exact ⟨rfl, t1⟩
  · have hb : ¬ (2000 : Int) < (s.size : Int) := by omega
    obtain ⟨q, hq⟩ : ∃ q, w.heap.size = q := ⟨_, rfl⟩
    have HROW := Lib.hid hrow
    have HFIT := Lib.hid hfit
    have HTB := Lib.hid ht
    have HSM := Lib.hid hsm
    have hro := fun W => refopen_any s W (by omega)
    have HRO := Lib.hid hro
    have HQ := Lib.hid hq
    clear hrow hfit ht hsm hro
    go_enter Tryd.func9, Tryd.ntmps9
    go_upto_region 4 with (go_at_call 27; refine (block.new_any _).mono ?_; rintro e w1 ⟨rfl, hw1⟩; have hbk := (block.new_at hw1).1; rw [hq] at hbk ⊢; have HB1 := Lib.hid hbk; have HT1 : Hid (Turns nobody w w1) := Lib.hid (by rw [hw1]; exact (Turns.refl _ _).alloc _); clear hw1 hbk)
    go_upto_region 5 with (go_at_call 33; refine (block.write_any q [] 0 s _ HB1.out (by have := HSM.out; simp; omega)).mono ?_; rintro e w2 ⟨rfl, b2, g2⟩; rw [List.nil_append] at b2; have HB2 := Lib.hid b2; have HT2 := Lib.hid (HT1.out.trans2 (turns_one g2) (fun i hi => by have := HQ.out; omega)); clear b2 g2)
    have hsl : (⟨s.data.toList.toArray⟩ : ByteArray) = s := by simp
    have hop := open_any q s.data.toList 0 w2 HB2.out (by rw [str_len]; have := HSM.out; omega) (Tab.turns HTB.out HT2.out (fun h => h))
    rw [hsl] at hop
    clear hsl
    go_upto_region 6 with (go_at_call 26; refine hop.mono ?_; rintro e w3 ⟨k, E, v, p, hD, rfl, hj, hsl, hP, hn, t3⟩; have HD := Lib.hid hD; have HJ := Lib.hid hj; have HSL := Lib.hid hsl; have HP := Lib.hid (Nat.le_trans HT2.out.size hP); have HT3 := Lib.hid (HT2.out.trans2 t3 (fun i hi => by have := HQ.out; omega)); clear hD hj hsl hP hn t3)
    clear hop
    go_upto_region 7 with (go_at_call 34; refine (HRO.out _).mono ?_; rintro e w4 ⟨k', E', v', hD, rfl, hsl, hn, t4⟩; obtain ⟨rfl, rfl⟩ := HD.out.uniq hD; obtain ⟨vo, vc, rfl, -⟩ := Sl.shape hsl; simp only [recs_len] at hsl ⊢; have HSL2 := Lib.hid hsl; have HT4 := Lib.hid t4; clear hD hsl hn t4)
    obtain ⟨X, hX⟩ : ∃ X, w4.heap.size = X := ⟨_, rfl⟩
    obtain ⟨P, hPP⟩ : ∃ P, pos s k = P := ⟨_, rfl⟩
    obtain ⟨S0, hS0⟩ : ∃ S0, s.extract 0 P = S0 := ⟨_, rfl⟩
    rw [hPP, hS0, hX]
    obtain ⟨w5, hw5⟩ : ∃ w5, w5 = w4.alloc (.cells #[.string S0, .int .i64 (P : Int), .slice vo k vc, .int .i64 (k : Int)] 68) := ⟨_, rfl⟩
    have t5 : Turns nobody w4 w5 := by rw [hw5]; exact (Turns.refl _ _).alloc _
    have h5 : w5.heap[X]? = some (.cells #[.string S0, .int .i64 (P : Int), .slice vo k vc, .int .i64 (k : Int)] 68 (0, 0)) := by rw [hw5, ← hX]; exact heap_alloc_new w4 _
    rw [← hw5]
    have hpl : P ≤ s.size := by rw [← hPP]; exact pos_le HD.out.1
    have hkl : k ≤ s.size := Ok.bound HD.out.1
    have hrl := recs_len s k
    have hJE : JE w q p X 0 w5 #[.string S0, .int .i64 (P : Int), .slice vo k vc, .int .i64 (k : Int)] (s.data.toList.take P) P k k S0 (.slice vo k vc) (recs s k) := by
      have hj := HJ.out
      rw [hPP] at hj
      refine ⟨⟨(hj.still HT4.out).still t5, ⟨h5, rfl, rfl, rfl, rfl, Sl.keep HSL2.out t5 (fun _ _ h => h)⟩, (HT3.out.trans HT4.out (fun _ h => h.elim)).trans t5 (fun _ h => h.elim), by have := HQ.out; omega, HP.out, ?_⟩, hrl, ?_, ?_, ?_, ?_⟩
      · have := (HT3.out.trans HT4.out (fun _ h => h.elim)).size; omega
      · rw [← hS0]; exact (txt_take (b := s) (l := s.data.toList) rfl P (by rw [str_len]; exact hpl)).symm
      · rw [List.length_take]; have := HSM.out; omega
      · have := HSM.out; omega
      · have := HSM.out; omega
    have hsm1 := same_any v (.slice vo k vc) (recs s k) w5 (Sl.keep (Sl.keep HSL.out HT4.out (fun _ _ h => h)) t5 (fun _ _ h => h)) hJE.d.r.s (by rw [hrl]; have := HSM.out; omega)
    have d2 := cells_of h5 2 _ rfl
    have HJE := Lib.hid hJE
    generalize recs s k = rl0 at *
    clear hw5 t5 h5 hpl hkl hrl hJE hX hPP hS0
    go_upto_region 10 with (go_at_call 24; refine hsm1.mono ?_; rintro e w6 ⟨rfl, t6⟩; have HT6 : Hid (Turns nobody w5 w6) := Lib.hid (Turns.drawn t6); clear t6)
    have HJ6 : Hid (JE w q p X 0 w6 #[.string S0, .int .i64 (P : Int), .slice vo k vc, .int .i64 (k : Int)] (s.data.toList.take P) P k k S0 (.slice vo k vc) rl0) := Lib.hid ⟨HJE.out.d.still HT6.out, HJE.out.hn, HJE.out.hS, HJE.out.bl, HJE.out.bn, HJE.out.bs⟩
    clear hsm1 d2
    go_loopw [9] (fun i wr => ∃ j : Nat, j ≤ rows.length ∧ j ≤ 40 ∧ i = .int .i64 j ∧ ∃ cur l sb n sn S v rl, JE w q p X j wr cur l sb n sn S v rl) (fun i _ => 40 - (intOf i).toNat)
    case atStart => exact ⟨0, Nat.zero_le _, Nat.zero_le _, rfl, _, _, _, _, _, _, _, _, HJ6.out⟩
    case round =>
      obtain ⟨j, hj, hj40, rfl, cur, l, sb, n, sn, S, v1, rl, hJE⟩ := hrel
      have HE0 := Lib.hid hJE
      clear hJE
      by_cases hlt : j < rows.length ∧ j < 40
      · obtain ⟨h1, h2⟩ := hlt
        obtain ⟨bb, oo, rfl, hbb, hcell⟩ := HROW.out (by omega)
        have hmem : rows.getD j [] ∈ rows := by rw [List.getD, List.getElem?_eq_getElem h1]; exact List.getElem_mem _
        obtain ⟨ak, rk, rb, an, hr, hwf, hrb⟩ := act_row (HFIT.out _ hmem)
        have hnb := Go.bounds_i64 hwf
        have hc := fun (i : Nat) (hi : i < 4) => (HE0.out.d.tt.cell (p := ⟨bb, oo + j * 4 + i, none⟩) hbb (fun h => h)).trans (hcell j h1 i hi)
        rw [hr] at hc
        have d0 : wr.cell? ⟨bb, oo + j * 4, none⟩ = some (.int .i64 ak) := hc 0 (by omega)
        have d1 : wr.cell? ⟨bb, oo + j * 4 + 1, none⟩ = some (.int .i64 rk) := hc 1 (by omega)
        have d2 : wr.cell? ⟨bb, oo + j * 4 + 2, none⟩ = some (.string rb) := hc 2 (by omega)
        have d3 : wr.cell? ⟨bb, oo + j * 4 + 3, none⟩ = some (.int .i64 an) := hc 3 (by omega)
        have HNB := Lib.hid hnb
        clear hc hr hmem hcell hwf hnb hbb
        by_cases hs3 : 300 < rb.size
        · have hs3I : (300 : Int) < (rb.size : Int) := by omega
          go_wp2_with fail
          go_roundw
          case rel => exact ⟨j + 1, by omega, by omega, by go_num, cur, l, sb, n, sn, S, v1, rl, HE0.out.d.still ((Turns.refl _ _).alloc _), HE0.out.hn, HE0.out.hS, by have := HE0.out.bl; omega, by have := HE0.out.bn; omega, by have := HE0.out.bs; omega⟩
          case measure => simp [intOf]; omega
        · have hs3I : ¬ (300 : Int) < (rb.size : Int) := by omega
          go_upto_region 13 with fail
          obtain ⟨wm, hwm⟩ : ∃ wm, wm = wr.alloc (.cells #[.int .i64 ak, .int .i64 rk, .string rb, .int .i64 an] 71) := ⟨_, rfl⟩
          obtain ⟨A, hA⟩ : ∃ A, wr.heap.size = A := ⟨_, rfl⟩
          rw [← hwm, hA]
          have tm : Turns nobody wr wm := by rw [hwm]; exact (Turns.refl _ _).alloc _
          have ha : wm.heap[A]? = some (.cells #[.int .i64 ak, .int .i64 rk, .string rb, .int .i64 an] 71 (0, 0)) := by rw [hwm, ← hA]; exact heap_alloc_new wr _
          have HE1 : Hid (JE w q p X j wm cur l sb n sn S v1 rl) := Lib.hid ⟨HE0.out.d.still tm, HE0.out.hn, HE0.out.hS, HE0.out.bl, HE0.out.bn, HE0.out.bs⟩
          have HAB := Lib.hid ha
          have a0 := cells_of ha 0 _ rfl
          have a1 := cells_of ha 1 _ rfl
          have a2 := cells_of ha 2 _ rfl
          have a3 := cells_of ha 3 _ rfl
          have HAN : Hid (A ≠ p ∧ A ≠ q ∧ A ≠ X) := Lib.hid (by
            refine ⟨?_, ?_, ?_⟩
            · rintro rfl; have h1 := HE1.out.d.j.h; rw [ha] at h1; simp at h1
            · rintro rfl; obtain ⟨_, _, h1, _⟩ := HE1.out.d.j.b; rw [ha] at h1; simp at h1
            · rintro rfl; have h1 := HE1.out.d.r.h; rw [ha] at h1; simp at h1)
          clear hwm hA tm ha d0 d1 d2 d3 HE0
          have hkk : (ak = 0 ∨ ak = 1) ∨ ak = 2 ∨ (¬ ak = 0 ∧ ¬ ak = 1 ∧ ¬ ak = 2) := by omega
          rcases hkk with hkk | rfl | ⟨n0, n1, n2⟩
          · rcases hkk with rfl | rfl
            ·
              go_upto_region 21 with fail
              obtain ⟨w2, hw2⟩ : ∃ w2, w2 = wm.drew := ⟨_, rfl⟩
              have t2 : Turns nobody wm w2 := by rw [hw2]; exact (Turns.refl _ _).drew
              have HD2 := Lib.hid (HE1.out.d.still t2)
              have HAB2 := Lib.hid (heap_newer HAB.out t2 (fun h => h))
              clear a0 a1 a2 a3
              rcases Nat.eq_zero_or_pos (putE rk rb) with he | he
              · have hap := append_ok p q l sb n sn rk rb w2 HD2.out.j (by have := HE1.out.bn; omega) (by have := HE1.out.bl; omega) (by omega) (Tab.turns HTB.out HD2.out.tt (fun h => h)) he
                have hra := fun W (h : RJ W X 68 0 cur S sb v1 rl sn) => refappend_ok X 68 0 cur S sb v1 rl sn rk rb W h (by decide) (by have := HE1.out.bl; have := size_of HE1.out.hS; omega) (by have := HE1.out.bn; have := HE1.out.hn; omega) (by omega) he
                have hpz : (putS rk rb).data.toList.length ≤ 309 := by
                  unfold putS
                  rw [if_pos he]
                  show (putL rk.toNat rb).toArray.toList.length ≤ _
                  rw [List.toList_toArray, putL_len]
                  omega
                have HPZ := Lib.hid hpz
                have HRA := Lib.hid hra
                unfold recV at hap HRA
                generalize putS rk rb = Z at *
                clear he hra hpz
                refine wp_region_mix [(0, true, true), (1, true, true), (2, true, true), (4, true, true), (5, true, true), (3, false, true), (6, false, true), (7, true, true), (8, true, true)] (fun W => W.heap[A]? = some (.cells #[.int .i64 0, .int .i64 rk, .string rb, .int .i64 an] 71 (0, 0))) (by kernel_rfl) (by kernel_rfl) (HAB.out) ?_
                rw [← hw2]
                clear hw2 t2
                simp only [picked, List.filterMap_cons, List.filterMap_nil, List.getElem?_toArray, List.getElem?_cons_zero, List.getElem?_cons_succ, Option.map_some]
                repeat (refine mix_free (v := ?_) rfl ?_ ?_; rotate_left; (focus (intro w' hI; have e1 := cells_of hI 1 _ rfl; have e2 := cells_of hI 2 _ rfl; clear hI; go_simp; try with_reducible rfl)); simp only [Act.put, List.setIfInBounds_toArray, List.set_cons_zero, List.set_cons_succ])
                refine mix_big rfl (fun K hK => ?_)
                go_wp2_with (go_at_call 28; refine hap.mono ?_; rintro e w3 ⟨rfl, hj3, t3⟩; have HD3 := Lib.hid (HD2.out.left hj3 t3); have hab3 := heap_newer HAB2.out t3 (fun e => by rcases e with e | e; exact HAN.out.1 e; exact HAN.out.2.1 e); clear hj3 t3)
                refine hK _ _ (fun _ => hab3) ?_
                have HAB3 := Lib.hid hab3
                clear hK K hab3 hap
                repeat (refine mix_free (v := ?_) rfl ?_ ?_; rotate_left; (focus (intro w' hI; have e1 := cells_of hI 1 _ rfl; have e2 := cells_of hI 2 _ rfl; clear hI; go_simp; try with_reducible rfl)); simp only [Act.put, List.setIfInBounds_toArray, List.set_cons_zero, List.set_cons_succ])
                refine mix_big rfl (fun K hK => ?_)
                go_wp2_with (go_at_call 35; refine (HRA.out _ HD3.out.r).mono ?_; rintro e wt ⟨rfl, cur', v2, hr4, _, t4⟩; have HD4 := Lib.hid (HD3.out.right hr4 t4); have hab4 := heap_newer HAB3.out t4 (fun e => HAN.out.2.2 e); clear hr4 t4)
                refine hK _ _ (fun _ => hab4) ?_
                clear hK K hab4
                repeat (refine mix_free (v := ?_) rfl ?_ ?_; rotate_left; (focus (intro w' hI; clear hI; go_simp; try with_reducible rfl)); simp only [Act.put, List.setIfInBounds_toArray, List.set_cons_zero, List.set_cons_succ])
                refine mix_nil ?_
                obtain ⟨l', hl'⟩ : ∃ l', l ++ Z.data.toList = l' := ⟨_, rfl⟩
                obtain ⟨S', hS'⟩ : ∃ S', S ++ Z = S' := ⟨_, rfl⟩
                obtain ⟨n', hn''⟩ : ∃ n', n + 1 = n' := ⟨_, rfl⟩
                obtain ⟨rl', hrl'⟩ : ∃ rl', rl ++ [(rk, rb)] = rl' := ⟨_, rfl⟩
                obtain ⟨sb', rfl⟩ : ∃ sb', sb = sb' := ⟨_, rfl⟩
                obtain ⟨sn', rfl⟩ : ∃ sn', sn = sn' := ⟨_, rfl⟩
                rw [hl', hS', hn'', hrl'] at HD4
                have HE : Hid (JE w q p X (j + 1) wt cur' l' sb n' sn S' v2 rl') := Lib.hid ⟨HD4.out, by rw [← hrl', ← hn'', List.length_append, HE1.out.hn]; rfl, by
                  rw [← hl', ← hS', ← HE1.out.hS]
                  apply ByteArray.ext; apply Array.ext'; simp, by rw [← hl', List.length_append]; have := HE1.out.bl; have := HPZ.out; omega, by have := HE1.out.bn; omega, by have := HE1.out.bs; omega⟩
                clear hl' hS' hn'' hrl' HPZ HRA HD4 HD3 HD2 HE1 HAB HAB2 HAB3
                go_upto_region 24 with fail
                have hnn := HE.out.hn
                have hsz := size_of HE.out.hS
                have hdt := block.data_any q l' sb wt.drew (HE.out.d.j.still (Turns.refl nobody _).drew).b
                rw [HE.out.hS] at hdt
                have hle := len_any p q n' sn wt.drew (HE.out.d.j.still (Turns.refl nobody _).drew).h
                have hsa := safe_any p q n' sn wt.drew (HE.out.d.j.still (Turns.refl nobody _).drew).h
                have hsi := size_any p q l' sb n' sn wt.drew (HE.out.d.j.still (Turns.refl nobody _).drew)
                obtain ⟨vo, vc, rfl, -⟩ := Sl.shape HE.out.d.r.s
                rw [hnn] at HE
                have HLE := Lib.hid hle
                have HSA := Lib.hid hsa
                have HSI := Lib.hid hsi
                have HDT := Lib.hid hdt
                clear hnn hle hsa hsi hdt
                refine wp_region_mix [(0, true, true), (1, true, true), (2, true, true), (3, true, true), (5, true, true), (6, true, true), (7, true, true), (4, false, true), (8, true, true), (9, true, true), (10, true, true), (11, true, true), (13, true, true), (14, true, true), (12, false, true), (15, true, true), (16, true, true), (17, true, true), (18, true, true), (20, true, true), (21, true, true), (22, true, true), (23, true, true), (19, false, true), (24, true, true), (25, true, true), (26, true, true), (27, true, true), (29, true, true), (30, true, true), (31, true, true), (28, false, true), (32, true, true), (33, true, true)] (fun W => W.heap[X]? = some (.cells cur' 68 (0, 0))) (by kernel_rfl) (by kernel_rfl) (HE.out.d.r.h) ?_
                simp only [picked, List.filterMap_cons, List.filterMap_nil, List.getElem?_toArray, List.getElem?_cons_zero, List.getElem?_cons_succ, Option.map_some]
                repeat (refine mix_free (v := ?_) rfl ?_ ?_; rotate_left; (focus (intro w' hI; have e0 := cells_of hI 0 _ HE.out.d.r.c0; have e2 := cells_of hI 2 _ HE.out.d.r.c2; have e3 := cells_of hI 3 _ HE.out.d.r.c3; clear hI; go_simp; try with_reducible rfl)); simp only [Act.put, List.setIfInBounds_toArray, List.set_cons_zero, List.set_cons_succ])
                refine mix_big rfl (fun K hK => ?_)
                go_wp2_with (go_at_call 38; refine HLE.out.mono ?_; rintro e w7 ⟨rfl, rfl⟩)
                refine hK _ _ (fun _ => HE.out.d.r.h) ?_
                clear hK K
                repeat (refine mix_free (v := ?_) rfl ?_ ?_; rotate_left; (focus (intro w' hI; have e0 := cells_of hI 0 _ HE.out.d.r.c0; have e2 := cells_of hI 2 _ HE.out.d.r.c2; have e3 := cells_of hI 3 _ HE.out.d.r.c3; clear hI; go_simp; try with_reducible rfl)); simp only [Act.put, List.setIfInBounds_toArray, List.set_cons_zero, List.set_cons_succ])
                refine mix_big rfl (fun K hK => ?_)
                go_wp2_with (go_at_call 30; refine HSA.out.mono ?_; rintro e w7 ⟨rfl, rfl⟩)
                refine hK _ _ (fun _ => HE.out.d.r.h) ?_
                clear hK K
                repeat (refine mix_free (v := ?_) rfl ?_ ?_; rotate_left; (focus (intro w' hI; have e0 := cells_of hI 0 _ HE.out.d.r.c0; have e2 := cells_of hI 2 _ HE.out.d.r.c2; have e3 := cells_of hI 3 _ HE.out.d.r.c3; clear hI; go_simp; try with_reducible rfl)); simp only [Act.put, List.setIfInBounds_toArray, List.set_cons_zero, List.set_cons_succ])
                refine mix_big rfl (fun K hK => ?_)
                go_wp2_with (go_at_call 39; refine HSI.out.mono ?_; rintro e w7 ⟨rfl, rfl⟩)
                refine hK _ _ (fun _ => HE.out.d.r.h) ?_
                clear hK K
                repeat (refine mix_free (v := ?_) rfl ?_ ?_; rotate_left; (focus (intro w' hI; have e0 := cells_of hI 0 _ HE.out.d.r.c0; have e2 := cells_of hI 2 _ HE.out.d.r.c2; have e3 := cells_of hI 3 _ HE.out.d.r.c3; clear hI; go_simp; try with_reducible rfl)); simp only [Act.put, List.setIfInBounds_toArray, List.set_cons_zero, List.set_cons_succ])
                refine mix_big rfl (fun K hK => ?_)
                go_wp2_with (go_at_call 40; refine HDT.out.mono ?_; rintro e w7 ⟨rfl, rfl⟩)
                refine hK _ _ (fun _ => HE.out.d.r.h) ?_
                clear hK K
                repeat (refine mix_free (v := ?_) rfl ?_ ?_; rotate_left; (focus (intro w' hI; clear hI; go_simp; try with_reducible rfl)); simp only [Act.put, List.setIfInBounds_toArray, List.set_cons_zero, List.set_cons_succ])
                refine mix_nil ?_
                go_wp2
                go_roundw
                case rel => exact ⟨j + 1, by omega, by omega, by go_num, cur', l', sb, n', sn, S', _, rl', HE.out.d.still (Turns.refl nobody _).drew, HE.out.hn, HE.out.hS, HE.out.bl, HE.out.bn, HE.out.bs⟩
                case measure => simp [intOf]; omega
              · have hap := append_bad p q rk rb w2 (cells_of HD2.out.j.h 0 _ rfl) (by omega) (Tab.turns HTB.out HD2.out.tt (fun h => h)) (by omega)
                have hra := fun W => refappend_bad X 0 rk rb W (by omega) (by omega)
                have HRA := Lib.hid hra
                unfold recV at hap HRA
                generalize putE rk rb = E at *
                clear he hra
                refine wp_region_mix [(0, true, true), (1, true, true), (2, true, true), (4, true, true), (5, true, true), (3, false, true), (6, false, true), (7, true, true), (8, true, true)] (fun W => W.heap[A]? = some (.cells #[.int .i64 0, .int .i64 rk, .string rb, .int .i64 an] 71 (0, 0))) (by kernel_rfl) (by kernel_rfl) (HAB.out) ?_
                rw [← hw2]
                clear hw2 t2
                simp only [picked, List.filterMap_cons, List.filterMap_nil, List.getElem?_toArray, List.getElem?_cons_zero, List.getElem?_cons_succ, Option.map_some]
                repeat (refine mix_free (v := ?_) rfl ?_ ?_; rotate_left; (focus (intro w' hI; have e1 := cells_of hI 1 _ rfl; have e2 := cells_of hI 2 _ rfl; clear hI; go_simp; try with_reducible rfl)); simp only [Act.put, List.setIfInBounds_toArray, List.set_cons_zero, List.set_cons_succ])
                refine mix_big rfl (fun K hK => ?_)
                go_wp2_with (go_at_call 28; refine hap.mono ?_; rintro e w3 ⟨rfl, t3⟩; have HD3 := Lib.hid (HD2.out.still t3); have hab3 := heap_newer HAB2.out t3 (fun h => h); clear t3)
                refine hK _ _ (fun _ => hab3) ?_
                have HAB3 := Lib.hid hab3
                clear hK K hab3 hap
                repeat (refine mix_free (v := ?_) rfl ?_ ?_; rotate_left; (focus (intro w' hI; have e1 := cells_of hI 1 _ rfl; have e2 := cells_of hI 2 _ rfl; clear hI; go_simp; try with_reducible rfl)); simp only [Act.put, List.setIfInBounds_toArray, List.set_cons_zero, List.set_cons_succ])
                refine mix_big rfl (fun K hK => ?_)
                go_wp2_with (go_at_call 35; refine (HRA.out _).mono ?_; rintro e wt ⟨rfl, t4⟩; have HD4 := Lib.hid (HD3.out.still t4); have hab4 := heap_newer HAB3.out t4 (fun h => h); clear t4)
                refine hK _ _ (fun _ => hab4) ?_
                clear hK K hab4
                repeat (refine mix_free (v := ?_) rfl ?_ ?_; rotate_left; (focus (intro w' hI; clear hI; go_simp; try with_reducible rfl)); simp only [Act.put, List.setIfInBounds_toArray, List.set_cons_zero, List.set_cons_succ])
                refine mix_nil ?_
                have HE : Hid (JE w q p X (j + 1) wt cur l sb n sn S v1 rl) := Lib.hid ⟨HD4.out, HE1.out.hn, HE1.out.hS, by have := HE1.out.bl; omega, by have := HE1.out.bn; omega, by have := HE1.out.bs; omega⟩
                clear HRA HD4 HD3 HD2 HE1 HAB HAB2 HAB3
                go_upto_region 24 with fail
                have hnn := HE.out.hn
                have hsz := size_of HE.out.hS
                have hdt := block.data_any q l sb wt.drew (HE.out.d.j.still (Turns.refl nobody _).drew).b
                rw [HE.out.hS] at hdt
                have hle := len_any p q n sn wt.drew (HE.out.d.j.still (Turns.refl nobody _).drew).h
                have hsa := safe_any p q n sn wt.drew (HE.out.d.j.still (Turns.refl nobody _).drew).h
                have hsi := size_any p q l sb n sn wt.drew (HE.out.d.j.still (Turns.refl nobody _).drew)
                obtain ⟨vo, vc, rfl, -⟩ := Sl.shape HE.out.d.r.s
                rw [hnn] at HE
                have HLE := Lib.hid hle
                have HSA := Lib.hid hsa
                have HSI := Lib.hid hsi
                have HDT := Lib.hid hdt
                clear hnn hle hsa hsi hdt
                refine wp_region_mix [(0, true, true), (1, true, true), (2, true, true), (3, true, true), (5, true, true), (6, true, true), (7, true, true), (4, false, true), (8, true, true), (9, true, true), (10, true, true), (11, true, true), (13, true, true), (14, true, true), (12, false, true), (15, true, true), (16, true, true), (17, true, true), (18, true, true), (20, true, true), (21, true, true), (22, true, true), (23, true, true), (19, false, true), (24, true, true), (25, true, true), (26, true, true), (27, true, true), (29, true, true), (30, true, true), (31, true, true), (28, false, true), (32, true, true), (33, true, true)] (fun W => W.heap[X]? = some (.cells cur 68 (0, 0))) (by kernel_rfl) (by kernel_rfl) (HE.out.d.r.h) ?_
                simp only [picked, List.filterMap_cons, List.filterMap_nil, List.getElem?_toArray, List.getElem?_cons_zero, List.getElem?_cons_succ, Option.map_some]
                repeat (refine mix_free (v := ?_) rfl ?_ ?_; rotate_left; (focus (intro w' hI; have e0 := cells_of hI 0 _ HE.out.d.r.c0; have e2 := cells_of hI 2 _ HE.out.d.r.c2; have e3 := cells_of hI 3 _ HE.out.d.r.c3; clear hI; go_simp; try with_reducible rfl)); simp only [Act.put, List.setIfInBounds_toArray, List.set_cons_zero, List.set_cons_succ])
                refine mix_big rfl (fun K hK => ?_)
                go_wp2_with (go_at_call 38; refine HLE.out.mono ?_; rintro e w7 ⟨rfl, rfl⟩)
                refine hK _ _ (fun _ => HE.out.d.r.h) ?_
                clear hK K
                repeat (refine mix_free (v := ?_) rfl ?_ ?_; rotate_left; (focus (intro w' hI; have e0 := cells_of hI 0 _ HE.out.d.r.c0; have e2 := cells_of hI 2 _ HE.out.d.r.c2; have e3 := cells_of hI 3 _ HE.out.d.r.c3; clear hI; go_simp; try with_reducible rfl)); simp only [Act.put, List.setIfInBounds_toArray, List.set_cons_zero, List.set_cons_succ])
                refine mix_big rfl (fun K hK => ?_)
                go_wp2_with (go_at_call 30; refine HSA.out.mono ?_; rintro e w7 ⟨rfl, rfl⟩)
                refine hK _ _ (fun _ => HE.out.d.r.h) ?_
                clear hK K
                repeat (refine mix_free (v := ?_) rfl ?_ ?_; rotate_left; (focus (intro w' hI; have e0 := cells_of hI 0 _ HE.out.d.r.c0; have e2 := cells_of hI 2 _ HE.out.d.r.c2; have e3 := cells_of hI 3 _ HE.out.d.r.c3; clear hI; go_simp; try with_reducible rfl)); simp only [Act.put, List.setIfInBounds_toArray, List.set_cons_zero, List.set_cons_succ])
                refine mix_big rfl (fun K hK => ?_)
                go_wp2_with (go_at_call 39; refine HSI.out.mono ?_; rintro e w7 ⟨rfl, rfl⟩)
                refine hK _ _ (fun _ => HE.out.d.r.h) ?_
                clear hK K
                repeat (refine mix_free (v := ?_) rfl ?_ ?_; rotate_left; (focus (intro w' hI; have e0 := cells_of hI 0 _ HE.out.d.r.c0; have e2 := cells_of hI 2 _ HE.out.d.r.c2; have e3 := cells_of hI 3 _ HE.out.d.r.c3; clear hI; go_simp; try with_reducible rfl)); simp only [Act.put, List.setIfInBounds_toArray, List.set_cons_zero, List.set_cons_succ])
                refine mix_big rfl (fun K hK => ?_)
                go_wp2_with (go_at_call 40; refine HDT.out.mono ?_; rintro e w7 ⟨rfl, rfl⟩)
                refine hK _ _ (fun _ => HE.out.d.r.h) ?_
                clear hK K
                repeat (refine mix_free (v := ?_) rfl ?_ ?_; rotate_left; (focus (intro w' hI; clear hI; go_simp; try with_reducible rfl)); simp only [Act.put, List.setIfInBounds_toArray, List.set_cons_zero, List.set_cons_succ])
                refine mix_nil ?_
                go_wp2
                go_roundw
                case rel => exact ⟨j + 1, by omega, by omega, by go_num, cur, l, sb, n, sn, S, _, rl, HE.out.d.still (Turns.refl nobody _).drew, HE.out.hn, HE.out.hS, HE.out.bl, HE.out.bn, HE.out.bs⟩
                case measure => simp [intOf]; omega
            ·
              go_upto_region 21 with fail
              obtain ⟨w2, hw2⟩ : ∃ w2, w2 = wm.drew := ⟨_, rfl⟩
              have t2 : Turns nobody wm w2 := by rw [hw2]; exact (Turns.refl _ _).drew
              have HD2 := Lib.hid (HE1.out.d.still t2)
              have HAB2 := Lib.hid (heap_newer HAB.out t2 (fun h => h))
              clear a0 a1 a2 a3
              rcases Nat.eq_zero_or_pos (putE rk rb) with he | he
              · have hap := append_ok p q l sb n sn rk rb w2 HD2.out.j (by have := HE1.out.bn; omega) (by have := HE1.out.bl; omega) (by omega) (Tab.turns HTB.out HD2.out.tt (fun h => h)) he
                have hra := fun W (h : RJ W X 68 0 cur S sb v1 rl sn) => refappend_ok X 68 0 cur S sb v1 rl sn rk rb W h (by decide) (by have := HE1.out.bl; have := size_of HE1.out.hS; omega) (by have := HE1.out.bn; have := HE1.out.hn; omega) (by omega) he
                have hpz : (putS rk rb).data.toList.length ≤ 309 := by
                  unfold putS
                  rw [if_pos he]
                  show (putL rk.toNat rb).toArray.toList.length ≤ _
                  rw [List.toList_toArray, putL_len]
                  omega
                have HPZ := Lib.hid hpz
                have HRA := Lib.hid hra
                unfold recV at hap HRA
                generalize putS rk rb = Z at *
                clear he hra hpz
                refine wp_region_mix [(0, true, true), (1, true, true), (2, true, true), (4, true, true), (5, true, true), (3, false, true), (6, false, true), (7, true, true), (8, true, true)] (fun W => W.heap[A]? = some (.cells #[.int .i64 1, .int .i64 rk, .string rb, .int .i64 an] 71 (0, 0))) (by kernel_rfl) (by kernel_rfl) (HAB.out) ?_
                rw [← hw2]
                clear hw2 t2
                simp only [picked, List.filterMap_cons, List.filterMap_nil, List.getElem?_toArray, List.getElem?_cons_zero, List.getElem?_cons_succ, Option.map_some]
                repeat (refine mix_free (v := ?_) rfl ?_ ?_; rotate_left; (focus (intro w' hI; have e1 := cells_of hI 1 _ rfl; have e2 := cells_of hI 2 _ rfl; clear hI; go_simp; try with_reducible rfl)); simp only [Act.put, List.setIfInBounds_toArray, List.set_cons_zero, List.set_cons_succ])
                refine mix_big rfl (fun K hK => ?_)
                go_wp2_with (go_at_call 28; refine hap.mono ?_; rintro e w3 ⟨rfl, hj3, t3⟩; have HD3 := Lib.hid (HD2.out.left hj3 t3); have hab3 := heap_newer HAB2.out t3 (fun e => by rcases e with e | e; exact HAN.out.1 e; exact HAN.out.2.1 e); clear hj3 t3)
                refine hK _ _ (fun _ => hab3) ?_
                have HAB3 := Lib.hid hab3
                clear hK K hab3 hap
                repeat (refine mix_free (v := ?_) rfl ?_ ?_; rotate_left; (focus (intro w' hI; have e1 := cells_of hI 1 _ rfl; have e2 := cells_of hI 2 _ rfl; clear hI; go_simp; try with_reducible rfl)); simp only [Act.put, List.setIfInBounds_toArray, List.set_cons_zero, List.set_cons_succ])
                refine mix_big rfl (fun K hK => ?_)
                go_wp2_with (go_at_call 35; refine (HRA.out _ HD3.out.r).mono ?_; rintro e wt ⟨rfl, cur', v2, hr4, _, t4⟩; have HD4 := Lib.hid (HD3.out.right hr4 t4); have hab4 := heap_newer HAB3.out t4 (fun e => HAN.out.2.2 e); clear hr4 t4)
                refine hK _ _ (fun _ => hab4) ?_
                clear hK K hab4
                repeat (refine mix_free (v := ?_) rfl ?_ ?_; rotate_left; (focus (intro w' hI; clear hI; go_simp; try with_reducible rfl)); simp only [Act.put, List.setIfInBounds_toArray, List.set_cons_zero, List.set_cons_succ])
                refine mix_nil ?_
                obtain ⟨l', hl'⟩ : ∃ l', l ++ Z.data.toList = l' := ⟨_, rfl⟩
                obtain ⟨S', hS'⟩ : ∃ S', S ++ Z = S' := ⟨_, rfl⟩
                obtain ⟨n', hn''⟩ : ∃ n', n + 1 = n' := ⟨_, rfl⟩
                obtain ⟨rl', hrl'⟩ : ∃ rl', rl ++ [(rk, rb)] = rl' := ⟨_, rfl⟩
                obtain ⟨sb', rfl⟩ : ∃ sb', sb = sb' := ⟨_, rfl⟩
                obtain ⟨sn', rfl⟩ : ∃ sn', sn = sn' := ⟨_, rfl⟩
                rw [hl', hS', hn'', hrl'] at HD4
                have HE : Hid (JE w q p X (j + 1) wt cur' l' sb n' sn S' v2 rl') := Lib.hid ⟨HD4.out, by rw [← hrl', ← hn'', List.length_append, HE1.out.hn]; rfl, by
                  rw [← hl', ← hS', ← HE1.out.hS]
                  apply ByteArray.ext; apply Array.ext'; simp, by rw [← hl', List.length_append]; have := HE1.out.bl; have := HPZ.out; omega, by have := HE1.out.bn; omega, by have := HE1.out.bs; omega⟩
                clear hl' hS' hn'' hrl' HPZ HRA HD4 HD3 HD2 HE1 HAB HAB2 HAB3
                go_upto_region 24 with fail
                have hnn := HE.out.hn
                have hsz := size_of HE.out.hS
                have hdt := block.data_any q l' sb wt.drew (HE.out.d.j.still (Turns.refl nobody _).drew).b
                rw [HE.out.hS] at hdt
                have hle := len_any p q n' sn wt.drew (HE.out.d.j.still (Turns.refl nobody _).drew).h
                have hsa := safe_any p q n' sn wt.drew (HE.out.d.j.still (Turns.refl nobody _).drew).h
                have hsi := size_any p q l' sb n' sn wt.drew (HE.out.d.j.still (Turns.refl nobody _).drew)
                obtain ⟨vo, vc, rfl, -⟩ := Sl.shape HE.out.d.r.s
                rw [hnn] at HE
                have HLE := Lib.hid hle
                have HSA := Lib.hid hsa
                have HSI := Lib.hid hsi
                have HDT := Lib.hid hdt
                clear hnn hle hsa hsi hdt
                refine wp_region_mix [(0, true, true), (1, true, true), (2, true, true), (3, true, true), (5, true, true), (6, true, true), (7, true, true), (4, false, true), (8, true, true), (9, true, true), (10, true, true), (11, true, true), (13, true, true), (14, true, true), (12, false, true), (15, true, true), (16, true, true), (17, true, true), (18, true, true), (20, true, true), (21, true, true), (22, true, true), (23, true, true), (19, false, true), (24, true, true), (25, true, true), (26, true, true), (27, true, true), (29, true, true), (30, true, true), (31, true, true), (28, false, true), (32, true, true), (33, true, true)] (fun W => W.heap[X]? = some (.cells cur' 68 (0, 0))) (by kernel_rfl) (by kernel_rfl) (HE.out.d.r.h) ?_
                simp only [picked, List.filterMap_cons, List.filterMap_nil, List.getElem?_toArray, List.getElem?_cons_zero, List.getElem?_cons_succ, Option.map_some]
                repeat (refine mix_free (v := ?_) rfl ?_ ?_; rotate_left; (focus (intro w' hI; have e0 := cells_of hI 0 _ HE.out.d.r.c0; have e2 := cells_of hI 2 _ HE.out.d.r.c2; have e3 := cells_of hI 3 _ HE.out.d.r.c3; clear hI; go_simp; try with_reducible rfl)); simp only [Act.put, List.setIfInBounds_toArray, List.set_cons_zero, List.set_cons_succ])
                refine mix_big rfl (fun K hK => ?_)
                go_wp2_with (go_at_call 38; refine HLE.out.mono ?_; rintro e w7 ⟨rfl, rfl⟩)
                refine hK _ _ (fun _ => HE.out.d.r.h) ?_
                clear hK K
                repeat (refine mix_free (v := ?_) rfl ?_ ?_; rotate_left; (focus (intro w' hI; have e0 := cells_of hI 0 _ HE.out.d.r.c0; have e2 := cells_of hI 2 _ HE.out.d.r.c2; have e3 := cells_of hI 3 _ HE.out.d.r.c3; clear hI; go_simp; try with_reducible rfl)); simp only [Act.put, List.setIfInBounds_toArray, List.set_cons_zero, List.set_cons_succ])
                refine mix_big rfl (fun K hK => ?_)
                go_wp2_with (go_at_call 30; refine HSA.out.mono ?_; rintro e w7 ⟨rfl, rfl⟩)
                refine hK _ _ (fun _ => HE.out.d.r.h) ?_
                clear hK K
                repeat (refine mix_free (v := ?_) rfl ?_ ?_; rotate_left; (focus (intro w' hI; have e0 := cells_of hI 0 _ HE.out.d.r.c0; have e2 := cells_of hI 2 _ HE.out.d.r.c2; have e3 := cells_of hI 3 _ HE.out.d.r.c3; clear hI; go_simp; try with_reducible rfl)); simp only [Act.put, List.setIfInBounds_toArray, List.set_cons_zero, List.set_cons_succ])
                refine mix_big rfl (fun K hK => ?_)
                go_wp2_with (go_at_call 39; refine HSI.out.mono ?_; rintro e w7 ⟨rfl, rfl⟩)
                refine hK _ _ (fun _ => HE.out.d.r.h) ?_
                clear hK K
                repeat (refine mix_free (v := ?_) rfl ?_ ?_; rotate_left; (focus (intro w' hI; have e0 := cells_of hI 0 _ HE.out.d.r.c0; have e2 := cells_of hI 2 _ HE.out.d.r.c2; have e3 := cells_of hI 3 _ HE.out.d.r.c3; clear hI; go_simp; try with_reducible rfl)); simp only [Act.put, List.setIfInBounds_toArray, List.set_cons_zero, List.set_cons_succ])
                refine mix_big rfl (fun K hK => ?_)
                go_wp2_with (go_at_call 40; refine HDT.out.mono ?_; rintro e w7 ⟨rfl, rfl⟩)
                refine hK _ _ (fun _ => HE.out.d.r.h) ?_
                clear hK K
                repeat (refine mix_free (v := ?_) rfl ?_ ?_; rotate_left; (focus (intro w' hI; clear hI; go_simp; try with_reducible rfl)); simp only [Act.put, List.setIfInBounds_toArray, List.set_cons_zero, List.set_cons_succ])
                refine mix_nil ?_
                go_wp2
                go_roundw
                case rel => exact ⟨j + 1, by omega, by omega, by go_num, cur', l', sb, n', sn, S', _, rl', HE.out.d.still (Turns.refl nobody _).drew, HE.out.hn, HE.out.hS, HE.out.bl, HE.out.bn, HE.out.bs⟩
                case measure => simp [intOf]; omega
              · have hap := append_bad p q rk rb w2 (cells_of HD2.out.j.h 0 _ rfl) (by omega) (Tab.turns HTB.out HD2.out.tt (fun h => h)) (by omega)
                have hra := fun W => refappend_bad X 0 rk rb W (by omega) (by omega)
                have HRA := Lib.hid hra
                unfold recV at hap HRA
                generalize putE rk rb = E at *
                clear he hra
                refine wp_region_mix [(0, true, true), (1, true, true), (2, true, true), (4, true, true), (5, true, true), (3, false, true), (6, false, true), (7, true, true), (8, true, true)] (fun W => W.heap[A]? = some (.cells #[.int .i64 1, .int .i64 rk, .string rb, .int .i64 an] 71 (0, 0))) (by kernel_rfl) (by kernel_rfl) (HAB.out) ?_
                rw [← hw2]
                clear hw2 t2
                simp only [picked, List.filterMap_cons, List.filterMap_nil, List.getElem?_toArray, List.getElem?_cons_zero, List.getElem?_cons_succ, Option.map_some]
                repeat (refine mix_free (v := ?_) rfl ?_ ?_; rotate_left; (focus (intro w' hI; have e1 := cells_of hI 1 _ rfl; have e2 := cells_of hI 2 _ rfl; clear hI; go_simp; try with_reducible rfl)); simp only [Act.put, List.setIfInBounds_toArray, List.set_cons_zero, List.set_cons_succ])
                refine mix_big rfl (fun K hK => ?_)
                go_wp2_with (go_at_call 28; refine hap.mono ?_; rintro e w3 ⟨rfl, t3⟩; have HD3 := Lib.hid (HD2.out.still t3); have hab3 := heap_newer HAB2.out t3 (fun h => h); clear t3)
                refine hK _ _ (fun _ => hab3) ?_
                have HAB3 := Lib.hid hab3
                clear hK K hab3 hap
                repeat (refine mix_free (v := ?_) rfl ?_ ?_; rotate_left; (focus (intro w' hI; have e1 := cells_of hI 1 _ rfl; have e2 := cells_of hI 2 _ rfl; clear hI; go_simp; try with_reducible rfl)); simp only [Act.put, List.setIfInBounds_toArray, List.set_cons_zero, List.set_cons_succ])
                refine mix_big rfl (fun K hK => ?_)
                go_wp2_with (go_at_call 35; refine (HRA.out _).mono ?_; rintro e wt ⟨rfl, t4⟩; have HD4 := Lib.hid (HD3.out.still t4); have hab4 := heap_newer HAB3.out t4 (fun h => h); clear t4)
                refine hK _ _ (fun _ => hab4) ?_
                clear hK K hab4
                repeat (refine mix_free (v := ?_) rfl ?_ ?_; rotate_left; (focus (intro w' hI; clear hI; go_simp; try with_reducible rfl)); simp only [Act.put, List.setIfInBounds_toArray, List.set_cons_zero, List.set_cons_succ])
                refine mix_nil ?_
                have HE : Hid (JE w q p X (j + 1) wt cur l sb n sn S v1 rl) := Lib.hid ⟨HD4.out, HE1.out.hn, HE1.out.hS, by have := HE1.out.bl; omega, by have := HE1.out.bn; omega, by have := HE1.out.bs; omega⟩
                clear HRA HD4 HD3 HD2 HE1 HAB HAB2 HAB3
                go_upto_region 24 with fail
                have hnn := HE.out.hn
                have hsz := size_of HE.out.hS
                have hdt := block.data_any q l sb wt.drew (HE.out.d.j.still (Turns.refl nobody _).drew).b
                rw [HE.out.hS] at hdt
                have hle := len_any p q n sn wt.drew (HE.out.d.j.still (Turns.refl nobody _).drew).h
                have hsa := safe_any p q n sn wt.drew (HE.out.d.j.still (Turns.refl nobody _).drew).h
                have hsi := size_any p q l sb n sn wt.drew (HE.out.d.j.still (Turns.refl nobody _).drew)
                obtain ⟨vo, vc, rfl, -⟩ := Sl.shape HE.out.d.r.s
                rw [hnn] at HE
                have HLE := Lib.hid hle
                have HSA := Lib.hid hsa
                have HSI := Lib.hid hsi
                have HDT := Lib.hid hdt
                clear hnn hle hsa hsi hdt
                refine wp_region_mix [(0, true, true), (1, true, true), (2, true, true), (3, true, true), (5, true, true), (6, true, true), (7, true, true), (4, false, true), (8, true, true), (9, true, true), (10, true, true), (11, true, true), (13, true, true), (14, true, true), (12, false, true), (15, true, true), (16, true, true), (17, true, true), (18, true, true), (20, true, true), (21, true, true), (22, true, true), (23, true, true), (19, false, true), (24, true, true), (25, true, true), (26, true, true), (27, true, true), (29, true, true), (30, true, true), (31, true, true), (28, false, true), (32, true, true), (33, true, true)] (fun W => W.heap[X]? = some (.cells cur 68 (0, 0))) (by kernel_rfl) (by kernel_rfl) (HE.out.d.r.h) ?_
                simp only [picked, List.filterMap_cons, List.filterMap_nil, List.getElem?_toArray, List.getElem?_cons_zero, List.getElem?_cons_succ, Option.map_some]
                repeat (refine mix_free (v := ?_) rfl ?_ ?_; rotate_left; (focus (intro w' hI; have e0 := cells_of hI 0 _ HE.out.d.r.c0; have e2 := cells_of hI 2 _ HE.out.d.r.c2; have e3 := cells_of hI 3 _ HE.out.d.r.c3; clear hI; go_simp; try with_reducible rfl)); simp only [Act.put, List.setIfInBounds_toArray, List.set_cons_zero, List.set_cons_succ])
                refine mix_big rfl (fun K hK => ?_)
                go_wp2_with (go_at_call 38; refine HLE.out.mono ?_; rintro e w7 ⟨rfl, rfl⟩)
                refine hK _ _ (fun _ => HE.out.d.r.h) ?_
                clear hK K
                repeat (refine mix_free (v := ?_) rfl ?_ ?_; rotate_left; (focus (intro w' hI; have e0 := cells_of hI 0 _ HE.out.d.r.c0; have e2 := cells_of hI 2 _ HE.out.d.r.c2; have e3 := cells_of hI 3 _ HE.out.d.r.c3; clear hI; go_simp; try with_reducible rfl)); simp only [Act.put, List.setIfInBounds_toArray, List.set_cons_zero, List.set_cons_succ])
                refine mix_big rfl (fun K hK => ?_)
                go_wp2_with (go_at_call 30; refine HSA.out.mono ?_; rintro e w7 ⟨rfl, rfl⟩)
                refine hK _ _ (fun _ => HE.out.d.r.h) ?_
                clear hK K
                repeat (refine mix_free (v := ?_) rfl ?_ ?_; rotate_left; (focus (intro w' hI; have e0 := cells_of hI 0 _ HE.out.d.r.c0; have e2 := cells_of hI 2 _ HE.out.d.r.c2; have e3 := cells_of hI 3 _ HE.out.d.r.c3; clear hI; go_simp; try with_reducible rfl)); simp only [Act.put, List.setIfInBounds_toArray, List.set_cons_zero, List.set_cons_succ])
                refine mix_big rfl (fun K hK => ?_)
                go_wp2_with (go_at_call 39; refine HSI.out.mono ?_; rintro e w7 ⟨rfl, rfl⟩)
                refine hK _ _ (fun _ => HE.out.d.r.h) ?_
                clear hK K
                repeat (refine mix_free (v := ?_) rfl ?_ ?_; rotate_left; (focus (intro w' hI; have e0 := cells_of hI 0 _ HE.out.d.r.c0; have e2 := cells_of hI 2 _ HE.out.d.r.c2; have e3 := cells_of hI 3 _ HE.out.d.r.c3; clear hI; go_simp; try with_reducible rfl)); simp only [Act.put, List.setIfInBounds_toArray, List.set_cons_zero, List.set_cons_succ])
                refine mix_big rfl (fun K hK => ?_)
                go_wp2_with (go_at_call 40; refine HDT.out.mono ?_; rintro e w7 ⟨rfl, rfl⟩)
                refine hK _ _ (fun _ => HE.out.d.r.h) ?_
                clear hK K
                repeat (refine mix_free (v := ?_) rfl ?_ ?_; rotate_left; (focus (intro w' hI; clear hI; go_simp; try with_reducible rfl)); simp only [Act.put, List.setIfInBounds_toArray, List.set_cons_zero, List.set_cons_succ])
                refine mix_nil ?_
                go_wp2
                go_roundw
                case rel => exact ⟨j + 1, by omega, by omega, by go_num, cur, l, sb, n, sn, S, _, rl, HE.out.d.still (Turns.refl nobody _).drew, HE.out.hn, HE.out.hS, HE.out.bl, HE.out.bn, HE.out.bs⟩
                case measure => simp [intOf]; omega
          · have hrs := fun W (h : RJ W X 68 0 cur S sb v1 rl sn) => refsync_any X 68 0 cur S sb v1 rl sn W h (by decide) (by have := HE1.out.bn; have := HE1.out.hn; omega) (by have := HE1.out.bs; omega)
            rw [HE1.out.hn, size_of HE1.out.hS] at hrs
            have HRS := Lib.hid hrs
            have hsy := sync_any p q l sb n sn wm HE1.out.d.j (by have := HE1.out.bn; omega) (by have := HE1.out.bs; omega) (by have := HE1.out.bl; omega)
            clear hrs
            go_upto_region 24 with first
              | (go_at_call 29; refine hsy.mono ?_; rintro e w3 ⟨rfl, hj3, t3⟩; have HD3 := Lib.hid (HE1.out.d.left hj3 t3); clear hj3 t3)
              | (go_at_call 36; refine (HRS.out _ HD3.out.r).mono ?_; rintro e wt ⟨rfl, cur', hr4, _, t4⟩; have HD4 := Lib.hid (HD3.out.right hr4 t4); clear hr4 t4)
            have HE : Hid (JE w q p X (j + 1) wt cur' l l.length n n S v1 rl) := Lib.hid ⟨HD4.out, HE1.out.hn, HE1.out.hS, by have := HE1.out.bl; omega, by have := HE1.out.bn; omega, by have := HE1.out.bn; omega⟩
            clear HRS hsy a0 a1 a2 a3 HD3 HD4 HE1 HAB
            have hnn := HE.out.hn
            have hsz := size_of HE.out.hS
            have hdt := block.data_any q l l.length wt.drew (HE.out.d.j.still (Turns.refl nobody _).drew).b
            rw [HE.out.hS] at hdt
            have hle := len_any p q n n wt.drew (HE.out.d.j.still (Turns.refl nobody _).drew).h
            have hsa := safe_any p q n n wt.drew (HE.out.d.j.still (Turns.refl nobody _).drew).h
            have hsi := size_any p q l l.length n n wt.drew (HE.out.d.j.still (Turns.refl nobody _).drew)
            obtain ⟨vo, vc, rfl, -⟩ := Sl.shape HE.out.d.r.s
            rw [hnn] at HE
            have HLE := Lib.hid hle
            have HSA := Lib.hid hsa
            have HSI := Lib.hid hsi
            have HDT := Lib.hid hdt
            clear hnn hle hsa hsi hdt
            refine wp_region_mix [(0, true, true), (1, true, true), (2, true, true), (3, true, true), (5, true, true), (6, true, true), (7, true, true), (4, false, true), (8, true, true), (9, true, true), (10, true, true), (11, true, true), (13, true, true), (14, true, true), (12, false, true), (15, true, true), (16, true, true), (17, true, true), (18, true, true), (20, true, true), (21, true, true), (22, true, true), (23, true, true), (19, false, true), (24, true, true), (25, true, true), (26, true, true), (27, true, true), (29, true, true), (30, true, true), (31, true, true), (28, false, true), (32, true, true), (33, true, true)] (fun W => W.heap[X]? = some (.cells cur' 68 (0, 0))) (by kernel_rfl) (by kernel_rfl) (HE.out.d.r.h) ?_
            simp only [picked, List.filterMap_cons, List.filterMap_nil, List.getElem?_toArray, List.getElem?_cons_zero, List.getElem?_cons_succ, Option.map_some]
            repeat (refine mix_free (v := ?_) rfl ?_ ?_; rotate_left; (focus (intro w' hI; have e0 := cells_of hI 0 _ HE.out.d.r.c0; have e2 := cells_of hI 2 _ HE.out.d.r.c2; have e3 := cells_of hI 3 _ HE.out.d.r.c3; clear hI; go_simp; try with_reducible rfl)); simp only [Act.put, List.setIfInBounds_toArray, List.set_cons_zero, List.set_cons_succ])
            refine mix_big rfl (fun K hK => ?_)
            go_wp2_with (go_at_call 38; refine HLE.out.mono ?_; rintro e w7 ⟨rfl, rfl⟩)
            refine hK _ _ (fun _ => HE.out.d.r.h) ?_
            clear hK K
            repeat (refine mix_free (v := ?_) rfl ?_ ?_; rotate_left; (focus (intro w' hI; have e0 := cells_of hI 0 _ HE.out.d.r.c0; have e2 := cells_of hI 2 _ HE.out.d.r.c2; have e3 := cells_of hI 3 _ HE.out.d.r.c3; clear hI; go_simp; try with_reducible rfl)); simp only [Act.put, List.setIfInBounds_toArray, List.set_cons_zero, List.set_cons_succ])
            refine mix_big rfl (fun K hK => ?_)
            go_wp2_with (go_at_call 30; refine HSA.out.mono ?_; rintro e w7 ⟨rfl, rfl⟩)
            refine hK _ _ (fun _ => HE.out.d.r.h) ?_
            clear hK K
            repeat (refine mix_free (v := ?_) rfl ?_ ?_; rotate_left; (focus (intro w' hI; have e0 := cells_of hI 0 _ HE.out.d.r.c0; have e2 := cells_of hI 2 _ HE.out.d.r.c2; have e3 := cells_of hI 3 _ HE.out.d.r.c3; clear hI; go_simp; try with_reducible rfl)); simp only [Act.put, List.setIfInBounds_toArray, List.set_cons_zero, List.set_cons_succ])
            refine mix_big rfl (fun K hK => ?_)
            go_wp2_with (go_at_call 39; refine HSI.out.mono ?_; rintro e w7 ⟨rfl, rfl⟩)
            refine hK _ _ (fun _ => HE.out.d.r.h) ?_
            clear hK K
            repeat (refine mix_free (v := ?_) rfl ?_ ?_; rotate_left; (focus (intro w' hI; have e0 := cells_of hI 0 _ HE.out.d.r.c0; have e2 := cells_of hI 2 _ HE.out.d.r.c2; have e3 := cells_of hI 3 _ HE.out.d.r.c3; clear hI; go_simp; try with_reducible rfl)); simp only [Act.put, List.setIfInBounds_toArray, List.set_cons_zero, List.set_cons_succ])
            refine mix_big rfl (fun K hK => ?_)
            go_wp2_with (go_at_call 40; refine HDT.out.mono ?_; rintro e w7 ⟨rfl, rfl⟩)
            refine hK _ _ (fun _ => HE.out.d.r.h) ?_
            clear hK K
            repeat (refine mix_free (v := ?_) rfl ?_ ?_; rotate_left; (focus (intro w' hI; clear hI; go_simp; try with_reducible rfl)); simp only [Act.put, List.setIfInBounds_toArray, List.set_cons_zero, List.set_cons_succ])
            refine mix_nil ?_
            go_wp2
            go_roundw
            case rel => exact ⟨j + 1, by omega, by omega, by go_num, cur', l, l.length, n, n, S, _, rl, HE.out.d.still (Turns.refl nobody _).drew, HE.out.hn, HE.out.hS, HE.out.bl, HE.out.bn, HE.out.bs⟩
            case measure => simp [intOf]; omega
          · obtain ⟨m, hm⟩ : ∃ m, keepOf l.length sb an = m := ⟨_, rfl⟩
            obtain ⟨s1, hs1⟩ : ∃ s1 : ByteArray, ⟨(l.take m).toArray⟩ = s1 := ⟨_, rfl⟩
            have hcr := crash_any p q l sb n sn an wm HE1.out.d.j (by have := HE1.out.bl; omega) (Tab.turns HTB.out HE1.out.d.tt (fun h => h)) HNB.out.1 HNB.out.2 m hm s1 hs1
            have hrc := fun W (h : RJ W X 68 0 cur ⟨l.toArray⟩ sb v1 rl sn) => refcrash_any X 68 0 cur l sb v1 rl sn an W h HE1.out.d.j.b.1 (by have := HE1.out.bl; omega) HNB.out.1 HNB.out.2 m hm s1 hs1
            rw [HE1.out.hS] at hrc
            have HRC := Lib.hid hrc
            have hs1l : s1.data.toList = l.take m := by rw [← hs1]
            have hs1z : s1.size ≤ l.length := by rw [← str_len, hs1l, List.length_take]; omega
            have HS1L := Lib.hid hs1l
            have HS1Z := Lib.hid hs1z
            clear hrc hm hs1 hs1l hs1z
            go_upto_region 17 with (go_at_call 31; refine hcr.mono ?_; rintro e w3 ⟨k1, E1, v3, hD1, rfl, hj3, hsl3, hn3, t3⟩; have HD3 := Lib.hid (HE1.out.d.left hj3 t3); have HDN := Lib.hid hD1; have HSL3 := Lib.hid hsl3; have hab3 := heap_newer HAB.out t3 (fun e => by rcases e with e | e; exact HAN.out.1 e; exact HAN.out.2.1 e); clear hD1 hj3 hsl3 hn3 t3)
            have HAB3 := Lib.hid hab3
            clear hcr a0 a1 a2 a3
            have a3 := cells_of hab3 3 _ rfl
            clear hab3
            go_upto_region 18 with (go_at_call 37; refine (HRC.out _ HD3.out.r).mono ?_; rintro e wt ⟨rfl, k2, E2, v4, cur', hD2, hr4, _, hn4, t4⟩; obtain ⟨rfl, rfl⟩ := HDN.out.uniq hD2; have HD4 := Lib.hid (HD3.out.right hr4 t4); have HSL4 := Lib.hid (Sl.keep HSL3.out t4 (fun i hi e => sl_not HSL3.out HD3.out.r.h (by decide) i hi e)); clear hD2 hr4 hn4 t4)
            clear a3
            obtain ⟨P1, hP1⟩ : ∃ P1, pos s1 k1 = P1 := ⟨_, rfl⟩
            have hpl : P1 ≤ s1.size := by rw [← hP1]; exact pos_le HDN.out.1
            have hkl : k1 ≤ s1.size := Ok.bound HDN.out.1
            have hrl := recs_len s1 k1
            obtain ⟨l', hl'⟩ : ∃ l', (l.take m).take P1 = l' := ⟨_, rfl⟩
            obtain ⟨S', hS'⟩ : ∃ S', s1.extract 0 P1 = S' := ⟨_, rfl⟩
            obtain ⟨rl', hrl'⟩ : ∃ rl', recs s1 k1 = rl' := ⟨_, rfl⟩
            rw [hP1, hl', hS', hrl'] at HD4
            rw [hrl'] at HSL4 hrl
            have HE : Hid (JE w q p X (j + 1) wt cur' l' P1 k1 k1 S' v4 rl') := Lib.hid ⟨HD4.out, hrl, by
              rw [← hl', ← hS']; exact (txt_take (b := s1) (l := l.take m) HS1L.out P1 (by rw [← HS1L.out, str_len]; exact hpl)).symm, by rw [← hl', List.length_take, List.length_take]; have := HE1.out.bl; omega, by have := HE1.out.bl; have := HS1Z.out; omega, by have := HE1.out.bl; have := HS1Z.out; omega⟩
            have hsm2 := same_any v3 v4 rl' wt HSL4.out HE.out.d.r.s (by have := HE1.out.bl; have := HS1Z.out; omega)
            obtain ⟨xo, xc, rfl, -⟩ := Sl.shape HE.out.d.r.s
            have d2 := cells_of HE.out.d.r.h 2 _ HE.out.d.r.c2
            clear hP1 hpl hkl hrl hl' hS' hrl' HD4 HD3 HE1 HAB HAB3 HDN HSL3 HSL4 HRC
            go_upto_region 24 with (go_at_call 24; refine hsm2.mono ?_; rintro e w6 ⟨rfl, t6⟩; have HT6 : Hid (Turns nobody wt w6) := Lib.hid (Turns.drawn t6); clear t6)
            have HE2 : Hid (JE w q p X (j + 1) w6 cur' l' P1 k1 k1 S' _ rl') := Lib.hid ⟨HE.out.d.still HT6.out, HE.out.hn, HE.out.hS, HE.out.bl, HE.out.bn, HE.out.bs⟩
            clear HE hsm2 d2 HT6
            have HE := HE2
            clear HE2
            obtain ⟨wt, hwt⟩ : ∃ wt, wt = w6 := ⟨_, rfl⟩
            rw [← hwt] at HE ⊢
            clear hwt
            obtain ⟨v5, hv5⟩ : ∃ v5, v5 = Value.slice xo rl'.length xc := ⟨_, rfl⟩
            rw [← hv5] at HE
            clear hv5
            have hnn := HE.out.hn
            have hsz := size_of HE.out.hS
            have hdt := block.data_any q l' P1 wt.drew (HE.out.d.j.still (Turns.refl nobody _).drew).b
            rw [HE.out.hS] at hdt
            have hle := len_any p q k1 k1 wt.drew (HE.out.d.j.still (Turns.refl nobody _).drew).h
            have hsa := safe_any p q k1 k1 wt.drew (HE.out.d.j.still (Turns.refl nobody _).drew).h
            have hsi := size_any p q l' P1 k1 k1 wt.drew (HE.out.d.j.still (Turns.refl nobody _).drew)
            obtain ⟨vo, vc, rfl, -⟩ := Sl.shape HE.out.d.r.s
            rw [hnn] at HE
            have HLE := Lib.hid hle
            have HSA := Lib.hid hsa
            have HSI := Lib.hid hsi
            have HDT := Lib.hid hdt
            clear hnn hle hsa hsi hdt
            refine wp_region_mix [(0, true, true), (1, true, true), (2, true, true), (3, true, true), (5, true, true), (6, true, true), (7, true, true), (4, false, true), (8, true, true), (9, true, true), (10, true, true), (11, true, true), (13, true, true), (14, true, true), (12, false, true), (15, true, true), (16, true, true), (17, true, true), (18, true, true), (20, true, true), (21, true, true), (22, true, true), (23, true, true), (19, false, true), (24, true, true), (25, true, true), (26, true, true), (27, true, true), (29, true, true), (30, true, true), (31, true, true), (28, false, true), (32, true, true), (33, true, true)] (fun W => W.heap[X]? = some (.cells cur' 68 (0, 0))) (by kernel_rfl) (by kernel_rfl) (HE.out.d.r.h) ?_
            simp only [picked, List.filterMap_cons, List.filterMap_nil, List.getElem?_toArray, List.getElem?_cons_zero, List.getElem?_cons_succ, Option.map_some]
            repeat (refine mix_free (v := ?_) rfl ?_ ?_; rotate_left; (focus (intro w' hI; have e0 := cells_of hI 0 _ HE.out.d.r.c0; have e2 := cells_of hI 2 _ HE.out.d.r.c2; have e3 := cells_of hI 3 _ HE.out.d.r.c3; clear hI; go_simp; try with_reducible rfl)); simp only [Act.put, List.setIfInBounds_toArray, List.set_cons_zero, List.set_cons_succ])
            refine mix_big rfl (fun K hK => ?_)
            go_wp2_with (go_at_call 38; refine HLE.out.mono ?_; rintro e w7 ⟨rfl, rfl⟩)
            refine hK _ _ (fun _ => HE.out.d.r.h) ?_
            clear hK K
            repeat (refine mix_free (v := ?_) rfl ?_ ?_; rotate_left; (focus (intro w' hI; have e0 := cells_of hI 0 _ HE.out.d.r.c0; have e2 := cells_of hI 2 _ HE.out.d.r.c2; have e3 := cells_of hI 3 _ HE.out.d.r.c3; clear hI; go_simp; try with_reducible rfl)); simp only [Act.put, List.setIfInBounds_toArray, List.set_cons_zero, List.set_cons_succ])
            refine mix_big rfl (fun K hK => ?_)
            go_wp2_with (go_at_call 30; refine HSA.out.mono ?_; rintro e w7 ⟨rfl, rfl⟩)
            refine hK _ _ (fun _ => HE.out.d.r.h) ?_
            clear hK K
            repeat (refine mix_free (v := ?_) rfl ?_ ?_; rotate_left; (focus (intro w' hI; have e0 := cells_of hI 0 _ HE.out.d.r.c0; have e2 := cells_of hI 2 _ HE.out.d.r.c2; have e3 := cells_of hI 3 _ HE.out.d.r.c3; clear hI; go_simp; try with_reducible rfl)); simp only [Act.put, List.setIfInBounds_toArray, List.set_cons_zero, List.set_cons_succ])
            refine mix_big rfl (fun K hK => ?_)
            go_wp2_with (go_at_call 39; refine HSI.out.mono ?_; rintro e w7 ⟨rfl, rfl⟩)
            refine hK _ _ (fun _ => HE.out.d.r.h) ?_
            clear hK K
            repeat (refine mix_free (v := ?_) rfl ?_ ?_; rotate_left; (focus (intro w' hI; have e0 := cells_of hI 0 _ HE.out.d.r.c0; have e2 := cells_of hI 2 _ HE.out.d.r.c2; have e3 := cells_of hI 3 _ HE.out.d.r.c3; clear hI; go_simp; try with_reducible rfl)); simp only [Act.put, List.setIfInBounds_toArray, List.set_cons_zero, List.set_cons_succ])
            refine mix_big rfl (fun K hK => ?_)
            go_wp2_with (go_at_call 40; refine HDT.out.mono ?_; rintro e w7 ⟨rfl, rfl⟩)
            refine hK _ _ (fun _ => HE.out.d.r.h) ?_
            clear hK K
            repeat (refine mix_free (v := ?_) rfl ?_ ?_; rotate_left; (focus (intro w' hI; clear hI; go_simp; try with_reducible rfl)); simp only [Act.put, List.setIfInBounds_toArray, List.set_cons_zero, List.set_cons_succ])
            refine mix_nil ?_
            go_wp2
            go_roundw
            case rel => exact ⟨j + 1, by omega, by omega, by go_num, cur', l', P1, k1, k1, S', _, rl', HE.out.d.still (Turns.refl nobody _).drew, HE.out.hn, HE.out.hS, HE.out.bl, HE.out.bn, HE.out.bs⟩
            case measure => simp [intOf]; omega
      · have HAW := Lib.hid (awake_any wr (Tab.turns HTB.out HE0.out.d.tt (fun h => h)))
        by_cases hj2 : j < rows.length
        · have hj4 : ¬ j < 40 := fun h => hlt ⟨hj2, h⟩
          clear hlt
          go_wp2_with (go_at_call 32; refine HAW.out.mono ?_; rintro e w9 ⟨rfl, t9⟩; have HT9 := Lib.hid (HE0.out.d.tt.trans t9 (fun _ h => h.elim)); clear t9)
          go_ret
          exact ⟨rfl, HT9.out⟩
        · clear hlt
          go_wp2_with (go_at_call 32; refine HAW.out.mono ?_; rintro e w9 ⟨rfl, t9⟩; have HT9 := Lib.hid (HE0.out.d.tt.trans t9 (fun _ h => h.elim)); clear t9)
          go_ret
          exact ⟨rfl, HT9.out⟩
end Go.Proofs.YtlhcmgjkhkcgcaaDoor.journal
