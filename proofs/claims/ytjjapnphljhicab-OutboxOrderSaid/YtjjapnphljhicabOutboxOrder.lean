/- OutboxOrder: what was put, in order. -/
import Derived.Test.YtjjapnphljhicabOutboxPlays
namespace Go.Proofs.Ytjjapnphljhicab.outbox
open Go.RowKit Go.Conc
open Go.Proofs.Ytjjapnphljhicab.stepkit Go.Proofs.Ytjjapnphljhicab.row Go.Proofs.Ytjjapnphljhicab.mix Go.Proofs.Ytjjapnphljhicab.obj Go.Proofs.Ytjjapnphljhicab.eqkit Go.Proofs.Ytjjapnphljhicab.commkit Go.Proofs.Ytjjapnphljhicab.idkit Go.Proofs.Ytjjapnphljhicab.argkit

/-- The box, what was put, what was taken: each by itself. -/
structure OrdAt (B : Nat) (w0 : World) (m : Nat) (P G l : List Ou) (vp vg : Value) (lost : Int) (F : Nat → Prop) (w : World) : Prop where
  box : OutAt (B + 1) m l lost F w
  sp : OSl w vp P
  sg : OSl w vg G
  fp : ∀ i, F i → ¬ blk vp i
  fg : ∀ i, F i → ¬ blk vg i
  pg : ∀ i, blk vp i → ¬ blk vg i
  fB : ∀ i, F i → B ≤ i
  pB : ∀ i, blk vp i → B ≤ i
  gB : ∀ i, blk vg i → B ≤ i
  below : Below B w0 w
  size : B ≤ w.heap.size

theorem OrdAt.still {B : Nat} {w0 : World} {m : Nat} {P G l : List Ou} {vp vg : Value} {lost : Int} {F : Nat → Prop} {w w' : World} (h : OrdAt B w0 m P G l vp vg lost F w) (ht : Turns nobody w w') : OrdAt B w0 m P G l vp vg lost F w' :=
  ⟨(local_out _ _ _ _).keep h.box ht (fun _ _ h => h), Sl.keep h.sp ht (fun _ _ h => h), Sl.keep h.sg ht (fun _ _ h => h), h.fp, h.fg, h.pg, h.fB, h.pB, h.gB, h.below.trans (ht.below h.size (fun _ h => h.elim)), Nat.le_trans h.size ht.size⟩
theorem OrdAt.step {B : Nat} {w0 : World} {m : Nat} {P G l l' : List Ou} {vp vg : Value} {lost lost' : Int} {F : Nat → Prop} {w w' : World} (h : OrdAt B w0 m P G l vp vg lost F w) (hs : Step F (OutAt (B + 1) m l' lost') w w') : ∃ F', OrdAt B w0 m P G l' vp vg lost' F' w' := by
  obtain ⟨F', ha, ht, hn⟩ := hs
  have hp := (show Sl _ _ _ _ _ _ from h.sp).lt
  have hg := (show Sl _ _ _ _ _ _ from h.sg).lt
  exact ⟨F', ha, Sl.keep h.sp ht (fun i hi hf => h.fp i hf hi), Sl.keep h.sg ht (fun i hi hf => h.fg i hf hi), fun i hi hb => by rcases hn i hi with h1 | h1; exact h.fp i h1 hb; have := hp i hb; omega,
    fun i hi hb => by rcases hn i hi with h1 | h1; exact h.fg i h1 hb; have := hg i hb; omega, h.pg, fun i hi => by rcases hn i hi with h1 | h1; exact h.fB i h1; exact Nat.le_trans h.size h1, h.pB, h.gB, h.below.trans (ht.below h.size h.fB), Nat.le_trans h.size ht.size⟩
theorem osl_of {w : World} {v : Value} {P Q : List Ou} {n : Nat} (h : Sl w 29 2 v (P.length + n) (ocells P ++ ocells Q)) (hn : n = Q.length) : OSl w v (P ++ Q) := by
  subst hn
  unfold OSl
  rw [List.length_append, ocells_append]
  exact h
theorem OrdAt.appP {B : Nat} {w0 : World} {m n : Nat} {P Q G l : List Ou} {vp vg v' : Value} {lost : Int} {F : Nat → Prop} {w w' : World} (h : OrdAt B w0 m P G l vp vg lost F w) (h1 : Sl w' 29 2 v' (P.length + n) (ocells P ++ ocells Q)) (hn : n = Q.length) (ht : Turns (blk vp) w w') (hw : Newer vp v' w) : OrdAt B w0 m (P ++ Q) G l v' vg lost F w' := by
  have hf := (local_out _ _ _ _ _ _ h.box).1
  have hg := (show Sl _ _ _ _ _ _ from h.sg).lt
  exact ⟨(local_out _ _ _ _).keep h.box ht h.fp, osl_of h1 hn, Sl.keep h.sg ht (fun i hi hf => h.pg i hf hi), fun i hi hb => by rcases hw i hb with h1 | h1; exact h.fp i hi h1; have := hf i hi; omega, h.fg,
    fun i hi hb => by rcases hw i hi with h1 | h1; exact h.pg i h1 hb; have := hg i hb; omega, h.fB, fun i hi => by rcases hw i hi with h1 | h1; exact h.pB i h1; exact Nat.le_trans h.size h1, h.gB, h.below.trans (ht.below h.size h.pB), Nat.le_trans h.size ht.size⟩
theorem OrdAt.appG {B : Nat} {w0 : World} {m n : Nat} {P Q G l : List Ou} {vp vg v' : Value} {lost : Int} {F : Nat → Prop} {w w' : World} (h : OrdAt B w0 m P G l vp vg lost F w) (h1 : Sl w' 29 2 v' (G.length + n) (ocells G ++ ocells Q)) (hn : n = Q.length) (ht : Turns (blk vg) w w') (hw : Newer vg v' w) : OrdAt B w0 m P (G ++ Q) l vp v' lost F w' := by
  have hf := (local_out _ _ _ _ _ _ h.box).1
  have hp := (show Sl _ _ _ _ _ _ from h.sp).lt
  exact ⟨(local_out _ _ _ _).keep h.box ht h.fg, Sl.keep h.sp ht (fun i hi hf => h.pg i hi hf), osl_of h1 hn, h.fp, fun i hi hb => by rcases hw i hb with h1 | h1; exact h.fg i hi h1; have := hf i hi; omega,
    fun i hi hb => by rcases hw i hb with h1 | h1; exact h.pg i hi h1; have := hp i hi; omega, h.fB, h.pB, fun i hi => by rcases hw i hi with h1 | h1; exact h.gB i h1; exact Nat.le_trans h.size h1, h.below.trans (ht.below h.size h.gB), Nat.le_trans h.size ht.size⟩

theorem ord_start {w w1 : World} {m : Nat} (h : w1 = (w.alloc (.chan m #[] false 0 0 false)).alloc (.cells #[.chan (some w.heap.size), .int .i64 0] 47)) :
    ∃ F, OrdAt w.heap.size w m [] [] [] (.slice none 0 0) (.slice none 0 0) 0 F w1 := by
  have hz1 : w1.heap.size = w.heap.size + 2 := by rw [h]; simp
  have ha : OutAt (w.heap.size + 1) m [] 0 (fun i => i = w.heap.size + 1 ∨ i = w.heap.size) w1 := by
    refine ⟨w.heap.size, 0, 0, ?_, ?_, by omega, rfl⟩
    · rw [h]
      have := heap_alloc_new (w.alloc (.chan m #[] false 0 0 false)) (.cells #[.chan (some w.heap.size), .int .i64 0] 47)
      rwa [World.size_alloc] at this
    · rw [h, heap_alloc_old _ _ (by simp)]
      exact heap_alloc_new w _
  have ht : Turns nobody w w1 := by rw [h]; exact ((Turns.refl _ _).alloc _).alloc _
  exact ⟨_, ha, Sl.nil _ _ _, Sl.nil _ _ _, (fun _ _ h => by cases h), (fun _ _ h => by cases h), (fun _ h => by cases h), fun i hi => by rcases hi with rfl | rfl <;> omega, (fun _ h => by cases h), (fun _ h => by cases h), ht.below (Nat.le_refl _) (fun _ h => h.elim), by omega⟩

set_option maxRecDepth 20000 in
set_option maxHeartbeats 4000000 in
theorem order_any (z : Nat) (hz : z ≤ 255) (ao : Option Addr) (rows : List (List Value)) (cap : Nat) (w : World) (hcap : rows.length ≤ maxLen) (hrow : RowsAt w w.heap.size 4 ao rows) (hfit : ∀ r ∈ rows, Fits actKinds r) :
    Calls Try.prog 5 #[.int .u8 z, .slice ao rows.length cap] w fun e w' => e = .returned (.bool true) ∧ Below w.heap.size w w' := by
  unfold maxLen at hcap
  obtain ⟨i0, hi, hz0, hzz1, hzz2⟩ := info_parts infoOu
  obtain ⟨q, hq⟩ : ∃ q, z % 20 = q := ⟨_, rfl⟩
  have hq20 : q < 20 := by rw [← hq]; exact Nat.mod_lt _ (by decide)
  have hqm : Int.tmod (z : Int) 20 = (q : Int) := by rw [Int.tmod_eq_emod_of_nonneg (by omega)]; omega
  clear hq
  obtain ⟨B, hB⟩ : ∃ B, w.heap.size = B := ⟨_, rfl⟩
  rw [hB] at hrow ⊢
  have hN := new_ok (1 + q) w (by omega) (by omega)
  have e1 : ((1 + q : Nat) : Int) = 1 + (q : Int) := by omega
  rw [e1] at hN
  clear e1
  go_enter Try.func5, Try.ntmps5
  go_wp2_with (go_at_call 7; refine hN.mono ?_; rintro e w1 ⟨rfl, hw1⟩; have hp := ord_start hw1; rw [hB] at hp ⊢; have HP := Lib.hid hp; clear hp hw1 hB)
  clear hN
  have hm0 : 1 + q = 1 + q := rfl
  generalize hm : 1 + q = m at hm0 HP
  clear hm0
  go_loopw [10, 7, 8, 9] (fun i vp vg lo wr => ∃ (j lost : Nat) (P G l : List Ou), j ≤ rows.length ∧ j ≤ 100 ∧ i = .int .i64 j ∧ lo = .int .i64 lost ∧ P.length ≤ j ∧ lost ≤ j ∧ l.length ≤ m ∧ P = G ++ l ∧ ∃ F, OrdAt B w m P G l vp vg lost F wr) (fun i _ _ _ _ => 100 - (intOf i).toNat)
  case atStart => exact ⟨0, 0, [], [], [], by omega, by omega, rfl, rfl, by simp, by omega, by simp, rfl, HP.out⟩
  case round =>
    obtain ⟨j, lost, P, G, l, hj, hj100, rfl, rfl, hPj, hlj, hlm, hsum, F, hd⟩ := hrel
    obtain ⟨pao, pcap, rfl, _⟩ := (show Sl _ _ _ _ _ _ from hd.sp).shape
    obtain ⟨gao, gcap, rfl, _⟩ := (show Sl _ _ _ _ _ _ from hd.sg).shape
    have HPG : Hid (P.length = G.length + l.length) := Lib.hid (by rw [hsum, List.length_append])
    by_cases hlt : j < rows.length ∧ j < 100
    · obtain ⟨h1, h2⟩ := hlt
      obtain ⟨bb, oo, rfl, hbb, hcell⟩ := hrow (by omega)
      have hmem : rows.getD j [] ∈ rows := by rw [List.getD, List.getElem?_eq_getElem h1]; exact List.getElem_mem _
      obtain ⟨k, t, n, b, hr⟩ := act_row (hfit _ hmem)
      have gg : ∀ W, Below B w W → W.cell? ⟨bb, oo + j * 4, none⟩ = some (.int .i64 k) ∧ W.cell? ⟨bb, oo + j * 4 + 1, none⟩ = some (.int .i64 t) ∧ W.cell? ⟨bb, oo + j * 4 + 2, none⟩ = some (.string b) ∧ W.cell? ⟨bb, oo + j * 4 + 3, none⟩ = some (.int .i64 n) := fun W hW => by
        have hc := fun (i : Nat) (hi : i < 4) => (hW.cell (p := ⟨bb, oo + j * 4 + i, none⟩) hbb).trans (hcell j h1 i hi)
        rw [hr] at hc
        exact ⟨hc 0 (by omega), hc 1 (by omega), hc 2 (by omega), hc 3 (by omega)⟩
      have HG := Lib.hid gg
      obtain ⟨d0, d1, d2, d3⟩ := gg _ hd.below
      have HSUM := Lib.hid hsum
      clear gg hr hmem hcell hrow hsum
      have hkk : (k = 0 ∨ k = 1) ∨ (¬ k = 0 ∧ ¬ k = 1) := by omega
      rcases hkk with hkk | ⟨n0, n1⟩
      · by_cases hroom : l.length < m
        · rcases hkk with rfl | rfl
          all_goals
            have hput := put_room (B + 1) m l lost ⟨t, b⟩ F _ hd.box hroom
            simp only [Ou.val] at hput
            go_wp2_with first
              | (go_at_call 8; refine hput.mono ?_; rintro e w2 ⟨rfl, hs⟩; obtain ⟨F2, hd2⟩ := hd.step hs; clear d0 d1 d2 d3; obtain ⟨d0, d1, d2, d3⟩ := HG.out _ hd2.below; have hbw : bb < w2.heap.size := (by have := hd2.size; omega); have HA := Lib.hid (hd2.still ((Turns.refl nobody w2).alloc (.cells #[.int .i64 t, .string b] 29))); have HQ := Lib.hid (one_src (x := ⟨t, b⟩) (heap_alloc_new w2 (.cells #[.int .i64 t, .string b] 29))); clear hs hd hd2 hput)
              | (at_builtin; refine wpList_append_sl rfl _ _ 30 rfl Try.underlying30 hi hz0 hzz1 hzz2 rfl (by decide) rfl rfl HA.out.sp HQ.out (by unfold maxLen; omega) (by omega) ?_; intro v5 w5 h5 t5 n5 _; have hO := HA.out.appP (Q := [⟨t, b⟩]) h5 rfl t5 n5; obtain ⟨pao5, pcap5, rfl, _⟩ := h5.shape; clear h5 t5 n5 d0 d1 d2 d3)
              | (go_at_call 15; refine (len_any _ _ _ _ _ _ hO.box).mono ?_; rintro e w7 ⟨rfl, rfl⟩; simp only [List.length_append, List.length_singleton]; have hdf : (P.length : Int) + 1 - (G.length : Int) = (l.length : Int) + 1 := (by have := HPG.out; omega))
              | (go_at_call 10; refine (lost_any _ _ _ _ _ _ hO.box).mono ?_; rintro e w7 ⟨rfl, rfl⟩)
            have HO := Lib.hid hO
            clear hO
            go_roundw
            case rel => exact ⟨j + 1, lost, P ++ [⟨t, b⟩], G, l ++ [⟨t, b⟩], by omega, by omega, by go_num, rfl, by simp; omega, by omega, by simp; omega, by rw [HSUM.out]; simp, F2, HO.out⟩
            case measure => simp [intOf]; omega
        · rcases hkk with rfl | rfl
          all_goals
            have hput := put_full (B + 1) m l lost ⟨t, b⟩ F _ hd.box (by omega) (by omega) (by omega)
            have e1 : min ((lost : Int) + 1) 1000 = ((lost + 1 : Nat) : Int) := by omega
            rw [e1] at hput
            simp only [Ou.val] at hput
            have e2 : ((lost + 1 : Nat) : Int) = (lost : Int) + 1 := by omega
            have hdf : (P.length : Int) - (G.length : Int) = (l.length : Int) := by have := HPG.out; omega
            clear e1
            go_wp2_with first
              | (go_at_call 8; refine hput.mono ?_; rintro e w2 ⟨rfl, hs⟩; obtain ⟨F2, hO⟩ := hd.step hs; clear d0 d1 d2 d3; clear hs hd hput)
              | (go_at_call 15; refine (len_any _ _ _ _ _ _ hO.box).mono ?_; rintro e w7 ⟨rfl, rfl⟩)
              | (go_at_call 10; refine (lost_any _ _ _ _ _ _ hO.box).mono ?_; rintro e w7 ⟨rfl, rfl⟩; rw [e2])
            have HO := Lib.hid hO
            clear hO
            go_roundw
            case rel => exact ⟨j + 1, lost + 1, P, G, l, by omega, by omega, by go_num, by go_num, by omega, by omega, hlm, HSUM.out, F2, HO.out⟩
            case measure => simp [intOf]; omega
      · have m1 : (k == 0) = false := by simpa using n0
        have m2 : (k == 1) = false := by simpa using n1
        obtain ⟨r, hr⟩ : ∃ r, r = min n.toNat l.length := ⟨_, rfl⟩
        have hrl : r ≤ l.length := by omega
        have HR : Hid ((l.take r).length = r) := Lib.hid (by rw [List.length_take]; omega)
        have htake := take_any (B + 1) m l lost n F _ hd.box (by omega) r hr
        have HDL : Hid ((l.drop r).length + r = l.length) := Lib.hid (by rw [List.length_drop]; omega)
        clear hr
        obtain ⟨l1, hl1⟩ : ∃ l1, l.take r = l1 := ⟨_, rfl⟩
        obtain ⟨l2, hl2⟩ : ∃ l2, l.drop r = l2 := ⟨_, rfl⟩
        have HL : Hid (l = l1 ++ l2) := Lib.hid (by rw [← hl1, ← hl2, List.take_append_drop])
        rw [hl1] at htake HR
        rw [hl2] at htake HDL
        clear hl1 hl2
        have hl1l : l1.length ≤ 100 := by have := HR.out; omega
        go_wp2_with first
          | (go_at_call 9; refine htake.mono ?_; rintro e w2 ⟨v2, rfl, s2, _, hs⟩; obtain ⟨F2, hd2⟩ := hd.step hs; clear d0 d1 d2 d3; have HQ := Lib.hid (Sl.src s2 (ocells_one _)); have HA := Lib.hid hd2; clear hs hd hd2 s2 htake)
          | (at_builtin; refine wpList_append_sl rfl _ _ 30 rfl Try.underlying30 hi hz0 hzz1 hzz2 rfl (by decide) rfl rfl HA.out.sg HQ.out (by unfold maxLen; have := HPG.out; omega) (by have := HPG.out; omega) ?_; intro v5 w5 h5 t5 n5 _; have hO := HA.out.appG h5 rfl t5 n5; obtain ⟨gao5, gcap5, rfl, _⟩ := h5.shape; clear h5 t5 n5)
          | (go_at_call 15; refine (len_any _ _ _ _ _ _ hO.box).mono ?_; rintro e w7 ⟨rfl, rfl⟩; have hdf : (P.length : Int) - ((G.length : Int) + (l1.length : Int)) = (l2.length : Int) := (by have := HPG.out; have := HR.out; have := HDL.out; omega); have hl2m : (l2.length : Int) ≤ 1 + (q : Int) := (by have := HDL.out; omega))
          | (go_at_call 10; refine (lost_any _ _ _ _ _ _ hO.box).mono ?_; rintro e w7 ⟨rfl, rfl⟩)
        have HO := Lib.hid hO
        clear hO
        go_roundw
        case rel => exact ⟨j + 1, lost, P, G ++ l1, l2, by omega, by omega, by go_num, rfl, by omega, by omega, by have := HDL.out; omega, by rw [HSUM.out, HL.out, List.append_assoc], F2, HO.out⟩
        case measure => simp [intOf]; omega
    · have hex : rows.length ≤ j ∨ (j < rows.length ∧ 100 ≤ j) := by omega
      have htake := take_any (B + 1) m l lost 200 F _ hd.box (by omega) l.length (by have : (200 : Int).toNat = 200 := rfl; omega)
      rw [List.take_length, List.drop_length] at htake
      have HSUM := Lib.hid hsum
      clear hlt hrow hsum
      rcases hex with hex | ⟨hex1, hex2⟩
      all_goals
        go_wp2_with first
          | (go_at_call 9; refine htake.mono ?_; rintro e w2 ⟨v2, rfl, s2, _, hs⟩; obtain ⟨F2, hd2⟩ := hd.step hs; have HQ := Lib.hid (Sl.src s2 (ocells_one _)); have HA := Lib.hid hd2; clear hs hd hd2 s2 htake)
          | (at_builtin; refine wpList_append_sl rfl _ _ 30 rfl Try.underlying30 hi hz0 hzz1 hzz2 rfl (by decide) rfl rfl HA.out.sg HQ.out (by unfold maxLen; have := HPG.out; omega) (by have := HPG.out; omega) ?_; intro v5 w5 h5 t5 n5 _; have hO := HA.out.appG h5 rfl t5 n5; rw [← HSUM.out] at hO; clear h5 t5 n5)
          | (go_at_call 13; refine (same_any _ _ P _ hO.sg hO.sp (by omega)).mono ?_; rintro e w4 ⟨rfl, hw4⟩; have hO4 := hO.still (Turns.drawn hw4); clear hw4 hO)
          | (go_at_call 15; refine (len_any _ _ _ _ _ _ hO4.box).mono ?_; rintro e w7 ⟨rfl, rfl⟩)
          | (go_at_call 11; refine (awake_any _).mono ?_; rintro e w6 ⟨rfl, hw6⟩)
        go_ret
        exact ⟨rfl, hO4.below.trans (hw6.below hO4.size (fun _ h => h.elim))⟩

end Go.Proofs.Ytjjapnphljhicab.outbox
