/- NetDelivers: each that was put, and not lost, arrives once. -/
import Derived.Test.YtjjapnphljhicaaNetBoth
import Derived.Test.YtjjapnphljhicaaFlatKit
import Derived.Deep.CutRange
import Derived.Deep.DeepCutAuto
namespace Go.Proofs.Ytjjapnphljhicaa.net
open Go.RowKit
open Go.Proofs.Ytjjapnphljhicaa.stepkit Go.Proofs.Ytjjapnphljhicaa.row Go.Proofs.Ytjjapnphljhicaa.mix Go.Proofs.Ytjjapnphljhicaa.obj Go.Proofs.Ytjjapnphljhicaa.eqkit Go.Proofs.Ytjjapnphljhicaa.argkit

def pcKinds : List TypeDesc := [.int .i64, .int .i64, .string]

theorem pc_row {r : List Value} (h : Fits pcKinds r) : ∃ p : Pc, r = p.cs := by
  obtain ⟨_, r1, rfl, ⟨f, rfl, _⟩, h1⟩ := h.cons
  obtain ⟨_, r2, rfl, ⟨t, rfl, _⟩, h2⟩ := h1.cons
  obtain ⟨_, r3, rfl, ⟨b, rfl, _⟩, h3⟩ := h2.cons
  obtain rfl := h3.nil
  exact ⟨⟨f, t, b⟩, rfl⟩

/-- Rows of parcels are parcels. -/
theorem pc_rows : ∀ (rows : List (List Value)), (∀ r ∈ rows, Fits pcKinds r) → ∃ l : List Pc, rows = l.map Pc.cs
  | [], _ => ⟨[], rfl⟩
  | r :: rows, h => by
    obtain ⟨p, hp⟩ := pc_row (h r (by simp))
    obtain ⟨l, hl⟩ := pc_rows rows (fun r hr => h r (by simp [hr]))
    exact ⟨p :: l, by rw [hp, hl]; rfl⟩

/-- What came in reads as these parcels. -/
def InAt (w : World) (B : Nat) (ao : Option Addr) (l : List Pc) : Prop :=
  0 < l.length → ∃ b o, ao = some ⟨b, o, none⟩ ∧ b < B ∧ ∀ i, i < l.length → w.cell? ⟨b, o + i * 3, none⟩ = some (.int .i64 (l.getD i pc0).f) ∧ w.cell? ⟨b, o + i * 3 + 1, none⟩ = some (.int .i64 (l.getD i pc0).t) ∧ w.cell? ⟨b, o + i * 3 + 2, none⟩ = some (.string (l.getD i pc0).b)

theorem in_at {w : World} {B : Nat} {ao : Option Addr} {l : List Pc} (h : RowsAt w B 3 ao (l.map Pc.cs)) : InAt w B ao l := by
  intro h0
  obtain ⟨b, o, h1, h2, h3⟩ := h (by simpa using h0)
  refine ⟨b, o, h1, h2, fun i hi => ?_⟩
  have hc := fun j (hj : j < 3) => h3 i (by simpa using hi) j hj
  have hg : (l.map Pc.cs).getD i [] = (l.getD i pc0).cs := by simp [List.getD, hi]
  rw [hg] at hc
  exact ⟨hc 0 (by omega), hc 1 (by omega), hc 2 (by omega)⟩

theorem InAt.src {w : World} {B : Nat} {ao : Option Addr} {l : List Pc} {cap : Nat} (h : InAt w B ao l) (h0 : l.length = 0 → (ao = none ∧ cap = 0) ∨ ∃ a, ao = some a) : Src w 3 (.slice ao l.length cap) l.length (pcells l) := by
  refine ⟨pcells_len l, pcells_one l, ?_⟩
  by_cases hl : l.length = 0
  · rcases h0 hl with ⟨rfl, rfl⟩ | ⟨a, rfl⟩
    · exact Or.inl ⟨by rw [hl], hl⟩
    · refine Or.inr ⟨a, cap, rfl, fun j u hj => ?_⟩
      have := (List.getElem?_eq_some_iff.1 hj).1
      rw [pcells_len] at this
      omega
  · obtain ⟨b, o, rfl, _, hc⟩ := h (by omega)
    refine Or.inr ⟨_, cap, rfl, fun j u hj => ?_⟩
    have hj' : j < (pcells l).length := (List.getElem?_eq_some_iff.1 hj).1
    have hu : (pcells l).getD j undef = u := by simp [List.getD, hj]
    rw [pcells_len] at hj'
    have hd : j / 3 * 3 + j % 3 = j := by omega
    have hg := pcells_get l (j / 3) (j % 3) (by omega) (by omega)
    rw [hd, hu] at hg
    obtain ⟨c0, c1, c2⟩ := hc (j / 3) (by omega)
    rw [Addr.add_lit]
    obtain hm | hm | hm : j % 3 = 0 ∨ j % 3 = 1 ∨ j % 3 = 2 := by omega
    · rw [hm] at hg hd; rw [← hd, hg, ← Nat.add_assoc]; exact c0
    · rw [hm] at hg hd; rw [← hd, hg, ← Nat.add_assoc]; exact c1
    · rw [hm] at hg hd; rw [← hd, hg, ← Nat.add_assoc]; exact c2

/-- A slice of parcels in a variable. -/
def LeftAt (v : Value) (l : List Pc) : (Nat → Prop) → World → Prop := fun F w => PSl w v l ∧ F = blk v
theorem local_left (v : Value) (l : List Pc) : Local (LeftAt v l) := by
  rintro F w ⟨h, rfl⟩
  exact ⟨Sl.lt h, fun w' _ hh => ⟨Sl.of_heap h hh, rfl⟩⟩
theorem left_new {v' : Value} {l' : List Pc} {G : Nat → Prop} {w w' : World} (h : PSl w' v' l') (ht : Turns nobody w w') (hf : ∀ k, blk v' k → w.heap.size ≤ k) : Step G (LeftAt v' l') w w' :=
  ⟨_, ⟨h, rfl⟩, ht.mono (fun _ h => h.elim), fun i hi => Or.inr (hf i hi)⟩

theorem deliver_none (p : Nat) (lost : Int) (F : Nat → Prop) (w : World) (h : NetAt p [] lost F w) :
    Calls Try.prog 10 #[.pointer (some ⟨p, 0, none⟩), .int .i64 0] w fun e w' => e = .returned (.tuple #[pc0.val, .int .i64 7]) ∧ Turns nobody w w' :=
  deliver_bad p _ 0 7 w (by decide) fun w' ht => place_none p lost 0 F w' ((local_net p [] lost).keep h ht (fun _ _ h => h)) (by omega)

set_option maxRecDepth 20000 in
set_option maxHeartbeats 4000000 in
theorem delivers_any (ao : Option Addr) (l : List Pc) (ca : Nat) (bo : Option Addr) (ys : List Int) (cb : Nat) (w : World) (hca : l.length ≤ maxLen) (hcb : ys.length ≤ maxLen) (hin : InAt w w.heap.size ao l) (hao : ao = none → ca = 0)
    (hby : RowAt w w.heap.size bo (ys.map (Value.int .u8))) (hyb : ∀ z ∈ ys, 0 ≤ z ∧ z ≤ 255) :
    Calls Try.prog 3 #[.slice ao l.length ca, .slice bo ys.length cb] w fun e w' => e = .returned (.bool true) ∧ Below w.heap.size w w' := by
  unfold maxLen at hca hcb
  have hsrc := hin.src (cap := ca) (fun h => by cases ao with | none => exact Or.inl ⟨rfl, hao rfl⟩ | some a => exact Or.inr ⟨a, rfl⟩)
  have HSRC := Lib.hid hsrc
  clear hsrc hao
  obtain ⟨B, hB⟩ : ∃ B, w.heap.size = B := ⟨_, rfl⟩
  rw [hB] at hin hby ⊢
  by_cases h60 : 60 < l.length
  · clear hin hby
    go_enter Try.func3, Try.ntmps3
    go_wp2_with first
      | (go_at_call 7; refine (new_any _).mono ?_; rintro e w1 ⟨rfl, hw1⟩; obtain ⟨F, hd⟩ := duo_new hw1; rw [hB] at hd ⊢; clear hw1)
      | (go_at_call 8; refine (awake_any _).mono ?_; rintro e w4 ⟨rfl, hw4⟩)
    go_ret
    exact ⟨rfl, hd.below.trans (hw4.mono hd.size)⟩
  · have HIN := Lib.hid hin
    have HBY := Lib.hid hby
    clear hin hby
    obtain ⟨i0, hi, hz0, hzz1, hzz2⟩ := info_parts infoPc
    go_enter Try.func3, Try.ntmps3
    go_wp2_with first
      | (go_at_call 7; refine (new_any _).mono ?_; rintro e w1 ⟨rfl, hw1⟩; obtain ⟨F, hd⟩ := duo_new hw1; have HQ := Lib.hid (HSRC.out.keep (w' := w1) (F := nobody) (by rw [hw1]; exact (Turns.refl _ _).alloc _) (fun _ _ h => h)); rw [hB] at hd ⊢; clear hw1 hB)
      | (at_builtin; refine wpList_append_sl rfl _ _ 22 rfl Try.underlying22 hi hz0 hzz1 hzz2 rfl (by decide) rfl rfl (Sl.empty (heap_alloc_new _ _) (Nat.zero_le _)) (HQ.out.alloc _) (by unfold maxLen; omega) (by omega) ?_)
    intro v6 w2 h6 _ hn6 hc6
    try simp only [Nat.zero_add, List.nil_append] at h6
    have hd2 := hd.right (C' := LeftAt v6 l) (local_net _ _ _) (left_new h6 (((Turns.refl _ _).alloc _).trans (hc6 _ rfl).1 (fun _ h => h.elim)) (fun k hk => by
      rcases hn6 k hk with h | h
      · simp only [blk, Value.ownBlock, Option.some.injEq] at h; omega
      · rw [World.size_alloc] at h; omega))
    have HD2 := Lib.hid hd2
    clear hd2 hd h6 hn6 hc6 HQ HSRC
    go_wp2
    go_loopw [7] (fun c wr => ∃ j : Nat, j ≤ l.length ∧ c = .int .i64 j ∧ ∃ F G, Duo B w (NetAt B (l.take j) 0) (LeftAt v6 l) F G wr) (fun c _ => l.length - (intOf c).toNat)
    case atStart => exact ⟨0, Nat.zero_le _, rfl, F, HD2.out⟩
    case round =>
      clear HD2 F
      obtain ⟨j, hj, rfl, F, G, hd⟩ := hrel
      by_cases hlt : j < l.length
      · obtain ⟨g, o, rfl, hgb, hc⟩ := HIN.out (by omega)
        obtain ⟨c0, c1, c2⟩ := hc j hlt
        have x0 := (hd.below.cell (p := ⟨g, o + j * 3, none⟩) hgb).trans c0
        have x1 := (hd.below.cell (p := ⟨g, o + j * 3 + 1, none⟩) hgb).trans c1
        have x2 := (hd.below.cell (p := ⟨g, o + j * 3 + 2, none⟩) hgb).trans c2
        have hput := put_ok B (l.take j) 0 (l.getD j pc0) F wr hd.a (by rw [List.length_take]; omega)
        have he : l.take j ++ [l.getD j pc0] = l.take (j + 1) := by
          rw [List.take_succ_eq_append_getElem hlt]
          simp [List.getD, hlt]
        rw [he] at hput
        generalize l.getD j pc0 = x at *
        unfold Pc.val at hput
        clear hc c0 c1 c2 he
        go_wp2_with (go_at_call 9; refine hput.mono ?_; rintro e w3 ⟨rfl, hs⟩)
        obtain ⟨F2, hd2⟩ := hd.left (local_left _ _) hs
        go_roundw
        case rel => exact ⟨j + 1, by omega, by go_num, _, _, hd2⟩
        case measure => simp [intOf]; omega
      · obtain rfl : j = l.length := by omega
        have hd0 : ∃ F G, Duo B w (NetAt B l 0) (LeftAt v6 l) F G wr := ⟨F, G, by have := hd; rwa [List.take_length] at this⟩
        have HD0 := Lib.hid hd0
        clear hd hd0 hlt HIN
        go_wp2
        obtain ⟨wo, rfl⟩ : ∃ wo : World, wo = wr := ⟨_, rfl⟩
        go_loopw [8, 6] (fun c v wr => ∃ (j : Nat) (cur : List Pc), j ≤ l.length ∧ cur.length = l.length - j ∧ c = .int .i64 j ∧ ∃ F G, Duo B w (NetAt B cur 0) (LeftAt v cur) F G wr) (fun c _ _ => l.length - (intOf c).toNat)
        case atStart => exact ⟨0, l, Nat.zero_le _, rfl, rfl, HD0.out⟩
        case round =>
          clear HD0
          obtain ⟨j, cur, hj, hcur, rfl, F, G, hd⟩ := hrel
          have HCUR := Lib.hid hcur
          by_cases hlt : j < l.length
          · have hc0 : 0 < cur.length := by omega
            have hcl : cur.length ≤ 60 := by omega
            obtain ⟨g, o, cap, hv, _⟩ := Sl.some_of_pos hd.c.1 hc0
            subst hv
            go_upto_if 45 with fail
            go_cut [9] from 36 to 80 (fun v wc => wr = wc ∧ ∃ kk : Nat, v = .int .i64 kk)
            case first =>
              by_cases hy : j < ys.length
              · obtain ⟨yb, yo, rfl, hyB, hyc⟩ := HBY.out (by simpa using (by omega : 0 < ys.length))
                have hz := hyb (ys.getD j 0) (by simp [List.getD, hy])
                have hyj : wr.cell? ⟨yb, yo + j, none⟩ = some (.int .u8 (ys.getD j 0)) := by
                  have := (hd.below.cell (p := ⟨yb, yo + j, none⟩) hyB).trans (hyc j (by simpa using hy))
                  rw [this]; simp [List.getD, hy]
                obtain ⟨kk, hkk⟩ : ∃ kk : Nat, ys.getD j 0 = (kk : Int) := ⟨(ys.getD j 0).toNat, by omega⟩
                rw [hkk] at hyj hz
                clear hyc hkk hcur
                go_wp2_with fail
                go_meet
                exact ⟨rfl, kk, rfl⟩
              · go_wp2_with fail
                go_meet
                exact ⟨rfl, 0, rfl⟩
            case rest =>
              obtain ⟨rfl, kk, rfl⟩ := hcut
              clear hcur
              have hil : kk % cur.length < cur.length := Nat.mod_lt _ hc0
              have hdel := deliver_ok B cur 0 kk F wr hd.a hc0 (by omega)
              have HM : Hid ((kk : Int) % (cur.length : Int) = ((kk % cur.length : Nat) : Int)) := rfl
              have HN : Hid ((cur.take (kk % cur.length) ++ cur.drop (kk % cur.length + 1)).length = cur.length - 1) := by rw [List.length_append, List.length_take, List.length_drop]; exact Lib.hid (by omega)
              obtain ⟨x, hx⟩ : ∃ x, cur.getD (kk % cur.length) pc0 = x := ⟨_, rfl⟩
              have HCX : Hid (∀ W, PSl W (.slice (some ⟨g, o, none⟩) cur.length cap) cur → W.cell? ⟨g, o + kk % cur.length * 3, none⟩ = some (.int .i64 x.f) ∧ W.cell? ⟨g, o + kk % cur.length * 3 + 1, none⟩ = some (.int .i64 x.t) ∧ W.cell? ⟨g, o + kk % cur.length * 3 + 2, none⟩ = some (.string x.b)) := Lib.hid (fun W hW => by have := PSl.cell hW _ hil; rw [hx] at this; exact this)
              rw [hx] at hdel
              generalize hmm : kk % cur.length = m at *
              obtain ⟨cur', hcur'⟩ : ∃ cur', cur' = cur.take m ++ cur.drop (m + 1) := ⟨_, rfl⟩
              have HCUR' := Lib.hid hcur'
              rw [← hcur'] at hdel
              have he := fun w => (eq_pc x w).1
              simp only [Pc.val] at hdel he
              have hn1 : (1 : Int) ≤ cur.length := by omega
              have hn0 : ¬ cur.length = 0 := by omega
              clear hx hmm hcur'
              go_upto_region 18 with (go_at_call 10; refine hdel.mono ?_; rintro e w3 ⟨rfl, hs⟩; obtain ⟨F2, hd2⟩ := hd.left (local_left _ _) hs; clear hs hd)
              rw [HM.out]
              have hd3 := hd2.still (local_net _ _ _) (local_left _ _) ((Turns.refl nobody _).alloc (.cells #[.int .i64 x.f, .int .i64 x.t, .string x.b] 30))
              have hx3 := heap_alloc_new w3 (.cells #[.int .i64 x.f, .int .i64 x.t, .string x.b] 30)
              obtain ⟨w4, hw4⟩ : ∃ w4, w4 = w3.alloc (.cells #[.int .i64 x.f, .int .i64 x.t, .string x.b] 30) := ⟨_, rfl⟩
              rw [← hw4] at hd3 hx3 ⊢
              clear hw4 hd2 hdel
              obtain ⟨y0, y1, y2⟩ := HCX.out _ hd3.c.1
              have x0 := cells_of hx3 0 _ rfl
              have x1 := cells_of hx3 1 _ rfl
              have x2 := cells_of hx3 2 _ rfl
              refine wp_region_mix [(0, true, true), (1, true, true), (2, true, true), (3, true, true), (4, true, true), (5, true, true), (6, true, true), (7, true, true), (8, true, true), (9, true, true)] (fun W => W = w4.drew) (by kernel_rfl) (by kernel_rfl) (rfl) ?_
              simp only [picked, List.filterMap_cons, List.filterMap_nil, List.getElem?_toArray, List.getElem?_cons_zero, List.getElem?_cons_succ, Option.map_some]
              repeat (refine mix_free (v := ?_) rfl ?_ ?_; rotate_left; (focus (intro w' hI; subst hI; have hm0 : (0 : Int) ≤ m := (by omega); have hm1 : (m : Int) < cur.length := (by omega); go_simp; try with_reducible rfl)); simp only [Act.put, List.setIfInBounds_toArray, List.set_cons_zero, List.set_cons_succ])
              refine mix_nil ?_
              clear x0 x1 x2 y0 y1 y2 hx3
              go_wp2
              obtain ⟨w5, hw5⟩ : ∃ w5, w5 = w4.drew := ⟨_, rfl⟩
              have hd5 := hd3.still (local_net _ _ _) (local_left _ _) ((Turns.refl nobody _).drew)
              rw [← hw5] at hd5 ⊢
              clear hw5 hd3
              obtain ⟨a1, ha1⟩ : ∃ a1, Go.sliced (some ⟨g, o, none⟩) 0 m cap 3 = .slice a1 m cap := ⟨_, rfl⟩
              obtain ⟨a2, ha2⟩ : ∃ a2, Go.sliced (some ⟨g, o, none⟩) (m + 1) cur.length cap 3 = .slice a2 (cur.length - (m + 1)) (cap - (m + 1)) := ⟨_, rfl⟩
              have hs2 : Sl w5 30 3 (.slice (some ⟨g, o, none⟩) cur.length cap) cur.length (pcells cur) := hd5.c.1
              obtain ⟨_, _, hv0, hcc1, hcc2, _⟩ := hs2.shape
              cases hv0
              unfold maxLen at hcc2
              have hd1 := hs2.sliced 0 m cap (by omega) (by omega) (by omega) (by omega)
              have hd2 := hs2.sliced (m + 1) cur.length cap (by omega) (by omega) (by omega) (by omega)
              rw [ha1] at hd1
              rw [ha2] at hd2
              simp only [Nat.zero_mul, List.drop_zero, Nat.sub_zero, pcells_take] at hd1
              rw [pcells_drop, List.take_of_length_le (by rw [pcells_len, List.length_drop]; omega)] at hd2
              have HSRC1 := Lib.hid (hd1.src (pcells_one _))
              have HSRC2 := Lib.hid (hd2.src (pcells_one _))
              have HA1 := Lib.hid ha1
              have HA2 := Lib.hid ha2
              clear ha1 ha2 hs2 hd1 hd2
              refine wp_region_mix [(1, true, true), (2, true, true), (3, true, true), (5, true, true), (6, true, true), (7, true, true), (8, true, true), (0, false, true), (4, false, true), (9, false, true), (10, true, true)] (fun _ => True) (by kernel_rfl) (by kernel_rfl) (trivial) ?_
              simp only [picked, List.filterMap_cons, List.filterMap_nil, List.getElem?_toArray, List.getElem?_cons_zero, List.getElem?_cons_succ, Option.map_some]
              obtain ⟨W0, hW0⟩ : ∃ W0, W0 = w5.drew := ⟨_, rfl⟩
              rw [← hW0]
              have ht0 : Turns nobody w5 W0 := by rw [hW0]; exact (Turns.refl _ _).drew
              have HZ0 : Hid (W0.heap.size = w5.heap.size) := Lib.hid (by rw [hW0]; rfl)
              clear hW0
              repeat (refine mix_free (v := ?_) rfl ?_ ?_; rotate_left; (focus (intro w' hI; go_simp; try with_reducible rfl)); simp only [Act.put, List.setIfInBounds_toArray, List.set_cons_zero, List.set_cons_succ])
              refine mix_free (v := .slice a1 m cap) rfl (fun w' hI => by have n1 : (0 : Int) ≤ (m : Int) := (by omega); have n2 : (m : Int) ≤ (cap : Int) := (by omega); rw [← HA1.out]; go_simp) ?_
              simp only [Act.put, List.setIfInBounds_toArray, List.set_cons_zero, List.set_cons_succ]
              repeat (refine mix_free (v := ?_) rfl ?_ ?_; rotate_left; (focus (intro w' hI; go_simp; try with_reducible rfl)); simp only [Act.put, List.setIfInBounds_toArray, List.set_cons_zero, List.set_cons_succ])
              refine mix_free (v := .slice a2 (cur.length - (m + 1)) (cap - (m + 1))) rfl (fun w' hI => by have n1 : (0 : Int) ≤ (m : Int) + 1 := (by omega); have n2 : (m : Int) + 1 ≤ (cur.length : Int) := (by omega); have n3 : IntKind.i64.wrap ((m : Int) + 1) = (m : Int) + 1 := (IntWalk.i64_in _ (by omega)); have n4 : ((m : Int) + 1).toNat = m + 1 := (by omega); rw [← HA2.out]; go_simp) ?_
              simp only [Act.put, List.setIfInBounds_toArray, List.set_cons_zero, List.set_cons_succ]
              refine mix_big rfl (fun K hK => ?_)
              go_wp2
              have ht0a := ht0.alloc (.cells #[] 30)
              have HE1 : Hid (Sl _ 30 3 _ 0 []) := Lib.hid (Sl.empty (sz := 3) (heap_alloc_new W0 (.cells #[] 30)) (Nat.zero_le _))
              refine hK _ _ (fun _ => trivial) ?_
              clear hK K
              have HQ1 := Lib.hid (HSRC1.out.keep ht0a (fun _ _ h => h))
              refine mix_big rfl (fun K hK => ?_)
              go_wp2_with (at_builtin; refine wpList_append_sl rfl _ _ 22 rfl Try.underlying22 hi hz0 hzz1 hzz2 rfl (by decide) rfl rfl HE1.out HQ1.out (by unfold maxLen; omega) (by omega) ?_)
              intro v7 w7 h7 _ hn7 hc7
              try simp only [Nat.zero_add, List.nil_append] at h7
              have ht7 := ht0a.trans (hc7 _ rfl).1 (fun _ h => h.elim)
              have HF7 : Hid (∀ k, blk v7 k → w5.heap.size ≤ k) := fun k hk => by
                have hh := HZ0.out
                rcases hn7 k hk with h | h
                · simp only [blk, Value.ownBlock, Option.some.injEq] at h; omega
                · rw [World.size_alloc] at h; omega
              have H7 := Lib.hid h7
              refine hK _ _ (fun _ => trivial) ?_
              clear hK K h7 hn7 hc7
              have HQ2 := Lib.hid (HSRC2.out.keep ht7 (fun _ _ h => h))
              refine mix_big rfl (fun K hK => ?_)
              go_wp2_with (at_builtin; refine wpList_append_sl rfl _ _ 22 rfl Try.underlying22 hi hz0 hzz1 hzz2 rfl (by decide) rfl rfl H7.out HQ2.out (by unfold maxLen; omega) (by omega) ?_)
              intro v9 w9 h9 ht9 hn9 _
              have hd9 : ∃ G', Duo B w (NetAt B cur' 0) (LeftAt v9 cur') F2 G' w9 := by
                have hp9 : PSl w9 v9 cur' := by
                  unfold PSl
                  rw [HCUR'.out, pcells_append]
                  have hn : m + (cur.length - (m + 1)) = (cur.take m ++ cur.drop (m + 1)).length := by rw [List.length_append, List.length_take, List.length_drop]; omega
                  rw [← hn]
                  exact h9
                have hsz7 := ht7.size
                refine hd5.right (local_net _ _ _) ⟨_, ⟨hp9, rfl⟩, (ht7.mono (fun _ h => h.elim)).trans ht9 (fun k hk => Or.inr (HF7.out k hk)), fun k hk => Or.inr ?_⟩
                rcases hn9 k hk with h | h
                · exact HF7.out k h
                · omega
              obtain ⟨G9, hd9⟩ := hd9
              have HD9 := Lib.hid hd9
              refine hK _ _ (fun _ => trivial) ?_
              clear hK K hd9 h9 ht9 hn9 ht7 ht0a ht0 hd5
              repeat (refine mix_free (v := ?_) rfl ?_ ?_; rotate_left; (focus (intro w' hI; go_simp; try with_reducible rfl)); simp only [Act.put, List.setIfInBounds_toArray, List.set_cons_zero, List.set_cons_succ])
              refine mix_nil ?_
              go_wp2
              go_roundw
              case rel => exact ⟨j + 1, cur', by omega, by rw [HCUR'.out, HN.out, HCUR.out]; omega, by go_num, _, _, HD9.out⟩
              case measure => simp [intOf]; omega
          · obtain rfl : j = l.length := by omega
            obtain rfl : cur = [] := List.eq_nil_of_length_eq_zero (by omega)
            clear hlt hcur HCUR
            have hdn := deliver_none B 0 F wr hd.a
            simp only [Pc.val, pc0] at hdn
            go_wp2_with first
              | (go_at_call 10; refine hdn.mono ?_; rintro e w3 ⟨rfl, ht⟩; have hd3 := (hd.still (local_net _ _ _) (local_left _ _) ht).still (local_net _ _ _) (local_left _ _) ((Turns.refl nobody _).alloc (.cells #[.int .i64 0, .int .i64 0, .string ⟨#[]⟩] 30)); clear ht hd)
              | (go_at_call 11; refine (len_any _ _ _ _ _ hd3.a).mono ?_; rintro e w4 ⟨rfl, rfl⟩)
              | (go_at_call 8; refine (awake_any _).mono ?_; rintro e w5 ⟨rfl, hw5⟩)
            go_ret
            exact ⟨rfl, hd3.below.trans (hw5.mono hd3.size)⟩

end Go.Proofs.Ytjjapnphljhicaa.net
