/- ChaseBound: the walk. -/
import Derived.Test.YtcgnadihjbdolabChaseNever
import Derived.Test.YtcgnadihjbdolabFlatKit
import Derived.Test.YtcgnadihjbdolabIdArg
namespace Go.Proofs.Ytcgnadihjbdolab.chase
open Go.RowKit
open Go.Proofs.Ytcgnadihjbdolab.stepkit Go.Proofs.Ytcgnadihjbdolab.row Go.Proofs.Ytcgnadihjbdolab.mix Go.Proofs.Ytcgnadihjbdolab.obj Go.Proofs.Ytcgnadihjbdolab.eqkit Go.Proofs.Ytcgnadihjbdolab.idkit Go.Proofs.Ytcgnadihjbdolab.argkit

def actKinds : List TypeDesc := [.int .i64] ++ (List.replicate 32 (.int .u8) ++ [.int .i64, .int .i64])
def acs (k : Int) (id : List Int) (peer now : Int) : List Value := .int .i64 k :: (idc id ++ [.int .i64 peer, .int .i64 now])
theorem acs_len {k : Int} {id : List Int} {peer now : Int} (h : id.length = 32) : (acs k id peer now).length = 35 := by simp [acs, idc_len, h]
theorem acs_one {k : Int} {id : List Int} {peer now : Int} : ∀ u ∈ acs k id peer now, u.oneCell' = true := by
  intro u hu
  unfold acs at hu
  rcases List.mem_cons.1 hu with rfl | hu
  · rfl
  · rcases List.mem_append.1 hu with h | h
    · exact idc_one _ u h
    · simp only [List.mem_cons, List.not_mem_nil, or_false] at h
      rcases h with rfl | rfl <;> rfl

theorem act_row {r : List Value} (h : Fits actKinds r) : ∃ (k : Int) (id : List Int) (peer now : Int), r = acs k id peer now ∧ id.length = 32 := by
  obtain ⟨a, b, rfl, h1, h2⟩ := idkit.Fits.split h
  obtain ⟨c, d, rfl, h3, h4⟩ := idkit.Fits.split h2
  obtain ⟨_, r1, rfl, ⟨k, rfl, _⟩, e1⟩ := argkit.Fits.cons h1
  obtain rfl := argkit.Fits.nil e1
  obtain ⟨id, rfl, hid⟩ := fits_bytes 32 h3
  obtain ⟨_, r2, rfl, ⟨p, rfl, _⟩, e2⟩ := argkit.Fits.cons h4
  obtain ⟨_, r3, rfl, ⟨n, rfl, _⟩, e3⟩ := argkit.Fits.cons e2
  obtain rfl := argkit.Fits.nil e3
  exact ⟨k, id, p, n, rfl, hid⟩

/-- One row of an argument, where it lies. -/
theorem row_at {w W : World} {B n : Nat} {rows : List (List Value)} {b o : Nat} (hb : b < B) (hc : ∀ i, i < rows.length → ∀ j, j < n → w.cell? ⟨b, o + i * n + j, none⟩ = some ((rows.getD i []).getD j undef)) (hW : Below B w W) {r : List Value} (i : Nat) (hi : i < rows.length) (hr : rows.getD i [] = r) (hl : r.length = n) : W.rangeAt b (o + i * n) r := by
  intro j v hj
  have hjn : j < n := by rw [← hl]; exact (List.getElem?_eq_some_iff.1 hj).1
  rw [hW.cell (p := ⟨b, o + i * n + j, none⟩) hb, hc i hi j hjn, hr, List.getD, hj]
  rfl

theorem turns_cells {w : World} (b : Nat) (hb : w.heap.size ≤ b) : ∀ (vs : List Value) (o : Nat) (W : World), Turns nobody w W → Turns nobody w (W.setCells b o vs)
  | [], _, _, h => h
  | v :: vs, o, W, h => turns_cells b hb vs (o + 1) _ (h.setCell b o v (Or.inr hb))
theorem block_cells (b : Nat) (t : TypeId) (fr : Nat × Nat) : ∀ (vs pre post : List Value) (W : World), vs.length ≤ post.length → W.heap[b]? = some (.cells (pre ++ post).toArray t fr) → (W.setCells b pre.length vs).heap[b]? = some (.cells (pre ++ vs ++ post.drop vs.length).toArray t fr)
  | [], pre, post, W, _, h => by simpa [World.setCells] using h
  | v :: vs, pre, [], W, hl, h => by simp at hl
  | v :: vs, pre, p :: post, W, hl, h => by
    have h1 := heap_setCell_at h pre.length v
    have e : ((pre ++ p :: post).toArray.setIfInBounds pre.length v) = (pre ++ [v] ++ post).toArray := by simp
    rw [e] at h1
    have := block_cells b t fr vs (pre ++ [v]) post (W.setCell ⟨b, pre.length, none⟩ v) (by simpa using hl) (by simpa using h1)
    rw [List.length_append, List.length_singleton] at this
    rw [World.setCells, this]
    simp
/-- A value, laid whole into a new block. -/
theorem spill (w : World) (z : Array Value) (t : TypeId) (cs : List Value) (hz : z.size = cs.length) :
    Turns nobody w ((w.alloc (.cells z t)).setCells w.heap.size 0 cs) ∧ ((w.alloc (.cells z t)).setCells w.heap.size 0 cs).heap[w.heap.size]? = some (.cells cs.toArray t (0, 0)) := by
  refine ⟨turns_cells _ (Nat.le_refl _) _ _ _ ((Turns.refl _ _).alloc _), ?_⟩
  have h := heap_alloc_new w (.cells z t)
  have := block_cells w.heap.size t (0, 0) cs [] z.toList (w.alloc (.cells z t)) (by simp [hz]) (by simpa using h)
  rw [List.length_nil] at this
  rw [this]
  simp [← hz]
theorem spill_there (w : World) (z : Array Value) (t : TypeId) (n : Nat) (hn : n ≤ z.size) : (w.alloc (.cells z t)).there w.heap.size 0 n := by
  intro j hj
  have h := heap_alloc_new w (.cells z t)
  refine ⟨?_, ?_⟩
  · rw [Nat.zero_add, World.cell?, h]
    simp; omega
  · rw [Nat.zero_add]; exact free_of h j

theorem infoAct : (Try.prog.info? 28).map (·.size) = some 35 := by kernel_rfl

theorem ch_duo {w w1 : World} {F : Nat → Prop} {B : Nat} (hB : w.heap.size = B) (h : ChAt B [] F w1) (ht : Turns nobody w w1) (hF : ∀ i, F i → B ≤ i) : Duo B w (ChAt B []) nothing F nobody w1 :=
  Duo.start h rfl (fun _ _ h => h) hF (fun _ h => h.elim) (ht.below (by omega) (fun _ h => h.elim)) (by have := ht.size; omega)
/-- A new block beside it. -/
theorem ch_box {B : Nat} {w0 w w1 : World} {l : List Ch} {F : Nat → Prop} {cs : Array Value} {t : TypeId} (h : Duo B w0 (ChAt B l) nothing F nobody w) (ht : Turns nobody w w1) (hb : w1.heap[w.heap.size]? = some (.cells cs t (0, 0))) :
    Duo B w0 (ChAt B l) (BoxAt w.heap.size cs t) F (fun i => i = w.heap.size) w1 := by
  have h1 := h.still (local_ch _ _) local_nothing ht
  have hlt := (local_ch _ _ _ _ h.a).1
  exact Duo.start h1.a ⟨hb, rfl⟩ (fun i hi hg => by have := hlt i hi; omega) h.fnew (fun i hi => by have := h.size; omega) h1.below h1.size
theorem ch_alone {B : Nat} {w0 w : World} {l : List Ch} {F G : Nat → Prop} {C : (Nat → Prop) → World → Prop} (h : Duo B w0 (ChAt B l) C F G w) : Duo B w0 (ChAt B l) nothing F nobody w :=
  Duo.start h.a rfl (fun _ _ h => h) h.fnew (fun _ h => h.elim) h.below h.size

theorem act_cells {w : World} {b : Nat} {k : Int} {id : List Int} {peer now : Int} (hid : id.length = 32) (h : w.heap[b]? = some (.cells (acs k id peer now).toArray 28 (0, 0))) :
    w.cell? ⟨b, 0, none⟩ = some (.int .i64 k) ∧ w.rangeAt b 1 (idc id) ∧ w.cell? ⟨b, 33, none⟩ = some (.int .i64 peer) ∧ w.cell? ⟨b, 34, none⟩ = some (.int .i64 now) := by
  have hr := range_block h
  rw [List.toList_toArray] at hr
  unfold acs at hr
  have h1 : w.rangeAt b 1 (idc id ++ [.int .i64 peer, .int .i64 now]) := fun j v hj => by
    have := hr (j + 1) v (by simpa using hj)
    rw [show 0 + (j + 1) = 1 + j by omega] at this
    exact this
  have h2 := range_right (n := 32) h1 (by rw [idc_len, hid])
  exact ⟨hr 0 _ rfl, range_left h1, h2 0 _ rfl, h2 1 _ rfl⟩

theorem new_same {l : List Ch} {id : List Int} {peer t : Int} (h : wantOk l id t = false) : wantNew l id peer t = l := by unfold wantNew; rw [h]; rfl

theorem exec_eq_id {op : Oper} {a : Act} {w : World} (x y : Operand) (d : TypeId) (ho : op.op = .binOp .eql 26 x y d) (xs ys : List Int) (hx : a.eval x = .agg (idc xs).toArray) (hy : a.eval y = .agg (idc ys).toArray) (h1 : xs.length = 32) (h2 : ys.length = 32) :
    (execOp a.eval op).run Try.prog w = .ok (.value (.bool (decide (xs = ys)))) w := by
  have h3 := eq_op w xs ys h1 h2
  unfold execOp
  simp only [ho, hx, hy]
  go_simp

set_option maxRecDepth 20000 in
set_option maxHeartbeats 4000000 in
theorem bound_any (ao : Option Addr) (rows : List (List Value)) (cap : Nat) (w : World) (hcap : rows.length ≤ maxLen) (hrow : RowsAt w w.heap.size 35 ao rows) (hfit : ∀ r ∈ rows, Fits actKinds r) :
    Calls Try.prog 3 #[.slice ao rows.length cap] w fun e w' => e = .returned (.bool true) ∧ Below w.heap.size w w' := by
  unfold maxLen at hcap
  obtain ⟨B, hB⟩ : ∃ B, w.heap.size = B := ⟨_, rfl⟩
  rw [hB] at hrow ⊢
  go_enter Try.func3, Try.ntmps3
  go_wp2_with (go_at_call 6; refine (new_any _).mono ?_; rintro e w1 ⟨rfl, F, ha, ht, hF⟩; rw [hB] at ha hF ⊢; have HD := Lib.hid (ch_duo hB ha ht hF); clear ha ht hF hB)
  go_loopw [4] (fun i wr => ∃ (j : Nat) (l : List Ch), j ≤ rows.length ∧ j ≤ 100 ∧ i = .int .i64 j ∧ Fine l ∧ ∃ F, Duo B w (ChAt B l) nothing F nobody wr) (fun i _ => 100 - (intOf i).toNat)
  case atStart => exact ⟨0, [], by omega, by omega, rfl, fine_nil, F, HD.out⟩
  case round =>
    clear HD F
    obtain ⟨j, l, hj, hj100, rfl, hok, F, hd⟩ := hrel
    by_cases hlt : j < rows.length ∧ j < 100
    · obtain ⟨h3, h4⟩ := hlt
      obtain ⟨bb, oo, rfl, hbb, hcell⟩ := hrow (by omega)
      have hmem : rows.getD j [] ∈ rows := by rw [List.getD, List.getElem?_eq_getElem h3]; exact List.getElem_mem _
      obtain ⟨k, id, peer, now, hr, hid⟩ := act_row (hfit _ hmem)
      have HR := Lib.hid (row_at hbb hcell hd.below j h3 hr (acs_len hid))
      have SI := Lib.hid (show (Try.prog.info? 26).map (·.size) = some (idc id).length by rw [infoId, idc_len, hid])
      have SA := Lib.hid (show (Try.prog.info? 28).map (·.size) = some (acs k id peer now).length by rw [infoAct, acs_len hid])
      have HS := spill wr #[.int .i64 0, .int .u8 0, .int .u8 0, .int .u8 0, .int .u8 0, .int .u8 0, .int .u8 0, .int .u8 0, .int .u8 0, .int .u8 0, .int .u8 0, .int .u8 0, .int .u8 0, .int .u8 0, .int .u8 0, .int .u8 0, .int .u8 0, .int .u8 0, .int .u8 0, .int .u8 0, .int .u8 0, .int .u8 0, .int .u8 0, .int .u8 0, .int .u8 0, .int .u8 0, .int .u8 0, .int .u8 0, .int .u8 0, .int .u8 0, .int .u8 0, .int .u8 0, .int .u8 0, .int .i64 0, .int .i64 0] 28 (acs k id peer now) (by rw [acs_len hid]; rfl)
      have HT := Lib.hid (spill_there wr #[.int .i64 0, .int .u8 0, .int .u8 0, .int .u8 0, .int .u8 0, .int .u8 0, .int .u8 0, .int .u8 0, .int .u8 0, .int .u8 0, .int .u8 0, .int .u8 0, .int .u8 0, .int .u8 0, .int .u8 0, .int .u8 0, .int .u8 0, .int .u8 0, .int .u8 0, .int .u8 0, .int .u8 0, .int .u8 0, .int .u8 0, .int .u8 0, .int .u8 0, .int .u8 0, .int .u8 0, .int .u8 0, .int .u8 0, .int .u8 0, .int .u8 0, .int .u8 0, .int .u8 0, .int .i64 0, .int .i64 0] 28 (acs k id peer now).toArray.size (by rw [List.size_toArray, acs_len hid]; decide))
      obtain ⟨W1, hW1⟩ : ∃ W1, W1 = (wr.alloc (.cells #[.int .i64 0, .int .u8 0, .int .u8 0, .int .u8 0, .int .u8 0, .int .u8 0, .int .u8 0, .int .u8 0, .int .u8 0, .int .u8 0, .int .u8 0, .int .u8 0, .int .u8 0, .int .u8 0, .int .u8 0, .int .u8 0, .int .u8 0, .int .u8 0, .int .u8 0, .int .u8 0, .int .u8 0, .int .u8 0, .int .u8 0, .int .u8 0, .int .u8 0, .int .u8 0, .int .u8 0, .int .u8 0, .int .u8 0, .int .u8 0, .int .u8 0, .int .u8 0, .int .u8 0, .int .i64 0, .int .i64 0] 28)).setCells wr.heap.size 0 (acs k id peer now) := ⟨_, rfl⟩
      rw [← hW1] at HS
      have HW1 := Lib.hid hW1
      obtain ⟨ht1, hb1⟩ := HS
      have hd1 := ch_box hd ht1 hb1
      have hbx := act_cells hid hb1
      obtain ⟨b0, hb0⟩ : ∃ b0, wr.heap.size = b0 := ⟨_, rfl⟩
      have HB0 := Lib.hid hb0
      rw [hb0] at hd1 hbx
      obtain ⟨c0, cI, c33, c34⟩ := hbx
      have HI := Lib.hid cI
      have HROW := Lib.hid hrow
      clear hr hmem hcell hrow hd hW1 hb0 ht1 hb1 cI
      have hl1 := hok.2.1
      by_cases hk2 : k = 2
      · subst hk2
        have hok' := hok.drop (findAt l id)
        obtain ⟨l', hl'⟩ : ∃ l', dropAt l (findAt l id) = l' := ⟨_, rfl⟩
        rw [hl'] at hok'
        go_wp2_with first
          | (with_reducible refine wpList_load_mid rfl _ _ rfl _ _ rfl _ _ HR.out Try.underlying28 rfl SA.out ?_)
          | (refine wpList_store_mid rfl _ _ _ rfl _ _ _ rfl rfl HT.out (by rw [List.size_toArray]; exact SA.out) (all_oneCell_toArray acs_one) ?_; rw [List.toList_toArray, ← HW1.out, HB0.out])
          | (with_reducible refine wpList_load_mid rfl _ _ rfl _ _ rfl _ _ HI.out Try.underlying26 rfl SI.out ?_)
          | (go_at_call 7; refine (done_any B l id F W1 hd1.a hok.1 hid (by omega)).mono ?_; rintro e w2 ⟨rfl, hs⟩; rw [hl'] at hs; obtain ⟨F', hd2⟩ := hd1.left (local_box _ _ _) hs; have hdT := ch_alone hd2; clear hs hd2 hd1 c0 c33 c34)
        clear hl'
        have hl2 := hok'.2.1
        go_wp2_with (go_at_call 9; refine (all_any B l' F' _ hdT.a (by omega)).mono ?_; rintro e w3 ⟨v3, rfl, s3, t3, _⟩; obtain ⟨ao3, cap3, rfl, _⟩ := (show Sl _ _ _ _ _ _ from s3).shape)
        have HD3 := Lib.hid (hdT.still (local_ch _ _) local_nothing t3)
        have S3 := Lib.hid s3
        clear s3 t3 hdT
        go_loopw [7] (fun i ws => ∃ n : Nat, n ≤ l'.length ∧ i = .int .i64 n ∧ Turns nobody w3 ws) (fun i _ => 40 - (intOf i).toNat)
        case atStart => exact ⟨0, Nat.zero_le _, rfl, Turns.refl _ _⟩
        case round =>
          obtain ⟨n, hn, rfl, tn⟩ := hrel
          by_cases hlt2 : n < l'.length
          · have TN := Lib.hid tn
            clear tn
            go_wp2
            go_loopw [8] (fun i wt => ∃ m : Nat, m ≤ n ∧ i = .int .i64 m ∧ Turns nobody w3 wt) (fun i _ => 40 - (intOf i).toNat)
            case atStart => exact ⟨0, Nat.zero_le _, rfl, TN.out⟩
            case round =>
              obtain ⟨m, hm, rfl, tm⟩ := hrel
              by_cases hlt3 : m < n
              · obtain ⟨g3, o3, c3, hv3, _⟩ := Sl.some_of_pos S3.out (by omega)
                cases hv3
                have tm1 := tm.drew
                have hml : m < l'.length := by omega
                have RN := Lib.hid (range_left (range_turns (CSl.range hok'.1 S3.out n hlt2) tm1))
                have RM := Lib.hid (range_left (range_turns (CSl.range hok'.1 S3.out m (by omega)) tm1))
                obtain ⟨idn, hidn⟩ : ∃ x, (l'.getD n ch0).id = x := ⟨_, rfl⟩
                obtain ⟨idm, hidm⟩ : ∃ x, (l'.getD m ch0).id = x := ⟨_, rfl⟩
                have hne : decide (idn = idm) = false := decide_eq_false (by rw [← hidn, ← hidm]; exact hok'.ne n m hlt2 hlt3)
                have hln : idn.length = 32 := by rw [← hidn]; exact hok'.1 _ (by rw [List.getD, List.getElem?_eq_getElem hlt2]; exact List.getElem_mem _)
                have hlm : idm.length = 32 := by rw [← hidm]; exact hok'.1 _ (by rw [List.getD, List.getElem?_eq_getElem (Nat.lt_trans hlt3 hlt2)]; exact List.getElem_mem _)
                have SN := Lib.hid (show (Try.prog.info? 26).map (·.size) = some (idc idn).length by rw [infoId, idc_len, hln])
                have SM := Lib.hid (show (Try.prog.info? 26).map (·.size) = some (idc idm).length by rw [infoId, idc_len, hlm])
                rw [hidn] at RN
                rw [hidm] at RM
                have HEQ := Lib.hid hne
                have TM1 := Lib.hid tm1
                clear hidn hidm hne tm tm1
                have hcap3 := (show Sl _ _ _ _ _ _ from S3.out).shape
                go_wp2
                refine wp_region_mix [(0, true, true), (1, true, true), (2, true, true), (3, true, true), (4, true, true), (5, true, true), (6, true, true), (7, true, true), (8, true, true), (9, true, true), (10, true, true)] (fun W => W = wr.drew) (by kernel_rfl) (by kernel_rfl) (rfl) ?_
                simp only [picked, List.filterMap_cons, List.filterMap_nil, List.getElem?_toArray, List.getElem?_cons_zero, List.getElem?_cons_succ, Option.map_some]
                iterate 4 (refine mix_free (v := ?_) rfl ?_ ?_; rotate_left; (focus (intro w' hI; go_simp; try with_reducible rfl)); simp only [Act.put, List.setIfInBounds_toArray, List.set_cons_zero, List.set_cons_succ])
                refine mix_free (v := .agg (idc idn).toArray) rfl (fun w' hI => by rw [hI]; exact exec_load_mid _ _ rfl _ _ rfl (idc idn) _ RN.out Try.underlying26 rfl SN.out) ?_
                simp only [Act.put, List.setIfInBounds_toArray, List.set_cons_zero, List.set_cons_succ]
                iterate 4 (refine mix_free (v := ?_) rfl ?_ ?_; rotate_left; (focus (intro w' hI; go_simp; try with_reducible rfl)); simp only [Act.put, List.setIfInBounds_toArray, List.set_cons_zero, List.set_cons_succ])
                refine mix_free (v := .agg (idc idm).toArray) rfl (fun w' hI => by rw [hI]; exact exec_load_mid _ _ rfl _ _ rfl (idc idm) _ RM.out Try.underlying26 rfl SM.out) ?_
                simp only [Act.put, List.setIfInBounds_toArray, List.set_cons_zero, List.set_cons_succ]
                refine mix_free (v := .bool false) rfl (fun w' hI => by refine (exec_eq_id (w := w') _ _ _ rfl idn idm rfl rfl hln hlm).trans ?_; rw [HEQ.out]) ?_
                simp only [Act.put, List.setIfInBounds_toArray, List.set_cons_zero, List.set_cons_succ]
                refine mix_nil ?_
                go_wp2
                go_roundw
                case rel => exact ⟨m + 1, by omega, by go_num, TM1.out⟩
                case measure => simp [intOf]; omega
              · obtain rfl : m = n := by omega
                have TM := Lib.hid tm
                clear tm
                go_wp2
                go_roundw
                case rel => exact ⟨m + 1, by omega, by go_num, TM.out⟩
                case measure => simp [intOf]; omega
          · have TN := Lib.hid tn
            clear tn
            go_wp2
            go_roundw
            case rel => exact ⟨j + 1, l', by omega, by omega, by go_num, hok', F', HD3.out.still (local_ch _ _) local_nothing TN.out⟩
            case measure => simp [intOf]; omega
      · have hok' := hok.want id hid peer (clk now)
        have hag := not_again hok id peer (clk now)
        obtain ⟨l', hl'⟩ : ∃ l', wantNew l id peer (clk now) = l' := ⟨_, rfl⟩
        rw [hl'] at hok'
        simp only [hl'] at hag
        have hwant1 := want_any B l id peer now F W1 hd1.a hok.1 hid hl1
        rw [hl'] at hwant1
        cases hw : wantOk l id (clk now) with
        | false =>
          rw [hw] at hwant1
          go_wp2_with first
            | (with_reducible refine wpList_load_mid rfl _ _ rfl _ _ rfl _ _ HR.out Try.underlying28 rfl SA.out ?_)
            | (refine wpList_store_mid rfl _ _ _ rfl _ _ _ rfl rfl HT.out (by rw [List.size_toArray]; exact SA.out) (all_oneCell_toArray acs_one) ?_; rw [List.toList_toArray, ← HW1.out, HB0.out])
            | (with_reducible refine wpList_load_mid rfl _ _ rfl _ _ rfl _ _ HI.out Try.underlying26 rfl SI.out ?_)
            | (go_at_call 8; refine hwant1.mono ?_; rintro e w2 ⟨rfl, hs⟩; obtain ⟨F', hd2⟩ := hd1.left (local_box _ _ _) hs; have hdT := ch_alone hd2; clear hs hd2 hd1 c0 c33 c34 hwant1)
          clear hl' hag hw
          have hl2 := hok'.2.1
          go_wp2_with (go_at_call 9; refine (all_any B l' F' _ hdT.a (by omega)).mono ?_; rintro e w3 ⟨v3, rfl, s3, t3, _⟩; obtain ⟨ao3, cap3, rfl, _⟩ := (show Sl _ _ _ _ _ _ from s3).shape)
          have HD3 := Lib.hid (hdT.still (local_ch _ _) local_nothing t3)
          have S3 := Lib.hid s3
          clear s3 t3 hdT
          go_loopw [7] (fun i ws => ∃ n : Nat, n ≤ l'.length ∧ i = .int .i64 n ∧ Turns nobody w3 ws) (fun i _ => 40 - (intOf i).toNat)
          case atStart => exact ⟨0, Nat.zero_le _, rfl, Turns.refl _ _⟩
          case round =>
            obtain ⟨n, hn, rfl, tn⟩ := hrel
            by_cases hlt2 : n < l'.length
            · have TN := Lib.hid tn
              clear tn
              go_wp2
              go_loopw [8] (fun i wt => ∃ m : Nat, m ≤ n ∧ i = .int .i64 m ∧ Turns nobody w3 wt) (fun i _ => 40 - (intOf i).toNat)
              case atStart => exact ⟨0, Nat.zero_le _, rfl, TN.out⟩
              case round =>
                obtain ⟨m, hm, rfl, tm⟩ := hrel
                by_cases hlt3 : m < n
                · obtain ⟨g3, o3, c3, hv3, _⟩ := Sl.some_of_pos S3.out (by omega)
                  cases hv3
                  have tm1 := tm.drew
                  have hml : m < l'.length := by omega
                  have RN := Lib.hid (range_left (range_turns (CSl.range hok'.1 S3.out n hlt2) tm1))
                  have RM := Lib.hid (range_left (range_turns (CSl.range hok'.1 S3.out m (by omega)) tm1))
                  obtain ⟨idn, hidn⟩ : ∃ x, (l'.getD n ch0).id = x := ⟨_, rfl⟩
                  obtain ⟨idm, hidm⟩ : ∃ x, (l'.getD m ch0).id = x := ⟨_, rfl⟩
                  have hne : decide (idn = idm) = false := decide_eq_false (by rw [← hidn, ← hidm]; exact hok'.ne n m hlt2 hlt3)
                  have hln : idn.length = 32 := by rw [← hidn]; exact hok'.1 _ (by rw [List.getD, List.getElem?_eq_getElem hlt2]; exact List.getElem_mem _)
                  have hlm : idm.length = 32 := by rw [← hidm]; exact hok'.1 _ (by rw [List.getD, List.getElem?_eq_getElem (Nat.lt_trans hlt3 hlt2)]; exact List.getElem_mem _)
                  have SN := Lib.hid (show (Try.prog.info? 26).map (·.size) = some (idc idn).length by rw [infoId, idc_len, hln])
                  have SM := Lib.hid (show (Try.prog.info? 26).map (·.size) = some (idc idm).length by rw [infoId, idc_len, hlm])
                  rw [hidn] at RN
                  rw [hidm] at RM
                  have HEQ := Lib.hid hne
                  have TM1 := Lib.hid tm1
                  clear hidn hidm hne tm tm1
                  have hcap3 := (show Sl _ _ _ _ _ _ from S3.out).shape
                  go_wp2
                  refine wp_region_mix [(0, true, true), (1, true, true), (2, true, true), (3, true, true), (4, true, true), (5, true, true), (6, true, true), (7, true, true), (8, true, true), (9, true, true), (10, true, true)] (fun W => W = wr.drew) (by kernel_rfl) (by kernel_rfl) (rfl) ?_
                  simp only [picked, List.filterMap_cons, List.filterMap_nil, List.getElem?_toArray, List.getElem?_cons_zero, List.getElem?_cons_succ, Option.map_some]
                  iterate 4 (refine mix_free (v := ?_) rfl ?_ ?_; rotate_left; (focus (intro w' hI; go_simp; try with_reducible rfl)); simp only [Act.put, List.setIfInBounds_toArray, List.set_cons_zero, List.set_cons_succ])
                  refine mix_free (v := .agg (idc idn).toArray) rfl (fun w' hI => by rw [hI]; exact exec_load_mid _ _ rfl _ _ rfl (idc idn) _ RN.out Try.underlying26 rfl SN.out) ?_
                  simp only [Act.put, List.setIfInBounds_toArray, List.set_cons_zero, List.set_cons_succ]
                  iterate 4 (refine mix_free (v := ?_) rfl ?_ ?_; rotate_left; (focus (intro w' hI; go_simp; try with_reducible rfl)); simp only [Act.put, List.setIfInBounds_toArray, List.set_cons_zero, List.set_cons_succ])
                  refine mix_free (v := .agg (idc idm).toArray) rfl (fun w' hI => by rw [hI]; exact exec_load_mid _ _ rfl _ _ rfl (idc idm) _ RM.out Try.underlying26 rfl SM.out) ?_
                  simp only [Act.put, List.setIfInBounds_toArray, List.set_cons_zero, List.set_cons_succ]
                  refine mix_free (v := .bool false) rfl (fun w' hI => by refine (exec_eq_id (w := w') _ _ _ rfl idn idm rfl rfl hln hlm).trans ?_; rw [HEQ.out]) ?_
                  simp only [Act.put, List.setIfInBounds_toArray, List.set_cons_zero, List.set_cons_succ]
                  refine mix_nil ?_
                  go_wp2
                  go_roundw
                  case rel => exact ⟨m + 1, by omega, by go_num, TM1.out⟩
                  case measure => simp [intOf]; omega
                · obtain rfl : m = n := by omega
                  have TM := Lib.hid tm
                  clear tm
                  go_wp2
                  go_roundw
                  case rel => exact ⟨m + 1, by omega, by go_num, TM.out⟩
                  case measure => simp [intOf]; omega
            · have TN := Lib.hid tn
              clear tn
              go_wp2
              go_roundw
              case rel => exact ⟨j + 1, l', by omega, by omega, by go_num, hok', F', HD3.out.still (local_ch _ _) local_nothing TN.out⟩
              case measure => simp [intOf]; omega
        | true =>
          rw [hw] at hwant1
          have hag' := hag hw
          go_wp2_with first
            | (with_reducible refine wpList_load_mid rfl _ _ rfl _ _ rfl _ _ HR.out Try.underlying28 rfl SA.out ?_)
            | (refine wpList_store_mid rfl _ _ _ rfl _ _ _ rfl rfl HT.out (by rw [List.size_toArray]; exact SA.out) (all_oneCell_toArray acs_one) ?_; rw [List.toList_toArray, ← HW1.out, HB0.out])
            | (with_reducible refine wpList_load_mid rfl _ _ rfl _ _ rfl _ _ HI.out Try.underlying26 rfl SI.out ?_)
            | (with_reducible refine wpList_exec (exec_load_mid _ _ rfl _ _ rfl (idc id) _ HI2.out Try.underlying26 rfl SI.out) (by first | rfl | go_simp) ?_)
            | (go_at_call 8; refine hwant2.mono ?_; rintro e w4 ⟨rfl, hs⟩; obtain ⟨F', hd4⟩ := hd2.left (local_box _ _ _) hs; have hdT := ch_alone hd4; clear hs hd4 hd2 hwant2 e33 e34)
            | (go_at_call 8; refine hwant1.mono ?_; rintro e w2 ⟨rfl, hs⟩; obtain ⟨F2, hd2⟩ := hd1.left (local_box _ _ _) hs; obtain ⟨_, eI, e33, e34⟩ := act_cells hid hd2.c.1; have HI2 := Lib.hid eI; have hwant2 := want_any B l' id peer now F2 w2 hd2.a hok'.1 hid hok'.2.1; rw [hag', new_same hag'] at hwant2; clear hs hd1 c0 c33 c34 hwant1 eI)
          clear hl' hag hw
          have hl2 := hok'.2.1
          go_wp2_with (go_at_call 9; refine (all_any B l' F' _ hdT.a (by omega)).mono ?_; rintro e w3 ⟨v3, rfl, s3, t3, _⟩; obtain ⟨ao3, cap3, rfl, _⟩ := (show Sl _ _ _ _ _ _ from s3).shape)
          have HD3 := Lib.hid (hdT.still (local_ch _ _) local_nothing t3)
          have S3 := Lib.hid s3
          clear s3 t3 hdT
          go_loopw [7] (fun i ws => ∃ n : Nat, n ≤ l'.length ∧ i = .int .i64 n ∧ Turns nobody w3 ws) (fun i _ => 40 - (intOf i).toNat)
          case atStart => exact ⟨0, Nat.zero_le _, rfl, Turns.refl _ _⟩
          case round =>
            obtain ⟨n, hn, rfl, tn⟩ := hrel
            by_cases hlt2 : n < l'.length
            · have TN := Lib.hid tn
              clear tn
              go_wp2
              go_loopw [8] (fun i wt => ∃ m : Nat, m ≤ n ∧ i = .int .i64 m ∧ Turns nobody w3 wt) (fun i _ => 40 - (intOf i).toNat)
              case atStart => exact ⟨0, Nat.zero_le _, rfl, TN.out⟩
              case round =>
                obtain ⟨m, hm, rfl, tm⟩ := hrel
                by_cases hlt3 : m < n
                · obtain ⟨g3, o3, c3, hv3, _⟩ := Sl.some_of_pos S3.out (by omega)
                  cases hv3
                  have tm1 := tm.drew
                  have hml : m < l'.length := by omega
                  have RN := Lib.hid (range_left (range_turns (CSl.range hok'.1 S3.out n hlt2) tm1))
                  have RM := Lib.hid (range_left (range_turns (CSl.range hok'.1 S3.out m (by omega)) tm1))
                  obtain ⟨idn, hidn⟩ : ∃ x, (l'.getD n ch0).id = x := ⟨_, rfl⟩
                  obtain ⟨idm, hidm⟩ : ∃ x, (l'.getD m ch0).id = x := ⟨_, rfl⟩
                  have hne : decide (idn = idm) = false := decide_eq_false (by rw [← hidn, ← hidm]; exact hok'.ne n m hlt2 hlt3)
                  have hln : idn.length = 32 := by rw [← hidn]; exact hok'.1 _ (by rw [List.getD, List.getElem?_eq_getElem hlt2]; exact List.getElem_mem _)
                  have hlm : idm.length = 32 := by rw [← hidm]; exact hok'.1 _ (by rw [List.getD, List.getElem?_eq_getElem (Nat.lt_trans hlt3 hlt2)]; exact List.getElem_mem _)
                  have SN := Lib.hid (show (Try.prog.info? 26).map (·.size) = some (idc idn).length by rw [infoId, idc_len, hln])
                  have SM := Lib.hid (show (Try.prog.info? 26).map (·.size) = some (idc idm).length by rw [infoId, idc_len, hlm])
                  rw [hidn] at RN
                  rw [hidm] at RM
                  have HEQ := Lib.hid hne
                  have TM1 := Lib.hid tm1
                  clear hidn hidm hne tm tm1
                  have hcap3 := (show Sl _ _ _ _ _ _ from S3.out).shape
                  go_wp2
                  refine wp_region_mix [(0, true, true), (1, true, true), (2, true, true), (3, true, true), (4, true, true), (5, true, true), (6, true, true), (7, true, true), (8, true, true), (9, true, true), (10, true, true)] (fun W => W = wr.drew) (by kernel_rfl) (by kernel_rfl) (rfl) ?_
                  simp only [picked, List.filterMap_cons, List.filterMap_nil, List.getElem?_toArray, List.getElem?_cons_zero, List.getElem?_cons_succ, Option.map_some]
                  iterate 4 (refine mix_free (v := ?_) rfl ?_ ?_; rotate_left; (focus (intro w' hI; go_simp; try with_reducible rfl)); simp only [Act.put, List.setIfInBounds_toArray, List.set_cons_zero, List.set_cons_succ])
                  refine mix_free (v := .agg (idc idn).toArray) rfl (fun w' hI => by rw [hI]; exact exec_load_mid _ _ rfl _ _ rfl (idc idn) _ RN.out Try.underlying26 rfl SN.out) ?_
                  simp only [Act.put, List.setIfInBounds_toArray, List.set_cons_zero, List.set_cons_succ]
                  iterate 4 (refine mix_free (v := ?_) rfl ?_ ?_; rotate_left; (focus (intro w' hI; go_simp; try with_reducible rfl)); simp only [Act.put, List.setIfInBounds_toArray, List.set_cons_zero, List.set_cons_succ])
                  refine mix_free (v := .agg (idc idm).toArray) rfl (fun w' hI => by rw [hI]; exact exec_load_mid _ _ rfl _ _ rfl (idc idm) _ RM.out Try.underlying26 rfl SM.out) ?_
                  simp only [Act.put, List.setIfInBounds_toArray, List.set_cons_zero, List.set_cons_succ]
                  refine mix_free (v := .bool false) rfl (fun w' hI => by refine (exec_eq_id (w := w') _ _ _ rfl idn idm rfl rfl hln hlm).trans ?_; rw [HEQ.out]) ?_
                  simp only [Act.put, List.setIfInBounds_toArray, List.set_cons_zero, List.set_cons_succ]
                  refine mix_nil ?_
                  go_wp2
                  go_roundw
                  case rel => exact ⟨m + 1, by omega, by go_num, TM1.out⟩
                  case measure => simp [intOf]; omega
                · obtain rfl : m = n := by omega
                  have TM := Lib.hid tm
                  clear tm
                  go_wp2
                  go_roundw
                  case rel => exact ⟨m + 1, by omega, by go_num, TM.out⟩
                  case measure => simp [intOf]; omega
            · have TN := Lib.hid tn
              clear tn
              go_wp2
              go_roundw
              case rel => exact ⟨j + 1, l', by omega, by omega, by go_num, hok', F', HD3.out.still (local_ch _ _) local_nothing TN.out⟩
              case measure => simp [intOf]; omega
    · have hex : rows.length ≤ j ∨ (j < rows.length ∧ 100 ≤ j) := by omega
      have HD := Lib.hid hd
      clear hlt hrow hd
      rcases hex with hex | ⟨hex1, hex2⟩
      all_goals
        go_wp2_with (go_at_call 10; refine (awake_any _).mono ?_; rintro e w5 ⟨rfl, hw5⟩)
        go_ret
        exact ⟨rfl, HD.out.below.trans (hw5.below HD.out.size (fun _ h => h.elim))⟩

end Go.Proofs.Ytcgnadihjbdolab.chase
