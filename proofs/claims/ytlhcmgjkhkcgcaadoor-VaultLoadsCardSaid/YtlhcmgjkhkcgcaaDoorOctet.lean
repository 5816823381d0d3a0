/- Package octet: what is written. -/
import Derived.Test.YtlhcmgjkhkcgcaaDoorBytes
import Derived.Defers
import Derived.Lib.SmallJoins
namespace Go.Proofs.YtlhcmgjkhkcgcaaDoor.octet
open Go.RowKit
open Go.Proofs.YtlhcmgjkhkcgcaaDoor.stepkit Go.Proofs.YtlhcmgjkhkcgcaaDoor.obj Go.Proofs.YtlhcmgjkhkcgcaaDoor.row Go.Proofs.YtlhcmgjkhkcgcaaDoor.mix Go.Proofs.YtlhcmgjkhkcgcaaDoor.idkit Go.Proofs.YtlhcmgjkhkcgcaaDoor.bytes

theorem Step.next {F F' : Nat → Prop} {A : (Nat → Prop) → World → Prop} {w w1 w2 : World} (ht : Turns F w w1) (hn : ∀ i, F' i → F i ∨ w.heap.size ≤ i) (h : Step F' A w1 w2) : Step F A w w2 := by
  obtain ⟨F2, h1, h2, h3⟩ := h
  refine ⟨F2, h1, ht.trans h2 hn, fun i hi => ?_⟩
  rcases h3 i hi with h | h
  · exact hn i h
  · exact Or.inr (Nat.le_trans ht.size h)
/-- So many of a number's four bytes, the greatest first. -/
def be (n j : Nat) : List UInt8 := (List.range j).map fun i => UInt8.ofNat (n / 2 ^ (8 * (3 - i)))
def be4 (n : Nat) : List UInt8 := be n 4
theorem be_len (n j : Nat) : (be n j).length = j := by simp [be]
theorem be4_len (n : Nat) : (be4 n).length = 4 := be_len n 4
theorem be_zero (n : Nat) : be n 0 = [] := rfl
theorem be_succ (n j : Nat) : be n (j + 1) = be n j ++ [UInt8.ofNat (n / 2 ^ (8 * (3 - j)))] := by
  unfold be
  rw [List.range_succ, List.map_append]
  rfl

theorem shift_wrap (t k : Nat) : IntKind.u8.wrap ((t : Int) / 2 ^ k) = ((UInt8.ofNat (t / 2 ^ k)).toNat : Int) := by
  rw [← shift_byte]; rfl

theorem bits_four (w : World) : Calls Tryd.prog 96 #[.int .i64 4] w fun e w' => e = .returned (.int .i64 32) ∧ w = w' := by
  go_enter Tryd.func96, Tryd.ntmps96
  go_wp2
  go_ret
  exact ⟨rfl, rfl⟩
theorem bits_one (w : World) : Calls Tryd.prog 96 #[.int .i64 1] w fun e w' => e = .returned (.int .i64 8) ∧ w = w' := by
  go_enter Tryd.func96, Tryd.ntmps96
  go_wp2
  go_ret
  exact ⟨rfl, rfl⟩

/-- A writer without error. -/
def WrAt (p : Nat) (l : List UInt8) : (Nat → Prop) → World → Prop := Box1 152 5 1 p (fun v => #[v, .int .i64 0, .bool true]) l.length (bcs l)
theorem local_wr (p : Nat) (l : List UInt8) : Local (WrAt p l) := local_box1 _ _ _ _ _ _ _

theorem new_any (w : World) : Calls Tryd.prog 64 #[] w fun e w' => e = .returned (.pointer (some ⟨w.heap.size, 0, none⟩)) ∧ w' = w.alloc (.cells #[.slice none 0 0, .int .i64 0, .bool true] 152) := by
  have hb : ∀ W : World, (Instr.build 152 #[(2, .bool true)]).run Tryd.prog W = .ok (.agg #[.slice none 0 0, .int .i64 0, .bool true]) W := fun _ => by kernel_rfl
  go_enter Tryd.func64, Tryd.ntmps64
  go_wp2
  go_ret
  exact ⟨rfl, rfl⟩
theorem new_wr (w : World) : WrAt w.heap.size [] (fun i => i = w.heap.size ∨ blk (.slice none 0 0) i) (w.alloc (.cells #[.slice none 0 0, .int .i64 0, .bool true] 152)) := Box1.fresh (mk := fun v => #[v, .int .i64 0, .bool true])

theorem none_no (p : Nat) (l : List UInt8) (F : Nat → Prop) (w : World) (h : WrAt p l F w) :
    Calls Tryd.prog 94 #[.pointer (some ⟨p, 0, none⟩)] w fun e w' => e = .returned (.bool false) ∧ w = w' := by
  obtain ⟨v, hp, _⟩ := h
  have c2 := cells_of hp 2 _ rfl
  clear hp
  go_enter Tryd.func94, Tryd.ntmps94
  go_wp2
  go_ret
  exact ⟨rfl, rfl⟩

/-- The deferred call, where there is no error. -/
theorem fail_d (p q : Nat) (u : FrameMode) (w : World) (h1 : w.cell? ⟨p, 1, none⟩ = some (.int .i64 0)) (hf : w.frozen? ⟨p, 1, none⟩ = false) (h2 : w.cell? ⟨q, 0, none⟩ = some (.int .i64 0)) :
    CallsD Tryd.prog 95 #[.pointer (some ⟨p, 0, none⟩), .pointer (some ⟨q, 0, none⟩)] u w fun e u' w' => u' = u ∧ (e = .returned (.tuple #[]) ∧ w' = w.setCell ⟨p, 1, none⟩ (.int .i64 0)) := by
  go_enter_d Tryd.func95, Tryd.ntmps95
  go_wp2
  go_end0
  exact ⟨rfl, rfl⟩

set_option maxRecDepth 10000 in
theorem raw_any (p : Nat) (l : List UInt8) (s : ByteArray) (F : Nat → Prop) (w : World) (h : WrAt p l F w) (hs : l.length + s.size ≤ 16777216) :
    Calls Tryd.prog 66 #[.pointer (some ⟨p, 0, none⟩), .string s] w fun e w' => e = .returned (.pointer (some ⟨p, 0, none⟩)) ∧ Step F (WrAt p (l ++ s.data.toList)) w w' := by
  have H := Lib.hid h
  obtain ⟨v, hp, hsl, hne, hF⟩ := h
  obtain ⟨i0, hi, hz0, hz1, hz2⟩ := info_parts infoU8
  have c0 := cells_of hp 0 _ rfl
  have c1 := cells_of hp 1 _ rfl
  have f0 := free_of hp 0
  have HP := Lib.hid hp
  have HS := Lib.hid hsl
  have HF := Lib.hid hF
  have HN := Lib.hid hne
  have HI := Lib.hid hi
  clear hp hsl hne hF hi
  go_enter Tryd.func66, Tryd.ntmps66
  go_wp2_with first
    | (go_at_call 94; refine (none_no _ _ _ _ H.out).mono ?_; rintro e w' ⟨rfl, rfl⟩)
    | (at_builtin; refine wpList_append_src rfl _ _ 38 9 rfl Tryd.underlying38 HI.out hz0 hz1 hz2 rfl (by decide) rfl rfl HS.out (_root_.Go.Src.ofString _ Tryd.underlying9 s) (by unfold maxLen; omega) (by omega) ?_; intro v2 w2 h2 t2 n2 c2; obtain ⟨ao2, cap2, rfl, _⟩ := h2.shape; have hp2 := heap_newer HP.out t2 HN.out; have d0 := cells_of hp2 0 _ rfl; have df := free_of hp2 0; have HQ := Lib.hid (And.intro h2 (And.intro t2 (And.intro n2 hp2))); clear h2 t2 n2 c2 hp2)
  go_ret
  obtain ⟨h2, t2, n2, hp2⟩ := HQ.out
  refine ⟨rfl, ?_⟩
  rw [byteCells_bcs, ← bcs_append] at h2
  have hl : l.length + s.size = (l ++ s.data.toList).length := by rw [List.length_append, str_len]
  rw [hl] at h2 n2 ⊢
  refine Box1.put H.out (t2.mono fun k hk => Or.inl (by rw [HF.out]; exact Or.inr hk)) hp2 h2 (fun k hk => ?_) 0 rfl
  rcases n2 k hk with h | h
  · exact Or.inl ⟨by rw [HF.out]; exact Or.inr h, fun e => HN.out (e ▸ h)⟩
  · exact Or.inr h

set_option maxRecDepth 10000 in
theorem done_any (p : Nat) (l : List UInt8) (F : Nat → Prop) (w : World) (h : WrAt p l F w) :
    Calls Tryd.prog 68 #[.pointer (some ⟨p, 0, none⟩)] w fun e w' => e = .returned (.tuple #[.string ⟨l.toArray⟩, .int .i64 0]) ∧ w = w' := by
  have H := Lib.hid h
  obtain ⟨v, hp, hsl, _⟩ := h
  have c0 := cells_of hp 0 _ rfl
  have c1 := cells_of hp 1 _ rfl
  have HC := Lib.hid (BSl.conv hsl)
  clear hp hsl
  go_enter Tryd.func68, Tryd.ntmps68
  go_wp2_with first
    | (go_at_call 94; refine (none_no _ _ _ _ H.out).mono ?_; rintro e w' ⟨rfl, rfl⟩)
    | (refine wpList_exec (exec_conv _ _ _ rfl rfl HC.out) rfl ?_)
  exact bodyPost_ret (v := .tuple #[.string ⟨l.toArray⟩, .int .i64 0]) (by simp [results, Tryd.results68, go_sem]) rfl ⟨rfl, rfl⟩

set_option maxRecDepth 10000 in
set_option maxHeartbeats 1000000 in
theorem num_any (p : Nat) (l : List UInt8) (n : Nat) (F : Nat → Prop) (w : World) (h : WrAt p l F w) (hn : n < 4294967296) (hl : l.length ≤ 16777216) :
    Calls Tryd.prog 65 #[.pointer (some ⟨p, 0, none⟩), .int .i64 n, .int .i64 4] w fun e w' => e = .returned (.pointer (some ⟨p, 0, none⟩)) ∧ Step F (WrAt p (l ++ be4 n)) w w' := by
  have H := Lib.hid h
  have hpl := (local_wr p l F w h).1 p h.at_p
  obtain ⟨i0, hi, hz0, hz1, hz2⟩ := info_parts infoU8
  have hp0 := h
  obtain ⟨v, hp, hr0⟩ := hp0
  have c1 := cells_of hp 1 _ rfl
  clear hr0
  have h32 : (n : Int) / 4294967296 = 0 := by omega
  have hneg : ¬ (n : Int) < 0 := by omega
  have HI := Lib.hid hi
  clear hp h hi hn
  go_enter_defers Tryd.func65, Tryd.ntmps65
  go_wp2_with first
    | (go_at_call 94; refine (none_no _ _ _ _ H.out).mono ?_; rintro e w' ⟨rfl, rfl⟩)
    | (go_at_call 96; refine (bits_four _).mono ?_; rintro e w' ⟨rfl, rfl⟩)
  obtain ⟨E, hE⟩ : ∃ E, w.heap.size = E := ⟨_, rfl⟩
  obtain ⟨we, hwe⟩ : ∃ we, we = w.alloc (.cells #[.int .i64 0] 25) := ⟨_, rfl⟩
  have te : Turns nobody w we := by rw [hwe]; exact (Turns.refl _ _).alloc _
  have he : we.heap[E]? = some (.cells #[.int .i64 0] 25 (0, 0)) := by rw [hwe, ← hE]; exact heap_alloc_new w _
  have hze : we.heap.size = E + 1 := by rw [hwe, ← hE]; simp
  have hFE : ∀ i, F i → i < E := fun i hi => by rw [← hE]; exact (local_wr p l F w H.out).1 i hi
  rw [← hwe, hE]
  have HTE := Lib.hid te
  have HEE := Lib.hid he
  have H0 := Lib.hid ((local_wr p l).keep H.out te (fun _ _ h => h))
  have HFE := Lib.hid hFE
  have HZE := Lib.hid hze
  rw [hE] at hpl
  clear hwe te he hE hze hFE c1 H
  go_loopw [8] (fun k wr => ∃ (j : Nat) (z : Int), j ≤ 4 ∧ z = 32 - 8 * (j : Int) ∧ k = .int .i64 z ∧ Step F (WrAt p (l ++ be n j)) we wr) (fun k _ => (intOf k).toNat)
  case atStart => exact ⟨0, 32, by omega, by omega, rfl, by rw [be_zero, List.append_nil]; exact Step.same H0.out (Turns.refl _ _)⟩
  case round =>
    clear H0
    obtain ⟨j, z, hj, hz, rfl, hst⟩ := hrel
    obtain ⟨F', ha, ht, hnF⟩ := hst
    have HA := Lib.hid ha
    have HT := Lib.hid ht
    have HNF := Lib.hid hnF
    by_cases hj4 : j < 4
    · obtain ⟨k, hk⟩ : ∃ k : Nat, 8 * (3 - j) = k := ⟨_, rfl⟩
      have hzk : z - 8 = (k : Int) := by omega
      have hz0' : (0 : Int) < z := by omega
      have hk64 : k < 64 := by omega
      have hsh : IntKind.u8.wrap ((n : Int) / 2 ^ k) = ((UInt8.ofNat (n / 2 ^ k)).toNat : Int) := shift_wrap n k
      have hbs := be_succ n j
      rw [hk] at hbs
      generalize UInt8.ofNat (n / 2 ^ k) = x at hsh hbs
      have hll : (l ++ be n j).length = l.length + j := by rw [List.length_append, be_len]
      have hbs2 : l ++ be n (j + 1) = (l ++ be n j) ++ [x] := by rw [hbs, List.append_assoc]
      generalize l ++ be n j = b at ha HA hll hbs2
      obtain ⟨c, hc⟩ : ∃ c, l ++ be n (j + 1) = c := ⟨_, rfl⟩
      have HCC := Lib.hid hc
      rw [hc] at hbs2
      clear hc
      obtain ⟨v, hp, hsl, hne, hF⟩ := ha
      obtain ⟨aov, capv, rfl, _⟩ := hsl.shape
      have HSH := Lib.hid hsh
      have HBS := Lib.hid hbs2
      have HP := Lib.hid hp
      have HSL := Lib.hid hsl
      have HNE := Lib.hid hne
      have HF := Lib.hid hF
      have HLL := Lib.hid hll
      have hwz : IntKind.i64.wrap (z - 8) = z - 8 := IntWalk.i64_in _ (by omega)
      have hzz : Hid (z - 8 = 32 - 8 * ((j + 1 : Nat) : Int)) := Lib.hid (by omega)
      clear ht hnF hk hsh hbs hbs2 hp hsl hne hF hll hz
      rw [hzk] at hwz hzz
      go_wp2
      refine wp_region_mix [(0, true, true), (1, true, true), (2, true, true), (3, true, true), (4, true, true), (5, true, true), (6, true, true), (7, true, true), (8, true, true), (9, false, true), (10, false, true), (11, true, true), (12, true, true), (13, false, false)] (fun W => W.heap[p]? = some (.cells #[.slice aov b.length capv, .int .i64 0, .bool true] 152 (0, 0))) (by kernel_rfl) (by kernel_rfl) (HP.out) ?_
      simp only [picked, List.filterMap_cons, List.filterMap_nil, List.getElem?_toArray, List.getElem?_cons_zero, List.getElem?_cons_succ, Option.map_some]
      repeat (refine mix_free (v := ?_) rfl ?_ ?_; rotate_left; (focus (intro w' hI; have d0 := cells_of hI 0 _ rfl; clear hI; go_simp; try with_reducible rfl)); simp only [Act.put, List.setIfInBounds_toArray, List.set_cons_zero, List.set_cons_succ])
      rw [HSH.out]
      refine mix_big rfl (fun K hK => ?_)
      go_wp2
      have hp9 := heap_newer HP.out ((Turns.refl nobody wr).alloc (.cells #[.int .u8 (x.toNat : Int)] 5)).drew (fun h => h)
      refine hK _ _ (fun _ => hp9) ?_
      clear hK K
      refine mix_big rfl (fun K hK => ?_)
      go_wp2_with (at_builtin; refine wpList_append_sl rfl _ _ 38 rfl Tryd.underlying38 HI.out hz0 hz1 hz2 rfl (by decide) rfl rfl (HSL.out.keep ((Turns.refl nobody wr).alloc (.cells #[.int .u8 (x.toNat : Int)] 5)).drew (fun _ _ h => h)) (src_one wr _).drew (by unfold maxLen; rw [HLL.out]; omega) (by rw [HLL.out]; omega) ?_)
      intro v3 w3 h3 t3 n3 c3
      obtain ⟨ao3, cap3, rfl, _⟩ := h3.shape
      have t30 : Turns (blk (.slice aov b.length capv)) wr w3 := ((Turns.refl _ _).alloc _).drew.trans t3 (fun _ h => Or.inl h)
      have hp3 := heap_newer HP.out t30 HNE.out
      have hlx : b.length + 1 = c.length := by rw [HBS.out]; exact len_app1 _ _
      have hcx : bcs b ++ [.int .u8 (x.toNat : Int)] = bcs c := by rw [HBS.out]; exact bcs_app1 _ _
      rw [hcx, hlx] at h3
      rw [hlx] at n3 ⊢
      have hstep : Step F (WrAt p c) we (w3.setCell ⟨p, 0, none⟩ (.slice ao3 c.length cap3)) := by
        refine Step.next HT.out HNF.out (Box1.put HA.out (t30.mono fun k hk => Or.inl (by rw [HF.out]; exact Or.inr hk)) hp3 h3 (fun k hk => ?_) 0 rfl)
        rcases n3 k hk with h | h
        · exact Or.inl ⟨by rw [HF.out]; exact Or.inr h, fun e => HNE.out (e ▸ h)⟩
        · exact Or.inr (by simp at h; omega)
      have d0 := cells_of hp3 0 _ rfl
      have df := free_of hp3 0
      refine hK _ _ (fun _ => hp3) ?_
      clear hK K h3 t3 n3 c3 t30 hp3 hlx hcx
      have HE := Lib.hid hstep
      clear hstep
      repeat (refine mix_free (v := ?_) rfl ?_ ?_; rotate_left; (focus (intro w' hI; go_simp; try with_reducible rfl)); simp only [Act.put, List.setIfInBounds_toArray, List.set_cons_zero, List.set_cons_succ])
      refine mix_big rfl (fun K hK => ?_)
      go_wp2
      refine hK _ _ (fun h => by cases h) ?_
      clear hK K
      refine mix_nil ?_
      go_wp2
      exact ⟨⟨j + 1, _, by omega, hzz.out, by go_num, by rw [HCC.out]; exact HE.out⟩, by simp [intOf]; omega⟩
    · obtain rfl : j = 4 := by omega
      obtain rfl : z = 0 := by omega
      have hpw := ha
      obtain ⟨v, hp, hr0⟩ := hpw
      have d1 := cells_of hp 1 _ rfl
      clear hr0
      have df := free_of hp 1
      have he2 : wr.cell? ⟨E, 0, none⟩ = some (.int .i64 0) := cells_of (heap_newer HEE.out ht (fun h => by have := HFE.out _ h; omega)) 0 _ rfl
      clear ha ht hnF hp hz hj hj4 h32
      go_wp2
      refine leaves_cons (f := 95) (args := #[.pointer (some ⟨p, 0, none⟩), .pointer (some ⟨E, 0, none⟩)]) (by simp) (by simp [go_sem]) ?_
      refine (fail_d p E .returning _ d1 df he2).mono ?_
      rintro e u' w'' ⟨rfl, rfl, rfl⟩
      refine ⟨_, results_tmp rfl _ _ _, rfl, ?_⟩
      refine Step.before ?_ HTE.out
      exact Step.next HT.out HNF.out (Box1.set HA.out (Turns.refl _ _) 1 _ (fun _ => rfl))
end Go.Proofs.YtlhcmgjkhkcgcaaDoor.octet
