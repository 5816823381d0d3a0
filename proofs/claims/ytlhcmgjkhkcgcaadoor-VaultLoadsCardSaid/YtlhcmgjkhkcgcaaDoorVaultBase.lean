/- Package vault, its plain part: a file's bytes are its records' bytes; the objects in memory; number, held and the small functions. -/
import Derived.Test.YtlhcmgjkhkcgcaaDoorJournalKeeps
import Derived.Test.YtlhcmgjkhkcgcaaDoorRefJ2
namespace Go.Proofs.YtlhcmgjkhkcgcaaDoor.vault
open Go.RowKit
open Go.Proofs.YtlhcmgjkhkcgcaaDoor.stepkit Go.Proofs.YtlhcmgjkhkcgcaaDoor.obj Go.Proofs.YtlhcmgjkhkcgcaaDoor.row Go.Proofs.YtlhcmgjkhkcgcaaDoor.mix Go.Proofs.YtlhcmgjkhkcgcaaDoor.idkit Go.Proofs.YtlhcmgjkhkcgcaaDoor.bytes Go.Proofs.YtlhcmgjkhkcgcaaDoor.octet Go.Proofs.YtlhcmgjkhkcgcaaDoor.eqkit Go.Proofs.YtlhcmgjkhkcgcaaDoor.record Go.Proofs.YtlhcmgjkhkcgcaaDoor.argkit
open Go.Proofs.YtlhcmgjkhkcgcaaDoor.journal (exists_cut good_of take_cat crash_tells)

theorem list4 : ∀ (l : List UInt8), l.length = 4 → ∃ a b c d, l = [a, b, c, d]
  | [a, b, c, d], _ => ⟨a, b, c, d, rfl⟩
theorem u8_of {x : UInt8} {n : Nat} (h : n % 256 = x.toNat) : UInt8.ofNat n = x := by
  apply UInt8.toNat_inj.1
  rw [UInt8.toNat_ofNat']
  exact h
theorem be4_val (l : List UInt8) (h : l.length = 4) : be4 (val l) = l := by
  obtain ⟨a, b, c, d, rfl⟩ := list4 l h
  have ha := a.toNat_lt
  have hb := b.toNat_lt
  have hc := c.toNat_lt
  have hd := d.toNat_lt
  have hv : val [a, b, c, d] = ((a.toNat * 256 + b.toNat) * 256 + c.toNat) * 256 + d.toNat := by simp [val]
  rw [hv]
  unfold be4 be
  simp only [List.range, List.range.loop, List.map_cons, List.map_nil]
  rw [u8_of (x := a) (by omega), u8_of (x := b) (by omega), u8_of (x := c) (by omega), u8_of (x := d) (by omega)]
theorem one_val (l : List UInt8) (h : l.length = 1) : [UInt8.ofNat (val l)] = l := by
  match l, h with
  | [x], _ =>
    rw [u8_of (x := x) (by simp [val])]
/-- A record's bytes are those that were read. -/
theorem rec_bytes {s : ByteArray} (h : errOf s = 0) : s.data.toList.take (n4 s + 9) = putL (kOf s) (bodyOf s) := by
  obtain ⟨h1, h2, h3, h4, h5⟩ := err_room h
  have hl := str_len s
  have hb : (bodyOf s).size = n4 s := by unfold bodyOf; rw [ByteArray.size_extract]; omega
  unfold putL
  rw [hb, h5, inner_list, List.nil_append]
  have e1 : be4 (n4 s) = s.data.toList.take 4 := be4_val _ (by rw [List.length_take]; omega)
  have e2 : [UInt8.ofNat (kOf s)] = (s.data.toList.drop 4).take 1 := one_val _ (by rw [List.length_take, List.length_drop]; omega)
  have e3 : (bodyOf s).data.toList = (s.data.toList.drop 5).take (n4 s) := ext_list s 5 (n4 s) (by omega)
  have e4 : be4 (sumOf s) = (s.data.toList.drop (5 + n4 s)).take 4 := be4_val _ (by rw [List.length_take, List.length_drop]; omega)
  rw [e1, e3, e4, ← List.singleton_append, e2]
  rw [show n4 s + 9 = 4 + (1 + (n4 s + 4)) by omega, List.take_add, List.take_add, List.take_add, List.drop_drop, List.drop_drop]
  rw [show 4 + 1 + n4 s = 5 + n4 s by omega, show 4 + 1 = 5 from rfl]
  simp
theorem ok_at {s : ByteArray} {k : Nat} (h : Ok s (k + 1)) : errOf (from_ s (pos s k)) = 0 ∧ pos s k < s.size ∧ pos s (k + 1) = pos s k + (n4 (from_ s (pos s k)) + 9) ∧ recAt s k = ((kOf (from_ s (pos s k)) : Int), bodyOf (from_ s (pos s k))) := by
  obtain ⟨h1, h2⟩ := h k (by omega)
  have h3 := h2
  unfold nxE at h3
  rw [if_neg (by omega), Int.toNat_natCast] at h3
  refine ⟨h3, h1, ?_, ?_⟩
  · show (nxN s (pos s k : Nat)).toNat = _
    unfold nxN
    rw [if_pos h2, Int.toNat_natCast]
    omega
  · unfold recAt nxK nxB
    rw [if_pos h2, if_pos h2, Int.toNat_natCast]
theorem ok_cat {s : ByteArray} : ∀ {k : Nat}, Ok s k → s.data.toList.take (pos s k) = cat (recs s k)
  | 0, _ => rfl
  | k + 1, h => by
    obtain ⟨h1, h2, h3, h4⟩ := ok_at h
    have hr := rec_bytes h1
    rw [from_list _ _ (by omega)] at hr
    rw [h3, List.take_add, hr, ok_cat (fun i hi => h i (by omega)), recs_succ, cat_append, h4]
    simp [cat, rb]
theorem ok_good {s : ByteArray} {k : Nat} (h : Ok s k) (hs : s.size < 3000) : record.Good (recs s k) := by
  intro r hr
  unfold recs at hr
  obtain ⟨i, hi, rfl⟩ := List.mem_map.1 hr
  have hi := List.mem_range.1 hi
  obtain ⟨h1, h2, h3, h4⟩ := ok_at (k := i) (fun j hj => h j (by omega))
  obtain ⟨g1, g2, g3, g4, g5⟩ := err_room h1
  rw [from_size] at g1
  rw [h4]
  have hb : (bodyOf (from_ s (pos s i))).size = n4 (from_ s (pos s i)) := by unfold bodyOf; rw [ByteArray.size_extract, from_size]; omega
  have he : putE ((kOf (from_ s (pos s i)) : Nat) : Int) (bodyOf (from_ s (pos s i))) = 0 := by
    unfold putE
    rw [if_neg (by omega), if_neg (by omega)]
  unfold good
  have hz : (putS ((kOf (from_ s (pos s i)) : Nat) : Int) (bodyOf (from_ s (pos s i)))).size < 3000 := by
    unfold putS
    rw [if_pos he]
    show (putL _ _).toArray.size < _
    rw [List.size_toArray, putL_len]; omega
  simp only [he, hz, decide_true, Bool.and_self]
theorem done_all {s : ByteArray} {k E : Nat} (h : Done s k E) : s.data.toList.take (pos s k) = cat (recs s k) := ok_cat h.1
theorem done_fits {s : ByteArray} {k : Nat} (h : Ok s k) : ∀ i, i < k → ((recs s k).getD i (0, nil)).2.size ≤ 1048576 := by
  intro i hi
  obtain ⟨h1, h2, h3, h4⟩ := ok_at (k := i) (fun j hj => h j (by omega))
  have he : (recs s k).getD i (0, nil) = recAt s i := by unfold recs; simp [List.getD, hi]
  rw [he, h4]
  obtain ⟨g1, g2, -⟩ := err_room h1
  show (bodyOf _).size ≤ _
  unfold bodyOf; rw [ByteArray.size_extract]; omega

/-! ### A file's number, and what it holds -/
def r0 (l : List RV) : RV := l.getD 0 (0, nil)
/-- A file's number; less than nought: it is not whole. -/
def sealed (l : List RV) : Bool := l.any fun r => decide (r.1 = 2)
def numOf (l : List RV) : Int := if (r0 l).1 = 1 ∧ (r0 l).2.size = 4 ∧ sealed l = true then (n4 (r0 l).2 : Int) else -1
/-- What it holds. -/
def heldOf (l : List RV) : List ByteArray := (l.filter fun r => decide (r.1 = 3)).map (·.2)
theorem numOf_ge (l : List RV) : -1 ≤ numOf l := by unfold numOf; split <;> omega
theorem numOf_lt (l : List RV) : numOf l < 4294967296 := by unfold numOf; split; have := n4_lt (r0 l).2; omega; omega
theorem numOf_nil : numOf [] = -1 := rfl
theorem heldOf_append (l m : List RV) : heldOf (l ++ m) = heldOf l ++ heldOf m := by unfold heldOf; simp
theorem take_mono {l : List RV} {n j : Nat} (h : n ≤ j) : ∃ m, l.take j = l.take n ++ m := by
  have h1 := (List.take_append_drop n (l.take j)).symm
  rw [List.take_take, Nat.min_eq_left h] at h1
  exact ⟨_, h1⟩
/-- More records: the number stays. -/
theorem numOf_more {l m : List RV} (h : 0 ≤ numOf l) : numOf (l ++ m) = numOf l := by
  unfold numOf at h ⊢
  split at h
  · rename_i hc
    have hl : l ≠ [] := by rintro rfl; exact absurd hc.1 (by decide)
    have hr : r0 (l ++ m) = r0 l := by
      unfold r0
      cases l with
      | nil => exact absurd rfl hl
      | cons a l => rfl
    have hs : sealed (l ++ m) = true := by unfold sealed at hc ⊢; rw [List.any_append, hc.2.2, Bool.true_or]
    rw [hr, hs, if_pos hc, if_pos ⟨hc.1, hc.2.1, rfl⟩]
  · omega
theorem numOf_take {l : List RV} {n j : Nat} (h : 0 ≤ numOf (l.take n)) (hj : n ≤ j) : numOf (l.take j) = numOf (l.take n) := by
  obtain ⟨m, hm⟩ := take_mono (l := l) hj
  rw [hm, numOf_more h]
/-- Which file: nought or one; none: two. -/
def pick (a b : Int) : Nat := if -1 < a then (if a < b then 1 else 0) else if -1 < b then 1 else 2

/-! ### A snapshot -/
def genR (n : Nat) : RV := (1, ⟨(be4 n).toArray⟩)
def sealR : RV := (2, nil)
def entR (s : ByteArray) : RV := (3, s)
def snap (n : Nat) (T : List ByteArray) : List RV := genR n :: (T.map entR ++ [sealR])
theorem gen_size (n : Nat) : (genR n).2.size = 4 := by
  show (be4 n).toArray.size = 4
  rw [List.size_toArray, be4_len]
theorem gen_n4 {n : Nat} (h : n < 4294967296) : n4 (genR n).2 = n := by
  unfold n4 genR
  simp only [List.toList_toArray]
  rw [List.take_of_length_le (by rw [be4_len]; omega), val_be4 _ h]
theorem putE_gen (n : Nat) : putE (genR n).1 (genR n).2 = 0 := by
  have := gen_size n
  unfold putE
  rw [if_neg (by show ¬¬((1 : Int) ≤ 1 ∧ (1 : Int) ≤ 3); decide), if_neg (by omega)]
theorem good_gen (n : Nat) : good (genR n) = true := good_of (putE_gen n) (by have := gen_size n; show (genR n).2.size < 300; omega)
theorem good_seal : good sealR = true := good_of (by decide) (by decide)
theorem putE_ent {s : ByteArray} (h : s.size ≤ 1048576) : putE 3 s = 0 := by
  unfold putE
  rw [if_neg (by decide), if_neg (by omega)]
theorem good_ent {s : ByteArray} (h : s.size ≤ 300) : good (entR s) = true := by
  have he := putE_ent (s := s) (by omega)
  unfold entR good
  have hz : (putS 3 s).size < 3000 := by
    unfold putS
    rw [if_pos he]
    show (putL _ _).toArray.size < _
    rw [List.size_toArray, putL_len]; omega
  simp only [he, hz, decide_true, Bool.and_self]
theorem sealed_ents (T : List ByteArray) : sealed (T.map entR) = false := by
  induction T with
  | nil => rfl
  | cons a T ih => show (decide ((3 : Int) = 2) || sealed (T.map entR)) = false; rw [ih]; rfl
theorem heldOf_ents (T : List ByteArray) : heldOf (T.map entR) = T := by
  induction T with
  | nil => rfl
  | cons a T ih =>
    have : heldOf ((a :: T).map entR) = a :: heldOf (T.map entR) := rfl
    rw [this, ih]
theorem heldOf_snap (n : Nat) (T : List ByteArray) : heldOf (snap n T) = T := by
  show heldOf (T.map entR ++ [sealR]) = T
  rw [heldOf_append, heldOf_ents]
  exact List.append_nil T
theorem numOf_snap {n : Nat} (h : n < 4294967296) (T : List ByteArray) : numOf (snap n T) = n := by
  unfold numOf
  have hr : r0 (snap n T) = genR n := rfl
  have hs : sealed (snap n T) = true := by unfold sealed snap; simp [sealR]
  rw [hr, hs, if_pos ⟨rfl, gen_size n, rfl⟩, gen_n4 h]
theorem snap_len (n : Nat) (T : List ByteArray) : (snap n T).length = T.length + 2 := by unfold snap; simp
theorem numOf_torn (n : Nat) (T : List ByteArray) (j : Nat) (hj : j < T.length + 2) : numOf ((snap n T).take j) = -1 := by
  unfold numOf
  have hs : sealed ((snap n T).take j) = false := by
    unfold sealed
    rw [List.any_eq_false]
    intro r hr
    cases j with
    | zero => simp at hr
    | succ j =>
      unfold snap at hr
      rw [List.take_succ_cons, List.take_append_of_le_length (by rw [List.length_map]; omega)] at hr
      rcases List.mem_cons.1 hr with rfl | hr
      · show ¬ decide ((1 : Int) = 2) = true
        decide
      · have hr := List.mem_of_mem_take hr
        obtain ⟨s, -, rfl⟩ := List.mem_map.1 hr
        show ¬ decide ((3 : Int) = 2) = true
        decide
  rw [hs, if_neg (by simp)]
theorem good_snap {n : Nat} {T : List ByteArray} (hT : ∀ s ∈ T, s.size ≤ 300) : record.Good (snap n T) := by
  intro r hr
  unfold snap at hr
  rcases List.mem_cons.1 hr with rfl | hr
  · exact good_gen n
  · rcases List.mem_append.1 hr with hr | hr
    · obtain ⟨s, hs, rfl⟩ := List.mem_map.1 hr
      exact good_ent (hT s hs)
    · rw [List.mem_singleton.1 hr]; exact good_seal
theorem good_append {L M : List RV} (h : record.Good L) (h' : record.Good M) : record.Good (L ++ M) := fun r hr => (List.mem_append.1 hr).elim (h r) (h' r)
theorem good_take {L : List RV} (h : record.Good L) (n : Nat) : record.Good (L.take n) := fun r hr => h r (List.mem_of_mem_take hr)
theorem cat_put {L : List RV} {r : RV} (h : putE r.1 r.2 = 0) : cat L ++ (putS r.1 r.2).data.toList = cat (L ++ [r]) := by
  rw [cat_append]
  unfold putS
  rw [if_pos h]
  simp [cat, rb]

/-! ### Where a torn file ends -/
open Classical in
noncomputable def cutN (L : List RV) (m : Nat) : Nat := Classical.choose (exists_cut L m)
theorem cutN_spec (L : List RV) (m : Nat) : cutN L m ≤ L.length ∧ endOf L (cutN L m) ≤ m ∧ (cutN L m = L.length ∨ m < endOf L (cutN L m + 1)) := Classical.choose_spec (exists_cut L m)
theorem cutN_ge {L : List RV} {m n : Nat} (hn : n ≤ L.length) (h : endOf L n ≤ m) : n ≤ cutN L m := by
  obtain ⟨h1, h2, h3⟩ := cutN_spec L m
  rcases h3 with h3 | h3
  · omega
  · rcases Nat.lt_or_ge (cutN L m) n with h4 | h4
    · have := endOf_le L (cutN L m + 1) n h4; omega
    · exact h4
theorem cutN_all {L : List RV} {m : Nat} (h : (cat L).length ≤ m) : cutN L m = L.length := by
  have h1 := (cutN_spec L m).1
  have h2 := cutN_ge (L := L) (m := m) (Nat.le_refl _) (by rw [endOf_all]; exact h)
  omega
/-- What is read of a torn file. -/
theorem torn_cut {L : List RV} (hg : record.Good L) {m : Nat} (hm : m ≤ (cat L).length) {s : ByteArray} (hs : s.data.toList = (cat L).take m) {k E : Nat} (hD : Done s k E) : k = cutN L m ∧ recs s k = L.take k ∧ pos s k = endOf L k := by
  obtain ⟨h1, h2, h3⟩ := cutN_spec L m
  have h := torn_done hg hs hm _ h1 h2 h3
  obtain ⟨rfl, _⟩ := hD.uniq h.1
  exact ⟨rfl, h.2.1, h.2.2⟩
theorem endOf_take (L : List RV) (k : Nat) (hk : k ≤ L.length) : endOf (L.take k) k = endOf L k := by unfold endOf; rw [List.take_take, Nat.min_self]
end Go.Proofs.YtlhcmgjkhkcgcaaDoor.vault

namespace Go.Proofs.YtlhcmgjkhkcgcaaDoor.vault
open Go.RowKit
open Go.Proofs.YtlhcmgjkhkcgcaaDoor.stepkit Go.Proofs.YtlhcmgjkhkcgcaaDoor.obj Go.Proofs.YtlhcmgjkhkcgcaaDoor.row Go.Proofs.YtlhcmgjkhkcgcaaDoor.mix Go.Proofs.YtlhcmgjkhkcgcaaDoor.idkit Go.Proofs.YtlhcmgjkhkcgcaaDoor.bytes Go.Proofs.YtlhcmgjkhkcgcaaDoor.octet Go.Proofs.YtlhcmgjkhkcgcaaDoor.eqkit Go.Proofs.YtlhcmgjkhkcgcaaDoor.record Go.Proofs.YtlhcmgjkhkcgcaaDoor.argkit
open Go.Proofs.YtlhcmgjkhkcgcaaDoor.journal
open Go.Proofs.YtlhcmgjkhkcgcaaDoor.block (BlockAt keepOf keepOf_le keepOf_ge)

/-! ### Steps that touch blocks of some types alone -/
structure TS (ok : TypeId → Prop) (B : Nat) (w w' : World) : Prop where
  out : ∃ F, Turns F w w' ∧ ∀ i, F i → B ≤ i ∧ ∃ cur T, w.heap[i]? = some (.cells cur T (0, 0)) ∧ ok T
theorem TS.still {ok : TypeId → Prop} {B : Nat} {w w' : World} (h : Turns nobody w w') : TS ok B w w' := ⟨nobody, h, fun _ h => h.elim⟩
theorem TS.refl (ok : TypeId → Prop) (B : Nat) (w : World) : TS ok B w w := TS.still (Turns.refl _ _)
theorem TS.size {ok : TypeId → Prop} {B : Nat} {w w' : World} (h : TS ok B w w') : w.heap.size ≤ w'.heap.size := by
  obtain ⟨F, h, -⟩ := h.out
  exact h.size
theorem TS.trans {ok : TypeId → Prop} {B : Nat} {a b c : World} (h : TS ok B a b) (h' : TS ok B b c) : TS ok B a c := by
  obtain ⟨F, h1, h2⟩ := h.out
  obtain ⟨G, h3, h4⟩ := h'.out
  refine ⟨fun i => F i ∨ (G i ∧ i < a.heap.size ∧ ¬ F i), ?_, ?_⟩
  · refine (h1.mono (G := fun i => F i ∨ (G i ∧ i < a.heap.size ∧ ¬ F i)) (fun _ h => Or.inl (Or.inl h))).trans h3 (fun i hi => ?_)
    rcases Nat.lt_or_ge i a.heap.size with h5 | h5
    · rcases Classical.em (F i) with h6 | h6
      · exact Or.inl (Or.inl h6)
      · exact Or.inl (Or.inr ⟨hi, h5, h6⟩)
    · exact Or.inr h5
  · rintro i (hi | ⟨hi, h5, h6⟩)
    · exact h2 i hi
    · obtain ⟨h7, cur, T, h8, h9⟩ := h4 i hi
      exact ⟨h7, cur, T, by rw [← h1.block i h5 h6]; exact h8, h9⟩
theorem TS.turns {ok : TypeId → Prop} {w0 w w' : World} (h : TS ok w0.heap.size w w') (ht : Turns nobody w0 w) : Turns nobody w0 w' := by
  obtain ⟨F, h1, h2⟩ := h.out
  exact ht.trans2 h1 (fun i hi => (h2 i hi).1)
/-- A block of another type stays. -/
theorem TS.heap {ok : TypeId → Prop} {B : Nat} {w w' : World} (h : TS ok B w w') {p : Nat} {cur : Array Value} {T : TypeId} (hp : w.heap[p]? = some (.cells cur T (0, 0))) (hT : ¬ ok T) : w'.heap[p]? = some (.cells cur T (0, 0)) := by
  obtain ⟨F, h1, h2⟩ := h.out
  refine heap_newer hp h1 (fun hf => ?_)
  obtain ⟨-, c, U, h3, h4⟩ := h2 p hf
  rw [hp] at h3
  simp at h3
  exact hT (h3.2 ▸ h4)
theorem TS.sl {ok : TypeId → Prop} {B : Nat} {w w' : World} (h : TS ok B w w') {e : TypeId} {sz n : Nat} {v : Value} {xs : List Value} (hs : Sl w e sz v n xs) (hT : ¬ ok e) : Sl w' e sz v n xs := by
  obtain ⟨F, h1, h2⟩ := h.out
  refine Sl.keep hs h1 (fun i hi hf => ?_)
  obtain ⟨c, hc⟩ := Sl.elem hs i hi
  obtain ⟨-, c, U, h3, h4⟩ := h2 i hf
  rw [hc] at h3
  simp at h3
  exact hT (h3.2 ▸ h4)
/-- One block of a type. -/
theorem TS.one {ok : TypeId → Prop} {B : Nat} {w w' : World} {p : Nat} (h : Turns (fun i => i = p) w w') (hB : B ≤ p) {cur : Array Value} {T : TypeId} (hp : w.heap[p]? = some (.cells cur T (0, 0))) (hT : ok T) : TS ok B w w' :=
  ⟨_, h, fun i hi => by subst hi; exact ⟨hB, cur, T, hp, hT⟩⟩

/-- The program's blocks. -/
def okV (T : TypeId) : Prop := T = 110 ∨ T = 77 ∨ T = 79
/-- The document's. -/
def okX (T : TypeId) : Prop := T = 98

theorem JAt.ts {B : Nat} {w w' : World} {p q : Nat} {l : List UInt8} {sb n sn : Nat} (h : JAt w p q l sb n sn) (ht : Turns (two p q) w w') (hp : B ≤ p) (hq : B ≤ q) : TS okV B w w' := by
  refine ⟨two p q, ht, ?_⟩
  rintro i (rfl | rfl)
  · exact ⟨hp, _, _, h.h, Or.inr (Or.inl rfl)⟩
  · obtain ⟨_, v, h2, _⟩ := h.b
    exact ⟨hq, _, _, h2, Or.inr (Or.inr rfl)⟩
theorem BlockAt.ts {B : Nat} {w w' : World} {q : Nat} {l : List UInt8} {sb : Nat} (h : BlockAt w q l sb) (ht : Turns (fun i => i = q) w w') (hq : B ≤ q) : TS okV B w w' := by
  obtain ⟨_, v, h2, _⟩ := h
  exact TS.one ht hq h2 (Or.inr (Or.inr rfl))
theorem BlockAt.tsx {B : Nat} {w w' : World} {q : Nat} {l : List UInt8} {sb : Nat} (h : BlockAt w q l sb) (ht : TS okX B w w') : BlockAt w' q l sb := by
  obtain ⟨F, h1, h2⟩ := ht.out
  refine block_keep h h1 (fun hf => ?_) (fun i hi cur hc => ?_)
  · obtain ⟨-, c, U, h3, h4⟩ := h2 q hf
    obtain ⟨_, v, h5, _⟩ := h
    rw [h5] at h3
    simp at h3
    have h6 : U = 98 := h4
    rw [h6] at h3
    exact absurd h3.2 (by decide)
  · obtain ⟨-, c, U, h3, h4⟩ := h2 i hi
    rw [hc] at h3
    simp at h3
    have h6 : U = 98 := h4
    rw [h6] at h3
    exact absurd h3.2 (by decide)
theorem JAt.tsx {B : Nat} {w w' : World} {p q : Nat} {l : List UInt8} {sb n sn : Nat} (h : JAt w p q l sb n sn) (ht : TS okX B w w') : JAt w' p q l sb n sn :=
  ⟨ht.heap h.h (by unfold okX; decide), BlockAt.tsx h.b ht⟩

/-! ### The program's vault -/
structure VG (w : World) (B V q0 q1 p0 p1 : Nat) (L0 : List RV) (n0 : Nat) (L1 : List RV) (n1 : Nat) (u no : Nat) : Prop where
  h : w.heap[V]? = some (.cells #[.pointer (some ⟨q0, 0, none⟩), .pointer (some ⟨q1, 0, none⟩), .pointer (some ⟨p0, 0, none⟩), .pointer (some ⟨p1, 0, none⟩), .int .i64 (u : Int), .int .i64 (no : Int)] 110 (0, 0))
  j0 : JAt w p0 q0 (cat L0) (endOf L0 n0) L0.length n0
  j1 : JAt w p1 q1 (cat L1) (endOf L1 n1) L1.length n1
  g0 : record.Good L0
  g1 : record.Good L1
  s0 : n0 ≤ L0.length
  s1 : n1 ≤ L1.length
  ne : q0 ≠ q1
  bV : B ≤ V
  bq0 : B ≤ q0
  bq1 : B ≤ q1
  bp0 : B ≤ p0
  bp1 : B ≤ p1
theorem VG.pne {w : World} {B V q0 q1 p0 p1 : Nat} {L0 : List RV} {n0 : Nat} {L1 : List RV} {n1 : Nat} {u no : Nat} (h : VG w B V q0 q1 p0 p1 L0 n0 L1 n1 u no) : p0 ≠ p1 := by
  rintro rfl
  have h1 := h.j0.h
  rw [h.j1.h] at h1
  simp at h1
  exact h.ne h1.1.symm
theorem block_ne_j {w : World} {p q p' q' : Nat} {l l' : List UInt8} {sb sb' n n' sn sn' : Nat} (h : JAt w p q l sb n sn) (h' : JAt w p' q' l' sb' n' sn') : p ≠ q' := by
  rintro rfl
  obtain ⟨_, v, h2, _⟩ := h'.b
  rw [h.h] at h2
  simp at h2
theorem VG.vne {w : World} {B V q0 q1 p0 p1 : Nat} {L0 : List RV} {n0 : Nat} {L1 : List RV} {n1 : Nat} {u no : Nat} (h : VG w B V q0 q1 p0 p1 L0 n0 L1 n1 u no) : V ≠ q0 ∧ V ≠ q1 ∧ V ≠ p0 ∧ V ≠ p1 := by
  refine ⟨?_, ?_, ?_, ?_⟩
  · rintro rfl
    obtain ⟨_, v, h2, _⟩ := h.j0.b
    rw [h.h] at h2; simp at h2
  · rintro rfl
    obtain ⟨_, v, h2, _⟩ := h.j1.b
    rw [h.h] at h2; simp at h2
  · rintro rfl
    have h2 := h.j0.h
    rw [h.h] at h2; simp at h2
  · rintro rfl
    have h2 := h.j1.h
    rw [h.h] at h2; simp at h2
theorem VG.still {w w' : World} {B V q0 q1 p0 p1 : Nat} {L0 : List RV} {n0 : Nat} {L1 : List RV} {n1 : Nat} {u no : Nat} (h : VG w B V q0 q1 p0 p1 L0 n0 L1 n1 u no) (ht : Turns nobody w w') : VG w' B V q0 q1 p0 p1 L0 n0 L1 n1 u no :=
  ⟨heap_newer h.h ht (fun h => h), h.j0.still ht, h.j1.still ht, h.g0, h.g1, h.s0, h.s1, h.ne, h.bV, h.bq0, h.bq1, h.bp0, h.bp1⟩
theorem VG.tsx {w w' : World} {B V q0 q1 p0 p1 : Nat} {L0 : List RV} {n0 : Nat} {L1 : List RV} {n1 : Nat} {u no : Nat} (h : VG w B V q0 q1 p0 p1 L0 n0 L1 n1 u no) (ht : TS okX B w w') : VG w' B V q0 q1 p0 p1 L0 n0 L1 n1 u no :=
  ⟨ht.heap h.h (by unfold okX; decide), JAt.tsx h.j0 ht, JAt.tsx h.j1 ht, h.g0, h.g1, h.s0, h.s1, h.ne, h.bV, h.bq0, h.bq1, h.bp0, h.bp1⟩
/-- The first file turned. -/
theorem VG.set0 {w w' : World} {B V q0 q1 p0 p1 : Nat} {L0 : List RV} {n0 : Nat} {L1 : List RV} {n1 : Nat} {u no : Nat} (h : VG w B V q0 q1 p0 p1 L0 n0 L1 n1 u no) {L' : List RV} {n' : Nat} (hj : JAt w' p0 q0 (cat L') (endOf L' n') L'.length n') (hg : record.Good L') (hs : n' ≤ L'.length) (ht : Turns (two p0 q0) w w') : VG w' B V q0 q1 p0 p1 L' n' L1 n1 u no := by
  obtain ⟨v1, v2, v3, v4⟩ := h.vne
  refine ⟨heap_newer h.h ht (fun e => by rcases e with e | e; exact v3 e; exact v1 e), hj, h.j1.keep ht (fun e => ?_) (fun e => ?_) h.j0.nobytes, hg, h.g1, hs, h.s1, h.ne, h.bV, h.bq0, h.bq1, h.bp0, h.bp1⟩
  · rcases e with e | e
    · exact h.pne e.symm
    · exact block_ne_j h.j1 h.j0 e
  · rcases e with e | e
    · exact block_ne_j h.j0 h.j1 e.symm
    · exact h.ne e.symm
theorem VG.set1 {w w' : World} {B V q0 q1 p0 p1 : Nat} {L0 : List RV} {n0 : Nat} {L1 : List RV} {n1 : Nat} {u no : Nat} (h : VG w B V q0 q1 p0 p1 L0 n0 L1 n1 u no) {L' : List RV} {n' : Nat} (hj : JAt w' p1 q1 (cat L') (endOf L' n') L'.length n') (hg : record.Good L') (hs : n' ≤ L'.length) (ht : Turns (two p1 q1) w w') : VG w' B V q0 q1 p0 p1 L0 n0 L' n' u no := by
  obtain ⟨v1, v2, v3, v4⟩ := h.vne
  refine ⟨heap_newer h.h ht (fun e => by rcases e with e | e; exact v4 e; exact v2 e), h.j0.keep ht (fun e => ?_) (fun e => ?_) h.j1.nobytes, hj, h.g0, hg, h.s0, hs, h.ne, h.bV, h.bq0, h.bq1, h.bp0, h.bp1⟩
  · rcases e with e | e
    · exact h.pne e
    · exact block_ne_j h.j0 h.j1 e
  · rcases e with e | e
    · exact block_ne_j h.j1 h.j0 e.symm
    · exact h.ne e
/-- The vault, its blocks unnamed. -/
def VC (w : World) (B V : Nat) (L0 : List RV) (n0 : Nat) (L1 : List RV) (n1 : Nat) (u no : Nat) : Prop := ∃ q0 q1 p0 p1, VG w B V q0 q1 p0 p1 L0 n0 L1 n1 u no
theorem VC.still {w w' : World} {B V : Nat} {L0 : List RV} {n0 : Nat} {L1 : List RV} {n1 : Nat} {u no : Nat} (h : VC w B V L0 n0 L1 n1 u no) (ht : Turns nobody w w') : VC w' B V L0 n0 L1 n1 u no := by
  obtain ⟨q0, q1, p0, p1, h⟩ := h
  exact ⟨q0, q1, p0, p1, h.still ht⟩
theorem VC.tsx {w w' : World} {B V : Nat} {L0 : List RV} {n0 : Nat} {L1 : List RV} {n1 : Nat} {u no : Nat} (h : VC w B V L0 n0 L1 n1 u no) (ht : TS okX B w w') : VC w' B V L0 n0 L1 n1 u no := by
  obtain ⟨q0, q1, p0, p1, h⟩ := h
  exact ⟨q0, q1, p0, p1, h.tsx ht⟩

/-! ### The document's vault -/
structure XC (w : World) (B X : Nat) (L0 : List RV) (n0 : Nat) (L1 : List RV) (n1 : Nat) (u no : Nat) (cur : Array Value) (v0 v1 : Value) : Prop where
  r0 : RJ w X 98 0 cur ⟨(cat L0).toArray⟩ (endOf L0 n0) v0 L0 n0
  r1 : RJ w X 98 4 cur ⟨(cat L1).toArray⟩ (endOf L1 n1) v1 L1 n1
  cu : cur[8]? = some (.int .i64 (u : Int))
  cn : cur[9]? = some (.int .i64 (no : Int))
  bX : B ≤ X
def XV (w : World) (B X : Nat) (L0 : List RV) (n0 : Nat) (L1 : List RV) (n1 : Nat) (u no : Nat) : Prop := ∃ cur v0 v1, XC w B X L0 n0 L1 n1 u no cur v0 v1
theorem RJ.ts {ok : TypeId → Prop} {B : Nat} {w w' : World} {X : Nat} {T : TypeId} {o : Nat} {cur : Array Value} {S : ByteArray} {sb : Nat} {v : Value} {rl : List RV} {sn : Nat} (h : RJ w X T o cur S sb v rl sn) (ht : TS ok B w w') (h1 : ¬ ok T) (h2 : ¬ ok 23) : RJ w' X T o cur S sb v rl sn :=
  ⟨ht.heap h.h h1, h.c0, h.c1, h.c2, h.c3, ht.sl h.s h2⟩
theorem XC.ts {w w' : World} {B X : Nat} {L0 : List RV} {n0 : Nat} {L1 : List RV} {n1 : Nat} {u no : Nat} {cur : Array Value} {v0 v1 : Value} (h : XC w B X L0 n0 L1 n1 u no cur v0 v1) (ht : TS okV B w w') : XC w' B X L0 n0 L1 n1 u no cur v0 v1 :=
  ⟨RJ.ts h.r0 ht (by unfold okV; decide) (by unfold okV; decide), RJ.ts h.r1 ht (by unfold okV; decide) (by unfold okV; decide), h.cu, h.cn, h.bX⟩
theorem XC.still {w w' : World} {B X : Nat} {L0 : List RV} {n0 : Nat} {L1 : List RV} {n1 : Nat} {u no : Nat} {cur : Array Value} {v0 v1 : Value} (h : XC w B X L0 n0 L1 n1 u no cur v0 v1) (ht : Turns nobody w w') : XC w' B X L0 n0 L1 n1 u no cur v0 v1 := h.ts (TS.still ht)
theorem XV.ts {w w' : World} {B X : Nat} {L0 : List RV} {n0 : Nat} {L1 : List RV} {n1 : Nat} {u no : Nat} (h : XV w B X L0 n0 L1 n1 u no) (ht : TS okV B w w') : XV w' B X L0 n0 L1 n1 u no := by
  obtain ⟨cur, v0, v1, h⟩ := h
  exact ⟨cur, v0, v1, h.ts ht⟩
theorem XV.still {w w' : World} {B X : Nat} {L0 : List RV} {n0 : Nat} {L1 : List RV} {n1 : Nat} {u no : Nat} (h : XV w B X L0 n0 L1 n1 u no) (ht : Turns nobody w w') : XV w' B X L0 n0 L1 n1 u no := h.ts (TS.still ht)

/-! ### Texts -/
def tcells (l : List ByteArray) : List Value := l.map .string
def TSl (w : World) (v : Value) (l : List ByteArray) : Prop := Sl w 9 1 v l.length (tcells l)
/-- They can be read. -/
def TAt (w : World) (v : Value) (l : List ByteArray) : Prop := ∃ ao cap, v = .slice ao l.length cap ∧ ∀ i, i < l.length → ∃ b o, ao = some ⟨b, o, none⟩ ∧ w.cell? ⟨b, o + i, none⟩ = some (.string (l.getD i nil))
theorem tcells_len (l : List ByteArray) : (tcells l).length = l.length := by unfold tcells; simp
theorem TSl.at_ {w : World} {v : Value} {l : List ByteArray} (h : TSl w v l) : TAt w v l := by
  obtain ⟨ao, cap, rfl, -⟩ := Sl.shape h
  refine ⟨ao, cap, rfl, fun i hi => ?_⟩
  obtain ⟨b, o, c0, hv, _⟩ := Sl.some_of_pos h (by omega)
  cases hv
  refine ⟨b, o, rfl, ?_⟩
  have h1 := Sl.cell h i (by rw [tcells_len]; exact hi)
  rw [h1]
  unfold tcells
  simp [List.getD, hi]
end Go.Proofs.YtlhcmgjkhkcgcaaDoor.vault

namespace Go.Proofs.YtlhcmgjkhkcgcaaDoor.vault
open Go.RowKit
open Go.Proofs.YtlhcmgjkhkcgcaaDoor.stepkit Go.Proofs.YtlhcmgjkhkcgcaaDoor.obj Go.Proofs.YtlhcmgjkhkcgcaaDoor.row Go.Proofs.YtlhcmgjkhkcgcaaDoor.mix Go.Proofs.YtlhcmgjkhkcgcaaDoor.idkit Go.Proofs.YtlhcmgjkhkcgcaaDoor.bytes Go.Proofs.YtlhcmgjkhkcgcaaDoor.octet Go.Proofs.YtlhcmgjkhkcgcaaDoor.eqkit Go.Proofs.YtlhcmgjkhkcgcaaDoor.record Go.Proofs.YtlhcmgjkhkcgcaaDoor.argkit

/-! ### The reader's end -/
set_option maxHeartbeats 400000 in
theorem rend_any (p : Nat) (s : ByteArray) (k : Nat) (bad : Int) (F : Nat → Prop) (w : World) (h : RdAt p s k bad F w) (hb : bad = 0 ∨ bad = 2) :
    Calls Tryd.prog 115 #[.pointer (some ⟨p, 0, none⟩)] w fun e w' => e = .returned (.int .i64 (if bad = 0 then (if k = s.size then 0 else 4) else bad)) ∧ ∃ n, w' = w.drewN n := by
  have hc0 := h.c.1
  have hc1 := h.c.2.1
  have HE := Lib.hid (err_any p s k bad F w h)
  clear h
  rcases hb with rfl | rfl
  · rw [if_pos rfl]
    by_cases hk : k = s.size
    · rw [if_pos hk]
      have hkI : ((k : Int) == (s.size : Int)) = true := by rw [hk]; simp
      clear hk
      go_enter Tryd.func115, Tryd.ntmps115
      go_upto_region 2 with (go_at_call 101; refine HE.out.mono ?_; rintro e w' ⟨rfl, rfl⟩)
      go_quiet (fail)
      go_wp2
      go_ret
      exact ⟨rfl, _, rfl⟩
    · rw [if_neg hk]
      have hkI : ((k : Int) == (s.size : Int)) = false := by simp; omega
      clear hk
      go_enter Tryd.func115, Tryd.ntmps115
      go_upto_region 2 with (go_at_call 101; refine HE.out.mono ?_; rintro e w' ⟨rfl, rfl⟩)
      go_quiet (fail)
      go_wp2
      go_ret
      exact ⟨rfl, _, rfl⟩
  · rw [if_neg (by decide)]
    go_enter Tryd.func115, Tryd.ntmps115
    go_upto_region 2 with (go_at_call 101; refine HE.out.mono ?_; rintro e w' ⟨rfl, rfl⟩)
    go_quiet (fail)
    go_wp2
    go_ret
    exact ⟨rfl, _, rfl⟩
theorem refend_any (p : Nat) (s : ByteArray) (k : Nat) (bad : Int) (w : World) (h : RR w p s k bad) (hb : bad = 0 ∨ bad = 2) (hk : k ≤ s.size) :
    Calls Tryd.prog 111 #[.pointer (some ⟨p, 0, none⟩)] w fun e w' => e = .returned (.int .i64 (if bad = 0 then (if k = s.size then 0 else 4) else bad)) ∧ w = w' := by
  have c0 := cells_of h 0 _ rfl
  have c1 := cells_of h 1 _ rfl
  have hz := from_len s k
  generalize from_ s k = t at *
  clear h
  rcases hb with rfl | rfl
  · rw [if_pos rfl]
    by_cases he : k = s.size
    · rw [if_pos he]
      have hI : ¬ (0 : Int) < (t.size : Int) := by omega
      clear he hz
      go_enter Tryd.func111, Tryd.ntmps111
      go_wp2
      go_ret
      exact ⟨rfl, rfl⟩
    · rw [if_neg he]
      have hI : (0 : Int) < (t.size : Int) := by omega
      clear he hz
      go_enter Tryd.func111, Tryd.ntmps111
      go_wp2
      go_ret
      exact ⟨rfl, rfl⟩
  · rw [if_neg (by decide)]
    clear hz
    go_enter Tryd.func111, Tryd.ntmps111
    go_wp2
    go_ret
    exact ⟨rfl, rfl⟩

/-! ### Plain -/
theorem sealed_at {l : List RV} {k : Nat} (hk : k < l.length) (h : (l.getD k (0, nil)).1 = 2) : sealed l = true := by
  unfold sealed
  rw [List.any_eq_true]
  refine ⟨l.getD k (0, nil), ?_, by simpa using h⟩
  rw [List.getD_eq_getElem?_getD, List.getElem?_eq_getElem hk]
  exact List.getElem_mem hk
theorem sealed_none {l : List RV} (h : ∀ k, k < l.length → (l.getD k (0, nil)).1 ≠ 2) : sealed l = false := by
  unfold sealed
  rw [List.any_eq_false]
  intro r hr
  obtain ⟨k, hk, rfl⟩ := List.getElem_of_mem hr
  have := h k hk
  rw [List.getD_eq_getElem?_getD, List.getElem?_eq_getElem hk] at this
  simpa using this
theorem getD_take {l : List RV} {k : Nat} (hk : k < l.length) : l.take (k + 1) = l.take k ++ [l.getD k (0, nil)] := by
  rw [List.take_add_one, List.getElem?_eq_getElem hk, List.getD_eq_getElem?_getD, List.getElem?_eq_getElem hk]
  rfl
/-- Records that are read. -/
theorem RSl.at_ {w : World} {ao : Option Addr} {cap : Nat} {l : List RV} (h : RSl w (.slice ao l.length cap) l) (k : Nat) (hk : k < l.length) : ∃ g o, ao = some ⟨g, o, none⟩ ∧ w.cell? ⟨g, o + k * 2, none⟩ = some (.int .i64 (l.getD k (0, nil)).1) ∧ w.cell? ⟨g, o + k * 2 + 1, none⟩ = some (.string (l.getD k (0, nil)).2) := by
  obtain ⟨g, o, c, hv, _⟩ := Sl.some_of_pos h (by omega)
  cases hv
  exact ⟨g, o, rfl, RSl.cell h k hk⟩

/-! ### number -/
set_option maxRecDepth 10000 in
set_option maxHeartbeats 1000000 in
theorem number_any (v : Value) (l : List RV) (w : World) (h : RSl w v l) (hl : l.length ≤ 16777216) (hf : (r0 l).2.size ≤ 16777216) :
    Calls Tryd.prog 106 #[v] w fun e w' => e = .returned (.int .i64 (numOf l)) ∧ Turns nobody w w' := by
  obtain ⟨ao, cap, rfl, -⟩ := Sl.shape h
  have HS := Lib.hid h
  obtain ⟨R, hR⟩ : ∃ R, numOf l = R := ⟨_, rfl⟩
  have HRR := Lib.hid hR
  rw [hR]
  rcases Nat.eq_zero_or_pos l.length with h0 | h0
  · have hn : l = [] := List.length_eq_zero_iff.1 h0
    subst hn
    obtain rfl : R = -1 := by rw [← hR]; rfl
    clear h hR HRR
    go_enter Tryd.func106, Tryd.ntmps106
    go_wp2
    go_ret
    exact ⟨rfl, Turns.refl _ _⟩
  · obtain ⟨g, o, rfl, c0, c1⟩ := RSl.at_ h 0 h0
    rw [Nat.zero_mul, Nat.add_zero] at c0 c1
    change w.cell? ⟨g, o, none⟩ = some (.int .i64 (r0 l).1) at c0
    change w.cell? ⟨g, o + 1, none⟩ = some (.string (r0 l).2) at c1
    have h0I : ((l.length : Int) == 0) = false := beq_eq_false_iff_ne.2 (by omega)
    clear h
    obtain ⟨r, hr⟩ : ∃ r, r0 l = r := ⟨_, rfl⟩
    have hn : R = if r.1 = 1 ∧ r.2.size = 4 ∧ sealed l = true then (n4 r.2 : Int) else -1 := by rw [← hR, ← hr]; rfl
    rw [hr] at c0 c1 hf
    clear hr hR HRR
    obtain ⟨K, b⟩ := r
    simp only at c0 c1 hf hn
    by_cases hK : K = 1
    rotate_left
    · rw [if_neg (by rintro ⟨h1, -⟩; exact hK h1)] at hn
      subst hn
      have hK1 : (K == 1) = false := by simpa using hK
      have hK2 : (K != 1) = true := by simpa using hK
      go_enter Tryd.func106, Tryd.ntmps106
      go_wp2
      go_ret
      exact ⟨rfl, Turns.refl _ _⟩
    · subst hK
      obtain ⟨P, hP⟩ : ∃ P, w.heap.size = P := ⟨_, rfl⟩
      have hop := open_any b w
      rw [hP] at hop
      have hat := fun w' (hw : w' = w.alloc (.cells (rcs b 0 0) 168)) => open_at hw
      rw [hP] at hat
      have HAT := Lib.hid hat
      have HP := Lib.hid hP
      clear hat hP
      have HRN := Lib.hid hn
      clear hn
      by_cases h4 : 4 ≤ b.size
      · have hv : val ((b.data.toList.drop 0).take 4) = n4 b := rfl
        have HV := Lib.hid hv
        clear hv
        go_enter Tryd.func106, Tryd.ntmps106
        go_upto_region 4 with (go_at_call 99; refine hop.mono ?_; rintro e w1 ⟨rfl, hw1⟩; have H1 := Lib.hid (HAT.out _ hw1); clear hw1)
        go_upto_region 5 with (go_at_call 100; refine (num_ok P b 0 4 _ _ H1.out.1 (Or.inr rfl) hf (by omega)).mono ?_; rintro e w2 ⟨rfl, h2⟩; rw [HV.out]; have H2 := Lib.hid (rd_step h2); clear h2)
        have HT2 := Lib.hid (H1.out.2.trans2 H2.out.2 (fun i hi => by have := HP.out; omega))
        by_cases h5 : b.size = 4
        · have hend := rend_any P b (0 + 4) 0 _ w2 H2.out.1 (Or.inl rfl)
          rw [if_pos rfl, if_pos (by omega)] at hend
          obtain ⟨N, hN⟩ : ∃ N, n4 b = N := ⟨_, rfl⟩
          rw [hN]
          have HNN := Lib.hid hN
          clear hN
          go_upto_region 8 with (go_at_call 115; refine hend.mono ?_; rintro e w3 ⟨rfl, t3⟩; have HT3 := Lib.hid (HT2.out.trans (Turns.drawn (F := nobody) t3) (fun _ h => h.elim)); clear t3)
          clear c0 c1 hop hend
          go_loopw [29] (fun i wr => ∃ k : Nat, k ≤ l.length ∧ i = .int .i64 k ∧ (∀ j, j < k → (l.getD j (0, nil)).1 ≠ 2) ∧ Turns nobody w wr) (fun i _ => l.length - (intOf i).toNat)
          case atStart => exact ⟨0, Nat.zero_le _, rfl, fun j hj => absurd hj (Nat.not_lt_zero j), HT3.out⟩
          case round =>
            obtain ⟨k, hk, rfl, hno, htr⟩ := hrel
            have HNO := Lib.hid hno
            have HTR := Lib.hid htr
            by_cases hlt : k < l.length
            · obtain ⟨g', o', hg', x0, x1⟩ := RSl.at_ (Sl.keep HS.out htr (fun _ _ h => h) : RSl wr _ l) k hlt
              cases hg'
              obtain ⟨r, hr⟩ : ∃ r, l.getD k (0, nil) = r := ⟨_, rfl⟩
              have HR := Lib.hid hr
              rw [hr] at x0 x1
              clear hno htr hr
              obtain ⟨rk, rbd⟩ := r
              simp only at x0 x1
              have hltI : (k : Int) < (l.length : Int) := by omega
              by_cases h2 : rk = 2
              · subst h2
                have hs : sealed l = true := sealed_at hlt (by rw [HR.out])
                have hn := HRN.out
                simp only [h5, hs, HNN.out, and_self, if_true] at hn
                subst hn
                clear hs
                go_wp2
                go_ret
                refine ⟨?_, HTR.out.trans ((Turns.refl nobody _).alloc _) (fun _ h => h.elim)⟩
                first | rfl | trivial
              · have h2I : (rk == 2) = false := by simpa using h2
                have HN2 := Lib.hid h2
                clear h2
                go_wp2
                go_roundw
                case rel => exact ⟨k + 1, by omega, by go_num, fun j hj => by
                  rcases Nat.lt_or_ge j k with h | h
                  · exact HNO.out j h
                  · obtain rfl : j = k := by omega
                    rw [HR.out]; exact HN2.out, HTR.out.trans ((Turns.refl nobody _).alloc _) (fun _ h => h.elim)⟩
                case measure => simp [intOf]; omega
            · have hltI : ¬ (k : Int) < (l.length : Int) := by omega
              have hs : sealed l = false := sealed_none (fun j hj => hno j (by omega))
              have hn := HRN.out
              rw [if_neg (by rintro ⟨-, -, h1⟩; rw [hs] at h1; cases h1)] at hn
              subst hn
              clear hs hno htr
              go_wp2
              go_ret
              exact ⟨rfl, HTR.out⟩
        · have hend := rend_any P b (0 + 4) 0 _ w2 H2.out.1 (Or.inl rfl)
          rw [if_pos rfl, if_neg (by omega)] at hend
          have hn := HRN.out
          rw [if_neg (by rintro ⟨-, h1, -⟩; exact h5 h1)] at hn
          subst hn
          go_wp2_with (go_at_call 115; refine hend.mono ?_; rintro e w3 ⟨rfl, t3⟩; have HT3 := Lib.hid (HT2.out.trans (Turns.drawn (F := nobody) t3) (fun _ h => h.elim)); clear t3)
          go_ret
          exact ⟨rfl, HT3.out⟩
      · have hn := HRN.out
        rw [if_neg (by rintro ⟨-, h1, -⟩; omega)] at hn
        subst hn
        go_enter Tryd.func106, Tryd.ntmps106
        go_upto_region 4 with (go_at_call 99; refine hop.mono ?_; rintro e w1 ⟨rfl, hw1⟩; have H1 := Lib.hid (HAT.out _ hw1); clear hw1)
        go_upto_region 5 with (go_at_call 100; refine (num_short P b 0 4 _ _ H1.out.1 (Or.inr rfl) hf (Nat.zero_le _) (by omega)).mono ?_; rintro e w2 ⟨rfl, h2⟩; have H2 := Lib.hid (rd_step h2); clear h2)
        have HT2 := Lib.hid (H1.out.2.trans2 H2.out.2 (fun i hi => by have := HP.out; omega))
        have hend := rend_any P b 0 2 _ w2 H2.out.1 (Or.inr rfl)
        rw [if_neg (by decide)] at hend
        go_wp2_with (go_at_call 115; refine hend.mono ?_; rintro e w3 ⟨rfl, t3⟩; have HT3 := Lib.hid (HT2.out.trans (Turns.drawn (F := nobody) t3) (fun _ h => h.elim)); clear t3)
        go_ret
        exact ⟨rfl, HT3.out⟩

/-! ### held -/
theorem infoStr1 : (Tryd.prog.info? 9).map (fun i => (i.zero, i.size, i.bytes)) = some (some (.string nil), 1, 16) := by kernel_rfl
theorem src_str {w : World} {b : Nat} {s : ByteArray} {t : TypeId} (h : w.heap[b]? = some (.cells #[.string s] t (0, 0))) : Go.Proofs.YtlhcmgjkhkcgcaaDoor.obj.Src w 1 (.slice (some ⟨b, 0, none⟩) 1 1) 1 [.string s] := by
  refine Go.Proofs.YtlhcmgjkhkcgcaaDoor.obj.Src.of_row (by simp) (fun u hu => by simp only [List.mem_singleton] at hu; subst hu; rfl) (fun j u hu => ?_)
  rw [Addr.add_lit]
  rw [show (0 : Nat) + j = j by omega]
  refine cells_of h j u ?_
  simpa using hu
theorem tcells_append (l m : List ByteArray) : tcells (l ++ m) = tcells l ++ tcells m := by unfold tcells; simp
theorem heldOf_len (l : List RV) : (heldOf l).length ≤ l.length := by unfold heldOf; rw [List.length_map]; exact List.length_filter_le _ _
theorem held_yes {l : List RV} {k : Nat} (hk : k < l.length) (h : (l.getD k (0, nil)).1 = 3) : heldOf (l.take (k + 1)) = heldOf (l.take k) ++ [(l.getD k (0, nil)).2] := by
  rw [getD_take hk, heldOf_append]
  generalize l.getD k (0, nil) = r at *
  congr 1
  unfold heldOf
  simp [h]
theorem held_no {l : List RV} {k : Nat} (hk : k < l.length) (h : (l.getD k (0, nil)).1 ≠ 3) : heldOf (l.take (k + 1)) = heldOf (l.take k) := by
  rw [getD_take hk, heldOf_append]
  generalize l.getD k (0, nil) = r at *
  have : heldOf [r] = [] := by unfold heldOf; simp [h]
  rw [this, List.append_nil]
structure HI (w : World) (l : List RV) (k : Nat) (v : Value) (W : World) : Prop where
  s : TSl W v (heldOf (l.take k))
  n : ∀ i, blk v i → w.heap.size ≤ i
  t : Turns nobody w W
set_option maxRecDepth 10000 in
set_option maxHeartbeats 1000000 in
theorem held_any (v : Value) (l : List RV) (w : World) (h : RSl w v l) (hl : l.length ≤ 16777216) :
    Calls Tryd.prog 107 #[v] w fun e w' => ∃ v', e = .returned v' ∧ TSl w' v' (heldOf l) ∧ (∀ i, blk v' i → w.heap.size ≤ i) ∧ Turns nobody w w' := by
  obtain ⟨ao, cap, rfl, -⟩ := Sl.shape h
  obtain ⟨i1, hi1, hz10, hz11, hz12⟩ := info_parts infoStr1
  have HS := Lib.hid h
  clear h
  go_enter Tryd.func107, Tryd.ntmps107
  go_upto_region 3 with fail
  go_loopw [3, 8] (fun v i wr => ∃ k : Nat, k ≤ l.length ∧ i = .int .i64 k ∧ HI w l k v wr) (fun v i _ => l.length - (intOf i).toNat)
  case atStart => exact ⟨0, Nat.zero_le _, rfl, Sl.nil _ _ _, (fun j h => by cases h), Turns.refl _ _⟩
  case round =>
    obtain ⟨k, hk, rfl, hi⟩ := hrel
    obtain ⟨vo, vc, rfl, -⟩ := Sl.shape hi.s
    have HI := Lib.hid hi
    clear hi
    by_cases hlt : k < l.length
    · obtain ⟨g', o', rfl, x0, x1⟩ := RSl.at_ (Sl.keep HS.out HI.out.t (fun _ _ h => h) : RSl wr _ l) k hlt
      have hy := held_yes hlt
      have hn := held_no hlt
      have hcl := heldOf_len (l.take k)
      obtain ⟨r, hr⟩ : ∃ r, l.getD k (0, nil) = r := ⟨_, rfl⟩
      rw [hr] at x0 x1 hy hn
      clear hr
      obtain ⟨rk, rbd⟩ := r
      simp only at x0 x1 hy hn
      have hltI : (k : Int) < (l.length : Int) := by omega
      have hcl2 : (heldOf (l.take k)).length ≤ 16777216 := by rw [List.length_take] at hcl; omega
      have HCL := Lib.hid hcl2
      clear hcl hcl2
      by_cases h3 : rk = 3
      · have hy2 := hy h3
        clear hy hn
        subst h3
        have HY := Lib.hid hy2
        clear hy2
        obtain ⟨W1, hW1⟩ : ∃ W1, W1 = wr.alloc (.cells #[.int .i64 3, .string rbd] 23) := ⟨_, rfl⟩
        have HW1 := Lib.hid hW1
        clear hW1
        go_upto_region 5 with fail
        rw [← HW1.out]
        have ht1 : Turns nobody wr W1 := by rw [HW1.out]; exact (Turns.refl _ _).alloc _
        have hh1 : W1.heap[wr.heap.size]? = some (.cells #[.int .i64 3, .string rbd] 23 (0, 0)) := by rw [HW1.out]; exact heap_alloc_new wr _
        have d0 := cells_of hh1 0 _ rfl
        have d1 := cells_of hh1 1 _ rfl
        have HT1 := Lib.hid ht1
        have HSP : Hid (∀ o, Sl (W1.alloc o) 9 1 (.slice vo (heldOf (l.take k)).length vc) (heldOf (l.take k)).length (tcells (heldOf (l.take k)))) := Lib.hid (fun o => Sl.keep (Sl.keep HI.out.s ht1 (fun _ _ h => h)) ((Turns.refl nobody _).alloc o) (fun _ _ h => h))
        clear ht1 hh1 x0 x1
        go_wp2_with (at_builtin; refine wpList_append_sl (n := (heldOf (l.take k)).length) (m := 1) rfl _ _ 81 rfl Tryd.underlying81 hi1 hz10 hz11 hz12 rfl (by decide) rfl rfl (HSP.out (.cells #[.string rbd] 9)) (src_str (s := rbd) (heap_alloc_new _ _)) (by have := HCL.out; unfold maxLen; omega) (by have := HCL.out; omega) ?_; intro v5 w5 h5 t5 n5 _; have H5 := Lib.hid h5; have T5 := Lib.hid t5; have N5 := Lib.hid n5; clear h5 t5 n5)
        go_roundw
        case rel =>
          have hx1 : Turns nobody W1 (W1.alloc (.cells #[.string rbd] 9)) := (Turns.refl _ _).alloc _
          have hw1 := (HI.out.t.trans HT1.out (fun _ h => h.elim)).trans hx1 (fun _ h => h.elim)
          refine ⟨k + 1, by omega, by go_num, ?_, fun j hj => ?_, hw1.trans2 T5.out (fun j hj => HI.out.n j hj)⟩
          · have h5 := H5.out
            unfold TSl
            rw [HY.out, List.length_append, List.length_singleton, tcells_append]
            exact h5
          · rcases N5.out j hj with h | h
            · exact HI.out.n j h
            · exact Nat.le_trans hw1.size h
        case measure => simp [intOf]; omega
      · have hn := hn h3
        have HN := Lib.hid hn
        have h3I : (rk == 3) = false := by simpa using h3
        clear hy hn h3
        go_wp2
        go_roundw
        case rel => exact ⟨k + 1, by omega, by go_num, by rw [HN.out]; exact Sl.keep HI.out.s ((Turns.refl nobody _).alloc _) (fun _ _ h => h), HI.out.n, HI.out.t.trans ((Turns.refl nobody _).alloc _) (fun _ h => h.elim)⟩
        case measure => simp [intOf]; omega
    · have hltI : ¬ (k : Int) < (l.length : Int) := by omega
      obtain rfl : k = l.length := by omega
      rw [List.take_length] at HI ⊢
      go_wp2
      go_ret
      have hs := HI.out.s
      rw [List.take_length] at hs
      exact ⟨_, rfl, hs, HI.out.n, HI.out.t⟩

/-! ### The document's -/
set_option maxRecDepth 10000 in
set_option maxHeartbeats 1000000 in
theorem refheld_any (v : Value) (l : List RV) (w : World) (h : RSl w v l) (hl : l.length ≤ 16777216) :
    Calls Tryd.prog 93 #[v] w fun e w' => ∃ v', e = .returned v' ∧ TSl w' v' (heldOf l) ∧ (∀ i, blk v' i → w.heap.size ≤ i) ∧ Turns nobody w w' := by
  obtain ⟨ao, cap, rfl, -⟩ := Sl.shape h
  obtain ⟨i1, hi1, hz10, hz11, hz12⟩ := info_parts infoStr1
  have HS := Lib.hid h
  clear h
  go_enter Tryd.func93, Tryd.ntmps93
  go_upto_region 3 with fail
  go_loopw [3, 4] (fun v i wr => ∃ k : Nat, k ≤ l.length ∧ i = .int .i64 k ∧ HI w l k v wr) (fun v i _ => l.length - (intOf i).toNat)
  case atStart => exact ⟨0, Nat.zero_le _, rfl, Sl.nil _ _ _, (fun j h => by cases h), Turns.refl _ _⟩
  case round =>
    obtain ⟨k, hk, rfl, hi⟩ := hrel
    obtain ⟨vo, vc, rfl, -⟩ := Sl.shape hi.s
    have HI := Lib.hid hi
    clear hi
    by_cases hlt : k < l.length
    · obtain ⟨g', o', rfl, x0, x1⟩ := RSl.at_ (Sl.keep HS.out HI.out.t (fun _ _ h => h) : RSl wr _ l) k hlt
      have hy := held_yes hlt
      have hn := held_no hlt
      have hcl := heldOf_len (l.take k)
      obtain ⟨r, hr⟩ : ∃ r, l.getD k (0, nil) = r := ⟨_, rfl⟩
      rw [hr] at x0 x1 hy hn
      clear hr
      obtain ⟨rk, rbd⟩ := r
      simp only at x0 x1 hy hn
      have hltI : (k : Int) < (l.length : Int) := by omega
      have hcl2 : (heldOf (l.take k)).length ≤ 16777216 := by rw [List.length_take] at hcl; omega
      have HCL := Lib.hid hcl2
      clear hcl hcl2
      by_cases h3 : rk = 3
      · have hy2 := hy h3
        clear hy hn
        subst h3
        have HY := Lib.hid hy2
        clear hy2
        have HSP : Hid (∀ o, Sl (wr.alloc o) 9 1 (.slice vo (heldOf (l.take k)).length vc) (heldOf (l.take k)).length (tcells (heldOf (l.take k)))) := Lib.hid (fun o => Sl.keep HI.out.s ((Turns.refl nobody _).alloc o) (fun _ _ h => h))
        go_wp2_with (at_builtin; refine wpList_append_sl (n := (heldOf (l.take k)).length) (m := 1) rfl _ _ 81 rfl Tryd.underlying81 hi1 hz10 hz11 hz12 rfl (by decide) rfl rfl (HSP.out (.cells #[.string rbd] 9)) (src_str (s := rbd) (heap_alloc_new _ _)) (by have := HCL.out; unfold maxLen; omega) (by have := HCL.out; omega) ?_; intro v5 w5 h5 t5 n5 _; have H5 := Lib.hid h5; have T5 := Lib.hid t5; have N5 := Lib.hid n5; clear h5 t5 n5)
        go_roundw
        case rel =>
          have hx1 : Turns nobody wr (wr.alloc (.cells #[.string rbd] 9)) := (Turns.refl _ _).alloc _
          have hw1 := HI.out.t.trans hx1 (fun _ h => h.elim)
          refine ⟨k + 1, by omega, by go_num, ?_, fun j hj => ?_, hw1.trans2 T5.out (fun j hj => HI.out.n j hj)⟩
          · have h5 := H5.out
            unfold TSl
            rw [HY.out, List.length_append, List.length_singleton, tcells_append]
            exact h5
          · rcases N5.out j hj with h | h
            · exact HI.out.n j h
            · exact Nat.le_trans hw1.size h
        case measure => simp [intOf]; omega
      · have hn2 := hn h3
        have HN := Lib.hid hn2
        have h3I : (rk == 3) = false := by simpa using h3
        clear hy hn hn2 h3
        go_wp2
        go_roundw
        case rel => exact ⟨k + 1, by omega, by go_num, by rw [HN.out]; exact HI.out.s, HI.out.n, HI.out.t⟩
        case measure => simp [intOf]; omega
    · have hltI : ¬ (k : Int) < (l.length : Int) := by omega
      obtain rfl : k = l.length := by omega
      rw [List.take_length] at HI ⊢
      go_wp2
      go_ret
      have hs := HI.out.s
      rw [List.take_length] at hs
      exact ⟨_, rfl, hs, HI.out.n, HI.out.t⟩
end Go.Proofs.YtlhcmgjkhkcgcaaDoor.vault

namespace Go.Proofs.YtlhcmgjkhkcgcaaDoor.vault
open Go.RowKit
open Go.Proofs.YtlhcmgjkhkcgcaaDoor.stepkit Go.Proofs.YtlhcmgjkhkcgcaaDoor.obj Go.Proofs.YtlhcmgjkhkcgcaaDoor.row Go.Proofs.YtlhcmgjkhkcgcaaDoor.mix Go.Proofs.YtlhcmgjkhkcgcaaDoor.idkit Go.Proofs.YtlhcmgjkhkcgcaaDoor.bytes Go.Proofs.YtlhcmgjkhkcgcaaDoor.octet Go.Proofs.YtlhcmgjkhkcgcaaDoor.eqkit Go.Proofs.YtlhcmgjkhkcgcaaDoor.record Go.Proofs.YtlhcmgjkhkcgcaaDoor.argkit
open Go.Proofs.YtlhcmgjkhkcgcaaDoor.journal (at_store)

theorem from_zero (b : ByteArray) : from_ b 0 = b := by
  apply ByteArray.ext
  apply Array.ext'
  rw [from_list b 0 (Nat.zero_le _), List.drop_zero]
set_option maxRecDepth 10000 in
set_option maxHeartbeats 1000000 in
theorem refnumber_any (v : Value) (l : List RV) (w : World) (h : RSl w v l) (hl : l.length ≤ 16777216) (hf : (r0 l).2.size ≤ 16777216) :
    Calls Tryd.prog 92 #[v] w fun e w' => e = .returned (.int .i64 (numOf l)) ∧ Turns nobody w w' := by
  obtain ⟨ao, cap, rfl, -⟩ := Sl.shape h
  have HS := Lib.hid h
  obtain ⟨R, hR⟩ : ∃ R, numOf l = R := ⟨_, rfl⟩
  have HRR := Lib.hid hR
  rw [hR]
  rcases Nat.eq_zero_or_pos l.length with h0 | h0
  · have hn : l = [] := List.length_eq_zero_iff.1 h0
    subst hn
    obtain rfl : R = -1 := by rw [← hR]; rfl
    clear h hR HRR
    go_enter Tryd.func92, Tryd.ntmps92
    go_wp2
    go_ret
    exact ⟨rfl, Turns.refl _ _⟩
  · obtain ⟨g, o, rfl, c0, c1⟩ := RSl.at_ h 0 h0
    rw [Nat.zero_mul, Nat.add_zero] at c0 c1
    change w.cell? ⟨g, o, none⟩ = some (.int .i64 (r0 l).1) at c0
    change w.cell? ⟨g, o + 1, none⟩ = some (.string (r0 l).2) at c1
    have h0I : ((l.length : Int) == 0) = false := beq_eq_false_iff_ne.2 (by omega)
    clear h
    obtain ⟨r, hr⟩ : ∃ r, r0 l = r := ⟨_, rfl⟩
    have hn : R = if r.1 = 1 ∧ r.2.size = 4 ∧ sealed l = true then (n4 r.2 : Int) else -1 := by rw [← hR, ← hr]; rfl
    rw [hr] at c0 c1 hf
    clear hr hR HRR
    obtain ⟨K, b⟩ := r
    simp only at c0 c1 hf hn
    by_cases hK : K = 1
    rotate_left
    · rw [if_neg (by rintro ⟨h1, -⟩; exact hK h1)] at hn
      subst hn
      have hK1 : (K == 1) = false := by simpa using hK
      have hK2 : (K != 1) = true := by simpa using hK
      go_enter Tryd.func92, Tryd.ntmps92
      go_wp2
      go_ret
      exact ⟨rfl, Turns.refl _ _⟩
    · subst hK
      obtain ⟨P, hP⟩ : ∃ P, w.heap.size = P := ⟨_, rfl⟩
      have HRN := Lib.hid hn
      have hbd : ∀ W : World, (Instr.build 133 #[(0, .string b)]).run Tryd.prog W = .ok (.agg #[.string b, .int .i64 0]) W := fun _ => by kernel_rfl
      obtain ⟨w1, hw1⟩ : ∃ w1, w1 = w.alloc (.cells #[.string b, .int .i64 0] 133) := ⟨_, rfl⟩
      have t1 : Turns nobody w w1 := by rw [hw1]; exact (Turns.refl _ _).alloc _
      have h1 : RR w1 P b 0 0 := by
        unfold RR
        rw [from_zero]
        rw [hw1, ← hP]; exact heap_alloc_new w _
      have HP := Lib.hid hP
      have HW1 := Lib.hid hw1
      have hnu := refnum_st P b 0 0 4 w1 h1 (Or.inl rfl) (Or.inr rfl) hf (Nat.zero_le _)
      have HT1 := Lib.hid t1
      have HR1 := Lib.hid h1
      clear hn hw1 t1 h1
      go_enter Tryd.func92, Tryd.ntmps92
      go_upto_region 4 with fail
      rw [← HW1.out]
      clear hP
      go_upto_region 5 with (go_at_call 73; refine hnu.mono ?_; rintro e w2 ⟨v2, k2, b2, rfl, hr2, t2, hk2, hb2, hn2⟩; have HR2 := Lib.hid hr2; have HT2 := Lib.hid (HT1.out.trans2 t2 (fun i hi => by have := HP.out; omega)); have HK2 := Lib.hid (And.intro hk2 (And.intro hb2 hn2)); clear hr2 t2 hk2 hb2 hn2)
      clear c0 c1 hnu hbd
      have hend := refend_any P b k2 b2 w2 HR2.out HK2.out.2.1 HK2.out.1
      rcases HK2.out.2.2 with ⟨_, hl4, hv, hk2, rfl⟩ | ⟨hl4, _, rfl⟩
      · subst hk2
        have hv4 : v2 = (n4 b : Int) := hv
        rw [if_pos rfl] at hend
        by_cases h5 : b.size = 4
        · rw [if_pos (by omega)] at hend
          have hv4R := Lib.hid hv4
          have H5 := Lib.hid h5
          clear hv hv4 HK2
          go_upto_region 8 with (go_at_call 111; refine hend.mono ?_; rintro e w3 ⟨rfl, rfl⟩)
          clear hend
          go_loopw [5] (fun i wr => ∃ k : Nat, k ≤ l.length ∧ i = .int .i64 k ∧ (∀ j, j < k → (l.getD j (0, nil)).1 ≠ 2) ∧ Turns nobody w wr) (fun i _ => l.length - (intOf i).toNat)
          case atStart => exact ⟨0, Nat.zero_le _, rfl, fun j hj => absurd hj (Nat.not_lt_zero j), HT2.out⟩
          case round =>
            obtain ⟨k, hk, rfl, hno, htr⟩ := hrel
            have HNO := Lib.hid hno
            have HTR := Lib.hid htr
            by_cases hlt : k < l.length
            · obtain ⟨g', o', hg', x0, x1⟩ := RSl.at_ (Sl.keep HS.out htr (fun _ _ h => h) : RSl wr _ l) k hlt
              cases hg'
              obtain ⟨r, hr⟩ : ∃ r, l.getD k (0, nil) = r := ⟨_, rfl⟩
              have HR := Lib.hid hr
              rw [hr] at x0 x1
              clear hno htr hr
              obtain ⟨rk, rbd⟩ := r
              simp only at x0 x1
              have hltI : (k : Int) < (l.length : Int) := by omega
              by_cases h2 : rk = 2
              · subst h2
                have hs : sealed l = true := sealed_at hlt (by rw [HR.out])
                have hn := HRN.out
                rw [hs] at hn
                have HN := Lib.hid hn
                clear hs hn
                go_wp2
                go_ret
                refine ⟨?_, HTR.out⟩
                have hn := HN.out
                simp only [H5.out, and_self, if_true] at hn
                have hv : R = v2 := hn.trans hv4R.out.symm
                rw [hv]
                rfl
              · have h2I : (rk == 2) = false := by simpa using h2
                have HN2 := Lib.hid h2
                clear h2
                go_wp2
                go_roundw
                case rel => exact ⟨k + 1, by omega, by go_num, fun j hj => by
                  rcases Nat.lt_or_ge j k with h | h
                  · exact HNO.out j h
                  · obtain rfl : j = k := by omega
                    rw [HR.out]; exact HN2.out, HTR.out⟩
                case measure => simp [intOf]; omega
            · have hltI : ¬ (k : Int) < (l.length : Int) := by omega
              have hs : sealed l = false := sealed_none (fun j hj => hno j (by omega))
              have hn := HRN.out
              rw [if_neg (by rintro ⟨-, -, h1⟩; rw [hs] at h1; cases h1)] at hn
              subst hn
              clear hs hno htr
              go_wp2
              go_ret
              exact ⟨rfl, HTR.out⟩
        · rw [if_neg (by omega)] at hend
          have hn := HRN.out
          rw [if_neg (by rintro ⟨-, h1, -⟩; exact h5 h1)] at hn
          subst hn
          go_wp2_with (go_at_call 111; refine hend.mono ?_; rintro e w3 ⟨rfl, rfl⟩)
          go_ret
          exact ⟨rfl, HT2.out⟩
      · have hn := HRN.out
        rw [if_neg (by
          rintro ⟨-, h1, -⟩
          rcases hl4 with h | h
          · cases h
          · omega)] at hn
        subst hn
        rw [if_neg (by decide)] at hend
        go_wp2_with (go_at_call 111; refine hend.mono ?_; rintro e w3 ⟨rfl, rfl⟩)
        go_ret
        exact ⟨rfl, HT2.out⟩

/-! ### gen -/
theorem fieldsGen : (Tryd.prog.info? 23).map (·.size) = some 2 := by kernel_rfl
theorem build_gen (b : ByteArray) (W : World) : (Instr.build 23 #[(0, .int .i64 1), (1, .string b)]).run Tryd.prog W = .ok (.agg #[.int .i64 1, .string b]) W := by kernel_rfl
set_option maxRecDepth 10000 in
set_option maxHeartbeats 1000000 in
theorem gen_any (n : Nat) (w : World) (hn : n < 4294967296) :
    Calls Tryd.prog 85 #[.int .i64 n] w fun e w' => e = .returned (recV 1 ⟨(be4 n).toArray⟩) ∧ Turns nobody w w' := by
  have hb := build_gen
  have HN := Lib.hid hn
  obtain ⟨H, hH⟩ : ∃ H, w.heap.size = H := ⟨_, rfl⟩
  obtain ⟨wa, hwa⟩ : ∃ wa, wa = w.alloc (.cells #[.int .i64 0, .string nil] 23) := ⟨_, rfl⟩
  have ta : Turns nobody w wa := by rw [hwa]; exact (Turns.refl _ _).alloc _
  have ha : wa.heap[H]? = some (.cells #[.int .i64 0, .string nil] 23 (0, 0)) := by rw [hwa, ← hH]; exact heap_alloc_new w _
  have HWA := Lib.hid hwa
  have HTA := Lib.hid ta
  have HHA := Lib.hid ha
  have hnew := PS.new wa
  obtain ⟨Q, hQ⟩ : ∃ Q, wa.heap.size = Q := ⟨_, rfl⟩
  rw [hQ] at hnew
  have hq : H < Q := by rw [← hQ, hwa, ← hH]; simp
  clear hn hwa ta ha
  go_enter Tryd.func85, Tryd.ntmps85
  go_upto_region 1 with fail
  rw [show (⟨#[]⟩ : ByteArray) = nil from rfl, ← HWA.out]
  have HH := Lib.hid hH
  clear hH hQ
  go_upto_region 2 with first
    | (go_at_call 64; refine hnew.mono ?_; rintro e w1 ⟨rfl, h1⟩; have H1 := Lib.hid h1; clear h1)
    | (go_at_call 65; refine (H1.out.num n HN.out (by simp)).mono ?_; rintro e w2 ⟨rfl, h2⟩; have H2 := Lib.hid h2; clear h2)
    | (go_at_call 68; refine H2.out.done.mono ?_; rintro e w' ⟨rfl, rfl⟩)
  have h2 := heap_newer HHA.out H2.out.t (fun h => h)
  have c0 := cells_of h2 0 _ rfl
  have c1 := cells_of h2 1 _ rfl
  have f0 := free_of h2 0
  have f1 := free_of h2 1
  have HH2 := Lib.hid h2
  clear h2
  go_wp2
  have hp := put_rec (K := 1) (B := ⟨(be4 n).toArray⟩) HH2.out (HTA.out.trans H2.out.t (fun _ h => h.elim)) (by have := HH.out; omega)
  exact bodyPost_ret (results_one rfl _ _ rfl (range_of hp.1) Tryd.underlying23 rfl fieldsGen) rfl ⟨rfl, hp.2⟩
set_option maxRecDepth 10000 in
set_option maxHeartbeats 1000000 in
theorem refgen_any (n : Nat) (w : World) (hn : n < 4294967296) :
    Calls Tryd.prog 88 #[.int .i64 n] w fun e w' => e = .returned (recV 1 ⟨(be4 n).toArray⟩) ∧ Turns nobody w w' := by
  have hb := build_gen
  obtain ⟨H, hH⟩ : ∃ H, w.heap.size = H := ⟨_, rfl⟩
  obtain ⟨wa, hwa⟩ : ∃ wa, wa = w.alloc (.cells #[.int .i64 0, .string nil] 23) := ⟨_, rfl⟩
  have ta : Turns nobody w wa := by rw [hwa]; exact (Turns.refl _ _).alloc _
  have ha : wa.heap[H]? = some (.cells #[.int .i64 0, .string nil] 23 (0, 0)) := by rw [hwa, ← hH]; exact heap_alloc_new w _
  have HWA := Lib.hid hwa
  have HTA := Lib.hid ta
  have HHA := Lib.hid ha
  have hnew := refnum_any n wa hn
  clear hn hwa ta ha
  go_enter Tryd.func88, Tryd.ntmps88
  go_upto_region 1 with fail
  rw [show (⟨#[]⟩ : ByteArray) = nil from rfl, ← HWA.out]
  have HH := Lib.hid hH
  clear hH
  go_upto_region 2 with (go_at_call 98; refine hnew.mono ?_; rintro e w2 ⟨rfl, t2⟩; have HT2 := Lib.hid t2; clear t2)
  have h2 := heap_newer HHA.out HT2.out (fun h => h)
  have c0 := cells_of h2 0 _ rfl
  have c1 := cells_of h2 1 _ rfl
  have f0 := free_of h2 0
  have f1 := free_of h2 1
  have HH2 := Lib.hid h2
  clear h2 hnew
  go_wp2
  have hp := put_rec (K := 1) (B := ⟨(be4 n).toArray⟩) HH2.out (HTA.out.trans HT2.out (fun _ h => h.elim)) (by have := HH.out; omega)
  exact bodyPost_ret (results_one rfl _ _ rfl (range_of hp.1) Tryd.underlying23 rfl fieldsGen) rfl ⟨rfl, hp.2⟩

/-! ### none -/
theorem none_no (V q : Nat) (w : World) (h : w.cell? ⟨V, 0, none⟩ = some (.pointer (some ⟨q, 0, none⟩))) :
    Calls Tryd.prog 86 #[.pointer (some ⟨V, 0, none⟩)] w fun e w' => e = .returned (.bool false) ∧ w = w' := by
  go_enter Tryd.func86, Tryd.ntmps86
  go_wp2
  go_ret
  exact ⟨rfl, rfl⟩
/-- No vault. -/
def NoneAt (u : Value) (w : World) : Prop := u = .pointer none ∨ ∃ p, u = .pointer (some ⟨p, 0, none⟩) ∧ w.cell? ⟨p, 0, none⟩ = some (.pointer none)
theorem NoneAt.keep {u : Value} {w w' : World} (h : NoneAt u w) (ht : Turns nobody w w') : NoneAt u w' := by
  rcases h with h | ⟨p, h1, h2⟩
  · exact Or.inl h
  · exact Or.inr ⟨p, h1, (ht.cell (p := ⟨p, 0, none⟩) (lt_of_cell' h2) (fun h => h)).trans h2⟩
theorem none_true (u : Value) (w : World) (h : NoneAt u w) : Calls Tryd.prog 86 #[u] w fun e w' => e = .returned (.bool true) ∧ w = w' := by
  rcases h with rfl | ⟨p, rfl, h⟩
  · go_enter Tryd.func86, Tryd.ntmps86
    go_wp2
    go_ret
    exact ⟨rfl, rfl⟩
  · go_enter Tryd.func86, Tryd.ntmps86
    go_wp2
    go_ret
    exact ⟨rfl, rfl⟩
theorem must_ok (w : World) : Calls Tryd.prog 110 #[.int .i64 0] w fun e w' => e = .returned (.tuple #[]) ∧ w = w' := by
  go_enter Tryd.func110, Tryd.ntmps110
  go_wp2
  go_end0
  exact ⟨rfl, rfl⟩

/-! ### may -/
set_option maxRecDepth 10000 in
set_option maxHeartbeats 1000000 in
theorem may_any (V : Nat) (no : Nat) (v : Value) (T : List ByteArray) (w : World) (h : w.cell? ⟨V, 3 + 2, none⟩ = some (.int .i64 (no : Int))) (hT : TAt w v T) (hl : T.length ≤ 16777216) (hs : ∀ s ∈ T, s.size ≤ 1048576) :
    Calls Tryd.prog 109 #[.pointer (some ⟨V, 0, none⟩), v] w fun e w' => e = .returned (.bool (decide ((no : Int) < 2147483647))) ∧ w = w' := by
  obtain ⟨ao, cap, rfl, hc⟩ := hT
  have HC := Lib.hid hc
  have HS := Lib.hid hs
  clear hc hs
  go_enter Tryd.func109, Tryd.ntmps109
  go_upto_region 2 with fail
  go_loopw [9] (fun i wr => ∃ k : Nat, k ≤ T.length ∧ i = .int .i64 k ∧ wr = w) (fun i _ => T.length - (intOf i).toNat)
  case atStart => exact ⟨0, Nat.zero_le _, rfl, rfl⟩
  case round =>
    obtain ⟨k, hk, rfl, rfl⟩ := hrel
    by_cases hlt : k < T.length
    · obtain ⟨b, o, rfl, c0⟩ := HC.out k hlt
      have hz : (T.getD k nil).size ≤ 1048576 := HS.out _ (by rw [List.getD_eq_getElem?_getD, List.getElem?_eq_getElem hlt]; exact List.getElem_mem hlt)
      generalize T.getD k nil = s at *
      have hltI : (k : Int) < (T.length : Int) := by omega
      have hzI : ¬ (1048576 : Int) < (s.size : Int) := by omega
      clear hz
      go_wp2
      go_roundw
      case rel => exact ⟨k + 1, by omega, by go_num, by first | rfl | trivial⟩
      case measure => simp [intOf]; omega
    · have hltI : ¬ (k : Int) < (T.length : Int) := by omega
      go_wp2
      go_ret
      exact ⟨rfl, rfl⟩

/-! ### Texts -/
set_option maxRecDepth 10000 in
set_option maxHeartbeats 1000000 in
theorem texts_any (a b : Value) (T : List ByteArray) (w : World) (ha : TAt w a T) (hb : TAt w b T) (hl : T.length ≤ 16777216) :
    Calls Tryd.prog 45 #[a, b] w fun e w' => e = .returned (.bool true) ∧ ∃ n, w' = w.drewN n := by
  obtain ⟨ao, ca, rfl, ha⟩ := ha
  obtain ⟨bo, cb, rfl, hb⟩ := hb
  have HA := Lib.hid ha
  have HB := Lib.hid hb
  clear ha hb
  go_enter Tryd.func45, Tryd.ntmps45
  go_upto_region 4 with fail
  go_loopw [5] (fun i wr => ∃ k : Nat, k ≤ T.length ∧ i = .int .i64 k ∧ ∃ n, wr = w.drewN n) (fun i _ => T.length - (intOf i).toNat)
  case atStart => exact ⟨0, Nat.zero_le _, rfl, 0, rfl⟩
  case round =>
    obtain ⟨k, hk, rfl, n, rfl⟩ := hrel
    by_cases hlt : k < T.length
    · obtain ⟨g, o, rfl, x0⟩ := HA.out k hlt
      obtain ⟨g', o', rfl, y0⟩ := HB.out k hlt
      generalize T.getD k nil = s at *
      have hltI : (k : Int) < (T.length : Int) := by omega
      go_wp2
      go_quiet (fail)
      go_wp2
      go_roundw
      case rel => exact ⟨k + 1, by omega, by go_num, n + nq, rfl⟩
      case measure => simp [intOf]; omega
    · have hltI : ¬ (k : Int) < (T.length : Int) := by omega
      go_wp2
      go_ret
      exact ⟨rfl, n, rfl⟩
end Go.Proofs.YtlhcmgjkhkcgcaaDoor.vault
