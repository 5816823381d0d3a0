/- Package petrelref29: what is taken. -/
import Derived.Test.YtjjapnphljhicabOutboxRef
import Derived.Test.YtjjapnphljhicabIdKit
namespace Go.Proofs.Ytjjapnphljhicab.outbox
open Go.RowKit Go.Conc
open Go.Proofs.Ytjjapnphljhicab.stepkit Go.Proofs.Ytjjapnphljhicab.row Go.Proofs.Ytjjapnphljhicab.mix Go.Proofs.Ytjjapnphljhicab.obj Go.Proofs.Ytjjapnphljhicab.eqkit Go.Proofs.Ytjjapnphljhicab.commkit Go.Proofs.Ytjjapnphljhicab.idkit

set_option maxHeartbeats 100000 in
theorem exec_hi {op : Oper} {a : Act} {w : World} (x h : Operand) (ho : op.op = .slice 30 x none (some h) none) (g o n cap k : Nat) (hx : a.eval x = .slice (some ⟨g, o, none⟩) n cap) (hh : a.eval h = .int .i64 k) (hk : k ≤ cap) {v : Value} (hv : Go.sliced (some ⟨g, o, none⟩) 0 k cap 2 = v) :
    (execOp a.eval op).run Try.prog w = .ok (.value v) w := by
  have h1 : (0 : Int) ≤ (k : Int) := by omega
  have h2 : (k : Int) ≤ (cap : Int) := by omega
  rw [← hv]
  unfold execOp
  simp only [ho, hx, hh, Option.map]
  clear hx hh ho hk hv
  go_simp
set_option maxHeartbeats 100000 in
theorem exec_lo {op : Oper} {a : Act} {w : World} (x h : Operand) (ho : op.op = .slice 30 x (some h) none none) (g o n cap k : Nat) (hx : a.eval x = .slice (some ⟨g, o, none⟩) n cap) (hh : a.eval h = .int .i64 k) (hk : k ≤ n) {v : Value} (hv : Go.sliced (some ⟨g, o, none⟩) k n cap 2 = v) :
    (execOp a.eval op).run Try.prog w = .ok (.value v) w := by
  have h1 : (0 : Int) ≤ (k : Int) := by omega
  have h2 : (k : Int) ≤ (n : Int) := by omega
  rw [← hv]
  unfold execOp
  simp only [ho, hx, hh, Option.map]
  clear hx hh ho hk hv
  go_simp

theorem ref_take_fin {p most k : Nat} {l : List Ou} {lost : Int} {F : Nat → Prop} {w w6 w9 : World} {v6 : Value} {ao ao9 : Option Addr} {cap n9 m cap9 : Nat} (hk : k ≤ l.length) (H : RefAt p most l lost F w) (hpl : p < w.heap.size)
    (HS6 : Sl w6 29 2 v6 k (ocells (l.take k))) (HN6 : ∀ j, blk v6 j → w.heap.size ≤ j) (HT6 : Turns nobody w w6) (HT9 : Turns nobody w6 w9)
    (HP9 : w9.heap[p]? = some (.cells #[.int .i64 most, .slice ao l.length cap, .int .i64 lost] 38 (0, 0))) (H9 : Sl w9 29 2 (.slice ao9 m cap9) m (ocells (l.drop k))) (HN9 : ∀ j, blk (.slice ao9 (0 + m) cap9) j → w6.heap.size ≤ j) (hm : m = n9) :
    ∃ v, Ending.returned v6 = .returned v ∧ OSl (w9.setCell ⟨p, 1, none⟩ (.slice ao9 n9 cap9)) v (l.take k) ∧ (∀ j, blk v j → w.heap.size ≤ j) ∧ Step F (RefAt p most (l.drop k) lost) w (w9.setCell ⟨p, 1, none⟩ (.slice ao9 n9 cap9)) := by
  subst hm
  simp only [Nat.zero_add] at HN9
  refine ⟨v6, rfl, ?_, HN6, ?_⟩
  · have e : (l.take k).length = k := by rw [List.length_take]; omega
    unfold OSl
    rw [e]
    refine (HS6.keep HT9 (fun _ _ h => h)).keep (Turns.set w9 p 1 _) (fun i hi h => ?_)
    have := HN6 i hi
    omega
  · have hl := H9.len
    rw [ocells_len] at hl
    have e : m = (l.drop k).length := by omega
    subst e
    refine Box1.put H ((HT6.trans HT9 (fun _ h => h.elim)).mono (fun _ h => h.elim)) HP9 H9 (fun j hj => Or.inr ?_) 1 rfl
    have := HN9 j hj
    have := HT6.size
    omega

set_option maxRecDepth 10000 in
set_option maxHeartbeats 300000 in
theorem ref_take (p most : Nat) (l : List Ou) (lost n : Int) (F : Nat → Prop) (w : World) (h : RefAt p most l lost F w) (hl2 : l.length ≤ 1024) (k : Nat) (hk : k = min n.toNat l.length) :
    Calls Try.prog 14 #[.pointer (some ⟨p, 0, none⟩), .int .i64 n] w fun e w' => ∃ v, e = .returned v ∧ OSl w' v (l.take k) ∧ (∀ j, blk v j → w.heap.size ≤ j) ∧ Step F (RefAt p most (l.drop k) lost) w w' := by
  have hk1 : k ≤ l.length := by omega
  have hkn : (n < 0 ∧ k = 0) ∨ (n = 0 ∧ k = 0) ∨ (n = k ∧ 0 < k) ∨ ((l.length : Int) < n ∧ k = l.length ∧ 0 < k) ∨ ((l.length : Int) < n ∧ k = 0 ∧ l.length = 0) := by omega
  clear hk
  obtain ⟨i0, hi, hz0, hz1, hz2⟩ := info_parts infoOu
  have H := Lib.hid h
  obtain ⟨v, hp, hs, hne, hF⟩ := h
  obtain ⟨ao, cap, rfl, hnc, hcm, hao, hsp⟩ := hs.shape
  have hpl := lt_of_block hp
  have c1 := cells_of hp 1 _ rfl
  have c1b : (w.alloc (.cells #[] 29)).cell? ⟨p, 1, none⟩ = some (.slice ao l.length cap) := cells_of (heap_newer hp ((Turns.refl nobody w).alloc _) (fun h => h)) 1 _ rfl
  have HP := Lib.hid hp
  obtain ⟨a1, ha1⟩ : ∃ a1, Go.sliced ao 0 k cap 2 = .slice a1 k cap := ⟨_, rfl⟩
  obtain ⟨a2, ha2⟩ : ∃ a2, Go.sliced ao k l.length cap 2 = .slice a2 (l.length - k) (cap - k) := ⟨_, rfl⟩
  have hd1 := hs.sliced 0 k cap (by omega) (by omega) (by omega) (by omega)
  have hd2 := hs.sliced k l.length cap (by omega) (by omega) (by omega) (by omega)
  rw [ha1] at hd1
  rw [ha2] at hd2
  simp only [Nat.zero_mul, List.drop_zero, Nat.sub_zero, ocells_take] at hd1
  rw [ocells_drop, List.take_of_length_le (by rw [ocells_len, List.length_drop]; omega)] at hd2
  have HE1 := Lib.hid (Sl.empty (sz := 2) (heap_alloc_new w (.cells #[] 29)) (Nat.zero_le _))
  have HQ1 := Lib.hid ((hd1.src (ocells_one _)).keep ((Turns.refl nobody w).alloc (.cells #[] 29)) (fun _ _ h => h))
  have HD2 := Lib.hid (hd2.src (ocells_one _))
  unfold maxLen at hcm
  clear hF hs hd1 hd2 hp
  go_enter Try.func14, Try.ntmps14
  rcases ao with _ | ⟨g, o, sp⟩
  · obtain ⟨hl0, hc0⟩ := hao rfl
    obtain rfl : k = 0 := by omega
    have e1 : a1 = none := by have := ha1; simp [Go.sliced] at this; exact this.symm
    have e2 : a2 = none := by have := ha2; simp [Go.sliced] at this; exact this.symm
    subst e1 e2
    rw [hl0] at HD2
    have hn3 : n ≤ 0 ∨ 0 < n := by omega
    obtain rfl : l = [] := List.eq_nil_of_length_eq_zero hl0
    obtain rfl : cap = 0 := hc0
    clear hl0 ha1 ha2 hao hkn hnc hcm hk1 hl2
    simp only [List.length_nil] at *
    rcases hn3 with h1 | h1
    all_goals
      go_upto_region 3 with (at_builtin; refine wpList_append_sl rfl _ _ 30 rfl Try.underlying30 hi hz0 hz1 hz2 rfl (by decide) rfl rfl HE1.out HQ1.out (by unfold maxLen; omega) (by omega) ?_; intro v6 w6 h6 _ hn6 hc6)
      try simp only [Nat.zero_add, List.nil_append] at h6
      have ht6a : Turns nobody (w.alloc (.cells #[] 29)) w6 := (hc6 _ rfl).1
      have ht6 : Turns nobody w w6 := ((Turns.refl nobody w).alloc _).trans ht6a (fun _ h => h.elim)
      have HN6 : Hid (∀ j, blk v6 j → w.heap.size ≤ j) := Lib.hid fun j hj => by
        rcases hn6 j hj with h | h
        · simp only [Act.eval, blk, Value.ownBlock] at h
          have : some w.heap.size = some j := h
          simp at this; omega
        · simp at h; omega
      have hp6 := heap_newer HP.out ht6 (fun h => h)
      have c1 := cells_of hp6 1 _ rfl
      have HP6 := Lib.hid hp6
      have HT6 := Lib.hid ht6
      have HS6 := Lib.hid h6
      clear h6 hn6 hc6 ht6a
      have HE2 := Lib.hid (Sl.empty (sz := 2) (heap_alloc_new w6 (.cells #[] 29)) (Nat.zero_le _))
      have HQ2 := Lib.hid (HD2.out.keep (ht6.alloc (.cells #[] 29)) (fun _ _ h => h))
      clear ht6 hp6
      have c1' := cells_of (heap_newer HP6.out ((Turns.refl nobody w6).alloc (.cells #[] 29)) (fun h => h)) 1 _ rfl
      go_wp2_with (at_builtin; refine wpList_append_sl rfl _ _ 30 rfl Try.underlying30 hi hz0 hz1 hz2 rfl (by decide) rfl rfl HE2.out HQ2.out (by unfold maxLen; omega) (by omega) ?_; intro v9 w9 h9 _ hn9 hc9; have HN9 : Hid (∀ j, blk v9 j → w6.heap.size ≤ j) := Lib.hid (fun j hj => by rcases hn9 j hj with h | h; (have h' : some w6.heap.size = some j := h; simp at h'; omega); (simp at h; omega)); obtain ⟨ao9, cap9, rfl, _⟩ := h9.shape; (try simp only [Nat.zero_add, List.nil_append] at h9); have ht9a : Turns nobody (w6.alloc (.cells #[] 29)) w9 := (hc9 _ rfl).1; have ht9 : Turns nobody w6 w9 := ((Turns.refl nobody w6).alloc _).trans ht9a (fun _ h => h.elim); have hp9 := heap_newer HP6.out ht9 (fun h => h); have f1 := free_of hp9 1; have d1 := cells_of hp9 1 _ rfl; have HP9 := Lib.hid hp9; have HT9 := Lib.hid ht9; have H9 := Lib.hid h9; clear h9 hn9 hc9 ht9a ht9 hp9)
      go_ret
      first | (refine ref_take_fin (by omega) H.out hpl HS6.out HN6.out HT6.out HT9.out HP9.out H9.out HN9.out ?_; (first | (simp; done) | omega | (simp; omega))) | (have hz := ref_take_fin (n9 := 0) (by omega) H.out hpl HS6.out HN6.out HT6.out HT9.out HP9.out H9.out HN9.out (by simp); rw [List.take_length, List.drop_length] at hz; exact hz)
  · clear hao
    have hsp0 := hsp _ rfl
    simp only at hsp0
    subst hsp0
    have HA1 := Lib.hid ha1
    have HA2 := Lib.hid ha2
    clear ha1 ha2 hsp
    have HK : Hid (k ≤ cap ∧ k ≤ l.length) := Lib.hid ⟨by omega, hk1⟩
    rcases hkn with ⟨h1, hk⟩ | ⟨h1, hk⟩ | ⟨hk, h1⟩ | ⟨h1, hk, h2⟩ | ⟨h1, hk, h2⟩
    · have hn1 : ¬ (l.length : Int) < n := by omega
      have hn2 : ¬ (0 : Int) < n := by omega
      subst hk
      go_upto_region 3 with first | (refine wpList_exec (exec_hi _ _ rfl _ _ _ _ _ rfl rfl HK.out.1 HA1.out) rfl ?_) | (at_builtin; refine wpList_append_sl rfl _ _ 30 rfl Try.underlying30 hi hz0 hz1 hz2 rfl (by decide) rfl rfl HE1.out HQ1.out (by unfold maxLen; omega) (by omega) ?_; intro v6 w6 h6 _ hn6 hc6)
      try simp only [Nat.zero_add, List.nil_append] at h6
      have ht6a : Turns nobody (w.alloc (.cells #[] 29)) w6 := (hc6 _ rfl).1
      have ht6 : Turns nobody w w6 := ((Turns.refl nobody w).alloc _).trans ht6a (fun _ h => h.elim)
      have HN6 : Hid (∀ j, blk v6 j → w.heap.size ≤ j) := Lib.hid fun j hj => by
        rcases hn6 j hj with h | h
        · simp only [Act.eval, blk, Value.ownBlock] at h
          have : some w.heap.size = some j := h
          simp at this; omega
        · simp at h; omega
      have hp6 := heap_newer HP.out ht6 (fun h => h)
      have c1 := cells_of hp6 1 _ rfl
      have HP6 := Lib.hid hp6
      have HT6 := Lib.hid ht6
      have HS6 := Lib.hid h6
      clear h6 hn6 hc6 ht6a
      have HE2 := Lib.hid (Sl.empty (sz := 2) (heap_alloc_new w6 (.cells #[] 29)) (Nat.zero_le _))
      have HQ2 := Lib.hid (HD2.out.keep (ht6.alloc (.cells #[] 29)) (fun _ _ h => h))
      clear ht6 hp6
      have c1' := cells_of (heap_newer HP6.out ((Turns.refl nobody w6).alloc (.cells #[] 29)) (fun h => h)) 1 _ rfl
      go_wp2_with first | (refine wpList_exec (exec_lo _ _ rfl _ _ _ _ _ rfl rfl HK.out.2 HA2.out) rfl ?_) | (at_builtin; refine wpList_append_sl rfl _ _ 30 rfl Try.underlying30 hi hz0 hz1 hz2 rfl (by decide) rfl rfl HE2.out HQ2.out (by unfold maxLen; omega) (by omega) ?_; intro v9 w9 h9 _ hn9 hc9; have HN9 : Hid (∀ j, blk v9 j → w6.heap.size ≤ j) := Lib.hid (fun j hj => by rcases hn9 j hj with h | h; (have h' : some w6.heap.size = some j := h; simp at h'; omega); (simp at h; omega)); obtain ⟨ao9, cap9, rfl, _⟩ := h9.shape; (try simp only [Nat.zero_add, List.nil_append] at h9); have ht9a : Turns nobody (w6.alloc (.cells #[] 29)) w9 := (hc9 _ rfl).1; have ht9 : Turns nobody w6 w9 := ((Turns.refl nobody w6).alloc _).trans ht9a (fun _ h => h.elim); have hp9 := heap_newer HP6.out ht9 (fun h => h); have f1 := free_of hp9 1; have d1 := cells_of hp9 1 _ rfl; have HP9 := Lib.hid hp9; have HT9 := Lib.hid ht9; have H9 := Lib.hid h9; clear h9 hn9 hc9 ht9a ht9 hp9)
      go_ret
      first | (refine ref_take_fin (by omega) H.out hpl HS6.out HN6.out HT6.out HT9.out HP9.out H9.out HN9.out ?_; (first | (simp; done) | omega | (simp; omega))) | (have hz := ref_take_fin (n9 := 0) (by omega) H.out hpl HS6.out HN6.out HT6.out HT9.out HP9.out H9.out HN9.out (by simp); rw [List.take_length, List.drop_length] at hz; exact hz)
    · subst h1 hk
      have hn1 : ¬ (l.length : Int) < 0 := by omega
      go_upto_region 3 with first | (refine wpList_exec (exec_hi _ _ rfl _ _ _ _ _ rfl rfl HK.out.1 HA1.out) rfl ?_) | (at_builtin; refine wpList_append_sl rfl _ _ 30 rfl Try.underlying30 hi hz0 hz1 hz2 rfl (by decide) rfl rfl HE1.out HQ1.out (by unfold maxLen; omega) (by omega) ?_; intro v6 w6 h6 _ hn6 hc6)
      try simp only [Nat.zero_add, List.nil_append] at h6
      have ht6a : Turns nobody (w.alloc (.cells #[] 29)) w6 := (hc6 _ rfl).1
      have ht6 : Turns nobody w w6 := ((Turns.refl nobody w).alloc _).trans ht6a (fun _ h => h.elim)
      have HN6 : Hid (∀ j, blk v6 j → w.heap.size ≤ j) := Lib.hid fun j hj => by
        rcases hn6 j hj with h | h
        · simp only [Act.eval, blk, Value.ownBlock] at h
          have : some w.heap.size = some j := h
          simp at this; omega
        · simp at h; omega
      have hp6 := heap_newer HP.out ht6 (fun h => h)
      have c1 := cells_of hp6 1 _ rfl
      have HP6 := Lib.hid hp6
      have HT6 := Lib.hid ht6
      have HS6 := Lib.hid h6
      clear h6 hn6 hc6 ht6a
      have HE2 := Lib.hid (Sl.empty (sz := 2) (heap_alloc_new w6 (.cells #[] 29)) (Nat.zero_le _))
      have HQ2 := Lib.hid (HD2.out.keep (ht6.alloc (.cells #[] 29)) (fun _ _ h => h))
      clear ht6 hp6
      have c1' := cells_of (heap_newer HP6.out ((Turns.refl nobody w6).alloc (.cells #[] 29)) (fun h => h)) 1 _ rfl
      go_wp2_with first | (refine wpList_exec (exec_lo _ _ rfl _ _ _ _ _ rfl rfl HK.out.2 HA2.out) rfl ?_) | (at_builtin; refine wpList_append_sl rfl _ _ 30 rfl Try.underlying30 hi hz0 hz1 hz2 rfl (by decide) rfl rfl HE2.out HQ2.out (by unfold maxLen; omega) (by omega) ?_; intro v9 w9 h9 _ hn9 hc9; have HN9 : Hid (∀ j, blk v9 j → w6.heap.size ≤ j) := Lib.hid (fun j hj => by rcases hn9 j hj with h | h; (have h' : some w6.heap.size = some j := h; simp at h'; omega); (simp at h; omega)); obtain ⟨ao9, cap9, rfl, _⟩ := h9.shape; (try simp only [Nat.zero_add, List.nil_append] at h9); have ht9a : Turns nobody (w6.alloc (.cells #[] 29)) w9 := (hc9 _ rfl).1; have ht9 : Turns nobody w6 w9 := ((Turns.refl nobody w6).alloc _).trans ht9a (fun _ h => h.elim); have hp9 := heap_newer HP6.out ht9 (fun h => h); have f1 := free_of hp9 1; have d1 := cells_of hp9 1 _ rfl; have HP9 := Lib.hid hp9; have HT9 := Lib.hid ht9; have H9 := Lib.hid h9; clear h9 hn9 hc9 ht9a ht9 hp9)
      go_ret
      first | (refine ref_take_fin (by omega) H.out hpl HS6.out HN6.out HT6.out HT9.out HP9.out H9.out HN9.out ?_; (first | (simp; done) | omega | (simp; omega))) | (have hz := ref_take_fin (n9 := 0) (by omega) H.out hpl HS6.out HN6.out HT6.out HT9.out HP9.out H9.out HN9.out (by simp); rw [List.take_length, List.drop_length] at hz; exact hz)
    · subst hk
      have hn1 : ¬ (l.length : Int) < k := by omega
      have hn2 : (0 : Int) < k := by omega
      go_upto_region 3 with first | (refine wpList_exec (exec_hi _ _ rfl _ _ _ _ _ rfl rfl HK.out.1 HA1.out) rfl ?_) | (at_builtin; refine wpList_append_sl rfl _ _ 30 rfl Try.underlying30 hi hz0 hz1 hz2 rfl (by decide) rfl rfl HE1.out HQ1.out (by unfold maxLen; omega) (by omega) ?_; intro v6 w6 h6 _ hn6 hc6)
      try simp only [Nat.zero_add, List.nil_append] at h6
      have ht6a : Turns nobody (w.alloc (.cells #[] 29)) w6 := (hc6 _ rfl).1
      have ht6 : Turns nobody w w6 := ((Turns.refl nobody w).alloc _).trans ht6a (fun _ h => h.elim)
      have HN6 : Hid (∀ j, blk v6 j → w.heap.size ≤ j) := Lib.hid fun j hj => by
        rcases hn6 j hj with h | h
        · simp only [Act.eval, blk, Value.ownBlock] at h
          have : some w.heap.size = some j := h
          simp at this; omega
        · simp at h; omega
      have hp6 := heap_newer HP.out ht6 (fun h => h)
      have c1 := cells_of hp6 1 _ rfl
      have HP6 := Lib.hid hp6
      have HT6 := Lib.hid ht6
      have HS6 := Lib.hid h6
      clear h6 hn6 hc6 ht6a
      have HE2 := Lib.hid (Sl.empty (sz := 2) (heap_alloc_new w6 (.cells #[] 29)) (Nat.zero_le _))
      have HQ2 := Lib.hid (HD2.out.keep (ht6.alloc (.cells #[] 29)) (fun _ _ h => h))
      clear ht6 hp6
      have c1' := cells_of (heap_newer HP6.out ((Turns.refl nobody w6).alloc (.cells #[] 29)) (fun h => h)) 1 _ rfl
      go_wp2_with first | (refine wpList_exec (exec_lo _ _ rfl _ _ _ _ _ rfl rfl HK.out.2 HA2.out) rfl ?_) | (at_builtin; refine wpList_append_sl rfl _ _ 30 rfl Try.underlying30 hi hz0 hz1 hz2 rfl (by decide) rfl rfl HE2.out HQ2.out (by unfold maxLen; omega) (by omega) ?_; intro v9 w9 h9 _ hn9 hc9; have HN9 : Hid (∀ j, blk v9 j → w6.heap.size ≤ j) := Lib.hid (fun j hj => by rcases hn9 j hj with h | h; (have h' : some w6.heap.size = some j := h; simp at h'; omega); (simp at h; omega)); obtain ⟨ao9, cap9, rfl, _⟩ := h9.shape; (try simp only [Nat.zero_add, List.nil_append] at h9); have ht9a : Turns nobody (w6.alloc (.cells #[] 29)) w9 := (hc9 _ rfl).1; have ht9 : Turns nobody w6 w9 := ((Turns.refl nobody w6).alloc _).trans ht9a (fun _ h => h.elim); have hp9 := heap_newer HP6.out ht9 (fun h => h); have f1 := free_of hp9 1; have d1 := cells_of hp9 1 _ rfl; have HP9 := Lib.hid hp9; have HT9 := Lib.hid ht9; have H9 := Lib.hid h9; clear h9 hn9 hc9 ht9a ht9 hp9)
      go_ret
      first | (refine ref_take_fin (by omega) H.out hpl HS6.out HN6.out HT6.out HT9.out HP9.out H9.out HN9.out ?_; (first | (simp; done) | omega | (simp; omega))) | (have hz := ref_take_fin (n9 := 0) (by omega) H.out hpl HS6.out HN6.out HT6.out HT9.out HP9.out H9.out HN9.out (by simp); rw [List.take_length, List.drop_length] at hz; exact hz)
    · subst hk
      have hn2 : (0 : Int) < l.length := by omega
      go_upto_region 3 with first | (refine wpList_exec (exec_hi _ _ rfl _ _ _ _ _ rfl rfl HK.out.1 HA1.out) rfl ?_) | (at_builtin; refine wpList_append_sl rfl _ _ 30 rfl Try.underlying30 hi hz0 hz1 hz2 rfl (by decide) rfl rfl HE1.out HQ1.out (by unfold maxLen; omega) (by omega) ?_; intro v6 w6 h6 _ hn6 hc6)
      try simp only [Nat.zero_add, List.nil_append] at h6
      have ht6a : Turns nobody (w.alloc (.cells #[] 29)) w6 := (hc6 _ rfl).1
      have ht6 : Turns nobody w w6 := ((Turns.refl nobody w).alloc _).trans ht6a (fun _ h => h.elim)
      have HN6 : Hid (∀ j, blk v6 j → w.heap.size ≤ j) := Lib.hid fun j hj => by
        rcases hn6 j hj with h | h
        · simp only [Act.eval, blk, Value.ownBlock] at h
          have : some w.heap.size = some j := h
          simp at this; omega
        · simp at h; omega
      have hp6 := heap_newer HP.out ht6 (fun h => h)
      have c1 := cells_of hp6 1 _ rfl
      have HP6 := Lib.hid hp6
      have HT6 := Lib.hid ht6
      have HS6 := Lib.hid h6
      clear h6 hn6 hc6 ht6a
      have HE2 := Lib.hid (Sl.empty (sz := 2) (heap_alloc_new w6 (.cells #[] 29)) (Nat.zero_le _))
      have HQ2 := Lib.hid (HD2.out.keep (ht6.alloc (.cells #[] 29)) (fun _ _ h => h))
      clear ht6 hp6
      have c1' := cells_of (heap_newer HP6.out ((Turns.refl nobody w6).alloc (.cells #[] 29)) (fun h => h)) 1 _ rfl
      go_wp2_with first | (refine wpList_exec (exec_lo _ _ rfl _ _ _ _ _ rfl rfl HK.out.2 HA2.out) rfl ?_) | (at_builtin; refine wpList_append_sl rfl _ _ 30 rfl Try.underlying30 hi hz0 hz1 hz2 rfl (by decide) rfl rfl HE2.out HQ2.out (by unfold maxLen; omega) (by omega) ?_; intro v9 w9 h9 _ hn9 hc9; have HN9 : Hid (∀ j, blk v9 j → w6.heap.size ≤ j) := Lib.hid (fun j hj => by rcases hn9 j hj with h | h; (have h' : some w6.heap.size = some j := h; simp at h'; omega); (simp at h; omega)); obtain ⟨ao9, cap9, rfl, _⟩ := h9.shape; (try simp only [Nat.zero_add, List.nil_append] at h9); have ht9a : Turns nobody (w6.alloc (.cells #[] 29)) w9 := (hc9 _ rfl).1; have ht9 : Turns nobody w6 w9 := ((Turns.refl nobody w6).alloc _).trans ht9a (fun _ h => h.elim); have hp9 := heap_newer HP6.out ht9 (fun h => h); have f1 := free_of hp9 1; have d1 := cells_of hp9 1 _ rfl; have HP9 := Lib.hid hp9; have HT9 := Lib.hid ht9; have H9 := Lib.hid h9; clear h9 hn9 hc9 ht9a ht9 hp9)
      go_ret
      first | (refine ref_take_fin (by omega) H.out hpl HS6.out HN6.out HT6.out HT9.out HP9.out H9.out HN9.out ?_; (first | (simp; done) | omega | (simp; omega))) | (have hz := ref_take_fin (n9 := 0) (by omega) H.out hpl HS6.out HN6.out HT6.out HT9.out HP9.out H9.out HN9.out (by simp); rw [List.take_length, List.drop_length] at hz; exact hz)
    · subst hk
      have hn2 : ¬ (0 : Int) < l.length := by omega
      obtain rfl : l = [] := List.eq_nil_of_length_eq_zero h2
      clear h2
      simp only [List.length_nil] at *
      go_upto_region 3 with first | (refine wpList_exec (exec_hi _ _ rfl _ _ _ _ _ rfl rfl HK.out.1 HA1.out) rfl ?_) | (at_builtin; refine wpList_append_sl rfl _ _ 30 rfl Try.underlying30 hi hz0 hz1 hz2 rfl (by decide) rfl rfl HE1.out HQ1.out (by unfold maxLen; omega) (by omega) ?_; intro v6 w6 h6 _ hn6 hc6)
      try simp only [Nat.zero_add, List.nil_append] at h6
      have ht6a : Turns nobody (w.alloc (.cells #[] 29)) w6 := (hc6 _ rfl).1
      have ht6 : Turns nobody w w6 := ((Turns.refl nobody w).alloc _).trans ht6a (fun _ h => h.elim)
      have HN6 : Hid (∀ j, blk v6 j → w.heap.size ≤ j) := Lib.hid fun j hj => by
        rcases hn6 j hj with h | h
        · simp only [Act.eval, blk, Value.ownBlock] at h
          have : some w.heap.size = some j := h
          simp at this; omega
        · simp at h; omega
      have hp6 := heap_newer HP.out ht6 (fun h => h)
      have c1 := cells_of hp6 1 _ rfl
      have HP6 := Lib.hid hp6
      have HT6 := Lib.hid ht6
      have HS6 := Lib.hid h6
      clear h6 hn6 hc6 ht6a
      have HE2 := Lib.hid (Sl.empty (sz := 2) (heap_alloc_new w6 (.cells #[] 29)) (Nat.zero_le _))
      have HQ2 := Lib.hid (HD2.out.keep (ht6.alloc (.cells #[] 29)) (fun _ _ h => h))
      clear ht6 hp6
      have c1' := cells_of (heap_newer HP6.out ((Turns.refl nobody w6).alloc (.cells #[] 29)) (fun h => h)) 1 _ rfl
      go_wp2_with first | (refine wpList_exec (exec_lo _ _ rfl _ _ _ _ _ rfl rfl HK.out.2 HA2.out) rfl ?_) | (at_builtin; refine wpList_append_sl rfl _ _ 30 rfl Try.underlying30 hi hz0 hz1 hz2 rfl (by decide) rfl rfl HE2.out HQ2.out (by unfold maxLen; omega) (by omega) ?_; intro v9 w9 h9 _ hn9 hc9; have HN9 : Hid (∀ j, blk v9 j → w6.heap.size ≤ j) := Lib.hid (fun j hj => by rcases hn9 j hj with h | h; (have h' : some w6.heap.size = some j := h; simp at h'; omega); (simp at h; omega)); obtain ⟨ao9, cap9, rfl, _⟩ := h9.shape; (try simp only [Nat.zero_add, List.nil_append] at h9); have ht9a : Turns nobody (w6.alloc (.cells #[] 29)) w9 := (hc9 _ rfl).1; have ht9 : Turns nobody w6 w9 := ((Turns.refl nobody w6).alloc _).trans ht9a (fun _ h => h.elim); have hp9 := heap_newer HP6.out ht9 (fun h => h); have f1 := free_of hp9 1; have d1 := cells_of hp9 1 _ rfl; have HP9 := Lib.hid hp9; have HT9 := Lib.hid ht9; have H9 := Lib.hid h9; clear h9 hn9 hc9 ht9a ht9 hp9)
      go_ret
      first | (refine ref_take_fin (by omega) H.out hpl HS6.out HN6.out HT6.out HT9.out HP9.out H9.out HN9.out ?_; (first | (simp; done) | omega | (simp; omega))) | (have hz := ref_take_fin (n9 := 0) (by omega) H.out hpl HS6.out HN6.out HT6.out HT9.out HP9.out H9.out HN9.out (by simp); rw [List.take_length, List.drop_length] at hz; exact hz)

end Go.Proofs.Ytjjapnphljhicab.outbox
