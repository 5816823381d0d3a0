/- Package store: its functions; the document's store in memory. -/
import Derived.Test.YtjnplcajajdkiaaDoorLruM
import Derived.Test.YtjnplcajajdkiaaDoorShaText
import Derived.Test.YtjnplcajajdkiaaDoorFork
/- Package store: what a store holds, in plain lists. -/
namespace Go.Proofs.YtjnplcajajdkiaaDoor.store
open Go.RowKit
open Go.Proofs.YtjnplcajajdkiaaDoor.stepkit Go.Proofs.YtjnplcajajdkiaaDoor.eqkit Go.Proofs.YtjnplcajajdkiaaDoor.idkit Go.Proofs.YtjnplcajajdkiaaDoor.obj Go.Proofs.YtjnplcajajdkiaaDoor.row Go.Proofs.YtjnplcajajdkiaaDoor.mapkit Go.Proofs.YtjnplcajajdkiaaDoor.mix Go.Proofs.YtjnplcajajdkiaaDoor.lru

/-- What is held: sums and bodies, in the order of their use. -/
abbrev Held := List (List Int × ByteArray)
def ids (E : Held) : List (List Int) := E.map (·.1)
def bodies (E : Held) : List ByteArray := E.map (·.2)
def sz : Held → Nat
  | [] => 0
  | x :: E => x.2.size + sz E
def pins (P : List (List Int)) (E : Held) : Nat := sz (E.filter fun x => decide (x.1 ∈ P))
def dropE (E : Held) (id : List Int) : Held := E.filter fun x => decide (x.1 ≠ id)
def en (E : Held) (i : Nat) : List Int × ByteArray := E.getD i ([], ⟨#[]⟩)
def placeE (E : Held) (id : List Int) : Nat := idxX (ids E) id

theorem ids_len (E : Held) : (ids E).length = E.length := by unfold ids; simp
theorem bodies_len (E : Held) : (bodies E).length = E.length := by unfold bodies; simp
theorem ids_get (E : Held) {i : Nat} (h : i < E.length) : (ids E).getD i [] = (en E i).1 := by
  unfold ids en
  simp [List.getD, h]
theorem bodies_get (E : Held) {i : Nat} (h : i < E.length) : (bodies E)[i]? = some (en E i).2 := by
  unfold bodies en
  simp [List.getD, h]
theorem en_mem {E : Held} {i : Nat} (h : i < E.length) : en E i ∈ E := by unfold en; rw [List.getD, List.getElem?_eq_getElem h]; exact List.getElem_mem _
theorem sz_append (E F : Held) : sz (E ++ F) = sz E + sz F := by
  induction E with
  | nil => simp [sz]
  | cons x E ih => simp only [List.cons_append, sz, ih]; omega
theorem sz_filter (E : Held) (f : List Int × ByteArray → Bool) : sz (E.filter f) + sz (E.filter fun x => !f x) = sz E := by
  induction E with
  | nil => rfl
  | cons x E ih =>
    simp only [List.filter_cons, sz]
    cases f x <;> simp [sz] <;> omega
theorem sz_filter_le (E : Held) (f : List Int × ByteArray → Bool) : sz (E.filter f) ≤ sz E := by have := sz_filter E f; omega
theorem pins_le (P : List (List Int)) (E : Held) : pins P E ≤ sz E := sz_filter_le _ _
theorem sz_take_succ (E : Held) {k : Nat} (h : k < E.length) : sz (E.take (k + 1)) = sz (E.take k) + (en E k).2.size := by
  rw [List.take_add_one, List.getElem?_eq_getElem h, sz_append]
  unfold en
  simp [List.getD, h, sz]
theorem ids_drop (E : Held) (id : List Int) : ids (dropE E id) = dropL (ids E) id := by
  unfold ids dropE dropL
  rw [List.filter_map]
  rfl
theorem dropE_len (E : Held) (id : List Int) : (dropE E id).length ≤ E.length := List.length_filter_le _ _
theorem place_lt {E : Held} {id : List Int} (h : id ∈ ids E) : placeE E id < E.length := by
  unfold placeE idxX
  rw [← ids_len]
  exact List.findIdx_lt_length_of_exists ⟨id, h, by simp⟩
theorem place_id {E : Held} {id : List Int} (h : placeE E id < E.length) : (en E (placeE E id)).1 = id := by
  rw [← ids_get E h]
  unfold placeE idxX at h ⊢
  rw [← ids_len] at h
  have := List.findIdx_getElem (w := h)
  rw [List.getD, List.getElem?_eq_getElem h]
  simpa using this
theorem mem_of_place {E : Held} {id : List Int} (h : placeE E id < E.length) : id ∈ ids E := by
  rw [← place_id h]
  unfold ids
  exact List.mem_map.2 ⟨_, en_mem h, rfl⟩
theorem place_of {E : Held} (hn : (ids E).Nodup) {i : Nat} (h : i < E.length) : placeE E (en E i).1 = i := by
  rw [← ids_get E h]
  exact idx_at hn (by rw [ids_len]; exact h)
/-- One goes, at its place. -/
theorem dropE_place {E : Held} (hn : (ids E).Nodup) {i : Nat} (h : i < E.length) : dropE E (en E i).1 = E.take i ++ E.drop (i + 1) := by
  induction E generalizing i with
  | nil => simp at h
  | cons x E ih =>
    have hn' : (ids E).Nodup ∧ x.1 ∉ ids E := by
      unfold ids at hn ⊢
      rw [List.map_cons, List.nodup_cons] at hn
      exact ⟨hn.2, hn.1⟩
    cases i with
    | zero =>
      have hall : ∀ y ∈ E, decide (y.1 ≠ x.1) = true := fun y hy => by
        simp only [ne_eq, decide_eq_true_eq]
        exact fun e => hn'.2 (by unfold ids; exact List.mem_map.2 ⟨y, hy, e⟩)
      unfold dropE en
      simp only [List.getD_cons_zero, List.take_zero, List.drop_succ_cons, List.drop_zero, List.nil_append]
      rw [List.filter_cons, if_neg (by simp), List.filter_eq_self.2 hall]
    | succ i =>
      have h' : i < E.length := by simpa using h
      have hi := ih hn'.1 h'
      have hne : x.1 ≠ (en E i).1 := fun e => hn'.2 (by rw [e]; unfold ids; exact List.mem_map.2 ⟨_, en_mem h', rfl⟩)
      have he : en (x :: E) (i + 1) = en E i := by unfold en; simp
      rw [he]
      unfold dropE at hi ⊢
      rw [List.filter_cons, if_pos (by simpa using hne), hi]
      simp
theorem sz_dropE {E : Held} (hn : (ids E).Nodup) {i : Nat} (h : i < E.length) : sz (dropE E (en E i).1) + (en E i).2.size = sz E := by
  rw [dropE_place hn h, sz_append]
  have e : E = E.take i ++ E.drop i := (List.take_append_drop i E).symm
  have e2 : E.drop i = en E i :: E.drop (i + 1) := by
    rw [List.drop_eq_getElem_cons h]
    unfold en
    rw [List.getD, List.getElem?_eq_getElem h]
    rfl
  have e3 : sz E = sz (E.take i) + sz (E.drop i) := by rw [← sz_append, List.take_append_drop]
  rw [e3, e2]
  simp only [sz]
  omega

/-! ### What has room -/

def outs (P : List (List Int)) (E : Held) (j : Nat) : Held := (E.take j).filter fun x => !decide (x.1 ∈ P)
def left (P : List (List Int)) (E : Held) (j : Nat) : Nat := sz E - sz (outs P E j)
theorem outs_le (P : List (List Int)) (E : Held) (j : Nat) : sz (outs P E j) ≤ sz E := by
  have h1 := sz_filter_le (E.take j) fun x => !decide (x.1 ∈ P)
  have h2 : sz E = sz (E.take j) + sz (E.drop j) := by rw [← sz_append, List.take_append_drop]
  unfold outs
  omega
theorem outs_succ (P : List (List Int)) (E : Held) {j : Nat} (h : j < E.length) : outs P E (j + 1) = outs P E j ++ (if (en E j).1 ∈ P then [] else [en E j]) := by
  unfold outs
  rw [List.take_add_one, List.getElem?_eq_getElem h, List.filter_append]
  congr 1
  have e : en E j = E[j] := by unfold en; rw [List.getD, List.getElem?_eq_getElem h]; rfl
  rw [e]
  by_cases hp : (E[j]).1 ∈ P
  · simp [hp]
  · simp [hp]
theorem left_zero (P : List (List Int)) (E : Held) : left P E 0 = sz E := by unfold left outs; simp [sz]
theorem left_succ (P : List (List Int)) (E : Held) {j : Nat} (h : j < E.length) : left P E (j + 1) + (if (en E j).1 ∈ P then 0 else (en E j).2.size) = left P E j := by
  have h1 := outs_le P E (j + 1)
  unfold left
  rw [outs_succ P E h, sz_append] at h1 ⊢
  by_cases hp : (en E j).1 ∈ P
  · simp [hp, sz]
  · simp only [hp, if_false, sz] at h1 ⊢; omega
theorem left_le (P : List (List Int)) (E : Held) (j : Nat) : left P E j ≤ sz E := by unfold left; omega
theorem left_end (P : List (List Int)) (E : Held) : left P E E.length = pins P E := by
  unfold left outs pins
  rw [List.take_length]
  have := sz_filter E fun x => decide (x.1 ∈ P)
  omega
theorem range_find (n : Nat) (f : Nat → Bool) (h : (List.range n).findIdx f < n) : f ((List.range n).findIdx f) = true := by
  have h1 : (List.range n).findIdx f < (List.range n).length := by simpa using h
  have h2 := List.findIdx_getElem (w := h1)
  have e : (List.range n)[(List.range n).findIdx f] = (List.range n).findIdx f := List.getElem_range h1
  rwa [e] at h2
/-- How far it goes. -/
def goes (P : List (List Int)) (q : Nat) (n : Int) (E : Held) : Nat := (List.range E.length).findIdx fun j => decide (n ≤ (q : Int) - left P E j)
theorem goes_le (P : List (List Int)) (q : Nat) (n : Int) (E : Held) : goes P q n E ≤ E.length := by
  unfold goes
  have := List.findIdx_le_length (xs := List.range E.length) (p := fun j => decide (n ≤ (q : Int) - left P E j))
  simpa using this
theorem goes_not {P : List (List Int)} {q : Nat} {n : Int} {E : Held} {j : Nat} (h : j < goes P q n E) : ¬ n ≤ (q : Int) - left P E j := by
  have hl := goes_le P q n E
  unfold goes at h
  have := List.not_of_lt_findIdx h
  simpa using this
theorem goes_eq {P : List (List Int)} {q : Nat} {n : Int} {E : Held} {J : Nat} (hJ : J ≤ E.length) (hb : ∀ j, j < J → ¬ n ≤ (q : Int) - left P E j) (he : J < E.length → n ≤ (q : Int) - left P E J) : goes P q n E = J := by
  have hl := goes_le P q n E
  rcases Nat.lt_trichotomy (goes P q n E) J with h | h | h
  · exfalso
    have := range_find E.length (fun j => decide (n ≤ (q : Int) - left P E j)) (show goes P q n E < E.length by omega)
    exact hb _ h (of_decide_eq_true this)
  · exact h
  · exact absurd (he (by omega)) (goes_not h)
theorem goes_yes {P : List (List Int)} {q : Nat} {n : Int} {E : Held} (h : goes P q n E < E.length) : n ≤ (q : Int) - left P E (goes P q n E) := by
  have := range_find E.length (fun j => decide (n ≤ (q : Int) - left P E j)) h
  exact of_decide_eq_true this
/-- What Room answers to a number that is not below nought. -/
def roomOk (P : List (List Int)) (q : Nat) (n : Int) (E : Held) : Bool := decide (n ≤ (q : Int) - left P E (goes P q n E))
def roomIds (P : List (List Int)) (q : Nat) (n : Int) (E : Held) : List (List Int) := ids (outs P E (goes P q n E))
def roomE (P : List (List Int)) (q : Nat) (n : Int) (E : Held) : Int := if n < 0 then 1 else if roomOk P q n E then 0 else 14
def roomL (P : List (List Int)) (q : Nat) (n : Int) (E : Held) : List (List Int) := if roomE P q n E = 0 then roomIds P q n E else []

/-! ### What is put -/

def checkE (b : ByteArray) : Int := if b.size = 0 then 4 else if 512 < b.size then 3 else 0

/-- A store of quota q. -/
structure Ok (q : Nat) (k : Nat) (E : Held) (P : List (List Int)) : Prop where
  qle : q ≤ 4096
  fits : sz E ≤ q
  sub : ∀ y ∈ P, y ∈ ids E
  len : E.length ≤ k
  plen : P.length ≤ k
  wh : Wh (ids E)
  nd : (ids E).Nodup

theorem Ok.pwh {q k : Nat} {E : Held} {P : List (List Int)} (h : Ok q k E P) : Wh P := fun y hy => h.wh y (h.sub y hy)
theorem Ok.mono {q k k' : Nat} {E : Held} {P : List (List Int)} (h : Ok q k E P) (hk : k ≤ k') : Ok q k' E P := ⟨h.qle, h.fits, h.sub, Nat.le_trans h.len hk, Nat.le_trans h.plen hk, h.wh, h.nd⟩
theorem Ok.start {q : Nat} (h : q ≤ 4096) : Ok q 0 [] [] := ⟨h, Nat.zero_le _, (fun _ h => by cases h), Nat.le_refl _, Nat.le_refl _, (fun _ h => by cases h), List.nodup_nil⟩
theorem Ok.put {q k : Nat} {E : Held} {P : List (List Int)} (h : Ok q k E P) {id : List Int} {b : ByteArray} (hid : id.length = 32) (hno : id ∉ ids E) (hf : sz E + b.size ≤ q) : Ok q (k + 1) (E ++ [(id, b)]) P := by
  have e : ids (E ++ [(id, b)]) = ids E ++ [id] := by unfold ids; simp
  refine ⟨h.qle, by rw [sz_append]; simp only [sz]; omega, fun y hy => by rw [e]; exact List.mem_append_left _ (h.sub y hy), by rw [List.length_append]; have := h.len; simp; omega, Nat.le_succ_of_le h.plen, ?_, ?_⟩
  · rw [e]
    intro y hy
    rcases List.mem_append.1 hy with hy | hy
    · exact h.wh y hy
    · rw [List.mem_singleton.1 hy]; exact hid
  · rw [e, List.nodup_append]
    exact ⟨h.nd, by simp, fun a ha c hc => by rw [List.mem_singleton.1 hc]; exact fun e => hno (e ▸ ha)⟩
theorem Ok.drop {q k : Nat} {E : Held} {P : List (List Int)} (h : Ok q k E P) (id : List Int) : Ok q k (dropE E id) (dropL P id) := by
  refine ⟨h.qle, Nat.le_trans (sz_filter_le _ _) h.fits, fun y hy => ?_, Nat.le_trans (dropE_len _ _) h.len, Nat.le_trans (dropL_len _ _) h.plen, ?_, ?_⟩
  · rw [ids_drop]
    have := List.mem_filter.1 hy
    exact List.mem_filter.2 ⟨h.sub y this.1, this.2⟩
  · rw [ids_drop]; exact dropL_wh h.wh id
  · rw [ids_drop]; exact h.nd.sublist (List.filter_sublist)
theorem sz_use {E : Held} (hn : (ids E).Nodup) {i : Nat} (h : i < E.length) : sz (dropE E (en E i).1 ++ [en E i]) = sz E := by
  rw [sz_append, ← sz_dropE hn h]
  simp [sz]
theorem ids_use (E : Held) {i : Nat} : ids (dropE E (en E i).1 ++ [en E i]) = useL (ids E) (en E i).1 := by
  have e : ids (dropE E (en E i).1 ++ [en E i]) = ids (dropE E (en E i).1) ++ [(en E i).1] := by unfold ids; simp
  rw [e, ids_drop]
  rfl
theorem Ok.use {q k : Nat} {E : Held} {P : List (List Int)} (h : Ok q k E P) {i : Nat} (hi : i < E.length) : Ok q k (dropE E (en E i).1 ++ [en E i]) P := by
  have hm : ∀ y, y ∈ ids E → y ∈ ids (dropE E (en E i).1 ++ [en E i]) := fun y hy => by
    rw [ids_use]
    unfold useL
    by_cases e : y = (en E i).1
    · exact List.mem_append_right _ (by rw [e]; simp)
    · exact List.mem_append_left _ (List.mem_filter.2 ⟨hy, by simpa using e⟩)
  refine ⟨h.qle, by rw [sz_use h.nd hi]; exact h.fits, fun y hy => hm y (h.sub y hy), ?_, h.plen, ?_, ?_⟩
  · rw [dropE_place h.nd hi]
    have := h.len
    simp
    omega
  · rw [ids_use]
    refine useL_wh h.wh (h.wh _ ?_)
    unfold ids
    exact List.mem_map.2 ⟨_, en_mem hi, rfl⟩
  · rw [ids_use]
    unfold useL
    rw [List.nodup_append]
    exact ⟨h.nd.sublist List.filter_sublist, by simp, fun a ha c hc => by rw [List.mem_singleton.1 hc]; have := (List.mem_filter.1 ha).2; simpa using this⟩
theorem Ok.pin {q k : Nat} {E : Held} {P : List (List Int)} (h : Ok q k E P) {id : List Int} (hi : id ∈ ids E) : Ok q (k + 1) E (useL P id) := by
  refine ⟨h.qle, h.fits, fun y hy => ?_, Nat.le_succ_of_le h.len, ?_, h.wh, h.nd⟩
  · rcases List.mem_append.1 hy with hy | hy
    · exact h.sub y (List.mem_filter.1 hy).1
    · rw [List.mem_singleton.1 hy]; exact hi
  · have := dropL_len P id
    have := h.plen
    rw [useL_len]
    omega

theorem mem_use (P : List (List Int)) (id y : List Int) : y ∈ useL P id ↔ y ∈ P ∨ y = id := by
  unfold useL
  rw [List.mem_append, List.mem_filter, List.mem_singleton]
  by_cases e : y = id
  · simp [e]
  · simp [e]
theorem mem_drop (P : List (List Int)) (id y : List Int) : y ∈ dropL P id ↔ y ∈ P ∧ y ≠ id := by
  unfold dropL
  rw [List.mem_filter]
  simp

theorem sz_filter_congr {E : Held} {f g : List Int × ByteArray → Bool} (h : ∀ x ∈ E, f x = g x) : sz (E.filter f) = sz (E.filter g) := by rw [List.filter_congr h]
theorem pins_append (P : List (List Int)) (E F : Held) : pins P (E ++ F) = pins P E + pins P F := by unfold pins; rw [List.filter_append, sz_append]
theorem pins_one (P : List (List Int)) (x : List Int × ByteArray) : pins P [x] = if x.1 ∈ P then x.2.size else 0 := by
  unfold pins
  by_cases h : x.1 ∈ P <;> simp [h, sz]
theorem pins_split {E : Held} (P : List (List Int)) {i : Nat} (h : i < E.length) : pins P E = pins P (E.take i) + (if (en E i).1 ∈ P then (en E i).2.size else 0) + pins P (E.drop (i + 1)) := by
  have e2 : E.drop i = en E i :: E.drop (i + 1) := by
    rw [List.drop_eq_getElem_cons h]
    unfold en
    rw [List.getD, List.getElem?_eq_getElem h]
    rfl
  have e1 : pins P E = pins P (E.take i) + pins P (E.drop i) := by rw [← pins_append, List.take_append_drop]
  rw [e1, e2, ← List.singleton_append, pins_append, pins_one]
  omega
theorem pins_use {E : Held} (hn : (ids E).Nodup) (P : List (List Int)) {i : Nat} (h : i < E.length) : pins P (dropE E (en E i).1 ++ [en E i]) = pins P E := by
  rw [pins_append, pins_one, dropE_place hn h, pins_append, pins_split P h]
  omega
theorem not_here {E : Held} (hn : (ids E).Nodup) {i : Nat} (h : i < E.length) : ∀ x ∈ E.take i ++ E.drop (i + 1), x.1 ≠ (en E i).1 := by
  intro x hx
  rw [← dropE_place hn h] at hx
  have := (List.mem_filter.1 hx).2
  simpa using this
theorem pins_congr {P Q : List (List Int)} {E : Held} (h : ∀ x ∈ E, x.1 ∈ P ↔ x.1 ∈ Q) : pins P E = pins Q E := by
  unfold pins
  exact sz_filter_congr fun x hx => decide_eq_decide.2 (h x hx)
theorem pins_drop {E : Held} (hn : (ids E).Nodup) (P : List (List Int)) {i : Nat} (h : i < E.length) : pins (dropL P (en E i).1) (dropE E (en E i).1) + (if (en E i).1 ∈ P then (en E i).2.size else 0) = pins P E := by
  rw [pins_split P h]
  have e : pins (dropL P (en E i).1) (dropE E (en E i).1) = pins P (dropE E (en E i).1) := pins_congr fun x hx => by
    rw [mem_drop]
    have := (List.mem_filter.1 hx).2
    simp only [ne_eq, decide_eq_true_eq] at this
    exact ⟨fun h => h.1, fun h => ⟨h, this⟩⟩
  rw [e, dropE_place hn h, pins_append]
  omega
theorem pins_pin {E : Held} (hn : (ids E).Nodup) (P : List (List Int)) {i : Nat} (h : i < E.length) : pins (useL P (en E i).1) E = pins P E + (if (en E i).1 ∈ P then 0 else (en E i).2.size) := by
  rw [pins_split P h, pins_split (useL P (en E i).1) h, if_pos (mem_useL _ _)]
  have hh := not_here hn h
  have e1 : pins (useL P (en E i).1) (E.take i) = pins P (E.take i) := pins_congr fun x hx => by rw [mem_use]; have := hh x (List.mem_append_left _ hx); simp [this]
  have e2 : pins (useL P (en E i).1) (E.drop (i + 1)) = pins P (E.drop (i + 1)) := pins_congr fun x hx => by rw [mem_use]; have := hh x (List.mem_append_right _ hx); simp [this]
  rw [e1, e2]
  split <;> omega
theorem pins_put {E : Held} {P : List (List Int)} (id : List Int) (b : ByteArray) (hno : id ∉ P) : pins P (E ++ [(id, b)]) = pins P E := by
  rw [pins_append, pins_one, if_neg hno]
  rfl

end Go.Proofs.YtjnplcajajdkiaaDoor.store

/- Package store: the object in memory, and what its calls leave. -/
namespace Go.Proofs.YtjnplcajajdkiaaDoor.store
open Go.RowKit
open Go.Proofs.YtjnplcajajdkiaaDoor.stepkit Go.Proofs.YtjnplcajajdkiaaDoor.eqkit Go.Proofs.YtjnplcajajdkiaaDoor.idkit Go.Proofs.YtjnplcajajdkiaaDoor.obj Go.Proofs.YtjnplcajajdkiaaDoor.row Go.Proofs.YtjnplcajajdkiaaDoor.mapkit Go.Proofs.YtjnplcajajdkiaaDoor.mix Go.Proofs.YtjnplcajajdkiaaDoor.lru

/-- A payload that is held: its sum, itself, its block. -/
structure Hd where
  id : List Int
  body : ByteArray
  b : Nat
def Hd.ent (x : Hd) : List Int × ByteArray := (x.id, x.body)
def ents (L : List Hd) : Held := L.map Hd.ent
def hmap (L : List Hd) : List (List Int × Value) := L.map fun x => (x.id, ptr x.b)
def hcs (b : ByteArray) (on : Bool) : Array Value := #[.string b, .bool on]
def scs (pl : Nat) (q : Nat) (n m : Nat) (mb : Nat) : Array Value := #[ptr pl, .int .i64 (q : Int), .int .i64 (n : Int), .int .i64 (m : Int), .map (some mb)]

structure StC (p pl mb q : Nat) (L : List Hd) (P : List (List Int)) (G : Nat → Prop) (w : World) : Prop where
  hp : w.heap[p]? = some (.cells (scs pl q (sz (ents L)) (pins P (ents L)) mb) 61 (0, 0))
  lru : LruX pl (ids (ents L)) G w
  map : MapIs w mb (hmap L)
  held : ∀ x ∈ L, w.heap[x.b]? = some (.cells (hcs x.body (decide (x.id ∈ P))) 77 (0, 0))
  nd : (L.map (·.b)).Nodup
  apart : ∀ i, G i → i ≠ p ∧ i ≠ mb ∧ ∀ x ∈ L, i ≠ x.b

def foot (p mb : Nat) (L : List Hd) (G : Nat → Prop) : Nat → Prop := fun i => i = p ∨ i = mb ∨ G i ∨ ∃ x ∈ L, i = x.b
/-- A store. -/
def StAt (p q : Nat) (E : Held) (P : List (List Int)) : (Nat → Prop) → World → Prop := fun F w => ∃ pl mb L G, ents L = E ∧ StC p pl mb q L P G w ∧ F = foot p mb L G

theorem ids_ents (L : List Hd) : ids (ents L) = L.map (·.id) := by unfold ids ents; rw [List.map_map]; rfl
theorem keys_hmap {L : List Hd} (hw : Wh (ids (ents L))) (hn : (ids (ents L)).Nodup) : Keys (hmap L) := by
  rw [ids_ents] at hw hn
  refine ⟨fun x hx => ?_, ?_⟩
  · obtain ⟨y, hy, rfl⟩ := List.mem_map.1 hx
    exact hw _ (List.mem_map.2 ⟨y, hy, rfl⟩)
  · unfold hmap
    rw [List.map_map]
    exact hn
theorem look_hmap {L : List Hd} (hn : (ids (ents L)).Nodup) {x : Hd} (hx : x ∈ L) : lookM (hmap L) x.id = some (ptr x.b) := by
  rw [ids_ents] at hn
  unfold lookM hmap
  rw [List.find?_map]
  cases hf : L.find? ((fun y : List Int × Value => decide (y.1 = x.id)) ∘ fun y => (y.id, ptr y.b)) with
  | none =>
    rw [List.find?_eq_none] at hf
    exact absurd (hf x hx) (by simp)
  | some y =>
    have h1 := List.find?_some hf
    have h2 := List.mem_of_find?_eq_some hf
    simp only [Function.comp, decide_eq_true_eq] at h1
    have : y = x := by
      obtain ⟨i, hi, rfl⟩ := List.mem_iff_getElem.1 h2
      obtain ⟨j, hj, rfl⟩ := List.mem_iff_getElem.1 hx
      have := (List.getElem_inj (xs := L.map (·.id)) (h₀ := by simpa using hi) (h₁ := by simpa using hj) hn).1 (by simpa using h1)
      subst this
      rfl
    rw [this]
    rfl
theorem look_hmap_no {L : List Hd} {id : List Int} (h : id ∉ ids (ents L)) : lookM (hmap L) id = none := by
  rw [ids_ents] at h
  unfold lookM hmap
  rw [List.find?_map, List.find?_eq_none.2]
  · rfl
  · intro y hy
    simp only [Function.comp, decide_eq_true_eq]
    exact fun e => h (List.mem_map.2 ⟨y, hy, e⟩)
theorem mem_ents {L : List Hd} {id : List Int} (h : id ∈ ids (ents L)) : ∃ x ∈ L, x.id = id := by
  rw [ids_ents] at h
  obtain ⟨x, hx, e⟩ := List.mem_map.1 h
  exact ⟨x, hx, e⟩
theorem id_of {L : List Hd} {x : Hd} (h : x ∈ L) : x.id ∈ ids (ents L) := by rw [ids_ents]; exact List.mem_map.2 ⟨x, h, rfl⟩
theorem ents_len (L : List Hd) : (ents L).length = L.length := by unfold ents; simp

section
variable {p pl mb q : Nat} {L : List Hd} {P : List (List Int)} {G : Nat → Prop} {w w' : World}
theorem StC.p_mb (h : StC p pl mb q L P G w) : p ≠ mb := fun e => by
  obtain ⟨es, c, _, h1, _, _⟩ := h.map
  have := h.hp
  rw [e, h1] at this
  cases this
theorem StC.p_b (h : StC p pl mb q L P G w) {x : Hd} (hx : x ∈ L) : x.b ≠ p := fun e => by
  have h1 := h.held x hx
  rw [e, h.hp] at h1
  simp at h1
theorem StC.mb_b (h : StC p pl mb q L P G w) {x : Hd} (hx : x ∈ L) : x.b ≠ mb := fun e => by
  obtain ⟨es, c, _, h1, _, _⟩ := h.map
  have h2 := h.held x hx
  rw [e, h1] at h2
  cases h2
theorem StC.keep (h : StC p pl mb q L P G w) {H : Nat → Prop} (ht : Turns H w w') (hn : ∀ i, foot p mb L G i → ¬ H i) : StC p pl mb q L P G w' :=
  ⟨heap_newer h.hp ht (hn p (Or.inl rfl)), (local_lrux _ _).keep h.lru ht (fun i hi => hn i (Or.inr (Or.inr (Or.inl hi)))), h.map.keep ht (hn mb (Or.inr (Or.inl rfl))),
    fun x hx => heap_newer (h.held x hx) ht (hn x.b (Or.inr (Or.inr (Or.inr ⟨x, hx, rfl⟩)))), h.nd, h.apart⟩
theorem StC.still (h : StC p pl mb q L P G w) (ht : Turns nobody w w') : StC p pl mb q L P G w' := h.keep ht (fun _ _ h => h)
theorem StC.lt (h : StC p pl mb q L P G w) : ∀ i, foot p mb L G i → i < w.heap.size := by
  rintro i (rfl | rfl | hi | ⟨x, hx, rfl⟩)
  · exact lt_of_block h.hp
  · exact h.map.lt
  · exact ((local_lrux _ _) G w h.lru).1 i hi
  · exact lt_of_block (h.held x hx)
theorem local_st (p q : Nat) (E : Held) (P : List (List Int)) : Local (StAt p q E P) := by
  rintro F w ⟨pl, mb, L, G, he, h, rfl⟩
  refine ⟨h.lt, fun w' hs hb => ⟨pl, mb, L, G, he, ⟨?_, ?_, ?_, ?_, h.nd, h.apart⟩, rfl⟩⟩
  · rw [hb p (Or.inl rfl)]; exact h.hp
  · exact ((local_lrux _ _) G w h.lru).2 w' hs fun i hi => hb i (Or.inr (Or.inr (Or.inl hi)))
  · obtain ⟨es, c, N, g1, g2, g3⟩ := h.map
    exact ⟨es, c, N, by rw [hb mb (Or.inr (Or.inl rfl))]; exact g1, g2, g3⟩
  · exact fun x hx => by rw [hb x.b (Or.inr (Or.inr (Or.inr ⟨x, hx, rfl⟩)))]; exact h.held x hx
theorem StC.wh (h : StC p pl mb q L P G w) : Wh (ids (ents L)) := LruX.wh h.lru
theorem StC.ndi (h : StC p pl mb q L P G w) : (ids (ents L)).Nodup := LruX.nodup h.lru

/-- Used: the row alone turns. -/
theorem StC.used (h : StC p pl mb q L P G w) {y : List (List Int)} {L' : List Hd} (hL : L'.Perm L) (hi : ids (ents L') = y) (hs : Step G (LruX pl y) w w') : Step (foot p mb L G) (StAt p q (ents L') P) w w' := by
  obtain ⟨G', h1, h2, h3⟩ := hs
  subst hi
  have hsz : ∀ {A B : List Hd}, A.Perm B → sz (ents A) = sz (ents B) := by
    intro A B hp
    induction hp with
    | nil => rfl
    | cons x _ ih => simp only [ents, List.map_cons, sz] at ih ⊢; omega
    | swap x y l => simp only [ents, List.map_cons, sz]; omega
    | trans _ _ a b => omega
  have hpi : pins P (ents L') = pins P (ents L) := by
    have e : ∀ A : List Hd, pins P (ents A) = sz (ents (A.filter fun x => decide (x.id ∈ P))) := fun A => by
      unfold pins ents
      rw [List.filter_map]
      rfl
    rw [e, e]
    exact hsz (hL.filter _)
  have hmem : ∀ x, x ∈ L' ↔ x ∈ L := fun x => hL.mem_iff
  have hap : ∀ i, G' i → i ≠ p ∧ i ≠ mb ∧ ∀ x ∈ L, i ≠ x.b := fun i hi => by
    rcases h3 i hi with hg | hg
    · exact h.apart i hg
    · refine ⟨?_, ?_, fun x hx => ?_⟩
      · have := lt_of_block h.hp; omega
      · have := h.map.lt; omega
      · have := lt_of_block (h.held x hx); omega
  refine ⟨foot p mb L' G', ⟨pl, mb, L', G', rfl, ⟨?_, h1, ?_, ?_, ?_, ?_⟩, rfl⟩, h2.mono (fun i hi => Or.inl (Or.inr (Or.inr (Or.inl hi)))), ?_⟩
  · rw [hsz hL, hpi]
    exact heap_newer h.hp h2 (fun hg => (h.apart p hg).1 rfl)
  · exact MapIs.perm (h.map.keep h2 (fun hg => (h.apart mb hg).2.1 rfl)) ((hL.map _).symm)
  · exact fun x hx => heap_newer (h.held x ((hmem x).1 hx)) h2 (fun hg => (h.apart x.b hg).2.2 x ((hmem x).1 hx) rfl)
  · exact ((hL.map (·.b)).nodup_iff).2 h.nd
  · exact fun i hi => ⟨(hap i hi).1, (hap i hi).2.1, fun x hx => (hap i hi).2.2 x ((hmem x).1 hx)⟩
  · rintro i (rfl | rfl | hi | ⟨x, hx, rfl⟩)
    · exact Or.inl (Or.inl rfl)
    · exact Or.inl (Or.inr (Or.inl rfl))
    · rcases h3 i hi with hg | hg
      · exact Or.inl (Or.inr (Or.inr (Or.inl hg)))
      · exact Or.inr hg
    · exact Or.inl (Or.inr (Or.inr (Or.inr ⟨x, (hmem x).1 hx, rfl⟩)))

/-- Pinned: the payload's block, and the count. -/
theorem StC.pinned (h : StC p pl mb q L P G w) {x : Hd} (hx : x ∈ L) {P' : List (List Int)} (hP : ∀ y, y ∈ P' ↔ y ∈ P ∨ y = x.id) {w1 : World} (hb : w1.heap[x.b]? = some (.cells (hcs x.body true) 77 (0, 0))) (hp : w1.heap[p]? = some (.cells (scs pl q (sz (ents L)) (pins P' (ents L)) mb) 61 (0, 0)))
    (ht : Turns (fun i => i = p ∨ i = x.b) w w1) : Step (foot p mb L G) (StAt p q (ents L) P') w w1 := by
  refine Step.same ⟨pl, mb, L, G, rfl, ⟨hp, (local_lrux _ _).keep h.lru ht (fun i hi hh => ?_), h.map.keep ht (fun hh => ?_), fun y hy => ?_, h.nd, h.apart⟩, rfl⟩ (ht.mono (fun i hi => Or.inl ?_))
  · rcases hh with hh | hh
    · exact (h.apart i hi).1 hh
    · exact (h.apart i hi).2.2 x hx hh
  · rcases hh with hh | hh
    · exact h.p_mb hh.symm
    · exact h.mb_b hx hh.symm
  · by_cases e : y.b = x.b
    · have : y = x := by
        obtain ⟨i, hi, rfl⟩ := List.mem_iff_getElem.1 hy
        obtain ⟨j, hj, rfl⟩ := List.mem_iff_getElem.1 hx
        have := (List.getElem_inj (xs := L.map (·.b)) (h₀ := by simpa using hi) (h₁ := by simpa using hj) h.nd).1 (by simpa using e)
        subst this
        rfl
      subst this
      rw [hb, decide_eq_true ((hP y.id).2 (Or.inr rfl))]
    · have hne : y.id ≠ x.id := fun e' => e (by
        have hn := h.ndi
        rw [ids_ents] at hn
        obtain ⟨i, hi, rfl⟩ := List.mem_iff_getElem.1 hy
        obtain ⟨j, hj, rfl⟩ := List.mem_iff_getElem.1 hx
        have := (List.getElem_inj (xs := L.map (·.id)) (h₀ := by simpa using hi) (h₁ := by simpa using hj) hn).1 (by simpa using e')
        subst this
        rfl)
      have e2 : decide (y.id ∈ P') = decide (y.id ∈ P) := decide_eq_decide.2 (by rw [hP]; simp [hne])
      rw [e2]
      refine heap_newer (h.held y hy) ht (fun hh => ?_)
      rcases hh with hh | hh
      · exact h.p_b hy hh
      · exact e hh
  · rcases hi with rfl | rfl
    · exact Or.inl rfl
    · exact Or.inr (Or.inr (Or.inr ⟨x, hx, rfl⟩))

/-- Gone: the counts, the map, the row. -/
theorem StC.gone (h : StC p pl mb q L P G w) {id : List Int} {P' : List (List Int)} (hP : ∀ y, y ≠ id → (y ∈ P' ↔ y ∈ P)) {w1 w2 : World} {n m : Nat}
    (hp : w1.heap[p]? = some (.cells (scs pl q (sz (dropE (ents L) id)) (pins P' (dropE (ents L) id)) mb) 61 (0, 0))) (hm : MapIs w1 mb ((hmap L).filter fun x => decide (x.1 ≠ id)))
    (ht : Turns (fun i => i = p ∨ i = mb) w w1) (hs : Step G (LruX pl (dropL (ids (ents L)) id)) w1 w2) : Step (foot p mb L G) (StAt p q (dropE (ents L) id) P') w w2 := by
  obtain ⟨G', h1, h2, h3⟩ := hs
  obtain ⟨L', hL'⟩ : ∃ L', L' = L.filter fun x => decide (x.id ≠ id) := ⟨_, rfl⟩
  have he : ents L' = dropE (ents L) id := by rw [hL']; unfold ents dropE; rw [List.filter_map]; rfl
  have hme : hmap L' = (hmap L).filter fun x => decide (x.1 ≠ id) := by rw [hL']; unfold hmap; rw [List.filter_map]; rfl
  have hsub : ∀ x ∈ L', x ∈ L ∧ x.id ≠ id := fun x hx => by rw [hL'] at hx; have := List.mem_filter.1 hx; exact ⟨this.1, by simpa using this.2⟩
  have hnG : ∀ i, foot p mb L nobody i → ¬ G i := by
    rintro i (rfl | rfl | hi | ⟨x, hx, rfl⟩) hg
    · exact (h.apart _ hg).1 rfl
    · exact (h.apart _ hg).2.1 rfl
    · exact hi
    · exact (h.apart _ hg).2.2 x hx rfl
  have hap : ∀ i, G' i → i ≠ p ∧ i ≠ mb ∧ ∀ x ∈ L, i ≠ x.b := fun i hi => by
    rcases h3 i hi with hg | hg
    · exact h.apart i hg
    · refine ⟨?_, ?_, fun x hx => ?_⟩
      · have := lt_of_block hp; omega
      · have := hm.lt; omega
      · have := lt_of_block (h.held x hx); have := ht.size; omega
  have hG1 : ∀ x ∈ L, w1.heap[x.b]? = some (.cells (hcs x.body (decide (x.id ∈ P))) 77 (0, 0)) := fun x hx => heap_newer (h.held x hx) ht (fun hh => by rcases hh with hh | hh; exact h.p_b hx hh; exact h.mb_b hx hh)
  refine ⟨foot p mb L' G', ⟨pl, mb, L', G', he, ⟨?_, ?_, ?_, ?_, ?_, ?_⟩, rfl⟩, (ht.mono (fun i hi => Or.inl (by rcases hi with rfl | rfl; exact Or.inl rfl; exact Or.inr (Or.inl rfl)))).trans h2 (fun i hi => Or.inl (Or.inr (Or.inr (Or.inl hi)))), ?_⟩
  · rw [he]
    exact heap_newer hp h2 (hnG p (Or.inl rfl))
  · rw [he, ids_drop]; exact h1
  · rw [hme]; exact hm.keep h2 (hnG mb (Or.inr (Or.inl rfl)))
  · intro x hx
    obtain ⟨g1, g2⟩ := hsub x hx
    rw [decide_eq_decide.2 (hP x.id g2)]
    exact heap_newer (hG1 x g1) h2 (hnG x.b (Or.inr (Or.inr (Or.inr ⟨x, g1, rfl⟩))))
  · rw [hL']; exact (List.filter_sublist.map _).nodup h.nd
  · exact fun i hi => ⟨(hap i hi).1, (hap i hi).2.1, fun x hx => (hap i hi).2.2 x (hsub x hx).1⟩
  · rintro i (rfl | rfl | hi | ⟨x, hx, rfl⟩)
    · exact Or.inl (Or.inl rfl)
    · exact Or.inl (Or.inr (Or.inl rfl))
    · rcases h3 i hi with hg | hg
      · exact Or.inl (Or.inr (Or.inr (Or.inl hg)))
      · exact Or.inr (Nat.le_trans ht.size hg)
    · exact Or.inl (Or.inr (Or.inr (Or.inr ⟨x, (hsub x hx).1, rfl⟩)))

/-- Put: a new block, the map, the count, the row. -/
theorem StC.put (h : StC p pl mb q L P G w) {id : List Int} {body : ByteArray} {b : Nat} (hno : id ∉ ids (ents L)) (hnp : id ∉ P) {w1 w2 : World} (hb : w.heap.size ≤ b) (hh : w1.heap[b]? = some (.cells (hcs body false) 77 (0, 0)))
    (hp : w1.heap[p]? = some (.cells (scs pl q (sz (ents L) + body.size) (pins P (ents L)) mb) 61 (0, 0))) (hm : MapIs w1 mb (hmap L ++ [(id, ptr b)]))
    (ht : Turns (fun i => i = p ∨ i = mb) w w1) (hs : Step G (LruX pl (useL (ids (ents L)) id)) w1 w2) : Step (foot p mb L G) (StAt p q (ents L ++ [(id, body)]) P) w w2 := by
  obtain ⟨G', h1, h2, h3⟩ := hs
  obtain ⟨L', hL'⟩ : ∃ L', L' = L ++ [(⟨id, body, b⟩ : Hd)] := ⟨_, rfl⟩
  have he : ents L' = ents L ++ [(id, body)] := by rw [hL']; unfold ents; simp [Hd.ent]
  have hme : hmap L' = hmap L ++ [(id, ptr b)] := by rw [hL']; unfold hmap; simp
  have hi : ids (ents L') = useL (ids (ents L)) id := by
    rw [he]
    unfold useL
    rw [List.filter_eq_self.2 (fun y hy => by simp only [ne_eq, decide_eq_true_eq]; exact fun e => hno (e ▸ hy))]
    unfold ids
    simp
  have hsz : sz (ents L') = sz (ents L) + body.size := by rw [he, sz_append]; simp [sz]
  have hpi : pins P (ents L') = pins P (ents L) := by rw [he]; exact pins_put id body hnp
  have hlt := h.lt
  have hGlt := ((local_lrux _ _) G w h.lru).1
  have hap : ∀ i, G' i → i ≠ p ∧ i ≠ mb ∧ ∀ x ∈ L', i ≠ x.b := fun i hi => by
    have hbl := lt_of_block hh
    rcases h3 i hi with hg | hg
    · refine ⟨(h.apart i hg).1, (h.apart i hg).2.1, fun x hx => ?_⟩
      rw [hL'] at hx
      rcases List.mem_append.1 hx with hx | hx
      · exact (h.apart i hg).2.2 x hx
      · rw [List.mem_singleton.1 hx]; have := hGlt i hg; simp only; omega
    · refine ⟨?_, ?_, fun x hx => ?_⟩
      · have := lt_of_block hp; omega
      · have := hm.lt; omega
      · rw [hL'] at hx
        rcases List.mem_append.1 hx with hx | hx
        · have := lt_of_block (h.held x hx); have := ht.size; omega
        · rw [List.mem_singleton.1 hx]; simp only; omega
  have hnG : ∀ i, foot p mb L nobody i ∨ i = b → ¬ G i := by
    rintro i ((rfl | rfl | hi | ⟨x, hx, rfl⟩) | rfl) hg
    · exact (h.apart _ hg).1 rfl
    · exact (h.apart _ hg).2.1 rfl
    · exact hi
    · exact (h.apart _ hg).2.2 x hx rfl
    · have := hGlt _ hg; omega
  have hG1 : ∀ x ∈ L, w1.heap[x.b]? = some (.cells (hcs x.body (decide (x.id ∈ P))) 77 (0, 0)) := fun x hx => heap_newer (h.held x hx) ht (fun hh => by rcases hh with hh | hh; exact h.p_b hx hh; exact h.mb_b hx hh)
  refine ⟨foot p mb L' G', ⟨pl, mb, L', G', he, ⟨?_, ?_, ?_, ?_, ?_, hap⟩, rfl⟩, (ht.mono (fun i hi => Or.inl (by rcases hi with rfl | rfl; exact Or.inl rfl; exact Or.inr (Or.inl rfl)))).trans h2 (fun i hi => Or.inl (Or.inr (Or.inr (Or.inl hi)))), ?_⟩
  · rw [hsz, hpi]
    exact heap_newer hp h2 (hnG p (Or.inl (Or.inl rfl)))
  · rw [hi]; exact h1
  · rw [hme]; exact hm.keep h2 (hnG mb (Or.inl (Or.inr (Or.inl rfl))))
  · intro x hx
    rw [hL'] at hx
    rcases List.mem_append.1 hx with hx | hx
    · exact heap_newer (hG1 x hx) h2 (hnG x.b (Or.inl (Or.inr (Or.inr (Or.inr ⟨x, hx, rfl⟩)))))
    · rw [List.mem_singleton.1 hx]
      simp only
      rw [decide_eq_false hnp]
      exact heap_newer hh h2 (hnG b (Or.inr rfl))
  · rw [hL', List.map_append, List.nodup_append]
    refine ⟨h.nd, by simp, fun a ha c hc => ?_⟩
    obtain ⟨x, hx, rfl⟩ := List.mem_map.1 ha
    simp only [List.map_cons, List.map_nil, List.mem_singleton] at hc
    have := lt_of_block (h.held x hx)
    omega
  · rintro i (rfl | rfl | hi | ⟨x, hx, rfl⟩)
    · exact Or.inl (Or.inl rfl)
    · exact Or.inl (Or.inr (Or.inl rfl))
    · rcases h3 i hi with hg | hg
      · exact Or.inl (Or.inr (Or.inr (Or.inl hg)))
      · exact Or.inr (Nat.le_trans ht.size hg)
    · rw [hL'] at hx
      rcases List.mem_append.1 hx with hx | hx
      · exact Or.inl (Or.inr (Or.inr (Or.inr ⟨x, hx, rfl⟩)))
      · rw [List.mem_singleton.1 hx]; exact Or.inr hb
end

end Go.Proofs.YtjnplcajajdkiaaDoor.store

/- Package store: what is there; the small functions. -/
namespace Go.Proofs.YtjnplcajajdkiaaDoor.store
open Go.RowKit
open Go.Proofs.YtjnplcajajdkiaaDoor.stepkit Go.Proofs.YtjnplcajajdkiaaDoor.eqkit Go.Proofs.YtjnplcajajdkiaaDoor.idkit Go.Proofs.YtjnplcajajdkiaaDoor.obj Go.Proofs.YtjnplcajajdkiaaDoor.row Go.Proofs.YtjnplcajajdkiaaDoor.mapkit Go.Proofs.YtjnplcajajdkiaaDoor.mix Go.Proofs.YtjnplcajajdkiaaDoor.lru

theorem map_no (mb : Nat) (w : World) : (binOp .eql 59 (.map (some mb)) (.map none)).run Tryd.prog w = .ok (.bool false) w := by kernel_rfl
theorem map_yes (w : World) : (binOp .eql 59 (.map none) (.map none)).run Tryd.prog w = .ok (.bool true) w := by kernel_rfl
set_option maxRecDepth 10000 in
theorem none_no (p mb : Nat) (w : World) (h : w.cell? ⟨p, 4, none⟩ = some (.map (some mb))) :
    Calls Tryd.prog 32 #[.pointer (some ⟨p, 0, none⟩)] w fun e w' => e = .returned (.bool false) ∧ w = w' := by
  have hmn := map_no mb w
  go_enter Tryd.func32, Tryd.ntmps32
  go_wp2
  go_ret
  exact ⟨rfl, rfl⟩
set_option maxRecDepth 10000 in
theorem none_zero (p : Nat) (w : World) (h : w.cell? ⟨p, 4, none⟩ = some (.map none)) :
    Calls Tryd.prog 32 #[.pointer (some ⟨p, 0, none⟩)] w fun e w' => e = .returned (.bool true) ∧ w = w' := by
  have hmy := map_yes w
  go_enter Tryd.func32, Tryd.ntmps32
  go_wp2
  go_ret
  exact ⟨rfl, rfl⟩
set_option maxRecDepth 10000 in
theorem none_nil (w : World) :
    Calls Tryd.prog 32 #[.pointer none] w fun e w' => e = .returned (.bool true) ∧ w = w' := by
  go_enter Tryd.func32, Tryd.ntmps32
  go_wp2
  go_ret
  exact ⟨rfl, rfl⟩
set_option maxRecDepth 10000 in
theorem fits_any (p q a : Nat) (n : Int) (w : World) (h : w.cell? ⟨p, 1, none⟩ = some (.int .i64 (q : Int))) (hq : q ≤ 4096) (ha : a ≤ 4096) :
    Calls Tryd.prog 35 #[.pointer (some ⟨p, 0, none⟩), .int .i64 (a : Int), .int .i64 n] w fun e w' => e = .returned (.bool (decide (n ≤ (q : Int) - a))) ∧ w = w' := by
  go_enter Tryd.func35, Tryd.ntmps35
  go_wp2
  go_ret
  exact ⟨rfl, rfl⟩
theorem not_empty {b : ByteArray} (h : ¬ b.size = 0) : b.toList.isEmpty = false := by
  rw [List.isEmpty_eq_false_iff]
  intro e
  have h1 := ByteArray.toList_eq b
  rw [e] at h1
  have h2 := congrArg List.length h1
  simp at h2
  exact h h2.symm
set_option maxRecDepth 10000 in
theorem check_any (b : ByteArray) (hb : b.size ≤ 9223372036854775807) (w : World) :
    Calls Tryd.prog 33 #[.string b] w fun e w' => e = .returned (.int .i64 (checkE b)) ∧ w = w' := by
  unfold checkE
  by_cases h0 : b.size = 0
  · rw [if_pos h0]
    obtain rfl : b = ⟨#[]⟩ := by cases b; simp only [ByteArray.size, Array.size_eq_zero_iff] at h0; rw [h0]
    go_enter Tryd.func33, Tryd.ntmps33
    go_wp2
    go_ret
    exact ⟨rfl, rfl⟩
  · rw [if_neg h0]
    have hne : b.toList.isEmpty = false := not_empty h0
    by_cases h1 : 512 < b.size
    · rw [if_pos h1]
      go_enter Tryd.func33, Tryd.ntmps33
      go_wp2
      go_ret
      exact ⟨rfl, rfl⟩
    · rw [if_neg h1]
      go_enter Tryd.func33, Tryd.ntmps33
      go_wp2
      go_ret
      exact ⟨rfl, rfl⟩
theorem zero_held (w : World) : (zeroValue 75).run Tryd.prog w = .ok (.pointer none) w := by kernel_rfl

set_option maxRecDepth 10000 in
set_option maxHeartbeats 400000 in
theorem find_yes {p pl mb q : Nat} {L : List Hd} {P : List (List Int)} {G : Nat → Prop} {w : World} (h : StC p pl mb q L P G w) {x : Hd} (hmem : x ∈ L) {id : List Int} (hxi : x.id = id) :
    Calls Tryd.prog 37 #[.pointer (some ⟨p, 0, none⟩), .agg (idc id).toArray] w fun e w' => e = .returned (.tuple #[.pointer (some ⟨x.b, 0, none⟩), .int .i64 0]) ∧ Turns nobody w w' := by
  have hid : id.length = 32 := by rw [← hxi]; exact h.wh _ (id_of hmem)
  have hla := look_hmap h.ndi hmem
  rw [hxi] at hla
  obtain ⟨w0, hw0⟩ : ∃ w0, w0 = w.alloc (.cells (idc id).toArray 31) := ⟨_, rfl⟩
  obtain ⟨W1, hW1⟩ : ∃ W1, W1 = w0.drew := ⟨_, rfl⟩
  have ht0 : Turns nobody w w0 := by rw [hw0]; exact (Turns.refl _ _).alloc _
  have ht01 : Turns nobody w0 W1 := by rw [hW1]; exact (Turns.refl _ _).drew
  have ht1 := ht0.trans ht01 (fun _ h => h.elim)
  have hb0 : w0.heap[w.heap.size]? = some (.cells (idc id).toArray 31 (0, 0)) := by rw [hw0]; exact heap_alloc_new w _
  have hx : W1.rangeAt w.heap.size 0 (idc id) := by have := range_block (heap_newer hb0 ht01 (fun h => h)); rwa [List.toList_toArray] at this
  have c0 : w0.cell? ⟨p, 4, none⟩ = some (.map (some mb)) := cells_of (h.still ht0).hp 4 _ rfl
  have c1 : W1.cell? ⟨p, 4, none⟩ = some (.map (some mb)) := cells_of (h.still ht1).hp 4 _ rfl
  have hlk := run_lookM (h.still ht1).map (keys_hmap h.wh h.ndi) id hid Tryd.underlying59 _ (zero_held W1)
  have HW0 := Lib.hid hw0
  have HW1 := Lib.hid hW1
  have HX := Lib.hid hx
  have SX := Lib.hid (sizeId hid)
  have HT := Lib.hid ht1
  rw [hla] at hlk
  have HL : Hid ((Instr.lookup 59 (.map (some mb)) (.agg (idc id).toArray) true).run Tryd.prog W1 = .ok (.tuple #[ptr x.b, .bool true]) W1) := Lib.hid hlk
  clear hla hmem hxi
  generalize x.b = b at *
  unfold ptr at HL
  clear hlk h hw0 hW1 ht0 ht01 ht1 hb0 hx
  go_enter Tryd.func37, Tryd.ntmps37
  go_wp2_with (go_at_call 32; rw [← HW0.out]; refine (none_no _ _ _ c0).mono ?_; rintro e w' ⟨rfl, rfl⟩)
  refine wp_region_mix [(0, true, true), (1, true, true), (2, true, true), (3, true, true), (4, true, true), (5, true, true), (6, true, true), (7, true, true), (8, true, true), (9, true, true), (10, true, true)] (fun W => W = W1) (by kernel_rfl) (by kernel_rfl) (HW1.out.symm) ?_
  rw [← HW1.out]
  simp only [picked, List.filterMap_cons, List.filterMap_nil, List.getElem?_toArray, List.getElem?_cons_zero, List.getElem?_cons_succ, Option.map_some]
  iterate 4 (refine mix_free (v := ?_) rfl ?_ ?_; rotate_left; (focus (intro w' hI; subst hI; go_simp; try with_reducible rfl)); simp only [Act.put, List.setIfInBounds_toArray, List.set_cons_zero, List.set_cons_succ])
  refine mix_free (v := .agg (idc id).toArray) rfl (fun w' hI => by rw [hI]; exact exec_load_mid _ _ rfl _ _ rfl (idc id) _ HX.out Tryd.underlying31 rfl SX.out) ?_
  simp only [Act.put, List.setIfInBounds_toArray, List.set_cons_zero, List.set_cons_succ]
  refine mix_free (v := .tuple #[.pointer (some ⟨b, 0, none⟩), .bool true]) rfl (fun w' hI => by rw [hI]; exact exec_lookup _ _ _ rfl rfl rfl HL.out) ?_
  simp only [Act.put, List.setIfInBounds_toArray, List.set_cons_zero, List.set_cons_succ]
  repeat (refine mix_free (v := ?_) rfl ?_ ?_; rotate_left; (focus (intro w' hI; go_simp; try with_reducible rfl)); simp only [Act.put, List.setIfInBounds_toArray, List.set_cons_zero, List.set_cons_succ])
  refine mix_nil ?_
  go_wp2
  go_ret2
  exact ⟨rfl, HT.out⟩
set_option maxRecDepth 10000 in
set_option maxHeartbeats 400000 in
theorem find_no {p pl mb q : Nat} {L : List Hd} {P : List (List Int)} {G : Nat → Prop} {w : World} (h : StC p pl mb q L P G w) {id : List Int} (hid : id.length = 32) (hno : id ∉ ids (ents L)) :
    Calls Tryd.prog 37 #[.pointer (some ⟨p, 0, none⟩), .agg (idc id).toArray] w fun e w' => e = .returned (.tuple #[.pointer none, .int .i64 7]) ∧ Turns nobody w w' := by
  have hla := look_hmap_no hno
  obtain ⟨w0, hw0⟩ : ∃ w0, w0 = w.alloc (.cells (idc id).toArray 31) := ⟨_, rfl⟩
  obtain ⟨W1, hW1⟩ : ∃ W1, W1 = w0.drew := ⟨_, rfl⟩
  have ht0 : Turns nobody w w0 := by rw [hw0]; exact (Turns.refl _ _).alloc _
  have ht01 : Turns nobody w0 W1 := by rw [hW1]; exact (Turns.refl _ _).drew
  have ht1 := ht0.trans ht01 (fun _ h => h.elim)
  have hb0 : w0.heap[w.heap.size]? = some (.cells (idc id).toArray 31 (0, 0)) := by rw [hw0]; exact heap_alloc_new w _
  have hx : W1.rangeAt w.heap.size 0 (idc id) := by have := range_block (heap_newer hb0 ht01 (fun h => h)); rwa [List.toList_toArray] at this
  have c0 : w0.cell? ⟨p, 4, none⟩ = some (.map (some mb)) := cells_of (h.still ht0).hp 4 _ rfl
  have c1 : W1.cell? ⟨p, 4, none⟩ = some (.map (some mb)) := cells_of (h.still ht1).hp 4 _ rfl
  have hlk := run_lookM (h.still ht1).map (keys_hmap h.wh h.ndi) id hid Tryd.underlying59 _ (zero_held W1)
  have HW0 := Lib.hid hw0
  have HW1 := Lib.hid hW1
  have HX := Lib.hid hx
  have SX := Lib.hid (sizeId hid)
  have HT := Lib.hid ht1
  rw [hla] at hlk
  have HL : Hid ((Instr.lookup 59 (.map (some mb)) (.agg (idc id).toArray) true).run Tryd.prog W1 = .ok (.tuple #[.pointer none, .bool false]) W1) := Lib.hid hlk
  clear hla hno
  clear hlk h hw0 hW1 ht0 ht01 ht1 hb0 hx
  go_enter Tryd.func37, Tryd.ntmps37
  go_wp2_with (go_at_call 32; rw [← HW0.out]; refine (none_no _ _ _ c0).mono ?_; rintro e w' ⟨rfl, rfl⟩)
  refine wp_region_mix [(0, true, true), (1, true, true), (2, true, true), (3, true, true), (4, true, true), (5, true, true), (6, true, true), (7, true, true), (8, true, true), (9, true, true), (10, true, true)] (fun W => W = W1) (by kernel_rfl) (by kernel_rfl) (HW1.out.symm) ?_
  rw [← HW1.out]
  simp only [picked, List.filterMap_cons, List.filterMap_nil, List.getElem?_toArray, List.getElem?_cons_zero, List.getElem?_cons_succ, Option.map_some]
  iterate 4 (refine mix_free (v := ?_) rfl ?_ ?_; rotate_left; (focus (intro w' hI; subst hI; go_simp; try with_reducible rfl)); simp only [Act.put, List.setIfInBounds_toArray, List.set_cons_zero, List.set_cons_succ])
  refine mix_free (v := .agg (idc id).toArray) rfl (fun w' hI => by rw [hI]; exact exec_load_mid _ _ rfl _ _ rfl (idc id) _ HX.out Tryd.underlying31 rfl SX.out) ?_
  simp only [Act.put, List.setIfInBounds_toArray, List.set_cons_zero, List.set_cons_succ]
  refine mix_free (v := .tuple #[.pointer none, .bool false]) rfl (fun w' hI => by rw [hI]; exact exec_lookup _ _ _ rfl rfl rfl HL.out) ?_
  simp only [Act.put, List.setIfInBounds_toArray, List.set_cons_zero, List.set_cons_succ]
  repeat (refine mix_free (v := ?_) rfl ?_ ?_; rotate_left; (focus (intro w' hI; go_simp; try with_reducible rfl)); simp only [Act.put, List.setIfInBounds_toArray, List.set_cons_zero, List.set_cons_succ])
  refine mix_nil ?_
  go_wp2
  go_ret2
  exact ⟨rfl, HT.out⟩

set_option maxRecDepth 10000 in
theorem has_any {p pl mb q : Nat} {L : List Hd} {P : List (List Int)} {G : Nat → Prop} {w : World} (h : StC p pl mb q L P G w) {id : List Int} (hid : id.length = 32) :
    Calls Tryd.prog 25 #[.pointer (some ⟨p, 0, none⟩), .agg (idc id).toArray] w fun e w' => e = .returned (.bool (decide (id ∈ ids (ents L)))) ∧ Turns nobody w w' := by
  obtain ⟨w0, hw0⟩ : ∃ w0, w0 = w.alloc (.cells (idc id).toArray 31) := ⟨_, rfl⟩
  have ht0 : Turns nobody w w0 := by rw [hw0]; exact (Turns.refl _ _).alloc _
  have hb0 : w0.heap[w.heap.size]? = some (.cells (idc id).toArray 31 (0, 0)) := by rw [hw0]; exact heap_alloc_new w _
  have hx : w0.rangeAt w.heap.size 0 (idc id) := by have := range_block hb0; rwa [List.toList_toArray] at this
  have h0 := h.still ht0
  have HW0 := Lib.hid hw0
  have HX := Lib.hid hx
  have SX := Lib.hid (sizeId hid)
  have HT0 := Lib.hid ht0
  by_cases hm : id ∈ ids (ents L)
  · obtain ⟨x, hmx, hxi⟩ := mem_ents hm
    have hf := find_yes h0 hmx hxi
    rw [decide_eq_true hm]
    clear hw0 ht0 hb0 hx h0 h hm hmx hxi
    go_enter Tryd.func25, Tryd.ntmps25
    go_wp2_with first
      | (with_reducible refine wpList_load_mid rfl _ _ rfl _ _ rfl _ _ (by rw [← HW0.out]; exact HX.out) Tryd.underlying31 rfl SX.out ?_)
      | (go_at_call 37; rw [← HW0.out]; refine hf.mono ?_; rintro e w' ⟨rfl, t1⟩; have HT := Lib.hid (HT0.out.trans t1 (fun _ h => h.elim)); clear t1)
    go_ret
    exact ⟨rfl, HT.out⟩
  · have hf := find_no h0 hid hm
    rw [decide_eq_false hm]
    clear hw0 ht0 hb0 hx h0 h hm
    go_enter Tryd.func25, Tryd.ntmps25
    go_wp2_with first
      | (with_reducible refine wpList_load_mid rfl _ _ rfl _ _ rfl _ _ (by rw [← HW0.out]; exact HX.out) Tryd.underlying31 rfl SX.out ?_)
      | (go_at_call 37; rw [← HW0.out]; refine hf.mono ?_; rintro e w' ⟨rfl, t1⟩; have HT := Lib.hid (HT0.out.trans t1 (fun _ h => h.elim)); clear t1)
    go_ret
    exact ⟨rfl, HT.out⟩
set_option maxRecDepth 10000 in
theorem get_yes {p pl mb q : Nat} {L : List Hd} {P : List (List Int)} {G : Nat → Prop} {w : World} (h : StC p pl mb q L P G w) {x : Hd} (hmem : x ∈ L) {id : List Int} (hxi : x.id = id) :
    Calls Tryd.prog 23 #[.pointer (some ⟨p, 0, none⟩), .agg (idc id).toArray] w fun e w' => e = .returned (.tuple #[.string x.body, .int .i64 0]) ∧ Turns nobody w w' := by
  have hid : id.length = 32 := by rw [← hxi]; exact h.wh _ (id_of hmem)
  obtain ⟨w0, hw0⟩ : ∃ w0, w0 = w.alloc (.cells (idc id).toArray 31) := ⟨_, rfl⟩
  have ht0 : Turns nobody w w0 := by rw [hw0]; exact (Turns.refl _ _).alloc _
  have hb0 : w0.heap[w.heap.size]? = some (.cells (idc id).toArray 31 (0, 0)) := by rw [hw0]; exact heap_alloc_new w _
  have hx : w0.rangeAt w.heap.size 0 (idc id) := by have := range_block hb0; rwa [List.toList_toArray] at this
  have h0 := h.still ht0
  have HW0 := Lib.hid hw0
  have HX := Lib.hid hx
  have SX := Lib.hid (sizeId hid)
  have HT0 := Lib.hid ht0
  have hf := find_yes h0 hmem hxi
  have HC : Hid (∀ W, Turns nobody w0 W → W.cell? ⟨x.b, 0, none⟩ = some (.string x.body)) := Lib.hid fun W ht => cells_of (heap_newer (h0.held x hmem) ht (fun h => h)) 0 _ rfl
  clear hw0 ht0 hb0 hx h0 h hmem hxi
  go_enter Tryd.func23, Tryd.ntmps23
  go_wp2_with first
    | (with_reducible refine wpList_load_mid rfl _ _ rfl _ _ rfl _ _ (by rw [← HW0.out]; exact HX.out) Tryd.underlying31 rfl SX.out ?_)
    | (go_at_call 37; rw [← HW0.out]; refine hf.mono ?_; rintro e w' ⟨rfl, t1⟩; have c0 := HC.out _ t1; have HT := Lib.hid (HT0.out.trans t1 (fun _ h => h.elim)); clear t1)
  go_ret2
  exact ⟨rfl, HT.out⟩
set_option maxRecDepth 10000 in
theorem get_no {p pl mb q : Nat} {L : List Hd} {P : List (List Int)} {G : Nat → Prop} {w : World} (h : StC p pl mb q L P G w) {id : List Int} (hid : id.length = 32) (hno : id ∉ ids (ents L)) :
    Calls Tryd.prog 23 #[.pointer (some ⟨p, 0, none⟩), .agg (idc id).toArray] w fun e w' => e = .returned (.tuple #[.string ⟨#[]⟩, .int .i64 7]) ∧ Turns nobody w w' := by
  obtain ⟨w0, hw0⟩ : ∃ w0, w0 = w.alloc (.cells (idc id).toArray 31) := ⟨_, rfl⟩
  have ht0 : Turns nobody w w0 := by rw [hw0]; exact (Turns.refl _ _).alloc _
  have hb0 : w0.heap[w.heap.size]? = some (.cells (idc id).toArray 31 (0, 0)) := by rw [hw0]; exact heap_alloc_new w _
  have hx : w0.rangeAt w.heap.size 0 (idc id) := by have := range_block hb0; rwa [List.toList_toArray] at this
  have h0 := h.still ht0
  have HW0 := Lib.hid hw0
  have HX := Lib.hid hx
  have SX := Lib.hid (sizeId hid)
  have HT0 := Lib.hid ht0
  have hf := find_no h0 hid hno
  clear hw0 ht0 hb0 hx h0 h hno
  go_enter Tryd.func23, Tryd.ntmps23
  go_wp2_with first
    | (with_reducible refine wpList_load_mid rfl _ _ rfl _ _ rfl _ _ (by rw [← HW0.out]; exact HX.out) Tryd.underlying31 rfl SX.out ?_)
    | (go_at_call 37; rw [← HW0.out]; refine hf.mono ?_; rintro e w' ⟨rfl, t1⟩; have HT := Lib.hid (HT0.out.trans t1 (fun _ h => h.elim)); clear t1)
  go_ret2
  exact ⟨rfl, HT.out⟩
set_option maxRecDepth 10000 in
theorem bytes_any {p pl mb q : Nat} {L : List Hd} {P : List (List Int)} {G : Nat → Prop} {w : World} (h : StC p pl mb q L P G w) :
    Calls Tryd.prog 17 #[.pointer (some ⟨p, 0, none⟩)] w fun e w' => e = .returned (.int .i64 (sz (ents L) : Int)) ∧ w = w' := by
  have c4 : w.cell? ⟨p, 4, none⟩ = some (.map (some mb)) := cells_of h.hp 4 _ rfl
  have c2 : w.cell? ⟨p, 2, none⟩ = some (.int .i64 (sz (ents L) : Int)) := cells_of h.hp 2 _ rfl
  clear h
  go_enter Tryd.func17, Tryd.ntmps17
  go_wp2_with (go_at_call 32; refine (none_no _ _ _ c4).mono ?_; rintro e w' ⟨rfl, rfl⟩)
  go_ret
  exact ⟨rfl, rfl⟩
set_option maxRecDepth 10000 in
theorem pinned_any {p pl mb q : Nat} {L : List Hd} {P : List (List Int)} {G : Nat → Prop} {w : World} (h : StC p pl mb q L P G w) :
    Calls Tryd.prog 15 #[.pointer (some ⟨p, 0, none⟩)] w fun e w' => e = .returned (.int .i64 (pins P (ents L) : Int)) ∧ w = w' := by
  have c4 : w.cell? ⟨p, 4, none⟩ = some (.map (some mb)) := cells_of h.hp 4 _ rfl
  have c3 : w.cell? ⟨p, 3, none⟩ = some (.int .i64 (pins P (ents L) : Int)) := cells_of h.hp 3 _ rfl
  clear h
  go_enter Tryd.func15, Tryd.ntmps15
  go_wp2_with (go_at_call 32; refine (none_no _ _ _ c4).mono ?_; rintro e w' ⟨rfl, rfl⟩)
  go_ret
  exact ⟨rfl, rfl⟩
set_option maxRecDepth 10000 in
theorem all_store {p pl mb q : Nat} {L : List Hd} {P : List (List Int)} {G : Nat → Prop} {w : World} (h : StC p pl mb q L P G w) (hl : L.length ≤ 1024) :
    Calls Tryd.prog 13 #[.pointer (some ⟨p, 0, none⟩)] w fun e w' => ∃ v, e = .returned v ∧ ISl w' v (ids (ents L)) ∧ (∀ j, blk v j → w.heap.size ≤ j) ∧ Turns nobody w w' := by
  have c4 : w.cell? ⟨p, 4, none⟩ = some (.map (some mb)) := cells_of h.hp 4 _ rfl
  have c0 : w.cell? ⟨p, 0, none⟩ = some (ptr pl) := cells_of h.hp 0 _ rfl
  have hall := all_x h.lru (by rw [ids_len, ents_len]; exact hl)
  unfold ptr at c0
  clear h
  go_enter Tryd.func13, Tryd.ntmps13
  go_wp2_with first
    | (go_at_call 32; refine (none_no _ _ _ c4).mono ?_; rintro e w' ⟨rfl, rfl⟩)
    | (go_at_call 38; refine hall.mono ?_; rintro e w' ⟨v, rfl, h1, h2, h3⟩; have H1 := Lib.hid h1; have H2 := Lib.hid h2; have H3 := Lib.hid h3; clear h1 h2 h3)
  go_ret
  exact ⟨_, rfl, H1.out, H2.out, H3.out⟩

end Go.Proofs.YtjnplcajajdkiaaDoor.store

/- Package store: what is used, and pinned. -/
namespace Go.Proofs.YtjnplcajajdkiaaDoor.store
open Go.RowKit
open Go.Proofs.YtjnplcajajdkiaaDoor.stepkit Go.Proofs.YtjnplcajajdkiaaDoor.eqkit Go.Proofs.YtjnplcajajdkiaaDoor.idkit Go.Proofs.YtjnplcajajdkiaaDoor.obj Go.Proofs.YtjnplcajajdkiaaDoor.row Go.Proofs.YtjnplcajajdkiaaDoor.mapkit Go.Proofs.YtjnplcajajdkiaaDoor.mix Go.Proofs.YtjnplcajajdkiaaDoor.lru

theorem ent_at {L : List Hd} {x : Hd} (h : x ∈ L) : ∃ i, i < (ents L).length ∧ en (ents L) i = (x.id, x.body) := by
  obtain ⟨i, hi, rfl⟩ := List.mem_iff_getElem.1 h
  exact ⟨i, by rw [ents_len]; exact hi, by unfold en ents; simp [List.getD, hi, Hd.ent]⟩
theorem used_list {L : List Hd} (hn : (ids (ents L)).Nodup) {x : Hd} (h : x ∈ L) : ∃ L' : List Hd, L'.Perm L ∧ ents L' = dropE (ents L) x.id ++ [(x.id, x.body)] := by
  obtain ⟨i, hi, rfl⟩ := List.mem_iff_getElem.1 h
  have hi' : i < (ents L).length := by rw [ents_len]; exact hi
  have he : en (ents L) i = (L[i].id, L[i].body) := by unfold en ents; simp [List.getD, hi, Hd.ent]
  refine ⟨L.take i ++ L.drop (i + 1) ++ [L[i]], ?_, ?_⟩
  · have h1 : L = L.take i ++ (L[i] :: L.drop (i + 1)) := by rw [List.getElem_cons_drop, List.take_append_drop]
    rw [List.append_assoc]
    refine List.Perm.trans ((List.perm_append_singleton _ _).append_left _) ?_
    rw [← h1]
  · have h2 := dropE_place hn hi'
    rw [he] at h2
    simp only at h2
    rw [h2]
    unfold ents
    simp [List.map_take, List.map_drop, Hd.ent]
theorem StC.congr {p pl mb q : Nat} {L : List Hd} {P P' : List (List Int)} {G : Nat → Prop} {w : World} (h : StC p pl mb q L P G w) (hP : ∀ y, y ∈ P' ↔ y ∈ P) : StC p pl mb q L P' G w :=
  ⟨by rw [pins_congr fun x _ => hP x.1]; exact h.hp, h.lru, h.map, fun x hx => by rw [decide_eq_decide.2 (hP x.id)]; exact h.held x hx, h.nd, h.apart⟩
theorem StC.at {p pl mb q : Nat} {L : List Hd} {P : List (List Int)} {G : Nat → Prop} {w : World} (h : StC p pl mb q L P G w) : StAt p q (ents L) P (foot p mb L G) w := ⟨pl, mb, L, G, rfl, h, rfl⟩

set_option maxRecDepth 10000 in
theorem use_no {p pl mb q : Nat} {L : List Hd} {P : List (List Int)} {G : Nat → Prop} {w : World} (h : StC p pl mb q L P G w) {id : List Int} (hid : id.length = 32) (hno : id ∉ ids (ents L)) :
    Calls Tryd.prog 11 #[.pointer (some ⟨p, 0, none⟩), .agg (idc id).toArray] w fun e w' => e = .returned (.int .i64 7) ∧ Turns nobody w w' := by
  obtain ⟨w0, hw0⟩ : ∃ w0, w0 = w.alloc (.cells (idc id).toArray 31) := ⟨_, rfl⟩
  have ht0 : Turns nobody w w0 := by rw [hw0]; exact (Turns.refl _ _).alloc _
  have hb0 : w0.heap[w.heap.size]? = some (.cells (idc id).toArray 31 (0, 0)) := by rw [hw0]; exact heap_alloc_new w _
  have hx : w0.rangeAt w.heap.size 0 (idc id) := by have := range_block hb0; rwa [List.toList_toArray] at this
  have h0 := h.still ht0
  have HW0 := Lib.hid hw0
  have HX := Lib.hid hx
  have HB0 := Lib.hid hb0
  have SX := Lib.hid (sizeId hid)
  have HT0 := Lib.hid ht0
  have hf := find_no h0 hid hno
  go_enter Tryd.func11, Tryd.ntmps11
  clear hw0 ht0 hb0 hx h0 h hno
  go_wp2_with first
    | (with_reducible refine wpList_load_mid rfl _ _ rfl _ _ rfl _ _ (by rw [← HW0.out]; exact HX.out) Tryd.underlying31 rfl SX.out ?_)
    | (go_at_call 37; rw [← HW0.out]; refine hf.mono ?_; rintro e w' ⟨rfl, t1⟩; have HT := Lib.hid (HT0.out.trans t1 (fun _ h => h.elim)); clear t1)
  go_ret
  exact ⟨rfl, HT.out⟩
set_option maxRecDepth 10000 in
theorem pin_no {p pl mb q : Nat} {L : List Hd} {P : List (List Int)} {G : Nat → Prop} {w : World} (h : StC p pl mb q L P G w) {id : List Int} (hid : id.length = 32) (hno : id ∉ ids (ents L)) :
    Calls Tryd.prog 12 #[.pointer (some ⟨p, 0, none⟩), .agg (idc id).toArray] w fun e w' => e = .returned (.int .i64 7) ∧ Turns nobody w w' := by
  obtain ⟨w0, hw0⟩ : ∃ w0, w0 = w.alloc (.cells (idc id).toArray 31) := ⟨_, rfl⟩
  have ht0 : Turns nobody w w0 := by rw [hw0]; exact (Turns.refl _ _).alloc _
  have hb0 : w0.heap[w.heap.size]? = some (.cells (idc id).toArray 31 (0, 0)) := by rw [hw0]; exact heap_alloc_new w _
  have hx : w0.rangeAt w.heap.size 0 (idc id) := by have := range_block hb0; rwa [List.toList_toArray] at this
  have h0 := h.still ht0
  have HW0 := Lib.hid hw0
  have HX := Lib.hid hx
  have HB0 := Lib.hid hb0
  have SX := Lib.hid (sizeId hid)
  have HT0 := Lib.hid ht0
  have hf := find_no h0 hid hno
  go_enter Tryd.func12, Tryd.ntmps12
  clear hw0 ht0 hb0 hx h0 h hno
  go_wp2_with first
    | (with_reducible refine wpList_load_mid rfl _ _ rfl _ _ rfl _ _ (by rw [← HW0.out]; exact HX.out) Tryd.underlying31 rfl SX.out ?_)
    | (go_at_call 37; rw [← HW0.out]; refine hf.mono ?_; rintro e w' ⟨rfl, t1⟩; have HT := Lib.hid (HT0.out.trans t1 (fun _ h => h.elim)); clear t1)
  go_ret
  exact ⟨rfl, HT.out⟩
set_option maxRecDepth 10000 in
theorem drop_no {p pl mb q : Nat} {L : List Hd} {P : List (List Int)} {G : Nat → Prop} {w : World} (h : StC p pl mb q L P G w) {id : List Int} (hid : id.length = 32) (hno : id ∉ ids (ents L)) :
    Calls Tryd.prog 18 #[.pointer (some ⟨p, 0, none⟩), .agg (idc id).toArray] w fun e w' => e = .returned (.int .i64 7) ∧ Turns nobody w w' := by
  obtain ⟨w0, hw0⟩ : ∃ w0, w0 = w.alloc (.cells (idc id).toArray 31) := ⟨_, rfl⟩
  have ht0 : Turns nobody w w0 := by rw [hw0]; exact (Turns.refl _ _).alloc _
  have hb0 : w0.heap[w.heap.size]? = some (.cells (idc id).toArray 31 (0, 0)) := by rw [hw0]; exact heap_alloc_new w _
  have hx : w0.rangeAt w.heap.size 0 (idc id) := by have := range_block hb0; rwa [List.toList_toArray] at this
  have h0 := h.still ht0
  have HW0 := Lib.hid hw0
  have HX := Lib.hid hx
  have HB0 := Lib.hid hb0
  have SX := Lib.hid (sizeId hid)
  have HT0 := Lib.hid ht0
  have hf := find_no h0 hid hno
  go_enter Tryd.func18, Tryd.ntmps18
  clear hw0 ht0 hb0 hx h0 h hno
  go_wp2_with first
    | (with_reducible refine wpList_load_mid rfl _ _ rfl _ _ rfl _ _ (by rw [← HW0.out]; exact HX.out) Tryd.underlying31 rfl SX.out ?_)
    | (go_at_call 37; rw [← HW0.out]; refine hf.mono ?_; rintro e w' ⟨rfl, t1⟩; have HT := Lib.hid (HT0.out.trans t1 (fun _ h => h.elim)); clear t1)
  go_ret
  exact ⟨rfl, HT.out⟩

set_option maxRecDepth 10000 in
set_option maxHeartbeats 400000 in
theorem use_yes {p pl mb q : Nat} {L : List Hd} {P : List (List Int)} {G : Nat → Prop} {w : World} (h : StC p pl mb q L P G w) {x : Hd} (hmem : x ∈ L) {id : List Int} (hxi : x.id = id) :
    Calls Tryd.prog 11 #[.pointer (some ⟨p, 0, none⟩), .agg (idc id).toArray] w fun e w' => e = .returned (.int .i64 0) ∧ Step (foot p mb L G) (StAt p q (dropE (ents L) id ++ [(id, x.body)]) P) w w' := by
  have hid : id.length = 32 := by rw [← hxi]; exact h.wh _ (id_of hmem)
  obtain ⟨w0, hw0⟩ : ∃ w0, w0 = w.alloc (.cells (idc id).toArray 31) := ⟨_, rfl⟩
  have ht0 : Turns nobody w w0 := by rw [hw0]; exact (Turns.refl _ _).alloc _
  have hb0 : w0.heap[w.heap.size]? = some (.cells (idc id).toArray 31 (0, 0)) := by rw [hw0]; exact heap_alloc_new w _
  have hx : w0.rangeAt w.heap.size 0 (idc id) := by have := range_block hb0; rwa [List.toList_toArray] at this
  have h0 := h.still ht0
  have HW0 := Lib.hid hw0
  have HX := Lib.hid hx
  have HB0 := Lib.hid hb0
  have SX := Lib.hid (sizeId hid)
  have HT0 := Lib.hid ht0
  have hf := find_yes h0 hmem hxi
  obtain ⟨L', hperm, hents⟩ := used_list h.ndi hmem
  rw [hxi] at hents
  obtain ⟨i, hi, hei⟩ := ent_at hmem
  have hids := ids_use (ents L) (i := i)
  rw [hei, hxi] at hids
  simp only at hids
  rw [← hents] at hids
  have hGlt := ((local_lrux _ _) G w h.lru).1
  have hgp : ¬ G p := fun hg => (h.apart p hg).1 rfl
  have hgb : ¬ G w.heap.size := fun hg => by have := hGlt _ hg; omega
  have post : ∀ W, Turns nobody w0 W → (W.cell? ⟨p, 0, none⟩ = some (.pointer (some ⟨pl, 0, none⟩)) ∧ W.rangeAt w.heap.size 0 (idc id)) ∧ Calls Tryd.prog 36 #[.pointer (some ⟨pl, 0, none⟩), .agg (idc id).toArray] W fun e w' => e = .returned (.int .i64 0) ∧ (w'.cell? ⟨p, 0, none⟩ = some (.pointer (some ⟨pl, 0, none⟩)) ∧ w'.rangeAt w.heap.size 0 (idc id)) ∧ Step (foot p mb L G) (StAt p q (dropE (ents L) id ++ [(id, x.body)]) P) w w' := by
    intro W ht
    have hW := h0.still ht
    have hbW := heap_newer hb0 ht (fun h => h)
    refine ⟨⟨cells_of hW.hp 0 _ rfl, by have := range_block hbW; rwa [List.toList_toArray] at this⟩, ?_⟩
    refine (use_x hW.lru id hid).mono fun e w' ⟨he, hs⟩ => ⟨he, ⟨cells_of (heap_newer hW.hp hs.turned hgp) 0 _ rfl, ?_⟩, ?_⟩
    · have := range_block (heap_newer hbW hs.turned hgb); rwa [List.toList_toArray] at this
    · rw [← hents]
      exact (hW.used hperm hids hs).before (ht0.trans ht (fun _ h => h.elim))
  have HPOST := Lib.hid post
  clear post hgb hgp hGlt hids hei hi hents hperm hw0 ht0 hb0 hx h0 h hmem hxi
  go_enter Tryd.func11, Tryd.ntmps11
  go_upto_region 4 with first
    | (with_reducible refine wpList_load_mid rfl _ _ rfl _ _ rfl _ _ (by rw [← HW0.out]; exact HX.out) Tryd.underlying31 rfl SX.out ?_)
    | (go_at_call 37; rw [← HW0.out]; refine hf.mono ?_; rintro e w1 ⟨rfl, t1⟩)
  obtain ⟨hI0, hcall⟩ := HPOST.out w1.drew t1.drew
  refine wp_region_mix [(0, true, true), (1, true, true), (2, true, true), (3, true, true), (4, true, true), (5, false, true), (6, true, true)] (fun W => W.cell? ⟨p, 0, none⟩ = some (.pointer (some ⟨pl, 0, none⟩)) ∧ W.rangeAt w.heap.size 0 (idc id)) (by kernel_rfl) (by kernel_rfl) (hI0) ?_
  simp only [picked, List.filterMap_cons, List.filterMap_nil, List.getElem?_toArray, List.getElem?_cons_zero, List.getElem?_cons_succ, Option.map_some]
  iterate 4 (refine mix_free (v := ?_) rfl ?_ ?_; rotate_left; (focus (intro w' hI; obtain ⟨z1, z2⟩ := hI; go_simp; try with_reducible rfl)); simp only [Act.put, List.setIfInBounds_toArray, List.set_cons_zero, List.set_cons_succ])
  refine mix_free (v := .agg (idc id).toArray) rfl (fun w' hI => exec_load_mid _ _ rfl _ _ rfl (idc id) _ hI.2 Tryd.underlying31 rfl SX.out) ?_
  simp only [Act.put, List.setIfInBounds_toArray, List.set_cons_zero, List.set_cons_succ]
  refine mix_big rfl (fun K hK => ?_)
  go_wp2_with (go_at_call 36; refine hcall.mono ?_; rintro e w2 ⟨rfl, hI2, hE⟩)
  have HE := Lib.hid hE
  refine hK _ _ (fun _ => hI2) ?_
  clear hK K hI2 hE hI0 hcall
  repeat (refine mix_free (v := ?_) rfl ?_ ?_; rotate_left; (focus (intro w' hI; go_simp; try with_reducible rfl)); simp only [Act.put, List.setIfInBounds_toArray, List.set_cons_zero, List.set_cons_succ])
  refine mix_nil ?_
  go_wp2
  go_ret
  exact ⟨rfl, HE.out⟩

set_option maxRecDepth 10000 in
set_option maxHeartbeats 400000 in
theorem pin_yes {p pl mb q : Nat} {L : List Hd} {P : List (List Int)} {G : Nat → Prop} {w : World} (h : StC p pl mb q L P G w) {x : Hd} (hmem : x ∈ L) {id : List Int} (hxi : x.id = id) (hsz : sz (ents L) ≤ 4096) :
    Calls Tryd.prog 12 #[.pointer (some ⟨p, 0, none⟩), .agg (idc id).toArray] w fun e w' => e = .returned (.int .i64 0) ∧ Step (foot p mb L G) (StAt p q (ents L) (useL P id)) w w' := by
  have hid : id.length = 32 := by rw [← hxi]; exact h.wh _ (id_of hmem)
  obtain ⟨w0, hw0⟩ : ∃ w0, w0 = w.alloc (.cells (idc id).toArray 31) := ⟨_, rfl⟩
  have ht0 : Turns nobody w w0 := by rw [hw0]; exact (Turns.refl _ _).alloc _
  have hb0 : w0.heap[w.heap.size]? = some (.cells (idc id).toArray 31 (0, 0)) := by rw [hw0]; exact heap_alloc_new w _
  have hx : w0.rangeAt w.heap.size 0 (idc id) := by have := range_block hb0; rwa [List.toList_toArray] at this
  have h0 := h.still ht0
  have HW0 := Lib.hid hw0
  have HX := Lib.hid hx
  have HB0 := Lib.hid hb0
  have SX := Lib.hid (sizeId hid)
  have HT0 := Lib.hid ht0
  have hf := find_yes h0 hmem hxi
  have HH : Hid (∀ W, Turns nobody w0 W → StC p pl mb q L P G W) := Lib.hid fun W ht => h0.still ht
  by_cases hp : id ∈ P
  · have hfin : ∀ W, Turns nobody w W → Step (foot p mb L G) (StAt p q (ents L) (useL P id)) w W := fun W ht => by
      have h1 := (h.still ht).congr (P' := useL P id) (fun y => by rw [mem_use]; exact ⟨fun h => by rcases h with h | h; exact h; exact h ▸ hp, Or.inl⟩)
      exact Step.same h1.at (ht.mono (fun _ h => h.elim))
    have HC : Hid (∀ W, Turns nobody w0 W → W.cell? ⟨x.b, 1, none⟩ = some (.bool true)) := Lib.hid fun W ht => cells_of (heap_newer (h0.held x hmem) ht (fun h => h)) 1 _ (by unfold hcs; rw [hxi, decide_eq_true hp]; rfl)
    have HFIN := Lib.hid hfin
    clear hfin hp hw0 ht0 hb0 hx h0 h hmem hxi
    go_enter Tryd.func12, Tryd.ntmps12
    go_wp2_with first
      | (with_reducible refine wpList_load_mid rfl _ _ rfl _ _ rfl _ _ (by rw [← HW0.out]; exact HX.out) Tryd.underlying31 rfl SX.out ?_)
      | (go_at_call 37; rw [← HW0.out]; refine hf.mono ?_; rintro e w1 ⟨rfl, t1⟩; have c1 := HC.out _ t1; have HT := Lib.hid (HT0.out.trans t1 (fun _ h => h.elim)); clear t1)
    go_ret
    exact ⟨rfl, HFIN.out _ HT.out⟩
  · have HC : Hid (∀ W, Turns nobody w0 W → W.cell? ⟨x.b, 1, none⟩ = some (.bool false)) := Lib.hid fun W ht => cells_of (heap_newer (h0.held x hmem) ht (fun h => h)) 1 _ (by unfold hcs; rw [hxi, decide_eq_false hp]; rfl)
    have HFR : Hid (∀ W, Turns nobody w0 W → W.frozen? ⟨x.b, 1, none⟩ = false) := Lib.hid fun W ht => free_of (heap_newer (h0.held x hmem) ht (fun h => h)) 1
    obtain ⟨i, hi, hei⟩ := ent_at hmem
    have hpp := pins_pin h.ndi P hi
    rw [hei, hxi] at hpp
    simp only [hp, if_false] at hpp
    have hple := pins_le (useL P id) (ents L)
    have hpb := h.p_b hmem
    have post : ∀ W, Turns nobody w0 W → ∃ W2, W2 = (W.setCell ⟨x.b, 1, none⟩ (.bool true)).drew ∧ W2.cell? ⟨p, 3, none⟩ = some (.int .i64 (pins P (ents L) : Int)) ∧ W2.frozen? ⟨p, 3, none⟩ = false ∧ W2.cell? ⟨x.b, 0, none⟩ = some (.string x.body) ∧
        Step (foot p mb L G) (StAt p q (ents L) (useL P id)) w (W2.setCell ⟨p, 3, none⟩ (.int .i64 ((pins P (ents L) : Int) + (x.body.size : Int)))) := by
      intro W ht
      have hW := h0.still ht
      have hb1 := heap_setCell_at (hW.held x hmem) 1 (.bool true)
      have t1 : Turns (fun i => i = p ∨ i = x.b) W (W.setCell ⟨x.b, 1, none⟩ (.bool true)) := (Turns.refl _ _).setCell _ _ _ (Or.inl (Or.inr rfl))
      have hp1 : (W.setCell ⟨x.b, 1, none⟩ (.bool true)).heap[p]? = _ := (Below.heap_setCell _ _ _ _ (fun e => hpb e.symm)).trans hW.hp
      refine ⟨_, rfl, cells_of (w := (W.setCell ⟨x.b, 1, none⟩ (.bool true)).drew) hp1 3 _ rfl, free_of (w := (W.setCell ⟨x.b, 1, none⟩ (.bool true)).drew) hp1 3, cells_of (w := (W.setCell ⟨x.b, 1, none⟩ (.bool true)).drew) hb1 0 _ rfl, ?_⟩
      refine Step.before (hW.pinned hmem (P' := useL P id) (fun y => by rw [mem_use, hxi]) ?_ ?_ ((t1.drew).setCell _ _ _ (Or.inl (Or.inl rfl)))) (ht0.trans ht (fun _ h => h.elim))
      · rw [Below.heap_setCell _ _ _ _ (fun e => hpb e)]
        exact hb1
      · have h3 := heap_setCell_at (w := (W.setCell ⟨x.b, 1, none⟩ (.bool true)).drew) hp1 3 (.int .i64 ((pins P (ents L) : Int) + (x.body.size : Int)))
        rw [h3, hpp]
        simp [scs]
    have HPOST := Lib.hid post
    have hbnd : (pins P (ents L) : Int) + (x.body.size : Int) ≤ 4096 := by omega
    have hb1 : (0 : Int) ≤ (pins P (ents L) : Int) := by omega
    have hbs : x.body.size ≤ 4096 := by omega
    clear post hpp hple hpb hei hi hp hw0 ht0 hb0 hx h0 h hmem hxi
    generalize (pins P (ents L) : Int) = pn at *
    generalize x.body = body at *
    generalize x.b = xb at *
    go_enter Tryd.func12, Tryd.ntmps12
    go_upto_region 6 with first
      | (with_reducible refine wpList_load_mid rfl _ _ rfl _ _ rfl _ _ (by rw [← HW0.out]; exact HX.out) Tryd.underlying31 rfl SX.out ?_)
      | (go_at_call 37; rw [← HW0.out]; refine hf.mono ?_; rintro e w1 ⟨rfl, t1⟩; have c1 := HC.out _ t1; have f1 := HFR.out _ t1)
    obtain ⟨W2, hW2, d3, f3, d0, hE⟩ := HPOST.out _ t1
    have HW2 := Lib.hid hW2
    have HE := Lib.hid hE
    clear hE hW2 c1 f1
    refine wp_region_mix [(0, true, true), (1, true, true), (2, true, true), (3, true, true), (4, true, true), (5, true, true), (6, true, true), (7, true, true), (8, true, true), (9, true, true), (10, true, true), (11, true, true), (12, false, false)] (fun W => W = W2) (by kernel_rfl) (by kernel_rfl) (HW2.out.symm) ?_
    rw [← HW2.out]
    simp only [picked, List.filterMap_cons, List.filterMap_nil, List.getElem?_toArray, List.getElem?_cons_zero, List.getElem?_cons_succ, Option.map_some]
    repeat (refine mix_free (v := ?_) rfl ?_ ?_; rotate_left; (focus (intro w' hI; subst hI; go_simp; try with_reducible rfl)); simp only [Act.put, List.setIfInBounds_toArray, List.set_cons_zero, List.set_cons_succ])
    refine mix_big rfl (fun K hK => ?_)
    go_wp2
    refine hK _ _ (fun h => by cases h) ?_
    clear hK K
    refine mix_nil ?_
    go_wp2
    go_ret
    exact ⟨rfl, HE.out⟩

end Go.Proofs.YtjnplcajajdkiaaDoor.store

/- Package store: what is dropped, and put. -/
namespace Go.Proofs.YtjnplcajajdkiaaDoor.store
open Go.RowKit
open Go.Proofs.YtjnplcajajdkiaaDoor.stepkit Go.Proofs.YtjnplcajajdkiaaDoor.eqkit Go.Proofs.YtjnplcajajdkiaaDoor.idkit Go.Proofs.YtjnplcajajdkiaaDoor.obj Go.Proofs.YtjnplcajajdkiaaDoor.row Go.Proofs.YtjnplcajajdkiaaDoor.mapkit Go.Proofs.YtjnplcajajdkiaaDoor.mix Go.Proofs.YtjnplcajajdkiaaDoor.lru

/-- What Drop does to memory, from the first store on. -/
structure DropW (p pl mb : Nat) (n m : Nat) (k : Nat) (M : List (List Int × Value)) (id : List Int) (B : Nat) (body : ByteArray) (xb : Nat) (W : World) : Prop where
  c0 : W.cell? ⟨p, 0, none⟩ = some (.pointer (some ⟨pl, 0, none⟩))
  c2 : W.cell? ⟨p, 2, none⟩ = some (.int .i64 (n : Int))
  c3 : W.cell? ⟨p, 3, none⟩ = some (.int .i64 (m : Int))
  c4 : W.cell? ⟨p, 4, none⟩ = some (.map (some mb))
  f : ∀ i, W.frozen? ⟨p, i, none⟩ = false
  d0 : W.cell? ⟨xb, 0, none⟩ = some (.string body)
  r : W.rangeAt B 0 (idc id)
theorem look_some {L : List Hd} {P : List (List Int)} {p pl mb q : Nat} {G : Nat → Prop} {w : World} (h : StC p pl mb q L P G w) {x : Hd} (hmem : x ∈ L) : (lookM (hmap L) x.id).isSome = true := by
  rw [look_hmap h.ndi hmem]; rfl

/-- A store without what is dropped: the map's and the row's part. -/
theorem drop_tail {p pl mb q : Nat} {L : List Hd} {P : List (List Int)} {G : Nat → Prop} {w : World} (h : StC p pl mb q L P G w) {x : Hd} (hmem : x ∈ L) {id : List Int} (hxi : x.id = id) {W : World} (ht : Turns (fun i => i = p) w W)
    (hp : W.heap[p]? = some (.cells (scs pl q (sz (dropE (ents L) id)) (pins (dropL P id) (dropE (ents L) id)) mb) 61 (0, 0))) :
    MapIs W mb (hmap L) ∧ Keys (hmap L) ∧ (lookM (hmap L) id).isSome = true ∧ ∀ W2, MapIs W2 mb ((hmap L).filter fun y => decide (y.1 ≠ id)) → Turns (fun i => i = mb) W W2 →
      W2.cell? ⟨p, 0, none⟩ = some (.pointer (some ⟨pl, 0, none⟩)) ∧ Calls Tryd.prog 41 #[.pointer (some ⟨pl, 0, none⟩), .agg (idc id).toArray] W2 fun e w' => e = .returned (.int .i64 0) ∧ w'.cell? ⟨p, 0, none⟩ = some (.pointer (some ⟨pl, 0, none⟩)) ∧ Step (foot p mb L G) (StAt p q (dropE (ents L) id) (dropL P id)) w w' ∧ Turns G W2 w' := by
  have hid : id.length = 32 := by rw [← hxi]; exact h.wh _ (id_of hmem)
  have hgp : ¬ G p := fun hg => (h.apart p hg).1 rfl
  have hm := h.map.keep ht (fun e => h.p_mb e.symm)
  refine ⟨hm, keys_hmap h.wh h.ndi, by rw [← hxi]; exact look_some h hmem, fun W2 h2 t2 => ?_⟩
  have hp2 := heap_newer hp t2 (fun e => h.p_mb e)
  have htt : Turns (fun i => i = p ∨ i = mb) w W2 := (ht.mono (fun i hi => Or.inl (Or.inl hi))).trans t2 (fun i hi => Or.inl (Or.inr hi))
  have hl2 := (local_lrux _ _).keep h.lru htt (fun i hi e => by rcases e with e | e; exact (h.apart i hi).1 e; exact (h.apart i hi).2.1 e)
  refine ⟨cells_of hp2 0 _ rfl, ?_⟩
  refine (drop_x hl2 id hid).mono fun e w' ⟨he, hs⟩ => ⟨?_, cells_of (heap_newer hp2 hs.turned hgp) 0 _ rfl, ?_, hs.turned⟩
  · rw [he, if_pos (by rw [← hxi]; exact id_of hmem)]
  · exact h.gone (id := id) (P' := dropL P id) (fun y hy => by rw [mem_drop]; exact ⟨fun h => h.1, fun h => ⟨h, hy⟩⟩) (n := 0) (m := 0) hp2 h2 htt hs


set_option maxRecDepth 10000 in
set_option maxHeartbeats 1000000 in
theorem drop_yes {p pl mb q : Nat} {L : List Hd} {P : List (List Int)} {G : Nat → Prop} {w : World} (h : StC p pl mb q L P G w) {x : Hd} (hm0 : x ∈ L) {id : List Int} (hxi0 : x.id = id) (hsz : sz (ents L) ≤ 4096) :
    Calls Tryd.prog 18 #[.pointer (some ⟨p, 0, none⟩), .agg (idc id).toArray] w fun e w' => e = .returned (.int .i64 0) ∧ Step (foot p mb L G) (StAt p q (dropE (ents L) id) (dropL P id)) w w' := by
  have hid : id.length = 32 := by rw [← hxi0]; exact h.wh _ (id_of hm0)
  obtain ⟨w0, hw0⟩ : ∃ w0, w0 = w.alloc (.cells (idc id).toArray 31) := ⟨_, rfl⟩
  have ht0 : Turns nobody w w0 := by rw [hw0]; exact (Turns.refl _ _).alloc _
  have hb0 : w0.heap[w.heap.size]? = some (.cells (idc id).toArray 31 (0, 0)) := by rw [hw0]; exact heap_alloc_new w _
  have hx : w0.rangeAt w.heap.size 0 (idc id) := by have := range_block hb0; rwa [List.toList_toArray] at this
  have h0 := h.still ht0
  have HW0 := Lib.hid hw0
  have HX := Lib.hid hx
  have SX := Lib.hid (sizeId hid)
  have HT0 := Lib.hid ht0
  have hf := find_yes h0 hm0 hxi0
  obtain ⟨B, hB⟩ : ∃ B, w.heap.size = B := ⟨_, rfl⟩
  have HLT := h.lt
  have HRB : Hid (∀ W, Turns (fun i => foot p mb L G i) w0 W → W.rangeAt B 0 (idc id)) := Lib.hid fun W ht => by
    have := range_block (heap_newer hb0 ht (fun hi => by have := HLT _ hi; omega))
    rw [List.toList_toArray, hB] at this
    exact this
  have HRG : Hid (∀ W W', W.rangeAt B 0 (idc id) → Turns G W W' → W'.rangeAt B 0 (idc id)) := Lib.hid fun W W' hr ht j v hj => by
    have hc := hr j v hj
    exact (ht.cell (lt_of_cell' hc) (fun hg => by have := HLT _ (Or.inr (Or.inr (Or.inl hg)) : foot p mb L G B); omega)).trans hc
  have hxx : w0.rangeAt B 0 (idc id) := by rw [← hB]; exact hx
  have HXB := Lib.hid hxx
  have HBB := Lib.hid hB
  obtain ⟨i, hi, hei⟩ := ent_at hm0
  have e1 := sz_dropE h.ndi hi
  have e2 := pins_drop h.ndi P hi
  rw [hei, hxi0] at e1 e2
  simp only at e1 e2
  have e3 := pins_le (dropL P id) (dropE (ents L) id)
  have e4 := pins_le P (ents L)
  have hpb := h.p_b hm0
  have hmem := Lib.hid hm0
  have hxi := Lib.hid hxi0
  by_cases hp : id ∈ P
  · rw [if_pos hp] at e2
    have hfind : ∀ w1, Turns nobody w0 w1 → ∃ W9, W9 = ((w1.setCell ⟨p, 3, none⟩ (.int .i64 ((pins P (ents L) : Int) - (x.body.size : Int)))).setCell ⟨p, 2, none⟩ (.int .i64 ((sz (ents L) : Int) - (x.body.size : Int)))).drew.drew.drew ∧
        StC p pl mb q L P G w1 ∧ W9.heap[p]? = some (.cells (scs pl q (sz (dropE (ents L) id)) (pins (dropL P id) (dropE (ents L) id)) mb) 61 (0, 0)) ∧ Turns (fun i => i = p) w1 W9 ∧ Turns (fun i => foot p mb L G i) w0 W9 := by
      intro w1 t1
      have h1 := h0.still t1
      have tt : Turns (fun i => i = p) w1 (((w1.setCell ⟨p, 3, none⟩ (.int .i64 ((pins P (ents L) : Int) - (x.body.size : Int)))).setCell ⟨p, 2, none⟩ (.int .i64 ((sz (ents L) : Int) - (x.body.size : Int)))).drew.drew.drew) := ((((Turns.refl (fun i => i = p) _).setCell _ _ _ (Or.inl rfl)).setCell _ _ _ (Or.inl rfl)).drew.drew).drew
      refine ⟨_, rfl, h1, ?_, tt, (t1.mono (fun _ h => h.elim)).trans tt (fun i hi => Or.inl (Or.inl hi))⟩
      have g1 := heap_setCell_at (w := w1) h1.hp 3 (.int .i64 ((pins P (ents L) : Int) - (x.body.size : Int)))
      have g2 := heap_setCell_at (w := (w1.setCell ⟨p, 3, none⟩ (.int .i64 ((pins P (ents L) : Int) - (x.body.size : Int))))) g1 2 (.int .i64 ((sz (ents L) : Int) - (x.body.size : Int)))
      refine Eq.trans g2 ?_
      rw [show ((pins P (ents L) : Int) - (x.body.size : Int)) = (pins (dropL P id) (dropE (ents L) id) : Int) by omega, show ((sz (ents L) : Int) - (x.body.size : Int)) = (sz (dropE (ents L) id) : Int) by omega]
      simp [scs]
    have HFI := Lib.hid hfind
    have HCS : Hid (∀ W, Turns nobody w0 W → W.cell? ⟨x.b, 1, none⟩ = some (.bool true) ∧ W.cell? ⟨x.b, 0, none⟩ = some (.string x.body) ∧ W.cell? ⟨p, 3, none⟩ = some (.int .i64 (pins P (ents L) : Int)) ∧ W.frozen? ⟨p, 3, none⟩ = false ∧ (W.setCell ⟨p, 3, none⟩ (.int .i64 ((pins P (ents L) : Int) - (x.body.size : Int)))).cell? ⟨p, 2, none⟩ = some (.int .i64 (sz (ents L) : Int)) ∧ (W.setCell ⟨p, 3, none⟩ (.int .i64 ((pins P (ents L) : Int) - (x.body.size : Int)))).frozen? ⟨p, 2, none⟩ = false ∧ (W.setCell ⟨p, 3, none⟩ (.int .i64 ((pins P (ents L) : Int) - (x.body.size : Int)))).cell? ⟨x.b, 0, none⟩ = some (.string x.body)) := Lib.hid fun W ht => by
      have h1 := h0.still ht
      have g1 := heap_setCell_at h1.hp 3 (.int .i64 ((pins P (ents L) : Int) - (x.body.size : Int)))
      have g2 := (Below.heap_setCell _ _ _ _ (fun e => hpb e) : (W.setCell ⟨p, 3, none⟩ (.int .i64 ((pins P (ents L) : Int) - (x.body.size : Int)))).heap[x.b]? = _).trans (h1.held x hm0)
      exact ⟨cells_of (h1.held x hm0) 1 _ (by unfold hcs; rw [hxi0, decide_eq_true hp]; rfl), cells_of (h1.held x hm0) 0 _ rfl, cells_of h1.hp 3 _ rfl, free_of h1.hp 3, cells_of g1 2 _ rfl, free_of g1 2, cells_of g2 0 _ rfl⟩
    have hb1 : (0 : Int) ≤ (pins P (ents L) : Int) - (x.body.size : Int) := by omega
    have hb2 : (pins P (ents L) : Int) ≤ 4096 := by omega
    have hb3 : (0 : Int) ≤ (sz (ents L) : Int) - (x.body.size : Int) := by omega
    have hb4 : (sz (ents L) : Int) ≤ 4096 := by omega
    have hbs : x.body.size ≤ 4096 := by omega
    clear hfind e1 e2 e3 e4 hpb hei hi hp hw0 ht0 hb0 hx h0 h hsz HLT hB hm0 hxi0 hxx
    obtain ⟨pn, hpn⟩ : ∃ pn, (pins P (ents L) : Int) = pn := ⟨_, rfl⟩
    obtain ⟨sn, hsn⟩ : ∃ sn, (sz (ents L) : Int) = sn := ⟨_, rfl⟩
    obtain ⟨body, hbody⟩ : ∃ body, x.body = body := ⟨_, rfl⟩
    obtain ⟨xb, hxb⟩ : ∃ xb, x.b = xb := ⟨_, rfl⟩
    rw [hpn, hsn, hbody] at HFI
    rw [hpn, hsn, hbody, hxb] at HCS
    rw [hpn, hbody] at hb1
    rw [hpn] at hb2
    rw [hsn, hbody] at hb3
    rw [hsn] at hb4
    rw [hbody] at hbs
    rw [hxb] at hf
    clear hpn hsn hbody hxb
    go_enter Tryd.func18, Tryd.ntmps18
    go_upto_region 1 with fail
    rw [HBB.out]
    go_upto_region 5 with first
      | (with_reducible refine wpList_load_mid rfl _ _ rfl _ _ rfl _ _ (by rw [← HW0.out]; exact HXB.out) Tryd.underlying31 rfl SX.out ?_)
      | (go_at_call 37; rw [← HW0.out]; refine hf.mono ?_; rintro e w1 ⟨rfl, t1⟩; obtain ⟨b1, b0, c3, f3, c2, f2, b00⟩ := HCS.out w1 t1)
    obtain ⟨W9, hW9, hH1, hpW, htW, htN⟩ := HFI.out w1 t1
    have HH := Lib.hid hH1
    have HPW := Lib.hid hpW
    have HTW := Lib.hid htW
    have HTN := Lib.hid htN
    have HT01 := Lib.hid (HT0.out.trans t1 (fun _ h => h.elim))
    have HW9 := Lib.hid hW9
    clear hW9 hH1 hpW htW htN t1 b1
    refine wp_region_mix [(0, true, true), (1, true, true), (2, true, true), (3, true, true), (4, true, true), (5, true, true), (6, true, true), (7, true, true), (8, true, true), (9, true, true), (10, true, true), (11, true, true), (12, false, false)] (fun W => W = w1.drew) (by kernel_rfl) (by kernel_rfl) (rfl) ?_
    simp only [picked, List.filterMap_cons, List.filterMap_nil, List.getElem?_toArray, List.getElem?_cons_zero, List.getElem?_cons_succ, Option.map_some]
    repeat (refine mix_free (v := ?_) rfl ?_ ?_; rotate_left; (focus (intro w' hI; subst hI; go_simp; try with_reducible rfl)); simp only [Act.put, List.setIfInBounds_toArray, List.set_cons_zero, List.set_cons_succ])
    refine mix_big rfl (fun K hK => ?_)
    go_wp2
    refine hK _ _ (fun h => by cases h) ?_
    clear hK K
    refine mix_nil ?_
    clear c3 f3 b0
    go_upto_region 6 with fail
    refine wp_region_mix [(0, true, true), (1, true, true), (2, true, true), (3, true, true), (4, true, true), (5, true, true), (6, true, true), (7, true, true), (8, true, true), (9, true, true), (10, true, true), (11, true, true), (12, false, false)] (fun W => W = (w1.drew.setCell ⟨p, 3, none⟩ (.int .i64 (pn - (body.size : Int)))).drew) (by kernel_rfl) (by kernel_rfl) (rfl) ?_
    simp only [picked, List.filterMap_cons, List.filterMap_nil, List.getElem?_toArray, List.getElem?_cons_zero, List.getElem?_cons_succ, Option.map_some]
    repeat (refine mix_free (v := ?_) rfl ?_ ?_; rotate_left; (focus (intro w' hI; subst hI; go_simp; try with_reducible rfl)); simp only [Act.put, List.setIfInBounds_toArray, List.set_cons_zero, List.set_cons_succ])
    refine mix_big rfl (fun K hK => ?_)
    go_wp2
    refine hK _ _ (fun h => by cases h) ?_
    clear hK K
    refine mix_nil ?_
    clear c2 f2 b00
    go_upto_region 7 with fail
    obtain ⟨hm, hk, hyes, hrest⟩ := drop_tail HH.out hmem.out hxi.out HTW.out HPW.out
    have HM := Lib.hid hm
    have HK := Lib.hid hk
    have HY := Lib.hid hyes
    have HR := Lib.hid hrest
    clear hm hk hyes hrest
    have dp4 : W9.cell? ⟨p, 4, none⟩ = some (.map (some mb)) := cells_of HPW.out 4 _ rfl
    have HR9 : Hid (W9.rangeAt B 0 (idc id)) := Lib.hid (HRB.out _ HTN.out)
    refine wp_region_mix [(0, true, true), (1, true, true), (2, true, true), (3, true, true), (4, true, true), (5, false, false)] (fun W => W = W9) (by kernel_rfl) (by kernel_rfl) (HW9.out.symm) ?_
    rw [← HW9.out]
    simp only [picked, List.filterMap_cons, List.filterMap_nil, List.getElem?_toArray, List.getElem?_cons_zero, List.getElem?_cons_succ, Option.map_some]
    iterate 4 (refine mix_free (v := ?_) rfl ?_ ?_; rotate_left; (focus (intro w' hI; subst hI; go_simp; try with_reducible rfl)); simp only [Act.put, List.setIfInBounds_toArray, List.set_cons_zero, List.set_cons_succ])
    refine mix_free (v := .agg (idc id).toArray) rfl (fun w' hI => by rw [hI]; exact exec_load_mid _ _ rfl _ _ rfl (idc id) _ HR9.out Tryd.underlying31 rfl SX.out) ?_
    simp only [Act.put, List.setIfInBounds_toArray, List.set_cons_zero, List.set_cons_succ]
    refine mix_big rfl (fun K hK => ?_)
    refine wpList_delete rfl _ _ _ rfl Tryd.underlying59 id rfl rfl HM.out HK.out hid HY.out (fun w4 h4 t4 => ?_)
    have HT4 := Lib.hid t4
    obtain ⟨g0, hdrop⟩ := HR.out w4.drew h4 t4.drew
    clear h4 t4
    go_wp2
    refine hK _ _ (fun h => by cases h) ?_
    clear hK K
    refine mix_nil ?_
    clear dp4
    go_upto_region 8 with fail
    have HT5 : Hid (w4.drew.rangeAt B 0 (idc id)) := Lib.hid (HRB.out _ (HTN.out.trans HT4.out.drew (fun _ h => Or.inl (Or.inr (Or.inl h)))))
    have HG0 := Lib.hid g0
    refine wp_region_mix [(0, true, true), (1, true, true), (2, true, true), (3, true, true), (4, true, true), (5, false, true), (6, true, true)] (fun W => W.cell? ⟨p, 0, none⟩ = some (.pointer (some ⟨pl, 0, none⟩)) ∧ W.rangeAt B 0 (idc id)) (by kernel_rfl) (by kernel_rfl) (⟨HG0.out, HT5.out⟩) ?_
    simp only [picked, List.filterMap_cons, List.filterMap_nil, List.getElem?_toArray, List.getElem?_cons_zero, List.getElem?_cons_succ, Option.map_some]
    iterate 4 (refine mix_free (v := ?_) rfl ?_ ?_; rotate_left; (focus (intro w' hI; obtain ⟨z1, z2⟩ := hI; go_simp; try with_reducible rfl)); simp only [Act.put, List.setIfInBounds_toArray, List.set_cons_zero, List.set_cons_succ])
    refine mix_free (v := .agg (idc id).toArray) rfl (fun w' hI => exec_load_mid _ _ rfl _ _ rfl (idc id) _ hI.2 Tryd.underlying31 rfl SX.out) ?_
    simp only [Act.put, List.setIfInBounds_toArray, List.set_cons_zero, List.set_cons_succ]
    refine mix_big rfl (fun K hK => ?_)
    go_wp2_with (go_at_call 41; refine hdrop.mono ?_; rintro e w5 ⟨rfl, g5, hE, t5⟩)
    have HE := Lib.hid (hE.before HT01.out)
    refine hK _ _ (fun _ => ⟨g5, HRG.out _ _ HT5.out t5⟩) ?_
    clear hK K g5 hE t5
    repeat (refine mix_free (v := ?_) rfl ?_ ?_; rotate_left; (focus (intro w' hI; go_simp; try with_reducible rfl)); simp only [Act.put, List.setIfInBounds_toArray, List.set_cons_zero, List.set_cons_succ])
    refine mix_nil ?_
    go_wp2
    go_ret
    exact ⟨rfl, HE.out⟩
  · rw [if_neg hp, Nat.add_zero] at e2
    have hfind : ∀ w1, Turns nobody w0 w1 → ∃ W9, W9 = (w1.setCell ⟨p, 2, none⟩ (.int .i64 ((sz (ents L) : Int) - (x.body.size : Int)))).drew.drew ∧
        StC p pl mb q L P G w1 ∧ W9.heap[p]? = some (.cells (scs pl q (sz (dropE (ents L) id)) (pins (dropL P id) (dropE (ents L) id)) mb) 61 (0, 0)) ∧ Turns (fun i => i = p) w1 W9 ∧ Turns (fun i => foot p mb L G i) w0 W9 := by
      intro w1 t1
      have h1 := h0.still t1
      have tt : Turns (fun i => i = p) w1 ((w1.setCell ⟨p, 2, none⟩ (.int .i64 ((sz (ents L) : Int) - (x.body.size : Int)))).drew.drew) := (((Turns.refl (fun i => i = p) _).setCell _ _ _ (Or.inl rfl)).drew).drew
      refine ⟨_, rfl, h1, ?_, tt, (t1.mono (fun _ h => h.elim)).trans tt (fun i hi => Or.inl (Or.inl hi))⟩
      have g1 := heap_setCell_at (w := w1) h1.hp 2 (.int .i64 ((sz (ents L) : Int) - (x.body.size : Int)))
      refine Eq.trans g1 ?_
      rw [show ((sz (ents L) : Int) - (x.body.size : Int)) = (sz (dropE (ents L) id) : Int) by omega, e2]
      simp [scs]
    have HFI := Lib.hid hfind
    have HCS : Hid (∀ W, Turns nobody w0 W → W.cell? ⟨x.b, 1, none⟩ = some (.bool false) ∧ W.cell? ⟨x.b, 0, none⟩ = some (.string x.body) ∧ W.cell? ⟨p, 2, none⟩ = some (.int .i64 (sz (ents L) : Int)) ∧ W.frozen? ⟨p, 2, none⟩ = false) := Lib.hid fun W ht => by
      have h1 := h0.still ht
      exact ⟨cells_of (h1.held x hm0) 1 _ (by unfold hcs; rw [hxi0, decide_eq_false hp]; rfl), cells_of (h1.held x hm0) 0 _ rfl, cells_of h1.hp 2 _ rfl, free_of h1.hp 2⟩
    have hb3 : (0 : Int) ≤ (sz (ents L) : Int) - (x.body.size : Int) := by omega
    have hb4 : (sz (ents L) : Int) ≤ 4096 := by omega
    have hbs : x.body.size ≤ 4096 := by omega
    clear hfind e1 e2 e3 e4 hpb hei hi hp hw0 ht0 hb0 hx h0 h hsz HLT hB hm0 hxi0 hxx
    obtain ⟨sn, hsn⟩ : ∃ sn, (sz (ents L) : Int) = sn := ⟨_, rfl⟩
    obtain ⟨body, hbody⟩ : ∃ body, x.body = body := ⟨_, rfl⟩
    obtain ⟨xb, hxb⟩ : ∃ xb, x.b = xb := ⟨_, rfl⟩
    rw [hsn, hbody] at HFI
    rw [hsn, hbody, hxb] at HCS
    rw [hsn, hbody] at hb3
    rw [hsn] at hb4
    rw [hbody] at hbs
    rw [hxb] at hf
    clear hsn hbody hxb
    go_enter Tryd.func18, Tryd.ntmps18
    go_upto_region 1 with fail
    rw [HBB.out]
    go_upto_region 6 with first
      | (with_reducible refine wpList_load_mid rfl _ _ rfl _ _ rfl _ _ (by rw [← HW0.out]; exact HXB.out) Tryd.underlying31 rfl SX.out ?_)
      | (go_at_call 37; rw [← HW0.out]; refine hf.mono ?_; rintro e w1 ⟨rfl, t1⟩; obtain ⟨b1, b0, c2, f2⟩ := HCS.out w1 t1)
    obtain ⟨W9, hW9, hH1, hpW, htW, htN⟩ := HFI.out w1 t1
    have HH := Lib.hid hH1
    have HPW := Lib.hid hpW
    have HTW := Lib.hid htW
    have HTN := Lib.hid htN
    have HT01 := Lib.hid (HT0.out.trans t1 (fun _ h => h.elim))
    have HW9 := Lib.hid hW9
    clear hW9 hH1 hpW htW htN t1 b1
    refine wp_region_mix [(0, true, true), (1, true, true), (2, true, true), (3, true, true), (4, true, true), (5, true, true), (6, true, true), (7, true, true), (8, true, true), (9, true, true), (10, true, true), (11, true, true), (12, false, false)] (fun W => W = w1.drew) (by kernel_rfl) (by kernel_rfl) (rfl) ?_
    simp only [picked, List.filterMap_cons, List.filterMap_nil, List.getElem?_toArray, List.getElem?_cons_zero, List.getElem?_cons_succ, Option.map_some]
    repeat (refine mix_free (v := ?_) rfl ?_ ?_; rotate_left; (focus (intro w' hI; subst hI; go_simp; try with_reducible rfl)); simp only [Act.put, List.setIfInBounds_toArray, List.set_cons_zero, List.set_cons_succ])
    refine mix_big rfl (fun K hK => ?_)
    go_wp2
    refine hK _ _ (fun h => by cases h) ?_
    clear hK K
    refine mix_nil ?_
    clear c2 f2 b0
    go_upto_region 7 with fail
    obtain ⟨hm, hk, hyes, hrest⟩ := drop_tail HH.out hmem.out hxi.out HTW.out HPW.out
    have HM := Lib.hid hm
    have HK := Lib.hid hk
    have HY := Lib.hid hyes
    have HR := Lib.hid hrest
    clear hm hk hyes hrest
    have dp4 : W9.cell? ⟨p, 4, none⟩ = some (.map (some mb)) := cells_of HPW.out 4 _ rfl
    have HR9 : Hid (W9.rangeAt B 0 (idc id)) := Lib.hid (HRB.out _ HTN.out)
    refine wp_region_mix [(0, true, true), (1, true, true), (2, true, true), (3, true, true), (4, true, true), (5, false, false)] (fun W => W = W9) (by kernel_rfl) (by kernel_rfl) (HW9.out.symm) ?_
    rw [← HW9.out]
    simp only [picked, List.filterMap_cons, List.filterMap_nil, List.getElem?_toArray, List.getElem?_cons_zero, List.getElem?_cons_succ, Option.map_some]
    iterate 4 (refine mix_free (v := ?_) rfl ?_ ?_; rotate_left; (focus (intro w' hI; subst hI; go_simp; try with_reducible rfl)); simp only [Act.put, List.setIfInBounds_toArray, List.set_cons_zero, List.set_cons_succ])
    refine mix_free (v := .agg (idc id).toArray) rfl (fun w' hI => by rw [hI]; exact exec_load_mid _ _ rfl _ _ rfl (idc id) _ HR9.out Tryd.underlying31 rfl SX.out) ?_
    simp only [Act.put, List.setIfInBounds_toArray, List.set_cons_zero, List.set_cons_succ]
    refine mix_big rfl (fun K hK => ?_)
    refine wpList_delete rfl _ _ _ rfl Tryd.underlying59 id rfl rfl HM.out HK.out hid HY.out (fun w4 h4 t4 => ?_)
    have HT4 := Lib.hid t4
    obtain ⟨g0, hdrop⟩ := HR.out w4.drew h4 t4.drew
    clear h4 t4
    go_wp2
    refine hK _ _ (fun h => by cases h) ?_
    clear hK K
    refine mix_nil ?_
    clear dp4
    go_upto_region 8 with fail
    have HT5 : Hid (w4.drew.rangeAt B 0 (idc id)) := Lib.hid (HRB.out _ (HTN.out.trans HT4.out.drew (fun _ h => Or.inl (Or.inr (Or.inl h)))))
    have HG0 := Lib.hid g0
    refine wp_region_mix [(0, true, true), (1, true, true), (2, true, true), (3, true, true), (4, true, true), (5, false, true), (6, true, true)] (fun W => W.cell? ⟨p, 0, none⟩ = some (.pointer (some ⟨pl, 0, none⟩)) ∧ W.rangeAt B 0 (idc id)) (by kernel_rfl) (by kernel_rfl) (⟨HG0.out, HT5.out⟩) ?_
    simp only [picked, List.filterMap_cons, List.filterMap_nil, List.getElem?_toArray, List.getElem?_cons_zero, List.getElem?_cons_succ, Option.map_some]
    iterate 4 (refine mix_free (v := ?_) rfl ?_ ?_; rotate_left; (focus (intro w' hI; obtain ⟨z1, z2⟩ := hI; go_simp; try with_reducible rfl)); simp only [Act.put, List.setIfInBounds_toArray, List.set_cons_zero, List.set_cons_succ])
    refine mix_free (v := .agg (idc id).toArray) rfl (fun w' hI => exec_load_mid _ _ rfl _ _ rfl (idc id) _ hI.2 Tryd.underlying31 rfl SX.out) ?_
    simp only [Act.put, List.setIfInBounds_toArray, List.set_cons_zero, List.set_cons_succ]
    refine mix_big rfl (fun K hK => ?_)
    go_wp2_with (go_at_call 41; refine hdrop.mono ?_; rintro e w5 ⟨rfl, g5, hE, t5⟩)
    have HE := Lib.hid (hE.before HT01.out)
    refine hK _ _ (fun _ => ⟨g5, HRG.out _ _ HT5.out t5⟩) ?_
    clear hK K g5 hE t5
    repeat (refine mix_free (v := ?_) rfl ?_ ?_; rotate_left; (focus (intro w' hI; go_simp; try with_reducible rfl)); simp only [Act.put, List.setIfInBounds_toArray, List.set_cons_zero, List.set_cons_succ])
    refine mix_nil ?_
    go_wp2
    go_ret
    exact ⟨rfl, HE.out⟩

end Go.Proofs.YtjnplcajajdkiaaDoor.store

/- Package store: what is put, and checked. -/
namespace Go.Proofs.YtjnplcajajdkiaaDoor.store
open Go.RowKit
open Go.Proofs.YtjnplcajajdkiaaDoor.stepkit Go.Proofs.YtjnplcajajdkiaaDoor.eqkit Go.Proofs.YtjnplcajajdkiaaDoor.idkit Go.Proofs.YtjnplcajajdkiaaDoor.obj Go.Proofs.YtjnplcajajdkiaaDoor.row Go.Proofs.YtjnplcajajdkiaaDoor.mapkit Go.Proofs.YtjnplcajajdkiaaDoor.mix Go.Proofs.YtjnplcajajdkiaaDoor.lru
open Go.Proofs.YtjnplcajajdkiaaDoor.sha (Tabs wpList_putc new32 range_of results_one)

theorem zid_size (id : List Int) (hid : id.length = 32) : (idc (List.replicate 32 0)).toArray.size = (idc id).length := by rw [idc_len, hid]; rfl
theorem foot_new {p mb : Nat} {L : List Hd} {G : Nat → Prop} {n : Nat} (h : ∀ i, foot p mb L G i → i < n) {j : Nat} (hj : n ≤ j) : ¬ foot p mb L G j := fun hf => by have := h j hf; omega
theorem build_held (b : ByteArray) (w : World) : (Instr.build 77 #[(0, .string b)]).run Tryd.prog w = .ok (.agg #[.string b, .bool false]) w := by kernel_rfl

theorem put_tail {p pl mb q : Nat} {L : List Hd} {P : List (List Int)} {G : Nat → Prop} {w3 : World} (h : StC p pl mb q L P G w3) {id : List Int} (hid : id.length = 32) (hno : id ∉ ids (ents L)) (hnp : id ∉ P) (body : ByteArray) {J : Nat} (hJ : w3.heap[J]? = some (.cells (idc id).toArray 31 (0, 0))) (hJn : ¬ foot p mb L G J)
    {W4 : World} (hW4 : W4 = w3.drew.alloc (.cells (hcs body false) 77)) :
    MapIs W4 mb (hmap L) ∧ Keys (hmap L) ∧ lookM (hmap L) id = none ∧ ∀ w5, MapIs w5 mb (hmap L ++ [(id, ptr w3.heap.size)]) → Turns (fun i => i = mb) W4 w5 →
      w5.cell? ⟨p, 2, none⟩ = some (.int .i64 (sz (ents L) : Int)) ∧ w5.frozen? ⟨p, 2, none⟩ = false ∧ ∀ W6, W6 = (w5.setCell ⟨p, 2, none⟩ (.int .i64 ((sz (ents L) : Int) + (body.size : Int)))).drew →
      (W6.cell? ⟨p, 0, none⟩ = some (.pointer (some ⟨pl, 0, none⟩)) ∧ W6.rangeAt J 0 (idc id)) ∧ Calls Tryd.prog 36 #[.pointer (some ⟨pl, 0, none⟩), .agg (idc id).toArray] W6 fun e w7 => e = .returned (.int .i64 0) ∧
        (w7.cell? ⟨p, 0, none⟩ = some (.pointer (some ⟨pl, 0, none⟩)) ∧ w7.rangeAt J 0 (idc id)) ∧ Step (foot p mb L G) (StAt p q (ents L ++ [(id, body)]) P) w3 w7 := by
  have hp := h.hp
  have hpm := h.p_mb
  have hgp : ¬ G p := fun hg => (h.apart p hg).1 rfl
  have hlt := h.lt
  have t4 : Turns nobody w3 W4 := by rw [hW4]; exact (Turns.refl _ _).drew.alloc _
  have hb4 : W4.heap[w3.heap.size]? = some (.cells (hcs body false) 77 (0, 0)) := by rw [hW4]; exact heap_alloc_new w3.drew _
  refine ⟨h.map.keep t4 (fun h => h), keys_hmap h.wh h.ndi, look_hmap_no hno, fun w5 h5 t5 => ?_⟩
  have t35 : Turns (fun i => i = mb) w3 w5 := (t4.mono (fun _ h => h.elim)).trans t5 (fun _ h => Or.inl h)
  have hp5 := heap_newer hp t35 hpm
  refine ⟨cells_of hp5 2 _ rfl, free_of hp5 2, ?_⟩
  rintro W6 rfl
  have hp6 : (w5.setCell ⟨p, 2, none⟩ (.int .i64 ((sz (ents L) : Int) + (body.size : Int)))).drew.heap[p]? = _ := heap_setCell_at hp5 2 (.int .i64 ((sz (ents L) : Int) + (body.size : Int)))
  have t56 : Turns (fun i => i = p) w5 (w5.setCell ⟨p, 2, none⟩ (.int .i64 ((sz (ents L) : Int) + (body.size : Int)))).drew := ((Turns.refl (fun i => i = p) _).setCell _ _ _ (Or.inl rfl)).drew
  have t36 : Turns (fun i => i = p ∨ i = mb) w3 (w5.setCell ⟨p, 2, none⟩ (.int .i64 ((sz (ents L) : Int) + (body.size : Int)))).drew := (t35.mono (fun _ h => Or.inl (Or.inr h))).trans t56 (fun _ h => Or.inl (Or.inl h))
  have hJp : J ≠ p := fun e => hJn (Or.inl e)
  have hJm : J ≠ mb := fun e => hJn (Or.inr (Or.inl e))
  have hJG : ¬ G J := fun e => hJn (Or.inr (Or.inr (Or.inl e)))
  have hJ6 := heap_newer hJ t36 (fun e => by rcases e with e | e; exact hJp e; exact hJm e)
  have rg : ∀ {W : World}, W.heap[J]? = some (.cells (idc id).toArray 31 (0, 0)) → W.rangeAt J 0 (idc id) := fun hW => by have := range_block hW; rwa [List.toList_toArray] at this
  refine ⟨⟨cells_of hp6 0 _ rfl, rg hJ6⟩, ?_⟩
  have hl6 := (local_lrux _ _).keep h.lru t36 (fun i hi e => by rcases e with e | e; exact (h.apart i hi).1 e; exact (h.apart i hi).2.1 e)
  refine (use_x hl6 id hid).mono fun e w7 ⟨he, hs⟩ => ⟨he, ⟨cells_of (heap_newer hp6 hs.turned hgp) 0 _ rfl, rg (heap_newer hJ6 hs.turned hJG)⟩, ?_⟩
  refine h.put hno hnp (b := w3.heap.size) (Nat.le_refl _) ?_ ?_ ?_ t36 hs
  · have h1 := heap_newer hb4 t5 (fun e => by have := h.map.lt; omega)
    exact heap_newer h1 t56 (fun e => by have := lt_of_block hp; omega)
  · refine Eq.trans hp6 ?_
    simp [scs]
  · exact h5.keep t56 (fun e => hpm e.symm)

set_option maxRecDepth 10000 in
set_option maxHeartbeats 400000 in
theorem put_bad {p pl mb q : Nat} {L : List Hd} {P : List (List Int)} {G : Nat → Prop} {w : World} (h : StC p pl mb q L P G w) (body : ByteArray) (hb : body.size ≤ 1000000) (he : checkE body ≠ 0) :
    Calls Tryd.prog 10 #[.pointer (some ⟨p, 0, none⟩), .string body] w fun e w' => e = .returned (.tuple #[.agg (idc zid).toArray, .int .i64 (checkE body)]) ∧ Turns nobody w w' := by
  obtain ⟨wa, hwa⟩ : ∃ wa, wa = w.alloc (.cells #[.int .u8 0, .int .u8 0, .int .u8 0, .int .u8 0, .int .u8 0, .int .u8 0, .int .u8 0, .int .u8 0, .int .u8 0, .int .u8 0, .int .u8 0, .int .u8 0, .int .u8 0, .int .u8 0, .int .u8 0, .int .u8 0, .int .u8 0, .int .u8 0, .int .u8 0, .int .u8 0, .int .u8 0, .int .u8 0, .int .u8 0, .int .u8 0, .int .u8 0, .int .u8 0, .int .u8 0, .int .u8 0, .int .u8 0, .int .u8 0, .int .u8 0, .int .u8 0] 31) := ⟨_, rfl⟩
  have ta : Turns nobody w wa := by rw [hwa]; exact (Turns.refl _ _).alloc _
  obtain ⟨B, hB⟩ : ∃ B, w.heap.size = B := ⟨_, rfl⟩
  have hr : wa.heap[B]? = some (.cells (idc (List.replicate 32 0)).toArray 31 (0, 0)) := by rw [hwa, ← hB]; exact new32 w
  have ha := h.still ta
  have c4 : wa.cell? ⟨p, 4, none⟩ = some (.map (some mb)) := cells_of ha.hp 4 _ rfl
  have HWA := Lib.hid hwa
  have HTA := Lib.hid ta
  have HR := Lib.hid hr
  have HBB := Lib.hid hB
  have hck := check_any body (by omega)
  have hne : ((checkE body : Int) != 0) = true := by simpa using he
  have NL := Lib.hid (zid_size zid zid_len)
  have SZ := Lib.hid (sizeId zid_len)
  have HBZ := Lib.hid build_zero
  have hzl := zid_len
  generalize checkE body = E at *
  clear hwa ta hr ha h hB he
  generalize zid = z0 at *
  go_enter Tryd.func10, Tryd.ntmps10
  go_upto_region 1 with fail
  rw [← HWA.out, HBB.out]
  go_wp2_with first
    | (go_at_call 32; refine (none_no _ _ _ c4).mono ?_; rintro e w' ⟨rfl, rfl⟩)
    | (go_at_call 33; refine (hck _).mono ?_; rintro e w' ⟨rfl, rfl⟩)
    | (with_reducible refine wpList_exec (exec_build _ _ rfl #[] (by kernel_rfl) (HBZ.out _)) (by first | rfl | go_simp) ?_)
    | (refine wpList_putc rfl _ _ _ rfl (idc z0) HR.out NL.out (idc_one _) rfl rfl SZ.out ?_; intro w9 t9 a9 z9)
  refine bodyPost_ret (results_id rfl _ _ rfl rfl (range_of a9) hzl) rfl ?_
  exact ⟨rfl, HTA.out.trans t9 (fun i hi => Or.inr (by have := HBB.out; omega))⟩

set_option maxRecDepth 10000 in
set_option maxHeartbeats 400000 in
theorem put_old {p pl mb q : Nat} {L : List Hd} {P : List (List Int)} {G : Nat → Prop} {w : World} (h : StC p pl mb q L P G w) (htab : Tabs w) (body : ByteArray) (hb : body.size ≤ 1000000) (he : checkE body = 0) {id : List Int} (hsid : sha.sum body.data.toList = id) (hm : id ∈ ids (ents L)) :
    Calls Tryd.prog 10 #[.pointer (some ⟨p, 0, none⟩), .string body] w fun e w' => e = .returned (.tuple #[.agg (idc id).toArray, .int .i64 0]) ∧ Turns nobody w w' := by
  obtain ⟨wa, hwa⟩ : ∃ wa, wa = w.alloc (.cells #[.int .u8 0, .int .u8 0, .int .u8 0, .int .u8 0, .int .u8 0, .int .u8 0, .int .u8 0, .int .u8 0, .int .u8 0, .int .u8 0, .int .u8 0, .int .u8 0, .int .u8 0, .int .u8 0, .int .u8 0, .int .u8 0, .int .u8 0, .int .u8 0, .int .u8 0, .int .u8 0, .int .u8 0, .int .u8 0, .int .u8 0, .int .u8 0, .int .u8 0, .int .u8 0, .int .u8 0, .int .u8 0, .int .u8 0, .int .u8 0, .int .u8 0, .int .u8 0] 31) := ⟨_, rfl⟩
  have ta : Turns nobody w wa := by rw [hwa]; exact (Turns.refl _ _).alloc _
  obtain ⟨B, hB⟩ : ∃ B, w.heap.size = B := ⟨_, rfl⟩
  have hr : wa.heap[B]? = some (.cells (idc (List.replicate 32 0)).toArray 31 (0, 0)) := by rw [hwa, ← hB]; exact new32 w
  have ha := h.still ta
  have c4 : wa.cell? ⟨p, 4, none⟩ = some (.map (some mb)) := cells_of ha.hp 4 _ rfl
  have HWA := Lib.hid hwa
  have HTA := Lib.hid ta
  have HR := Lib.hid hr
  have HBB := Lib.hid hB
  have hck := check_any body (by omega)
  rw [he] at hck
  have hsum : Calls Tryd.prog 34 #[.string body] wa fun e w' => e = .returned (.agg (idc id).toArray) ∧ Turns nobody wa w' := by rw [← hsid]; exact sha.text_any body wa hb (htab.turns ta ⟨fun h => h, fun h => h⟩)
  have hid : id.length = 32 := by rw [← hsid]; exact sha.sum_len _
  have NI := Lib.hid (zid_size id hid)
  have SI := Lib.hid (sizeId hid)
  have HC2 : Hid (∀ w2, Turns nobody wa w2 → StC p pl mb q L P G w2 ∧ Calls Tryd.prog 25 #[.pointer (some ⟨p, 0, none⟩), .agg (idc id).toArray] w2 fun e w' => e = .returned (.bool true) ∧ Turns nobody w2 w') := Lib.hid fun w2 t => by
    have := has_any (ha.still t) hid
    rw [decide_eq_true hm] at this
    exact ⟨ha.still t, this⟩
  clear hwa ta hr ha h hB he hm hsid htab
  go_enter Tryd.func10, Tryd.ntmps10
  go_upto_region 1 with fail
  rw [← HWA.out, HBB.out]
  go_upto_region 7 with first
    | (go_at_call 32; refine (none_no _ _ _ c4).mono ?_; rintro e w' ⟨rfl, rfl⟩)
    | (go_at_call 33; refine (hck _).mono ?_; rintro e w' ⟨rfl, rfl⟩)
    | (go_at_call 34; refine hsum.mono ?_; rintro e w1 ⟨rfl, t1⟩; have HT1 := Lib.hid t1; have HJ1 := Lib.hid (new32 w1); clear t1)
    | (refine wpList_putc rfl _ _ _ rfl (idc id) HJ1.out NI.out (idc_one _) rfl rfl SI.out ?_; intro w2 t2 a2 z2)
  have t12 : Turns nobody wa w2 := (HT1.out.alloc _).trans t2 (fun i hi => Or.inr (by have := HT1.out.size; omega))
  obtain ⟨J, hJ⟩ : ∃ J, w1.heap.size = J := ⟨_, rfl⟩
  rw [hJ] at a2 ⊢
  have hJB : B < J := by have := HT1.out.size; have := lt_of_block HR.out; omega
  have hBB : w.heap.size ≤ J := by have := HT1.out.size; have := HTA.out.size; omega
  obtain ⟨hh2, hhas⟩ := HC2.out w2 t12
  have HT12 := Lib.hid t12
  have HJ2 := Lib.hid a2
  have HS2 := Lib.hid hh2
  have HJB := Lib.hid hJB
  have HBJ := Lib.hid hBB
  have RJ := Lib.hid (range_of a2)
  clear t12 t2 a2 z2 hJ hh2 hJB hBB hsum hck
  go_wp2_with first
    | (with_reducible refine wpList_load_mid rfl _ _ rfl _ _ rfl _ _ RJ.out Tryd.underlying31 rfl SI.out ?_)
    | (go_at_call 25; refine hhas.mono ?_; rintro e w3 ⟨rfl, t3⟩; have HT3 := Lib.hid t3; have RJ3 := Lib.hid (range_of (heap_newer HJ2.out t3 (fun h => h))); clear t3)
    | (with_reducible refine wpList_load_mid rfl _ _ rfl _ _ rfl _ _ RJ3.out Tryd.underlying31 rfl SI.out ?_)
    | (refine wpList_putc rfl _ _ _ rfl (idc id) (heap_newer (heap_newer HR.out HT12.out (fun h => h)) HT3.out (fun h => h)) NI.out (idc_one _) rfl rfl SI.out ?_; intro w9 t9 a9 z9)
  refine bodyPost_ret (results_id rfl _ _ rfl rfl (range_of a9) hid) rfl ?_
  exact ⟨rfl, ((HTA.out.trans HT12.out (fun _ h => h.elim)).trans HT3.out (fun _ h => h.elim)).trans t9 (fun i hi => Or.inr (by have := HBB.out; omega))⟩

set_option maxRecDepth 10000 in
set_option maxHeartbeats 400000 in
theorem put_full {p pl mb q : Nat} {L : List Hd} {P : List (List Int)} {G : Nat → Prop} {w : World} (h : StC p pl mb q L P G w) (htab : Tabs w) (hq : q ≤ 4096) (hsz : sz (ents L) ≤ q) (body : ByteArray) (hb : body.size ≤ 1000000) (he : checkE body = 0) {id : List Int} (hsid : sha.sum body.data.toList = id) (hm : id ∉ ids (ents L)) (hf : ¬ (body.size : Int) ≤ (q : Int) - sz (ents L)) :
    Calls Tryd.prog 10 #[.pointer (some ⟨p, 0, none⟩), .string body] w fun e w' => e = .returned (.tuple #[.agg (idc zid).toArray, .int .i64 14]) ∧ Turns nobody w w' := by
  obtain ⟨wa, hwa⟩ : ∃ wa, wa = w.alloc (.cells #[.int .u8 0, .int .u8 0, .int .u8 0, .int .u8 0, .int .u8 0, .int .u8 0, .int .u8 0, .int .u8 0, .int .u8 0, .int .u8 0, .int .u8 0, .int .u8 0, .int .u8 0, .int .u8 0, .int .u8 0, .int .u8 0, .int .u8 0, .int .u8 0, .int .u8 0, .int .u8 0, .int .u8 0, .int .u8 0, .int .u8 0, .int .u8 0, .int .u8 0, .int .u8 0, .int .u8 0, .int .u8 0, .int .u8 0, .int .u8 0, .int .u8 0, .int .u8 0] 31) := ⟨_, rfl⟩
  have ta : Turns nobody w wa := by rw [hwa]; exact (Turns.refl _ _).alloc _
  obtain ⟨B, hB⟩ : ∃ B, w.heap.size = B := ⟨_, rfl⟩
  have hr : wa.heap[B]? = some (.cells (idc (List.replicate 32 0)).toArray 31 (0, 0)) := by rw [hwa, ← hB]; exact new32 w
  have ha := h.still ta
  have c4 : wa.cell? ⟨p, 4, none⟩ = some (.map (some mb)) := cells_of ha.hp 4 _ rfl
  have HWA := Lib.hid hwa
  have HTA := Lib.hid ta
  have HR := Lib.hid hr
  have HBB := Lib.hid hB
  have hck := check_any body (by omega)
  rw [he] at hck
  have hsum : Calls Tryd.prog 34 #[.string body] wa fun e w' => e = .returned (.agg (idc id).toArray) ∧ Turns nobody wa w' := by rw [← hsid]; exact sha.text_any body wa hb (htab.turns ta ⟨fun h => h, fun h => h⟩)
  have hid : id.length = 32 := by rw [← hsid]; exact sha.sum_len _
  have NI := Lib.hid (zid_size id hid)
  have SI := Lib.hid (sizeId hid)
  have HC2 : Hid (∀ w2, Turns nobody wa w2 → StC p pl mb q L P G w2 ∧ Calls Tryd.prog 25 #[.pointer (some ⟨p, 0, none⟩), .agg (idc id).toArray] w2 fun e w' => e = .returned (.bool false) ∧ Turns nobody w2 w') := Lib.hid fun w2 t => by
    have := has_any (ha.still t) hid
    rw [decide_eq_false hm] at this
    exact ⟨ha.still t, this⟩
  have HFIT : Hid (∀ W, StC p pl mb q L P G W → W.cell? ⟨p, 2, none⟩ = some (.int .i64 (sz (ents L) : Int)) ∧ Calls Tryd.prog 35 #[.pointer (some ⟨p, 0, none⟩), .int .i64 (sz (ents L) : Int), .int .i64 (body.size : Int)] W fun e w' => e = .returned (.bool false) ∧ W = w') := Lib.hid fun W hW => by
    have := fits_any p q (sz (ents L)) (body.size : Int) W (cells_of hW.hp 1 _ rfl) hq (by omega)
    rw [decide_eq_false hf] at this
    exact ⟨cells_of hW.hp 2 _ rfl, this⟩
  have NL := Lib.hid (zid_size zid zid_len)
  have SZ := Lib.hid (sizeId zid_len)
  have HBZ := Lib.hid build_zero
  have hzl := zid_len
  clear hwa ta hr ha h hB he hm hsid htab hf hq hsz
  generalize zid = z0 at *
  go_enter Tryd.func10, Tryd.ntmps10
  go_upto_region 1 with fail
  rw [← HWA.out, HBB.out]
  go_upto_region 7 with first
    | (go_at_call 32; refine (none_no _ _ _ c4).mono ?_; rintro e w' ⟨rfl, rfl⟩)
    | (go_at_call 33; refine (hck _).mono ?_; rintro e w' ⟨rfl, rfl⟩)
    | (go_at_call 34; refine hsum.mono ?_; rintro e w1 ⟨rfl, t1⟩; have HT1 := Lib.hid t1; have HJ1 := Lib.hid (new32 w1); clear t1)
    | (refine wpList_putc rfl _ _ _ rfl (idc id) HJ1.out NI.out (idc_one _) rfl rfl SI.out ?_; intro w2 t2 a2 z2)
  have t12 : Turns nobody wa w2 := (HT1.out.alloc _).trans t2 (fun i hi => Or.inr (by have := HT1.out.size; omega))
  obtain ⟨J, hJ⟩ : ∃ J, w1.heap.size = J := ⟨_, rfl⟩
  rw [hJ] at a2 ⊢
  have hJB : B < J := by have := HT1.out.size; have := lt_of_block HR.out; omega
  have hBB : w.heap.size ≤ J := by have := HT1.out.size; have := HTA.out.size; omega
  obtain ⟨hh2, hhas⟩ := HC2.out w2 t12
  have HT12 := Lib.hid t12
  have HJ2 := Lib.hid a2
  have HS2 := Lib.hid hh2
  have HJB := Lib.hid hJB
  have HBJ := Lib.hid hBB
  have RJ := Lib.hid (range_of a2)
  clear t12 t2 a2 z2 hJ hh2 hJB hBB hsum hck
  go_wp2_with first
    | (with_reducible refine wpList_load_mid rfl _ _ rfl _ _ rfl _ _ RJ.out Tryd.underlying31 rfl SI.out ?_)
    | (go_at_call 25; refine hhas.mono ?_; rintro e w3 ⟨rfl, t3⟩; have HT3 := Lib.hid t3; obtain ⟨d2, hfit⟩ := HFIT.out w3 (HS2.out.still t3); clear t3)
    | (go_at_call 35; refine hfit.mono ?_; rintro e w' ⟨rfl, rfl⟩)
    | (with_reducible refine wpList_exec (exec_build _ _ rfl #[] (by kernel_rfl) (HBZ.out _)) (by first | rfl | go_simp) ?_)
    | (refine wpList_putc rfl _ _ _ rfl (idc z0) (heap_newer (heap_newer HR.out HT12.out (fun h => h)) HT3.out (fun h => h)) NL.out (idc_one _) rfl rfl SZ.out ?_; intro w9 t9 a9 z9)
  refine bodyPost_ret (results_id rfl _ _ rfl rfl (range_of a9) hzl) rfl ?_
  exact ⟨rfl, ((HTA.out.trans HT12.out (fun _ h => h.elim)).trans HT3.out (fun _ h => h.elim)).trans t9 (fun i hi => Or.inr (by have := HBB.out; omega))⟩

set_option maxRecDepth 10000 in
set_option maxHeartbeats 1000000 in
theorem put_new {p pl mb q : Nat} {L : List Hd} {P : List (List Int)} {G : Nat → Prop} {w : World} (h : StC p pl mb q L P G w) (htab : Tabs w) (hq : q ≤ 4096) (hsz : sz (ents L) ≤ q) (body : ByteArray) (hb : body.size ≤ 1000000) (he : checkE body = 0) {id : List Int} (hsid : sha.sum body.data.toList = id) (hm : id ∉ ids (ents L)) (hnp : id ∉ P) (hf : (body.size : Int) ≤ (q : Int) - sz (ents L)) :
    Calls Tryd.prog 10 #[.pointer (some ⟨p, 0, none⟩), .string body] w fun e w' => e = .returned (.tuple #[.agg (idc id).toArray, .int .i64 0]) ∧ Step (foot p mb L G) (StAt p q (ents L ++ [(id, body)]) P) w w' := by
  obtain ⟨wa, hwa⟩ : ∃ wa, wa = w.alloc (.cells #[.int .u8 0, .int .u8 0, .int .u8 0, .int .u8 0, .int .u8 0, .int .u8 0, .int .u8 0, .int .u8 0, .int .u8 0, .int .u8 0, .int .u8 0, .int .u8 0, .int .u8 0, .int .u8 0, .int .u8 0, .int .u8 0, .int .u8 0, .int .u8 0, .int .u8 0, .int .u8 0, .int .u8 0, .int .u8 0, .int .u8 0, .int .u8 0, .int .u8 0, .int .u8 0, .int .u8 0, .int .u8 0, .int .u8 0, .int .u8 0, .int .u8 0, .int .u8 0] 31) := ⟨_, rfl⟩
  have ta : Turns nobody w wa := by rw [hwa]; exact (Turns.refl _ _).alloc _
  obtain ⟨B, hB⟩ : ∃ B, w.heap.size = B := ⟨_, rfl⟩
  have hr : wa.heap[B]? = some (.cells (idc (List.replicate 32 0)).toArray 31 (0, 0)) := by rw [hwa, ← hB]; exact new32 w
  have ha := h.still ta
  have c4 : wa.cell? ⟨p, 4, none⟩ = some (.map (some mb)) := cells_of ha.hp 4 _ rfl
  have HWA := Lib.hid hwa
  have HTA := Lib.hid ta
  have HR := Lib.hid hr
  have HBB := Lib.hid hB
  have hck := check_any body (by omega)
  rw [he] at hck
  have hsum : Calls Tryd.prog 34 #[.string body] wa fun e w' => e = .returned (.agg (idc id).toArray) ∧ Turns nobody wa w' := by rw [← hsid]; exact sha.text_any body wa hb (htab.turns ta ⟨fun h => h, fun h => h⟩)
  have hid : id.length = 32 := by rw [← hsid]; exact sha.sum_len _
  have NI := Lib.hid (zid_size id hid)
  have SI := Lib.hid (sizeId hid)
  have HC2 : Hid (∀ w2, Turns nobody wa w2 → StC p pl mb q L P G w2 ∧ Calls Tryd.prog 25 #[.pointer (some ⟨p, 0, none⟩), .agg (idc id).toArray] w2 fun e w' => e = .returned (.bool false) ∧ Turns nobody w2 w') := Lib.hid fun w2 t => by
    have := has_any (ha.still t) hid
    rw [decide_eq_false hm] at this
    exact ⟨ha.still t, this⟩
  have HFIT : Hid (∀ W, StC p pl mb q L P G W → W.cell? ⟨p, 2, none⟩ = some (.int .i64 (sz (ents L) : Int)) ∧ Calls Tryd.prog 35 #[.pointer (some ⟨p, 0, none⟩), .int .i64 (sz (ents L) : Int), .int .i64 (body.size : Int)] W fun e w' => e = .returned (.bool true) ∧ W = w') := Lib.hid fun W hW => by
    have := fits_any p q (sz (ents L)) (body.size : Int) W (cells_of hW.hp 1 _ rfl) hq (by omega)
    rw [decide_eq_true hf] at this
    exact ⟨cells_of hW.hp 2 _ rfl, this⟩
  have HLT : Hid (∀ i, foot p mb L G i → i < w.heap.size) := Lib.hid h.lt
  have HTAIL : Hid (∀ (w3 : World) (J : Nat), StC p pl mb q L P G w3 → w3.heap[J]? = some (.cells (idc id).toArray 31 (0, 0)) → w.heap.size ≤ J → _) := Lib.hid fun w3 J h3 hJ hwJ => put_tail h3 hid hm hnp body hJ (foot_new h.lt hwJ) rfl
  have HC4 : Hid (∀ W, StC p pl mb q L P G W → W.cell? ⟨p, 4, none⟩ = some (.map (some mb))) := Lib.hid fun W hW => cells_of hW.hp 4 _ rfl
  have hsb : (sz (ents L) : Int) + (body.size : Int) ≤ 4096 := by omega
  have hsb0 : (0 : Int) ≤ (sz (ents L) : Int) := by omega
  have HBH := Lib.hid (build_held body)
  clear hwa ta hr ha h hB he hm hsid htab hf hq hsz hnp
  obtain ⟨sn, hsn⟩ : ∃ sn, (sz (ents L) : Int) = sn := ⟨_, rfl⟩
  rw [hsn] at HFIT HTAIL hsb hsb0
  clear hsn
  go_enter Tryd.func10, Tryd.ntmps10
  go_upto_region 1 with fail
  rw [← HWA.out, HBB.out]
  go_upto_region 7 with first
    | (go_at_call 32; refine (none_no _ _ _ c4).mono ?_; rintro e w' ⟨rfl, rfl⟩)
    | (go_at_call 33; refine (hck _).mono ?_; rintro e w' ⟨rfl, rfl⟩)
    | (go_at_call 34; refine hsum.mono ?_; rintro e w1 ⟨rfl, t1⟩; have HT1 := Lib.hid t1; have HJ1 := Lib.hid (new32 w1); clear t1)
    | (refine wpList_putc rfl _ _ _ rfl (idc id) HJ1.out NI.out (idc_one _) rfl rfl SI.out ?_; intro w2 t2 a2 z2)
  have t12 : Turns nobody wa w2 := (HT1.out.alloc _).trans t2 (fun i hi => Or.inr (by have := HT1.out.size; omega))
  obtain ⟨J, hJ⟩ : ∃ J, w1.heap.size = J := ⟨_, rfl⟩
  rw [hJ] at a2 ⊢
  have hJB : B < J := by have := HT1.out.size; have := lt_of_block HR.out; omega
  have hBB : w.heap.size ≤ J := by have := HT1.out.size; have := HTA.out.size; omega
  obtain ⟨hh2, hhas⟩ := HC2.out w2 t12
  have HT12 := Lib.hid t12
  have HJ2 := Lib.hid a2
  have HS2 := Lib.hid hh2
  have HJB := Lib.hid hJB
  have HBJ := Lib.hid hBB
  have RJ := Lib.hid (range_of a2)
  clear t12 t2 a2 z2 hJ hh2 hJB hBB hsum hck
  go_upto_region 11 with first
    | (with_reducible refine wpList_load_mid rfl _ _ rfl _ _ rfl _ _ RJ.out Tryd.underlying31 rfl SI.out ?_)
    | (go_at_call 25; refine hhas.mono ?_; rintro e w3 ⟨rfl, t3⟩; have HT3 := Lib.hid t3; have HS3 := Lib.hid (HS2.out.still t3); obtain ⟨d2, hfit⟩ := HFIT.out w3 HS3.out; clear t3)
    | (go_at_call 35; refine hfit.mono ?_; rintro e w' ⟨rfl, rfl⟩)
  have HJ3 := Lib.hid (heap_newer HJ2.out HT3.out (fun h => h))
  obtain ⟨hm4, hk4, hl4, hrest⟩ := HTAIL.out w3 J HS3.out HJ3.out HBJ.out
  have HM4 := Lib.hid hm4
  have HK4 := Lib.hid hk4
  have HL4 := Lib.hid hl4
  have HREST := Lib.hid hrest
  have RJ3 : Hid (w3.drew.rangeAt J 0 (idc id)) := Lib.hid (range_of (w := w3.drew) HJ3.out)
  have c4 : w3.drew.cell? ⟨p, 4, none⟩ = some (.map (some mb)) := HC4.out w3 HS3.out
  clear hm4 hk4 hl4 hrest d2 hfit hhas
  refine wp_region_fork [0, 1, 2, 3, 4, 5, 6] [0, 1, 2, 3, 4, 5, 6, 7] (Plan.ofList [0, 1, 2, 3, 4, 5, 6, 7, 8] .done) (fun W => W.cell? ⟨p, 4, none⟩ = some (.map (some mb)) ∧ W.rangeAt J 0 (idc id)) (by kernel_rfl) (by kernel_rfl) (⟨c4, RJ3.out⟩) ?_
  simp -failIfUnchanged only [Plan.pick, Plan.ofList, isIn, List.contains_cons, List.contains_nil, Nat.reduceBEq, Bool.or_false, Bool.false_or, Bool.or_true, Bool.true_or, cond_true, cond_false, Array.getD_eq_getD_getElem?, List.getElem?_toArray, List.getElem?_cons_zero, List.getElem?_cons_succ, Option.getD_some]
  iterate 4 (refine plan_free (v := ?_) rfl ?_ ?_; rotate_left; (focus (intro w' hI; obtain ⟨z1, z2⟩ := hI; go_simp; try with_reducible rfl)); simp only [Act.put, List.setIfInBounds_toArray, List.set_cons_zero, List.set_cons_succ])
  refine plan_free (v := .agg (idc id).toArray) rfl (fun w' hI => exec_load_mid _ _ rfl _ _ rfl (idc id) _ hI.2 Tryd.underlying31 rfl SI.out) ?_
  simp only [Act.put, List.setIfInBounds_toArray, List.set_cons_zero, List.set_cons_succ]
  iterate 2 (refine plan_free (v := ?_) rfl ?_ ?_; rotate_left; (focus (intro w' hI; obtain ⟨z1, z2⟩ := hI; go_simp; try with_reducible rfl)); simp only [Act.put, List.setIfInBounds_toArray, List.set_cons_zero, List.set_cons_succ])
  have hI4 : ∀ o, (w3.drew.alloc o).cell? ⟨p, 4, none⟩ = some (.map (some mb)) ∧ (w3.drew.alloc o).rangeAt J 0 (idc id) := fun o => ⟨HC4.out (w3.drew.alloc o) (HS3.out.still ((Turns.refl _ _).drew.alloc o)), range_keep RJ3.out ((Turns.refl _ _).alloc o)⟩
  have HI4 := Lib.hid hI4
  clear hI4
  refine plan_big (bigC_mk rfl (fun K hK => ?_))
  go_wp2
  refine hK _ _ (fun _ => HI4.out _) ?_
  clear hK K
  refine plan_big (bigC_mk rfl (fun K hK => ?_))
  refine wpList_insert rfl _ _ _ rfl Tryd.underlying59 id _ rfl rfl rfl HM4.out HK4.out hid HL4.out (fun w5 h5 t5 => ?_)
  obtain ⟨e2, f2, hrest⟩ := HREST.out w5 h5 t5
  have HREST6 := Lib.hid hrest
  clear h5 t5 hrest c4
  go_wp2
  refine hK _ _ (fun h => by cases h) ?_
  clear hK K
  refine plan_done ?_
  go_upto_region 13 with fail
  obtain ⟨hI0, hcall⟩ := HREST6.out _ rfl
  clear e2 f2
  refine wp_region_mix [(0, true, true), (1, true, true), (2, true, true), (3, true, true), (4, true, true), (5, false, false)] (fun W => W.cell? ⟨p, 0, none⟩ = some (.pointer (some ⟨pl, 0, none⟩)) ∧ W.rangeAt J 0 (idc id)) (by kernel_rfl) (by kernel_rfl) (hI0) ?_
  simp only [picked, List.filterMap_cons, List.filterMap_nil, List.getElem?_toArray, List.getElem?_cons_zero, List.getElem?_cons_succ, Option.map_some]
  iterate 4 (refine mix_free (v := ?_) rfl ?_ ?_; rotate_left; (focus (intro w' hI; obtain ⟨z1, z2⟩ := hI; go_simp; try with_reducible rfl)); simp only [Act.put, List.setIfInBounds_toArray, List.set_cons_zero, List.set_cons_succ])
  refine mix_free (v := .agg (idc id).toArray) rfl (fun w' hI => exec_load_mid _ _ rfl _ _ rfl (idc id) _ hI.2 Tryd.underlying31 rfl SI.out) ?_
  simp only [Act.put, List.setIfInBounds_toArray, List.set_cons_zero, List.set_cons_succ]
  refine mix_big rfl (fun K hK => ?_)
  go_wp2_with (go_at_call 36; refine hcall.mono ?_; rintro e w7 ⟨rfl, ⟨_, r7⟩, hE⟩)
  have R7 := Lib.hid r7
  have HE := Lib.hid hE
  refine hK _ _ (fun h => by cases h) ?_
  clear hK K hI0 hcall r7 hE
  refine mix_nil ?_
  have HFB : ¬ foot p mb L G B := fun hf => by have := HLT.out B hf; have := HBB.out; omega
  have HR7 := Lib.hid (heap_newer (heap_newer (heap_newer HR.out HT12.out (fun h => h)) HT3.out (fun h => h)) HE.out.turned HFB)
  go_wp2_with first
    | (with_reducible refine wpList_load_mid rfl _ _ rfl _ _ rfl _ _ R7.out Tryd.underlying31 rfl SI.out ?_)
    | (refine wpList_putc rfl _ _ _ rfl (idc id) HR7.out NI.out (idc_one _) rfl rfl SI.out ?_; intro w9 t9 a9 z9)
  refine bodyPost_ret (results_id rfl _ _ rfl rfl (range_of a9) hid) rfl ?_
  have t03 : Turns nobody w w3 := (HTA.out.trans HT12.out (fun _ h => h.elim)).trans HT3.out (fun _ h => h.elim)
  refine ⟨rfl, HE.out.aside (local_st _ _ _ _) t03 t9 (fun i hi => ⟨by have := HBB.out; omega, ?_, by rw [hi]; exact HFB⟩)⟩
  have := lt_of_block (heap_newer (heap_newer HR.out HT12.out (fun h => h)) HT3.out (fun h => h))
  omega

end Go.Proofs.YtjnplcajajdkiaaDoor.store

/- The reference's store: the object in memory. -/
namespace Go.Proofs.YtjnplcajajdkiaaDoor.store
open Go.RowKit
open Go.Proofs.YtjnplcajajdkiaaDoor.stepkit Go.Proofs.YtjnplcajajdkiaaDoor.eqkit Go.Proofs.YtjnplcajajdkiaaDoor.idkit Go.Proofs.YtjnplcajajdkiaaDoor.obj Go.Proofs.YtjnplcajajdkiaaDoor.row Go.Proofs.YtjnplcajajdkiaaDoor.mapkit Go.Proofs.YtjnplcajajdkiaaDoor.mix Go.Proofs.YtjnplcajajdkiaaDoor.lru

/-- A slice of texts. -/
def SSl (w : World) (v : Value) (l : List ByteArray) : Prop := Sl w 9 1 v l.length (l.map Value.string)
def rcs (q : Int) (v1 v2 v3 : Value) : Array Value := #[.int .i64 q, v1, v2, v3]
structure RefC (X : Nat) (q : Int) (x : List (List Int)) (l : List ByteArray) (P : List (List Int)) (v1 v2 v3 : Value) (w : World) : Prop where
  hp : w.heap[X]? = some (.cells (rcs q v1 v2 v3) 47 (0, 0))
  s1 : ISl w v1 x
  s2 : SSl w v2 l
  s3 : ISl w v3 P
def rfoot (X : Nat) (v1 v2 v3 : Value) : Nat → Prop := fun i => i = X ∨ blk v1 i ∨ blk v2 i ∨ blk v3 i
def RefAt (X : Nat) (q : Int) (E : Held) (P : List (List Int)) : (Nat → Prop) → World → Prop := fun G w => ∃ v1 v2 v3, RefC X q (ids E) (bodies E) P v1 v2 v3 w ∧ G = rfoot X v1 v2 v3

section
variable {X : Nat} {q : Int} {x : List (List Int)} {l : List ByteArray} {P : List (List Int)} {v1 v2 v3 : Value} {w w' : World}
theorem ISl.elem' {v : Value} {l : List (List Int)} (h : ISl w v l) : ∀ i, blk v i → ∃ c, w.heap[i]? = some (.cells c 31 (0, 0)) := fun i hi => by
  obtain ⟨_, ⟨rfl, _⟩ | ⟨g, o, cap, cur, rfl, hh, _⟩⟩ := (show Sl _ _ _ _ _ _ from h)
  · cases hi
  · simp only [blk, Value.ownBlock, Option.some.injEq] at hi
    subst hi
    exact ⟨_, hh⟩
theorem SSl.elem' {v : Value} {l : List ByteArray} (h : SSl w v l) : ∀ i, blk v i → ∃ c, w.heap[i]? = some (.cells c 9 (0, 0)) := fun i hi => by
  obtain ⟨_, ⟨rfl, _⟩ | ⟨g, o, cap, cur, rfl, hh, _⟩⟩ := (show Sl _ _ _ _ _ _ from h)
  · cases hi
  · simp only [blk, Value.ownBlock, Option.some.injEq] at hi
    subst hi
    exact ⟨_, hh⟩
theorem RefC.not1 (h : RefC X q x l P v1 v2 v3 w) : ∀ i, blk v1 i → i ≠ X := fun i hi e => by
  obtain ⟨c, hc⟩ := ISl.elem' h.s1 i hi
  rw [e, h.hp] at hc
  simp at hc
theorem RefC.not2 (h : RefC X q x l P v1 v2 v3 w) : ∀ i, blk v2 i → i ≠ X := fun i hi e => by
  obtain ⟨c, hc⟩ := SSl.elem' h.s2 i hi
  rw [e, h.hp] at hc
  simp at hc
theorem RefC.not3 (h : RefC X q x l P v1 v2 v3 w) : ∀ i, blk v3 i → i ≠ X := fun i hi e => by
  obtain ⟨c, hc⟩ := ISl.elem' h.s3 i hi
  rw [e, h.hp] at hc
  simp at hc
theorem RefC.still (h : RefC X q x l P v1 v2 v3 w) (ht : Turns nobody w w') : RefC X q x l P v1 v2 v3 w' :=
  ⟨heap_newer h.hp ht (fun h => h), Sl.keep h.s1 ht (fun _ _ h => h), Sl.keep h.s2 ht (fun _ _ h => h), Sl.keep h.s3 ht (fun _ _ h => h)⟩
theorem RefC.lt (h : RefC X q x l P v1 v2 v3 w) : ∀ i, rfoot X v1 v2 v3 i → i < w.heap.size := by
  rintro i (rfl | hi | hi | hi)
  · exact lt_of_block h.hp
  · exact (show Sl _ _ _ _ _ _ from h.s1).lt i hi
  · exact (show Sl _ _ _ _ _ _ from h.s2).lt i hi
  · exact (show Sl _ _ _ _ _ _ from h.s3).lt i hi
theorem local_ref (X : Nat) (q : Int) (E : Held) (P : List (List Int)) : Local (RefAt X q E P) := by
  rintro G w ⟨v1, v2, v3, h, rfl⟩
  refine ⟨h.lt, fun w' _ hb => ⟨v1, v2, v3, ⟨?_, ?_, ?_, ?_⟩, rfl⟩⟩
  · rw [hb X (Or.inl rfl)]; exact h.hp
  · exact Sl.of_heap h.s1 fun g hg => hb g (Or.inr (Or.inl hg))
  · exact Sl.of_heap h.s2 fun g hg => hb g (Or.inr (Or.inr (Or.inl hg)))
  · exact Sl.of_heap h.s3 fun g hg => hb g (Or.inr (Or.inr (Or.inr hg)))
/-- What a call leaves: the slices are those that were there, or new. -/
theorem RefC.done {E' : Held} {P' : List (List Int)} {u1 u2 u3 : Value} (h : RefC X q x l P v1 v2 v3 w) (h' : RefC X q (ids E') (bodies E') P' u1 u2 u3 w') (ht : Turns (fun i => i = X) w w')
    (h1 : ∀ i, blk u1 i → blk v1 i ∨ w.heap.size ≤ i) (h2 : ∀ i, blk u2 i → blk v2 i ∨ w.heap.size ≤ i) (h3 : ∀ i, blk u3 i → blk v3 i ∨ w.heap.size ≤ i) : Step (rfoot X v1 v2 v3) (RefAt X q E' P') w w' := by
  refine ⟨rfoot X u1 u2 u3, ⟨u1, u2, u3, h', rfl⟩, ht.mono (fun i hi => Or.inl (Or.inl hi)), ?_⟩
  rintro i (rfl | hi | hi | hi)
  · exact Or.inl (Or.inl rfl)
  · rcases h1 i hi with h | h
    · exact Or.inl (Or.inr (Or.inl h))
    · exact Or.inr h
  · rcases h2 i hi with h | h
    · exact Or.inl (Or.inr (Or.inr (Or.inl h)))
    · exact Or.inr h
  · rcases h3 i hi with h | h
    · exact Or.inl (Or.inr (Or.inr (Or.inr h)))
    · exact Or.inr h
end
/-- What is in front of a place, and what is behind it, may be read. -/
theorem cut_src {w : World} {e : TypeId} {z n : Nat} {v : Value} {xs : List Value} (hs : Sl w e z v n xs) (h1 : ∀ u ∈ xs, u.oneCell' = true) {i : Nat} (hi : i < n) :
    ∃ g o cap a1 a2, v = .slice (some ⟨g, o, none⟩) n cap ∧ n ≤ cap ∧ cap ≤ maxLen ∧ Go.sliced (some ⟨g, o, none⟩) 0 i cap z = .slice a1 i cap ∧ Go.sliced (some ⟨g, o, none⟩) (i + 1) n cap z = .slice a2 (n - (i + 1)) (cap - (i + 1)) ∧
      Go.Proofs.YtjnplcajajdkiaaDoor.obj.Src w z (.slice a1 i cap) i (xs.take (i * z)) ∧ Go.Proofs.YtjnplcajajdkiaaDoor.obj.Src w z (.slice a2 (n - (i + 1)) (cap - (i + 1))) (n - (i + 1)) (xs.drop ((i + 1) * z)) := by
  obtain ⟨g, o, cap, rfl, _⟩ := hs.some_of_pos (by omega)
  obtain ⟨ao, cap', he, hnc, hcm, _, _⟩ := hs.shape
  cases he
  have hd1 := hs.sliced 0 i cap (by omega) (by omega) (by omega) (by omega)
  have hd2 := hs.sliced (i + 1) n cap (by omega) (by omega) (by omega) (by omega)
  obtain ⟨a1, ha1⟩ : ∃ a1, Go.sliced (some ⟨g, o, none⟩) 0 i cap z = .slice a1 i cap := ⟨_, rfl⟩
  obtain ⟨a2, ha2⟩ : ∃ a2, Go.sliced (some ⟨g, o, none⟩) (i + 1) n cap z = .slice a2 (n - (i + 1)) (cap - (i + 1)) := ⟨_, rfl⟩
  refine ⟨g, o, cap, a1, a2, rfl, hnc, hcm, ha1, ha2, ?_, ?_⟩
  · rw [ha1] at hd1
    simp only [Nat.zero_mul, List.drop_zero, Nat.sub_zero] at hd1
    exact hd1.src fun u hu => h1 u (List.mem_of_mem_take hu)
  · rw [ha2] at hd2
    rw [List.take_of_length_le (by rw [List.length_drop, hs.len, Nat.sub_mul]; omega)] at hd2
    exact hd2.src fun u hu => h1 u (List.mem_of_mem_drop hu)
theorem icells_cut {x : List (List Int)} (h : Wh x) (i : Nat) : (icells x).take (i * 32) ++ (icells x).drop ((i + 1) * 32) = icells (x.take i ++ x.drop (i + 1)) := by rw [icells_take h, icells_drop h, icells_append]
theorem strs_cut (l : List ByteArray) (i : Nat) : (l.map Value.string).take (i * 1) ++ (l.map Value.string).drop ((i + 1) * 1) = (l.take i ++ l.drop (i + 1)).map Value.string := by simp [List.map_take, List.map_drop]
theorem infoStr_parts : ∃ i0, Tryd.prog.info? 9 = some i0 ∧ i0.zero = some (.string ⟨#[]⟩) ∧ i0.size = 1 ∧ i0.bytes = 16 := by
  have h : (Tryd.prog.info? 9).map (fun i => (i.zero, i.size, i.bytes)) = some (some (.string ⟨#[]⟩), 1, 16) := by kernel_rfl
  obtain ⟨i, hi, hr⟩ := Option.map_eq_some_iff.1 h
  simp only [Prod.mk.injEq] at hr
  exact ⟨i, hi, hr.1, hr.2.1, hr.2.2⟩
theorem strs_one (l : List ByteArray) : ∀ u ∈ l.map Value.string, u.oneCell' = true := by
  intro u hu
  obtain ⟨x, _, rfl⟩ := List.mem_map.1 hu
  rfl

end Go.Proofs.YtjnplcajajdkiaaDoor.store

/- Package store: what must go. -/
namespace Go.Proofs.YtjnplcajajdkiaaDoor.store
open Go.RowKit
open Go.Proofs.YtjnplcajajdkiaaDoor.stepkit Go.Proofs.YtjnplcajajdkiaaDoor.eqkit Go.Proofs.YtjnplcajajdkiaaDoor.idkit Go.Proofs.YtjnplcajajdkiaaDoor.obj Go.Proofs.YtjnplcajajdkiaaDoor.row Go.Proofs.YtjnplcajajdkiaaDoor.mapkit Go.Proofs.YtjnplcajajdkiaaDoor.mix Go.Proofs.YtjnplcajajdkiaaDoor.lru
open Go.Proofs.YtjnplcajajdkiaaDoor.sha (wpList_putc new32 range_of)

theorem run_lookV {w : World} {b : Nat} {M : List (List Int × Value)} {t e : TypeId} (h : MapIs w b M) (hk : Keys M) (id : List Int) (hid : id.length = 32) (ht : Tryd.prog.underlying t = some (.map 31 e)) (z : Value) (hz : (zeroValue e).run Tryd.prog w = .ok z w) :
    (Instr.lookup t (.map (some b)) (.agg (idc id).toArray) false).run Tryd.prog w = .ok ((lookM M id).getD z) w := by
  obtain ⟨es, clock, N, h1, h2, h3⟩ := h
  have hN := hk.perm h3
  have hc := check_id es.isEmpty w id hid
  have hf := run_find id hid w es.toList N h2 hN.1
  have hg := getmap h1
  unfold idv at hc hf
  rw [← look_perm hk h3, ← seek_look id N 0]
  unfold Instr.lookup
  simp only [Sem.run_bind, run_underlying ht, Result.andThen_ok, hg, Sem.run_pure, hc, hf]
  cases seek id N 0 with
  | none => simp [Sem.run_bind, Sem.run_pure, hz]
  | some x => simp [Sem.run_bind, Sem.run_pure]
theorem exec_lookV {op : Oper} {a : Act} {w : World} (t : TypeId) (x ix : Operand) (ho : op.op = .lookup t x ix false) {vx vi r : Value} (hx : a.eval x = vx) (hi : a.eval ix = vi) (hr : (Instr.lookup t vx vi false).run Tryd.prog w = .ok r w) : (execOp a.eval op).run Tryd.prog w = .ok (.value r) w := by
  unfold execOp
  simp only [ho, hx, hi, Sem.run_bind, Sem.run_pure, Result.andThen_ok, hr]

/-- Where the id in a cell stands in a list. -/
noncomputable def placeIn (x : List (List Int)) (J : Nat) (w : World) : Nat := x.findIdx fun y => @decide (w.heap[J]? = some (.cells (idc y).toArray 31 (0, 0))) (Classical.propDecidable _)
theorem place_in {x : List (List Int)} (hn : x.Nodup) {j : Nat} (hj : j < x.length) {J : Nat} {w : World} (h : w.heap[J]? = some (.cells (idc (x.getD j [])).toArray 31 (0, 0))) : placeIn x J w = j := by
  rw [List.getD, List.getElem?_eq_getElem hj, Option.getD_some] at h
  unfold placeIn
  rw [List.findIdx_eq hj]
  refine ⟨by simp only [decide_eq_true_eq]; exact h, fun i hi => ?_⟩
  simp only [decide_eq_false_iff_not]
  intro e
  rw [h] at e
  simp only [Option.some.injEq, Obj.cells.injEq] at e
  have := idc_inj (by simpa using congrArg Array.toList e.1)
  exact absurd ((List.getElem_inj hn).1 this) (by omega)
noncomputable def meas (x : List (List Int)) (J : Nat) : Value → World → Nat
  | .bool true, w => x.length - placeIn x J w
  | _, _ => 0
theorem at_ent {L : List Hd} {j : Nat} (h : j < (ents L).length) : ∃ x ∈ L, x.id = (en (ents L) j).1 ∧ x.body = (en (ents L) j).2 := by
  rw [ents_len] at h
  refine ⟨L[j], List.getElem_mem _, ?_, ?_⟩ <;> (unfold en ents; simp [List.getD, h, Hd.ent])
theorem atX_ids {E : Held} {j : Nat} (h : j < E.length) : atX (ids E) j = (en E j).1 := by
  unfold atX
  rw [if_pos (by rw [ids_len]; exact h), ids_get E h]
theorem outs_zero (P : List (List Int)) (E : Held) : outs P E 0 = [] := by unfold outs; simp
theorem ids_outs (P : List (List Int)) (E : Held) {j : Nat} (h : j < E.length) : ids (outs P E (j + 1)) = ids (outs P E j) ++ (if (en E j).1 ∈ P then [] else [(en E j).1]) := by
  rw [outs_succ P E h]
  unfold ids
  rw [List.map_append]
  by_cases hp : (en E j).1 ∈ P
  · simp [hp]
  · simp [hp]
theorem outs_len (P : List (List Int)) (E : Held) (j : Nat) : (outs P E j).length ≤ E.length := by
  unfold outs
  refine Nat.le_trans (List.length_filter_le _ _) ?_
  rw [List.length_take]
  omega

/-- What the walk over the oldest ones has so far. -/
structure RoomI (w : World) (P : List (List Int)) (E : Held) (J j : Nat) (v : Value) (wr : World) : Prop where
  s : ISl wr v (ids (outs P E j))
  c : wr.heap[J]? = some (.cells (idc (atX (ids E) j)).toArray 31 (0, 0))
  n : ¬ blk v J
  f : ∀ i, blk v i → w.heap.size ≤ i
  t : Turns nobody w wr

set_option maxRecDepth 10000 in
theorem room_arg {p pl mb q : Nat} {L : List Hd} {P : List (List Int)} {G : Nat → Prop} {w : World} (h : StC p pl mb q L P G w) (n : Int) (hn : n < 0) :
    Calls Tryd.prog 14 #[.pointer (some ⟨p, 0, none⟩), .int .i64 n] w fun e w' => e = .returned (.tuple #[.slice none 0 0, .int .i64 1]) ∧ w = w' := by
  have c4 : w.cell? ⟨p, 4, none⟩ = some (.map (some mb)) := cells_of h.hp 4 _ rfl
  clear h
  go_enter Tryd.func14, Tryd.ntmps14
  go_wp2_with (go_at_call 32; refine (none_no _ _ _ c4).mono ?_; rintro e w' ⟨rfl, rfl⟩)
  go_ret2
  exact ⟨rfl, rfl⟩

set_option maxRecDepth 10000 in
set_option maxHeartbeats 2000000 in
theorem room_yes {p pl mb q : Nat} {L : List Hd} {P : List (List Int)} {G : Nat → Prop} {w : World} (h : StC p pl mb q L P G w) (n : Int) (hn0 : ¬ n < 0) (hq : q ≤ 4096) (hsz : sz (ents L) ≤ q) (hl : (ents L).length ≤ 1000) :
    Calls Tryd.prog 14 #[.pointer (some ⟨p, 0, none⟩), .int .i64 n] w fun e w' => ∃ v, e = .returned (.tuple #[v, .int .i64 (roomE P q n (ents L))]) ∧ ISl w' v (roomL P q n (ents L)) ∧ (∀ j, blk v j → w.heap.size ≤ j) ∧ Turns nobody w w' := by
  obtain ⟨i0, hi, hz0, hz1, hz2⟩ := infoIds_parts
  have c4 : w.cell? ⟨p, 4, none⟩ = some (.map (some mb)) := cells_of h.hp 4 _ rfl
  have c2 : w.cell? ⟨p, 2, none⟩ = some (.int .i64 (sz (ents L) : Int)) := cells_of h.hp 2 _ rfl
  have c0 : w.cell? ⟨p, 0, none⟩ = some (.pointer (some ⟨pl, 0, none⟩)) := cells_of h.hp 0 _ rfl
  have hold := oldest_x h.lru
  rw [atX_zero, show decide ((ids (ents L)).length ≠ 0) = decide (0 < (ents L).length) by rw [ids_len]; simp [Nat.pos_iff_ne_zero]] at hold
  have HS0 := Lib.hid h
  have HBS := Lib.hid slice_id
  have HQ := Lib.hid hq
  have HN := Lib.hid hl
  have HFQ : Hid (∀ j, left P (ents L) j ≤ q) := Lib.hid fun j => Nat.le_trans (left_le P (ents L) j) hsz
  have HN0 : Hid (∀ a b : Int, (if n < 0 then a else b) = b) := Lib.hid fun a b => if_neg hn0
  have hnn : decide (n < 0) = false := decide_eq_false hn0
  have SA0 := Lib.hid (sizeId (atX_len h.wh 0))
  have NA0 := Lib.hid (zid_size _ (atX_len h.wh 0))
  clear h hq hl hsz
  go_enter Tryd.func14, Tryd.ntmps14
  go_wp2_with first
    | (go_at_call 32; refine (none_no _ _ _ c4).mono ?_; rintro e w' ⟨rfl, rfl⟩)
    | (go_at_call 39; refine hold.mono ?_; rintro e w2 ⟨rfl, t2⟩; have HT2 := Lib.hid t2; have HJ2 := Lib.hid (new32 w2); clear hold t2)
    | (refine wpList_putc rfl _ _ _ rfl (idc (atX (ids (ents L)) 0)) HJ2.out NA0.out (idc_one _) rfl rfl SA0.out ?_; intro w3 t3 a3 z3)
  obtain ⟨J, hJ⟩ : ∃ J, w2.heap.size = J := ⟨_, rfl⟩
  rw [hJ] at t3 a3 ⊢
  have HJ : Hid (w.heap.size ≤ J) := Lib.hid (by rw [← hJ]; exact HT2.out.size)
  have HT3 : Hid (Turns nobody w w3) := Lib.hid ((HT2.out.alloc _).trans t3 (fun i hi => Or.inr (by rw [hi]; exact HJ.out)))
  have HA3 := Lib.hid a3
  clear t3 a3 z3 hJ c4 c2 c0 hnn
  go_loopw [6, 7, 9] (fun l v ok wr => ∃ j : Nat, j ≤ (ents L).length ∧ (∀ i, i < j → ¬ n ≤ (q : Int) - left P (ents L) i) ∧ l = .int .i64 (left P (ents L) j : Int) ∧ ok = .bool (decide (j < (ents L).length)) ∧ RoomI w P (ents L) J j v wr) (fun _ _ ok wr => meas (ids (ents L)) J ok wr)
  case atStart => exact ⟨0, Nat.zero_le _, (fun i hi => absurd hi (Nat.not_lt_zero i)), by rw [left_zero], rfl, ⟨by rw [outs_zero]; exact Sl.nil _ _ _, HA3.out, (fun h => by cases h), (fun i h => by cases h), HT3.out⟩⟩
  case round =>
    obtain ⟨j, hj, hb, rfl, hok, hr⟩ := hrel
    by_cases hlt : j < (ents L).length
    · rw [decide_eq_true hlt] at hok
      subst hok
      by_cases hno : n ≤ (q : Int) - left P (ents L) j
      · have hg := goes_eq hj hb (fun _ => hno)
        have he : roomE P q n (ents L) = 0 := by unfold roomE roomOk; rw [HN0.out, hg, if_pos (decide_eq_true hno)]
        have hll : roomL P q n (ents L) = ids (outs P (ents L) j) := by unfold roomL roomIds; rw [if_pos he, hg]
        have hfit := fits_any p q (left P (ents L) j) n wr (cells_of (HS0.out.still hr.t).hp 1 _ rfl) HQ.out (by have := HFQ.out j; have := HQ.out; omega)
        rw [decide_eq_true hno] at hfit
        have HR := Lib.hid hr
        have HE := Lib.hid he
        have HL := Lib.hid hll
        clear hr he hll hg hno hb hj hlt
        go_wp2_with (go_at_call 35; refine hfit.mono ?_; rintro e w' ⟨rfl, rfl⟩)
        go_ret2
        exact ⟨_, by rw [HE.out]; rfl, by rw [HL.out]; exact HR.out.s, HR.out.f, HR.out.t⟩
      · by_cases hp : (en (ents L) j).1 ∈ P
        ·
          obtain ⟨x, hmx, hxid, hxb⟩ := at_ent hlt
          have hid : (en (ents L) j).1.length = 32 := by rw [← hxid]; exact HS0.out.wh _ (id_of hmx)
          have HSW := Lib.hid (HS0.out.still hr.t)
          have hcl := hr.c
          rw [atX_ids hlt] at hcl
          have hlk := run_lookV (w := wr.drew) HSW.out.map (keys_hmap HSW.out.wh HSW.out.ndi) (en (ents L) j).1 hid Tryd.underlying59 _ (zero_held wr.drew)
          rw [← hxid, look_hmap HSW.out.ndi hmx, hxid] at hlk
          have HL : Hid ((Instr.lookup 59 (.map (some mb)) (.agg (idc (en (ents L) j).1).toArray) false).run Tryd.prog wr.drew = .ok (ptr x.b) wr.drew) := Lib.hid hlk
          have HXH : Hid (∀ W, Turns nobody wr W → W.heap[x.b]? = some (.cells (hcs x.body (decide (x.id ∈ P))) 77 (0, 0))) := Lib.hid fun W ht => heap_newer (HSW.out.held x hmx) ht (fun h => h)
          rw [hxb, hxid] at HXH
          have hmeas : placeIn (ids (ents L)) J wr = j := place_in HS0.out.ndi (by rw [ids_len]; exact hlt) (by rw [ids_get _ hlt]; exact hcl)
          have HME := Lib.hid hmeas
          have HIO := Lib.hid (ids_outs P (ents L) hlt)
          have hleft := left_succ P (ents L) hlt
          have hll := left_le P (ents L) j
          have haf := fun W (hW : StC p pl mb q L P G W) => after_x hW.lru (en (ents L) j).1 hid
          have hat := after_at (x := ids (ents L)) (j := j) HS0.out.ndi (by rw [ids_len]; exact hlt)
          rw [ids_get _ hlt, ids_len] at hat
          rw [hat.1, hat.2] at haf
          have hfit := fits_any p q (left P (ents L) j) n wr (cells_of HSW.out.hp 1 _ rfl) HQ.out (by have := HFQ.out j; have := HQ.out; omega)
          rw [decide_eq_false hno] at hfit
          have hnl : (atX (ids (ents L)) (j + 1)).length = 32 := atX_len HS0.out.wh (j + 1)
          have hol := Nat.le_trans (outs_len P (ents L) j) HN.out
          obtain ⟨ao, cap, rfl, _⟩ := (show Sl _ _ _ _ _ _ from hr.s).shape
          obtain ⟨eid, heid⟩ : ∃ y, (en (ents L) j).1 = y := ⟨_, rfl⟩
          obtain ⟨eb, heb⟩ : ∃ y, (en (ents L) j).2 = y := ⟨_, rfl⟩
          obtain ⟨xb, hxbb⟩ : ∃ y, x.b = y := ⟨_, rfl⟩
          rw [heid] at hid HL HXH HIO hleft hcl haf
          rw [heb] at HXH hleft
          rw [hxbb] at HL HXH
          have HE1 := Lib.hid heid
          have HID := Lib.hid hid
          have SK := Lib.hid (sizeId hid)
          have SN := Lib.hid (sizeId hnl)
          have NN := Lib.hid (fun (z : Array Value) (hz : z.size = 32) => show z.size = (idc (atX (ids (ents L)) (j + 1))).length by rw [hz, idc_len, hnl])
          have HRT := Lib.hid hr.t
          have HRS := Lib.hid hr.s
          have HRN := Lib.hid hr.n
          have HRF := Lib.hid hr.f
          have HCL := Lib.hid hcl
          have RJ : Hid (∀ W, Turns nobody wr W → W.rangeAt J 0 (idc eid)) := Lib.hid fun W ht => range_of (heap_newer HCL.out ht (fun h => h))
          have c4 : wr.cell? ⟨p, 4, none⟩ = some (.map (some mb)) := cells_of HSW.out.hp 4 _ rfl
          have HAF := Lib.hid haf
          have HLB := Lib.hid hleft
          have HLT := Lib.hid hlt
          have HNO := Lib.hid hno
          have HBE := Lib.hid hb
          clear hr hcl hlk hmeas hleft haf hat hnl hmx hxid hxb hlt hno hb heid heb hxbb hid
          unfold ptr at HL
          have hp' : decide (eid ∈ P) = true := decide_eq_true (by rw [← HE1.out]; exact hp)
          rw [hp'] at HXH
          have HP : Hid ((if eid ∈ P then ([] : List (List Int)) else [eid]) = []) := Lib.hid (if_pos (of_decide_eq_true hp'))
          have HP2 : Hid ((if eid ∈ P then (0 : Nat) else eb.size) = 0) := Lib.hid (if_pos (of_decide_eq_true hp'))
          clear hp hp'
          go_upto_region 9 with (go_at_call 35; refine hfit.mono ?_; rintro e w' ⟨rfl, rfl⟩)
          clear hfit
          refine wp_region_mix [(0, true, true), (1, true, true), (2, true, true), (3, true, true), (4, true, true), (5, true, true), (6, true, true)] (fun W => W = wr.drew) (by kernel_rfl) (by kernel_rfl) (rfl) ?_
          simp only [picked, List.filterMap_cons, List.filterMap_nil, List.getElem?_toArray, List.getElem?_cons_zero, List.getElem?_cons_succ, Option.map_some]
          iterate 4 (refine mix_free (v := ?_) rfl ?_ ?_; rotate_left; (focus (intro w' hI; subst hI; go_simp; try with_reducible rfl)); simp only [Act.put, List.setIfInBounds_toArray, List.set_cons_zero, List.set_cons_succ])
          refine mix_free (v := .agg (idc eid).toArray) rfl (fun w' hI => by rw [hI]; exact exec_load_mid _ _ rfl _ _ rfl (idc eid) _ (RJ.out _ (Turns.refl _ _).drew) Tryd.underlying31 rfl SK.out) ?_
          simp only [Act.put, List.setIfInBounds_toArray, List.set_cons_zero, List.set_cons_succ]
          refine mix_free (v := .pointer (some ⟨xb, 0, none⟩)) rfl (fun w' hI => by rw [hI]; exact exec_lookV _ _ _ rfl rfl rfl HL.out) ?_
          simp only [Act.put, List.setIfInBounds_toArray, List.set_cons_zero, List.set_cons_succ]
          repeat (refine mix_free (v := ?_) rfl ?_ ?_; rotate_left; (focus (intro w' hI; go_simp; try with_reducible rfl)); simp only [Act.put, List.setIfInBounds_toArray, List.set_cons_zero, List.set_cons_succ])
          refine mix_nil ?_
          clear c4
          have d1 : wr.drew.cell? ⟨xb, 1, none⟩ = some (.bool true) := cells_of (HXH.out wr.drew (Turns.refl _ _).drew) 1 _ rfl
          go_upto_region 13 with fail
          obtain ⟨W2, hW2⟩ : ∃ W2, W2 = wr.drew := ⟨_, rfl⟩
          rw [← hW2]
          have HT2 : Hid (Turns nobody w W2) := Lib.hid (by rw [hW2]; exact HRT.out.drew)
          have HJ2 : Hid (W2.heap[J]? = some (.cells (idc eid).toArray 31 (0, 0))) := Lib.hid (by rw [hW2]; exact HCL.out)
          have HS2 : Hid (ISl W2 (.slice ao (ids (outs P (ents L) j)).length cap) (ids (outs P (ents L) j))) := Lib.hid (by rw [hW2]; exact HRS.out)
          have HN2 := HRN
          clear hW2 d1
          have hp0 : W2.drew.cell? ⟨p, 0, none⟩ = some (.pointer (some ⟨pl, 0, none⟩)) := cells_of (HS0.out.still HT2.out.drew).hp 0 _ rfl
          refine wp_region_fork [0, 1, 2, 3, 6, 7, 8, 10] [0, 1, 2, 3, 4, 5, 6, 7, 8, 9, 10] (Plan.ofList [0, 1, 2, 3, 4, 5, 6, 7, 8, 9, 10] .done) (fun W => W.cell? ⟨p, 0, none⟩ = some (.pointer (some ⟨pl, 0, none⟩))) (by kernel_rfl) (by kernel_rfl) (hp0) ?_
          simp -failIfUnchanged only [Plan.pick, Plan.ofList, isIn, List.contains_cons, List.contains_nil, Nat.reduceBEq, Bool.or_false, Bool.false_or, Bool.or_true, Bool.true_or, cond_true, cond_false, Array.getD_eq_getD_getElem?, List.getElem?_toArray, List.getElem?_cons_zero, List.getElem?_cons_succ, Option.getD_some]
          iterate 4 (refine plan_free (v := ?_) rfl ?_ ?_; rotate_left; (focus (intro w' hI; go_simp; try with_reducible rfl)); simp only [Act.put, List.setIfInBounds_toArray, List.set_cons_zero, List.set_cons_succ])
          refine plan_big (bigC_mk rfl (fun K hK => ?_))
          go_wp2_with (with_reducible refine wpList_load_mid rfl _ _ rfl _ _ rfl _ _ (range_of (w := W2.drew) HJ2.out) Tryd.underlying31 rfl SK.out ?_)
          refine hK _ _ (fun _ => hp0) ?_
          clear hK K hp0
          refine plan_big (bigC_mk rfl (fun K hK => ?_))
          go_wp2_with (go_at_call 40; refine (HAF.out _ (HS0.out.still HT2.out.drew)).mono ?_; rintro e w6 ⟨rfl, t6⟩; have HT26 := Lib.hid ((Turns.refl nobody W2).drew.trans t6 (fun _ h => False.elim h)); have HT6 := Lib.hid (HT2.out.trans HT26.out (fun _ h => False.elim h)); clear t6)
          have hp6 : w6.cell? ⟨p, 0, none⟩ = some (.pointer (some ⟨pl, 0, none⟩)) := cells_of (HS0.out.still HT6.out).hp 0 _ rfl
          refine hK _ _ (fun _ => hp6) ?_
          clear hK K hp6
          repeat (refine plan_free (v := ?_) rfl ?_ ?_; rotate_left; (focus (intro w' hI; go_simp; try with_reducible rfl)); simp only [Act.put, List.setIfInBounds_toArray, List.set_cons_zero, List.set_cons_succ])
          refine plan_big (bigC_mk rfl (fun K hK => ?_))
          refine wpList_putc rfl _ _ _ rfl (idc (atX (ids (ents L)) (j + 1))) (heap_newer HJ2.out HT26.out (fun h => h)) (NN.out _ (by rw [List.size_toArray, idc_len, HID.out])) (idc_one _) rfl rfl SN.out ?_
          intro w7 t7 a7 z7
          have HT7 : Hid (Turns nobody w w7) := Lib.hid (HT6.out.trans t7 (fun i hi => Or.inr (by rw [hi]; exact HJ.out)))
          have hp7 : w7.cell? ⟨p, 0, none⟩ = some (.pointer (some ⟨pl, 0, none⟩)) := cells_of (HS0.out.still HT7.out).hp 0 _ rfl
          have hs7 := Sl.keep (Sl.keep HS2.out HT26.out (fun _ _ h => h)) t7 (fun i hi e => HN2.out (by rw [← e]; exact hi))
          have HS7 := Lib.hid hs7
          have HA7 := Lib.hid a7
          go_wp2
          refine hK _ _ (fun _ => hp7) ?_
          clear hK K hp7 t7 a7 z7 hs7
          repeat (refine plan_free (v := ?_) rfl ?_ ?_; rotate_left; (focus (intro w' hI; go_simp; try with_reducible rfl)); simp only [Act.put, List.setIfInBounds_toArray, List.set_cons_zero, List.set_cons_succ])
          refine plan_done ?_
          go_wp2
          go_roundw
          case rel =>
            refine ⟨j + 1, HLT.out, fun i hi => ?_, ?_, rfl, ⟨?_, HA7.out, HRN.out, HRF.out, HT7.out⟩⟩
            · rcases Nat.lt_or_ge i j with h | h
              · have := HBE.out i h; omega
              · rw [show i = j by omega]; have := HNO.out; omega
            · have := HLB.out; rw [HP2.out] at this; rw [show left P (ents L) (j + 1) = left P (ents L) j by omega]
            · have := HIO.out; rw [HP.out, List.append_nil] at this; rw [this]; exact HS7.out
          case measure =>
            have h1 := HLT.out
            by_cases hn : j + 1 < (ents L).length
            · have e7 : placeIn (ids (ents L)) J w7 = j + 1 := place_in HS0.out.ndi (by rw [ids_len]; exact hn) (by have := HA7.out; rw [atX_ids hn] at this; rw [ids_get _ hn]; exact this)
              rw [decide_eq_true hn]
              show (ids (ents L)).length - placeIn (ids (ents L)) J w7 < (ids (ents L)).length - placeIn (ids (ents L)) J wr
              rw [e7, HME.out, ids_len]
              omega
            · rw [decide_eq_false hn]
              show 0 < (ids (ents L)).length - placeIn (ids (ents L)) J wr
              rw [HME.out, ids_len]
              omega
        ·
          obtain ⟨x, hmx, hxid, hxb⟩ := at_ent hlt
          have hid : (en (ents L) j).1.length = 32 := by rw [← hxid]; exact HS0.out.wh _ (id_of hmx)
          have HSW := Lib.hid (HS0.out.still hr.t)
          have hcl := hr.c
          rw [atX_ids hlt] at hcl
          have hlk := run_lookV (w := wr.drew) HSW.out.map (keys_hmap HSW.out.wh HSW.out.ndi) (en (ents L) j).1 hid Tryd.underlying59 _ (zero_held wr.drew)
          rw [← hxid, look_hmap HSW.out.ndi hmx, hxid] at hlk
          have HL : Hid ((Instr.lookup 59 (.map (some mb)) (.agg (idc (en (ents L) j).1).toArray) false).run Tryd.prog wr.drew = .ok (ptr x.b) wr.drew) := Lib.hid hlk
          have HXH : Hid (∀ W, Turns nobody wr W → W.heap[x.b]? = some (.cells (hcs x.body (decide (x.id ∈ P))) 77 (0, 0))) := Lib.hid fun W ht => heap_newer (HSW.out.held x hmx) ht (fun h => h)
          rw [hxb, hxid] at HXH
          have hmeas : placeIn (ids (ents L)) J wr = j := place_in HS0.out.ndi (by rw [ids_len]; exact hlt) (by rw [ids_get _ hlt]; exact hcl)
          have HME := Lib.hid hmeas
          have HIO := Lib.hid (ids_outs P (ents L) hlt)
          have hleft := left_succ P (ents L) hlt
          have hll := left_le P (ents L) j
          have haf := fun W (hW : StC p pl mb q L P G W) => after_x hW.lru (en (ents L) j).1 hid
          have hat := after_at (x := ids (ents L)) (j := j) HS0.out.ndi (by rw [ids_len]; exact hlt)
          rw [ids_get _ hlt, ids_len] at hat
          rw [hat.1, hat.2] at haf
          have hfit := fits_any p q (left P (ents L) j) n wr (cells_of HSW.out.hp 1 _ rfl) HQ.out (by have := HFQ.out j; have := HQ.out; omega)
          rw [decide_eq_false hno] at hfit
          have hnl : (atX (ids (ents L)) (j + 1)).length = 32 := atX_len HS0.out.wh (j + 1)
          have hol := Nat.le_trans (outs_len P (ents L) j) HN.out
          obtain ⟨ao, cap, rfl, _⟩ := (show Sl _ _ _ _ _ _ from hr.s).shape
          obtain ⟨eid, heid⟩ : ∃ y, (en (ents L) j).1 = y := ⟨_, rfl⟩
          obtain ⟨eb, heb⟩ : ∃ y, (en (ents L) j).2 = y := ⟨_, rfl⟩
          obtain ⟨xb, hxbb⟩ : ∃ y, x.b = y := ⟨_, rfl⟩
          rw [heid] at hid HL HXH HIO hleft hcl haf
          rw [heb] at HXH hleft
          rw [hxbb] at HL HXH
          have HE1 := Lib.hid heid
          have HID := Lib.hid hid
          have SK := Lib.hid (sizeId hid)
          have SN := Lib.hid (sizeId hnl)
          have NN := Lib.hid (fun (z : Array Value) (hz : z.size = 32) => show z.size = (idc (atX (ids (ents L)) (j + 1))).length by rw [hz, idc_len, hnl])
          have HRT := Lib.hid hr.t
          have HRS := Lib.hid hr.s
          have HRN := Lib.hid hr.n
          have HRF := Lib.hid hr.f
          have HCL := Lib.hid hcl
          have RJ : Hid (∀ W, Turns nobody wr W → W.rangeAt J 0 (idc eid)) := Lib.hid fun W ht => range_of (heap_newer HCL.out ht (fun h => h))
          have c4 : wr.cell? ⟨p, 4, none⟩ = some (.map (some mb)) := cells_of HSW.out.hp 4 _ rfl
          have HAF := Lib.hid haf
          have HLB := Lib.hid hleft
          have HLT := Lib.hid hlt
          have HNO := Lib.hid hno
          have HBE := Lib.hid hb
          clear hr hcl hlk hmeas hleft haf hat hnl hmx hxid hxb hlt hno hb heid heb hxbb hid
          unfold ptr at HL
          have hp' : decide (eid ∈ P) = false := decide_eq_false (by rw [← HE1.out]; exact hp)
          rw [hp'] at HXH
          have HP : Hid ((if eid ∈ P then ([] : List (List Int)) else [eid]) = [eid]) := Lib.hid (if_neg (of_decide_eq_false hp'))
          have HP2 : Hid ((if eid ∈ P then (0 : Nat) else eb.size) = eb.size) := Lib.hid (if_neg (of_decide_eq_false hp'))
          clear hp hp'
          obtain ⟨W1, hW1⟩ : ∃ W1, W1 = wr.drew.alloc (.cells (idc eid).toArray 31) := ⟨_, rfl⟩
          have ht1 : Turns nobody wr W1 := by rw [hW1]; exact ((Turns.refl _ _).drew).alloc _
          have HQ1 := Lib.hid (src_one (id := eid) (by rw [hW1]; exact heap_alloc_new wr.drew _ : W1.heap[wr.heap.size]? = _) HID.out)
          have HS1 := Lib.hid (Sl.keep HRS.out ht1 (fun _ _ h => h))
          have HJ1 := Lib.hid (heap_newer HCL.out ht1 (fun h => h))
          have HX1 := Lib.hid (HXH.out W1 ht1)
          have HZ1 := Lib.hid ht1.size
          have HJL := Lib.hid (lt_of_block HCL.out)
          have HW1 := Lib.hid hW1
          have HT1 := Lib.hid (HRT.out.trans ht1 (fun _ h => h.elim))
          have HHF := Lib.hid hol
          have HXS : Hid (ISl W1 (.slice ao (ids (outs P (ents L) j)).length cap) (ids (outs P (ents L) j))) := Lib.hid HS1.out
          have hyl : (ids (outs P (ents L) j)).length ≤ 1000 := by rw [ids_len]; exact hol
          have HXF : Hid (∀ W, Turns (blk (.slice ao (ids (outs P (ents L) j)).length cap)) W1 W → W.cell? ⟨xb, 0, none⟩ = some (.string eb)) := Lib.hid fun W ht => cells_of (heap_newer HX1.out ht (fun hb => by
            obtain ⟨c, hc⟩ := ISl.elem' HXS.out xb hb
            rw [HX1.out] at hc
            simp at hc)) 0 _ rfl
          generalize hy : ids (outs P (ents L) j) = y at *
          clear hW1 ht1
          go_upto_region 9 with (go_at_call 35; refine hfit.mono ?_; rintro e w' ⟨rfl, rfl⟩)
          clear hfit
          refine wp_region_mix [(0, true, true), (1, true, true), (2, true, true), (3, true, true), (4, true, true), (5, true, true), (6, true, true)] (fun W => W = wr.drew) (by kernel_rfl) (by kernel_rfl) (rfl) ?_
          simp only [picked, List.filterMap_cons, List.filterMap_nil, List.getElem?_toArray, List.getElem?_cons_zero, List.getElem?_cons_succ, Option.map_some]
          iterate 4 (refine mix_free (v := ?_) rfl ?_ ?_; rotate_left; (focus (intro w' hI; subst hI; go_simp; try with_reducible rfl)); simp only [Act.put, List.setIfInBounds_toArray, List.set_cons_zero, List.set_cons_succ])
          refine mix_free (v := .agg (idc eid).toArray) rfl (fun w' hI => by rw [hI]; exact exec_load_mid _ _ rfl _ _ rfl (idc eid) _ (RJ.out _ (Turns.refl _ _).drew) Tryd.underlying31 rfl SK.out) ?_
          simp only [Act.put, List.setIfInBounds_toArray, List.set_cons_zero, List.set_cons_succ]
          refine mix_free (v := .pointer (some ⟨xb, 0, none⟩)) rfl (fun w' hI => by rw [hI]; exact exec_lookV _ _ _ rfl rfl rfl HL.out) ?_
          simp only [Act.put, List.setIfInBounds_toArray, List.set_cons_zero, List.set_cons_succ]
          repeat (refine mix_free (v := ?_) rfl ?_ ?_; rotate_left; (focus (intro w' hI; go_simp; try with_reducible rfl)); simp only [Act.put, List.setIfInBounds_toArray, List.set_cons_zero, List.set_cons_succ])
          refine mix_nil ?_
          clear c4
          have d1 : wr.drew.cell? ⟨xb, 1, none⟩ = some (.bool false) := cells_of (HXH.out wr.drew (Turns.refl _ _).drew) 1 _ rfl
          go_upto_region 12 with first
            | (with_reducible refine wpList_load_mid rfl _ _ rfl _ _ rfl _ _ (RJ.out wr.drew (Turns.refl _ _).drew) Tryd.underlying31 rfl SK.out ?_)
            | (with_reducible refine wpList_build_run rfl _ _ _ rfl #[(0, .agg (idc eid).toArray)] (by kernel_rfl) (HBS.out _ HID.out _) ?_)
            | (at_builtin; rw [← HW1.out]; refine wpList_append_sl rfl _ _ 36 rfl Tryd.underlying36 hi hz0 hz1 hz2 (by rw [Value.cells]; simp [idc_len, zid_len]) (by decide) rfl rfl HS1.out HQ1.out (by unfold maxLen; omega) (by omega) ?_; intro v5 W2 h5 t5 n5 _)
          have HT2 : Hid (Turns nobody w W2) := Lib.hid (HT1.out.trans t5 (fun i hi => Or.inr (HRF.out i hi)))
          have HJ2 : Hid (W2.heap[J]? = some (.cells (idc eid).toArray 31 (0, 0))) := Lib.hid (heap_newer HJ1.out t5 HRN.out)
          have HS2 : Hid (ISl W2 v5 (y ++ [eid])) := Lib.hid (by unfold ISl; rw [List.length_append, List.length_singleton, icells_append]; exact h5)
          have HN2 : Hid (¬ blk v5 J) := Lib.hid (fun hb => by
            rcases n5 J hb with h | h
            · exact HRN.out h
            · have := HJL.out; have := HZ1.out; omega)
          have HF2 : Hid (∀ i, blk v5 i → w.heap.size ≤ i) := Lib.hid (fun i hb => by
            rcases n5 i hb with h | h
            · exact HRF.out i h
            · exact Nat.le_trans HT1.out.size h)
          have d0 := HXF.out W2 t5
          have hle : eb.size ≤ 4096 := by have := HLB.out; rw [HP2.out] at this; have := HFQ.out j; have := HQ.out; omega
          have hle2 : (left P (ents L) j : Int) ≤ 4096 := by have := HFQ.out j; have := HQ.out; omega
          have hle3 : (0 : Int) ≤ (left P (ents L) j : Int) - (eb.size : Int) := by have := HLB.out; rw [HP2.out] at this; omega
          clear h5 t5 n5 d1
          obtain ⟨ao5, cap5, rfl, _⟩ := (show Sl _ _ _ _ _ _ from HS2.out).shape
          have hyl1 : (y ++ [eid]).length = y.length + 1 := by simp
          obtain ⟨y1, hy1⟩ : ∃ y1, y ++ [eid] = y1 := ⟨_, rfl⟩
          have HY1 := Lib.hid hy1
          rw [hy1] at HS2 HN2 HF2 ⊢
          clear hy1 hyl1
          go_upto_region 13 with fail
          clear d0
          have hp0 : W2.drew.cell? ⟨p, 0, none⟩ = some (.pointer (some ⟨pl, 0, none⟩)) := cells_of (HS0.out.still HT2.out.drew).hp 0 _ rfl
          refine wp_region_fork [0, 1, 2, 3, 6, 7, 8, 10] [0, 1, 2, 3, 4, 5, 6, 7, 8, 9, 10] (Plan.ofList [0, 1, 2, 3, 4, 5, 6, 7, 8, 9, 10] .done) (fun W => W.cell? ⟨p, 0, none⟩ = some (.pointer (some ⟨pl, 0, none⟩))) (by kernel_rfl) (by kernel_rfl) (hp0) ?_
          simp -failIfUnchanged only [Plan.pick, Plan.ofList, isIn, List.contains_cons, List.contains_nil, Nat.reduceBEq, Bool.or_false, Bool.false_or, Bool.or_true, Bool.true_or, cond_true, cond_false, Array.getD_eq_getD_getElem?, List.getElem?_toArray, List.getElem?_cons_zero, List.getElem?_cons_succ, Option.getD_some]
          iterate 4 (refine plan_free (v := ?_) rfl ?_ ?_; rotate_left; (focus (intro w' hI; go_simp; try with_reducible rfl)); simp only [Act.put, List.setIfInBounds_toArray, List.set_cons_zero, List.set_cons_succ])
          refine plan_big (bigC_mk rfl (fun K hK => ?_))
          go_wp2_with (with_reducible refine wpList_load_mid rfl _ _ rfl _ _ rfl _ _ (range_of (w := W2.drew) HJ2.out) Tryd.underlying31 rfl SK.out ?_)
          refine hK _ _ (fun _ => hp0) ?_
          clear hK K hp0
          refine plan_big (bigC_mk rfl (fun K hK => ?_))
          go_wp2_with (go_at_call 40; refine (HAF.out _ (HS0.out.still HT2.out.drew)).mono ?_; rintro e w6 ⟨rfl, t6⟩; have HT26 := Lib.hid ((Turns.refl nobody W2).drew.trans t6 (fun _ h => False.elim h)); have HT6 := Lib.hid (HT2.out.trans HT26.out (fun _ h => False.elim h)); clear t6)
          have hp6 : w6.cell? ⟨p, 0, none⟩ = some (.pointer (some ⟨pl, 0, none⟩)) := cells_of (HS0.out.still HT6.out).hp 0 _ rfl
          refine hK _ _ (fun _ => hp6) ?_
          clear hK K hp6
          repeat (refine plan_free (v := ?_) rfl ?_ ?_; rotate_left; (focus (intro w' hI; go_simp; try with_reducible rfl)); simp only [Act.put, List.setIfInBounds_toArray, List.set_cons_zero, List.set_cons_succ])
          refine plan_big (bigC_mk rfl (fun K hK => ?_))
          refine wpList_putc rfl _ _ _ rfl (idc (atX (ids (ents L)) (j + 1))) (heap_newer HJ2.out HT26.out (fun h => h)) (NN.out _ (by rw [List.size_toArray, idc_len, HID.out])) (idc_one _) rfl rfl SN.out ?_
          intro w7 t7 a7 z7
          have HT7 : Hid (Turns nobody w w7) := Lib.hid (HT6.out.trans t7 (fun i hi => Or.inr (by rw [hi]; exact HJ.out)))
          have hp7 : w7.cell? ⟨p, 0, none⟩ = some (.pointer (some ⟨pl, 0, none⟩)) := cells_of (HS0.out.still HT7.out).hp 0 _ rfl
          have hs7 := Sl.keep (Sl.keep HS2.out HT26.out (fun _ _ h => h)) t7 (fun i hi e => HN2.out (by rw [← e]; exact hi))
          have HS7 := Lib.hid hs7
          have HA7 := Lib.hid a7
          go_wp2
          refine hK _ _ (fun _ => hp7) ?_
          clear hK K hp7 t7 a7 z7 hs7
          repeat (refine plan_free (v := ?_) rfl ?_ ?_; rotate_left; (focus (intro w' hI; go_simp; try with_reducible rfl)); simp only [Act.put, List.setIfInBounds_toArray, List.set_cons_zero, List.set_cons_succ])
          refine plan_done ?_
          go_wp2
          go_roundw
          case rel =>
            refine ⟨j + 1, HLT.out, fun i hi => ?_, ?_, rfl, ⟨?_, HA7.out, HN2.out, HF2.out, HT7.out⟩⟩
            · rcases Nat.lt_or_ge i j with h | h
              · have := HBE.out i h; omega
              · rw [show i = j by omega]; have := HNO.out; omega
            · have := HLB.out; rw [HP2.out] at this; rw [show ((left P (ents L) (j + 1) : Nat) : Int) = (left P (ents L) j : Int) - (eb.size : Int) by omega]
            · have := HIO.out; rw [HP.out, HY1.out] at this; rw [this]; exact HS7.out
          case measure =>
            have h1 := HLT.out
            by_cases hn : j + 1 < (ents L).length
            · have e7 : placeIn (ids (ents L)) J w7 = j + 1 := place_in HS0.out.ndi (by rw [ids_len]; exact hn) (by have := HA7.out; rw [atX_ids hn] at this; rw [ids_get _ hn]; exact this)
              rw [decide_eq_true hn]
              show (ids (ents L)).length - placeIn (ids (ents L)) J w7 < (ids (ents L)).length - placeIn (ids (ents L)) J wr
              rw [e7, HME.out, ids_len]
              omega
            · rw [decide_eq_false hn]
              show 0 < (ids (ents L)).length - placeIn (ids (ents L)) J wr
              rw [HME.out, ids_len]
              omega
    · have hjl : j = (ents L).length := by omega
      rw [decide_eq_false hlt] at hok
      subst hok
      have hg := goes_eq (q := q) (n := n) hj hb (fun h => absurd h hlt)
      have hfit := fits_any p q (left P (ents L) j) n wr (cells_of (HS0.out.still hr.t).hp 1 _ rfl) HQ.out (by have := HFQ.out j; have := HQ.out; omega)
      have HR := Lib.hid hr
      by_cases hno : n ≤ (q : Int) - left P (ents L) j
      · have he : roomE P q n (ents L) = 0 := by unfold roomE roomOk; rw [HN0.out, hg, if_pos (decide_eq_true hno)]
        have hll : roomL P q n (ents L) = ids (outs P (ents L) j) := by unfold roomL roomIds; rw [if_pos he, hg]
        rw [decide_eq_true hno] at hfit
        have HE := Lib.hid he
        have HL := Lib.hid hll
        clear hr he hll hg hno hb hj hlt hjl
        go_wp2_with (go_at_call 35; refine hfit.mono ?_; rintro e w' ⟨rfl, rfl⟩)
        go_ret2
        exact ⟨_, by rw [HE.out]; rfl, by rw [HL.out]; exact HR.out.s, HR.out.f, HR.out.t⟩
      · have he : roomE P q n (ents L) = 14 := by unfold roomE roomOk; rw [HN0.out, hg, if_neg (by simpa using hno)]
        have hll : roomL P q n (ents L) = [] := by unfold roomL; rw [he]; rfl
        rw [decide_eq_false hno] at hfit
        have HE := Lib.hid he
        have HL := Lib.hid hll
        clear hr he hll hg hno hb hj hlt hjl
        go_wp2_with (go_at_call 35; refine hfit.mono ?_; rintro e w' ⟨rfl, rfl⟩)
        go_ret2
        exact ⟨_, by rw [HE.out]; rfl, by rw [HL.out]; exact Sl.nil _ _ _, (fun i h => by cases h), HR.out.t⟩

end Go.Proofs.YtjnplcajajdkiaaDoor.store
