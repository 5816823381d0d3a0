/- Package store and the reference's: their answers, in one form. -/
import Derived.Test.YtjnplcajajdkiaaDoorStoRefPut
import Derived.Test.YtjnplcajajdkiaaDoorStoRefRoom
namespace Go.Proofs.YtjnplcajajdkiaaDoor.store
open Go.RowKit
open Go.Proofs.YtjnplcajajdkiaaDoor.stepkit Go.Proofs.YtjnplcajajdkiaaDoor.eqkit Go.Proofs.YtjnplcajajdkiaaDoor.idkit Go.Proofs.YtjnplcajajdkiaaDoor.obj Go.Proofs.YtjnplcajajdkiaaDoor.row Go.Proofs.YtjnplcajajdkiaaDoor.mapkit Go.Proofs.YtjnplcajajdkiaaDoor.mix Go.Proofs.YtjnplcajajdkiaaDoor.lru
open Go.Proofs.YtjnplcajajdkiaaDoor.sha (Tabs wpList_putc new32 range_of)

def sumB (b : ByteArray) : List Int := sha.sum b.data.toList
theorem sumB_len (b : ByteArray) : (sumB b).length = 32 := sha.sum_len _
/-- What Put answers, and what is held behind it. -/
def putI (q : Nat) (E : Held) (b : ByteArray) : List Int := if checkE b = 0 ∧ (sumB b ∈ ids E ∨ sz E + b.size ≤ q) then sumB b else zid
def putN (q : Nat) (E : Held) (b : ByteArray) : Int := if checkE b ≠ 0 then checkE b else if sumB b ∈ ids E ∨ sz E + b.size ≤ q then 0 else 14
def putH (q : Nat) (E : Held) (b : ByteArray) : Held := if checkE b = 0 ∧ sumB b ∉ ids E ∧ sz E + b.size ≤ q then E ++ [(sumB b, b)] else E
def useH (E : Held) (id : List Int) : Held := if id ∈ ids E then dropE E id ++ [(id, (en E (placeE E id)).2)] else E
def pinP (E : Held) (P : List (List Int)) (id : List Int) : List (List Int) := if id ∈ ids E then useL P id else P
def dropP (E : Held) (P : List (List Int)) (id : List Int) : List (List Int) := if id ∈ ids E then dropL P id else P
def dropH (E : Held) (id : List Int) : Held := if id ∈ ids E then dropE E id else E

theorem putI_len (q : Nat) (E : Held) (b : ByteArray) : (putI q E b).length = 32 := by unfold putI; split; exact sumB_len b; exact zid_len

section
variable {q k : Nat} {E : Held} {P : List (List Int)}
theorem Ok.putH (h : Ok q k E P) (b : ByteArray) : Ok q (k + 1) (putH q E b) P := by
  unfold store.putH
  split
  · next hh => exact h.put (sumB_len b) hh.2.1 hh.2.2
  · exact h.mono (Nat.le_succ k)
theorem Ok.useH (h : Ok q k E P) (id : List Int) : Ok q (k + 1) (useH E id) P := by
  unfold store.useH
  split
  · next hh =>
    have h1 := h.use (place_lt hh)
    have e := place_id (place_lt hh)
    have e2 : en E (placeE E id) = (id, (en E (placeE E id)).2) := Prod.ext e rfl
    rw [e, e2] at h1
    exact h1.mono (Nat.le_succ k)
  · exact h.mono (Nat.le_succ k)
theorem Ok.pinP (h : Ok q k E P) (id : List Int) : Ok q (k + 1) E (pinP E P id) := by
  unfold store.pinP
  split
  · next hh => exact h.pin hh
  · exact h.mono (Nat.le_succ k)
theorem Ok.dropHP (h : Ok q k E P) (id : List Int) : Ok q (k + 1) (dropH E id) (dropP E P id) := by
  unfold store.dropH store.dropP
  split
  · exact (h.drop id).mono (Nat.le_succ k)
  · exact h.mono (Nat.le_succ k)
end

section
variable {p X q k : Nat} {E : Held} {P : List (List Int)} {F G : Nat → Prop} {w : World}
theorem at_open (h : StAt p q E P F w) : ∃ pl mb L G, ents L = E ∧ StC p pl mb q L P G w ∧ F = foot p mb L G := h

theorem put_st (h : StAt p q E P F w) (ho : Ok q k E P) (hk : k ≤ 1000) (htab : Tabs w) (b : ByteArray) (hb : b.size ≤ 1000000) :
    Calls Tryd.prog 10 #[.pointer (some ⟨p, 0, none⟩), .string b] w fun e w' => e = .returned (.tuple #[.agg (idc (putI q E b)).toArray, .int .i64 (putN q E b)]) ∧ Step F (StAt p q (putH q E b) P) w w' := by
  obtain ⟨pl, mb, L, G, rfl, hc, rfl⟩ := h
  have hq := ho.qle
  have hs := ho.fits
  unfold putI putN putH
  by_cases h1 : checkE b = 0
  · by_cases h2 : sumB b ∈ ids (ents L)
    · rw [if_pos ⟨h1, Or.inl h2⟩, if_neg (by simpa using h1), if_pos (Or.inl h2), if_neg (fun h => h.2.1 h2)]
      exact (put_old hc htab b hb h1 rfl h2).mono fun e w' ⟨he, ht⟩ => ⟨he, Step.same (hc.still ht).at (ht.mono (fun _ h => h.elim))⟩
    · by_cases h3 : sz (ents L) + b.size ≤ q
      · rw [if_pos ⟨h1, Or.inr h3⟩, if_neg (by simpa using h1), if_pos (Or.inr h3), if_pos ⟨h1, h2, h3⟩]
        exact put_new hc htab hq hs b hb h1 rfl h2 (fun hp => h2 (ho.sub _ hp)) (by omega)
      · rw [if_neg (fun h => by rcases h.2 with h | h; exact h2 h; exact h3 h), if_neg (by simpa using h1), if_neg (fun h => by rcases h with h | h; exact h2 h; exact h3 h), if_neg (fun h => h3 h.2.2)]
        exact (put_full hc htab hq hs b hb h1 rfl h2 (by omega)).mono fun e w' ⟨he, ht⟩ => ⟨he, Step.same (hc.still ht).at (ht.mono (fun _ h => h.elim))⟩
  · rw [if_neg (fun h => h1 h.1), if_pos h1, if_neg (fun h => h1 h.1)]
    exact (put_bad hc b hb h1).mono fun e w' ⟨he, ht⟩ => ⟨he, Step.same (hc.still ht).at (ht.mono (fun _ h => h.elim))⟩
theorem put_rf (h : RefAt X (q : Int) E P G w) (ho : Ok q k E P) (hk : k ≤ 1000) (b : ByteArray) (hb : b.size ≤ 1000000) :
    Calls Tryd.prog 42 #[.pointer (some ⟨X, 0, none⟩), .string b] w fun e w' => e = .returned (.tuple #[.agg (idc (putI q E b)).toArray, .int .i64 (putN q E b)]) ∧ Step G (RefAt X q (putH q E b) P) w w' := by
  have hA := local_ref X q E P
  have h' := h
  obtain ⟨v1, v2, v3, hc, rfl⟩ := h
  have hq := ho.qle
  have hs := ho.fits
  have hl : E.length ≤ 1000 := Nat.le_trans ho.len hk
  have same : ∀ w', Turns nobody w w' → Step (rfoot X v1 v2 v3) (RefAt X q E P) w w' := fun w' ht => Step.same (hA.keep h' ht (fun _ _ h => h)) (ht.mono (fun _ h => h.elim))
  unfold putI putN putH
  by_cases h1 : checkE b = 0
  · by_cases h2 : sumB b ∈ ids E
    · rw [if_pos ⟨h1, Or.inl h2⟩, if_neg (by simpa using h1), if_pos (Or.inl h2), if_neg (fun h => h.2.1 h2)]
      exact (rput_old hc ho.wh hl b hb h1 rfl h2).mono fun e w' ⟨he, ht⟩ => ⟨he, same _ ht⟩
    · by_cases h3 : sz E + b.size ≤ q
      · rw [if_pos ⟨h1, Or.inr h3⟩, if_neg (by simpa using h1), if_pos (Or.inr h3), if_pos ⟨h1, h2, h3⟩]
        exact rput_new hc ho.wh hl (by omega) b hb h1 rfl h2 (by omega)
      · rw [if_neg (fun h => by rcases h.2 with h | h; exact h2 h; exact h3 h), if_neg (by simpa using h1), if_neg (fun h => by rcases h with h | h; exact h2 h; exact h3 h), if_neg (fun h => h3 h.2.2)]
        exact (rput_full hc ho.wh hl (by omega) b hb h1 rfl h2 (by omega)).mono fun e w' ⟨he, ht⟩ => ⟨he, same _ ht⟩
  · rw [if_neg (fun h => h1 h.1), if_pos h1, if_neg (fun h => h1 h.1)]
    exact (rput_bad hc b hb h1).mono fun e w' ⟨he, ht⟩ => ⟨he, same _ ht⟩

theorem use_st (h : StAt p q E P F w) (id : List Int) (hid : id.length = 32) :
    Calls Tryd.prog 11 #[.pointer (some ⟨p, 0, none⟩), .agg (idc id).toArray] w fun e w' => e = .returned (.int .i64 (getI E id)) ∧ Step F (StAt p q (useH E id) P) w w' := by
  obtain ⟨pl, mb, L, G, rfl, hc, rfl⟩ := h
  unfold useH getI
  by_cases hm : id ∈ ids (ents L)
  · rw [if_pos hm, if_pos hm]
    obtain ⟨x, hx, hxi⟩ := mem_ents hm
    have := use_yes hc hx hxi
    obtain ⟨i, hi, hei⟩ := ent_at hx
    have hpl : placeE (ents L) id = i := by rw [← hxi, ← show (en (ents L) i).1 = x.id by rw [hei]]; exact place_of hc.ndi hi
    rw [hpl, hei]
    exact this
  · rw [if_neg hm, if_neg hm]
    exact (use_no hc hid hm).mono fun e w' ⟨he, ht⟩ => ⟨he, Step.same (hc.still ht).at (ht.mono (fun _ h => h.elim))⟩
theorem pin_st (h : StAt p q E P F w) (ho : Ok q k E P) (id : List Int) (hid : id.length = 32) :
    Calls Tryd.prog 12 #[.pointer (some ⟨p, 0, none⟩), .agg (idc id).toArray] w fun e w' => e = .returned (.int .i64 (getI E id)) ∧ Step F (StAt p q E (pinP E P id)) w w' := by
  obtain ⟨pl, mb, L, G, rfl, hc, rfl⟩ := h
  have hq := ho.qle
  have hs := ho.fits
  unfold pinP getI
  by_cases hm : id ∈ ids (ents L)
  · rw [if_pos hm, if_pos hm]
    obtain ⟨x, hx, hxi⟩ := mem_ents hm
    exact pin_yes hc hx hxi (by omega)
  · rw [if_neg hm, if_neg hm]
    exact (pin_no hc hid hm).mono fun e w' ⟨he, ht⟩ => ⟨he, Step.same (hc.still ht).at (ht.mono (fun _ h => h.elim))⟩
theorem drop_st (h : StAt p q E P F w) (ho : Ok q k E P) (id : List Int) (hid : id.length = 32) :
    Calls Tryd.prog 18 #[.pointer (some ⟨p, 0, none⟩), .agg (idc id).toArray] w fun e w' => e = .returned (.int .i64 (getI E id)) ∧ Step F (StAt p q (dropH E id) (dropP E P id)) w w' := by
  obtain ⟨pl, mb, L, G, rfl, hc, rfl⟩ := h
  have hq := ho.qle
  have hs := ho.fits
  unfold dropH dropP getI
  by_cases hm : id ∈ ids (ents L)
  · rw [if_pos hm, if_pos hm, if_pos hm]
    obtain ⟨x, hx, hxi⟩ := mem_ents hm
    exact drop_yes hc hx hxi (by omega)
  · rw [if_neg hm, if_neg hm, if_neg hm]
    exact (drop_no hc hid hm).mono fun e w' ⟨he, ht⟩ => ⟨he, Step.same (hc.still ht).at (ht.mono (fun _ h => h.elim))⟩
theorem room_st (h : StAt p q E P F w) (ho : Ok q k E P) (hk : k ≤ 1000) (n : Int) :
    Calls Tryd.prog 14 #[.pointer (some ⟨p, 0, none⟩), .int .i64 n] w fun e w' => ∃ v, e = .returned (.tuple #[v, .int .i64 (roomE P q n E)]) ∧ ISl w' v (roomL P q n E) ∧ (∀ j, blk v j → w.heap.size ≤ j) ∧ Turns nobody w w' := by
  obtain ⟨pl, mb, L, G, rfl, hc, rfl⟩ := h
  by_cases hn : n < 0
  · have he : roomE P q n (ents L) = 1 := by unfold roomE; rw [if_pos hn]
    have hl : roomL P q n (ents L) = [] := by unfold roomL; rw [he]; rfl
    rw [he, hl]
    exact (room_arg hc n hn).mono fun e w' ⟨he, ht⟩ => by subst ht; exact ⟨_, he, Sl.nil _ _ _, (fun j h => by cases h), Turns.refl _ _⟩
  · exact room_yes hc n hn ho.qle ho.fits (Nat.le_trans ho.len hk)
theorem use_rf (h : RefAt X (q : Int) E P G w) (ho : Ok q k E P) (hk : k ≤ 1000) (id : List Int) (hid : id.length = 32) :
    Calls Tryd.prog 43 #[.pointer (some ⟨X, 0, none⟩), .agg (idc id).toArray] w fun e w' => e = .returned (.int .i64 (getI E id)) ∧ Step G (RefAt X q (useH E id) P) w w' := by
  have hA := local_ref X q E P
  have h' := h
  obtain ⟨v1, v2, v3, hc, rfl⟩ := h
  have hl : E.length ≤ 1000 := Nat.le_trans ho.len hk
  unfold useH getI
  by_cases hm : id ∈ ids E
  · rw [if_pos hm, if_pos hm]
    exact use_ref_yes hc ho.wh ho.nd ho.pwh hl (Nat.le_trans ho.plen hk) id hid hm
  · rw [if_neg hm, if_neg hm]
    exact (use_ref_no hc ho.wh (by omega) id hid hm).mono fun e w' ⟨he, ht⟩ => ⟨he, Step.same (hA.keep h' ht (fun _ _ h => h)) (ht.mono (fun _ h => h.elim))⟩
theorem pin_rf (h : RefAt X (q : Int) E P G w) (ho : Ok q k E P) (hk : k ≤ 1000) (id : List Int) (hid : id.length = 32) :
    Calls Tryd.prog 44 #[.pointer (some ⟨X, 0, none⟩), .agg (idc id).toArray] w fun e w' => e = .returned (.int .i64 (getI E id)) ∧ Step G (RefAt X q E (pinP E P id)) w w' := by
  have hA := local_ref X q E P
  have h' := h
  obtain ⟨v1, v2, v3, hc, rfl⟩ := h
  have hl : E.length ≤ 1000 := Nat.le_trans ho.len hk
  unfold pinP getI
  by_cases hm : id ∈ ids E
  · rw [if_pos hm, if_pos hm]
    exact pin_ref_yes hc ho.wh ho.nd ho.pwh hl (Nat.le_trans ho.plen hk) id hid hm
  · rw [if_neg hm, if_neg hm]
    exact (pin_ref_no hc ho.wh (by omega) id hid hm).mono fun e w' ⟨he, ht⟩ => ⟨he, Step.same (hA.keep h' ht (fun _ _ h => h)) (ht.mono (fun _ h => h.elim))⟩
theorem drop_rf (h : RefAt X (q : Int) E P G w) (ho : Ok q k E P) (hk : k ≤ 1000) (id : List Int) (hid : id.length = 32) :
    Calls Tryd.prog 45 #[.pointer (some ⟨X, 0, none⟩), .agg (idc id).toArray] w fun e w' => e = .returned (.int .i64 (getI E id)) ∧ Step G (RefAt X q (dropH E id) (dropP E P id)) w w' := by
  have hA := local_ref X q E P
  have h' := h
  obtain ⟨v1, v2, v3, hc, rfl⟩ := h
  have hl : E.length ≤ 1000 := Nat.le_trans ho.len hk
  unfold dropH dropP getI
  by_cases hm : id ∈ ids E
  · rw [if_pos hm, if_pos hm, if_pos hm]
    exact drop_ref_yes hc ho.wh ho.nd ho.pwh hl (Nat.le_trans ho.plen hk) id hid hm
  · rw [if_neg hm, if_neg hm, if_neg hm]
    exact (drop_ref_no hc ho.wh (by omega) id hid hm).mono fun e w' ⟨he, ht⟩ => ⟨he, Step.same (hA.keep h' ht (fun _ _ h => h)) (ht.mono (fun _ h => h.elim))⟩
theorem room_rf (h : RefAt X (q : Int) E P G w) (ho : Ok q k E P) (hk : k ≤ 1000) (n : Int) :
    Calls Tryd.prog 46 #[.pointer (some ⟨X, 0, none⟩), .int .i64 n] w fun e w' => ∃ v, e = .returned (.tuple #[v, .int .i64 (roomE P q n E)]) ∧ ISl w' v (roomL P q n E) ∧ (∀ j, blk v j → w.heap.size ≤ j) ∧ Turns nobody w w' := by
  obtain ⟨v1, v2, v3, hc, rfl⟩ := h
  by_cases hn : n < 0
  · have he : roomE P q n E = 1 := by unfold roomE; rw [if_pos hn]
    have hl : roomL P q n E = [] := by unfold roomL; rw [he]; rfl
    rw [he, hl]
    exact (rroom_arg X n hn w).mono fun e w' ⟨he, ht⟩ => by subst ht; exact ⟨_, he, Sl.nil _ _ _, (fun j h => by cases h), Turns.refl _ _⟩
  · exact rroom_yes hc ho.wh ho.pwh n hn ho.qle ho.fits (Nat.le_trans ho.len hk) (Nat.le_trans ho.plen hk)

/-! ### What is told -/
theorem all_st (h : StAt p q E P F w) (hl : E.length ≤ 1000) : Calls Tryd.prog 13 #[.pointer (some ⟨p, 0, none⟩)] w fun e w' => ∃ v, e = .returned v ∧ ISl w' v (ids E) ∧ (∀ j, blk v j → w.heap.size ≤ j) ∧ Turns nobody w w' := by
  obtain ⟨pl, mb, L, G, rfl, hc, rfl⟩ := h
  exact all_store hc (by rw [ents_len] at hl; omega)
theorem bytes_st (h : StAt p q E P F w) : Calls Tryd.prog 17 #[.pointer (some ⟨p, 0, none⟩)] w fun e w' => e = .returned (.int .i64 (sz E : Int)) ∧ w = w' := by
  obtain ⟨pl, mb, L, G, rfl, hc, rfl⟩ := h
  exact bytes_any hc
theorem pinned_st (h : StAt p q E P F w) : Calls Tryd.prog 15 #[.pointer (some ⟨p, 0, none⟩)] w fun e w' => e = .returned (.int .i64 (pins P E : Int)) ∧ w = w' := by
  obtain ⟨pl, mb, L, G, rfl, hc, rfl⟩ := h
  exact pinned_any hc
theorem has_st (h : StAt p q E P F w) (id : List Int) (hid : id.length = 32) : Calls Tryd.prog 25 #[.pointer (some ⟨p, 0, none⟩), .agg (idc id).toArray] w fun e w' => e = .returned (.bool (decide (id ∈ ids E))) ∧ Turns nobody w w' := by
  obtain ⟨pl, mb, L, G, rfl, hc, rfl⟩ := h
  exact has_any hc hid
theorem get_st (h : StAt p q E P F w) (id : List Int) (hid : id.length = 32) : Calls Tryd.prog 23 #[.pointer (some ⟨p, 0, none⟩), .agg (idc id).toArray] w fun e w' => e = .returned (.tuple #[.string (getS E id), .int .i64 (getI E id)]) ∧ Turns nobody w w' := by
  obtain ⟨pl, mb, L, G, rfl, hc, rfl⟩ := h
  unfold getS getI
  by_cases hm : id ∈ ids (ents L)
  · rw [if_pos hm, if_pos hm]
    obtain ⟨x, hx, hxi⟩ := mem_ents hm
    obtain ⟨i, hi, hei⟩ := ent_at hx
    have hpl : placeE (ents L) id = i := by rw [← hxi, ← show (en (ents L) i).1 = x.id by rw [hei]]; exact place_of hc.ndi hi
    rw [hpl, hei]
    exact get_yes hc hx hxi
  · rw [if_neg hm, if_neg hm]
    exact get_no hc hid hm
end

end Go.Proofs.YtjnplcajajdkiaaDoor.store
