/- Slices in a block with a mark behind its end (as []byte(s) makes it): append, and reading. No function of the program in sight. -/
import Derived.Test.YtjnplcajajdkiaaDoorAppKit
namespace Go.Proofs.YtjnplcajajdkiaaDoor.obj
open Go.RowKit
open Go.Proofs.YtjnplcajajdkiaaDoor.stepkit Go.Proofs.YtjnplcajajdkiaaDoor.row

/-- As Sl; the block may bear a mark behind its end. -/
def SlG (w : World) (e : TypeId) (sz : Nat) (v : Value) (n : Nat) (xs : List Value) : Prop :=
  xs.length = n * sz ∧ ((v = .slice none 0 0 ∧ n = 0) ∨
    ∃ g o cap cur fr, v = .slice (some ⟨g, o, none⟩) n cap ∧ w.heap[g]? = some (.cells cur e fr) ∧ (∀ i, i < cur.size → w.frozen? ⟨g, i, none⟩ = false) ∧ n ≤ cap ∧ cap ≤ maxLen ∧ o + cap * sz ≤ cur.size ∧ (cur.toList.drop o).take (n * sz) = xs)

theorem SlG.of_sl {w : World} {e : TypeId} {sz : Nat} {v : Value} {n : Nat} {xs : List Value} (h : Sl w e sz v n xs) : SlG w e sz v n xs := by
  obtain ⟨h1, h2 | ⟨g, o, cap, cur, hv, hg, hn, hm, hs, ht⟩⟩ := h
  · exact ⟨h1, Or.inl h2⟩
  · exact ⟨h1, Or.inr ⟨g, o, cap, cur, (0, 0), hv, hg, fun i _ => by simp [World.frozen?, hg], hn, hm, hs, ht⟩⟩

theorem SlG.of_heap {w w' : World} {e : TypeId} {sz : Nat} {v : Value} {n : Nat} {xs : List Value} (h : SlG w e sz v n xs) (hh : ∀ g, blk v g → w'.heap[g]? = w.heap[g]?) : SlG w' e sz v n xs := by
  obtain ⟨h1, h2 | ⟨g, o, cap, cur, fr, rfl, hg, hf, r⟩⟩ := h
  · exact ⟨h1, Or.inl h2⟩
  · exact ⟨h1, Or.inr ⟨g, o, cap, cur, fr, rfl, by rw [hh g rfl]; exact hg, fun i hi => (World.frozen?_of_block (w := w) (a := ⟨g, i, none⟩) (hh g rfl)).trans (hf i hi), r⟩⟩
theorem SlG.lt {w : World} {e : TypeId} {sz : Nat} {v : Value} {n : Nat} {xs : List Value} (h : SlG w e sz v n xs) : ∀ g, blk v g → g < w.heap.size := by
  intro g hg
  obtain ⟨_, ⟨rfl, _⟩ | ⟨g', o, cap, cur, fr, rfl, hh, _⟩⟩ := h
  · cases hg
  · simp only [blk, Value.ownBlock, Option.some.injEq] at hg
    subst hg
    rcases Nat.lt_or_ge g' w.heap.size with h1 | h1
    · exact h1
    · rw [Array.getElem?_eq_none h1] at hh; cases hh
theorem SlG.keep {w w' : World} {e : TypeId} {sz : Nat} {v : Value} {n : Nat} {xs : List Value} {F : Nat → Prop} (h : SlG w e sz v n xs) (ht : Turns F w w') (hd : ∀ i, blk v i → ¬ F i) : SlG w' e sz v n xs :=
  h.of_heap fun g hg => ht.block g (h.lt g hg) (hd g hg)
theorem SlG.shape {w : World} {e : TypeId} {sz : Nat} {v : Value} {n : Nat} {xs : List Value} (h : SlG w e sz v n xs) : ∃ ao cap, v = .slice ao n cap ∧ n ≤ cap ∧ cap ≤ maxLen ∧ (ao = none → n = 0 ∧ cap = 0) ∧ (∀ a, ao = some a → a.spot = none) := by
  obtain ⟨_, ⟨rfl, rfl⟩ | ⟨g, o, cap, cur, fr, rfl, _, _, hn, hm, _⟩⟩ := h
  · exact ⟨none, 0, rfl, Nat.le_refl _, Nat.zero_le _, (fun _ => ⟨rfl, rfl⟩), (fun _ h => by cases h)⟩
  · exact ⟨_, cap, rfl, hn, hm, (fun h => by cases h), (fun _ h => by cases h; rfl)⟩
theorem SlG.cell {w : World} {e : TypeId} {sz : Nat} {g o n cap : Nat} {sp : Option Nat} {xs : List Value} (h : SlG w e sz (.slice (some ⟨g, o, sp⟩) n cap) n xs) (i : Nat) (hi : i < xs.length) : w.cell? ⟨g, o + i, none⟩ = some (xs.getD i undef) := by
  obtain ⟨h1, ⟨hv, _⟩ | ⟨g', o', cap', cur, fr, hv, hh, _, hn, hm, hs, ht⟩⟩ := h
  · cases hv
  · cases hv
    have h2 : ((cur.toList.drop o).take (n * sz))[i]? = xs[i]? := by rw [ht]
    rw [List.getElem?_take, if_pos (by omega), List.getElem?_drop] at h2
    simp only [World.cell?, hh]
    simp only [Array.getElem?_toList] at h2
    simp [h2, List.getD, hi]
theorem SlG.some_of_pos {w : World} {e : TypeId} {sz : Nat} {v : Value} {n : Nat} {xs : List Value} (h : SlG w e sz v n xs) (hn : 0 < n) : ∃ g o cap, v = .slice (some ⟨g, o, none⟩) n cap := by
  obtain ⟨h1, ⟨_, h0⟩ | ⟨g, o, cap, cur, fr, hv, hh, _⟩⟩ := h
  · omega
  · exact ⟨g, o, cap, hv⟩

theorem setCells_exact (b : Nat) : ∀ (vs : List Value) (o : Nat) (w : World) (cs : List Value) (t : TypeId) (fr : Nat × Nat), w.heap[b]? = some (.cells cs.toArray t fr) → o + vs.length ≤ cs.length →
    (w.setCells b o vs).heap[b]? = some (.cells (cs.take o ++ vs ++ cs.drop (o + vs.length)).toArray t fr)
  | [], o, w, cs, t, fr, h, _ => by rw [List.append_nil, List.length_nil, Nat.add_zero, List.take_append_drop]; exact h
  | v :: vs, o, w, cs, t, fr, h, hl => by
    simp only [List.length_cons] at hl
    show ((w.setCell ⟨b, o, none⟩ v).setCells b (o + 1) vs).heap[b]? = _
    have h1 := heap_setCell_at h o v
    rw [List.setIfInBounds_toArray] at h1
    rw [setCells_exact b vs (o + 1) _ _ t fr h1 (by rw [List.length_set]; omega)]
    have e1 : (cs.set o v).take (o + 1) = cs.take o ++ [v] := by
      rw [List.take_set, List.take_add_one, List.getElem?_eq_getElem (by omega)]
      simp only [Option.toList_some]
      rw [List.set_append_right _ _ (by rw [List.length_take]; omega), List.length_take, Nat.min_eq_left (by omega), Nat.sub_self]
      rfl
    have e2 : (cs.set o v).drop (o + 1 + vs.length) = cs.drop (o + 1 + vs.length) := by rw [List.drop_set_of_lt (by omega)]
    have e3 : (cs.set o v).take (o + 1) ++ vs ++ (cs.set o v).drop (o + 1 + vs.length) = cs.take o ++ v :: vs ++ cs.drop (o + (v :: vs).length) := by
      rw [e1, e2, List.length_cons, show o + (vs.length + 1) = o + 1 + vs.length by omega]
      simp
    rw [e3]
theorem turns_setCells (b : Nat) : ∀ (vs : List Value) (o : Nat) (w : World), Turns (fun i => i = b) w (w.setCells b o vs)
  | [], _, w => Turns.refl _ _
  | v :: vs, o, w => by
    show Turns _ w ((w.setCell ⟨b, o, none⟩ v).setCells b (o + 1) vs)
    exact (Turns.set w b o v).trans (turns_setCells b vs (o + 1) _) (fun _ h => Or.inl h)

section
variable {P : Program} (w : World)

theorem run_append_src_slG (t tx ty e : TypeId) (i : TypeInfo) (z : Value) (size bytes : Nat) (ht : P.underlying t = some (.slice e)) (hi : P.info? e = some i) (hz : i.zero = some z)
    (hsize : i.size = size) (hby : i.bytes = bytes) (hzs : z.cells.size = size) (hsz : 0 < size) {v : Value} {n : Nat} {xs : List Value} (hv : SlG w e size v n xs)
    {x : Value} {m : Nat} {news : List Value} (hx : _root_.Go.Src P size tx x m news w) (h63 : n + m ≤ maxLen) (hbytes : (n + m) * bytes ≤ 140737488355328) :
    ∃ v' w', (Builtin.append_ #[t, tx] ty #[v, x]).run P w = .ok v' w' ∧ SlG w' e size v' (n + m) (xs ++ news) ∧ Turns (blk v) w w' ∧ (∀ k, blk v' k → blk v k ∨ w.heap.size ≤ k) := by
  obtain ⟨hvl, ⟨hv0, hn0⟩ | ⟨g, o, cap, cur, fr, hv0, hg, hf, hnc, hcm, hcs, htake⟩⟩ := hv
  · obtain ⟨v', w', h1, h2, h3, h4, _⟩ := run_append_src_sl (P := P) w t tx ty e i z size bytes ht hi hz hsize hby hzs hsz (v := v) (n := n) (xs := xs) ⟨hvl, Or.inl ⟨hv0, hn0⟩⟩ hx h63 hbytes
    exact ⟨v', w', h1, SlG.of_sl h2, h3, h4⟩
  · subst hsize hby hv0
    have hl := hx.newsLen
    have hsmall : n + m ≤ 9223372036854775807 := by simp only [maxLen] at h63; omega
    have hlen : (xs ++ news).length = (n + m) * i.size := by rw [List.length_append, hvl, hl, Nat.add_mul]
    by_cases hroom : n + m ≤ cap
    · have hmul : (n + m) * i.size ≤ cap * i.size := Nat.mul_le_mul_right _ hroom
      have hfit : o + n * i.size + news.length ≤ cur.size := by rw [hl]; rw [Nat.add_mul] at hmul; omega
      have hr := run_append_room_src (P := P) w t tx ty e i ht hi g o n cap x m news hx hroom (fun j hj => by
        have hj' : o + n * i.size + j < cur.size := by omega
        simp only [World.cell?, hg]; simp [hj']) (fun j hj => hf _ (by omega))
      have hg' : w.heap[g]? = some (.cells cur.toList.toArray e fr) := by rw [Array.toArray_toList]; exact hg
      have hex := setCells_exact g news (o + n * i.size) w cur.toList e fr hg' (by rw [Array.length_toList]; exact hfit)
      refine ⟨_, _, hr, ⟨hlen, .inr ⟨g, o, cap, _, fr, rfl, hex, fun j hj => ?_, hroom, hcm, ?_, ?_⟩⟩, (turns_setCells g news _ w).mono (fun k hk => Or.inl (by simp [blk, Value.ownBlock, hk])), fun k hk => Or.inl hk⟩
      · have hj' : j < cur.size := by
          simp only [List.size_toArray, List.length_append, List.length_take, List.length_drop, Array.length_toList] at hj
          omega
        have hj2 := hf j hj'
        simp only [World.frozen?, hg] at hj2
        simp only [World.frozen?, hex]
        exact hj2
      · simp only [List.size_toArray, List.length_append, List.length_take, List.length_drop, Array.length_toList]
        omega
      · have h2 : cur.toList.take (o + n * i.size) = cur.toList.take o ++ xs := by rw [← htake, List.take_add]
        rw [h2, List.append_assoc, List.append_assoc]
        have h3 : (cur.toList.take o).length = o := by rw [List.length_take, Array.length_toList]; omega
        rw [List.drop_append_of_le_length (by omega), List.drop_of_length_le (by omega), List.nil_append, ← List.append_assoc, ← hlen, List.take_left]
    · have holds : ∀ j u, xs[j]? = some u → w.drew.cell? ((⟨g, o, none⟩ : Addr).add j) = some u := fun j u hj => by
        have hj' : j < xs.length := (List.getElem?_eq_some_iff.1 hj).1
        rw [Addr.add_lit]
        have := SlG.cell (w := w) (e := e) (sz := i.size) (cap := cap) (sp := none) (xs := xs) ⟨hvl, Or.inr ⟨g, o, cap, cur, fr, rfl, hg, hf, hnc, hcm, hcs, htake⟩⟩ j hj'
        rw [show w.drew.cell? ⟨g, o + j, none⟩ = w.cell? ⟨g, o + j, none⟩ from rfl, this]
        simpa [List.getD, hj'] using hj
      have hr := run_append_grow_src (P := P) w t tx ty e i z ht hi hz (some ⟨g, o, none⟩) n cap xs (run_firstCells_some w.drew i.size n ⟨g, o, none⟩ n cap xs hvl holds) x m news hx (by omega) (by omega) (growslice_fits (by omega) hbytes)
      have hge := grownCap_ge w (n + m) cap e
      have hcm' : grownCap w (n + m) cap e ≤ maxLen := grownCap_le_maxLen w (n + m) cap e h63
      refine ⟨_, _, hr, SlG.of_sl ⟨hlen, .inr ⟨w.heap.size, 0, _, _, rfl, heap_alloc_new w.drew _, hge, hcm', ?_, ?_⟩⟩, ((Turns.refl nobody _).drew.alloc _).mono (fun _ h => h.elim), fun k hk => Or.inr ?_⟩
      · simp only [Array.size_append, List.size_toArray, size_zeroCells, hzs, List.length_append, hvl, hl, ← Nat.add_mul]
        rw [show n + m + (grownCap w (n + m) cap e - (n + m)) = grownCap w (n + m) cap e by omega]
        omega
      · simp only [Array.toList_append, List.drop_zero]
        rw [← hlen]
        exact List.take_left
      · simp only [blk, Value.ownBlock, Option.some.injEq] at hk
        omega
end

section
variable {P : Program} {ops : Array Oper} {rest : List Oper} {o : Oper} {a : Act} {w : World} {Q : Exit → Act → World → Prop}

theorem wpList_append_srcG (hgd : o.guard = none) (s x : Operand) (t tx : TypeId) (ho : o.op = .call { callee := .builtin .append, args := #[s, x], argTypes := #[t, tx] })
    {e : TypeId} {i : TypeInfo} {z : Value} {size bytes : Nat} (ht : P.underlying t = some (.slice e)) (hi : P.info? e = some i) (hz : i.zero = some z)
    (hsize : i.size = size) (hby : i.bytes = bytes) (hzs : z.cells.size = size) (hsz : 0 < size) {v xv : Value} {n m : Nat} {xs news : List Value} (hs : a.eval s = v) (hx : a.eval x = xv) (hv : SlG w e size v n xs)
    (hxs : _root_.Go.Src P size tx xv m news w) (h63 : n + m ≤ maxLen) (hbytes : (n + m) * bytes ≤ 140737488355328)
    (h : ∀ v' w', SlG w' e size v' (n + m) (xs ++ news) → Turns (blk v) w w' → Newer v v' w → wpList P ops Q rest (a.put o.dst v') w') : wpList P ops Q (o :: rest) a w := by
  refine wpList_plain hgd fun K hK => ?_
  obtain ⟨v', w', hr, h1, h2, h3⟩ := run_append_src_slG (P := P) w t tx o.type e i z size bytes ht hi hz hsize hby hzs hsz hv hxs h63 hbytes
  unfold Oper.wp execOp
  simp only [ho, resolve, invoke, builtin, Sem.run_bind, Sem.run_pure, Result.andThen_ok, List.map_toArray, List.map_cons, List.map_nil, hs, hx, hr]
  exact hK _ _ (h v' w' h1 h2 h3)
end
end Go.Proofs.YtjnplcajajdkiaaDoor.obj
