/- append of whatever is appended (a slice, a text), onto a slice at any place. No function of the program in sight. -/
import Derived.Test.YtjnplcajajdkiaaDoorObj
import Derived.Deep.AppendSrc
namespace Go.Proofs.YtjnplcajajdkiaaDoor.obj
open Go.RowKit
open Go.Proofs.YtjnplcajajdkiaaDoor.stepkit Go.Proofs.YtjnplcajajdkiaaDoor.row

section
variable {P : Program} (w : World)

theorem run_append_src_sl (t tx ty e : TypeId) (i : TypeInfo) (z : Value) (size bytes : Nat) (ht : P.underlying t = some (.slice e)) (hi : P.info? e = some i) (hz : i.zero = some z)
    (hsize : i.size = size) (hby : i.bytes = bytes) (hzs : z.cells.size = size) (hsz : 0 < size) {v : Value} {n : Nat} {xs : List Value} (hv : Sl w e size v n xs)
    {x : Value} {m : Nat} {news : List Value} (hx : _root_.Go.Src P size tx x m news w) (h63 : n + m ≤ maxLen) (hbytes : (n + m) * bytes ≤ 140737488355328) :
    ∃ v' w', (Builtin.append_ #[t, tx] ty #[v, x]).run P w = .ok v' w' ∧ Sl w' e size v' (n + m) (xs ++ news) ∧ Turns (blk v) w w' ∧ (∀ k, blk v' k → blk v k ∨ w.heap.size ≤ k) ∧
      (∀ ao, v = .slice ao n n → Turns nobody w w' ∧ (0 < m → ∀ k, blk v' k → w.heap.size ≤ k)) := by
  subst hsize
  subst hby
  have hl := hx.newsLen
  have hsmall : n + m ≤ 9223372036854775807 := by simp only [maxLen] at h63; omega
  have hlen : (xs ++ news).length = (n + m) * i.size := by rw [List.length_append, hv.1, hl, Nat.add_mul]
  have grown : ∀ (old : Nat), old < n + m →
      Sl (w.drew.alloc (.cells ((xs ++ news).toArray ++ Builtin.zeroCells z.cells (grownCap w (n + m) old e - (n + m))) e)) e i.size
        (.slice (some ⟨w.heap.size, 0, none⟩) (n + m) (grownCap w (n + m) old e)) (n + m) (xs ++ news) ∧
      Turns nobody w (w.drew.alloc (.cells ((xs ++ news).toArray ++ Builtin.zeroCells z.cells (grownCap w (n + m) old e - (n + m))) e)) := by
    intro old ho
    have hge := grownCap_ge w (n + m) old e
    have hcm : grownCap w (n + m) old e ≤ maxLen := grownCap_le_maxLen w (n + m) old e h63
    refine ⟨⟨hlen, .inr ⟨w.heap.size, 0, _, _, rfl, heap_alloc_new w.drew _, hge, hcm, ?_, ?_⟩⟩, (Turns.refl _ _).drew.alloc _⟩
    · simp only [Array.size_append, List.size_toArray, size_zeroCells, hzs, List.length_append, hv.1, hl, ← Nat.add_mul]
      rw [show n + m + (grownCap w (n + m) old e - (n + m)) = grownCap w (n + m) old e by omega]
      omega
    · simp only [Array.toList_append, List.drop_zero]
      rw [← hlen]
      exact List.take_left
  have newk : ∀ c, ∀ k, blk (.slice (some ⟨w.heap.size, 0, none⟩) (n + m) c) k → w.heap.size ≤ k := by
    intro c k hk
    simp only [blk, Value.ownBlock, Option.some.injEq] at hk
    omega
  have any : ∀ w', Turns nobody w w' → Turns (blk v) w w' := fun w' h => h.mono fun _ h => h.elim
  by_cases hm : m = 0
  · subst hm
    have hn0 : news = [] := List.eq_nil_of_length_eq_zero (by simpa using hl)
    subst hn0
    refine ⟨v, w, ?_, by simpa using hv, Turns.refl _ _, fun k hk => Or.inl hk, fun ao _ => ⟨Turns.refl _ _, fun h => by omega⟩⟩
    obtain ⟨ao, cap, rfl, hnc, _, hao, _⟩ := hv.shape
    cases ao with
    | none =>
      obtain ⟨rfl, rfl⟩ := hao rfl
      rcases hx.kind with ⟨e', hk⟩ | hk <;> simp [Builtin.append_, run_underlying ht, run_underlying hk, sizeOf, typeInfo, hi, hx.len, hx.cells]
    | some b => rcases hx.kind with ⟨e', hk⟩ | hk <;> simp [Builtin.append_, run_underlying ht, run_underlying hk, sizeOf, typeInfo, hi, hx.len, hx.cells, hnc, storeCells]
  · have hv' := hv
    obtain ⟨hvl, ⟨rfl, rfl⟩ | ⟨g, o, cap, cur, rfl, hg, hnc, hcm, hcs, htake⟩⟩ := hv'
    · have hx0 : xs = [] := List.eq_nil_of_length_eq_zero (by simpa using hvl)
      subst hx0
      have hr := run_append_grow_src (P := P) w t tx ty e i z ht hi hz none 0 0 [] (run_firstCells_none w.drew i.size 0 0 0) x m news hx (by omega) (by omega) (growslice_fits (by omega) hbytes)
      have hgr := grown 0 (by omega)
      exact ⟨_, _, hr, hgr.1, any _ hgr.2, fun k hk => Or.inr (newk _ k hk), fun _ _ => ⟨hgr.2, fun _ k hk => newk _ k hk⟩⟩
    · by_cases hroom : n + m ≤ cap
      · have hmul : (n + m) * i.size ≤ cap * i.size := Nat.mul_le_mul_right _ hroom
        have hfit : o + n * i.size + news.length ≤ cur.size := by rw [hl]; rw [Nat.add_mul] at hmul; omega
        have hr : (Builtin.append_ #[t, tx] ty #[.slice (some ⟨g, o, none⟩) n cap, x]).run P w =
            .ok (.slice (some ⟨g, o, none⟩) (n + m) cap) (w.setRow g (cur.toList.take (o + n * i.size) ++ news ++ cur.toList.drop (o + n * i.size + news.length)).toArray) := by
          have hst := run_storeCells_at P g (o + n * i.size) e news 0 cur w hg (by simpa using hfit) hx.one
          simp only [Nat.add_zero] at hst
          rcases hx.kind with ⟨e', hk⟩ | hk <;> simp [Builtin.append_, run_underlying ht, run_underlying hk, sizeOf, typeInfo, hi, hx.len, hroom, hx.cells, Addr.add_lit, hst]
        refine ⟨_, _, hr, ⟨hlen, .inr ⟨g, o, cap, _, rfl, setRow_heap w g cur _ e _ hg, hroom, hcm, ?_, ?_⟩⟩, ⟨rfl, rfl, rfl, by simp, fun k _ hk => setRow_other w g k _ (fun e => hk (by simp [blk, Value.ownBlock, e]))⟩, fun k hk => Or.inl hk, fun ao hao => ?_⟩
        · simp only [List.size_toArray, List.length_append, List.length_take, List.length_drop, Array.length_toList]
          omega
        · have h2 : cur.toList.take (o + n * i.size) = cur.toList.take o ++ xs := by rw [← htake, List.take_add]
          rw [h2, List.append_assoc, List.append_assoc]
          have h3 : (cur.toList.take o).length = o := by rw [List.length_take, Array.length_toList]; omega
          rw [List.drop_append_of_le_length (by omega), List.drop_of_length_le (by omega), List.nil_append, ← List.append_assoc, ← hlen, List.take_left]
        · simp only [Value.slice.injEq] at hao
          omega
      · have holds : ∀ j u, xs[j]? = some u → w.drew.cell? ((⟨g, o, none⟩ : Addr).add j) = some u := fun j u hj => by
          have hj' : j < xs.length := (List.getElem?_eq_some_iff.1 hj).1
          rw [Addr.add_lit]
          have := hv.cell j hj'
          rw [show w.drew.cell? ⟨g, o + j, none⟩ = w.cell? ⟨g, o + j, none⟩ from rfl, this]
          simpa [List.getD, hj'] using hj
        have hr := run_append_grow_src (P := P) w t tx ty e i z ht hi hz (some ⟨g, o, none⟩) n cap xs (run_firstCells_some w.drew i.size n ⟨g, o, none⟩ n cap xs hvl holds) x m news hx (by omega) (by omega) (growslice_fits (by omega) hbytes)
        have hgr := grown cap (by omega)
        exact ⟨_, _, hr, hgr.1, any _ hgr.2, fun k hk => Or.inr (newk _ k hk), fun _ _ => ⟨hgr.2, fun _ k hk => newk _ k hk⟩⟩

end

section
variable {P : Program} {ops : Array Oper} {rest : List Oper} {o : Oper} {a : Act} {w : World} {Q : Exit → Act → World → Prop}

theorem wpList_append_src (hgd : o.guard = none) (s x : Operand) (t tx : TypeId) (ho : o.op = .call { callee := .builtin .append, args := #[s, x], argTypes := #[t, tx] })
    {e : TypeId} {i : TypeInfo} {z : Value} {size bytes : Nat} (ht : P.underlying t = some (.slice e)) (hi : P.info? e = some i) (hz : i.zero = some z)
    (hsize : i.size = size) (hby : i.bytes = bytes) (hzs : z.cells.size = size) (hsz : 0 < size) {v xv : Value} {n m : Nat} {xs news : List Value} (hs : a.eval s = v) (hx : a.eval x = xv) (hv : Sl w e size v n xs)
    (hxs : _root_.Go.Src P size tx xv m news w) (h63 : n + m ≤ maxLen) (hbytes : (n + m) * bytes ≤ 140737488355328)
    (h : ∀ v' w', Sl w' e size v' (n + m) (xs ++ news) → Turns (blk v) w w' → Newer v v' w → Clipped v n m v' w w' → wpList P ops Q rest (a.put o.dst v') w') : wpList P ops Q (o :: rest) a w := by
  refine wpList_plain hgd fun K hK => ?_
  obtain ⟨v', w', hr, h1, h2, h3, h4⟩ := run_append_src_sl (P := P) w t tx o.type e i z size bytes ht hi hz hsize hby hzs hsz hv hxs h63 hbytes
  unfold Oper.wp execOp
  simp only [ho, resolve, invoke, builtin, Sem.run_bind, Sem.run_pure, Result.andThen_ok, List.map_toArray, List.map_cons, List.map_nil, hs, hx, hr]
  exact hK _ _ (h v' w' h1 h2 h3 h4)
end
end Go.Proofs.YtjnplcajajdkiaaDoor.obj
