/- Laws handed to regions that draw their order. No function of the program in sight. -/
import Derived.Test.YtjnplcajajdkiaaDoorRows
import Derived.WalkKit
import Derived.WalkSpells
import Derived.WalkLawsBesides
import Derived.Deep.QuietTactic
import Derived.BigQuiet
import Derived.Deep.RegionLaw
import Derived.Lib.Hide
namespace Go.Proofs.YtjnplcajajdkiaaDoor.stepkit
open Go.RowKit

/-- append onto a slice that is nil or the call's own, as one step of a region that draws. -/
theorem step_append_own {P : Program} {ops : Array Oper} {o : Oper} {a : Act} {w : World} {K : Act → World → Prop} {Q : Exit → Act → World → Prop} {E : Prop}
    (hg : o.guard = none) (s x : Operand) (t : TypeId) (hop : o.op = Op.call { callee := Callee.builtin Builtin.append, args := #[s, x], argTypes := #[t, t] })
    (base : Nat) (e : TypeId) (i : TypeInfo) (z : Value) (size bytes : Nat) (ht : P.underlying t = some (.slice e)) (hi : P.info? e = some i) (hz : i.zero = some z)
    (hsize : i.size = size) (hby : i.bytes = bytes) (hzs : z.cells.size = size) (hsz : 0 < size)
    (v : Value) (n : Nat) (xs : List Value) (hs : a.eval s = v) (hown : w.ownsRow base e size v n xs)
    (ad : Addr) (m c : Nat) (news : List Value) (hx : a.eval x = .slice (some ad) m c) (hl : news.length = m * size) (hnews : ∀ j u, news[j]? = some u → w.cell? (ad.add j) = some u) (h1 : ∀ u ∈ news, u.oneCell' = true)
    (h63 : n + m ≤ maxLen) (hbytes : (n + m) * bytes ≤ 140737488355328) (hbase : base ≤ w.heap.size)
    (h : ∀ v' w', w'.ownsRow base e size v' (n + m) (xs ++ news) → w.grownBy w' v.ownBlock → K (a.put o.dst v') w') :
    if Region.wanted o (yielded ops a.tmps) = true then Oper.wp P o a w K Q else E := by
  have hw : Region.wanted o (yielded ops a.tmps) = true := by simp [Region.wanted, hg]
  rw [if_pos hw]
  exact wp_append_own w s x t hop base e i z size bytes ht hi hz hsize hby hzs hsz v n xs hs hown ad m c news hx hl hnews h1 h63 hbytes hbase fun v' w' h2 h3 _ => h v' w' h2 h3

/-- Bytes as cells. -/
def u8s (l : List UInt8) : List Value := l.map fun x => Value.int .u8 (x.toNat : Int)

theorem bytes_size (l : List UInt8) : (ByteArray.mk l.toArray).size = l.length := List.size_toArray ..

theorem u8s_append (a b : List UInt8) : u8s (a ++ b) = u8s a ++ u8s b := by simp [u8s]

/-- string(b), b a []byte that the call owns. -/
theorem conv_owned {P : Program} {w : World} {base : Nat} {src dst e : TypeId} {v : Value} {n : Nat} {l : List UInt8} (hs : P.underlying src = some (.slice e)) (he : P.underlying e = some (.int .u8)) (hd : P.underlying dst = some .string)
    (h : w.ownsRow base e 1 v n (u8s l)) : (convert src dst v).run P w = .ok (.string ⟨l.toArray⟩) w := by
  obtain ⟨h1, ⟨rfl, rfl⟩ | ⟨g, cap, cur, rfl, _, hg, hn, hc, hcs, ht⟩⟩ := h
  · have : l = [] := by simpa [u8s] using h1
    subst this
    rw [run_convert_bytes_nil w src e hs he 0 0 dst hd]
    rfl
  · have hl : l.length = n := by simpa [u8s] using h1
    have hcell : ∀ i, i < n → w.cell? ⟨g, 0 + i, none⟩ = some (.int .u8 ((l.map fun x : UInt8 => (x.toNat : Int)).getD i 0)) := by
      intro i hi
      have h2 : cur.toList[i]? = some (.int .u8 ((l.map fun x : UInt8 => (x.toNat : Int)).getD i 0)) := by
        have h3 : (cur.toList.take (n * 1))[i]? = (u8s l)[i]? := by rw [ht]
        rw [List.getElem?_take, if_pos (by omega)] at h3
        rw [h3]
        simp [u8s, List.getD, hl, hi]
      simp only [World.cell?, hg, Nat.zero_add]
      simpa using h2
    rw [run_convert_bytes_arg w src e hs he g 0 n cap (l.map fun x : UInt8 => (x.toNat : Int)) (by simpa using hl) hcell dst hd]
    congr 2
    unfold strOfNums
    congr 1
    simp only [List.map_map]
    congr 1
    rw [show ((fun n : Int => UInt8.ofNat n.toNat) ∘ fun x : UInt8 => (x.toNat : Int)) = id from funext fun x => by simp, List.map_id]

/-- What one append into row b2 does to another owned row. -/
theorem ownsRow_apart {w w' : World} {base base' : Nat} {e e' : TypeId} {size size' : Nat} {v v' : Value} {n n' : Nat} {xs xs' : List Value} (h : w.ownsRow base e size v n xs) (_h' : w.ownsRow base' e' size' v' n' xs')
    (hne : ∀ b b', v.ownBlock = some b → v'.ownBlock = some b' → b ≠ b') (hg : w.grownBy w' v'.ownBlock) : w'.ownsRow base e size v n xs := by
  refine h.kept hg ?_
  cases hv : v.ownBlock with
  | none => exact Or.inl rfl
  | some b =>
    refine Or.inr fun he' => ?_
    exact hne b b hv he'.symm rfl

end Go.Proofs.YtjnplcajajdkiaaDoor.stepkit
