/- A file of the call's own; texts by their bytes; awake. -/
import Derived.Test.YtlhcmgjkhkcgcaaDoorBlock
import Derived.Lib.SmallJoins
import Derived.WalkSmall
namespace Go.Proofs.YtlhcmgjkhkcgcaaDoor.block
open Go.RowKit
open Go.Proofs.YtlhcmgjkhkcgcaaDoor.stepkit Go.Proofs.YtlhcmgjkhkcgcaaDoor.mix Go.Proofs.YtlhcmgjkhkcgcaaDoor.row

theorem grown_below {B : Nat} {a b c : World} {p : Nat} (h : Below B a b) (hg : b.grownBy c (some p)) (hB : B ≤ p) (hb : B ≤ b.heap.size) : Below B a c :=
  h.trans (grownBy_below hg hb (fun k hk => by cases hk; exact hB))

/-- A file of the call's own. -/
def Held (B : Nat) (w0 : World) (p : Nat) (l : List UInt8) (safe : Nat) (w : World) : Prop := BlockAt w p l safe ∧ Below B w0 w ∧ B ≤ p ∧ B ≤ w.heap.size

theorem Held.step {B : Nat} {w0 w w' : World} {p : Nat} {l l' : List UInt8} {safe safe' : Nat} (h : Held B w0 p l safe w) (hb : BlockAt w' p l' safe') (hg : w.grownBy w' (some p)) : Held B w0 p l' safe' w' :=
  ⟨hb, grown_below h.2.1 hg h.2.2.1 h.2.2.2, h.2.2.1, Nat.le_trans h.2.2.2 hg.size⟩
theorem Held.new {w w' : World} (h : w' = w.alloc (.cells #[.slice none 0 0, .int .i64 0, .bool true] 79)) : Held w.heap.size w w.heap.size [] 0 w' := by
  obtain ⟨h1, h2⟩ := new_at h
  exact ⟨h1, grownBy_below h2 (Nat.le_refl _) (fun k hk => by cases hk), Nat.le_refl _, h2.size⟩


/-- The text with these bytes. -/
def txt (b : ByteArray) (l : List UInt8) : Prop := b.data.toList = l
theorem txt_size {b : ByteArray} {l : List UInt8} (h : txt b l) : b.size = l.length := by rw [← h]; exact Array.length_toList.symm
theorem txt_add {b s : ByteArray} {l : List UInt8} (h : txt b l) : txt (b ++ s) (l ++ s.data.toList) := by
  unfold txt at *; rw [← h]; simp
theorem txt_nil : txt (ByteArray.mk #[]) [] := rfl
theorem txt_take {b : ByteArray} {l : List UInt8} (h : txt b l) (k : Nat) (hk : k ≤ l.length) : b.extract 0 k = ⟨(l.take k).toArray⟩ := by
  unfold txt at h
  subst h
  apply ByteArray.ext
  apply Array.ext'
  simp

theorem keepOf_ge (len safe : Nat) (k : Int) : safe ≤ keepOf len safe k := by unfold keepOf; omega
theorem keepOf_in {len safe : Nat} {k : Int} (h0 : 0 ≤ k) (h1 : k ≤ (len : Int) - safe) : (keepOf len safe k : Int) = safe + k := by unfold keepOf; omega
theorem keepOf_all (len : Nat) (k : Int) : keepOf len len k = len := by unfold keepOf; omega

end Go.Proofs.YtlhcmgjkhkcgcaaDoor.block
