/- The two tables as a row lists them, and a world that holds them: for the witnesses. -/
import Derived.Test.YtjnplcajajdkiaaDoorLawKit
import Derived.Test.YtjnplcajajdkiaaDoorShaHash
import Derived.Stop.LaidErr
namespace Go.Proofs.YtjnplcajajdkiaaDoor.sha
open Go.RowKit

theorem gFirst : Tryd.prog.globalNamed "petrel/sha.first" = some 0 := by kernel_rfl
theorem gFirstType : (Tryd.prog.globals[0]?).map (·.type) = some 68 := by kernel_rfl
theorem gK : Tryd.prog.globalNamed "petrel/sha.k" = some 1 := by kernel_rfl
theorem gKType : (Tryd.prog.globals[1]?).map (·.type) = some 98 := by kernel_rfl
theorem cells8 : Tryd.prog.cellsOf 68 = 8 := by kernel_rfl
theorem cells64 : Tryd.prog.cellsOf 98 = 64 := by kernel_rfl
theorem cellsU32 : Tryd.prog.cellsOf 67 = 1 := by kernel_rfl
def ints (l : List Nat) : List Int := l.map (fun n : Nat => (n : Int))
theorem ff_at : ∀ i, i < 8 → (ints ff).getD i 0 = wi (first i) := by decide +kernel
theorem kk_at : ∀ i, i < 64 → (ints kk).getD i 0 = wi (kAt i) := by decide +kernel

theorem tables {W : World} {rest : List (String × DataW Unit)} (h : laidMet Tryd.prog (("petrel/sha.first", Lib.tabData .u32 (ints ff)) :: ("petrel/sha.k", Lib.tabData .u32 (ints kk)) :: rest) W) : Tabs W := by
  have h1 : Lib.TabIs Tryd.prog W "petrel/sha.first" .u32 (ints ff) := Lib.tabIs_of_head gFirst gFirstType Tryd.underlying68 Tryd.underlying67 cellsU32 cells8 h
  have h2 : Lib.TabIs Tryd.prog W "petrel/sha.k" .u32 (ints kk) := Lib.tabIs_of_head gK gKType Tryd.underlying98 Tryd.underlying67 cellsU32 cells64 (laidMet.tail h)
  refine ⟨fun i hi => ?_, fun i v hv => ?_⟩
  · rw [h2.cell gK i hi, kk_at i hi]
  · have hi : i < 8 := by have := (List.getElem?_eq_some_iff.1 hv).1; rwa [arr_len] at this
    rw [Nat.zero_add, h1.cell gFirst i hi, ff_at i hi]
    rw [arr_get 8 first i hi] at hv
    exact hv

def setTab (l : List Nat) : Obj → Obj
  | .cells _ t frozen => .cells ((ints l).map (fun n => Value.int .u32 n)).toArray t frozen
  | o => o
noncomputable def laidWorld (os : Os) : World :=
  { World.holding Tryd.prog os ⟨#[], #[], []⟩ with heap := ((World.holding Tryd.prog os ⟨#[], #[], []⟩).heap.modify 0 (setTab ff)).modify 1 (setTab kk) }

end Go.Proofs.YtjnplcajajdkiaaDoor.sha
