/- The table as a row lists it, and a world that holds it: for the witnesses. -/
import Derived.Test.YtlhcmgjkhkcgcaaDoorLawKit
import Derived.Test.YtlhcmgjkhkcgcaaDoorCrcWalks
namespace Go.Proofs.YtlhcmgjkhkcgcaaDoor.crc
open Go.RowKit

theorem gTab : Tryd.prog.globalNamed "petrel/crc.table" = some 0 := by kernel_rfl
theorem gTabType : (Tryd.prog.globals[0]?).map (·.type) = some 169 := by kernel_rfl
theorem cellsTab : Tryd.prog.cellsOf 169 = 16 := by kernel_rfl
theorem cellsU32 : Tryd.prog.cellsOf 37 = 1 := by kernel_rfl

theorem table {W : World} {rest : List (String × DataW Unit)} (h : laidMet Tryd.prog (("petrel/crc.table", Lib.tabData .u32 (tabNat.map (fun n : Nat => (n : Int)))) :: rest) W) : TabAt W := by
  have h1 : Lib.TabIs Tryd.prog W "petrel/crc.table" .u32 (tabNat.map (fun n : Nat => (n : Int))) := Lib.tabIs_of_head gTab gTabType Tryd.underlying169 Tryd.underlying37 cellsU32 cellsTab h
  intro i hi
  have h2 := h1.cell gTab i (by simpa [tabNat] using hi)
  rw [h2, tab_ok i hi]
  simp only [List.getD_eq_getElem?_getD, List.getElem?_map]
  rw [List.getElem?_eq_getElem (by simpa [tabNat] using hi)]
  rfl

noncomputable def laidWorld (os : Os) : World :=
  { World.holding Tryd.prog os ⟨#[], #[], []⟩ with heap := (World.holding Tryd.prog os ⟨#[], #[], []⟩).heap.modify 0 fun
      | .cells _ t frozen => .cells (tabNat.map (fun n : Nat => Value.int .u32 (n : Int))).toArray t frozen
      | o => o }

end Go.Proofs.YtlhcmgjkhkcgcaaDoor.crc
