/-
  DERIVED. GIVEN WITH THE SEED: THE CARDS: each row of YtjecikojdbiloaaDoorRows.lean that lists a variable, with what it lists TIED to the program's text (the seventh form; the later family's looks); each row that meets fmt, with fmt's text TOLD by the authors' own Lean function (tested against real Go, not proved from fmt's source: count such statements apart). THE CARD IS WHAT COUNTS. Prove the row's statement (the work); the ties are given (YtjecikojdbiloaaDoorTie.lean); close each card by the builder's one call (the guide's Derived/Test/ToyasCard.lean, 'card_holds'). Laid BY PROGRAM, IN A SANDBOX (cutbox-door.mjs). By AI agents, Wed Nov 11 2026. No macro, syntax, notation, axiom, sorry.
-/
import Derived.Test.YtjecikojdbiloaaDoorRows
import GoSem.ClaimSeven
namespace Go.Proofs.YtjecikojdbiloaaDoor
namespace Rows

/-- THE TIED CARD OF 'petrellaw03.CrcPlays'. -/
def crcPlaysCard : Claim7 := { stood := { row := crcPlaysRow, standIns := [], harness := (true, "8382a2f1f4f15e3a145380f2fb410b2c148f46e96c4b13ebc9078f989a53c9e1"), looks := false }, kinds := [], alts := [], laidByText := true, laidKinds := [.data], laidTests := true, laidLooks := .later }
def CrcPlaysCardSaid : Prop := Claim7.holds Tryd.pinned (.plain (OpenSpec.ofChange crcPlaysSpec)) crcPlaysCard

/-- THE TIED CARD OF 'petrellaw03.CrcPieces'. -/
def crcPiecesCard : Claim7 := { stood := { row := crcPiecesRow, standIns := [], harness := (true, "8382a2f1f4f15e3a145380f2fb410b2c148f46e96c4b13ebc9078f989a53c9e1"), looks := false }, kinds := [], alts := [], laidByText := true, laidKinds := [.data], laidTests := true, laidLooks := .later }
def CrcPiecesCardSaid : Prop := Claim7.holds Tryd.pinned (.plain (OpenSpec.ofChange crcPiecesSpec)) crcPiecesCard

/-- THE TIED CARD OF 'petrellaw03.CrcBurst'. -/
def crcBurstCard : Claim7 := { stood := { row := crcBurstRow, standIns := [], harness := (true, "8382a2f1f4f15e3a145380f2fb410b2c148f46e96c4b13ebc9078f989a53c9e1"), looks := false }, kinds := [], alts := [], laidByText := true, laidKinds := [.data], laidTests := true, laidLooks := .later }
def CrcBurstCardSaid : Prop := Claim7.holds Tryd.pinned (.plain (OpenSpec.ofChange crcBurstSpec)) crcBurstCard

/-- THE TIED CARD OF 'petrellaw03.CrcTwo'. -/
def crcTwoCard : Claim7 := { stood := { row := crcTwoRow, standIns := [], harness := (true, "8382a2f1f4f15e3a145380f2fb410b2c148f46e96c4b13ebc9078f989a53c9e1"), looks := false }, kinds := [], alts := [], laidByText := true, laidKinds := [.data], laidTests := true, laidLooks := .later }
def CrcTwoCardSaid : Prop := Claim7.holds Tryd.pinned (.plain (OpenSpec.ofChange crcTwoSpec)) crcTwoCard

/-- THE SECOND FORM's CARD OF 'petrellaw03.CrcPlays'. -/
def crcPlaysUptoCard : Claim7 := { stood := { row := crcPlaysUptoRow, standIns := [], harness := (true, "8382a2f1f4f15e3a145380f2fb410b2c148f46e96c4b13ebc9078f989a53c9e1"), looks := false }, kinds := [], alts := [], laidByText := true, laidKinds := [.data], laidTests := true, laidLooks := .later }
def CrcPlaysUptoCardSaid : Prop := Claim7.holds Tryd.pinned (.plain (OpenSpec.upto crcPlaysSpec)) crcPlaysUptoCard

/-- THE SECOND FORM's CARD OF 'petrellaw03.CrcPieces'. -/
def crcPiecesUptoCard : Claim7 := { stood := { row := crcPiecesUptoRow, standIns := [], harness := (true, "8382a2f1f4f15e3a145380f2fb410b2c148f46e96c4b13ebc9078f989a53c9e1"), looks := false }, kinds := [], alts := [], laidByText := true, laidKinds := [.data], laidTests := true, laidLooks := .later }
def CrcPiecesUptoCardSaid : Prop := Claim7.holds Tryd.pinned (.plain (OpenSpec.upto crcPiecesSpec)) crcPiecesUptoCard

/-- THE SECOND FORM's CARD OF 'petrellaw03.CrcBurst'. -/
def crcBurstUptoCard : Claim7 := { stood := { row := crcBurstUptoRow, standIns := [], harness := (true, "8382a2f1f4f15e3a145380f2fb410b2c148f46e96c4b13ebc9078f989a53c9e1"), looks := false }, kinds := [], alts := [], laidByText := true, laidKinds := [.data], laidTests := true, laidLooks := .later }
def CrcBurstUptoCardSaid : Prop := Claim7.holds Tryd.pinned (.plain (OpenSpec.upto crcBurstSpec)) crcBurstUptoCard

/-- THE SECOND FORM's CARD OF 'petrellaw03.CrcTwo'. -/
def crcTwoUptoCard : Claim7 := { stood := { row := crcTwoUptoRow, standIns := [], harness := (true, "8382a2f1f4f15e3a145380f2fb410b2c148f46e96c4b13ebc9078f989a53c9e1"), looks := false }, kinds := [], alts := [], laidByText := true, laidKinds := [.data], laidTests := true, laidLooks := .later }
def CrcTwoUptoCardSaid : Prop := Claim7.holds Tryd.pinned (.plain (OpenSpec.upto crcTwoSpec)) crcTwoUptoCard
end Rows
end Go.Proofs.YtjecikojdbiloaaDoor
