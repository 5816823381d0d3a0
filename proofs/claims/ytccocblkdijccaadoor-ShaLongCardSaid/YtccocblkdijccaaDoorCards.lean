/-
  DERIVED. GIVEN WITH THE SEED: THE CARDS: each row of YtccocblkdijccaaDoorRows.lean that lists a variable, with what it lists TIED to the program's text (the seventh form; the later family's looks); each row that meets fmt, with fmt's text TOLD by the authors' own Lean function (tested against real Go, not proved from fmt's source: count such statements apart). THE CARD IS WHAT COUNTS. Prove the row's statement (the work); the ties are given (YtccocblkdijccaaDoorTie.lean); close each card by the builder's one call (the guide's Derived/Test/ToyasCard.lean, 'card_holds'). Laid BY PROGRAM, IN A SANDBOX (cutbox-door.mjs). By AI agents, Wed Nov 11 2026. No macro, syntax, notation, axiom, sorry.
-/
import Derived.Test.YtccocblkdijccaaDoorRows
import GoSem.ClaimSeven
namespace Go.Proofs.YtccocblkdijccaaDoor
namespace Rows

/-- THE TIED CARD OF 'petrellaw02.ShaPlays'. -/
def shaPlaysCard : Claim7 := { stood := { row := shaPlaysRow, standIns := [], harness := (true, "5cf709cb069596317c3dac4a04ef8b0c89c8cddded42e13dcc89dad3a4ee07bd"), looks := false }, kinds := [], alts := [], laidByText := true, laidKinds := [.data, .data], laidTests := true, laidLooks := .later }
def ShaPlaysCardSaid : Prop := Claim7.holds Tryd.pinned (.plain (OpenSpec.ofChange shaPlaysSpec)) shaPlaysCard

/-- THE TIED CARD OF 'petrellaw02.ShaLong'. -/
def shaLongCard : Claim7 := { stood := { row := shaLongRow, standIns := [], harness := (true, "5cf709cb069596317c3dac4a04ef8b0c89c8cddded42e13dcc89dad3a4ee07bd"), looks := false }, kinds := [], alts := [], laidByText := true, laidKinds := [.data, .data], laidTests := true, laidLooks := .later }
def ShaLongCardSaid : Prop := Claim7.holds Tryd.pinned (.plain (OpenSpec.ofChange shaLongSpec)) shaLongCard

/-- THE TIED CARD OF 'petrellaw02.ShaPieces'. -/
def shaPiecesCard : Claim7 := { stood := { row := shaPiecesRow, standIns := [], harness := (true, "5cf709cb069596317c3dac4a04ef8b0c89c8cddded42e13dcc89dad3a4ee07bd"), looks := false }, kinds := [], alts := [], laidByText := true, laidKinds := [.data, .data], laidTests := true, laidLooks := .later }
def ShaPiecesCardSaid : Prop := Claim7.holds Tryd.pinned (.plain (OpenSpec.ofChange shaPiecesSpec)) shaPiecesCard

/-- THE TIED CARD OF 'petrellaw02.ShaZero'. -/
def shaZeroCard : Claim7 := { stood := { row := shaZeroRow, standIns := [], harness := (true, "5cf709cb069596317c3dac4a04ef8b0c89c8cddded42e13dcc89dad3a4ee07bd"), looks := false }, kinds := [], alts := [], laidByText := true, laidKinds := [.data, .data], laidTests := true, laidLooks := .later }
def ShaZeroCardSaid : Prop := Claim7.holds Tryd.pinned (.plain (OpenSpec.ofChange shaZeroSpec)) shaZeroCard

/-- THE SECOND FORM's CARD OF 'petrellaw02.ShaPlays'. -/
def shaPlaysUptoCard : Claim7 := { stood := { row := shaPlaysUptoRow, standIns := [], harness := (true, "5cf709cb069596317c3dac4a04ef8b0c89c8cddded42e13dcc89dad3a4ee07bd"), looks := false }, kinds := [], alts := [], laidByText := true, laidKinds := [.data, .data], laidTests := true, laidLooks := .later }
def ShaPlaysUptoCardSaid : Prop := Claim7.holds Tryd.pinned (.plain (OpenSpec.upto shaPlaysSpec)) shaPlaysUptoCard

/-- THE SECOND FORM's CARD OF 'petrellaw02.ShaLong'. -/
def shaLongUptoCard : Claim7 := { stood := { row := shaLongUptoRow, standIns := [], harness := (true, "5cf709cb069596317c3dac4a04ef8b0c89c8cddded42e13dcc89dad3a4ee07bd"), looks := false }, kinds := [], alts := [], laidByText := true, laidKinds := [.data, .data], laidTests := true, laidLooks := .later }
def ShaLongUptoCardSaid : Prop := Claim7.holds Tryd.pinned (.plain (OpenSpec.upto shaLongSpec)) shaLongUptoCard

/-- THE SECOND FORM's CARD OF 'petrellaw02.ShaPieces'. -/
def shaPiecesUptoCard : Claim7 := { stood := { row := shaPiecesUptoRow, standIns := [], harness := (true, "5cf709cb069596317c3dac4a04ef8b0c89c8cddded42e13dcc89dad3a4ee07bd"), looks := false }, kinds := [], alts := [], laidByText := true, laidKinds := [.data, .data], laidTests := true, laidLooks := .later }
def ShaPiecesUptoCardSaid : Prop := Claim7.holds Tryd.pinned (.plain (OpenSpec.upto shaPiecesSpec)) shaPiecesUptoCard

/-- THE SECOND FORM's CARD OF 'petrellaw02.ShaZero'. -/
def shaZeroUptoCard : Claim7 := { stood := { row := shaZeroUptoRow, standIns := [], harness := (true, "5cf709cb069596317c3dac4a04ef8b0c89c8cddded42e13dcc89dad3a4ee07bd"), looks := false }, kinds := [], alts := [], laidByText := true, laidKinds := [.data, .data], laidTests := true, laidLooks := .later }
def ShaZeroUptoCardSaid : Prop := Claim7.holds Tryd.pinned (.plain (OpenSpec.upto shaZeroSpec)) shaZeroUptoCard
end Rows
end Go.Proofs.YtccocblkdijccaaDoor
