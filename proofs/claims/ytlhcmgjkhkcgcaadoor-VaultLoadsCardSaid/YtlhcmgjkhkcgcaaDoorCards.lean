/-
  DERIVED. GIVEN WITH THE SEED: THE CARDS: each row of YtlhcmgjkhkcgcaaDoorRows.lean that lists a variable, with what it lists TIED to the program's text (the seventh form; the later family's looks); each row that meets fmt, with fmt's text TOLD by the authors' own Lean function (tested against real Go, not proved from fmt's source: count such statements apart). THE CARD IS WHAT COUNTS. Prove the row's statement (the work); the ties are given (YtlhcmgjkhkcgcaaDoorTie.lean); close each card by the builder's one call (the guide's Derived/Test/ToyasCard.lean, 'card_holds'). Laid BY PROGRAM, IN A SANDBOX (cutbox-door.mjs). By AI agents, Wed Nov 11 2026. No macro, syntax, notation, axiom, sorry.
-/
import Derived.Test.YtlhcmgjkhkcgcaaDoorRows
import GoSem.ClaimSeven
namespace Go.Proofs.YtlhcmgjkhkcgcaaDoor
namespace Rows

/-- THE TIED CARD OF 'petrellaw11.RecordPuts'. -/
def recordPutsCard : Claim7 := { stood := { row := recordPutsRow, standIns := [], harness := (true, "22757e111781db479b6718b5e0ccd1dbc0b6171c5cecc49b0d330d4e6ad4cc40"), looks := true }, kinds := [], alts := [], laidByText := true, laidKinds := [.data], laidTests := true, laidLooks := .later }
def RecordPutsCardSaid : Prop := Claim7.holds Tryd.pinned (.plain (OpenSpec.ofChange recordPutsSpec)) recordPutsCard

/-- THE TIED CARD OF 'petrellaw11.RecordTurned'. -/
def recordTurnedCard : Claim7 := { stood := { row := recordTurnedRow, standIns := [], harness := (true, "22757e111781db479b6718b5e0ccd1dbc0b6171c5cecc49b0d330d4e6ad4cc40"), looks := true }, kinds := [], alts := [], laidByText := true, laidKinds := [.data], laidTests := true, laidLooks := .later }
def RecordTurnedCardSaid : Prop := Claim7.holds Tryd.pinned (.plain (OpenSpec.ofChange recordTurnedSpec)) recordTurnedCard

/-- THE TIED CARD OF 'petrellaw11.RecordAll'. -/
def recordAllCard : Claim7 := { stood := { row := recordAllRow, standIns := [], harness := (true, "22757e111781db479b6718b5e0ccd1dbc0b6171c5cecc49b0d330d4e6ad4cc40"), looks := true }, kinds := [], alts := [], laidByText := true, laidKinds := [.data], laidTests := true, laidLooks := .later }
def RecordAllCardSaid : Prop := Claim7.holds Tryd.pinned (.plain (OpenSpec.ofChange recordAllSpec)) recordAllCard

/-- THE TIED CARD OF 'petrellaw11.RecordBack'. -/
def recordBackCard : Claim7 := { stood := { row := recordBackRow, standIns := [], harness := (true, "22757e111781db479b6718b5e0ccd1dbc0b6171c5cecc49b0d330d4e6ad4cc40"), looks := true }, kinds := [], alts := [], laidByText := true, laidKinds := [.data], laidTests := true, laidLooks := .later }
def RecordBackCardSaid : Prop := Claim7.holds Tryd.pinned (.plain (OpenSpec.ofChange recordBackSpec)) recordBackCard

/-- THE TIED CARD OF 'petrellaw11.RecordTorn'. -/
def recordTornCard : Claim7 := { stood := { row := recordTornRow, standIns := [], harness := (true, "22757e111781db479b6718b5e0ccd1dbc0b6171c5cecc49b0d330d4e6ad4cc40"), looks := true }, kinds := [], alts := [], laidByText := true, laidKinds := [.data], laidTests := true, laidLooks := .later }
def RecordTornCardSaid : Prop := Claim7.holds Tryd.pinned (.plain (OpenSpec.ofChange recordTornSpec)) recordTornCard

/-- THE TIED CARD OF 'petrellaw12.JournalKeeps'. -/
def journalKeepsCard : Claim7 := { stood := { row := journalKeepsRow, standIns := [], harness := (true, "22757e111781db479b6718b5e0ccd1dbc0b6171c5cecc49b0d330d4e6ad4cc40"), looks := true }, kinds := [], alts := [], laidByText := true, laidKinds := [.data], laidTests := true, laidLooks := .later }
def JournalKeepsCardSaid : Prop := Claim7.holds Tryd.pinned (.plain (OpenSpec.ofChange journalKeepsSpec)) journalKeepsCard

/-- THE TIED CARD OF 'petrellaw12.JournalPlays'. -/
def journalPlaysCard : Claim7 := { stood := { row := journalPlaysRow, standIns := [], harness := (true, "22757e111781db479b6718b5e0ccd1dbc0b6171c5cecc49b0d330d4e6ad4cc40"), looks := true }, kinds := [], alts := [], laidByText := true, laidKinds := [.data], laidTests := true, laidLooks := .later }
def JournalPlaysCardSaid : Prop := Claim7.holds Tryd.pinned (.plain (OpenSpec.ofChange journalPlaysSpec)) journalPlaysCard

/-- THE TIED CARD OF 'petrellaw12.JournalZero'. -/
def journalZeroCard : Claim7 := { stood := { row := journalZeroRow, standIns := [], harness := (true, "22757e111781db479b6718b5e0ccd1dbc0b6171c5cecc49b0d330d4e6ad4cc40"), looks := true }, kinds := [], alts := [], laidByText := true, laidKinds := [.data], laidTests := true, laidLooks := .later }
def JournalZeroCardSaid : Prop := Claim7.holds Tryd.pinned (.plain (OpenSpec.ofChange journalZeroSpec)) journalZeroCard

/-- THE TIED CARD OF 'petrellaw13.VaultKeeps'. -/
def vaultKeepsCard : Claim7 := { stood := { row := vaultKeepsRow, standIns := [], harness := (true, "22757e111781db479b6718b5e0ccd1dbc0b6171c5cecc49b0d330d4e6ad4cc40"), looks := true }, kinds := [], alts := [], laidByText := true, laidKinds := [.data], laidTests := true, laidLooks := .later }
def VaultKeepsCardSaid : Prop := Claim7.holds Tryd.pinned (.plain (OpenSpec.ofChange vaultKeepsSpec)) vaultKeepsCard

/-- THE TIED CARD OF 'petrellaw13.VaultWhole'. -/
def vaultWholeCard : Claim7 := { stood := { row := vaultWholeRow, standIns := [], harness := (true, "22757e111781db479b6718b5e0ccd1dbc0b6171c5cecc49b0d330d4e6ad4cc40"), looks := true }, kinds := [], alts := [], laidByText := true, laidKinds := [.data], laidTests := true, laidLooks := .later }
def VaultWholeCardSaid : Prop := Claim7.holds Tryd.pinned (.plain (OpenSpec.ofChange vaultWholeSpec)) vaultWholeCard

/-- THE TIED CARD OF 'petrellaw13.VaultPlays'. -/
def vaultPlaysCard : Claim7 := { stood := { row := vaultPlaysRow, standIns := [], harness := (true, "22757e111781db479b6718b5e0ccd1dbc0b6171c5cecc49b0d330d4e6ad4cc40"), looks := true }, kinds := [], alts := [], laidByText := true, laidKinds := [.data], laidTests := true, laidLooks := .later }
def VaultPlaysCardSaid : Prop := Claim7.holds Tryd.pinned (.plain (OpenSpec.ofChange vaultPlaysSpec)) vaultPlaysCard

/-- THE TIED CARD OF 'petrellaw13.VaultZero'. -/
def vaultZeroCard : Claim7 := { stood := { row := vaultZeroRow, standIns := [], harness := (true, "22757e111781db479b6718b5e0ccd1dbc0b6171c5cecc49b0d330d4e6ad4cc40"), looks := true }, kinds := [], alts := [], laidByText := true, laidKinds := [.data], laidTests := true, laidLooks := .later }
def VaultZeroCardSaid : Prop := Claim7.holds Tryd.pinned (.plain (OpenSpec.ofChange vaultZeroSpec)) vaultZeroCard

/-- THE TIED CARD OF 'petrellaw13.VaultLoads'. -/
def vaultLoadsCard : Claim7 := { stood := { row := vaultLoadsRow, standIns := [], harness := (true, "22757e111781db479b6718b5e0ccd1dbc0b6171c5cecc49b0d330d4e6ad4cc40"), looks := true }, kinds := [], alts := [], laidByText := true, laidKinds := [.data], laidTests := true, laidLooks := .later }
def VaultLoadsCardSaid : Prop := Claim7.holds Tryd.pinned (.plain (OpenSpec.ofChange vaultLoadsSpec)) vaultLoadsCard

/-- THE SECOND FORM's CARD OF 'petrellaw11.RecordPuts'. -/
def recordPutsUptoCard : Claim7 := { stood := { row := recordPutsUptoRow, standIns := [], harness := (true, "22757e111781db479b6718b5e0ccd1dbc0b6171c5cecc49b0d330d4e6ad4cc40"), looks := true }, kinds := [], alts := [], laidByText := true, laidKinds := [.data], laidTests := true, laidLooks := .later }
def RecordPutsUptoCardSaid : Prop := Claim7.holds Tryd.pinned (.plain (OpenSpec.upto recordPutsSpec)) recordPutsUptoCard

/-- THE SECOND FORM's CARD OF 'petrellaw11.RecordTurned'. -/
def recordTurnedUptoCard : Claim7 := { stood := { row := recordTurnedUptoRow, standIns := [], harness := (true, "22757e111781db479b6718b5e0ccd1dbc0b6171c5cecc49b0d330d4e6ad4cc40"), looks := true }, kinds := [], alts := [], laidByText := true, laidKinds := [.data], laidTests := true, laidLooks := .later }
def RecordTurnedUptoCardSaid : Prop := Claim7.holds Tryd.pinned (.plain (OpenSpec.upto recordTurnedSpec)) recordTurnedUptoCard

/-- THE SECOND FORM's CARD OF 'petrellaw11.RecordAll'. -/
def recordAllUptoCard : Claim7 := { stood := { row := recordAllUptoRow, standIns := [], harness := (true, "22757e111781db479b6718b5e0ccd1dbc0b6171c5cecc49b0d330d4e6ad4cc40"), looks := true }, kinds := [], alts := [], laidByText := true, laidKinds := [.data], laidTests := true, laidLooks := .later }
def RecordAllUptoCardSaid : Prop := Claim7.holds Tryd.pinned (.plain (OpenSpec.upto recordAllSpec)) recordAllUptoCard

/-- THE SECOND FORM's CARD OF 'petrellaw11.RecordBack'. -/
def recordBackUptoCard : Claim7 := { stood := { row := recordBackUptoRow, standIns := [], harness := (true, "22757e111781db479b6718b5e0ccd1dbc0b6171c5cecc49b0d330d4e6ad4cc40"), looks := true }, kinds := [], alts := [], laidByText := true, laidKinds := [.data], laidTests := true, laidLooks := .later }
def RecordBackUptoCardSaid : Prop := Claim7.holds Tryd.pinned (.plain (OpenSpec.upto recordBackSpec)) recordBackUptoCard

/-- THE SECOND FORM's CARD OF 'petrellaw11.RecordTorn'. -/
def recordTornUptoCard : Claim7 := { stood := { row := recordTornUptoRow, standIns := [], harness := (true, "22757e111781db479b6718b5e0ccd1dbc0b6171c5cecc49b0d330d4e6ad4cc40"), looks := true }, kinds := [], alts := [], laidByText := true, laidKinds := [.data], laidTests := true, laidLooks := .later }
def RecordTornUptoCardSaid : Prop := Claim7.holds Tryd.pinned (.plain (OpenSpec.upto recordTornSpec)) recordTornUptoCard

/-- THE SECOND FORM's CARD OF 'petrellaw12.JournalKeeps'. -/
def journalKeepsUptoCard : Claim7 := { stood := { row := journalKeepsUptoRow, standIns := [], harness := (true, "22757e111781db479b6718b5e0ccd1dbc0b6171c5cecc49b0d330d4e6ad4cc40"), looks := true }, kinds := [], alts := [], laidByText := true, laidKinds := [.data], laidTests := true, laidLooks := .later }
def JournalKeepsUptoCardSaid : Prop := Claim7.holds Tryd.pinned (.plain (OpenSpec.upto journalKeepsSpec)) journalKeepsUptoCard

/-- THE SECOND FORM's CARD OF 'petrellaw12.JournalPlays'. -/
def journalPlaysUptoCard : Claim7 := { stood := { row := journalPlaysUptoRow, standIns := [], harness := (true, "22757e111781db479b6718b5e0ccd1dbc0b6171c5cecc49b0d330d4e6ad4cc40"), looks := true }, kinds := [], alts := [], laidByText := true, laidKinds := [.data], laidTests := true, laidLooks := .later }
def JournalPlaysUptoCardSaid : Prop := Claim7.holds Tryd.pinned (.plain (OpenSpec.upto journalPlaysSpec)) journalPlaysUptoCard

/-- THE SECOND FORM's CARD OF 'petrellaw12.JournalZero'. -/
def journalZeroUptoCard : Claim7 := { stood := { row := journalZeroUptoRow, standIns := [], harness := (true, "22757e111781db479b6718b5e0ccd1dbc0b6171c5cecc49b0d330d4e6ad4cc40"), looks := true }, kinds := [], alts := [], laidByText := true, laidKinds := [.data], laidTests := true, laidLooks := .later }
def JournalZeroUptoCardSaid : Prop := Claim7.holds Tryd.pinned (.plain (OpenSpec.upto journalZeroSpec)) journalZeroUptoCard

/-- THE SECOND FORM's CARD OF 'petrellaw13.VaultKeeps'. -/
def vaultKeepsUptoCard : Claim7 := { stood := { row := vaultKeepsUptoRow, standIns := [], harness := (true, "22757e111781db479b6718b5e0ccd1dbc0b6171c5cecc49b0d330d4e6ad4cc40"), looks := true }, kinds := [], alts := [], laidByText := true, laidKinds := [.data], laidTests := true, laidLooks := .later }
def VaultKeepsUptoCardSaid : Prop := Claim7.holds Tryd.pinned (.plain (OpenSpec.upto vaultKeepsSpec)) vaultKeepsUptoCard

/-- THE SECOND FORM's CARD OF 'petrellaw13.VaultWhole'. -/
def vaultWholeUptoCard : Claim7 := { stood := { row := vaultWholeUptoRow, standIns := [], harness := (true, "22757e111781db479b6718b5e0ccd1dbc0b6171c5cecc49b0d330d4e6ad4cc40"), looks := true }, kinds := [], alts := [], laidByText := true, laidKinds := [.data], laidTests := true, laidLooks := .later }
def VaultWholeUptoCardSaid : Prop := Claim7.holds Tryd.pinned (.plain (OpenSpec.upto vaultWholeSpec)) vaultWholeUptoCard

/-- THE SECOND FORM's CARD OF 'petrellaw13.VaultPlays'. -/
def vaultPlaysUptoCard : Claim7 := { stood := { row := vaultPlaysUptoRow, standIns := [], harness := (true, "22757e111781db479b6718b5e0ccd1dbc0b6171c5cecc49b0d330d4e6ad4cc40"), looks := true }, kinds := [], alts := [], laidByText := true, laidKinds := [.data], laidTests := true, laidLooks := .later }
def VaultPlaysUptoCardSaid : Prop := Claim7.holds Tryd.pinned (.plain (OpenSpec.upto vaultPlaysSpec)) vaultPlaysUptoCard

/-- THE SECOND FORM's CARD OF 'petrellaw13.VaultZero'. -/
def vaultZeroUptoCard : Claim7 := { stood := { row := vaultZeroUptoRow, standIns := [], harness := (true, "22757e111781db479b6718b5e0ccd1dbc0b6171c5cecc49b0d330d4e6ad4cc40"), looks := true }, kinds := [], alts := [], laidByText := true, laidKinds := [.data], laidTests := true, laidLooks := .later }
def VaultZeroUptoCardSaid : Prop := Claim7.holds Tryd.pinned (.plain (OpenSpec.upto vaultZeroSpec)) vaultZeroUptoCard

/-- THE SECOND FORM's CARD OF 'petrellaw13.VaultLoads'. -/
def vaultLoadsUptoCard : Claim7 := { stood := { row := vaultLoadsUptoRow, standIns := [], harness := (true, "22757e111781db479b6718b5e0ccd1dbc0b6171c5cecc49b0d330d4e6ad4cc40"), looks := true }, kinds := [], alts := [], laidByText := true, laidKinds := [.data], laidTests := true, laidLooks := .later }
def VaultLoadsUptoCardSaid : Prop := Claim7.holds Tryd.pinned (.plain (OpenSpec.upto vaultLoadsSpec)) vaultLoadsUptoCard
end Rows
end Go.Proofs.YtlhcmgjkhkcgcaaDoor
