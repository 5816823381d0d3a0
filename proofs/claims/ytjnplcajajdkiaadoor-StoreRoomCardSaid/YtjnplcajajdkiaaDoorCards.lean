/-
  DERIVED. GIVEN WITH THE SEED: THE CARDS: each row of YtjnplcajajdkiaaDoorRows.lean that lists a variable, with what it lists TIED to the program's text (the seventh form; the later family's looks); each row that meets fmt, with fmt's text TOLD by the authors' own Lean function (tested against real Go, not proved from fmt's source: count such statements apart). THE CARD IS WHAT COUNTS. Prove the row's statement (the work); the ties are given (YtjnplcajajdkiaaDoorTie.lean); close each card by the builder's one call (the guide's Derived/Test/ToyasCard.lean, 'card_holds'). Laid BY PROGRAM, IN A SANDBOX (cutbox-door.mjs). By AI agents, Wed Nov 11 2026. No macro, syntax, notation, axiom, sorry.
-/
import Derived.Test.YtjnplcajajdkiaaDoorRows
import GoSem.ClaimSeven
namespace Go.Proofs.YtjnplcajajdkiaaDoor
namespace Rows

/-- THE TIED CARD OF 'petrellaw20.StoreRoom'. -/
def storeRoomCard : Claim7 := { stood := { row := storeRoomRow, standIns := [], harness := (true, "e0d35272ac929049943b2806de14d1fdbcd55cf37105d2a8dd5be8fa16218ce9"), looks := false }, kinds := [], alts := [], laidByText := true, laidKinds := [.data, .data], laidTests := true, laidLooks := .later }
def StoreRoomCardSaid : Prop := Claim7.holds Tryd.pinned (.plain (OpenSpec.ofChange storeRoomSpec)) storeRoomCard

/-- THE TIED CARD OF 'petrellaw20.StorePlays'. -/
def storePlaysCard : Claim7 := { stood := { row := storePlaysRow, standIns := [], harness := (true, "e0d35272ac929049943b2806de14d1fdbcd55cf37105d2a8dd5be8fa16218ce9"), looks := false }, kinds := [], alts := [], laidByText := true, laidKinds := [.data, .data], laidTests := true, laidLooks := .later }
def StorePlaysCardSaid : Prop := Claim7.holds Tryd.pinned (.plain (OpenSpec.ofChange storePlaysSpec)) storePlaysCard

/-- THE TIED CARD OF 'petrellaw20.StoreQuota'. -/
def storeQuotaCard : Claim7 := { stood := { row := storeQuotaRow, standIns := [], harness := (true, "e0d35272ac929049943b2806de14d1fdbcd55cf37105d2a8dd5be8fa16218ce9"), looks := false }, kinds := [], alts := [], laidByText := true, laidKinds := [.data, .data], laidTests := true, laidLooks := .later }
def StoreQuotaCardSaid : Prop := Claim7.holds Tryd.pinned (.plain (OpenSpec.ofChange storeQuotaSpec)) storeQuotaCard

/-- THE TIED CARD OF 'petrellaw20.StoreZero'. -/
def storeZeroCard : Claim7 := { stood := { row := storeZeroRow, standIns := [], harness := (true, "e0d35272ac929049943b2806de14d1fdbcd55cf37105d2a8dd5be8fa16218ce9"), looks := false }, kinds := [], alts := [], laidByText := true, laidKinds := [.data, .data], laidTests := true, laidLooks := .later }
def StoreZeroCardSaid : Prop := Claim7.holds Tryd.pinned (.plain (OpenSpec.ofChange storeZeroSpec)) storeZeroCard

/-- THE SECOND FORM's CARD OF 'petrellaw20.StoreRoom'. -/
def storeRoomUptoCard : Claim7 := { stood := { row := storeRoomUptoRow, standIns := [], harness := (true, "e0d35272ac929049943b2806de14d1fdbcd55cf37105d2a8dd5be8fa16218ce9"), looks := false }, kinds := [], alts := [], laidByText := true, laidKinds := [.data, .data], laidTests := true, laidLooks := .later }
def StoreRoomUptoCardSaid : Prop := Claim7.holds Tryd.pinned (.plain (OpenSpec.upto storeRoomSpec)) storeRoomUptoCard

/-- THE SECOND FORM's CARD OF 'petrellaw20.StorePlays'. -/
def storePlaysUptoCard : Claim7 := { stood := { row := storePlaysUptoRow, standIns := [], harness := (true, "e0d35272ac929049943b2806de14d1fdbcd55cf37105d2a8dd5be8fa16218ce9"), looks := false }, kinds := [], alts := [], laidByText := true, laidKinds := [.data, .data], laidTests := true, laidLooks := .later }
def StorePlaysUptoCardSaid : Prop := Claim7.holds Tryd.pinned (.plain (OpenSpec.upto storePlaysSpec)) storePlaysUptoCard

/-- THE SECOND FORM's CARD OF 'petrellaw20.StoreQuota'. -/
def storeQuotaUptoCard : Claim7 := { stood := { row := storeQuotaUptoRow, standIns := [], harness := (true, "e0d35272ac929049943b2806de14d1fdbcd55cf37105d2a8dd5be8fa16218ce9"), looks := false }, kinds := [], alts := [], laidByText := true, laidKinds := [.data, .data], laidTests := true, laidLooks := .later }
def StoreQuotaUptoCardSaid : Prop := Claim7.holds Tryd.pinned (.plain (OpenSpec.upto storeQuotaSpec)) storeQuotaUptoCard

/-- THE SECOND FORM's CARD OF 'petrellaw20.StoreZero'. -/
def storeZeroUptoCard : Claim7 := { stood := { row := storeZeroUptoRow, standIns := [], harness := (true, "e0d35272ac929049943b2806de14d1fdbcd55cf37105d2a8dd5be8fa16218ce9"), looks := false }, kinds := [], alts := [], laidByText := true, laidKinds := [.data, .data], laidTests := true, laidLooks := .later }
def StoreZeroUptoCardSaid : Prop := Claim7.holds Tryd.pinned (.plain (OpenSpec.upto storeZeroSpec)) storeZeroUptoCard
end Rows
end Go.Proofs.YtjnplcajajdkiaaDoor
