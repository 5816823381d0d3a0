/-
  NARROWER THAN 'FOR EVERY INPUT', by the rows' own cells (each row's printed sentence says how): RecordPuts: laid · RecordTurned: laid · RecordAll: laid · RecordBack: laid · RecordTorn: laid · JournalKeeps: laid · JournalPlays: laid · JournalZero: laid · VaultKeeps: laid · VaultWhole: laid · VaultPlays: laid · VaultZero: laid · VaultLoads: laid.
  DERIVED. THE GIVEN ROWS OF THIS SEAT. 13 by the template 'for every input the law returns true; each argument reads behind the call as it read before'; 0 by the template 'total and deterministic' (their statements: YtlhcmgjkhkcgcaaDoorTotals.lean).
  GIVEN WITH THE SEED: the statements are not yours to turn. If you find one false, say at which input.
  Laid BY PROGRAM, IN A SANDBOX (cutbox-rows.mjs): the forced cells as the released guide's own fill.sh prints them over the translation b384465a63de0407… (all of the seat's roots in one cut). By AI agents, Wed Nov 11 2026. No macro, syntax, notation, axiom, sorry.
-/
import Derived.Test.YtlhcmgjkhkcgcaaDoorChecked
import GoSem.Claim
import GoSem.ClaimJoined
import GoSem.ClaimMapViews
import Derived.JoinedTies
import Derived.KernelRfl
namespace Go.Proofs.YtlhcmgjkhkcgcaaDoor
/- THE CELL 'sum', in the pinned program and in every row, IS THE sha256 OF THE DUMP (.gsa) THAT YtlhcmgjkhkcgcaaDoorProg.lean LOADS. Nothing in Lean hashes anything: it is a label: what it is worth is what the hold of that sum in a sandbox is worth. -/
noncomputable def Tryd.pinned : Pinned := { name := "ytlhcmgjkhkcgcaadoor", sum := "b384465a63de040778050de4469df410d2eb51e7cfad0b774b71c58dd2c29f74", checked := Tryd.checked }
namespace Rows
def none {H : Type} : Left H := { results := [], args := [] }

/- WHAT THE LISTED PACKAGE-LEVEL VARIABLES READ AS WHEN THE CALL BEGINS. Each datum BY PROGRAM (the guide's laid-datum.mjs) off the statement by which the dump's own 'gosem.cut.vars' lays the variable. In a bare row this is a premise. The card (YtlhcmgjkhkcgcaaDoorCards.lean) ties it to the program's text. -/
def laid_petrel_crc_table {H : Type} : DataW H := .agg [.lit (.int .u32 0), .lit (.int .u32 498536548), .lit (.int .u32 997073096), .lit (.int .u32 651767980), .lit (.int .u32 1994146192), .lit (.int .u32 1802195444), .lit (.int .u32 1303535960), .lit (.int .u32 1342533948), .lit (.int .u32 3988292384), .lit (.int .u32 4027552580), .lit (.int .u32 3604390888), .lit (.int .u32 3412177804), .lit (.int .u32 2607071920), .lit (.int .u32 2262029012), .lit (.int .u32 2685067896), .lit (.int .u32 3183342108)]

/-- 'petrellaw11.RecordPuts': WHATEVER THE INPUT: true; the input reads as it did. -/
def recordPutsSpec : ChangeSpec := { name := "recordPuts", fn := fun _ => fun
  | [d1, d2, d3] => { results := [.lit (.bool true)], args := [d1, d2, d3] }
  | _ => none }
def recordPutsRow : OpenClaim := { program := "ytlhcmgjkhkcgcaadoor", sum := "b384465a63de040778050de4469df410d2eb51e7cfad0b774b71c58dd2c29f74", func := "petrel/petrellaw11.RecordPuts", spec := "recordPuts", named := ["petrel/crc.table"], apart := false, laid := [("petrel/crc.table", laid_petrel_crc_table)] }
def RecordPutsSaid : Prop := recordPutsRow.holds Tryd.pinned (OpenSpec.ofChange recordPutsSpec)

/-- ITS FALSE NEIGHBOUR: 'it returns false'. Refute it at one input. -/
def recordPutsWrong : ChangeSpec := { name := "recordPuts", fn := fun _ => fun
  | [d1, d2, d3] => { results := [.lit (.bool false)], args := [d1, d2, d3] }
  | _ => none }
def RecordPutsWrongFalsely : Prop := recordPutsRow.holds Tryd.pinned (OpenSpec.ofChange recordPutsWrong)

/-- 'petrellaw11.RecordTurned': WHATEVER THE INPUT: true; the input reads as it did. -/
def recordTurnedSpec : ChangeSpec := { name := "recordTurned", fn := fun _ => fun
  | [d1, d2, d3] => { results := [.lit (.bool true)], args := [d1, d2, d3] }
  | _ => none }
def recordTurnedRow : OpenClaim := { program := "ytlhcmgjkhkcgcaadoor", sum := "b384465a63de040778050de4469df410d2eb51e7cfad0b774b71c58dd2c29f74", func := "petrel/petrellaw11.RecordTurned", spec := "recordTurned", named := ["petrel/crc.table"], apart := false, laid := [("petrel/crc.table", laid_petrel_crc_table)] }
def RecordTurnedSaid : Prop := recordTurnedRow.holds Tryd.pinned (OpenSpec.ofChange recordTurnedSpec)

/-- ITS FALSE NEIGHBOUR: 'it returns false'. Refute it at one input. -/
def recordTurnedWrong : ChangeSpec := { name := "recordTurned", fn := fun _ => fun
  | [d1, d2, d3] => { results := [.lit (.bool false)], args := [d1, d2, d3] }
  | _ => none }
def RecordTurnedWrongFalsely : Prop := recordTurnedRow.holds Tryd.pinned (OpenSpec.ofChange recordTurnedWrong)

/-- 'petrellaw11.RecordAll': WHATEVER THE INPUT: true; the input reads as it did. -/
def recordAllSpec : ChangeSpec := { name := "recordAll", fn := fun _ => fun
  | [d] => { results := [.lit (.bool true)], args := [d] }
  | _ => none }
def recordAllRow : OpenClaim := { program := "ytlhcmgjkhkcgcaadoor", sum := "b384465a63de040778050de4469df410d2eb51e7cfad0b774b71c58dd2c29f74", func := "petrel/petrellaw11.RecordAll", spec := "recordAll", unfollowed := true, recurses := true, named := ["petrel/crc.table"], apart := false, laid := [("petrel/crc.table", laid_petrel_crc_table)] }
def RecordAllSaid : Prop := recordAllRow.holds Tryd.pinned (OpenSpec.ofChange recordAllSpec)

/-- ITS FALSE NEIGHBOUR: 'it returns false'. Refute it at one input. -/
def recordAllWrong : ChangeSpec := { name := "recordAll", fn := fun _ => fun
  | [d] => { results := [.lit (.bool false)], args := [d] }
  | _ => none }
def RecordAllWrongFalsely : Prop := recordAllRow.holds Tryd.pinned (OpenSpec.ofChange recordAllWrong)

/-- 'petrellaw11.RecordBack': WHATEVER THE INPUT: true; the input reads as it did. -/
def recordBackSpec : ChangeSpec := { name := "recordBack", fn := fun _ => fun
  | [d] => { results := [.lit (.bool true)], args := [d] }
  | _ => none }
def recordBackRow : OpenClaim := { program := "ytlhcmgjkhkcgcaadoor", sum := "b384465a63de040778050de4469df410d2eb51e7cfad0b774b71c58dd2c29f74", func := "petrel/petrellaw11.RecordBack", spec := "recordBack", unfollowed := true, recurses := true, named := ["petrel/crc.table"], apart := false, laid := [("petrel/crc.table", laid_petrel_crc_table)] }
def RecordBackSaid : Prop := recordBackRow.holds Tryd.pinned (OpenSpec.ofChange recordBackSpec)

/-- ITS FALSE NEIGHBOUR: 'it returns false'. Refute it at one input. -/
def recordBackWrong : ChangeSpec := { name := "recordBack", fn := fun _ => fun
  | [d] => { results := [.lit (.bool false)], args := [d] }
  | _ => none }
def RecordBackWrongFalsely : Prop := recordBackRow.holds Tryd.pinned (OpenSpec.ofChange recordBackWrong)

/-- 'petrellaw11.RecordTorn': WHATEVER THE INPUT: true; the input reads as it did. -/
def recordTornSpec : ChangeSpec := { name := "recordTorn", fn := fun _ => fun
  | [d1, d2] => { results := [.lit (.bool true)], args := [d1, d2] }
  | _ => none }
def recordTornRow : OpenClaim := { program := "ytlhcmgjkhkcgcaadoor", sum := "b384465a63de040778050de4469df410d2eb51e7cfad0b774b71c58dd2c29f74", func := "petrel/petrellaw11.RecordTorn", spec := "recordTorn", unfollowed := true, recurses := true, named := ["petrel/crc.table"], apart := false, laid := [("petrel/crc.table", laid_petrel_crc_table)] }
def RecordTornSaid : Prop := recordTornRow.holds Tryd.pinned (OpenSpec.ofChange recordTornSpec)

/-- ITS FALSE NEIGHBOUR: 'it returns false'. Refute it at one input. -/
def recordTornWrong : ChangeSpec := { name := "recordTorn", fn := fun _ => fun
  | [d1, d2] => { results := [.lit (.bool false)], args := [d1, d2] }
  | _ => none }
def RecordTornWrongFalsely : Prop := recordTornRow.holds Tryd.pinned (OpenSpec.ofChange recordTornWrong)

/-- 'petrellaw12.JournalKeeps': WHATEVER THE INPUT: true; the input reads as it did. -/
def journalKeepsSpec : ChangeSpec := { name := "journalKeeps", fn := fun _ => fun
  | [d1, d2, d3] => { results := [.lit (.bool true)], args := [d1, d2, d3] }
  | _ => none }
def journalKeepsRow : OpenClaim := { program := "ytlhcmgjkhkcgcaadoor", sum := "b384465a63de040778050de4469df410d2eb51e7cfad0b774b71c58dd2c29f74", func := "petrel/petrellaw12.JournalKeeps", spec := "journalKeeps", unfollowed := true, recurses := true, named := ["petrel/crc.table"], apart := false, laid := [("petrel/crc.table", laid_petrel_crc_table)] }
def JournalKeepsSaid : Prop := journalKeepsRow.holds Tryd.pinned (OpenSpec.ofChange journalKeepsSpec)

/-- ITS FALSE NEIGHBOUR: 'it returns false'. Refute it at one input. -/
def journalKeepsWrong : ChangeSpec := { name := "journalKeeps", fn := fun _ => fun
  | [d1, d2, d3] => { results := [.lit (.bool false)], args := [d1, d2, d3] }
  | _ => none }
def JournalKeepsWrongFalsely : Prop := journalKeepsRow.holds Tryd.pinned (OpenSpec.ofChange journalKeepsWrong)

/-- 'petrellaw12.JournalPlays': WHATEVER THE INPUT: true; the input reads as it did. -/
def journalPlaysSpec : ChangeSpec := { name := "journalPlays", fn := fun _ => fun
  | [d1, d2] => { results := [.lit (.bool true)], args := [d1, d2] }
  | _ => none }
def journalPlaysRow : OpenClaim := { program := "ytlhcmgjkhkcgcaadoor", sum := "b384465a63de040778050de4469df410d2eb51e7cfad0b774b71c58dd2c29f74", func := "petrel/petrellaw12.JournalPlays", spec := "journalPlays", unfollowed := true, recurses := true, named := ["petrel/crc.table"], apart := false, laid := [("petrel/crc.table", laid_petrel_crc_table)] }
def JournalPlaysSaid : Prop := journalPlaysRow.holds Tryd.pinned (OpenSpec.ofChange journalPlaysSpec)

/-- ITS FALSE NEIGHBOUR: 'it returns false'. Refute it at one input. -/
def journalPlaysWrong : ChangeSpec := { name := "journalPlays", fn := fun _ => fun
  | [d1, d2] => { results := [.lit (.bool false)], args := [d1, d2] }
  | _ => none }
def JournalPlaysWrongFalsely : Prop := journalPlaysRow.holds Tryd.pinned (OpenSpec.ofChange journalPlaysWrong)

/-- 'petrellaw12.JournalZero': WHATEVER THE INPUT: true; the input reads as it did. -/
def journalZeroSpec : ChangeSpec := { name := "journalZero", fn := fun _ => fun
  | [d1, d2] => { results := [.lit (.bool true)], args := [d1, d2] }
  | _ => none }
def journalZeroRow : OpenClaim := { program := "ytlhcmgjkhkcgcaadoor", sum := "b384465a63de040778050de4469df410d2eb51e7cfad0b774b71c58dd2c29f74", func := "petrel/petrellaw12.JournalZero", spec := "journalZero", unfollowed := true, recurses := true, named := ["petrel/crc.table"], apart := false, laid := [("petrel/crc.table", laid_petrel_crc_table)] }
def JournalZeroSaid : Prop := journalZeroRow.holds Tryd.pinned (OpenSpec.ofChange journalZeroSpec)

/-- ITS FALSE NEIGHBOUR: 'it returns false'. Refute it at one input. -/
def journalZeroWrong : ChangeSpec := { name := "journalZero", fn := fun _ => fun
  | [d1, d2] => { results := [.lit (.bool false)], args := [d1, d2] }
  | _ => none }
def JournalZeroWrongFalsely : Prop := journalZeroRow.holds Tryd.pinned (OpenSpec.ofChange journalZeroWrong)

/-- 'petrellaw13.VaultKeeps': WHATEVER THE INPUT: true; the input reads as it did. -/
def vaultKeepsSpec : ChangeSpec := { name := "vaultKeeps", fn := fun _ => fun
  | [d1, d2, d3] => { results := [.lit (.bool true)], args := [d1, d2, d3] }
  | _ => none }
def vaultKeepsRow : OpenClaim := { program := "ytlhcmgjkhkcgcaadoor", sum := "b384465a63de040778050de4469df410d2eb51e7cfad0b774b71c58dd2c29f74", func := "petrel/petrellaw13.VaultKeeps", spec := "vaultKeeps", unfollowed := true, recurses := true, named := ["petrel/crc.table"], apart := false, laid := [("petrel/crc.table", laid_petrel_crc_table)] }
def VaultKeepsSaid : Prop := vaultKeepsRow.holds Tryd.pinned (OpenSpec.ofChange vaultKeepsSpec)

/-- ITS FALSE NEIGHBOUR: 'it returns false'. Refute it at one input. -/
def vaultKeepsWrong : ChangeSpec := { name := "vaultKeeps", fn := fun _ => fun
  | [d1, d2, d3] => { results := [.lit (.bool false)], args := [d1, d2, d3] }
  | _ => none }
def VaultKeepsWrongFalsely : Prop := vaultKeepsRow.holds Tryd.pinned (OpenSpec.ofChange vaultKeepsWrong)

/-- 'petrellaw13.VaultWhole': WHATEVER THE INPUT: true; the input reads as it did. -/
def vaultWholeSpec : ChangeSpec := { name := "vaultWhole", fn := fun _ => fun
  | [d1, d2, d3] => { results := [.lit (.bool true)], args := [d1, d2, d3] }
  | _ => none }
def vaultWholeRow : OpenClaim := { program := "ytlhcmgjkhkcgcaadoor", sum := "b384465a63de040778050de4469df410d2eb51e7cfad0b774b71c58dd2c29f74", func := "petrel/petrellaw13.VaultWhole", spec := "vaultWhole", unfollowed := true, recurses := true, named := ["petrel/crc.table"], apart := false, laid := [("petrel/crc.table", laid_petrel_crc_table)] }
def VaultWholeSaid : Prop := vaultWholeRow.holds Tryd.pinned (OpenSpec.ofChange vaultWholeSpec)

/-- ITS FALSE NEIGHBOUR: 'it returns false'. Refute it at one input. -/
def vaultWholeWrong : ChangeSpec := { name := "vaultWhole", fn := fun _ => fun
  | [d1, d2, d3] => { results := [.lit (.bool false)], args := [d1, d2, d3] }
  | _ => none }
def VaultWholeWrongFalsely : Prop := vaultWholeRow.holds Tryd.pinned (OpenSpec.ofChange vaultWholeWrong)

/-- 'petrellaw13.VaultPlays': WHATEVER THE INPUT: true; the input reads as it did. -/
def vaultPlaysSpec : ChangeSpec := { name := "vaultPlays", fn := fun _ => fun
  | [d] => { results := [.lit (.bool true)], args := [d] }
  | _ => none }
def vaultPlaysRow : OpenClaim := { program := "ytlhcmgjkhkcgcaadoor", sum := "b384465a63de040778050de4469df410d2eb51e7cfad0b774b71c58dd2c29f74", func := "petrel/petrellaw13.VaultPlays", spec := "vaultPlays", unfollowed := true, recurses := true, named := ["petrel/crc.table"], apart := false, laid := [("petrel/crc.table", laid_petrel_crc_table)] }
def VaultPlaysSaid : Prop := vaultPlaysRow.holds Tryd.pinned (OpenSpec.ofChange vaultPlaysSpec)

/-- ITS FALSE NEIGHBOUR: 'it returns false'. Refute it at one input. -/
def vaultPlaysWrong : ChangeSpec := { name := "vaultPlays", fn := fun _ => fun
  | [d] => { results := [.lit (.bool false)], args := [d] }
  | _ => none }
def VaultPlaysWrongFalsely : Prop := vaultPlaysRow.holds Tryd.pinned (OpenSpec.ofChange vaultPlaysWrong)

/-- 'petrellaw13.VaultZero': WHATEVER THE INPUT: true; the input reads as it did. -/
def vaultZeroSpec : ChangeSpec := { name := "vaultZero", fn := fun _ => fun
  | [d1, d2] => { results := [.lit (.bool true)], args := [d1, d2] }
  | _ => none }
def vaultZeroRow : OpenClaim := { program := "ytlhcmgjkhkcgcaadoor", sum := "b384465a63de040778050de4469df410d2eb51e7cfad0b774b71c58dd2c29f74", func := "petrel/petrellaw13.VaultZero", spec := "vaultZero", unfollowed := true, recurses := true, named := ["petrel/crc.table"], apart := false, laid := [("petrel/crc.table", laid_petrel_crc_table)] }
def VaultZeroSaid : Prop := vaultZeroRow.holds Tryd.pinned (OpenSpec.ofChange vaultZeroSpec)

/-- ITS FALSE NEIGHBOUR: 'it returns false'. Refute it at one input. -/
def vaultZeroWrong : ChangeSpec := { name := "vaultZero", fn := fun _ => fun
  | [d1, d2] => { results := [.lit (.bool false)], args := [d1, d2] }
  | _ => none }
def VaultZeroWrongFalsely : Prop := vaultZeroRow.holds Tryd.pinned (OpenSpec.ofChange vaultZeroWrong)

/-- 'petrellaw13.VaultLoads': WHATEVER THE INPUT: true; the input reads as it did. -/
def vaultLoadsSpec : ChangeSpec := { name := "vaultLoads", fn := fun _ => fun
  | [d1, d2, d3, d4] => { results := [.lit (.bool true)], args := [d1, d2, d3, d4] }
  | _ => none }
def vaultLoadsRow : OpenClaim := { program := "ytlhcmgjkhkcgcaadoor", sum := "b384465a63de040778050de4469df410d2eb51e7cfad0b774b71c58dd2c29f74", func := "petrel/petrellaw13.VaultLoads", spec := "vaultLoads", unfollowed := true, recurses := true, named := ["petrel/crc.table"], apart := false, laid := [("petrel/crc.table", laid_petrel_crc_table)] }
def VaultLoadsSaid : Prop := vaultLoadsRow.holds Tryd.pinned (OpenSpec.ofChange vaultLoadsSpec)

/-- ITS FALSE NEIGHBOUR: 'it returns false'. Refute it at one input. -/
def vaultLoadsWrong : ChangeSpec := { name := "vaultLoads", fn := fun _ => fun
  | [d1, d2, d3, d4] => { results := [.lit (.bool false)], args := [d1, d2, d3, d4] }
  | _ => none }
def VaultLoadsWrongFalsely : Prop := vaultLoadsRow.holds Tryd.pinned (OpenSpec.ofChange vaultLoadsWrong)

/- THE SECOND FORM. 'bulk': how many values and letters a reading holds, each counted each time it is reached (what is shared counts as often as it is met; a slice's spare places count too). A statement '..UptoSaid' is the law's where the arguments, and the package variables that the reading takes, are together of bulk at most 1048576: NARROWER than '..Said'. Prove '..Said' where nothing that the law and all that it calls make is longer than what came in: it says more and counts as full. Else prove '..UptoSaid'. A law counts once. -/
mutual
def uptoBulk {H : Type} : DataW H → Nat
  | .lit (.string bytes) => bytes.length + 1
  | .lit _ => 1
  | .nil => 1
  | .ptr d => uptoBulk d + 1
  | .slice elems spare => uptoBulkAll elems + uptoBulkAll spare + 1
  | .agg parts => uptoBulkAll parts + 1
  | .iface _ d => uptoBulk d + 1
  | .map entries => uptoBulkEntries entries + 1
  | .held _ => 1
def uptoBulkAll {H : Type} : List (DataW H) → Nat
  | [] => 0
  | d :: r => uptoBulk d + uptoBulkAll r
def uptoBulkEntries {H : Type} : List (Lit × DataW H) → Nat
  | [] => 0
  | x :: r => uptoBulkEntry x + uptoBulkEntries r
def uptoBulkEntry {H : Type} : Lit × DataW H → Nat
  | (.string bytes, d) => bytes.length + uptoBulk d + 1
  | (_, d) => uptoBulk d + 1
 end
def uptoSmall : (H : Type) → List (DataW H) → Bool := fun _ ds => decide (uptoBulkAll ds ≤ 1048576)
def OpenSpec.upto (s : _root_.Go.ChangeSpec) : _root_.Go.OpenSpec := { _root_.Go.OpenSpec.ofChange s with cond := some uptoSmall }

/-- 'petrellaw11.RecordPuts', WHERE WHAT IT READS IS OF BULK AT MOST 1048576: true; the input reads as it did. -/
def recordPutsUptoRow : OpenClaim := { program := "ytlhcmgjkhkcgcaadoor", sum := "b384465a63de040778050de4469df410d2eb51e7cfad0b774b71c58dd2c29f74", func := "petrel/petrellaw11.RecordPuts", spec := "recordPuts", named := ["petrel/crc.table"], apart := false, laid := [("petrel/crc.table", laid_petrel_crc_table)], narrowed := true }
def RecordPutsUptoSaid : Prop := recordPutsUptoRow.holds Tryd.pinned (OpenSpec.upto recordPutsSpec)

/-- 'petrellaw11.RecordTurned', WHERE WHAT IT READS IS OF BULK AT MOST 1048576: true; the input reads as it did. -/
def recordTurnedUptoRow : OpenClaim := { program := "ytlhcmgjkhkcgcaadoor", sum := "b384465a63de040778050de4469df410d2eb51e7cfad0b774b71c58dd2c29f74", func := "petrel/petrellaw11.RecordTurned", spec := "recordTurned", named := ["petrel/crc.table"], apart := false, laid := [("petrel/crc.table", laid_petrel_crc_table)], narrowed := true }
def RecordTurnedUptoSaid : Prop := recordTurnedUptoRow.holds Tryd.pinned (OpenSpec.upto recordTurnedSpec)

/-- 'petrellaw11.RecordAll', WHERE WHAT IT READS IS OF BULK AT MOST 1048576: true; the input reads as it did. -/
def recordAllUptoRow : OpenClaim := { program := "ytlhcmgjkhkcgcaadoor", sum := "b384465a63de040778050de4469df410d2eb51e7cfad0b774b71c58dd2c29f74", func := "petrel/petrellaw11.RecordAll", spec := "recordAll", unfollowed := true, recurses := true, named := ["petrel/crc.table"], apart := false, laid := [("petrel/crc.table", laid_petrel_crc_table)], narrowed := true }
def RecordAllUptoSaid : Prop := recordAllUptoRow.holds Tryd.pinned (OpenSpec.upto recordAllSpec)

/-- 'petrellaw11.RecordBack', WHERE WHAT IT READS IS OF BULK AT MOST 1048576: true; the input reads as it did. -/
def recordBackUptoRow : OpenClaim := { program := "ytlhcmgjkhkcgcaadoor", sum := "b384465a63de040778050de4469df410d2eb51e7cfad0b774b71c58dd2c29f74", func := "petrel/petrellaw11.RecordBack", spec := "recordBack", unfollowed := true, recurses := true, named := ["petrel/crc.table"], apart := false, laid := [("petrel/crc.table", laid_petrel_crc_table)], narrowed := true }
def RecordBackUptoSaid : Prop := recordBackUptoRow.holds Tryd.pinned (OpenSpec.upto recordBackSpec)

/-- 'petrellaw11.RecordTorn', WHERE WHAT IT READS IS OF BULK AT MOST 1048576: true; the input reads as it did. -/
def recordTornUptoRow : OpenClaim := { program := "ytlhcmgjkhkcgcaadoor", sum := "b384465a63de040778050de4469df410d2eb51e7cfad0b774b71c58dd2c29f74", func := "petrel/petrellaw11.RecordTorn", spec := "recordTorn", unfollowed := true, recurses := true, named := ["petrel/crc.table"], apart := false, laid := [("petrel/crc.table", laid_petrel_crc_table)], narrowed := true }
def RecordTornUptoSaid : Prop := recordTornUptoRow.holds Tryd.pinned (OpenSpec.upto recordTornSpec)

/-- 'petrellaw12.JournalKeeps', WHERE WHAT IT READS IS OF BULK AT MOST 1048576: true; the input reads as it did. -/
def journalKeepsUptoRow : OpenClaim := { program := "ytlhcmgjkhkcgcaadoor", sum := "b384465a63de040778050de4469df410d2eb51e7cfad0b774b71c58dd2c29f74", func := "petrel/petrellaw12.JournalKeeps", spec := "journalKeeps", unfollowed := true, recurses := true, named := ["petrel/crc.table"], apart := false, laid := [("petrel/crc.table", laid_petrel_crc_table)], narrowed := true }
def JournalKeepsUptoSaid : Prop := journalKeepsUptoRow.holds Tryd.pinned (OpenSpec.upto journalKeepsSpec)

/-- 'petrellaw12.JournalPlays', WHERE WHAT IT READS IS OF BULK AT MOST 1048576: true; the input reads as it did. -/
def journalPlaysUptoRow : OpenClaim := { program := "ytlhcmgjkhkcgcaadoor", sum := "b384465a63de040778050de4469df410d2eb51e7cfad0b774b71c58dd2c29f74", func := "petrel/petrellaw12.JournalPlays", spec := "journalPlays", unfollowed := true, recurses := true, named := ["petrel/crc.table"], apart := false, laid := [("petrel/crc.table", laid_petrel_crc_table)], narrowed := true }
def JournalPlaysUptoSaid : Prop := journalPlaysUptoRow.holds Tryd.pinned (OpenSpec.upto journalPlaysSpec)

/-- 'petrellaw12.JournalZero', WHERE WHAT IT READS IS OF BULK AT MOST 1048576: true; the input reads as it did. -/
def journalZeroUptoRow : OpenClaim := { program := "ytlhcmgjkhkcgcaadoor", sum := "b384465a63de040778050de4469df410d2eb51e7cfad0b774b71c58dd2c29f74", func := "petrel/petrellaw12.JournalZero", spec := "journalZero", unfollowed := true, recurses := true, named := ["petrel/crc.table"], apart := false, laid := [("petrel/crc.table", laid_petrel_crc_table)], narrowed := true }
def JournalZeroUptoSaid : Prop := journalZeroUptoRow.holds Tryd.pinned (OpenSpec.upto journalZeroSpec)

/-- 'petrellaw13.VaultKeeps', WHERE WHAT IT READS IS OF BULK AT MOST 1048576: true; the input reads as it did. -/
def vaultKeepsUptoRow : OpenClaim := { program := "ytlhcmgjkhkcgcaadoor", sum := "b384465a63de040778050de4469df410d2eb51e7cfad0b774b71c58dd2c29f74", func := "petrel/petrellaw13.VaultKeeps", spec := "vaultKeeps", unfollowed := true, recurses := true, named := ["petrel/crc.table"], apart := false, laid := [("petrel/crc.table", laid_petrel_crc_table)], narrowed := true }
def VaultKeepsUptoSaid : Prop := vaultKeepsUptoRow.holds Tryd.pinned (OpenSpec.upto vaultKeepsSpec)

/-- 'petrellaw13.VaultWhole', WHERE WHAT IT READS IS OF BULK AT MOST 1048576: true; the input reads as it did. -/
def vaultWholeUptoRow : OpenClaim := { program := "ytlhcmgjkhkcgcaadoor", sum := "b384465a63de040778050de4469df410d2eb51e7cfad0b774b71c58dd2c29f74", func := "petrel/petrellaw13.VaultWhole", spec := "vaultWhole", unfollowed := true, recurses := true, named := ["petrel/crc.table"], apart := false, laid := [("petrel/crc.table", laid_petrel_crc_table)], narrowed := true }
def VaultWholeUptoSaid : Prop := vaultWholeUptoRow.holds Tryd.pinned (OpenSpec.upto vaultWholeSpec)

/-- 'petrellaw13.VaultPlays', WHERE WHAT IT READS IS OF BULK AT MOST 1048576: true; the input reads as it did. -/
def vaultPlaysUptoRow : OpenClaim := { program := "ytlhcmgjkhkcgcaadoor", sum := "b384465a63de040778050de4469df410d2eb51e7cfad0b774b71c58dd2c29f74", func := "petrel/petrellaw13.VaultPlays", spec := "vaultPlays", unfollowed := true, recurses := true, named := ["petrel/crc.table"], apart := false, laid := [("petrel/crc.table", laid_petrel_crc_table)], narrowed := true }
def VaultPlaysUptoSaid : Prop := vaultPlaysUptoRow.holds Tryd.pinned (OpenSpec.upto vaultPlaysSpec)

/-- 'petrellaw13.VaultZero', WHERE WHAT IT READS IS OF BULK AT MOST 1048576: true; the input reads as it did. -/
def vaultZeroUptoRow : OpenClaim := { program := "ytlhcmgjkhkcgcaadoor", sum := "b384465a63de040778050de4469df410d2eb51e7cfad0b774b71c58dd2c29f74", func := "petrel/petrellaw13.VaultZero", spec := "vaultZero", unfollowed := true, recurses := true, named := ["petrel/crc.table"], apart := false, laid := [("petrel/crc.table", laid_petrel_crc_table)], narrowed := true }
def VaultZeroUptoSaid : Prop := vaultZeroUptoRow.holds Tryd.pinned (OpenSpec.upto vaultZeroSpec)

/-- 'petrellaw13.VaultLoads', WHERE WHAT IT READS IS OF BULK AT MOST 1048576: true; the input reads as it did. -/
def vaultLoadsUptoRow : OpenClaim := { program := "ytlhcmgjkhkcgcaadoor", sum := "b384465a63de040778050de4469df410d2eb51e7cfad0b774b71c58dd2c29f74", func := "petrel/petrellaw13.VaultLoads", spec := "vaultLoads", unfollowed := true, recurses := true, named := ["petrel/crc.table"], apart := false, laid := [("petrel/crc.table", laid_petrel_crc_table)], narrowed := true }
def VaultLoadsUptoSaid : Prop := vaultLoadsUptoRow.holds Tryd.pinned (OpenSpec.upto vaultLoadsSpec)

end Rows
end Go.Proofs.YtlhcmgjkhkcgcaaDoor
