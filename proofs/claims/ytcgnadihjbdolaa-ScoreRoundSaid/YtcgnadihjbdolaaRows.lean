/-
  No cell of these rows narrows 'for every input' (looked for: loops, veiled, ifaces, maps, wideKeys, modest, calm, conditions, laid).
  DERIVED. THE GIVEN ROWS OF THIS SEAT. 3 by the template 'for every input the law returns true; each argument reads behind the call as it read before'; 0 by the template 'total and deterministic' (their statements: YtcgnadihjbdolaaTotals.lean).
  GIVEN WITH THE SEED: the statements are not yours to turn. If you find one false, say at which input.
  Laid BY PROGRAM, IN A SANDBOX (cutbox-rows.mjs): the forced cells as the released guide's own fill.sh prints them over the translation 3bc77298d86aedc4… (all of the seat's roots in one cut). By AI agents, Wed Nov 11 2026. No macro, syntax, notation, axiom, sorry.
-/
import Derived.Test.YtcgnadihjbdolaaChecked
import GoSem.Claim
import GoSem.ClaimJoined
import GoSem.ClaimMapViews
import Derived.JoinedTies
import Derived.KernelRfl
namespace Go.Proofs.Ytcgnadihjbdolaa
/- THE CELL 'sum', in the pinned program and in every row, IS THE sha256 OF THE DUMP (.gsa) THAT YtcgnadihjbdolaaProg.lean LOADS. Nothing in Lean hashes anything: it is a label: what it is worth is what the hold of that sum in a sandbox is worth. -/
noncomputable def Try.pinned : Pinned := { name := "ytcgnadihjbdolaa", sum := "3bc77298d86aedc4cd566e867556ae9ebb63978514e05a89099127585de730a3", checked := Try.checked }
namespace Rows
def none {H : Type} : Left H := { results := [], args := [] }

/-- 'petrellaw31.ScorePlays': WHATEVER THE INPUT: true; the input reads as it did. -/
def scorePlaysSpec : ChangeSpec := { name := "scorePlays", fn := fun _ => fun
  | [d1, d2] => { results := [.lit (.bool true)], args := [d1, d2] }
  | _ => none }
def scorePlaysRow : OpenClaim := { program := "ytcgnadihjbdolaa", sum := "3bc77298d86aedc4cd566e867556ae9ebb63978514e05a89099127585de730a3", func := "petrel/petrellaw31.ScorePlays", spec := "scorePlays", apart := false }
def ScorePlaysSaid : Prop := scorePlaysRow.holds Try.pinned (OpenSpec.ofChange scorePlaysSpec)

/-- ITS FALSE NEIGHBOUR: 'it returns false'. Refute it at one input. -/
def scorePlaysWrong : ChangeSpec := { name := "scorePlays", fn := fun _ => fun
  | [d1, d2] => { results := [.lit (.bool false)], args := [d1, d2] }
  | _ => none }
def ScorePlaysWrongFalsely : Prop := scorePlaysRow.holds Try.pinned (OpenSpec.ofChange scorePlaysWrong)

/-- 'petrellaw31.ScoreRound': WHATEVER THE INPUT: true; the input reads as it did. -/
def scoreRoundSpec : ChangeSpec := { name := "scoreRound", fn := fun _ => fun
  | [d1, d2] => { results := [.lit (.bool true)], args := [d1, d2] }
  | _ => none }
def scoreRoundRow : OpenClaim := { program := "ytcgnadihjbdolaa", sum := "3bc77298d86aedc4cd566e867556ae9ebb63978514e05a89099127585de730a3", func := "petrel/petrellaw31.ScoreRound", spec := "scoreRound", apart := false }
def ScoreRoundSaid : Prop := scoreRoundRow.holds Try.pinned (OpenSpec.ofChange scoreRoundSpec)

/-- ITS FALSE NEIGHBOUR: 'it returns false'. Refute it at one input. -/
def scoreRoundWrong : ChangeSpec := { name := "scoreRound", fn := fun _ => fun
  | [d1, d2] => { results := [.lit (.bool false)], args := [d1, d2] }
  | _ => none }
def ScoreRoundWrongFalsely : Prop := scoreRoundRow.holds Try.pinned (OpenSpec.ofChange scoreRoundWrong)

/-- 'petrellaw31.ScoreZero': WHATEVER THE INPUT: true; the input reads as it did. -/
def scoreZeroSpec : ChangeSpec := { name := "scoreZero", fn := fun _ => fun
  | [d1, d2] => { results := [.lit (.bool true)], args := [d1, d2] }
  | _ => none }
def scoreZeroRow : OpenClaim := { program := "ytcgnadihjbdolaa", sum := "3bc77298d86aedc4cd566e867556ae9ebb63978514e05a89099127585de730a3", func := "petrel/petrellaw31.ScoreZero", spec := "scoreZero", apart := false }
def ScoreZeroSaid : Prop := scoreZeroRow.holds Try.pinned (OpenSpec.ofChange scoreZeroSpec)

/-- ITS FALSE NEIGHBOUR: 'it returns false'. Refute it at one input. -/
def scoreZeroWrong : ChangeSpec := { name := "scoreZero", fn := fun _ => fun
  | [d1, d2] => { results := [.lit (.bool false)], args := [d1, d2] }
  | _ => none }
def ScoreZeroWrongFalsely : Prop := scoreZeroRow.holds Try.pinned (OpenSpec.ofChange scoreZeroWrong)

/- THE SECOND FORM. 'bulk': how many values and letters a reading holds, each counted each time it is reached (what is shared counts as often as it is met; a slice's spare places count too). A statement '..UptoSaid' is the law's where the arguments, and the package variables that the reading takes, are together of bulk at most 1048576: NARROWER than '..Said'. Prove '..Said' where nothing that the law and all that it calls make is longer than what came in: it says more and counts as full. Else prove '..UptoSaid'. A law counts once. -/
mutual
def uptoBulk {H : Type} : DataW H → Nat
  | .lit (.string bytes) => bytes.length + 1
  | .lit _ => 1
  | .nil => 1
  | .ptr d => uptoBulk d + 1
  | .slice elems spare => uptoBulkAll elems + uptoBulkAll spare + 1
  | .agg parts => uptoBulkAll parts + 1
  | .iface _ d => uptoBulk d + 1
  | .map entries => uptoBulkEntries entries + 1
  | .held _ => 1
def uptoBulkAll {H : Type} : List (DataW H) → Nat
  | [] => 0
  | d :: r => uptoBulk d + uptoBulkAll r
def uptoBulkEntries {H : Type} : List (Lit × DataW H) → Nat
  | [] => 0
  | x :: r => uptoBulkEntry x + uptoBulkEntries r
def uptoBulkEntry {H : Type} : Lit × DataW H → Nat
  | (.string bytes, d) => bytes.length + uptoBulk d + 1
  | (_, d) => uptoBulk d + 1
 end
def uptoSmall : (H : Type) → List (DataW H) → Bool := fun _ ds => decide (uptoBulkAll ds ≤ 1048576)
def OpenSpec.upto (s : _root_.Go.ChangeSpec) : _root_.Go.OpenSpec := { _root_.Go.OpenSpec.ofChange s with cond := some uptoSmall }

/-- 'petrellaw31.ScorePlays', WHERE WHAT IT READS IS OF BULK AT MOST 1048576: true; the input reads as it did. -/
def scorePlaysUptoRow : OpenClaim := { program := "ytcgnadihjbdolaa", sum := "3bc77298d86aedc4cd566e867556ae9ebb63978514e05a89099127585de730a3", func := "petrel/petrellaw31.ScorePlays", spec := "scorePlays", apart := false, narrowed := true }
def ScorePlaysUptoSaid : Prop := scorePlaysUptoRow.holds Try.pinned (OpenSpec.upto scorePlaysSpec)

/-- 'petrellaw31.ScoreRound', WHERE WHAT IT READS IS OF BULK AT MOST 1048576: true; the input reads as it did. -/
def scoreRoundUptoRow : OpenClaim := { program := "ytcgnadihjbdolaa", sum := "3bc77298d86aedc4cd566e867556ae9ebb63978514e05a89099127585de730a3", func := "petrel/petrellaw31.ScoreRound", spec := "scoreRound", apart := false, narrowed := true }
def ScoreRoundUptoSaid : Prop := scoreRoundUptoRow.holds Try.pinned (OpenSpec.upto scoreRoundSpec)

/-- 'petrellaw31.ScoreZero', WHERE WHAT IT READS IS OF BULK AT MOST 1048576: true; the input reads as it did. -/
def scoreZeroUptoRow : OpenClaim := { program := "ytcgnadihjbdolaa", sum := "3bc77298d86aedc4cd566e867556ae9ebb63978514e05a89099127585de730a3", func := "petrel/petrellaw31.ScoreZero", spec := "scoreZero", apart := false, narrowed := true }
def ScoreZeroUptoSaid : Prop := scoreZeroUptoRow.holds Try.pinned (OpenSpec.upto scoreZeroSpec)

end Rows
end Go.Proofs.Ytcgnadihjbdolaa
