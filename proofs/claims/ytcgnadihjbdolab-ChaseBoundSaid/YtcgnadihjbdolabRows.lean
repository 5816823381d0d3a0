/-
  No cell of these rows narrows 'for every input' (looked for: loops, veiled, ifaces, maps, wideKeys, modest, calm, conditions, laid).
  DERIVED. THE GIVEN ROWS OF THIS SEAT. 3 by the template 'for every input the law returns true; each argument reads behind the call as it read before'; 0 by the template 'total and deterministic' (their statements: YtcgnadihjbdolabTotals.lean).
  GIVEN WITH THE SEED: the statements are not yours to turn. If you find one false, say at which input.
  Laid BY PROGRAM, IN A SANDBOX (cutbox-rows.mjs): the forced cells as the released guide's own fill.sh prints them over the translation da6ec004a71e529e… (all of the seat's roots in one cut). By AI agents, Wed Nov 11 2026. No macro, syntax, notation, axiom, sorry.
-/
import Derived.Test.YtcgnadihjbdolabChecked
import GoSem.Claim
import GoSem.ClaimJoined
import GoSem.ClaimMapViews
import Derived.JoinedTies
import Derived.KernelRfl
namespace Go.Proofs.Ytcgnadihjbdolab
/- THE CELL 'sum', in the pinned program and in every row, IS THE sha256 OF THE DUMP (.gsa) THAT YtcgnadihjbdolabProg.lean LOADS. Nothing in Lean hashes anything: it is a label: what it is worth is what the hold of that sum in a sandbox is worth. -/
noncomputable def Try.pinned : Pinned := { name := "ytcgnadihjbdolab", sum := "da6ec004a71e529e46e87902b2d6d3b62174f0c1a98c0d77e2cafc9ba08c1da8", checked := Try.checked }
namespace Rows
def none {H : Type} : Left H := { results := [], args := [] }

/-- 'petrellaw32.ChaseBound': WHATEVER THE INPUT: true; the input reads as it did. -/
def chaseBoundSpec : ChangeSpec := { name := "chaseBound", fn := fun _ => fun
  | [d] => { results := [.lit (.bool true)], args := [d] }
  | _ => none }
def chaseBoundRow : OpenClaim := { program := "ytcgnadihjbdolab", sum := "da6ec004a71e529e46e87902b2d6d3b62174f0c1a98c0d77e2cafc9ba08c1da8", func := "petrel/petrellaw32.ChaseBound", spec := "chaseBound", unfollowed := true, recurses := true, apart := false }
def ChaseBoundSaid : Prop := chaseBoundRow.holds Try.pinned (OpenSpec.ofChange chaseBoundSpec)

/-- ITS FALSE NEIGHBOUR: 'it returns false'. Refute it at one input. -/
def chaseBoundWrong : ChangeSpec := { name := "chaseBound", fn := fun _ => fun
  | [d] => { results := [.lit (.bool false)], args := [d] }
  | _ => none }
def ChaseBoundWrongFalsely : Prop := chaseBoundRow.holds Try.pinned (OpenSpec.ofChange chaseBoundWrong)

/-- 'petrellaw32.ChaseAgain': WHATEVER THE INPUT: true; the input reads as it did. -/
def chaseAgainSpec : ChangeSpec := { name := "chaseAgain", fn := fun _ => fun
  | [d1, d2, d3, d4] => { results := [.lit (.bool true)], args := [d1, d2, d3, d4] }
  | _ => none }
def chaseAgainRow : OpenClaim := { program := "ytcgnadihjbdolab", sum := "da6ec004a71e529e46e87902b2d6d3b62174f0c1a98c0d77e2cafc9ba08c1da8", func := "petrel/petrellaw32.ChaseAgain", spec := "chaseAgain", unfollowed := true, recurses := true, apart := false }
def ChaseAgainSaid : Prop := chaseAgainRow.holds Try.pinned (OpenSpec.ofChange chaseAgainSpec)

/-- ITS FALSE NEIGHBOUR: 'it returns false'. Refute it at one input. -/
def chaseAgainWrong : ChangeSpec := { name := "chaseAgain", fn := fun _ => fun
  | [d1, d2, d3, d4] => { results := [.lit (.bool false)], args := [d1, d2, d3, d4] }
  | _ => none }
def ChaseAgainWrongFalsely : Prop := chaseAgainRow.holds Try.pinned (OpenSpec.ofChange chaseAgainWrong)

/-- 'petrellaw32.ChaseZero': WHATEVER THE INPUT: true; the input reads as it did. -/
def chaseZeroSpec : ChangeSpec := { name := "chaseZero", fn := fun _ => fun
  | [d1, d2] => { results := [.lit (.bool true)], args := [d1, d2] }
  | _ => none }
def chaseZeroRow : OpenClaim := { program := "ytcgnadihjbdolab", sum := "da6ec004a71e529e46e87902b2d6d3b62174f0c1a98c0d77e2cafc9ba08c1da8", func := "petrel/petrellaw32.ChaseZero", spec := "chaseZero", unfollowed := true, recurses := true, apart := false }
def ChaseZeroSaid : Prop := chaseZeroRow.holds Try.pinned (OpenSpec.ofChange chaseZeroSpec)

/-- ITS FALSE NEIGHBOUR: 'it returns false'. Refute it at one input. -/
def chaseZeroWrong : ChangeSpec := { name := "chaseZero", fn := fun _ => fun
  | [d1, d2] => { results := [.lit (.bool false)], args := [d1, d2] }
  | _ => none }
def ChaseZeroWrongFalsely : Prop := chaseZeroRow.holds Try.pinned (OpenSpec.ofChange chaseZeroWrong)

/- THE SECOND FORM. 'bulk': how many values and letters a reading holds, each counted each time it is reached (what is shared counts as often as it is met; a slice's spare places count too). A statement '..UptoSaid' is the law's where the arguments, and the package variables that the reading takes, are together of bulk at most 1048576: NARROWER than '..Said'. Prove '..Said' where nothing that the law and all that it calls make is longer than what came in: it says more and counts as full. Else prove '..UptoSaid'. A law counts once. -/
mutual
def uptoBulk {H : Type} : DataW H → Nat
  | .lit (.string bytes) => bytes.length + 1
  | .lit _ => 1
  | .nil => 1
  | .ptr d => uptoBulk d + 1
  | .slice elems spare => uptoBulkAll elems + uptoBulkAll spare + 1
  | .agg parts => uptoBulkAll parts + 1
  | .iface _ d => uptoBulk d + 1
  | .map entries => uptoBulkEntries entries + 1
  | .held _ => 1
def uptoBulkAll {H : Type} : List (DataW H) → Nat
  | [] => 0
  | d :: r => uptoBulk d + uptoBulkAll r
def uptoBulkEntries {H : Type} : List (Lit × DataW H) → Nat
  | [] => 0
  | x :: r => uptoBulkEntry x + uptoBulkEntries r
def uptoBulkEntry {H : Type} : Lit × DataW H → Nat
  | (.string bytes, d) => bytes.length + uptoBulk d + 1
  | (_, d) => uptoBulk d + 1
 end
def uptoSmall : (H : Type) → List (DataW H) → Bool := fun _ ds => decide (uptoBulkAll ds ≤ 1048576)
def OpenSpec.upto (s : _root_.Go.ChangeSpec) : _root_.Go.OpenSpec := { _root_.Go.OpenSpec.ofChange s with cond := some uptoSmall }

/-- 'petrellaw32.ChaseBound', WHERE WHAT IT READS IS OF BULK AT MOST 1048576: true; the input reads as it did. -/
def chaseBoundUptoRow : OpenClaim := { program := "ytcgnadihjbdolab", sum := "da6ec004a71e529e46e87902b2d6d3b62174f0c1a98c0d77e2cafc9ba08c1da8", func := "petrel/petrellaw32.ChaseBound", spec := "chaseBound", unfollowed := true, recurses := true, apart := false, narrowed := true }
def ChaseBoundUptoSaid : Prop := chaseBoundUptoRow.holds Try.pinned (OpenSpec.upto chaseBoundSpec)

/-- 'petrellaw32.ChaseAgain', WHERE WHAT IT READS IS OF BULK AT MOST 1048576: true; the input reads as it did. -/
def chaseAgainUptoRow : OpenClaim := { program := "ytcgnadihjbdolab", sum := "da6ec004a71e529e46e87902b2d6d3b62174f0c1a98c0d77e2cafc9ba08c1da8", func := "petrel/petrellaw32.ChaseAgain", spec := "chaseAgain", unfollowed := true, recurses := true, apart := false, narrowed := true }
def ChaseAgainUptoSaid : Prop := chaseAgainUptoRow.holds Try.pinned (OpenSpec.upto chaseAgainSpec)

/-- 'petrellaw32.ChaseZero', WHERE WHAT IT READS IS OF BULK AT MOST 1048576: true; the input reads as it did. -/
def chaseZeroUptoRow : OpenClaim := { program := "ytcgnadihjbdolab", sum := "da6ec004a71e529e46e87902b2d6d3b62174f0c1a98c0d77e2cafc9ba08c1da8", func := "petrel/petrellaw32.ChaseZero", spec := "chaseZero", unfollowed := true, recurses := true, apart := false, narrowed := true }
def ChaseZeroUptoSaid : Prop := chaseZeroUptoRow.holds Try.pinned (OpenSpec.upto chaseZeroSpec)

end Rows
end Go.Proofs.Ytcgnadihjbdolab
