/-
  No cell of these rows narrows 'for every input' (looked for: loops, veiled, ifaces, maps, wideKeys, modest, calm, conditions, laid).
  DERIVED. THE GIVEN ROWS OF THIS SEAT. 4 by the template 'for every input the law returns true; each argument reads behind the call as it read before'; 0 by the template 'total and deterministic' (their statements: YtjjapnphljhicaaTotals.lean).
  GIVEN WITH THE SEED: the statements are not yours to turn. If you find one false, say at which input.
  Laid BY PROGRAM, IN A SANDBOX (cutbox-rows.mjs): the forced cells as the released guide's own fill.sh prints them over the translation 4851ea2e50fd6d57… (all of the seat's roots in one cut). By AI agents, Wed Nov 11 2026. No macro, syntax, notation, axiom, sorry.
-/
import Derived.Test.YtjjapnphljhicaaChecked
import GoSem.Claim
import GoSem.ClaimJoined
import GoSem.ClaimMapViews
import Derived.JoinedTies
import Derived.KernelRfl
namespace Go.Proofs.Ytjjapnphljhicaa
/- THE CELL 'sum', in the pinned program and in every row, IS THE sha256 OF THE DUMP (.gsa) THAT YtjjapnphljhicaaProg.lean LOADS. Nothing in Lean hashes anything: it is a label: what it is worth is what the hold of that sum in a sandbox is worth. -/
noncomputable def Try.pinned : Pinned := { name := "ytjjapnphljhicaa", sum := "4851ea2e50fd6d57ae60f39aff8793e774b56a14ea00671940778ebbab590ea3", checked := Try.checked }
namespace Rows
def none {H : Type} : Left H := { results := [], args := [] }

/-- 'petrellaw36.NetDelivers': WHATEVER THE INPUT: true; the input reads as it did. -/
def netDeliversSpec : ChangeSpec := { name := "netDelivers", fn := fun _ => fun
  | [d1, d2] => { results := [.lit (.bool true)], args := [d1, d2] }
  | _ => none }
def netDeliversRow : OpenClaim := { program := "ytjjapnphljhicaa", sum := "4851ea2e50fd6d57ae60f39aff8793e774b56a14ea00671940778ebbab590ea3", func := "petrel/petrellaw36.NetDelivers", spec := "netDelivers", apart := false }
def NetDeliversSaid : Prop := netDeliversRow.holds Try.pinned (OpenSpec.ofChange netDeliversSpec)

/-- ITS FALSE NEIGHBOUR: 'it returns false'. Refute it at one input. -/
def netDeliversWrong : ChangeSpec := { name := "netDelivers", fn := fun _ => fun
  | [d1, d2] => { results := [.lit (.bool false)], args := [d1, d2] }
  | _ => none }
def NetDeliversWrongFalsely : Prop := netDeliversRow.holds Try.pinned (OpenSpec.ofChange netDeliversWrong)

/-- 'petrellaw36.NetBound': WHATEVER THE INPUT: true; the input reads as it did. -/
def netBoundSpec : ChangeSpec := { name := "netBound", fn := fun _ => fun
  | [d1, d2, d3] => { results := [.lit (.bool true)], args := [d1, d2, d3] }
  | _ => none }
def netBoundRow : OpenClaim := { program := "ytjjapnphljhicaa", sum := "4851ea2e50fd6d57ae60f39aff8793e774b56a14ea00671940778ebbab590ea3", func := "petrel/petrellaw36.NetBound", spec := "netBound", apart := false }
def NetBoundSaid : Prop := netBoundRow.holds Try.pinned (OpenSpec.ofChange netBoundSpec)

/-- ITS FALSE NEIGHBOUR: 'it returns false'. Refute it at one input. -/
def netBoundWrong : ChangeSpec := { name := "netBound", fn := fun _ => fun
  | [d1, d2, d3] => { results := [.lit (.bool false)], args := [d1, d2, d3] }
  | _ => none }
def NetBoundWrongFalsely : Prop := netBoundRow.holds Try.pinned (OpenSpec.ofChange netBoundWrong)

/-- 'petrellaw36.NetPlays': WHATEVER THE INPUT: true; the input reads as it did. -/
def netPlaysSpec : ChangeSpec := { name := "netPlays", fn := fun _ => fun
  | [d] => { results := [.lit (.bool true)], args := [d] }
  | _ => none }
def netPlaysRow : OpenClaim := { program := "ytjjapnphljhicaa", sum := "4851ea2e50fd6d57ae60f39aff8793e774b56a14ea00671940778ebbab590ea3", func := "petrel/petrellaw36.NetPlays", spec := "netPlays", apart := false }
def NetPlaysSaid : Prop := netPlaysRow.holds Try.pinned (OpenSpec.ofChange netPlaysSpec)

/-- ITS FALSE NEIGHBOUR: 'it returns false'. Refute it at one input. -/
def netPlaysWrong : ChangeSpec := { name := "netPlays", fn := fun _ => fun
  | [d] => { results := [.lit (.bool false)], args := [d] }
  | _ => none }
def NetPlaysWrongFalsely : Prop := netPlaysRow.holds Try.pinned (OpenSpec.ofChange netPlaysWrong)

/-- 'petrellaw36.NetZero': WHATEVER THE INPUT: true; the input reads as it did. -/
def netZeroSpec : ChangeSpec := { name := "netZero", fn := fun _ => fun
  | [d1, d2] => { results := [.lit (.bool true)], args := [d1, d2] }
  | _ => none }
def netZeroRow : OpenClaim := { program := "ytjjapnphljhicaa", sum := "4851ea2e50fd6d57ae60f39aff8793e774b56a14ea00671940778ebbab590ea3", func := "petrel/petrellaw36.NetZero", spec := "netZero", apart := false }
def NetZeroSaid : Prop := netZeroRow.holds Try.pinned (OpenSpec.ofChange netZeroSpec)

/-- ITS FALSE NEIGHBOUR: 'it returns false'. Refute it at one input. -/
def netZeroWrong : ChangeSpec := { name := "netZero", fn := fun _ => fun
  | [d1, d2] => { results := [.lit (.bool false)], args := [d1, d2] }
  | _ => none }
def NetZeroWrongFalsely : Prop := netZeroRow.holds Try.pinned (OpenSpec.ofChange netZeroWrong)

/- THE SECOND FORM. 'bulk': how many values and letters a reading holds, each counted each time it is reached (what is shared counts as often as it is met; a slice's spare places count too). A statement '..UptoSaid' is the law's where the arguments, and the package variables that the reading takes, are together of bulk at most 1048576: NARROWER than '..Said'. Prove '..Said' where nothing that the law and all that it calls make is longer than what came in: it says more and counts as full. Else prove '..UptoSaid'. A law counts once. -/
mutual
def uptoBulk {H : Type} : DataW H → Nat
  | .lit (.string bytes) => bytes.length + 1
  | .lit _ => 1
  | .nil => 1
  | .ptr d => uptoBulk d + 1
  | .slice elems spare => uptoBulkAll elems + uptoBulkAll spare + 1
  | .agg parts => uptoBulkAll parts + 1
  | .iface _ d => uptoBulk d + 1
  | .map entries => uptoBulkEntries entries + 1
  | .held _ => 1
def uptoBulkAll {H : Type} : List (DataW H) → Nat
  | [] => 0
  | d :: r => uptoBulk d + uptoBulkAll r
def uptoBulkEntries {H : Type} : List (Lit × DataW H) → Nat
  | [] => 0
  | x :: r => uptoBulkEntry x + uptoBulkEntries r
def uptoBulkEntry {H : Type} : Lit × DataW H → Nat
  | (.string bytes, d) => bytes.length + uptoBulk d + 1
  | (_, d) => uptoBulk d + 1
 end
def uptoSmall : (H : Type) → List (DataW H) → Bool := fun _ ds => decide (uptoBulkAll ds ≤ 1048576)
def OpenSpec.upto (s : _root_.Go.ChangeSpec) : _root_.Go.OpenSpec := { _root_.Go.OpenSpec.ofChange s with cond := some uptoSmall }

/-- 'petrellaw36.NetDelivers', WHERE WHAT IT READS IS OF BULK AT MOST 1048576: true; the input reads as it did. -/
def netDeliversUptoRow : OpenClaim := { program := "ytjjapnphljhicaa", sum := "4851ea2e50fd6d57ae60f39aff8793e774b56a14ea00671940778ebbab590ea3", func := "petrel/petrellaw36.NetDelivers", spec := "netDelivers", apart := false, narrowed := true }
def NetDeliversUptoSaid : Prop := netDeliversUptoRow.holds Try.pinned (OpenSpec.upto netDeliversSpec)

/-- 'petrellaw36.NetBound', WHERE WHAT IT READS IS OF BULK AT MOST 1048576: true; the input reads as it did. -/
def netBoundUptoRow : OpenClaim := { program := "ytjjapnphljhicaa", sum := "4851ea2e50fd6d57ae60f39aff8793e774b56a14ea00671940778ebbab590ea3", func := "petrel/petrellaw36.NetBound", spec := "netBound", apart := false, narrowed := true }
def NetBoundUptoSaid : Prop := netBoundUptoRow.holds Try.pinned (OpenSpec.upto netBoundSpec)

/-- 'petrellaw36.NetPlays', WHERE WHAT IT READS IS OF BULK AT MOST 1048576: true; the input reads as it did. -/
def netPlaysUptoRow : OpenClaim := { program := "ytjjapnphljhicaa", sum := "4851ea2e50fd6d57ae60f39aff8793e774b56a14ea00671940778ebbab590ea3", func := "petrel/petrellaw36.NetPlays", spec := "netPlays", apart := false, narrowed := true }
def NetPlaysUptoSaid : Prop := netPlaysUptoRow.holds Try.pinned (OpenSpec.upto netPlaysSpec)

/-- 'petrellaw36.NetZero', WHERE WHAT IT READS IS OF BULK AT MOST 1048576: true; the input reads as it did. -/
def netZeroUptoRow : OpenClaim := { program := "ytjjapnphljhicaa", sum := "4851ea2e50fd6d57ae60f39aff8793e774b56a14ea00671940778ebbab590ea3", func := "petrel/petrellaw36.NetZero", spec := "netZero", apart := false, narrowed := true }
def NetZeroUptoSaid : Prop := netZeroUptoRow.holds Try.pinned (OpenSpec.upto netZeroSpec)

end Rows
end Go.Proofs.Ytjjapnphljhicaa
