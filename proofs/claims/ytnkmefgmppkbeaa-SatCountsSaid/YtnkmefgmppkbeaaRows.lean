/-
  No cell of these rows narrows 'for every input' (looked for: loops, veiled, ifaces, maps, wideKeys, modest, calm, conditions, laid).
  DERIVED. THE GIVEN ROWS OF THIS SEAT. 4 by the template 'for every input the law returns true; each argument reads behind the call as it read before'; 0 by the template 'total and deterministic' (their statements: YtnkmefgmppkbeaaTotals.lean).
  GIVEN WITH THE SEED: the statements are not yours to turn. If you find one false, say at which input.
  Laid BY PROGRAM, IN A SANDBOX (cutbox-rows.mjs): the forced cells as the released guide's own fill.sh prints them over the translation 426219d8fc79a1b3… (all of the seat's roots in one cut). By AI agents, Wed Nov 11 2026. No macro, syntax, notation, axiom, sorry.
-/
import Derived.Test.YtnkmefgmppkbeaaChecked
import GoSem.Claim
import GoSem.ClaimJoined
import GoSem.ClaimMapViews
import Derived.JoinedTies
import Derived.KernelRfl
namespace Go.Proofs.Ytnkmefgmppkbeaa
/- THE CELL 'sum', in the pinned program and in every row, IS THE sha256 OF THE DUMP (.gsa) THAT YtnkmefgmppkbeaaProg.lean LOADS. Nothing in Lean hashes anything: it is a label: what it is worth is what the hold of that sum in a sandbox is worth. -/
noncomputable def Try.pinned : Pinned := { name := "ytnkmefgmppkbeaa", sum := "426219d8fc79a1b35645344b98d7d3dc4afb47d6c022caf6d0686d73446ad260", checked := Try.checked }
namespace Rows
def none {H : Type} : Left H := { results := [], args := [] }

/-- 'petrellaw30.SatAdds': WHATEVER THE INPUT: true; the input reads as it did. -/
def satAddsSpec : ChangeSpec := { name := "satAdds", fn := fun _ => fun
  | [d1, d2, d3, d4] => { results := [.lit (.bool true)], args := [d1, d2, d3, d4] }
  | _ => none }
def satAddsRow : OpenClaim := { program := "ytnkmefgmppkbeaa", sum := "426219d8fc79a1b35645344b98d7d3dc4afb47d6c022caf6d0686d73446ad260", func := "petrel/petrellaw30.SatAdds", spec := "satAdds", unfollowed := true, recurses := true, apart := false }
def SatAddsSaid : Prop := satAddsRow.holds Try.pinned (OpenSpec.ofChange satAddsSpec)

/-- ITS FALSE NEIGHBOUR: 'it returns false'. Refute it at one input. -/
def satAddsWrong : ChangeSpec := { name := "satAdds", fn := fun _ => fun
  | [d1, d2, d3, d4] => { results := [.lit (.bool false)], args := [d1, d2, d3, d4] }
  | _ => none }
def SatAddsWrongFalsely : Prop := satAddsRow.holds Try.pinned (OpenSpec.ofChange satAddsWrong)

/-- 'petrellaw30.SatWithin': WHATEVER THE INPUT: true; the input reads as it did. -/
def satWithinSpec : ChangeSpec := { name := "satWithin", fn := fun _ => fun
  | [d1, d2, d3, d4, d5] => { results := [.lit (.bool true)], args := [d1, d2, d3, d4, d5] }
  | _ => none }
def satWithinRow : OpenClaim := { program := "ytnkmefgmppkbeaa", sum := "426219d8fc79a1b35645344b98d7d3dc4afb47d6c022caf6d0686d73446ad260", func := "petrel/petrellaw30.SatWithin", spec := "satWithin", unfollowed := true, recurses := true, apart := false }
def SatWithinSaid : Prop := satWithinRow.holds Try.pinned (OpenSpec.ofChange satWithinSpec)

/-- ITS FALSE NEIGHBOUR: 'it returns false'. Refute it at one input. -/
def satWithinWrong : ChangeSpec := { name := "satWithin", fn := fun _ => fun
  | [d1, d2, d3, d4, d5] => { results := [.lit (.bool false)], args := [d1, d2, d3, d4, d5] }
  | _ => none }
def SatWithinWrongFalsely : Prop := satWithinRow.holds Try.pinned (OpenSpec.ofChange satWithinWrong)

/-- 'petrellaw30.SatCounts': WHATEVER THE INPUT: true; the input reads as it did. -/
def satCountsSpec : ChangeSpec := { name := "satCounts", fn := fun _ => fun
  | [d] => { results := [.lit (.bool true)], args := [d] }
  | _ => none }
def satCountsRow : OpenClaim := { program := "ytnkmefgmppkbeaa", sum := "426219d8fc79a1b35645344b98d7d3dc4afb47d6c022caf6d0686d73446ad260", func := "petrel/petrellaw30.SatCounts", spec := "satCounts", unfollowed := true, recurses := true, apart := false }
def SatCountsSaid : Prop := satCountsRow.holds Try.pinned (OpenSpec.ofChange satCountsSpec)

/-- ITS FALSE NEIGHBOUR: 'it returns false'. Refute it at one input. -/
def satCountsWrong : ChangeSpec := { name := "satCounts", fn := fun _ => fun
  | [d] => { results := [.lit (.bool false)], args := [d] }
  | _ => none }
def SatCountsWrongFalsely : Prop := satCountsRow.holds Try.pinned (OpenSpec.ofChange satCountsWrong)

/-- 'petrellaw30.SatStops': WHATEVER THE INPUT: true; the input reads as it did. -/
def satStopsSpec : ChangeSpec := { name := "satStops", fn := fun _ => fun
  | [d1, d2] => { results := [.lit (.bool true)], args := [d1, d2] }
  | _ => none }
def satStopsRow : OpenClaim := { program := "ytnkmefgmppkbeaa", sum := "426219d8fc79a1b35645344b98d7d3dc4afb47d6c022caf6d0686d73446ad260", func := "petrel/petrellaw30.SatStops", spec := "satStops", unfollowed := true, recurses := true, apart := false }
def SatStopsSaid : Prop := satStopsRow.holds Try.pinned (OpenSpec.ofChange satStopsSpec)

/-- ITS FALSE NEIGHBOUR: 'it returns false'. Refute it at one input. -/
def satStopsWrong : ChangeSpec := { name := "satStops", fn := fun _ => fun
  | [d1, d2] => { results := [.lit (.bool false)], args := [d1, d2] }
  | _ => none }
def SatStopsWrongFalsely : Prop := satStopsRow.holds Try.pinned (OpenSpec.ofChange satStopsWrong)

/- THE SECOND FORM. 'bulk': how many values and letters a reading holds, each counted each time it is reached (what is shared counts as often as it is met; a slice's spare places count too). A statement '..UptoSaid' is the law's where the arguments, and the package variables that the reading takes, are together of bulk at most 1048576: NARROWER than '..Said'. Prove '..Said' where nothing that the law and all that it calls make is longer than what came in: it says more and counts as full. Else prove '..UptoSaid'. A law counts once. -/
mutual
def uptoBulk {H : Type} : DataW H → Nat
  | .lit (.string bytes) => bytes.length + 1
  | .lit _ => 1
  | .nil => 1
  | .ptr d => uptoBulk d + 1
  | .slice elems spare => uptoBulkAll elems + uptoBulkAll spare + 1
  | .agg parts => uptoBulkAll parts + 1
  | .iface _ d => uptoBulk d + 1
  | .map entries => uptoBulkEntries entries + 1
  | .held _ => 1
def uptoBulkAll {H : Type} : List (DataW H) → Nat
  | [] => 0
  | d :: r => uptoBulk d + uptoBulkAll r
def uptoBulkEntries {H : Type} : List (Lit × DataW H) → Nat
  | [] => 0
  | x :: r => uptoBulkEntry x + uptoBulkEntries r
def uptoBulkEntry {H : Type} : Lit × DataW H → Nat
  | (.string bytes, d) => bytes.length + uptoBulk d + 1
  | (_, d) => uptoBulk d + 1
 end
def uptoSmall : (H : Type) → List (DataW H) → Bool := fun _ ds => decide (uptoBulkAll ds ≤ 1048576)
def OpenSpec.upto (s : _root_.Go.ChangeSpec) : _root_.Go.OpenSpec := { _root_.Go.OpenSpec.ofChange s with cond := some uptoSmall }

/-- 'petrellaw30.SatAdds', WHERE WHAT IT READS IS OF BULK AT MOST 1048576: true; the input reads as it did. -/
def satAddsUptoRow : OpenClaim := { program := "ytnkmefgmppkbeaa", sum := "426219d8fc79a1b35645344b98d7d3dc4afb47d6c022caf6d0686d73446ad260", func := "petrel/petrellaw30.SatAdds", spec := "satAdds", unfollowed := true, recurses := true, apart := false, narrowed := true }
def SatAddsUptoSaid : Prop := satAddsUptoRow.holds Try.pinned (OpenSpec.upto satAddsSpec)

/-- 'petrellaw30.SatWithin', WHERE WHAT IT READS IS OF BULK AT MOST 1048576: true; the input reads as it did. -/
def satWithinUptoRow : OpenClaim := { program := "ytnkmefgmppkbeaa", sum := "426219d8fc79a1b35645344b98d7d3dc4afb47d6c022caf6d0686d73446ad260", func := "petrel/petrellaw30.SatWithin", spec := "satWithin", unfollowed := true, recurses := true, apart := false, narrowed := true }
def SatWithinUptoSaid : Prop := satWithinUptoRow.holds Try.pinned (OpenSpec.upto satWithinSpec)

/-- 'petrellaw30.SatCounts', WHERE WHAT IT READS IS OF BULK AT MOST 1048576: true; the input reads as it did. -/
def satCountsUptoRow : OpenClaim := { program := "ytnkmefgmppkbeaa", sum := "426219d8fc79a1b35645344b98d7d3dc4afb47d6c022caf6d0686d73446ad260", func := "petrel/petrellaw30.SatCounts", spec := "satCounts", unfollowed := true, recurses := true, apart := false, narrowed := true }
def SatCountsUptoSaid : Prop := satCountsUptoRow.holds Try.pinned (OpenSpec.upto satCountsSpec)

/-- 'petrellaw30.SatStops', WHERE WHAT IT READS IS OF BULK AT MOST 1048576: true; the input reads as it did. -/
def satStopsUptoRow : OpenClaim := { program := "ytnkmefgmppkbeaa", sum := "426219d8fc79a1b35645344b98d7d3dc4afb47d6c022caf6d0686d73446ad260", func := "petrel/petrellaw30.SatStops", spec := "satStops", unfollowed := true, recurses := true, apart := false, narrowed := true }
def SatStopsUptoSaid : Prop := satStopsUptoRow.holds Try.pinned (OpenSpec.upto satStopsSpec)

end Rows
end Go.Proofs.Ytnkmefgmppkbeaa
