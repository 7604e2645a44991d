/-
  No cell of these rows narrows 'for every input' (looked for: loops, veiled, ifaces, maps, wideKeys, modest, calm, conditions, laid).
  DERIVED. THE GIVEN ROWS OF THIS SEAT. 6 by the template 'for every input the law returns true; each argument reads behind the call as it read before'; 0 by the template 'total and deterministic' (their statements: YtcddfpjpjbfneaaTotals.lean).
  GIVEN WITH THE SEED: the statements are not yours to turn. If you find one false, say at which input.
  Laid BY PROGRAM, IN A SANDBOX (cutbox-rows.mjs): the forced cells as the released guide's own fill.sh prints them over the translation fe2c51e9a4a09d6a… (all of the seat's roots in one cut). By AI agents, Wed Nov 11 2026. No macro, syntax, notation, axiom, sorry.
-/
import Derived.Test.YtcddfpjpjbfneaaChecked
import GoSem.Claim
import GoSem.ClaimJoined
import GoSem.ClaimMapViews
import Derived.JoinedTies
import Derived.KernelRfl
namespace Go.Proofs.Ytcddfpjpjbfneaa
/- THE CELL 'sum', in the pinned program and in every row, IS THE sha256 OF THE DUMP (.gsa) THAT YtcddfpjpjbfneaaProg.lean LOADS. Nothing in Lean hashes anything: it is a label: what it is worth is what the hold of that sum in a sandbox is worth. -/
noncomputable def Try.pinned : Pinned := { name := "ytcddfpjpjbfneaa", sum := "fe2c51e9a4a09d6af9b05de48dd2d4d653fceaadb61e25d5fb4eb037ea65d0ef", checked := Try.checked }
namespace Rows
def none {H : Type} : Left H := { results := [], args := [] }

/-- 'laws.FnExactValidPlan': WHATEVER THE INPUT: true; the input reads as it did. -/
def fnExactValidPlanSpec : ChangeSpec := { name := "fnExactValidPlan", fn := fun _ => fun
  | [d] => { results := [.lit (.bool true)], args := [d] }
  | _ => none }
def fnExactValidPlanRow : OpenClaim := { program := "ytcddfpjpjbfneaa", sum := "fe2c51e9a4a09d6af9b05de48dd2d4d653fceaadb61e25d5fb4eb037ea65d0ef", func := "loop.example/g01367/laws.FnExactValidPlan", spec := "fnExactValidPlan", apart := false }
def FnExactValidPlanSaid : Prop := fnExactValidPlanRow.holds Try.pinned (OpenSpec.ofChange fnExactValidPlanSpec)

/-- ITS FALSE NEIGHBOUR: 'it returns false'. Refute it at one input. -/
def fnExactValidPlanWrong : ChangeSpec := { name := "fnExactValidPlan", fn := fun _ => fun
  | [d] => { results := [.lit (.bool false)], args := [d] }
  | _ => none }
def FnExactValidPlanWrongFalsely : Prop := fnExactValidPlanRow.holds Try.pinned (OpenSpec.ofChange fnExactValidPlanWrong)

/-- 'laws.FnExactDarkStripes': WHATEVER THE INPUT: true; the input reads as it did. -/
def fnExactDarkStripesSpec : ChangeSpec := { name := "fnExactDarkStripes", fn := fun _ => fun
  | [d1, d2] => { results := [.lit (.bool true)], args := [d1, d2] }
  | _ => none }
def fnExactDarkStripesRow : OpenClaim := { program := "ytcddfpjpjbfneaa", sum := "fe2c51e9a4a09d6af9b05de48dd2d4d653fceaadb61e25d5fb4eb037ea65d0ef", func := "loop.example/g01367/laws.FnExactDarkStripes", spec := "fnExactDarkStripes", apart := false }
def FnExactDarkStripesSaid : Prop := fnExactDarkStripesRow.holds Try.pinned (OpenSpec.ofChange fnExactDarkStripesSpec)

/-- ITS FALSE NEIGHBOUR: 'it returns false'. Refute it at one input. -/
def fnExactDarkStripesWrong : ChangeSpec := { name := "fnExactDarkStripes", fn := fun _ => fun
  | [d1, d2] => { results := [.lit (.bool false)], args := [d1, d2] }
  | _ => none }
def FnExactDarkStripesWrongFalsely : Prop := fnExactDarkStripesRow.holds Try.pinned (OpenSpec.ofChange fnExactDarkStripesWrong)

/-- 'laws.FnExactStepsApart': WHATEVER THE INPUT: true; the input reads as it did. -/
def fnExactStepsApartSpec : ChangeSpec := { name := "fnExactStepsApart", fn := fun _ => fun
  | [d1, d2] => { results := [.lit (.bool true)], args := [d1, d2] }
  | _ => none }
def fnExactStepsApartRow : OpenClaim := { program := "ytcddfpjpjbfneaa", sum := "fe2c51e9a4a09d6af9b05de48dd2d4d653fceaadb61e25d5fb4eb037ea65d0ef", func := "loop.example/g01367/laws.FnExactStepsApart", spec := "fnExactStepsApart", inPlace := ["math.Float32bits"], apart := false }
def FnExactStepsApartSaid : Prop := fnExactStepsApartRow.holds Try.pinned (OpenSpec.ofChange fnExactStepsApartSpec)

/-- ITS FALSE NEIGHBOUR: 'it returns false'. Refute it at one input. -/
def fnExactStepsApartWrong : ChangeSpec := { name := "fnExactStepsApart", fn := fun _ => fun
  | [d1, d2] => { results := [.lit (.bool false)], args := [d1, d2] }
  | _ => none }
def FnExactStepsApartWrongFalsely : Prop := fnExactStepsApartRow.holds Try.pinned (OpenSpec.ofChange fnExactStepsApartWrong)

/-- 'laws.FnExactSameFloor': WHATEVER THE INPUT: true; the input reads as it did. -/
def fnExactSameFloorSpec : ChangeSpec := { name := "fnExactSameFloor", fn := fun _ => fun
  | [d1, d2] => { results := [.lit (.bool true)], args := [d1, d2] }
  | _ => none }
def fnExactSameFloorRow : OpenClaim := { program := "ytcddfpjpjbfneaa", sum := "fe2c51e9a4a09d6af9b05de48dd2d4d653fceaadb61e25d5fb4eb037ea65d0ef", func := "loop.example/g01367/laws.FnExactSameFloor", spec := "fnExactSameFloor", inPlace := ["math.Float32bits"], unfollowed := true, recurses := true, apart := false }
def FnExactSameFloorSaid : Prop := fnExactSameFloorRow.holds Try.pinned (OpenSpec.ofChange fnExactSameFloorSpec)

/-- ITS FALSE NEIGHBOUR: 'it returns false'. Refute it at one input. -/
def fnExactSameFloorWrong : ChangeSpec := { name := "fnExactSameFloor", fn := fun _ => fun
  | [d1, d2] => { results := [.lit (.bool false)], args := [d1, d2] }
  | _ => none }
def FnExactSameFloorWrongFalsely : Prop := fnExactSameFloorRow.holds Try.pinned (OpenSpec.ofChange fnExactSameFloorWrong)

/-- 'laws.FnExactValidList': WHATEVER THE INPUT: true; the input reads as it did. -/
def fnExactValidListSpec : ChangeSpec := { name := "fnExactValidList", fn := fun _ => fun
  | [d] => { results := [.lit (.bool true)], args := [d] }
  | _ => none }
def fnExactValidListRow : OpenClaim := { program := "ytcddfpjpjbfneaa", sum := "fe2c51e9a4a09d6af9b05de48dd2d4d653fceaadb61e25d5fb4eb037ea65d0ef", func := "loop.example/g01367/laws.FnExactValidList", spec := "fnExactValidList", unfollowed := true, recurses := true, apart := false }
def FnExactValidListSaid : Prop := fnExactValidListRow.holds Try.pinned (OpenSpec.ofChange fnExactValidListSpec)

/-- ITS FALSE NEIGHBOUR: 'it returns false'. Refute it at one input. -/
def fnExactValidListWrong : ChangeSpec := { name := "fnExactValidList", fn := fun _ => fun
  | [d] => { results := [.lit (.bool false)], args := [d] }
  | _ => none }
def FnExactValidListWrongFalsely : Prop := fnExactValidListRow.holds Try.pinned (OpenSpec.ofChange fnExactValidListWrong)

/-- 'laws.FnExactChangesOf': WHATEVER THE INPUT: true; the input reads as it did. -/
def fnExactChangesOfSpec : ChangeSpec := { name := "fnExactChangesOf", fn := fun _ => fun
  | [d] => { results := [.lit (.bool true)], args := [d] }
  | _ => none }
def fnExactChangesOfRow : OpenClaim := { program := "ytcddfpjpjbfneaa", sum := "fe2c51e9a4a09d6af9b05de48dd2d4d653fceaadb61e25d5fb4eb037ea65d0ef", func := "loop.example/g01367/laws.FnExactChangesOf", spec := "fnExactChangesOf", apart := false }
def FnExactChangesOfSaid : Prop := fnExactChangesOfRow.holds Try.pinned (OpenSpec.ofChange fnExactChangesOfSpec)

/-- ITS FALSE NEIGHBOUR: 'it returns false'. Refute it at one input. -/
def fnExactChangesOfWrong : ChangeSpec := { name := "fnExactChangesOf", fn := fun _ => fun
  | [d] => { results := [.lit (.bool false)], args := [d] }
  | _ => none }
def FnExactChangesOfWrongFalsely : Prop := fnExactChangesOfRow.holds Try.pinned (OpenSpec.ofChange fnExactChangesOfWrong)

/- THE SECOND FORM. 'bulk': how many values and letters a reading holds, each counted each time it is reached (what is shared counts as often as it is met; a slice's spare places count too). A statement '..UptoSaid' is the law's where the arguments, and the package variables that the reading takes, are together of bulk at most 1048576: NARROWER than '..Said'. Prove '..Said' where nothing that the law and all that it calls make is longer than what came in: it says more and counts as full. Else prove '..UptoSaid'. A law counts once. -/
mutual
def uptoBulk {H : Type} : DataW H → Nat
  | .lit (.string bytes) => bytes.length + 1
  | .lit _ => 1
  | .nil => 1
  | .ptr d => uptoBulk d + 1
  | .slice elems spare => uptoBulkAll elems + uptoBulkAll spare + 1
  | .agg parts => uptoBulkAll parts + 1
  | .iface _ d => uptoBulk d + 1
  | .map entries => uptoBulkEntries entries + 1
  | .held _ => 1
def uptoBulkAll {H : Type} : List (DataW H) → Nat
  | [] => 0
  | d :: r => uptoBulk d + uptoBulkAll r
def uptoBulkEntries {H : Type} : List (Lit × DataW H) → Nat
  | [] => 0
  | x :: r => uptoBulkEntry x + uptoBulkEntries r
def uptoBulkEntry {H : Type} : Lit × DataW H → Nat
  | (.string bytes, d) => bytes.length + uptoBulk d + 1
  | (_, d) => uptoBulk d + 1
 end
def uptoSmall : (H : Type) → List (DataW H) → Bool := fun _ ds => decide (uptoBulkAll ds ≤ 1048576)
def OpenSpec.upto (s : _root_.Go.ChangeSpec) : _root_.Go.OpenSpec := { _root_.Go.OpenSpec.ofChange s with cond := some uptoSmall }

/-- 'laws.FnExactValidPlan', WHERE WHAT IT READS IS OF BULK AT MOST 1048576: true; the input reads as it did. -/
def fnExactValidPlanUptoRow : OpenClaim := { program := "ytcddfpjpjbfneaa", sum := "fe2c51e9a4a09d6af9b05de48dd2d4d653fceaadb61e25d5fb4eb037ea65d0ef", func := "loop.example/g01367/laws.FnExactValidPlan", spec := "fnExactValidPlan", apart := false, narrowed := true }
def FnExactValidPlanUptoSaid : Prop := fnExactValidPlanUptoRow.holds Try.pinned (OpenSpec.upto fnExactValidPlanSpec)

/-- 'laws.FnExactDarkStripes', WHERE WHAT IT READS IS OF BULK AT MOST 1048576: true; the input reads as it did. -/
def fnExactDarkStripesUptoRow : OpenClaim := { program := "ytcddfpjpjbfneaa", sum := "fe2c51e9a4a09d6af9b05de48dd2d4d653fceaadb61e25d5fb4eb037ea65d0ef", func := "loop.example/g01367/laws.FnExactDarkStripes", spec := "fnExactDarkStripes", apart := false, narrowed := true }
def FnExactDarkStripesUptoSaid : Prop := fnExactDarkStripesUptoRow.holds Try.pinned (OpenSpec.upto fnExactDarkStripesSpec)

/-- 'laws.FnExactStepsApart', WHERE WHAT IT READS IS OF BULK AT MOST 1048576: true; the input reads as it did. -/
def fnExactStepsApartUptoRow : OpenClaim := { program := "ytcddfpjpjbfneaa", sum := "fe2c51e9a4a09d6af9b05de48dd2d4d653fceaadb61e25d5fb4eb037ea65d0ef", func := "loop.example/g01367/laws.FnExactStepsApart", spec := "fnExactStepsApart", inPlace := ["math.Float32bits"], apart := false, narrowed := true }
def FnExactStepsApartUptoSaid : Prop := fnExactStepsApartUptoRow.holds Try.pinned (OpenSpec.upto fnExactStepsApartSpec)

/-- 'laws.FnExactSameFloor', WHERE WHAT IT READS IS OF BULK AT MOST 1048576: true; the input reads as it did. -/
def fnExactSameFloorUptoRow : OpenClaim := { program := "ytcddfpjpjbfneaa", sum := "fe2c51e9a4a09d6af9b05de48dd2d4d653fceaadb61e25d5fb4eb037ea65d0ef", func := "loop.example/g01367/laws.FnExactSameFloor", spec := "fnExactSameFloor", inPlace := ["math.Float32bits"], unfollowed := true, recurses := true, apart := false, narrowed := true }
def FnExactSameFloorUptoSaid : Prop := fnExactSameFloorUptoRow.holds Try.pinned (OpenSpec.upto fnExactSameFloorSpec)

/-- 'laws.FnExactValidList', WHERE WHAT IT READS IS OF BULK AT MOST 1048576: true; the input reads as it did. -/
def fnExactValidListUptoRow : OpenClaim := { program := "ytcddfpjpjbfneaa", sum := "fe2c51e9a4a09d6af9b05de48dd2d4d653fceaadb61e25d5fb4eb037ea65d0ef", func := "loop.example/g01367/laws.FnExactValidList", spec := "fnExactValidList", unfollowed := true, recurses := true, apart := false, narrowed := true }
def FnExactValidListUptoSaid : Prop := fnExactValidListUptoRow.holds Try.pinned (OpenSpec.upto fnExactValidListSpec)

/-- 'laws.FnExactChangesOf', WHERE WHAT IT READS IS OF BULK AT MOST 1048576: true; the input reads as it did. -/
def fnExactChangesOfUptoRow : OpenClaim := { program := "ytcddfpjpjbfneaa", sum := "fe2c51e9a4a09d6af9b05de48dd2d4d653fceaadb61e25d5fb4eb037ea65d0ef", func := "loop.example/g01367/laws.FnExactChangesOf", spec := "fnExactChangesOf", apart := false, narrowed := true }
def FnExactChangesOfUptoSaid : Prop := fnExactChangesOfUptoRow.holds Try.pinned (OpenSpec.upto fnExactChangesOfSpec)

end Rows
end Go.Proofs.Ytcddfpjpjbfneaa
