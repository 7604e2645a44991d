/-
  No cell of these rows narrows 'for every input' (looked for: loops, veiled, ifaces, maps, wideKeys, modest, calm, conditions, laid).
  DERIVED. THE GIVEN ROWS OF THIS SEAT. 11 by the template 'for every input the law returns true; each argument reads behind the call as it read before'; 0 by the template 'total and deterministic' (their statements: YthnffhmefgfnkaaTotals.lean).
  GIVEN WITH THE SEED: the statements are not yours to turn. If you find one false, say at which input.
  Laid BY PROGRAM, IN A SANDBOX (cutbox-rows.mjs): the forced cells as the released guide's own fill.sh prints them over the translation 00e17c9cc7ee0204… (all of the seat's roots in one cut). By AI agents, Wed Nov 11 2026. No macro, syntax, notation, axiom, sorry.
-/
import Derived.Test.YthnffhmefgfnkaaChecked
import GoSem.Claim
import GoSem.ClaimJoined
import GoSem.ClaimMapViews
import Derived.JoinedTies
import Derived.KernelRfl
namespace Go.Proofs.Ythnffhmefgfnkaa
/- THE CELL 'sum', in the pinned program and in every row, IS THE sha256 OF THE DUMP (.gsa) THAT YthnffhmefgfnkaaProg.lean LOADS. Nothing in Lean hashes anything: it is a label: what it is worth is what the hold of that sum in a sandbox is worth. -/
noncomputable def Try.pinned : Pinned := { name := "ythnffhmefgfnkaa", sum := "00e17c9cc7ee02047cfde5605c9ba8eb8fd7476142375672cdb20d643d80c092", checked := Try.checked }
namespace Rows
def none {H : Type} : Left H := { results := [], args := [] }

/-- 'laws.FnExactFloorOf': WHATEVER THE INPUT: true; the input reads as it did. -/
def fnExactFloorOfSpec : ChangeSpec := { name := "fnExactFloorOf", fn := fun _ => fun
  | [d1, d2, d3] => { results := [.lit (.bool true)], args := [d1, d2, d3] }
  | _ => none }
def fnExactFloorOfRow : OpenClaim := { program := "ythnffhmefgfnkaa", sum := "00e17c9cc7ee02047cfde5605c9ba8eb8fd7476142375672cdb20d643d80c092", func := "loop.example/g01367/laws.FnExactFloorOf", spec := "fnExactFloorOf", recurses := true, apart := false }
def FnExactFloorOfSaid : Prop := fnExactFloorOfRow.holds Try.pinned (OpenSpec.ofChange fnExactFloorOfSpec)

/-- ITS FALSE NEIGHBOUR: 'it returns false'. Refute it at one input. -/
def fnExactFloorOfWrong : ChangeSpec := { name := "fnExactFloorOf", fn := fun _ => fun
  | [d1, d2, d3] => { results := [.lit (.bool false)], args := [d1, d2, d3] }
  | _ => none }
def FnExactFloorOfWrongFalsely : Prop := fnExactFloorOfRow.holds Try.pinned (OpenSpec.ofChange fnExactFloorOfWrong)

/-- 'laws.FnExactBrokenFrom': WHATEVER THE INPUT: true; the input reads as it did. -/
def fnExactBrokenFromSpec : ChangeSpec := { name := "fnExactBrokenFrom", fn := fun _ => fun
  | [d1, d2, d3] => { results := [.lit (.bool true)], args := [d1, d2, d3] }
  | _ => none }
def fnExactBrokenFromRow : OpenClaim := { program := "ythnffhmefgfnkaa", sum := "00e17c9cc7ee02047cfde5605c9ba8eb8fd7476142375672cdb20d643d80c092", func := "loop.example/g01367/laws.FnExactBrokenFrom", spec := "fnExactBrokenFrom", inPlace := ["math.Float32bits"], recurses := true, apart := false }
def FnExactBrokenFromSaid : Prop := fnExactBrokenFromRow.holds Try.pinned (OpenSpec.ofChange fnExactBrokenFromSpec)

/-- ITS FALSE NEIGHBOUR: 'it returns false'. Refute it at one input. -/
def fnExactBrokenFromWrong : ChangeSpec := { name := "fnExactBrokenFrom", fn := fun _ => fun
  | [d1, d2, d3] => { results := [.lit (.bool false)], args := [d1, d2, d3] }
  | _ => none }
def FnExactBrokenFromWrongFalsely : Prop := fnExactBrokenFromRow.holds Try.pinned (OpenSpec.ofChange fnExactBrokenFromWrong)

/-- 'laws.FnExactKeepsWithin': WHATEVER THE INPUT: true; the input reads as it did. -/
def fnExactKeepsWithinSpec : ChangeSpec := { name := "fnExactKeepsWithin", fn := fun _ => fun
  | [d1, d2, d3, d4, d5, d6] => { results := [.lit (.bool true)], args := [d1, d2, d3, d4, d5, d6] }
  | _ => none }
def fnExactKeepsWithinRow : OpenClaim := { program := "ythnffhmefgfnkaa", sum := "00e17c9cc7ee02047cfde5605c9ba8eb8fd7476142375672cdb20d643d80c092", func := "loop.example/g01367/laws.FnExactKeepsWithin", spec := "fnExactKeepsWithin", recurses := true, apart := false }
def FnExactKeepsWithinSaid : Prop := fnExactKeepsWithinRow.holds Try.pinned (OpenSpec.ofChange fnExactKeepsWithinSpec)

/-- ITS FALSE NEIGHBOUR: 'it returns false'. Refute it at one input. -/
def fnExactKeepsWithinWrong : ChangeSpec := { name := "fnExactKeepsWithin", fn := fun _ => fun
  | [d1, d2, d3, d4, d5, d6] => { results := [.lit (.bool false)], args := [d1, d2, d3, d4, d5, d6] }
  | _ => none }
def FnExactKeepsWithinWrongFalsely : Prop := fnExactKeepsWithinRow.holds Try.pinned (OpenSpec.ofChange fnExactKeepsWithinWrong)

/-- 'laws.FnExactFirstOutside': WHATEVER THE INPUT: true; the input reads as it did. -/
def fnExactFirstOutsideSpec : ChangeSpec := { name := "fnExactFirstOutside", fn := fun _ => fun
  | [d1, d2, d3, d4, d5, d6] => { results := [.lit (.bool true)], args := [d1, d2, d3, d4, d5, d6] }
  | _ => none }
def fnExactFirstOutsideRow : OpenClaim := { program := "ythnffhmefgfnkaa", sum := "00e17c9cc7ee02047cfde5605c9ba8eb8fd7476142375672cdb20d643d80c092", func := "loop.example/g01367/laws.FnExactFirstOutside", spec := "fnExactFirstOutside", recurses := true, apart := false }
def FnExactFirstOutsideSaid : Prop := fnExactFirstOutsideRow.holds Try.pinned (OpenSpec.ofChange fnExactFirstOutsideSpec)

/-- ITS FALSE NEIGHBOUR: 'it returns false'. Refute it at one input. -/
def fnExactFirstOutsideWrong : ChangeSpec := { name := "fnExactFirstOutside", fn := fun _ => fun
  | [d1, d2, d3, d4, d5, d6] => { results := [.lit (.bool false)], args := [d1, d2, d3, d4, d5, d6] }
  | _ => none }
def FnExactFirstOutsideWrongFalsely : Prop := fnExactFirstOutsideRow.holds Try.pinned (OpenSpec.ofChange fnExactFirstOutsideWrong)

/-- 'laws.FnExactBrightestPlan': WHATEVER THE INPUT: true; the input reads as it did. -/
def fnExactBrightestPlanSpec : ChangeSpec := { name := "fnExactBrightestPlan", fn := fun _ => fun
  | [d1, d2, d3, d4] => { results := [.lit (.bool true)], args := [d1, d2, d3, d4] }
  | _ => none }
def fnExactBrightestPlanRow : OpenClaim := { program := "ythnffhmefgfnkaa", sum := "00e17c9cc7ee02047cfde5605c9ba8eb8fd7476142375672cdb20d643d80c092", func := "loop.example/g01367/laws.FnExactBrightestPlan", spec := "fnExactBrightestPlan", recurses := true, apart := false }
def FnExactBrightestPlanSaid : Prop := fnExactBrightestPlanRow.holds Try.pinned (OpenSpec.ofChange fnExactBrightestPlanSpec)

/-- ITS FALSE NEIGHBOUR: 'it returns false'. Refute it at one input. -/
def fnExactBrightestPlanWrong : ChangeSpec := { name := "fnExactBrightestPlan", fn := fun _ => fun
  | [d1, d2, d3, d4] => { results := [.lit (.bool false)], args := [d1, d2, d3, d4] }
  | _ => none }
def FnExactBrightestPlanWrongFalsely : Prop := fnExactBrightestPlanRow.holds Try.pinned (OpenSpec.ofChange fnExactBrightestPlanWrong)

/-- 'laws.FnExactTiltsAt': WHATEVER THE INPUT: true; the input reads as it did. -/
def fnExactTiltsAtSpec : ChangeSpec := { name := "fnExactTiltsAt", fn := fun _ => fun
  | [d1, d2, d3, d4, d5, d6] => { results := [.lit (.bool true)], args := [d1, d2, d3, d4, d5, d6] }
  | _ => none }
def fnExactTiltsAtRow : OpenClaim := { program := "ythnffhmefgfnkaa", sum := "00e17c9cc7ee02047cfde5605c9ba8eb8fd7476142375672cdb20d643d80c092", func := "loop.example/g01367/laws.FnExactTiltsAt", spec := "fnExactTiltsAt", unfollowed := true, recurses := true, apart := false }
def FnExactTiltsAtSaid : Prop := fnExactTiltsAtRow.holds Try.pinned (OpenSpec.ofChange fnExactTiltsAtSpec)

/-- ITS FALSE NEIGHBOUR: 'it returns false'. Refute it at one input. -/
def fnExactTiltsAtWrong : ChangeSpec := { name := "fnExactTiltsAt", fn := fun _ => fun
  | [d1, d2, d3, d4, d5, d6] => { results := [.lit (.bool false)], args := [d1, d2, d3, d4, d5, d6] }
  | _ => none }
def FnExactTiltsAtWrongFalsely : Prop := fnExactTiltsAtRow.holds Try.pinned (OpenSpec.ofChange fnExactTiltsAtWrong)

/-- 'laws.FnExactPlanLight': WHATEVER THE INPUT: true; the input reads as it did. -/
def fnExactPlanLightSpec : ChangeSpec := { name := "fnExactPlanLight", fn := fun _ => fun
  | [d1, d2, d3, d4] => { results := [.lit (.bool true)], args := [d1, d2, d3, d4] }
  | _ => none }
def fnExactPlanLightRow : OpenClaim := { program := "ythnffhmefgfnkaa", sum := "00e17c9cc7ee02047cfde5605c9ba8eb8fd7476142375672cdb20d643d80c092", func := "loop.example/g01367/laws.FnExactPlanLight", spec := "fnExactPlanLight", recurses := true, apart := false }
def FnExactPlanLightSaid : Prop := fnExactPlanLightRow.holds Try.pinned (OpenSpec.ofChange fnExactPlanLightSpec)

/-- ITS FALSE NEIGHBOUR: 'it returns false'. Refute it at one input. -/
def fnExactPlanLightWrong : ChangeSpec := { name := "fnExactPlanLight", fn := fun _ => fun
  | [d1, d2, d3, d4] => { results := [.lit (.bool false)], args := [d1, d2, d3, d4] }
  | _ => none }
def FnExactPlanLightWrongFalsely : Prop := fnExactPlanLightRow.holds Try.pinned (OpenSpec.ofChange fnExactPlanLightWrong)

/-- 'laws.FnExactBestMonth': WHATEVER THE INPUT: true; the input reads as it did. -/
def fnExactBestMonthSpec : ChangeSpec := { name := "fnExactBestMonth", fn := fun _ => fun
  | [d1, d2, d3] => { results := [.lit (.bool true)], args := [d1, d2, d3] }
  | _ => none }
def fnExactBestMonthRow : OpenClaim := { program := "ythnffhmefgfnkaa", sum := "00e17c9cc7ee02047cfde5605c9ba8eb8fd7476142375672cdb20d643d80c092", func := "loop.example/g01367/laws.FnExactBestMonth", spec := "fnExactBestMonth", unfollowed := true, recurses := true, apart := false }
def FnExactBestMonthSaid : Prop := fnExactBestMonthRow.holds Try.pinned (OpenSpec.ofChange fnExactBestMonthSpec)

/-- ITS FALSE NEIGHBOUR: 'it returns false'. Refute it at one input. -/
def fnExactBestMonthWrong : ChangeSpec := { name := "fnExactBestMonth", fn := fun _ => fun
  | [d1, d2, d3] => { results := [.lit (.bool false)], args := [d1, d2, d3] }
  | _ => none }
def FnExactBestMonthWrongFalsely : Prop := fnExactBestMonthRow.holds Try.pinned (OpenSpec.ofChange fnExactBestMonthWrong)

/-- 'laws.FnExactYearFacing': WHATEVER THE INPUT: true; the input reads as it did. -/
def fnExactYearFacingSpec : ChangeSpec := { name := "fnExactYearFacing", fn := fun _ => fun
  | [d1, d2, d3] => { results := [.lit (.bool true)], args := [d1, d2, d3] }
  | _ => none }
def fnExactYearFacingRow : OpenClaim := { program := "ythnffhmefgfnkaa", sum := "00e17c9cc7ee02047cfde5605c9ba8eb8fd7476142375672cdb20d643d80c092", func := "loop.example/g01367/laws.FnExactYearFacing", spec := "fnExactYearFacing", unfollowed := true, recurses := true, apart := false }
def FnExactYearFacingSaid : Prop := fnExactYearFacingRow.holds Try.pinned (OpenSpec.ofChange fnExactYearFacingSpec)

/-- ITS FALSE NEIGHBOUR: 'it returns false'. Refute it at one input. -/
def fnExactYearFacingWrong : ChangeSpec := { name := "fnExactYearFacing", fn := fun _ => fun
  | [d1, d2, d3] => { results := [.lit (.bool false)], args := [d1, d2, d3] }
  | _ => none }
def FnExactYearFacingWrongFalsely : Prop := fnExactYearFacingRow.holds Try.pinned (OpenSpec.ofChange fnExactYearFacingWrong)

/-- 'laws.FnExactFewestChanges': WHATEVER THE INPUT: true; the input reads as it did. -/
def fnExactFewestChangesSpec : ChangeSpec := { name := "fnExactFewestChanges", fn := fun _ => fun
  | [d1, d2, d3, d4, d5] => { results := [.lit (.bool true)], args := [d1, d2, d3, d4, d5] }
  | _ => none }
def fnExactFewestChangesRow : OpenClaim := { program := "ythnffhmefgfnkaa", sum := "00e17c9cc7ee02047cfde5605c9ba8eb8fd7476142375672cdb20d643d80c092", func := "loop.example/g01367/laws.FnExactFewestChanges", spec := "fnExactFewestChanges", unfollowed := true, recurses := true, apart := false }
def FnExactFewestChangesSaid : Prop := fnExactFewestChangesRow.holds Try.pinned (OpenSpec.ofChange fnExactFewestChangesSpec)

/-- ITS FALSE NEIGHBOUR: 'it returns false'. Refute it at one input. -/
def fnExactFewestChangesWrong : ChangeSpec := { name := "fnExactFewestChanges", fn := fun _ => fun
  | [d1, d2, d3, d4, d5] => { results := [.lit (.bool false)], args := [d1, d2, d3, d4, d5] }
  | _ => none }
def FnExactFewestChangesWrongFalsely : Prop := fnExactFewestChangesRow.holds Try.pinned (OpenSpec.ofChange fnExactFewestChangesWrong)

/-- 'laws.FnExactYearLight': WHATEVER THE INPUT: true; the input reads as it did. -/
def fnExactYearLightSpec : ChangeSpec := { name := "fnExactYearLight", fn := fun _ => fun
  | [d1, d2, d3] => { results := [.lit (.bool true)], args := [d1, d2, d3] }
  | _ => none }
def fnExactYearLightRow : OpenClaim := { program := "ythnffhmefgfnkaa", sum := "00e17c9cc7ee02047cfde5605c9ba8eb8fd7476142375672cdb20d643d80c092", func := "loop.example/g01367/laws.FnExactYearLight", spec := "fnExactYearLight", unfollowed := true, recurses := true, apart := false }
def FnExactYearLightSaid : Prop := fnExactYearLightRow.holds Try.pinned (OpenSpec.ofChange fnExactYearLightSpec)

/-- ITS FALSE NEIGHBOUR: 'it returns false'. Refute it at one input. -/
def fnExactYearLightWrong : ChangeSpec := { name := "fnExactYearLight", fn := fun _ => fun
  | [d1, d2, d3] => { results := [.lit (.bool false)], args := [d1, d2, d3] }
  | _ => none }
def FnExactYearLightWrongFalsely : Prop := fnExactYearLightRow.holds Try.pinned (OpenSpec.ofChange fnExactYearLightWrong)

/- THE SECOND FORM. 'bulk': how many values and letters a reading holds, each counted each time it is reached (what is shared counts as often as it is met; a slice's spare places count too). A statement '..UptoSaid' is the law's where the arguments, and the package variables that the reading takes, are together of bulk at most 1048576: NARROWER than '..Said'. Prove '..Said' where nothing that the law and all that it calls make is longer than what came in: it says more and counts as full. Else prove '..UptoSaid'. A law counts once. -/
mutual
def uptoBulk {H : Type} : DataW H → Nat
  | .lit (.string bytes) => bytes.length + 1
  | .lit _ => 1
  | .nil => 1
  | .ptr d => uptoBulk d + 1
  | .slice elems spare => uptoBulkAll elems + uptoBulkAll spare + 1
  | .agg parts => uptoBulkAll parts + 1
  | .iface _ d => uptoBulk d + 1
  | .map entries => uptoBulkEntries entries + 1
  | .held _ => 1
def uptoBulkAll {H : Type} : List (DataW H) → Nat
  | [] => 0
  | d :: r => uptoBulk d + uptoBulkAll r
def uptoBulkEntries {H : Type} : List (Lit × DataW H) → Nat
  | [] => 0
  | x :: r => uptoBulkEntry x + uptoBulkEntries r
def uptoBulkEntry {H : Type} : Lit × DataW H → Nat
  | (.string bytes, d) => bytes.length + uptoBulk d + 1
  | (_, d) => uptoBulk d + 1
 end
def uptoSmall : (H : Type) → List (DataW H) → Bool := fun _ ds => decide (uptoBulkAll ds ≤ 1048576)
def OpenSpec.upto (s : _root_.Go.ChangeSpec) : _root_.Go.OpenSpec := { _root_.Go.OpenSpec.ofChange s with cond := some uptoSmall }

/-- 'laws.FnExactFloorOf', WHERE WHAT IT READS IS OF BULK AT MOST 1048576: true; the input reads as it did. -/
def fnExactFloorOfUptoRow : OpenClaim := { program := "ythnffhmefgfnkaa", sum := "00e17c9cc7ee02047cfde5605c9ba8eb8fd7476142375672cdb20d643d80c092", func := "loop.example/g01367/laws.FnExactFloorOf", spec := "fnExactFloorOf", recurses := true, apart := false, narrowed := true }
def FnExactFloorOfUptoSaid : Prop := fnExactFloorOfUptoRow.holds Try.pinned (OpenSpec.upto fnExactFloorOfSpec)

/-- 'laws.FnExactBrokenFrom', WHERE WHAT IT READS IS OF BULK AT MOST 1048576: true; the input reads as it did. -/
def fnExactBrokenFromUptoRow : OpenClaim := { program := "ythnffhmefgfnkaa", sum := "00e17c9cc7ee02047cfde5605c9ba8eb8fd7476142375672cdb20d643d80c092", func := "loop.example/g01367/laws.FnExactBrokenFrom", spec := "fnExactBrokenFrom", inPlace := ["math.Float32bits"], recurses := true, apart := false, narrowed := true }
def FnExactBrokenFromUptoSaid : Prop := fnExactBrokenFromUptoRow.holds Try.pinned (OpenSpec.upto fnExactBrokenFromSpec)

/-- 'laws.FnExactKeepsWithin', WHERE WHAT IT READS IS OF BULK AT MOST 1048576: true; the input reads as it did. -/
def fnExactKeepsWithinUptoRow : OpenClaim := { program := "ythnffhmefgfnkaa", sum := "00e17c9cc7ee02047cfde5605c9ba8eb8fd7476142375672cdb20d643d80c092", func := "loop.example/g01367/laws.FnExactKeepsWithin", spec := "fnExactKeepsWithin", recurses := true, apart := false, narrowed := true }
def FnExactKeepsWithinUptoSaid : Prop := fnExactKeepsWithinUptoRow.holds Try.pinned (OpenSpec.upto fnExactKeepsWithinSpec)

/-- 'laws.FnExactFirstOutside', WHERE WHAT IT READS IS OF BULK AT MOST 1048576: true; the input reads as it did. -/
def fnExactFirstOutsideUptoRow : OpenClaim := { program := "ythnffhmefgfnkaa", sum := "00e17c9cc7ee02047cfde5605c9ba8eb8fd7476142375672cdb20d643d80c092", func := "loop.example/g01367/laws.FnExactFirstOutside", spec := "fnExactFirstOutside", recurses := true, apart := false, narrowed := true }
def FnExactFirstOutsideUptoSaid : Prop := fnExactFirstOutsideUptoRow.holds Try.pinned (OpenSpec.upto fnExactFirstOutsideSpec)

/-- 'laws.FnExactBrightestPlan', WHERE WHAT IT READS IS OF BULK AT MOST 1048576: true; the input reads as it did. -/
def fnExactBrightestPlanUptoRow : OpenClaim := { program := "ythnffhmefgfnkaa", sum := "00e17c9cc7ee02047cfde5605c9ba8eb8fd7476142375672cdb20d643d80c092", func := "loop.example/g01367/laws.FnExactBrightestPlan", spec := "fnExactBrightestPlan", recurses := true, apart := false, narrowed := true }
def FnExactBrightestPlanUptoSaid : Prop := fnExactBrightestPlanUptoRow.holds Try.pinned (OpenSpec.upto fnExactBrightestPlanSpec)

/-- 'laws.FnExactTiltsAt', WHERE WHAT IT READS IS OF BULK AT MOST 1048576: true; the input reads as it did. -/
def fnExactTiltsAtUptoRow : OpenClaim := { program := "ythnffhmefgfnkaa", sum := "00e17c9cc7ee02047cfde5605c9ba8eb8fd7476142375672cdb20d643d80c092", func := "loop.example/g01367/laws.FnExactTiltsAt", spec := "fnExactTiltsAt", unfollowed := true, recurses := true, apart := false, narrowed := true }
def FnExactTiltsAtUptoSaid : Prop := fnExactTiltsAtUptoRow.holds Try.pinned (OpenSpec.upto fnExactTiltsAtSpec)

/-- 'laws.FnExactPlanLight', WHERE WHAT IT READS IS OF BULK AT MOST 1048576: true; the input reads as it did. -/
def fnExactPlanLightUptoRow : OpenClaim := { program := "ythnffhmefgfnkaa", sum := "00e17c9cc7ee02047cfde5605c9ba8eb8fd7476142375672cdb20d643d80c092", func := "loop.example/g01367/laws.FnExactPlanLight", spec := "fnExactPlanLight", recurses := true, apart := false, narrowed := true }
def FnExactPlanLightUptoSaid : Prop := fnExactPlanLightUptoRow.holds Try.pinned (OpenSpec.upto fnExactPlanLightSpec)

/-- 'laws.FnExactBestMonth', WHERE WHAT IT READS IS OF BULK AT MOST 1048576: true; the input reads as it did. -/
def fnExactBestMonthUptoRow : OpenClaim := { program := "ythnffhmefgfnkaa", sum := "00e17c9cc7ee02047cfde5605c9ba8eb8fd7476142375672cdb20d643d80c092", func := "loop.example/g01367/laws.FnExactBestMonth", spec := "fnExactBestMonth", unfollowed := true, recurses := true, apart := false, narrowed := true }
def FnExactBestMonthUptoSaid : Prop := fnExactBestMonthUptoRow.holds Try.pinned (OpenSpec.upto fnExactBestMonthSpec)

/-- 'laws.FnExactYearFacing', WHERE WHAT IT READS IS OF BULK AT MOST 1048576: true; the input reads as it did. -/
def fnExactYearFacingUptoRow : OpenClaim := { program := "ythnffhmefgfnkaa", sum := "00e17c9cc7ee02047cfde5605c9ba8eb8fd7476142375672cdb20d643d80c092", func := "loop.example/g01367/laws.FnExactYearFacing", spec := "fnExactYearFacing", unfollowed := true, recurses := true, apart := false, narrowed := true }
def FnExactYearFacingUptoSaid : Prop := fnExactYearFacingUptoRow.holds Try.pinned (OpenSpec.upto fnExactYearFacingSpec)

/-- 'laws.FnExactFewestChanges', WHERE WHAT IT READS IS OF BULK AT MOST 1048576: true; the input reads as it did. -/
def fnExactFewestChangesUptoRow : OpenClaim := { program := "ythnffhmefgfnkaa", sum := "00e17c9cc7ee02047cfde5605c9ba8eb8fd7476142375672cdb20d643d80c092", func := "loop.example/g01367/laws.FnExactFewestChanges", spec := "fnExactFewestChanges", unfollowed := true, recurses := true, apart := false, narrowed := true }
def FnExactFewestChangesUptoSaid : Prop := fnExactFewestChangesUptoRow.holds Try.pinned (OpenSpec.upto fnExactFewestChangesSpec)

/-- 'laws.FnExactYearLight', WHERE WHAT IT READS IS OF BULK AT MOST 1048576: true; the input reads as it did. -/
def fnExactYearLightUptoRow : OpenClaim := { program := "ythnffhmefgfnkaa", sum := "00e17c9cc7ee02047cfde5605c9ba8eb8fd7476142375672cdb20d643d80c092", func := "loop.example/g01367/laws.FnExactYearLight", spec := "fnExactYearLight", unfollowed := true, recurses := true, apart := false, narrowed := true }
def FnExactYearLightUptoSaid : Prop := fnExactYearLightUptoRow.holds Try.pinned (OpenSpec.upto fnExactYearLightSpec)

end Rows
end Go.Proofs.Ythnffhmefgfnkaa
