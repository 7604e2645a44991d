/-
  No cell of these rows narrows 'for every input' (looked for: loops, veiled, ifaces, maps, wideKeys, modest, calm, conditions, laid).
  DERIVED. THE GIVEN ROWS OF THIS SEAT. 12 by the template 'for every input the law returns true; each argument reads behind the call as it read before'; 0 by the template 'total and deterministic' (their statements: YtmipfbafbkdncaaTotals.lean).
  GIVEN WITH THE SEED: the statements are not yours to turn. If you find one false, say at which input.
  Laid BY PROGRAM, IN A SANDBOX (cutbox-rows.mjs): the forced cells as the released guide's own fill.sh prints them over the translation b5ee2ee06ece50e9… (all of the seat's roots in one cut). By AI agents, Wed Nov 11 2026. No macro, syntax, notation, axiom, sorry.
-/
import Derived.Test.YtmipfbafbkdncaaChecked
import GoSem.Claim
import GoSem.ClaimJoined
import GoSem.ClaimMapViews
import Derived.JoinedTies
import Derived.KernelRfl
namespace Go.Proofs.Ytmipfbafbkdncaa
/- THE CELL 'sum', in the pinned program and in every row, IS THE sha256 OF THE DUMP (.gsa) THAT YtmipfbafbkdncaaProg.lean LOADS. Nothing in Lean hashes anything: it is a label: what it is worth is what the hold of that sum in a sandbox is worth. -/
noncomputable def Try.pinned : Pinned := { name := "ytmipfbafbkdncaa", sum := "b5ee2ee06ece50e9908f8f9d5be8ea6c4e690ca9d393b0729dd0e6943d549a40", checked := Try.checked }
namespace Rows
def none {H : Type} : Left H := { results := [], args := [] }

/-- 'laws.FnExactSameList': WHATEVER THE INPUT: true; the input reads as it did. -/
def fnExactSameListSpec : ChangeSpec := { name := "fnExactSameList", fn := fun _ => fun
  | [d1, d2] => { results := [.lit (.bool true)], args := [d1, d2] }
  | _ => none }
def fnExactSameListRow : OpenClaim := { program := "ytmipfbafbkdncaa", sum := "b5ee2ee06ece50e9908f8f9d5be8ea6c4e690ca9d393b0729dd0e6943d549a40", func := "loop.example/g01367/laws.FnExactSameList", spec := "fnExactSameList", inPlace := ["math.Float32bits"], unfollowed := true, recurses := true, apart := false }
def FnExactSameListSaid : Prop := fnExactSameListRow.holds Try.pinned (OpenSpec.ofChange fnExactSameListSpec)

/-- ITS FALSE NEIGHBOUR: 'it returns false'. Refute it at one input. -/
def fnExactSameListWrong : ChangeSpec := { name := "fnExactSameList", fn := fun _ => fun
  | [d1, d2] => { results := [.lit (.bool false)], args := [d1, d2] }
  | _ => none }
def FnExactSameListWrongFalsely : Prop := fnExactSameListRow.holds Try.pinned (OpenSpec.ofChange fnExactSameListWrong)

/-- 'laws.FnExactStepFrom': WHATEVER THE INPUT: true; the input reads as it did. -/
def fnExactStepFromSpec : ChangeSpec := { name := "fnExactStepFrom", fn := fun _ => fun
  | [d1, d2] => { results := [.lit (.bool true)], args := [d1, d2] }
  | _ => none }
def fnExactStepFromRow : OpenClaim := { program := "ytmipfbafbkdncaa", sum := "b5ee2ee06ece50e9908f8f9d5be8ea6c4e690ca9d393b0729dd0e6943d549a40", func := "loop.example/g01367/laws.FnExactStepFrom", spec := "fnExactStepFrom", inPlace := ["math.Float32bits", "math.Float32frombits"], apart := false }
def FnExactStepFromSaid : Prop := fnExactStepFromRow.holds Try.pinned (OpenSpec.ofChange fnExactStepFromSpec)

/-- ITS FALSE NEIGHBOUR: 'it returns false'. Refute it at one input. -/
def fnExactStepFromWrong : ChangeSpec := { name := "fnExactStepFrom", fn := fun _ => fun
  | [d1, d2] => { results := [.lit (.bool false)], args := [d1, d2] }
  | _ => none }
def FnExactStepFromWrongFalsely : Prop := fnExactStepFromRow.holds Try.pinned (OpenSpec.ofChange fnExactStepFromWrong)

/-- 'laws.FnExactDotOf': WHATEVER THE INPUT: true; the input reads as it did. -/
def fnExactDotOfSpec : ChangeSpec := { name := "fnExactDotOf", fn := fun _ => fun
  | [d1, d2] => { results := [.lit (.bool true)], args := [d1, d2] }
  | _ => none }
def fnExactDotOfRow : OpenClaim := { program := "ytmipfbafbkdncaa", sum := "b5ee2ee06ece50e9908f8f9d5be8ea6c4e690ca9d393b0729dd0e6943d549a40", func := "loop.example/g01367/laws.FnExactDotOf", spec := "fnExactDotOf", unfollowed := true, recurses := true, apart := false }
def FnExactDotOfSaid : Prop := fnExactDotOfRow.holds Try.pinned (OpenSpec.ofChange fnExactDotOfSpec)

/-- ITS FALSE NEIGHBOUR: 'it returns false'. Refute it at one input. -/
def fnExactDotOfWrong : ChangeSpec := { name := "fnExactDotOf", fn := fun _ => fun
  | [d1, d2] => { results := [.lit (.bool false)], args := [d1, d2] }
  | _ => none }
def FnExactDotOfWrongFalsely : Prop := fnExactDotOfRow.holds Try.pinned (OpenSpec.ofChange fnExactDotOfWrong)

/-- 'laws.FnExactPackAbove': WHATEVER THE INPUT: true; the input reads as it did. -/
def fnExactPackAboveSpec : ChangeSpec := { name := "fnExactPackAbove", fn := fun _ => fun
  | [d1, d2] => { results := [.lit (.bool true)], args := [d1, d2] }
  | _ => none }
def fnExactPackAboveRow : OpenClaim := { program := "ytmipfbafbkdncaa", sum := "b5ee2ee06ece50e9908f8f9d5be8ea6c4e690ca9d393b0729dd0e6943d549a40", func := "loop.example/g01367/laws.FnExactPackAbove", spec := "fnExactPackAbove", unfollowed := true, recurses := true, apart := false }
def FnExactPackAboveSaid : Prop := fnExactPackAboveRow.holds Try.pinned (OpenSpec.ofChange fnExactPackAboveSpec)

/-- ITS FALSE NEIGHBOUR: 'it returns false'. Refute it at one input. -/
def fnExactPackAboveWrong : ChangeSpec := { name := "fnExactPackAbove", fn := fun _ => fun
  | [d1, d2] => { results := [.lit (.bool false)], args := [d1, d2] }
  | _ => none }
def FnExactPackAboveWrongFalsely : Prop := fnExactPackAboveRow.holds Try.pinned (OpenSpec.ofChange fnExactPackAboveWrong)

/-- 'laws.FnExactSumLeft': WHATEVER THE INPUT: true; the input reads as it did. -/
def fnExactSumLeftSpec : ChangeSpec := { name := "fnExactSumLeft", fn := fun _ => fun
  | [d] => { results := [.lit (.bool true)], args := [d] }
  | _ => none }
def fnExactSumLeftRow : OpenClaim := { program := "ytmipfbafbkdncaa", sum := "b5ee2ee06ece50e9908f8f9d5be8ea6c4e690ca9d393b0729dd0e6943d549a40", func := "loop.example/g01367/laws.FnExactSumLeft", spec := "fnExactSumLeft", unfollowed := true, recurses := true, apart := false }
def FnExactSumLeftSaid : Prop := fnExactSumLeftRow.holds Try.pinned (OpenSpec.ofChange fnExactSumLeftSpec)

/-- ITS FALSE NEIGHBOUR: 'it returns false'. Refute it at one input. -/
def fnExactSumLeftWrong : ChangeSpec := { name := "fnExactSumLeft", fn := fun _ => fun
  | [d] => { results := [.lit (.bool false)], args := [d] }
  | _ => none }
def FnExactSumLeftWrongFalsely : Prop := fnExactSumLeftRow.holds Try.pinned (OpenSpec.ofChange fnExactSumLeftWrong)

/-- 'laws.FnExactSumWide': WHATEVER THE INPUT: true; the input reads as it did. -/
def fnExactSumWideSpec : ChangeSpec := { name := "fnExactSumWide", fn := fun _ => fun
  | [d] => { results := [.lit (.bool true)], args := [d] }
  | _ => none }
def fnExactSumWideRow : OpenClaim := { program := "ytmipfbafbkdncaa", sum := "b5ee2ee06ece50e9908f8f9d5be8ea6c4e690ca9d393b0729dd0e6943d549a40", func := "loop.example/g01367/laws.FnExactSumWide", spec := "fnExactSumWide", unfollowed := true, recurses := true, apart := false }
def FnExactSumWideSaid : Prop := fnExactSumWideRow.holds Try.pinned (OpenSpec.ofChange fnExactSumWideSpec)

/-- ITS FALSE NEIGHBOUR: 'it returns false'. Refute it at one input. -/
def fnExactSumWideWrong : ChangeSpec := { name := "fnExactSumWide", fn := fun _ => fun
  | [d] => { results := [.lit (.bool false)], args := [d] }
  | _ => none }
def FnExactSumWideWrongFalsely : Prop := fnExactSumWideRow.holds Try.pinned (OpenSpec.ofChange fnExactSumWideWrong)

/-- 'laws.FnExactSumPairs': WHATEVER THE INPUT: true; the input reads as it did. -/
def fnExactSumPairsSpec : ChangeSpec := { name := "fnExactSumPairs", fn := fun _ => fun
  | [d] => { results := [.lit (.bool true)], args := [d] }
  | _ => none }
def fnExactSumPairsRow : OpenClaim := { program := "ytmipfbafbkdncaa", sum := "b5ee2ee06ece50e9908f8f9d5be8ea6c4e690ca9d393b0729dd0e6943d549a40", func := "loop.example/g01367/laws.FnExactSumPairs", spec := "fnExactSumPairs", unfollowed := true, recurses := true, apart := false }
def FnExactSumPairsSaid : Prop := fnExactSumPairsRow.holds Try.pinned (OpenSpec.ofChange fnExactSumPairsSpec)

/-- ITS FALSE NEIGHBOUR: 'it returns false'. Refute it at one input. -/
def fnExactSumPairsWrong : ChangeSpec := { name := "fnExactSumPairs", fn := fun _ => fun
  | [d] => { results := [.lit (.bool false)], args := [d] }
  | _ => none }
def FnExactSumPairsWrongFalsely : Prop := fnExactSumPairsRow.holds Try.pinned (OpenSpec.ofChange fnExactSumPairsWrong)

/-- 'laws.FnExactMeanOf': WHATEVER THE INPUT: true; the input reads as it did. -/
def fnExactMeanOfSpec : ChangeSpec := { name := "fnExactMeanOf", fn := fun _ => fun
  | [d] => { results := [.lit (.bool true)], args := [d] }
  | _ => none }
def fnExactMeanOfRow : OpenClaim := { program := "ytmipfbafbkdncaa", sum := "b5ee2ee06ece50e9908f8f9d5be8ea6c4e690ca9d393b0729dd0e6943d549a40", func := "loop.example/g01367/laws.FnExactMeanOf", spec := "fnExactMeanOf", unfollowed := true, recurses := true, apart := false }
def FnExactMeanOfSaid : Prop := fnExactMeanOfRow.holds Try.pinned (OpenSpec.ofChange fnExactMeanOfSpec)

/-- ITS FALSE NEIGHBOUR: 'it returns false'. Refute it at one input. -/
def fnExactMeanOfWrong : ChangeSpec := { name := "fnExactMeanOf", fn := fun _ => fun
  | [d] => { results := [.lit (.bool false)], args := [d] }
  | _ => none }
def FnExactMeanOfWrongFalsely : Prop := fnExactMeanOfRow.holds Try.pinned (OpenSpec.ofChange fnExactMeanOfWrong)

/-- 'laws.FnExactSumKept': WHATEVER THE INPUT: true; the input reads as it did. -/
def fnExactSumKeptSpec : ChangeSpec := { name := "fnExactSumKept", fn := fun _ => fun
  | [d] => { results := [.lit (.bool true)], args := [d] }
  | _ => none }
def fnExactSumKeptRow : OpenClaim := { program := "ytmipfbafbkdncaa", sum := "b5ee2ee06ece50e9908f8f9d5be8ea6c4e690ca9d393b0729dd0e6943d549a40", func := "loop.example/g01367/laws.FnExactSumKept", spec := "fnExactSumKept", unfollowed := true, recurses := true, apart := false }
def FnExactSumKeptSaid : Prop := fnExactSumKeptRow.holds Try.pinned (OpenSpec.ofChange fnExactSumKeptSpec)

/-- ITS FALSE NEIGHBOUR: 'it returns false'. Refute it at one input. -/
def fnExactSumKeptWrong : ChangeSpec := { name := "fnExactSumKept", fn := fun _ => fun
  | [d] => { results := [.lit (.bool false)], args := [d] }
  | _ => none }
def FnExactSumKeptWrongFalsely : Prop := fnExactSumKeptRow.holds Try.pinned (OpenSpec.ofChange fnExactSumKeptWrong)

/-- 'laws.FnExactSumRight': WHATEVER THE INPUT: true; the input reads as it did. -/
def fnExactSumRightSpec : ChangeSpec := { name := "fnExactSumRight", fn := fun _ => fun
  | [d] => { results := [.lit (.bool true)], args := [d] }
  | _ => none }
def fnExactSumRightRow : OpenClaim := { program := "ytmipfbafbkdncaa", sum := "b5ee2ee06ece50e9908f8f9d5be8ea6c4e690ca9d393b0729dd0e6943d549a40", func := "loop.example/g01367/laws.FnExactSumRight", spec := "fnExactSumRight", unfollowed := true, recurses := true, apart := false }
def FnExactSumRightSaid : Prop := fnExactSumRightRow.holds Try.pinned (OpenSpec.ofChange fnExactSumRightSpec)

/-- ITS FALSE NEIGHBOUR: 'it returns false'. Refute it at one input. -/
def fnExactSumRightWrong : ChangeSpec := { name := "fnExactSumRight", fn := fun _ => fun
  | [d] => { results := [.lit (.bool false)], args := [d] }
  | _ => none }
def FnExactSumRightWrongFalsely : Prop := fnExactSumRightRow.holds Try.pinned (OpenSpec.ofChange fnExactSumRightWrong)

/-- 'laws.FnExactSquareOff': WHATEVER THE INPUT: true; the input reads as it did. -/
def fnExactSquareOffSpec : ChangeSpec := { name := "fnExactSquareOff", fn := fun _ => fun
  | [d] => { results := [.lit (.bool true)], args := [d] }
  | _ => none }
def fnExactSquareOffRow : OpenClaim := { program := "ytmipfbafbkdncaa", sum := "b5ee2ee06ece50e9908f8f9d5be8ea6c4e690ca9d393b0729dd0e6943d549a40", func := "loop.example/g01367/laws.FnExactSquareOff", spec := "fnExactSquareOff", unfollowed := true, recurses := true, apart := false }
def FnExactSquareOffSaid : Prop := fnExactSquareOffRow.holds Try.pinned (OpenSpec.ofChange fnExactSquareOffSpec)

/-- ITS FALSE NEIGHBOUR: 'it returns false'. Refute it at one input. -/
def fnExactSquareOffWrong : ChangeSpec := { name := "fnExactSquareOff", fn := fun _ => fun
  | [d] => { results := [.lit (.bool false)], args := [d] }
  | _ => none }
def FnExactSquareOffWrongFalsely : Prop := fnExactSquareOffRow.holds Try.pinned (OpenSpec.ofChange fnExactSquareOffWrong)

/-- 'laws.FnExactCountBins': WHATEVER THE INPUT: true; the input reads as it did. -/
def fnExactCountBinsSpec : ChangeSpec := { name := "fnExactCountBins", fn := fun _ => fun
  | [d1, d2] => { results := [.lit (.bool true)], args := [d1, d2] }
  | _ => none }
def fnExactCountBinsRow : OpenClaim := { program := "ytmipfbafbkdncaa", sum := "b5ee2ee06ece50e9908f8f9d5be8ea6c4e690ca9d393b0729dd0e6943d549a40", func := "loop.example/g01367/laws.FnExactCountBins", spec := "fnExactCountBins", unfollowed := true, recurses := true, apart := false }
def FnExactCountBinsSaid : Prop := fnExactCountBinsRow.holds Try.pinned (OpenSpec.ofChange fnExactCountBinsSpec)

/-- ITS FALSE NEIGHBOUR: 'it returns false'. Refute it at one input. -/
def fnExactCountBinsWrong : ChangeSpec := { name := "fnExactCountBins", fn := fun _ => fun
  | [d1, d2] => { results := [.lit (.bool false)], args := [d1, d2] }
  | _ => none }
def FnExactCountBinsWrongFalsely : Prop := fnExactCountBinsRow.holds Try.pinned (OpenSpec.ofChange fnExactCountBinsWrong)

/- THE SECOND FORM. 'bulk': how many values and letters a reading holds, each counted each time it is reached (what is shared counts as often as it is met; a slice's spare places count too). A statement '..UptoSaid' is the law's where the arguments, and the package variables that the reading takes, are together of bulk at most 1048576: NARROWER than '..Said'. Prove '..Said' where nothing that the law and all that it calls make is longer than what came in: it says more and counts as full. Else prove '..UptoSaid'. A law counts once. -/
mutual
def uptoBulk {H : Type} : DataW H → Nat
  | .lit (.string bytes) => bytes.length + 1
  | .lit _ => 1
  | .nil => 1
  | .ptr d => uptoBulk d + 1
  | .slice elems spare => uptoBulkAll elems + uptoBulkAll spare + 1
  | .agg parts => uptoBulkAll parts + 1
  | .iface _ d => uptoBulk d + 1
  | .map entries => uptoBulkEntries entries + 1
  | .held _ => 1
def uptoBulkAll {H : Type} : List (DataW H) → Nat
  | [] => 0
  | d :: r => uptoBulk d + uptoBulkAll r
def uptoBulkEntries {H : Type} : List (Lit × DataW H) → Nat
  | [] => 0
  | x :: r => uptoBulkEntry x + uptoBulkEntries r
def uptoBulkEntry {H : Type} : Lit × DataW H → Nat
  | (.string bytes, d) => bytes.length + uptoBulk d + 1
  | (_, d) => uptoBulk d + 1
 end
def uptoSmall : (H : Type) → List (DataW H) → Bool := fun _ ds => decide (uptoBulkAll ds ≤ 1048576)
def OpenSpec.upto (s : _root_.Go.ChangeSpec) : _root_.Go.OpenSpec := { _root_.Go.OpenSpec.ofChange s with cond := some uptoSmall }

/-- 'laws.FnExactSameList', WHERE WHAT IT READS IS OF BULK AT MOST 1048576: true; the input reads as it did. -/
def fnExactSameListUptoRow : OpenClaim := { program := "ytmipfbafbkdncaa", sum := "b5ee2ee06ece50e9908f8f9d5be8ea6c4e690ca9d393b0729dd0e6943d549a40", func := "loop.example/g01367/laws.FnExactSameList", spec := "fnExactSameList", inPlace := ["math.Float32bits"], unfollowed := true, recurses := true, apart := false, narrowed := true }
def FnExactSameListUptoSaid : Prop := fnExactSameListUptoRow.holds Try.pinned (OpenSpec.upto fnExactSameListSpec)

/-- 'laws.FnExactStepFrom', WHERE WHAT IT READS IS OF BULK AT MOST 1048576: true; the input reads as it did. -/
def fnExactStepFromUptoRow : OpenClaim := { program := "ytmipfbafbkdncaa", sum := "b5ee2ee06ece50e9908f8f9d5be8ea6c4e690ca9d393b0729dd0e6943d549a40", func := "loop.example/g01367/laws.FnExactStepFrom", spec := "fnExactStepFrom", inPlace := ["math.Float32bits", "math.Float32frombits"], apart := false, narrowed := true }
def FnExactStepFromUptoSaid : Prop := fnExactStepFromUptoRow.holds Try.pinned (OpenSpec.upto fnExactStepFromSpec)

/-- 'laws.FnExactDotOf', WHERE WHAT IT READS IS OF BULK AT MOST 1048576: true; the input reads as it did. -/
def fnExactDotOfUptoRow : OpenClaim := { program := "ytmipfbafbkdncaa", sum := "b5ee2ee06ece50e9908f8f9d5be8ea6c4e690ca9d393b0729dd0e6943d549a40", func := "loop.example/g01367/laws.FnExactDotOf", spec := "fnExactDotOf", unfollowed := true, recurses := true, apart := false, narrowed := true }
def FnExactDotOfUptoSaid : Prop := fnExactDotOfUptoRow.holds Try.pinned (OpenSpec.upto fnExactDotOfSpec)

/-- 'laws.FnExactPackAbove', WHERE WHAT IT READS IS OF BULK AT MOST 1048576: true; the input reads as it did. -/
def fnExactPackAboveUptoRow : OpenClaim := { program := "ytmipfbafbkdncaa", sum := "b5ee2ee06ece50e9908f8f9d5be8ea6c4e690ca9d393b0729dd0e6943d549a40", func := "loop.example/g01367/laws.FnExactPackAbove", spec := "fnExactPackAbove", unfollowed := true, recurses := true, apart := false, narrowed := true }
def FnExactPackAboveUptoSaid : Prop := fnExactPackAboveUptoRow.holds Try.pinned (OpenSpec.upto fnExactPackAboveSpec)

/-- 'laws.FnExactSumLeft', WHERE WHAT IT READS IS OF BULK AT MOST 1048576: true; the input reads as it did. -/
def fnExactSumLeftUptoRow : OpenClaim := { program := "ytmipfbafbkdncaa", sum := "b5ee2ee06ece50e9908f8f9d5be8ea6c4e690ca9d393b0729dd0e6943d549a40", func := "loop.example/g01367/laws.FnExactSumLeft", spec := "fnExactSumLeft", unfollowed := true, recurses := true, apart := false, narrowed := true }
def FnExactSumLeftUptoSaid : Prop := fnExactSumLeftUptoRow.holds Try.pinned (OpenSpec.upto fnExactSumLeftSpec)

/-- 'laws.FnExactSumWide', WHERE WHAT IT READS IS OF BULK AT MOST 1048576: true; the input reads as it did. -/
def fnExactSumWideUptoRow : OpenClaim := { program := "ytmipfbafbkdncaa", sum := "b5ee2ee06ece50e9908f8f9d5be8ea6c4e690ca9d393b0729dd0e6943d549a40", func := "loop.example/g01367/laws.FnExactSumWide", spec := "fnExactSumWide", unfollowed := true, recurses := true, apart := false, narrowed := true }
def FnExactSumWideUptoSaid : Prop := fnExactSumWideUptoRow.holds Try.pinned (OpenSpec.upto fnExactSumWideSpec)

/-- 'laws.FnExactSumPairs', WHERE WHAT IT READS IS OF BULK AT MOST 1048576: true; the input reads as it did. -/
def fnExactSumPairsUptoRow : OpenClaim := { program := "ytmipfbafbkdncaa", sum := "b5ee2ee06ece50e9908f8f9d5be8ea6c4e690ca9d393b0729dd0e6943d549a40", func := "loop.example/g01367/laws.FnExactSumPairs", spec := "fnExactSumPairs", unfollowed := true, recurses := true, apart := false, narrowed := true }
def FnExactSumPairsUptoSaid : Prop := fnExactSumPairsUptoRow.holds Try.pinned (OpenSpec.upto fnExactSumPairsSpec)

/-- 'laws.FnExactMeanOf', WHERE WHAT IT READS IS OF BULK AT MOST 1048576: true; the input reads as it did. -/
def fnExactMeanOfUptoRow : OpenClaim := { program := "ytmipfbafbkdncaa", sum := "b5ee2ee06ece50e9908f8f9d5be8ea6c4e690ca9d393b0729dd0e6943d549a40", func := "loop.example/g01367/laws.FnExactMeanOf", spec := "fnExactMeanOf", unfollowed := true, recurses := true, apart := false, narrowed := true }
def FnExactMeanOfUptoSaid : Prop := fnExactMeanOfUptoRow.holds Try.pinned (OpenSpec.upto fnExactMeanOfSpec)

/-- 'laws.FnExactSumKept', WHERE WHAT IT READS IS OF BULK AT MOST 1048576: true; the input reads as it did. -/
def fnExactSumKeptUptoRow : OpenClaim := { program := "ytmipfbafbkdncaa", sum := "b5ee2ee06ece50e9908f8f9d5be8ea6c4e690ca9d393b0729dd0e6943d549a40", func := "loop.example/g01367/laws.FnExactSumKept", spec := "fnExactSumKept", unfollowed := true, recurses := true, apart := false, narrowed := true }
def FnExactSumKeptUptoSaid : Prop := fnExactSumKeptUptoRow.holds Try.pinned (OpenSpec.upto fnExactSumKeptSpec)

/-- 'laws.FnExactSumRight', WHERE WHAT IT READS IS OF BULK AT MOST 1048576: true; the input reads as it did. -/
def fnExactSumRightUptoRow : OpenClaim := { program := "ytmipfbafbkdncaa", sum := "b5ee2ee06ece50e9908f8f9d5be8ea6c4e690ca9d393b0729dd0e6943d549a40", func := "loop.example/g01367/laws.FnExactSumRight", spec := "fnExactSumRight", unfollowed := true, recurses := true, apart := false, narrowed := true }
def FnExactSumRightUptoSaid : Prop := fnExactSumRightUptoRow.holds Try.pinned (OpenSpec.upto fnExactSumRightSpec)

/-- 'laws.FnExactSquareOff', WHERE WHAT IT READS IS OF BULK AT MOST 1048576: true; the input reads as it did. -/
def fnExactSquareOffUptoRow : OpenClaim := { program := "ytmipfbafbkdncaa", sum := "b5ee2ee06ece50e9908f8f9d5be8ea6c4e690ca9d393b0729dd0e6943d549a40", func := "loop.example/g01367/laws.FnExactSquareOff", spec := "fnExactSquareOff", unfollowed := true, recurses := true, apart := false, narrowed := true }
def FnExactSquareOffUptoSaid : Prop := fnExactSquareOffUptoRow.holds Try.pinned (OpenSpec.upto fnExactSquareOffSpec)

/-- 'laws.FnExactCountBins', WHERE WHAT IT READS IS OF BULK AT MOST 1048576: true; the input reads as it did. -/
def fnExactCountBinsUptoRow : OpenClaim := { program := "ytmipfbafbkdncaa", sum := "b5ee2ee06ece50e9908f8f9d5be8ea6c4e690ca9d393b0729dd0e6943d549a40", func := "loop.example/g01367/laws.FnExactCountBins", spec := "fnExactCountBins", unfollowed := true, recurses := true, apart := false, narrowed := true }
def FnExactCountBinsUptoSaid : Prop := fnExactCountBinsUptoRow.holds Try.pinned (OpenSpec.upto fnExactCountBinsSpec)

end Rows
end Go.Proofs.Ytmipfbafbkdncaa
