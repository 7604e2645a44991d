/-
  No cell of these rows narrows 'for every input' (looked for: loops, veiled, ifaces, maps, wideKeys, modest, calm, conditions, laid).
  DERIVED. THE GIVEN ROWS OF THIS SEAT. 9 by the template 'for every input the law returns true; each argument reads behind the call as it read before'; 0 by the template 'total and deterministic' (their statements: YtmhhgnalcapccaaTotals.lean).
  GIVEN WITH THE SEED: the statements are not yours to turn. If you find one false, say at which input.
  Laid BY PROGRAM, IN A SANDBOX (cutbox-rows.mjs): the forced cells as the released guide's own fill.sh prints them over the translation f3b9a64faf9fb051… (all of the seat's roots in one cut). By AI agents, Wed Nov 11 2026. No macro, syntax, notation, axiom, sorry.
-/
import Derived.Test.YtmhhgnalcapccaaChecked
import GoSem.Claim
import GoSem.ClaimJoined
import GoSem.ClaimMapViews
import Derived.JoinedTies
import Derived.KernelRfl
namespace Go.Proofs.Ytmhhgnalcapccaa
/- THE CELL 'sum', in the pinned program and in every row, IS THE sha256 OF THE DUMP (.gsa) THAT YtmhhgnalcapccaaProg.lean LOADS. Nothing in Lean hashes anything: it is a label: what it is worth is what the hold of that sum in a sandbox is worth. -/
noncomputable def Try.pinned : Pinned := { name := "ytmhhgnalcapccaa", sum := "f3b9a64faf9fb05153771085eee525aa233dc2afb7460d24d34c4512f4b85534", checked := Try.checked }
namespace Rows
def none {H : Type} : Left H := { results := [], args := [] }

/-- 'laws.FnExactRunningSums': WHATEVER THE INPUT: true; the input reads as it did. -/
def fnExactRunningSumsSpec : ChangeSpec := { name := "fnExactRunningSums", fn := fun _ => fun
  | [d] => { results := [.lit (.bool true)], args := [d] }
  | _ => none }
def fnExactRunningSumsRow : OpenClaim := { program := "ytmhhgnalcapccaa", sum := "f3b9a64faf9fb05153771085eee525aa233dc2afb7460d24d34c4512f4b85534", func := "loop.example/g01367/laws.FnExactRunningSums", spec := "fnExactRunningSums", unfollowed := true, recurses := true, apart := false }
def FnExactRunningSumsSaid : Prop := fnExactRunningSumsRow.holds Try.pinned (OpenSpec.ofChange fnExactRunningSumsSpec)

/-- ITS FALSE NEIGHBOUR: 'it returns false'. Refute it at one input. -/
def fnExactRunningSumsWrong : ChangeSpec := { name := "fnExactRunningSums", fn := fun _ => fun
  | [d] => { results := [.lit (.bool false)], args := [d] }
  | _ => none }
def FnExactRunningSumsWrongFalsely : Prop := fnExactRunningSumsRow.holds Try.pinned (OpenSpec.ofChange fnExactRunningSumsWrong)

/-- 'laws.FnExactMovingMeans': WHATEVER THE INPUT: true; the input reads as it did. -/
def fnExactMovingMeansSpec : ChangeSpec := { name := "fnExactMovingMeans", fn := fun _ => fun
  | [d1, d2] => { results := [.lit (.bool true)], args := [d1, d2] }
  | _ => none }
def fnExactMovingMeansRow : OpenClaim := { program := "ytmhhgnalcapccaa", sum := "f3b9a64faf9fb05153771085eee525aa233dc2afb7460d24d34c4512f4b85534", func := "loop.example/g01367/laws.FnExactMovingMeans", spec := "fnExactMovingMeans", unfollowed := true, recurses := true, apart := false }
def FnExactMovingMeansSaid : Prop := fnExactMovingMeansRow.holds Try.pinned (OpenSpec.ofChange fnExactMovingMeansSpec)

/-- ITS FALSE NEIGHBOUR: 'it returns false'. Refute it at one input. -/
def fnExactMovingMeansWrong : ChangeSpec := { name := "fnExactMovingMeans", fn := fun _ => fun
  | [d1, d2] => { results := [.lit (.bool false)], args := [d1, d2] }
  | _ => none }
def FnExactMovingMeansWrongFalsely : Prop := fnExactMovingMeansRow.holds Try.pinned (OpenSpec.ofChange fnExactMovingMeansWrong)

/-- 'laws.FnExactSortList': WHATEVER THE INPUT: true; the input reads as it did. -/
def fnExactSortListSpec : ChangeSpec := { name := "fnExactSortList", fn := fun _ => fun
  | [d] => { results := [.lit (.bool true)], args := [d] }
  | _ => none }
def fnExactSortListRow : OpenClaim := { program := "ytmhhgnalcapccaa", sum := "f3b9a64faf9fb05153771085eee525aa233dc2afb7460d24d34c4512f4b85534", func := "loop.example/g01367/laws.FnExactSortList", spec := "fnExactSortList", inPlace := ["math.Float64bits", "math.Float32bits"], unfollowed := true, recurses := true, apart := false }
def FnExactSortListSaid : Prop := fnExactSortListRow.holds Try.pinned (OpenSpec.ofChange fnExactSortListSpec)

/-- ITS FALSE NEIGHBOUR: 'it returns false'. Refute it at one input. -/
def fnExactSortListWrong : ChangeSpec := { name := "fnExactSortList", fn := fun _ => fun
  | [d] => { results := [.lit (.bool false)], args := [d] }
  | _ => none }
def FnExactSortListWrongFalsely : Prop := fnExactSortListRow.holds Try.pinned (OpenSpec.ofChange fnExactSortListWrong)

/-- 'laws.FnExactSpreadOf': WHATEVER THE INPUT: true; the input reads as it did. -/
def fnExactSpreadOfSpec : ChangeSpec := { name := "fnExactSpreadOf", fn := fun _ => fun
  | [d] => { results := [.lit (.bool true)], args := [d] }
  | _ => none }
def fnExactSpreadOfRow : OpenClaim := { program := "ytmhhgnalcapccaa", sum := "f3b9a64faf9fb05153771085eee525aa233dc2afb7460d24d34c4512f4b85534", func := "loop.example/g01367/laws.FnExactSpreadOf", spec := "fnExactSpreadOf", inPlace := ["math.Float64bits", "math.Float32bits"], unfollowed := true, recurses := true, apart := false }
def FnExactSpreadOfSaid : Prop := fnExactSpreadOfRow.holds Try.pinned (OpenSpec.ofChange fnExactSpreadOfSpec)

/-- ITS FALSE NEIGHBOUR: 'it returns false'. Refute it at one input. -/
def fnExactSpreadOfWrong : ChangeSpec := { name := "fnExactSpreadOf", fn := fun _ => fun
  | [d] => { results := [.lit (.bool false)], args := [d] }
  | _ => none }
def FnExactSpreadOfWrongFalsely : Prop := fnExactSpreadOfRow.holds Try.pinned (OpenSpec.ofChange fnExactSpreadOfWrong)

/-- 'laws.FnExactMedianOf': WHATEVER THE INPUT: true; the input reads as it did. -/
def fnExactMedianOfSpec : ChangeSpec := { name := "fnExactMedianOf", fn := fun _ => fun
  | [d] => { results := [.lit (.bool true)], args := [d] }
  | _ => none }
def fnExactMedianOfRow : OpenClaim := { program := "ytmhhgnalcapccaa", sum := "f3b9a64faf9fb05153771085eee525aa233dc2afb7460d24d34c4512f4b85534", func := "loop.example/g01367/laws.FnExactMedianOf", spec := "fnExactMedianOf", inPlace := ["math.Float64bits", "math.Float32bits"], unfollowed := true, recurses := true, apart := false }
def FnExactMedianOfSaid : Prop := fnExactMedianOfRow.holds Try.pinned (OpenSpec.ofChange fnExactMedianOfSpec)

/-- ITS FALSE NEIGHBOUR: 'it returns false'. Refute it at one input. -/
def fnExactMedianOfWrong : ChangeSpec := { name := "fnExactMedianOf", fn := fun _ => fun
  | [d] => { results := [.lit (.bool false)], args := [d] }
  | _ => none }
def FnExactMedianOfWrongFalsely : Prop := fnExactMedianOfRow.holds Try.pinned (OpenSpec.ofChange fnExactMedianOfWrong)

/-- 'laws.FnExactSumSmall': WHATEVER THE INPUT: true; the input reads as it did. -/
def fnExactSumSmallSpec : ChangeSpec := { name := "fnExactSumSmall", fn := fun _ => fun
  | [d] => { results := [.lit (.bool true)], args := [d] }
  | _ => none }
def fnExactSumSmallRow : OpenClaim := { program := "ytmhhgnalcapccaa", sum := "f3b9a64faf9fb05153771085eee525aa233dc2afb7460d24d34c4512f4b85534", func := "loop.example/g01367/laws.FnExactSumSmall", spec := "fnExactSumSmall", inPlace := ["math.Float64bits", "math.Float32bits"], unfollowed := true, recurses := true, apart := false }
def FnExactSumSmallSaid : Prop := fnExactSumSmallRow.holds Try.pinned (OpenSpec.ofChange fnExactSumSmallSpec)

/-- ITS FALSE NEIGHBOUR: 'it returns false'. Refute it at one input. -/
def fnExactSumSmallWrong : ChangeSpec := { name := "fnExactSumSmall", fn := fun _ => fun
  | [d] => { results := [.lit (.bool false)], args := [d] }
  | _ => none }
def FnExactSumSmallWrongFalsely : Prop := fnExactSumSmallRow.holds Try.pinned (OpenSpec.ofChange fnExactSumSmallWrong)

/-- 'laws.FnExactOrdersApart': WHATEVER THE INPUT: true; the input reads as it did. -/
def fnExactOrdersApartSpec : ChangeSpec := { name := "fnExactOrdersApart", fn := fun _ => fun
  | [d] => { results := [.lit (.bool true)], args := [d] }
  | _ => none }
def fnExactOrdersApartRow : OpenClaim := { program := "ytmhhgnalcapccaa", sum := "f3b9a64faf9fb05153771085eee525aa233dc2afb7460d24d34c4512f4b85534", func := "loop.example/g01367/laws.FnExactOrdersApart", spec := "fnExactOrdersApart", inPlace := ["math.Float64bits", "math.Float32bits"], unfollowed := true, recurses := true, apart := false }
def FnExactOrdersApartSaid : Prop := fnExactOrdersApartRow.holds Try.pinned (OpenSpec.ofChange fnExactOrdersApartSpec)

/-- ITS FALSE NEIGHBOUR: 'it returns false'. Refute it at one input. -/
def fnExactOrdersApartWrong : ChangeSpec := { name := "fnExactOrdersApart", fn := fun _ => fun
  | [d] => { results := [.lit (.bool false)], args := [d] }
  | _ => none }
def FnExactOrdersApartWrongFalsely : Prop := fnExactOrdersApartRow.holds Try.pinned (OpenSpec.ofChange fnExactOrdersApartWrong)

/-- 'laws.FnExactGreatestOrder': WHATEVER THE INPUT: true; the input reads as it did. -/
def fnExactGreatestOrderSpec : ChangeSpec := { name := "fnExactGreatestOrder", fn := fun _ => fun
  | [d] => { results := [.lit (.bool true)], args := [d] }
  | _ => none }
def fnExactGreatestOrderRow : OpenClaim := { program := "ytmhhgnalcapccaa", sum := "f3b9a64faf9fb05153771085eee525aa233dc2afb7460d24d34c4512f4b85534", func := "loop.example/g01367/laws.FnExactGreatestOrder", spec := "fnExactGreatestOrder", inPlace := ["math.Float64frombits"], unfollowed := true, recurses := true, apart := false }
def FnExactGreatestOrderSaid : Prop := fnExactGreatestOrderRow.holds Try.pinned (OpenSpec.ofChange fnExactGreatestOrderSpec)

/-- ITS FALSE NEIGHBOUR: 'it returns false'. Refute it at one input. -/
def fnExactGreatestOrderWrong : ChangeSpec := { name := "fnExactGreatestOrder", fn := fun _ => fun
  | [d] => { results := [.lit (.bool false)], args := [d] }
  | _ => none }
def FnExactGreatestOrderWrongFalsely : Prop := fnExactGreatestOrderRow.holds Try.pinned (OpenSpec.ofChange fnExactGreatestOrderWrong)

/-- 'laws.FnSums': WHATEVER THE INPUT: true; the input reads as it did. -/
def fnSumsSpec : ChangeSpec := { name := "fnSums", fn := fun _ => fun
  | [d1, d2] => { results := [.lit (.bool true)], args := [d1, d2] }
  | _ => none }
def fnSumsRow : OpenClaim := { program := "ytmhhgnalcapccaa", sum := "f3b9a64faf9fb05153771085eee525aa233dc2afb7460d24d34c4512f4b85534", func := "loop.example/g01367/laws.FnSums", spec := "fnSums", inPlace := ["math.Float32frombits", "math.Float32bits", "math.Float64bits", "math.Float64frombits"], unfollowed := true, recurses := true, apart := false }
def FnSumsSaid : Prop := fnSumsRow.holds Try.pinned (OpenSpec.ofChange fnSumsSpec)

/-- ITS FALSE NEIGHBOUR: 'it returns false'. Refute it at one input. -/
def fnSumsWrong : ChangeSpec := { name := "fnSums", fn := fun _ => fun
  | [d1, d2] => { results := [.lit (.bool false)], args := [d1, d2] }
  | _ => none }
def FnSumsWrongFalsely : Prop := fnSumsRow.holds Try.pinned (OpenSpec.ofChange fnSumsWrong)

/- THE SECOND FORM. 'bulk': how many values and letters a reading holds, each counted each time it is reached (what is shared counts as often as it is met; a slice's spare places count too). A statement '..UptoSaid' is the law's where the arguments, and the package variables that the reading takes, are together of bulk at most 1048576: NARROWER than '..Said'. Prove '..Said' where nothing that the law and all that it calls make is longer than what came in: it says more and counts as full. Else prove '..UptoSaid'. A law counts once. -/
mutual
def uptoBulk {H : Type} : DataW H → Nat
  | .lit (.string bytes) => bytes.length + 1
  | .lit _ => 1
  | .nil => 1
  | .ptr d => uptoBulk d + 1
  | .slice elems spare => uptoBulkAll elems + uptoBulkAll spare + 1
  | .agg parts => uptoBulkAll parts + 1
  | .iface _ d => uptoBulk d + 1
  | .map entries => uptoBulkEntries entries + 1
  | .held _ => 1
def uptoBulkAll {H : Type} : List (DataW H) → Nat
  | [] => 0
  | d :: r => uptoBulk d + uptoBulkAll r
def uptoBulkEntries {H : Type} : List (Lit × DataW H) → Nat
  | [] => 0
  | x :: r => uptoBulkEntry x + uptoBulkEntries r
def uptoBulkEntry {H : Type} : Lit × DataW H → Nat
  | (.string bytes, d) => bytes.length + uptoBulk d + 1
  | (_, d) => uptoBulk d + 1
 end
def uptoSmall : (H : Type) → List (DataW H) → Bool := fun _ ds => decide (uptoBulkAll ds ≤ 1048576)
def OpenSpec.upto (s : _root_.Go.ChangeSpec) : _root_.Go.OpenSpec := { _root_.Go.OpenSpec.ofChange s with cond := some uptoSmall }

/-- 'laws.FnExactRunningSums', WHERE WHAT IT READS IS OF BULK AT MOST 1048576: true; the input reads as it did. -/
def fnExactRunningSumsUptoRow : OpenClaim := { program := "ytmhhgnalcapccaa", sum := "f3b9a64faf9fb05153771085eee525aa233dc2afb7460d24d34c4512f4b85534", func := "loop.example/g01367/laws.FnExactRunningSums", spec := "fnExactRunningSums", unfollowed := true, recurses := true, apart := false, narrowed := true }
def FnExactRunningSumsUptoSaid : Prop := fnExactRunningSumsUptoRow.holds Try.pinned (OpenSpec.upto fnExactRunningSumsSpec)

/-- 'laws.FnExactMovingMeans', WHERE WHAT IT READS IS OF BULK AT MOST 1048576: true; the input reads as it did. -/
def fnExactMovingMeansUptoRow : OpenClaim := { program := "ytmhhgnalcapccaa", sum := "f3b9a64faf9fb05153771085eee525aa233dc2afb7460d24d34c4512f4b85534", func := "loop.example/g01367/laws.FnExactMovingMeans", spec := "fnExactMovingMeans", unfollowed := true, recurses := true, apart := false, narrowed := true }
def FnExactMovingMeansUptoSaid : Prop := fnExactMovingMeansUptoRow.holds Try.pinned (OpenSpec.upto fnExactMovingMeansSpec)

/-- 'laws.FnExactSortList', WHERE WHAT IT READS IS OF BULK AT MOST 1048576: true; the input reads as it did. -/
def fnExactSortListUptoRow : OpenClaim := { program := "ytmhhgnalcapccaa", sum := "f3b9a64faf9fb05153771085eee525aa233dc2afb7460d24d34c4512f4b85534", func := "loop.example/g01367/laws.FnExactSortList", spec := "fnExactSortList", inPlace := ["math.Float64bits", "math.Float32bits"], unfollowed := true, recurses := true, apart := false, narrowed := true }
def FnExactSortListUptoSaid : Prop := fnExactSortListUptoRow.holds Try.pinned (OpenSpec.upto fnExactSortListSpec)

/-- 'laws.FnExactSpreadOf', WHERE WHAT IT READS IS OF BULK AT MOST 1048576: true; the input reads as it did. -/
def fnExactSpreadOfUptoRow : OpenClaim := { program := "ytmhhgnalcapccaa", sum := "f3b9a64faf9fb05153771085eee525aa233dc2afb7460d24d34c4512f4b85534", func := "loop.example/g01367/laws.FnExactSpreadOf", spec := "fnExactSpreadOf", inPlace := ["math.Float64bits", "math.Float32bits"], unfollowed := true, recurses := true, apart := false, narrowed := true }
def FnExactSpreadOfUptoSaid : Prop := fnExactSpreadOfUptoRow.holds Try.pinned (OpenSpec.upto fnExactSpreadOfSpec)

/-- 'laws.FnExactMedianOf', WHERE WHAT IT READS IS OF BULK AT MOST 1048576: true; the input reads as it did. -/
def fnExactMedianOfUptoRow : OpenClaim := { program := "ytmhhgnalcapccaa", sum := "f3b9a64faf9fb05153771085eee525aa233dc2afb7460d24d34c4512f4b85534", func := "loop.example/g01367/laws.FnExactMedianOf", spec := "fnExactMedianOf", inPlace := ["math.Float64bits", "math.Float32bits"], unfollowed := true, recurses := true, apart := false, narrowed := true }
def FnExactMedianOfUptoSaid : Prop := fnExactMedianOfUptoRow.holds Try.pinned (OpenSpec.upto fnExactMedianOfSpec)

/-- 'laws.FnExactSumSmall', WHERE WHAT IT READS IS OF BULK AT MOST 1048576: true; the input reads as it did. -/
def fnExactSumSmallUptoRow : OpenClaim := { program := "ytmhhgnalcapccaa", sum := "f3b9a64faf9fb05153771085eee525aa233dc2afb7460d24d34c4512f4b85534", func := "loop.example/g01367/laws.FnExactSumSmall", spec := "fnExactSumSmall", inPlace := ["math.Float64bits", "math.Float32bits"], unfollowed := true, recurses := true, apart := false, narrowed := true }
def FnExactSumSmallUptoSaid : Prop := fnExactSumSmallUptoRow.holds Try.pinned (OpenSpec.upto fnExactSumSmallSpec)

/-- 'laws.FnExactOrdersApart', WHERE WHAT IT READS IS OF BULK AT MOST 1048576: true; the input reads as it did. -/
def fnExactOrdersApartUptoRow : OpenClaim := { program := "ytmhhgnalcapccaa", sum := "f3b9a64faf9fb05153771085eee525aa233dc2afb7460d24d34c4512f4b85534", func := "loop.example/g01367/laws.FnExactOrdersApart", spec := "fnExactOrdersApart", inPlace := ["math.Float64bits", "math.Float32bits"], unfollowed := true, recurses := true, apart := false, narrowed := true }
def FnExactOrdersApartUptoSaid : Prop := fnExactOrdersApartUptoRow.holds Try.pinned (OpenSpec.upto fnExactOrdersApartSpec)

/-- 'laws.FnExactGreatestOrder', WHERE WHAT IT READS IS OF BULK AT MOST 1048576: true; the input reads as it did. -/
def fnExactGreatestOrderUptoRow : OpenClaim := { program := "ytmhhgnalcapccaa", sum := "f3b9a64faf9fb05153771085eee525aa233dc2afb7460d24d34c4512f4b85534", func := "loop.example/g01367/laws.FnExactGreatestOrder", spec := "fnExactGreatestOrder", inPlace := ["math.Float64frombits"], unfollowed := true, recurses := true, apart := false, narrowed := true }
def FnExactGreatestOrderUptoSaid : Prop := fnExactGreatestOrderUptoRow.holds Try.pinned (OpenSpec.upto fnExactGreatestOrderSpec)

/-- 'laws.FnSums', WHERE WHAT IT READS IS OF BULK AT MOST 1048576: true; the input reads as it did. -/
def fnSumsUptoRow : OpenClaim := { program := "ytmhhgnalcapccaa", sum := "f3b9a64faf9fb05153771085eee525aa233dc2afb7460d24d34c4512f4b85534", func := "loop.example/g01367/laws.FnSums", spec := "fnSums", inPlace := ["math.Float32frombits", "math.Float32bits", "math.Float64bits", "math.Float64frombits"], unfollowed := true, recurses := true, apart := false, narrowed := true }
def FnSumsUptoSaid : Prop := fnSumsUptoRow.holds Try.pinned (OpenSpec.upto fnSumsSpec)

end Rows
end Go.Proofs.Ytmhhgnalcapccaa
