/-
  No cell of these rows narrows 'for every input' (looked for: loops, veiled, ifaces, maps, wideKeys, modest, calm, conditions, laid).
  DERIVED. THE GIVEN ROWS OF THIS SEAT. 6 by the template 'for every input the law returns true; each argument reads behind the call as it read before'; 0 by the template 'total and deterministic' (their statements: YtmjmgfojdomhlaaTotals.lean).
  GIVEN WITH THE SEED: the statements are not yours to turn. If you find one false, say at which input.
  Laid BY PROGRAM, IN A SANDBOX (cutbox-rows.mjs): the forced cells as the released guide's own fill.sh prints them over the translation b5f1b1e2ebd56b60… (all of the seat's roots in one cut). By AI agents, Wed Nov 11 2026. No macro, syntax, notation, axiom, sorry.
-/
import Derived.Test.YtmjmgfojdomhlaaChecked
import GoSem.Claim
import GoSem.ClaimJoined
import GoSem.ClaimMapViews
import Derived.JoinedTies
import Derived.KernelRfl
namespace Go.Proofs.Ytmjmgfojdomhlaa
/- THE CELL 'sum', in the pinned program and in every row, IS THE sha256 OF THE DUMP (.gsa) THAT YtmjmgfojdomhlaaProg.lean LOADS. Nothing in Lean hashes anything: it is a label: what it is worth is what the hold of that sum in a sandbox is worth. -/
noncomputable def Try.pinned : Pinned := { name := "ytmjmgfojdomhlaa", sum := "b5f1b1e2ebd56b60eaa423fc72f819716f679a286163fe4192458874b55c75f0", checked := Try.checked }
namespace Rows
def none {H : Type} : Left H := { results := [], args := [] }

/-- 'laws.FnExactRaisedIn': WHATEVER THE INPUT: true; the input reads as it did. -/
def fnExactRaisedInSpec : ChangeSpec := { name := "fnExactRaisedIn", fn := fun _ => fun
  | [d1, d2, d3, d4] => { results := [.lit (.bool true)], args := [d1, d2, d3, d4] }
  | _ => none }
def fnExactRaisedInRow : OpenClaim := { program := "ytmjmgfojdomhlaa", sum := "b5f1b1e2ebd56b60eaa423fc72f819716f679a286163fe4192458874b55c75f0", func := "loop.example/g01367/laws.FnExactRaisedIn", spec := "fnExactRaisedIn", unfollowed := true, recurses := true, apart := false }
def FnExactRaisedInSaid : Prop := fnExactRaisedInRow.holds Try.pinned (OpenSpec.ofChange fnExactRaisedInSpec)

/-- ITS FALSE NEIGHBOUR: 'it returns false'. Refute it at one input. -/
def fnExactRaisedInWrong : ChangeSpec := { name := "fnExactRaisedIn", fn := fun _ => fun
  | [d1, d2, d3, d4] => { results := [.lit (.bool false)], args := [d1, d2, d3, d4] }
  | _ => none }
def FnExactRaisedInWrongFalsely : Prop := fnExactRaisedInRow.holds Try.pinned (OpenSpec.ofChange fnExactRaisedInWrong)

/-- 'laws.FnExactTickAll': WHATEVER THE INPUT: true; the input reads as it did. -/
def fnExactTickAllSpec : ChangeSpec := { name := "fnExactTickAll", fn := fun _ => fun
  | [d1, d2, d3, d4] => { results := [.lit (.bool true)], args := [d1, d2, d3, d4] }
  | _ => none }
def fnExactTickAllRow : OpenClaim := { program := "ytmjmgfojdomhlaa", sum := "b5f1b1e2ebd56b60eaa423fc72f819716f679a286163fe4192458874b55c75f0", func := "loop.example/g01367/laws.FnExactTickAll", spec := "fnExactTickAll", unfollowed := true, recurses := true, apart := false }
def FnExactTickAllSaid : Prop := fnExactTickAllRow.holds Try.pinned (OpenSpec.ofChange fnExactTickAllSpec)

/-- ITS FALSE NEIGHBOUR: 'it returns false'. Refute it at one input. -/
def fnExactTickAllWrong : ChangeSpec := { name := "fnExactTickAll", fn := fun _ => fun
  | [d1, d2, d3, d4] => { results := [.lit (.bool false)], args := [d1, d2, d3, d4] }
  | _ => none }
def FnExactTickAllWrongFalsely : Prop := fnExactTickAllRow.holds Try.pinned (OpenSpec.ofChange fnExactTickAllWrong)

/-- 'laws.FnExactGlareTicks': WHATEVER THE INPUT: true; the input reads as it did. -/
def fnExactGlareTicksSpec : ChangeSpec := { name := "fnExactGlareTicks", fn := fun _ => fun
  | [d1, d2, d3, d4, d5] => { results := [.lit (.bool true)], args := [d1, d2, d3, d4, d5] }
  | _ => none }
def fnExactGlareTicksRow : OpenClaim := { program := "ytmjmgfojdomhlaa", sum := "b5f1b1e2ebd56b60eaa423fc72f819716f679a286163fe4192458874b55c75f0", func := "loop.example/g01367/laws.FnExactGlareTicks", spec := "fnExactGlareTicks", unfollowed := true, recurses := true, apart := false }
def FnExactGlareTicksSaid : Prop := fnExactGlareTicksRow.holds Try.pinned (OpenSpec.ofChange fnExactGlareTicksSpec)

/-- ITS FALSE NEIGHBOUR: 'it returns false'. Refute it at one input. -/
def fnExactGlareTicksWrong : ChangeSpec := { name := "fnExactGlareTicks", fn := fun _ => fun
  | [d1, d2, d3, d4, d5] => { results := [.lit (.bool false)], args := [d1, d2, d3, d4, d5] }
  | _ => none }
def FnExactGlareTicksWrongFalsely : Prop := fnExactGlareTicksRow.holds Try.pinned (OpenSpec.ofChange fnExactGlareTicksWrong)

/-- 'laws.FnExactGreatestOrder': WHATEVER THE INPUT: true; the input reads as it did. -/
def fnExactGreatestOrderSpec : ChangeSpec := { name := "fnExactGreatestOrder", fn := fun _ => fun
  | [d] => { results := [.lit (.bool true)], args := [d] }
  | _ => none }
def fnExactGreatestOrderRow : OpenClaim := { program := "ytmjmgfojdomhlaa", sum := "b5f1b1e2ebd56b60eaa423fc72f819716f679a286163fe4192458874b55c75f0", func := "loop.example/g01367/laws.FnExactGreatestOrder", spec := "fnExactGreatestOrder", inPlace := ["math.Float64frombits"], unfollowed := true, recurses := true, apart := false }
def FnExactGreatestOrderSaid : Prop := fnExactGreatestOrderRow.holds Try.pinned (OpenSpec.ofChange fnExactGreatestOrderSpec)

/-- ITS FALSE NEIGHBOUR: 'it returns false'. Refute it at one input. -/
def fnExactGreatestOrderWrong : ChangeSpec := { name := "fnExactGreatestOrder", fn := fun _ => fun
  | [d] => { results := [.lit (.bool false)], args := [d] }
  | _ => none }
def FnExactGreatestOrderWrongFalsely : Prop := fnExactGreatestOrderRow.holds Try.pinned (OpenSpec.ofChange fnExactGreatestOrderWrong)

/-- 'laws.FnBroken': WHATEVER THE INPUT: true; the input reads as it did. -/
def fnBrokenSpec : ChangeSpec := { name := "fnBroken", fn := fun _ => fun
  | [d1, d2] => { results := [.lit (.bool true)], args := [d1, d2] }
  | _ => none }
def fnBrokenRow : OpenClaim := { program := "ytmjmgfojdomhlaa", sum := "b5f1b1e2ebd56b60eaa423fc72f819716f679a286163fe4192458874b55c75f0", func := "loop.example/g01367/laws.FnBroken", spec := "fnBroken", inPlace := ["math.Float32bits"], unfollowed := true, recurses := true, apart := false }
def FnBrokenSaid : Prop := fnBrokenRow.holds Try.pinned (OpenSpec.ofChange fnBrokenSpec)

/-- ITS FALSE NEIGHBOUR: 'it returns false'. Refute it at one input. -/
def fnBrokenWrong : ChangeSpec := { name := "fnBroken", fn := fun _ => fun
  | [d1, d2] => { results := [.lit (.bool false)], args := [d1, d2] }
  | _ => none }
def FnBrokenWrongFalsely : Prop := fnBrokenRow.holds Try.pinned (OpenSpec.ofChange fnBrokenWrong)

/-- 'laws.FnVotes': WHATEVER THE INPUT: true; the input reads as it did. -/
def fnVotesSpec : ChangeSpec := { name := "fnVotes", fn := fun _ => fun
  | [d1, d2] => { results := [.lit (.bool true)], args := [d1, d2] }
  | _ => none }
def fnVotesRow : OpenClaim := { program := "ytmjmgfojdomhlaa", sum := "b5f1b1e2ebd56b60eaa423fc72f819716f679a286163fe4192458874b55c75f0", func := "loop.example/g01367/laws.FnVotes", spec := "fnVotes", inPlace := ["math.Float32bits"], unfollowed := true, recurses := true, apart := false }
def FnVotesSaid : Prop := fnVotesRow.holds Try.pinned (OpenSpec.ofChange fnVotesSpec)

/-- ITS FALSE NEIGHBOUR: 'it returns false'. Refute it at one input. -/
def fnVotesWrong : ChangeSpec := { name := "fnVotes", fn := fun _ => fun
  | [d1, d2] => { results := [.lit (.bool false)], args := [d1, d2] }
  | _ => none }
def FnVotesWrongFalsely : Prop := fnVotesRow.holds Try.pinned (OpenSpec.ofChange fnVotesWrong)

/- THE SECOND FORM. 'bulk': how many values and letters a reading holds, each counted each time it is reached (what is shared counts as often as it is met; a slice's spare places count too). A statement '..UptoSaid' is the law's where the arguments, and the package variables that the reading takes, are together of bulk at most 1048576: NARROWER than '..Said'. Prove '..Said' where nothing that the law and all that it calls make is longer than what came in: it says more and counts as full. Else prove '..UptoSaid'. A law counts once. -/
mutual
def uptoBulk {H : Type} : DataW H → Nat
  | .lit (.string bytes) => bytes.length + 1
  | .lit _ => 1
  | .nil => 1
  | .ptr d => uptoBulk d + 1
  | .slice elems spare => uptoBulkAll elems + uptoBulkAll spare + 1
  | .agg parts => uptoBulkAll parts + 1
  | .iface _ d => uptoBulk d + 1
  | .map entries => uptoBulkEntries entries + 1
  | .held _ => 1
def uptoBulkAll {H : Type} : List (DataW H) → Nat
  | [] => 0
  | d :: r => uptoBulk d + uptoBulkAll r
def uptoBulkEntries {H : Type} : List (Lit × DataW H) → Nat
  | [] => 0
  | x :: r => uptoBulkEntry x + uptoBulkEntries r
def uptoBulkEntry {H : Type} : Lit × DataW H → Nat
  | (.string bytes, d) => bytes.length + uptoBulk d + 1
  | (_, d) => uptoBulk d + 1
 end
def uptoSmall : (H : Type) → List (DataW H) → Bool := fun _ ds => decide (uptoBulkAll ds ≤ 1048576)
def OpenSpec.upto (s : _root_.Go.ChangeSpec) : _root_.Go.OpenSpec := { _root_.Go.OpenSpec.ofChange s with cond := some uptoSmall }

/-- 'laws.FnExactRaisedIn', WHERE WHAT IT READS IS OF BULK AT MOST 1048576: true; the input reads as it did. -/
def fnExactRaisedInUptoRow : OpenClaim := { program := "ytmjmgfojdomhlaa", sum := "b5f1b1e2ebd56b60eaa423fc72f819716f679a286163fe4192458874b55c75f0", func := "loop.example/g01367/laws.FnExactRaisedIn", spec := "fnExactRaisedIn", unfollowed := true, recurses := true, apart := false, narrowed := true }
def FnExactRaisedInUptoSaid : Prop := fnExactRaisedInUptoRow.holds Try.pinned (OpenSpec.upto fnExactRaisedInSpec)

/-- 'laws.FnExactTickAll', WHERE WHAT IT READS IS OF BULK AT MOST 1048576: true; the input reads as it did. -/
def fnExactTickAllUptoRow : OpenClaim := { program := "ytmjmgfojdomhlaa", sum := "b5f1b1e2ebd56b60eaa423fc72f819716f679a286163fe4192458874b55c75f0", func := "loop.example/g01367/laws.FnExactTickAll", spec := "fnExactTickAll", unfollowed := true, recurses := true, apart := false, narrowed := true }
def FnExactTickAllUptoSaid : Prop := fnExactTickAllUptoRow.holds Try.pinned (OpenSpec.upto fnExactTickAllSpec)

/-- 'laws.FnExactGlareTicks', WHERE WHAT IT READS IS OF BULK AT MOST 1048576: true; the input reads as it did. -/
def fnExactGlareTicksUptoRow : OpenClaim := { program := "ytmjmgfojdomhlaa", sum := "b5f1b1e2ebd56b60eaa423fc72f819716f679a286163fe4192458874b55c75f0", func := "loop.example/g01367/laws.FnExactGlareTicks", spec := "fnExactGlareTicks", unfollowed := true, recurses := true, apart := false, narrowed := true }
def FnExactGlareTicksUptoSaid : Prop := fnExactGlareTicksUptoRow.holds Try.pinned (OpenSpec.upto fnExactGlareTicksSpec)

/-- 'laws.FnExactGreatestOrder', WHERE WHAT IT READS IS OF BULK AT MOST 1048576: true; the input reads as it did. -/
def fnExactGreatestOrderUptoRow : OpenClaim := { program := "ytmjmgfojdomhlaa", sum := "b5f1b1e2ebd56b60eaa423fc72f819716f679a286163fe4192458874b55c75f0", func := "loop.example/g01367/laws.FnExactGreatestOrder", spec := "fnExactGreatestOrder", inPlace := ["math.Float64frombits"], unfollowed := true, recurses := true, apart := false, narrowed := true }
def FnExactGreatestOrderUptoSaid : Prop := fnExactGreatestOrderUptoRow.holds Try.pinned (OpenSpec.upto fnExactGreatestOrderSpec)

/-- 'laws.FnBroken', WHERE WHAT IT READS IS OF BULK AT MOST 1048576: true; the input reads as it did. -/
def fnBrokenUptoRow : OpenClaim := { program := "ytmjmgfojdomhlaa", sum := "b5f1b1e2ebd56b60eaa423fc72f819716f679a286163fe4192458874b55c75f0", func := "loop.example/g01367/laws.FnBroken", spec := "fnBroken", inPlace := ["math.Float32bits"], unfollowed := true, recurses := true, apart := false, narrowed := true }
def FnBrokenUptoSaid : Prop := fnBrokenUptoRow.holds Try.pinned (OpenSpec.upto fnBrokenSpec)

/-- 'laws.FnVotes', WHERE WHAT IT READS IS OF BULK AT MOST 1048576: true; the input reads as it did. -/
def fnVotesUptoRow : OpenClaim := { program := "ytmjmgfojdomhlaa", sum := "b5f1b1e2ebd56b60eaa423fc72f819716f679a286163fe4192458874b55c75f0", func := "loop.example/g01367/laws.FnVotes", spec := "fnVotes", inPlace := ["math.Float32bits"], unfollowed := true, recurses := true, apart := false, narrowed := true }
def FnVotesUptoSaid : Prop := fnVotesUptoRow.holds Try.pinned (OpenSpec.upto fnVotesSpec)

end Rows
end Go.Proofs.Ytmjmgfojdomhlaa
