/-
  DERIVED. GIVEN WITH THE SEED: THE CARDS: each row of YtdcjoafagalejaaDoorRows.lean that lists a variable, with what it lists TIED to the program's text (the seventh form; the later family's looks); each row that meets fmt, with fmt's text TOLD by the authors' own Lean function (tested against real Go, not proved from fmt's source: count such statements apart). THE CARD IS WHAT COUNTS. Prove the row's statement (the work); the ties are given (YtdcjoafagalejaaDoorTie.lean); close each card by the builder's one call (the guide's Derived/Test/ToyasCard.lean, 'card_holds'). Laid BY PROGRAM, IN A SANDBOX (cutbox-door.mjs). By AI agents, Wed Nov 11 2026. No macro, syntax, notation, axiom, sorry.
-/
import Derived.Test.YtdcjoafagalejaaDoorRows
import GoSem.ClaimSeven
namespace Go.Proofs.YtdcjoafagalejaaDoor
namespace Rows

/-- THE TIED CARD OF 'laws.FnExactPlanText'. -/
def fnExactPlanTextCard : Claim7 := { stood := { row := fnExactPlanTextRow, standIns := [], harness := (true, "8c4b5411f7b48cf6dd7993ec296f55d5b0ef9f632f125ff61c561135b476fb49"), looks := true }, kinds := [], alts := [], laidByText := true, laidKinds := [.data, .data, .data], laidTests := true, laidLooks := .later }
def FnExactPlanTextCardSaid : Prop := Claim7.holds Tryd.pinned (.plain (OpenSpec.ofChange fnExactPlanTextSpec)) fnExactPlanTextCard

/-- THE TIED CARD OF 'laws.FnExactListText'. -/
def fnExactListTextCard : Claim7 := { stood := { row := fnExactListTextRow, standIns := [], harness := (true, "8c4b5411f7b48cf6dd7993ec296f55d5b0ef9f632f125ff61c561135b476fb49"), looks := true }, kinds := [], alts := [], laidByText := true, laidKinds := [.data, .data, .data], laidTests := true, laidLooks := .later }
def FnExactListTextCardSaid : Prop := Claim7.holds Tryd.pinned (.plain (OpenSpec.ofChange fnExactListTextSpec)) fnExactListTextCard

/-- THE TIED CARD OF 'laws.FnExactReadList'. -/
def fnExactReadListCard : Claim7 := { stood := { row := fnExactReadListRow, standIns := [], harness := (true, "8c4b5411f7b48cf6dd7993ec296f55d5b0ef9f632f125ff61c561135b476fb49"), looks := true }, kinds := [], alts := [], laidByText := true, laidKinds := [.data, .data, .data, .data, .sentinel, .sentinel, .pinned], laidTests := true, laidLooks := .later }
def FnExactReadListCardSaid : Prop := Claim7.holds Tryd.pinned (.plain (OpenSpec.ofChange fnExactReadListSpec)) fnExactReadListCard

/-- THE TIED CARD OF 'laws.FnExactControlText'. -/
def fnExactControlTextCard : Claim7 := { stood := { row := fnExactControlTextRow, standIns := [], harness := (true, "8c4b5411f7b48cf6dd7993ec296f55d5b0ef9f632f125ff61c561135b476fb49"), looks := true }, kinds := [], alts := [], laidByText := true, laidKinds := [.data, .data, .data], laidTests := true, laidLooks := .later }
def FnExactControlTextCardSaid : Prop := Claim7.holds Tryd.pinned (.plain (OpenSpec.ofChange fnExactControlTextSpec)) fnExactControlTextCard

/-- THE TIED CARD OF 'laws.FnExactReadState'. -/
def fnExactReadStateCard : Claim7 := { stood := { row := fnExactReadStateRow, standIns := [], harness := (true, "8c4b5411f7b48cf6dd7993ec296f55d5b0ef9f632f125ff61c561135b476fb49"), looks := true }, kinds := [], alts := [], laidByText := true, laidKinds := [.data, .data, .data, .data, .sentinel, .sentinel, .pinned], laidTests := true, laidLooks := .later }
def FnExactReadStateCardSaid : Prop := Claim7.holds Tryd.pinned (.plain (OpenSpec.ofChange fnExactReadStateSpec)) fnExactReadStateCard

/-- THE TIED CARD OF 'laws.FnExactReadControl'. -/
def fnExactReadControlCard : Claim7 := { stood := { row := fnExactReadControlRow, standIns := [], harness := (true, "8c4b5411f7b48cf6dd7993ec296f55d5b0ef9f632f125ff61c561135b476fb49"), looks := true }, kinds := [], alts := [], laidByText := true, laidKinds := [.data, .data, .data, .data, .sentinel, .sentinel, .pinned], laidTests := true, laidLooks := .later }
def FnExactReadControlCardSaid : Prop := Claim7.holds Tryd.pinned (.plain (OpenSpec.ofChange fnExactReadControlSpec)) fnExactReadControlCard

/-- THE TIED CARD OF 'laws.FnExactReadPlan'. -/
def fnExactReadPlanCard : Claim7 := { stood := { row := fnExactReadPlanRow, standIns := [], harness := (true, "8c4b5411f7b48cf6dd7993ec296f55d5b0ef9f632f125ff61c561135b476fb49"), looks := true }, kinds := [], alts := [], laidByText := true, laidKinds := [.data, .data, .data, .data, .sentinel, .sentinel, .pinned], laidTests := true, laidLooks := .later }
def FnExactReadPlanCardSaid : Prop := Claim7.holds Tryd.pinned (.plain (OpenSpec.ofChange fnExactReadPlanSpec)) fnExactReadPlanCard

/-- THE SECOND FORM's CARD OF 'laws.FnExactPlanText'. -/
def fnExactPlanTextUptoCard : Claim7 := { stood := { row := fnExactPlanTextUptoRow, standIns := [], harness := (true, "8c4b5411f7b48cf6dd7993ec296f55d5b0ef9f632f125ff61c561135b476fb49"), looks := true }, kinds := [], alts := [], laidByText := true, laidKinds := [.data, .data, .data], laidTests := true, laidLooks := .later }
def FnExactPlanTextUptoCardSaid : Prop := Claim7.holds Tryd.pinned (.plain (OpenSpec.upto fnExactPlanTextSpec)) fnExactPlanTextUptoCard

/-- THE SECOND FORM's CARD OF 'laws.FnExactListText'. -/
def fnExactListTextUptoCard : Claim7 := { stood := { row := fnExactListTextUptoRow, standIns := [], harness := (true, "8c4b5411f7b48cf6dd7993ec296f55d5b0ef9f632f125ff61c561135b476fb49"), looks := true }, kinds := [], alts := [], laidByText := true, laidKinds := [.data, .data, .data], laidTests := true, laidLooks := .later }
def FnExactListTextUptoCardSaid : Prop := Claim7.holds Tryd.pinned (.plain (OpenSpec.upto fnExactListTextSpec)) fnExactListTextUptoCard

/-- THE SECOND FORM's CARD OF 'laws.FnExactReadList'. -/
def fnExactReadListUptoCard : Claim7 := { stood := { row := fnExactReadListUptoRow, standIns := [], harness := (true, "8c4b5411f7b48cf6dd7993ec296f55d5b0ef9f632f125ff61c561135b476fb49"), looks := true }, kinds := [], alts := [], laidByText := true, laidKinds := [.data, .data, .data, .data, .sentinel, .sentinel, .pinned], laidTests := true, laidLooks := .later }
def FnExactReadListUptoCardSaid : Prop := Claim7.holds Tryd.pinned (.plain (OpenSpec.upto fnExactReadListSpec)) fnExactReadListUptoCard

/-- THE SECOND FORM's CARD OF 'laws.FnExactControlText'. -/
def fnExactControlTextUptoCard : Claim7 := { stood := { row := fnExactControlTextUptoRow, standIns := [], harness := (true, "8c4b5411f7b48cf6dd7993ec296f55d5b0ef9f632f125ff61c561135b476fb49"), looks := true }, kinds := [], alts := [], laidByText := true, laidKinds := [.data, .data, .data], laidTests := true, laidLooks := .later }
def FnExactControlTextUptoCardSaid : Prop := Claim7.holds Tryd.pinned (.plain (OpenSpec.upto fnExactControlTextSpec)) fnExactControlTextUptoCard

/-- THE SECOND FORM's CARD OF 'laws.FnExactReadState'. -/
def fnExactReadStateUptoCard : Claim7 := { stood := { row := fnExactReadStateUptoRow, standIns := [], harness := (true, "8c4b5411f7b48cf6dd7993ec296f55d5b0ef9f632f125ff61c561135b476fb49"), looks := true }, kinds := [], alts := [], laidByText := true, laidKinds := [.data, .data, .data, .data, .sentinel, .sentinel, .pinned], laidTests := true, laidLooks := .later }
def FnExactReadStateUptoCardSaid : Prop := Claim7.holds Tryd.pinned (.plain (OpenSpec.upto fnExactReadStateSpec)) fnExactReadStateUptoCard

/-- THE SECOND FORM's CARD OF 'laws.FnExactReadControl'. -/
def fnExactReadControlUptoCard : Claim7 := { stood := { row := fnExactReadControlUptoRow, standIns := [], harness := (true, "8c4b5411f7b48cf6dd7993ec296f55d5b0ef9f632f125ff61c561135b476fb49"), looks := true }, kinds := [], alts := [], laidByText := true, laidKinds := [.data, .data, .data, .data, .sentinel, .sentinel, .pinned], laidTests := true, laidLooks := .later }
def FnExactReadControlUptoCardSaid : Prop := Claim7.holds Tryd.pinned (.plain (OpenSpec.upto fnExactReadControlSpec)) fnExactReadControlUptoCard

/-- THE SECOND FORM's CARD OF 'laws.FnExactReadPlan'. -/
def fnExactReadPlanUptoCard : Claim7 := { stood := { row := fnExactReadPlanUptoRow, standIns := [], harness := (true, "8c4b5411f7b48cf6dd7993ec296f55d5b0ef9f632f125ff61c561135b476fb49"), looks := true }, kinds := [], alts := [], laidByText := true, laidKinds := [.data, .data, .data, .data, .sentinel, .sentinel, .pinned], laidTests := true, laidLooks := .later }
def FnExactReadPlanUptoCardSaid : Prop := Claim7.holds Tryd.pinned (.plain (OpenSpec.upto fnExactReadPlanSpec)) fnExactReadPlanUptoCard
end Rows
end Go.Proofs.YtdcjoafagalejaaDoor
