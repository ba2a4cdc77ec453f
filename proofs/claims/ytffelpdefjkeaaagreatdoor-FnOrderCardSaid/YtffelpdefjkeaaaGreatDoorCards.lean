/-
  DERIVED. GIVEN WITH THE SEED: THE CARDS: each row of YtffelpdefjkeaaaGreatDoorRows.lean that lists a variable, with what it lists TIED to the program's text (the seventh form; the later family's looks); each row that meets fmt, with fmt's text TOLD by the authors' own Lean function (tested against real Go, not proved from fmt's source: count such statements apart). THE CARD IS WHAT COUNTS. Prove the row's statement (the work); the ties are given (YtffelpdefjkeaaaGreatDoorTie.lean); close each card by the builder's one call (the guide's Derived/Test/ToyasCard.lean, 'card_holds'). Laid BY PROGRAM, IN A SANDBOX (cutbox-door.mjs). By AI agents, Wed Nov 11 2026. No macro, syntax, notation, axiom, sorry.
-/
import Derived.Test.YtffelpdefjkeaaaGreatDoorRows
import GoSem.ClaimSeven
namespace Go.Proofs.YtffelpdefjkeaaaGreatDoor
namespace Rows

/-- THE TIED CARD OF 'laws.FnExactBracedOk'. -/
def fnExactBracedOkCard : Claim7 := { stood := { row := fnExactBracedOkRow, standIns := [], harness := (true, "da230f5219554a1511bbdc271c53321c0486b0d55cdc85ea3724369e990ac6e6"), looks := true }, kinds := [], alts := [], laidByText := true, laidKinds := [.data, .data, .data, .data, .sentinel, .sentinel, .pinned, .pinned], laidTests := true, laidLooks := .later }
def FnExactBracedOkCardSaid : Prop := Claim7.holds Tryz.pinned (.plain (OpenSpec.ofChange fnExactBracedOkSpec)) fnExactBracedOkCard

/-- THE TIED CARD OF 'laws.FnExactBracedSame'. -/
def fnExactBracedSameCard : Claim7 := { stood := { row := fnExactBracedSameRow, standIns := [], harness := (true, "da230f5219554a1511bbdc271c53321c0486b0d55cdc85ea3724369e990ac6e6"), looks := true }, kinds := [], alts := [], laidByText := true, laidKinds := [.data, .data, .data, .data, .sentinel, .sentinel, .pinned, .pinned], laidTests := true, laidLooks := .later }
def FnExactBracedSameCardSaid : Prop := Claim7.holds Tryz.pinned (.plain (OpenSpec.ofChange fnExactBracedSameSpec)) fnExactBracedSameCard

/-- THE TIED CARD OF 'laws.FnExactReadBraced'. -/
def fnExactReadBracedCard : Claim7 := { stood := { row := fnExactReadBracedRow, standIns := [], harness := (true, "da230f5219554a1511bbdc271c53321c0486b0d55cdc85ea3724369e990ac6e6"), looks := true }, kinds := [], alts := [], laidByText := true, laidKinds := [.data, .data, .data, .data, .sentinel, .sentinel, .pinned, .pinned], laidTests := true, laidLooks := .later }
def FnExactReadBracedCardSaid : Prop := Claim7.holds Tryz.pinned (.plain (OpenSpec.ofChange fnExactReadBracedSpec)) fnExactReadBracedCard

/-- THE TIED CARD OF 'laws.FnExactBracedNormal'. -/
def fnExactBracedNormalCard : Claim7 := { stood := { row := fnExactBracedNormalRow, standIns := [], harness := (true, "da230f5219554a1511bbdc271c53321c0486b0d55cdc85ea3724369e990ac6e6"), looks := true }, kinds := [], alts := [], laidByText := true, laidKinds := [.data, .data, .data, .data, .sentinel, .sentinel, .pinned, .pinned], laidTests := true, laidLooks := .later }
def FnExactBracedNormalCardSaid : Prop := Claim7.holds Tryz.pinned (.plain (OpenSpec.ofChange fnExactBracedNormalSpec)) fnExactBracedNormalCard

/-- THE TIED CARD OF 'laws.FnBraced'. -/
def fnBracedCard : Claim7 := { stood := { row := fnBracedRow, standIns := [], harness := (true, "da230f5219554a1511bbdc271c53321c0486b0d55cdc85ea3724369e990ac6e6"), looks := true }, kinds := [], alts := [], laidByText := true, laidKinds := [.data, .data, .data, .data, .sentinel, .sentinel, .pinned, .pinned], laidTests := true, laidLooks := .later }
def FnBracedCardSaid : Prop := Claim7.holds Tryz.pinned (.plain (OpenSpec.ofChange fnBracedSpec)) fnBracedCard

/-- THE TIED CARD OF 'laws.FnBracedNormal'. -/
def fnBracedNormalCard : Claim7 := { stood := { row := fnBracedNormalRow, standIns := [], harness := (true, "da230f5219554a1511bbdc271c53321c0486b0d55cdc85ea3724369e990ac6e6"), looks := true }, kinds := [], alts := [], laidByText := true, laidKinds := [.data, .data, .data, .data, .sentinel, .sentinel, .pinned, .pinned], laidTests := true, laidLooks := .later }
def FnBracedNormalCardSaid : Prop := Claim7.holds Tryz.pinned (.plain (OpenSpec.ofChange fnBracedNormalSpec)) fnBracedNormalCard

/-- THE TIED CARD OF 'laws.FnOrder'. -/
def fnOrderCard : Claim7 := { stood := { row := fnOrderRow, standIns := [], harness := (true, "da230f5219554a1511bbdc271c53321c0486b0d55cdc85ea3724369e990ac6e6"), looks := true }, kinds := [], alts := [], laidByText := true, laidKinds := [.data, .data, .data, .data, .sentinel, .sentinel, .pinned, .pinned], laidTests := true, laidLooks := .later }
def FnOrderCardSaid : Prop := Claim7.holds Tryz.pinned (.plain (OpenSpec.ofChange fnOrderSpec)) fnOrderCard

/-- THE SECOND FORM's CARD OF 'laws.FnExactBracedOk'. -/
def fnExactBracedOkUptoCard : Claim7 := { stood := { row := fnExactBracedOkUptoRow, standIns := [], harness := (true, "da230f5219554a1511bbdc271c53321c0486b0d55cdc85ea3724369e990ac6e6"), looks := true }, kinds := [], alts := [], laidByText := true, laidKinds := [.data, .data, .data, .data, .sentinel, .sentinel, .pinned, .pinned], laidTests := true, laidLooks := .later }
def FnExactBracedOkUptoCardSaid : Prop := Claim7.holds Tryz.pinned (.plain (OpenSpec.upto fnExactBracedOkSpec)) fnExactBracedOkUptoCard

/-- THE SECOND FORM's CARD OF 'laws.FnExactBracedSame'. -/
def fnExactBracedSameUptoCard : Claim7 := { stood := { row := fnExactBracedSameUptoRow, standIns := [], harness := (true, "da230f5219554a1511bbdc271c53321c0486b0d55cdc85ea3724369e990ac6e6"), looks := true }, kinds := [], alts := [], laidByText := true, laidKinds := [.data, .data, .data, .data, .sentinel, .sentinel, .pinned, .pinned], laidTests := true, laidLooks := .later }
def FnExactBracedSameUptoCardSaid : Prop := Claim7.holds Tryz.pinned (.plain (OpenSpec.upto fnExactBracedSameSpec)) fnExactBracedSameUptoCard

/-- THE SECOND FORM's CARD OF 'laws.FnExactReadBraced'. -/
def fnExactReadBracedUptoCard : Claim7 := { stood := { row := fnExactReadBracedUptoRow, standIns := [], harness := (true, "da230f5219554a1511bbdc271c53321c0486b0d55cdc85ea3724369e990ac6e6"), looks := true }, kinds := [], alts := [], laidByText := true, laidKinds := [.data, .data, .data, .data, .sentinel, .sentinel, .pinned, .pinned], laidTests := true, laidLooks := .later }
def FnExactReadBracedUptoCardSaid : Prop := Claim7.holds Tryz.pinned (.plain (OpenSpec.upto fnExactReadBracedSpec)) fnExactReadBracedUptoCard

/-- THE SECOND FORM's CARD OF 'laws.FnExactBracedNormal'. -/
def fnExactBracedNormalUptoCard : Claim7 := { stood := { row := fnExactBracedNormalUptoRow, standIns := [], harness := (true, "da230f5219554a1511bbdc271c53321c0486b0d55cdc85ea3724369e990ac6e6"), looks := true }, kinds := [], alts := [], laidByText := true, laidKinds := [.data, .data, .data, .data, .sentinel, .sentinel, .pinned, .pinned], laidTests := true, laidLooks := .later }
def FnExactBracedNormalUptoCardSaid : Prop := Claim7.holds Tryz.pinned (.plain (OpenSpec.upto fnExactBracedNormalSpec)) fnExactBracedNormalUptoCard

/-- THE SECOND FORM's CARD OF 'laws.FnBraced'. -/
def fnBracedUptoCard : Claim7 := { stood := { row := fnBracedUptoRow, standIns := [], harness := (true, "da230f5219554a1511bbdc271c53321c0486b0d55cdc85ea3724369e990ac6e6"), looks := true }, kinds := [], alts := [], laidByText := true, laidKinds := [.data, .data, .data, .data, .sentinel, .sentinel, .pinned, .pinned], laidTests := true, laidLooks := .later }
def FnBracedUptoCardSaid : Prop := Claim7.holds Tryz.pinned (.plain (OpenSpec.upto fnBracedSpec)) fnBracedUptoCard

/-- THE SECOND FORM's CARD OF 'laws.FnBracedNormal'. -/
def fnBracedNormalUptoCard : Claim7 := { stood := { row := fnBracedNormalUptoRow, standIns := [], harness := (true, "da230f5219554a1511bbdc271c53321c0486b0d55cdc85ea3724369e990ac6e6"), looks := true }, kinds := [], alts := [], laidByText := true, laidKinds := [.data, .data, .data, .data, .sentinel, .sentinel, .pinned, .pinned], laidTests := true, laidLooks := .later }
def FnBracedNormalUptoCardSaid : Prop := Claim7.holds Tryz.pinned (.plain (OpenSpec.upto fnBracedNormalSpec)) fnBracedNormalUptoCard

/-- THE SECOND FORM's CARD OF 'laws.FnOrder'. -/
def fnOrderUptoCard : Claim7 := { stood := { row := fnOrderUptoRow, standIns := [], harness := (true, "da230f5219554a1511bbdc271c53321c0486b0d55cdc85ea3724369e990ac6e6"), looks := true }, kinds := [], alts := [], laidByText := true, laidKinds := [.data, .data, .data, .data, .sentinel, .sentinel, .pinned, .pinned], laidTests := true, laidLooks := .later }
def FnOrderUptoCardSaid : Prop := Claim7.holds Tryz.pinned (.plain (OpenSpec.upto fnOrderSpec)) fnOrderUptoCard
end Rows
end Go.Proofs.YtffelpdefjkeaaaGreatDoor
