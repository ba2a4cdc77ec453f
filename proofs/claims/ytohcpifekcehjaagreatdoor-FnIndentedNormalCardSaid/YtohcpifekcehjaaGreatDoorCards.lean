/-
  DERIVED. GIVEN WITH THE SEED: THE CARDS: each row of YtohcpifekcehjaaGreatDoorRows.lean that lists a variable, with what it lists TIED to the program's text (the seventh form; the later family's looks); each row that meets fmt, with fmt's text TOLD by the authors' own Lean function (tested against real Go, not proved from fmt's source: count such statements apart). THE CARD IS WHAT COUNTS. Prove the row's statement (the work); the ties are given (YtohcpifekcehjaaGreatDoorTie.lean); close each card by the builder's one call (the guide's Derived/Test/ToyasCard.lean, 'card_holds'). Laid BY PROGRAM, IN A SANDBOX (cutbox-door.mjs). By AI agents, Wed Nov 11 2026. No macro, syntax, notation, axiom, sorry.
-/
import Derived.Test.YtohcpifekcehjaaGreatDoorRows
import GoSem.ClaimSeven
namespace Go.Proofs.YtohcpifekcehjaaGreatDoor
namespace Rows

/-- THE TIED CARD OF 'laws.FnExactCrossed'. -/
def fnExactCrossedCard : Claim7 := { stood := { row := fnExactCrossedRow, standIns := [], harness := (true, "8ddcca64aa8f9d29cfc895a6f56b61cce61d55f71dfb5a7258c1c2621c7c03c5"), looks := true }, kinds := [], alts := [], laidByText := true, laidKinds := [.data, .data, .data, .data, .sentinel, .sentinel, .pinned, .pinned], laidTests := true, laidLooks := .later }
def FnExactCrossedCardSaid : Prop := Claim7.holds Tryz.pinned (.plain (OpenSpec.ofChange fnExactCrossedSpec)) fnExactCrossedCard

/-- THE TIED CARD OF 'laws.FnExactIndentedNormal'. -/
def fnExactIndentedNormalCard : Claim7 := { stood := { row := fnExactIndentedNormalRow, standIns := [], harness := (true, "8ddcca64aa8f9d29cfc895a6f56b61cce61d55f71dfb5a7258c1c2621c7c03c5"), looks := true }, kinds := [], alts := [], laidByText := true, laidKinds := [.data, .data, .data, .data, .sentinel, .sentinel, .pinned, .pinned], laidTests := true, laidLooks := .later }
def FnExactIndentedNormalCardSaid : Prop := Claim7.holds Tryz.pinned (.plain (OpenSpec.ofChange fnExactIndentedNormalSpec)) fnExactIndentedNormalCard

/-- THE TIED CARD OF 'laws.FnIndentedNormal'. -/
def fnIndentedNormalCard : Claim7 := { stood := { row := fnIndentedNormalRow, standIns := [], harness := (true, "8ddcca64aa8f9d29cfc895a6f56b61cce61d55f71dfb5a7258c1c2621c7c03c5"), looks := true }, kinds := [], alts := [], laidByText := true, laidKinds := [.data, .data, .data, .data, .sentinel, .sentinel, .pinned, .pinned], laidTests := true, laidLooks := .later }
def FnIndentedNormalCardSaid : Prop := Claim7.holds Tryz.pinned (.plain (OpenSpec.ofChange fnIndentedNormalSpec)) fnIndentedNormalCard

/-- THE TIED CARD OF 'laws.FnFields'. -/
def fnFieldsCard : Claim7 := { stood := { row := fnFieldsRow, standIns := [], harness := (true, "8ddcca64aa8f9d29cfc895a6f56b61cce61d55f71dfb5a7258c1c2621c7c03c5"), looks := true }, kinds := [], alts := [], laidByText := true, laidKinds := [.data, .data, .data, .sentinel, .sentinel], laidTests := true, laidLooks := .later }
def FnFieldsCardSaid : Prop := Claim7.holds Tryz.pinned (.plain (OpenSpec.ofChange fnFieldsSpec)) fnFieldsCard

/-- THE TIED CARD OF 'laws.FnBracedNormal'. -/
def fnBracedNormalCard : Claim7 := { stood := { row := fnBracedNormalRow, standIns := [], harness := (true, "8ddcca64aa8f9d29cfc895a6f56b61cce61d55f71dfb5a7258c1c2621c7c03c5"), looks := true }, kinds := [], alts := [], laidByText := true, laidKinds := [.data, .data, .data, .data, .sentinel, .sentinel, .pinned, .pinned], laidTests := true, laidLooks := .later }
def FnBracedNormalCardSaid : Prop := Claim7.holds Tryz.pinned (.plain (OpenSpec.ofChange fnBracedNormalSpec)) fnBracedNormalCard

/-- THE TIED CARD OF 'laws.FnExactIndentedOk'. -/
def fnExactIndentedOkCard : Claim7 := { stood := { row := fnExactIndentedOkRow, standIns := [], harness := (true, "8ddcca64aa8f9d29cfc895a6f56b61cce61d55f71dfb5a7258c1c2621c7c03c5"), looks := true }, kinds := [], alts := [], laidByText := true, laidKinds := [.data, .data, .data, .data, .sentinel, .sentinel, .pinned, .pinned], laidTests := true, laidLooks := .later }
def FnExactIndentedOkCardSaid : Prop := Claim7.holds Tryz.pinned (.plain (OpenSpec.ofChange fnExactIndentedOkSpec)) fnExactIndentedOkCard

/-- THE TIED CARD OF 'laws.FnIndented'. -/
def fnIndentedCard : Claim7 := { stood := { row := fnIndentedRow, standIns := [], harness := (true, "8ddcca64aa8f9d29cfc895a6f56b61cce61d55f71dfb5a7258c1c2621c7c03c5"), looks := true }, kinds := [], alts := [], laidByText := true, laidKinds := [.data, .data, .data, .data, .sentinel, .sentinel, .pinned, .pinned], laidTests := true, laidLooks := .later }
def FnIndentedCardSaid : Prop := Claim7.holds Tryz.pinned (.plain (OpenSpec.ofChange fnIndentedSpec)) fnIndentedCard

/-- THE TIED CARD OF 'laws.FnCrossed'. -/
def fnCrossedCard : Claim7 := { stood := { row := fnCrossedRow, standIns := [], harness := (true, "8ddcca64aa8f9d29cfc895a6f56b61cce61d55f71dfb5a7258c1c2621c7c03c5"), looks := true }, kinds := [], alts := [], laidByText := true, laidKinds := [.data, .data, .data, .data, .sentinel, .sentinel, .pinned, .pinned], laidTests := true, laidLooks := .later }
def FnCrossedCardSaid : Prop := Claim7.holds Tryz.pinned (.plain (OpenSpec.ofChange fnCrossedSpec)) fnCrossedCard

/-- THE SECOND FORM's CARD OF 'laws.FnExactCrossed'. -/
def fnExactCrossedUptoCard : Claim7 := { stood := { row := fnExactCrossedUptoRow, standIns := [], harness := (true, "8ddcca64aa8f9d29cfc895a6f56b61cce61d55f71dfb5a7258c1c2621c7c03c5"), looks := true }, kinds := [], alts := [], laidByText := true, laidKinds := [.data, .data, .data, .data, .sentinel, .sentinel, .pinned, .pinned], laidTests := true, laidLooks := .later }
def FnExactCrossedUptoCardSaid : Prop := Claim7.holds Tryz.pinned (.plain (OpenSpec.upto fnExactCrossedSpec)) fnExactCrossedUptoCard

/-- THE SECOND FORM's CARD OF 'laws.FnExactIndentedNormal'. -/
def fnExactIndentedNormalUptoCard : Claim7 := { stood := { row := fnExactIndentedNormalUptoRow, standIns := [], harness := (true, "8ddcca64aa8f9d29cfc895a6f56b61cce61d55f71dfb5a7258c1c2621c7c03c5"), looks := true }, kinds := [], alts := [], laidByText := true, laidKinds := [.data, .data, .data, .data, .sentinel, .sentinel, .pinned, .pinned], laidTests := true, laidLooks := .later }
def FnExactIndentedNormalUptoCardSaid : Prop := Claim7.holds Tryz.pinned (.plain (OpenSpec.upto fnExactIndentedNormalSpec)) fnExactIndentedNormalUptoCard

/-- THE SECOND FORM's CARD OF 'laws.FnIndentedNormal'. -/
def fnIndentedNormalUptoCard : Claim7 := { stood := { row := fnIndentedNormalUptoRow, standIns := [], harness := (true, "8ddcca64aa8f9d29cfc895a6f56b61cce61d55f71dfb5a7258c1c2621c7c03c5"), looks := true }, kinds := [], alts := [], laidByText := true, laidKinds := [.data, .data, .data, .data, .sentinel, .sentinel, .pinned, .pinned], laidTests := true, laidLooks := .later }
def FnIndentedNormalUptoCardSaid : Prop := Claim7.holds Tryz.pinned (.plain (OpenSpec.upto fnIndentedNormalSpec)) fnIndentedNormalUptoCard

/-- THE SECOND FORM's CARD OF 'laws.FnFields'. -/
def fnFieldsUptoCard : Claim7 := { stood := { row := fnFieldsUptoRow, standIns := [], harness := (true, "8ddcca64aa8f9d29cfc895a6f56b61cce61d55f71dfb5a7258c1c2621c7c03c5"), looks := true }, kinds := [], alts := [], laidByText := true, laidKinds := [.data, .data, .data, .sentinel, .sentinel], laidTests := true, laidLooks := .later }
def FnFieldsUptoCardSaid : Prop := Claim7.holds Tryz.pinned (.plain (OpenSpec.upto fnFieldsSpec)) fnFieldsUptoCard

/-- THE SECOND FORM's CARD OF 'laws.FnBracedNormal'. -/
def fnBracedNormalUptoCard : Claim7 := { stood := { row := fnBracedNormalUptoRow, standIns := [], harness := (true, "8ddcca64aa8f9d29cfc895a6f56b61cce61d55f71dfb5a7258c1c2621c7c03c5"), looks := true }, kinds := [], alts := [], laidByText := true, laidKinds := [.data, .data, .data, .data, .sentinel, .sentinel, .pinned, .pinned], laidTests := true, laidLooks := .later }
def FnBracedNormalUptoCardSaid : Prop := Claim7.holds Tryz.pinned (.plain (OpenSpec.upto fnBracedNormalSpec)) fnBracedNormalUptoCard

/-- THE SECOND FORM's CARD OF 'laws.FnExactIndentedOk'. -/
def fnExactIndentedOkUptoCard : Claim7 := { stood := { row := fnExactIndentedOkUptoRow, standIns := [], harness := (true, "8ddcca64aa8f9d29cfc895a6f56b61cce61d55f71dfb5a7258c1c2621c7c03c5"), looks := true }, kinds := [], alts := [], laidByText := true, laidKinds := [.data, .data, .data, .data, .sentinel, .sentinel, .pinned, .pinned], laidTests := true, laidLooks := .later }
def FnExactIndentedOkUptoCardSaid : Prop := Claim7.holds Tryz.pinned (.plain (OpenSpec.upto fnExactIndentedOkSpec)) fnExactIndentedOkUptoCard

/-- THE SECOND FORM's CARD OF 'laws.FnIndented'. -/
def fnIndentedUptoCard : Claim7 := { stood := { row := fnIndentedUptoRow, standIns := [], harness := (true, "8ddcca64aa8f9d29cfc895a6f56b61cce61d55f71dfb5a7258c1c2621c7c03c5"), looks := true }, kinds := [], alts := [], laidByText := true, laidKinds := [.data, .data, .data, .data, .sentinel, .sentinel, .pinned, .pinned], laidTests := true, laidLooks := .later }
def FnIndentedUptoCardSaid : Prop := Claim7.holds Tryz.pinned (.plain (OpenSpec.upto fnIndentedSpec)) fnIndentedUptoCard

/-- THE SECOND FORM's CARD OF 'laws.FnCrossed'. -/
def fnCrossedUptoCard : Claim7 := { stood := { row := fnCrossedUptoRow, standIns := [], harness := (true, "8ddcca64aa8f9d29cfc895a6f56b61cce61d55f71dfb5a7258c1c2621c7c03c5"), looks := true }, kinds := [], alts := [], laidByText := true, laidKinds := [.data, .data, .data, .data, .sentinel, .sentinel, .pinned, .pinned], laidTests := true, laidLooks := .later }
def FnCrossedUptoCardSaid : Prop := Claim7.holds Tryz.pinned (.plain (OpenSpec.upto fnCrossedSpec)) fnCrossedUptoCard
end Rows
end Go.Proofs.YtohcpifekcehjaaGreatDoor
