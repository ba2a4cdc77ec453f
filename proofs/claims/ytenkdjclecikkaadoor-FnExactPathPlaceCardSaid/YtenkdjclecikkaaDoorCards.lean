/-
  DERIVED. GIVEN WITH THE SEED: THE CARDS: each row of YtenkdjclecikkaaDoorRows.lean that lists a variable, with what it lists TIED to the program's text (the seventh form; the later family's looks); each row that meets fmt, with fmt's text TOLD by the authors' own Lean function (tested against real Go, not proved from fmt's source: count such statements apart). THE CARD IS WHAT COUNTS. Prove the row's statement (the work); the ties are given (YtenkdjclecikkaaDoorTie.lean); close each card by the builder's one call (the guide's Derived/Test/ToyasCard.lean, 'card_holds'). Laid BY PROGRAM, IN A SANDBOX (cutbox-door.mjs). By AI agents, Wed Nov 11 2026. No macro, syntax, notation, axiom, sorry.
-/
import Derived.Test.YtenkdjclecikkaaDoorRows
import GoSem.ClaimSeven
namespace Go.Proofs.YtenkdjclecikkaaDoor
namespace Rows

/-- THE TIED CARD OF 'laws.FnExactPathPlace'. -/
def fnExactPathPlaceCard : Claim7 := { stood := { row := fnExactPathPlaceRow, standIns := [], harness := (true, "b9c61068a5bba921660b0ba851c22e6dae4c329067135e33ab799eeac122f4e3"), looks := true }, kinds := [], alts := [], laidByText := true, laidKinds := [.data, .data, .data], laidTests := true, laidLooks := .later }
def FnExactPathPlaceCardSaid : Prop := Claim7.holds Tryd.pinned (.plain (OpenSpec.ofChange fnExactPathPlaceSpec)) fnExactPathPlaceCard

/-- THE TIED CARD OF 'laws.FnExactAmountField'. -/
def fnExactAmountFieldCard : Claim7 := { stood := { row := fnExactAmountFieldRow, standIns := [], harness := (true, "b9c61068a5bba921660b0ba851c22e6dae4c329067135e33ab799eeac122f4e3"), looks := true }, kinds := [], alts := [], laidByText := true, laidKinds := [.data, .data, .data, .sentinel, .sentinel], laidTests := true, laidLooks := .later }
def FnExactAmountFieldCardSaid : Prop := Claim7.holds Tryd.pinned (.plain (OpenSpec.ofChange fnExactAmountFieldSpec)) fnExactAmountFieldCard

/-- THE SECOND FORM's CARD OF 'laws.FnExactPathPlace'. -/
def fnExactPathPlaceUptoCard : Claim7 := { stood := { row := fnExactPathPlaceUptoRow, standIns := [], harness := (true, "b9c61068a5bba921660b0ba851c22e6dae4c329067135e33ab799eeac122f4e3"), looks := true }, kinds := [], alts := [], laidByText := true, laidKinds := [.data, .data, .data], laidTests := true, laidLooks := .later }
def FnExactPathPlaceUptoCardSaid : Prop := Claim7.holds Tryd.pinned (.plain (OpenSpec.upto fnExactPathPlaceSpec)) fnExactPathPlaceUptoCard

/-- THE SECOND FORM's CARD OF 'laws.FnExactAmountField'. -/
def fnExactAmountFieldUptoCard : Claim7 := { stood := { row := fnExactAmountFieldUptoRow, standIns := [], harness := (true, "b9c61068a5bba921660b0ba851c22e6dae4c329067135e33ab799eeac122f4e3"), looks := true }, kinds := [], alts := [], laidByText := true, laidKinds := [.data, .data, .data, .sentinel, .sentinel], laidTests := true, laidLooks := .later }
def FnExactAmountFieldUptoCardSaid : Prop := Claim7.holds Tryd.pinned (.plain (OpenSpec.upto fnExactAmountFieldSpec)) fnExactAmountFieldUptoCard
end Rows
end Go.Proofs.YtenkdjclecikkaaDoor
