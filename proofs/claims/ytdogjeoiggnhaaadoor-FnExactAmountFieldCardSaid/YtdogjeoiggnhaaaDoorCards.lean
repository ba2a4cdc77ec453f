/-
  DERIVED. GIVEN WITH THE SEED: THE CARDS: each row of YtdogjeoiggnhaaaDoorRows.lean that lists a variable, with what it lists TIED to the program's text (the seventh form; the later family's looks); each row that meets fmt, with fmt's text TOLD by the authors' own Lean function (tested against real Go, not proved from fmt's source: count such statements apart). THE CARD IS WHAT COUNTS. Prove the row's statement (the work); the ties are given (YtdogjeoiggnhaaaDoorTie.lean); close each card by the builder's one call (the guide's Derived/Test/ToyasCard.lean, 'card_holds'). Laid BY PROGRAM, IN A SANDBOX (cutbox-door.mjs). By AI agents, Wed Nov 11 2026. No macro, syntax, notation, axiom, sorry.
-/
import Derived.Test.YtdogjeoiggnhaaaDoorRows
import GoSem.ClaimSeven
namespace Go.Proofs.YtdogjeoiggnhaaaDoor
namespace Rows

/-- THE TIED CARD OF 'laws.FnExactAmountField'. -/
def fnExactAmountFieldCard : Claim7 := { stood := { row := fnExactAmountFieldRow, standIns := [], harness := (true, "5ac4d55283a793f0e8d22b30ece311b25aa7f6993ae6f16d83c704c7883606dd"), looks := true }, kinds := [], alts := [], laidByText := true, laidKinds := [.data, .data, .data, .sentinel, .sentinel], laidTests := true, laidLooks := .later }
def FnExactAmountFieldCardSaid : Prop := Claim7.holds Tryd.pinned (.plain (OpenSpec.ofChange fnExactAmountFieldSpec)) fnExactAmountFieldCard

/-- THE SECOND FORM's CARD OF 'laws.FnExactAmountField'. -/
def fnExactAmountFieldUptoCard : Claim7 := { stood := { row := fnExactAmountFieldUptoRow, standIns := [], harness := (true, "5ac4d55283a793f0e8d22b30ece311b25aa7f6993ae6f16d83c704c7883606dd"), looks := true }, kinds := [], alts := [], laidByText := true, laidKinds := [.data, .data, .data, .sentinel, .sentinel], laidTests := true, laidLooks := .later }
def FnExactAmountFieldUptoCardSaid : Prop := Claim7.holds Tryd.pinned (.plain (OpenSpec.upto fnExactAmountFieldSpec)) fnExactAmountFieldUptoCard
end Rows
end Go.Proofs.YtdogjeoiggnhaaaDoor
