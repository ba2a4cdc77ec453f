/-
  DERIVED. GIVEN WITH THE SEED: THE CARDS: each row of YteecgklmdfockaaGreatDoorRows.lean that lists a variable, with what it lists TIED to the program's text (the seventh form; the later family's looks); each row that meets fmt, with fmt's text TOLD by the authors' own Lean function (tested against real Go, not proved from fmt's source: count such statements apart). THE CARD IS WHAT COUNTS. Prove the row's statement (the work); the ties are given (YteecgklmdfockaaGreatDoorTie.lean); close each card by the builder's one call (the guide's Derived/Test/ToyasCard.lean, 'card_holds'). Laid BY PROGRAM, IN A SANDBOX (cutbox-door.mjs). By AI agents, Wed Nov 11 2026. No macro, syntax, notation, axiom, sorry.
-/
import Derived.Test.YteecgklmdfockaaGreatDoorRows
import GoSem.ClaimSeven
namespace Go.Proofs.YteecgklmdfockaaGreatDoor
namespace Rows

/-- THE TIED CARD OF 'laws.FnExactHostTree'. -/
def fnExactHostTreeCard : Claim7 := { stood := { row := fnExactHostTreeRow, standIns := [], harness := (true, "53abd366873c9ba67859e7db047ab83392e51a7ac2e8770c838dda2c2af08a60"), looks := false }, kinds := [], alts := [], laidByText := true, laidKinds := [.data, .data, .data], laidTests := true, laidLooks := .later }
def FnExactHostTreeCardSaid : Prop := Claim7.holds Tryz.pinned (.plain (OpenSpec.ofChange fnExactHostTreeSpec)) fnExactHostTreeCard

/-- THE TIED CARD OF 'laws.FnExactPodTree'. -/
def fnExactPodTreeCard : Claim7 := { stood := { row := fnExactPodTreeRow, standIns := [], harness := (true, "53abd366873c9ba67859e7db047ab83392e51a7ac2e8770c838dda2c2af08a60"), looks := false }, kinds := [], alts := [], laidByText := true, laidKinds := [.data, .data, .data], laidTests := true, laidLooks := .later }
def FnExactPodTreeCardSaid : Prop := Claim7.holds Tryz.pinned (.plain (OpenSpec.ofChange fnExactPodTreeSpec)) fnExactPodTreeCard

/-- THE SECOND FORM's CARD OF 'laws.FnExactHostTree'. -/
def fnExactHostTreeUptoCard : Claim7 := { stood := { row := fnExactHostTreeUptoRow, standIns := [], harness := (true, "53abd366873c9ba67859e7db047ab83392e51a7ac2e8770c838dda2c2af08a60"), looks := false }, kinds := [], alts := [], laidByText := true, laidKinds := [.data, .data, .data], laidTests := true, laidLooks := .later }
def FnExactHostTreeUptoCardSaid : Prop := Claim7.holds Tryz.pinned (.plain (OpenSpec.upto fnExactHostTreeSpec)) fnExactHostTreeUptoCard

/-- THE SECOND FORM's CARD OF 'laws.FnExactPodTree'. -/
def fnExactPodTreeUptoCard : Claim7 := { stood := { row := fnExactPodTreeUptoRow, standIns := [], harness := (true, "53abd366873c9ba67859e7db047ab83392e51a7ac2e8770c838dda2c2af08a60"), looks := false }, kinds := [], alts := [], laidByText := true, laidKinds := [.data, .data, .data], laidTests := true, laidLooks := .later }
def FnExactPodTreeUptoCardSaid : Prop := Claim7.holds Tryz.pinned (.plain (OpenSpec.upto fnExactPodTreeSpec)) fnExactPodTreeUptoCard
end Rows
end Go.Proofs.YteecgklmdfockaaGreatDoor
