/-
  DERIVED. GIVEN WITH THE SEED: THE CARDS: each row of YtiemmlldjjldkaaGreatDoorRows.lean that lists a variable, with what it lists TIED to the program's text (the seventh form; the later family's looks); each row that meets fmt, with fmt's text TOLD by the authors' own Lean function (tested against real Go, not proved from fmt's source: count such statements apart). THE CARD IS WHAT COUNTS. Prove the row's statement (the work); the ties are given (YtiemmlldjjldkaaGreatDoorTie.lean); close each card by the builder's one call (the guide's Derived/Test/ToyasCard.lean, 'card_holds'). Laid BY PROGRAM, IN A SANDBOX (cutbox-door.mjs). By AI agents, Wed Nov 11 2026. No macro, syntax, notation, axiom, sorry.
-/
import Derived.Test.YtiemmlldjjldkaaGreatDoorRows
import GoSem.ClaimSeven
namespace Go.Proofs.YtiemmlldjjldkaaGreatDoor
namespace Rows

/-- THE TIED CARD OF 'laws.FnExactCheckUpdate'. -/
def fnExactCheckUpdateCard : Claim7 := { stood := { row := fnExactCheckUpdateRow, standIns := [], harness := (true, "213df4c9dd9c946b7ac0acd4796566844e5095a75407eccbfae0bf63f6969053"), looks := false }, kinds := [], alts := [], laidByText := true, laidKinds := [.data, .data], laidTests := true, laidLooks := .later }
def FnExactCheckUpdateCardSaid : Prop := Claim7.holds Tryz.pinned (.plain (OpenSpec.ofChange fnExactCheckUpdateSpec)) fnExactCheckUpdateCard

/-- THE TIED CARD OF 'laws.FnExactTakeUpdate'. -/
def fnExactTakeUpdateCard : Claim7 := { stood := { row := fnExactTakeUpdateRow, standIns := [], harness := (true, "213df4c9dd9c946b7ac0acd4796566844e5095a75407eccbfae0bf63f6969053"), looks := false }, kinds := [], alts := [], laidByText := true, laidKinds := [.data, .data], laidTests := true, laidLooks := .later }
def FnExactTakeUpdateCardSaid : Prop := Claim7.holds Tryz.pinned (.plain (OpenSpec.ofChange fnExactTakeUpdateSpec)) fnExactTakeUpdateCard

/-- THE SECOND FORM's CARD OF 'laws.FnExactCheckUpdate'. -/
def fnExactCheckUpdateUptoCard : Claim7 := { stood := { row := fnExactCheckUpdateUptoRow, standIns := [], harness := (true, "213df4c9dd9c946b7ac0acd4796566844e5095a75407eccbfae0bf63f6969053"), looks := false }, kinds := [], alts := [], laidByText := true, laidKinds := [.data, .data], laidTests := true, laidLooks := .later }
def FnExactCheckUpdateUptoCardSaid : Prop := Claim7.holds Tryz.pinned (.plain (OpenSpec.upto fnExactCheckUpdateSpec)) fnExactCheckUpdateUptoCard

/-- THE SECOND FORM's CARD OF 'laws.FnExactTakeUpdate'. -/
def fnExactTakeUpdateUptoCard : Claim7 := { stood := { row := fnExactTakeUpdateUptoRow, standIns := [], harness := (true, "213df4c9dd9c946b7ac0acd4796566844e5095a75407eccbfae0bf63f6969053"), looks := false }, kinds := [], alts := [], laidByText := true, laidKinds := [.data, .data], laidTests := true, laidLooks := .later }
def FnExactTakeUpdateUptoCardSaid : Prop := Claim7.holds Tryz.pinned (.plain (OpenSpec.upto fnExactTakeUpdateSpec)) fnExactTakeUpdateUptoCard
end Rows
end Go.Proofs.YtiemmlldjjldkaaGreatDoor
