/-
  DERIVED. GIVEN WITH THE SEED: THE CARDS: each row of YtiemmlldjjldkaaDoorRows.lean that lists a variable, with what it lists TIED to the program's text (the seventh form; the later family's looks); each row that meets fmt, with fmt's text TOLD by the authors' own Lean function (tested against real Go, not proved from fmt's source: count such statements apart). THE CARD IS WHAT COUNTS. Prove the row's statement (the work); the ties are given (YtiemmlldjjldkaaDoorTie.lean); close each card by the builder's one call (the guide's Derived/Test/ToyasCard.lean, 'card_holds'). Laid BY PROGRAM, IN A SANDBOX (cutbox-door.mjs). By AI agents, Wed Nov 11 2026. No macro, syntax, notation, axiom, sorry.
-/
import Derived.Test.YtiemmlldjjldkaaDoorRows
import GoSem.ClaimSeven
namespace Go.Proofs.YtiemmlldjjldkaaDoor
namespace Rows

/-- THE TIED CARD OF 'laws.FnExactSameClient'. -/
def fnExactSameClientCard : Claim7 := { stood := { row := fnExactSameClientRow, standIns := [], harness := (true, "87072fbd81c16613b03145595d6061b6a472e680af05275a6e7e87260e95adeb"), looks := false }, kinds := [], alts := [], laidByText := true, laidKinds := [.data, .data], laidTests := true, laidLooks := .later }
def FnExactSameClientCardSaid : Prop := Claim7.holds Tryd.pinned (.plain (OpenSpec.ofChange fnExactSameClientSpec)) fnExactSameClientCard

/-- THE SECOND FORM's CARD OF 'laws.FnExactSameClient'. -/
def fnExactSameClientUptoCard : Claim7 := { stood := { row := fnExactSameClientUptoRow, standIns := [], harness := (true, "87072fbd81c16613b03145595d6061b6a472e680af05275a6e7e87260e95adeb"), looks := false }, kinds := [], alts := [], laidByText := true, laidKinds := [.data, .data], laidTests := true, laidLooks := .later }
def FnExactSameClientUptoCardSaid : Prop := Claim7.holds Tryd.pinned (.plain (OpenSpec.upto fnExactSameClientSpec)) fnExactSameClientUptoCard
end Rows
end Go.Proofs.YtiemmlldjjldkaaDoor
