/-
  DERIVED. GIVEN WITH THE SEED: THE CARDS: each row of YtnonhgehbiejaaaDoorRows.lean that lists a variable, with what it lists TIED to the program's text (the seventh form; the later family's looks); each row that meets fmt, with fmt's text TOLD by the authors' own Lean function (tested against real Go, not proved from fmt's source: count such statements apart). THE CARD IS WHAT COUNTS. Prove the row's statement (the work); the ties are given (YtnonhgehbiejaaaDoorTie.lean); close each card by the builder's one call (the guide's Derived/Test/ToyasCard.lean, 'card_holds'). Laid BY PROGRAM, IN A SANDBOX (cutbox-door.mjs). By AI agents, Wed Nov 11 2026. No macro, syntax, notation, axiom, sorry.
-/
import Derived.Test.YtnonhgehbiejaaaDoorRows
import GoSem.ClaimSeven
namespace Go.Proofs.YtnonhgehbiejaaaDoor
namespace Rows

/-- THE TIED CARD OF 'laws.FnExactEmptyRoot'. -/
def fnExactEmptyRootCard : Claim7 := { stood := { row := fnExactEmptyRootRow, standIns := [], harness := (true, "e8dfcb0d34ebe0e3d5d92498c72a23ddc89ea8ff269341199afea37348741866"), looks := false }, kinds := [], alts := [], laidByText := true, laidKinds := [.data, .data], laidTests := true, laidLooks := .later }
def FnExactEmptyRootCardSaid : Prop := Claim7.holds Tryd.pinned (.plain (OpenSpec.ofChange fnExactEmptyRootSpec)) fnExactEmptyRootCard

/-- THE SECOND FORM's CARD OF 'laws.FnExactEmptyRoot'. -/
def fnExactEmptyRootUptoCard : Claim7 := { stood := { row := fnExactEmptyRootUptoRow, standIns := [], harness := (true, "e8dfcb0d34ebe0e3d5d92498c72a23ddc89ea8ff269341199afea37348741866"), looks := false }, kinds := [], alts := [], laidByText := true, laidKinds := [.data, .data], laidTests := true, laidLooks := .later }
def FnExactEmptyRootUptoCardSaid : Prop := Claim7.holds Tryd.pinned (.plain (OpenSpec.upto fnExactEmptyRootSpec)) fnExactEmptyRootUptoCard
end Rows
end Go.Proofs.YtnonhgehbiejaaaDoor
