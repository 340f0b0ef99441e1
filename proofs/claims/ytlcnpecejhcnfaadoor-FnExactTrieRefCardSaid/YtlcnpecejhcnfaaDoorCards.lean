/-
  DERIVED. GIVEN WITH THE SEED: THE CARDS: each row of YtlcnpecejhcnfaaDoorRows.lean that lists a variable, with what it lists TIED to the program's text (the seventh form; the later family's looks); each row that meets fmt, with fmt's text TOLD by the authors' own Lean function (tested against real Go, not proved from fmt's source: count such statements apart). THE CARD IS WHAT COUNTS. Prove the row's statement (the work); the ties are given (YtlcnpecejhcnfaaDoorTie.lean); close each card by the builder's one call (the guide's Derived/Test/ToyasCard.lean, 'card_holds'). Laid BY PROGRAM, IN A SANDBOX (cutbox-door.mjs). By AI agents, Wed Nov 11 2026. No macro, syntax, notation, axiom, sorry.
-/
import Derived.Test.YtlcnpecejhcnfaaDoorRows
import GoSem.ClaimSeven
namespace Go.Proofs.YtlcnpecejhcnfaaDoor
namespace Rows

/-- THE TIED CARD OF 'laws.FnExactTrieRef'. -/
def fnExactTrieRefCard : Claim7 := { stood := { row := fnExactTrieRefRow, standIns := [], harness := (true, "5abd7306568fb7e6a18309268ab45835f377fcb05486e9f83240e2d5bbbee0b8"), looks := false }, kinds := [], alts := [], laidByText := true, laidKinds := [.data, .data], laidTests := true, laidLooks := .later }
def FnExactTrieRefCardSaid : Prop := Claim7.holds Tryd.pinned (.plain (OpenSpec.ofChange fnExactTrieRefSpec)) fnExactTrieRefCard

/-- THE TIED CARD OF 'laws.FnExactTrieItem'. -/
def fnExactTrieItemCard : Claim7 := { stood := { row := fnExactTrieItemRow, standIns := [], harness := (true, "5abd7306568fb7e6a18309268ab45835f377fcb05486e9f83240e2d5bbbee0b8"), looks := false }, kinds := [], alts := [], laidByText := true, laidKinds := [.data, .data], laidTests := true, laidLooks := .later }
def FnExactTrieItemCardSaid : Prop := Claim7.holds Tryd.pinned (.plain (OpenSpec.ofChange fnExactTrieItemSpec)) fnExactTrieItemCard

/-- THE TIED CARD OF 'laws.FnExactStateTrie'. -/
def fnExactStateTrieCard : Claim7 := { stood := { row := fnExactStateTrieRow, standIns := [], harness := (true, "5abd7306568fb7e6a18309268ab45835f377fcb05486e9f83240e2d5bbbee0b8"), looks := false }, kinds := [], alts := [], laidByText := true, laidKinds := [.data, .data], laidTests := true, laidLooks := .later }
def FnExactStateTrieCardSaid : Prop := Claim7.holds Tryd.pinned (.plain (OpenSpec.ofChange fnExactStateTrieSpec)) fnExactStateTrieCard

/-- THE SECOND FORM's CARD OF 'laws.FnExactTrieRef'. -/
def fnExactTrieRefUptoCard : Claim7 := { stood := { row := fnExactTrieRefUptoRow, standIns := [], harness := (true, "5abd7306568fb7e6a18309268ab45835f377fcb05486e9f83240e2d5bbbee0b8"), looks := false }, kinds := [], alts := [], laidByText := true, laidKinds := [.data, .data], laidTests := true, laidLooks := .later }
def FnExactTrieRefUptoCardSaid : Prop := Claim7.holds Tryd.pinned (.plain (OpenSpec.upto fnExactTrieRefSpec)) fnExactTrieRefUptoCard

/-- THE SECOND FORM's CARD OF 'laws.FnExactTrieItem'. -/
def fnExactTrieItemUptoCard : Claim7 := { stood := { row := fnExactTrieItemUptoRow, standIns := [], harness := (true, "5abd7306568fb7e6a18309268ab45835f377fcb05486e9f83240e2d5bbbee0b8"), looks := false }, kinds := [], alts := [], laidByText := true, laidKinds := [.data, .data], laidTests := true, laidLooks := .later }
def FnExactTrieItemUptoCardSaid : Prop := Claim7.holds Tryd.pinned (.plain (OpenSpec.upto fnExactTrieItemSpec)) fnExactTrieItemUptoCard

/-- THE SECOND FORM's CARD OF 'laws.FnExactStateTrie'. -/
def fnExactStateTrieUptoCard : Claim7 := { stood := { row := fnExactStateTrieUptoRow, standIns := [], harness := (true, "5abd7306568fb7e6a18309268ab45835f377fcb05486e9f83240e2d5bbbee0b8"), looks := false }, kinds := [], alts := [], laidByText := true, laidKinds := [.data, .data], laidTests := true, laidLooks := .later }
def FnExactStateTrieUptoCardSaid : Prop := Claim7.holds Tryd.pinned (.plain (OpenSpec.upto fnExactStateTrieSpec)) fnExactStateTrieUptoCard
end Rows
end Go.Proofs.YtlcnpecejhcnfaaDoor
