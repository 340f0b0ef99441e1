/-
  DERIVED. GIVEN WITH THE SEED: THE CARDS: each row of YtlbapjocadmaeaaDoorRows.lean that lists a variable, with what it lists TIED to the program's text (the seventh form; the later family's looks); each row that meets fmt, with fmt's text TOLD by the authors' own Lean function (tested against real Go, not proved from fmt's source: count such statements apart). THE CARD IS WHAT COUNTS. Prove the row's statement (the work); the ties are given (YtlbapjocadmaeaaDoorTie.lean); close each card by the builder's one call (the guide's Derived/Test/ToyasCard.lean, 'card_holds'). Laid BY PROGRAM, IN A SANDBOX (cutbox-door.mjs). By AI agents, Wed Nov 11 2026. No macro, syntax, notation, axiom, sorry.
-/
import Derived.Test.YtlbapjocadmaeaaDoorRows
import GoSem.ClaimSeven
namespace Go.Proofs.YtlbapjocadmaeaaDoor
namespace Rows

/-- THE TIED CARD OF 'laws.FnExactTrieRoot'. -/
def fnExactTrieRootCard : Claim7 := { stood := { row := fnExactTrieRootRow, standIns := [], harness := (true, "7342f265830f8ececd89a041b6ecd0616d671b826a96b8cc992ea682d4a7d2ca"), looks := false }, kinds := [], alts := [], laidByText := true, laidKinds := [.data, .data], laidTests := true, laidLooks := .later }
def FnExactTrieRootCardSaid : Prop := Claim7.holds Tryd.pinned (.plain (OpenSpec.ofChange fnExactTrieRootSpec)) fnExactTrieRootCard

/-- THE TIED CARD OF 'laws.FnExactAccountText'. -/
def fnExactAccountTextCard : Claim7 := { stood := { row := fnExactAccountTextRow, standIns := [], harness := (true, "7342f265830f8ececd89a041b6ecd0616d671b826a96b8cc992ea682d4a7d2ca"), looks := false }, kinds := [], alts := [], laidByText := true, laidKinds := [.data, .data], laidTests := true, laidLooks := .later }
def FnExactAccountTextCardSaid : Prop := Claim7.holds Tryd.pinned (.plain (OpenSpec.ofChange fnExactAccountTextSpec)) fnExactAccountTextCard

/-- THE TIED CARD OF 'laws.FnExactProveTrie'. -/
def fnExactProveTrieCard : Claim7 := { stood := { row := fnExactProveTrieRow, standIns := [], harness := (true, "7342f265830f8ececd89a041b6ecd0616d671b826a96b8cc992ea682d4a7d2ca"), looks := false }, kinds := [], alts := [], laidByText := true, laidKinds := [.data, .data], laidTests := true, laidLooks := .later }
def FnExactProveTrieCardSaid : Prop := Claim7.holds Tryd.pinned (.plain (OpenSpec.ofChange fnExactProveTrieSpec)) fnExactProveTrieCard

/-- THE TIED CARD OF 'laws.FnExactStateTrie'. -/
def fnExactStateTrieCard : Claim7 := { stood := { row := fnExactStateTrieRow, standIns := [], harness := (true, "7342f265830f8ececd89a041b6ecd0616d671b826a96b8cc992ea682d4a7d2ca"), looks := false }, kinds := [], alts := [], laidByText := true, laidKinds := [.data, .data], laidTests := true, laidLooks := .later }
def FnExactStateTrieCardSaid : Prop := Claim7.holds Tryd.pinned (.plain (OpenSpec.ofChange fnExactStateTrieSpec)) fnExactStateTrieCard

/-- THE SECOND FORM's CARD OF 'laws.FnExactTrieRoot'. -/
def fnExactTrieRootUptoCard : Claim7 := { stood := { row := fnExactTrieRootUptoRow, standIns := [], harness := (true, "7342f265830f8ececd89a041b6ecd0616d671b826a96b8cc992ea682d4a7d2ca"), looks := false }, kinds := [], alts := [], laidByText := true, laidKinds := [.data, .data], laidTests := true, laidLooks := .later }
def FnExactTrieRootUptoCardSaid : Prop := Claim7.holds Tryd.pinned (.plain (OpenSpec.upto fnExactTrieRootSpec)) fnExactTrieRootUptoCard

/-- THE SECOND FORM's CARD OF 'laws.FnExactAccountText'. -/
def fnExactAccountTextUptoCard : Claim7 := { stood := { row := fnExactAccountTextUptoRow, standIns := [], harness := (true, "7342f265830f8ececd89a041b6ecd0616d671b826a96b8cc992ea682d4a7d2ca"), looks := false }, kinds := [], alts := [], laidByText := true, laidKinds := [.data, .data], laidTests := true, laidLooks := .later }
def FnExactAccountTextUptoCardSaid : Prop := Claim7.holds Tryd.pinned (.plain (OpenSpec.upto fnExactAccountTextSpec)) fnExactAccountTextUptoCard

/-- THE SECOND FORM's CARD OF 'laws.FnExactProveTrie'. -/
def fnExactProveTrieUptoCard : Claim7 := { stood := { row := fnExactProveTrieUptoRow, standIns := [], harness := (true, "7342f265830f8ececd89a041b6ecd0616d671b826a96b8cc992ea682d4a7d2ca"), looks := false }, kinds := [], alts := [], laidByText := true, laidKinds := [.data, .data], laidTests := true, laidLooks := .later }
def FnExactProveTrieUptoCardSaid : Prop := Claim7.holds Tryd.pinned (.plain (OpenSpec.upto fnExactProveTrieSpec)) fnExactProveTrieUptoCard

/-- THE SECOND FORM's CARD OF 'laws.FnExactStateTrie'. -/
def fnExactStateTrieUptoCard : Claim7 := { stood := { row := fnExactStateTrieUptoRow, standIns := [], harness := (true, "7342f265830f8ececd89a041b6ecd0616d671b826a96b8cc992ea682d4a7d2ca"), looks := false }, kinds := [], alts := [], laidByText := true, laidKinds := [.data, .data], laidTests := true, laidLooks := .later }
def FnExactStateTrieUptoCardSaid : Prop := Claim7.holds Tryd.pinned (.plain (OpenSpec.upto fnExactStateTrieSpec)) fnExactStateTrieUptoCard
end Rows
end Go.Proofs.YtlbapjocadmaeaaDoor
