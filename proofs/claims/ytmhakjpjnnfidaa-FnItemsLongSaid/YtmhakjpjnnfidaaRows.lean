/-
  NARROWER THAN 'FOR EVERY INPUT', by the rows' own cells (each row's printed sentence says how): FnExactSameItem: loops · FnExactItemOk: loops · FnExactItemText: loops.
  DERIVED. THE GIVEN ROWS OF THIS SEAT. 12 by the template 'for every input the law returns true; each argument reads behind the call as it read before'; 0 by the template 'total and deterministic' (their statements: YtmhakjpjnnfidaaTotals.lean).
  GIVEN WITH THE SEED: the statements are not yours to turn. If you find one false, say at which input.
  Laid BY PROGRAM, IN A SANDBOX (cutbox-rows.mjs): the forced cells as the released guide's own fill.sh prints them over the translation e5487a3827869683… (all of the seat's roots in one cut). By AI agents, Wed Nov 11 2026. No macro, syntax, notation, axiom, sorry.
-/
import Derived.Test.YtmhakjpjnnfidaaChecked
import GoSem.Claim
import GoSem.ClaimJoined
import GoSem.ClaimMapViews
import Derived.JoinedTies
import Derived.KernelRfl
namespace Go.Proofs.Ytmhakjpjnnfidaa
/- THE CELL 'sum', in the pinned program and in every row, IS THE sha256 OF THE DUMP (.gsa) THAT YtmhakjpjnnfidaaProg.lean LOADS. Nothing in Lean hashes anything: it is a label: what it is worth is what the hold of that sum in a sandbox is worth. -/
noncomputable def Try.pinned : Pinned := { name := "ytmhakjpjnnfidaa", sum := "e5487a382786968395b00f1045993a7fdf70b254d420230927661b159b47523f", checked := Try.checked }
namespace Rows
def none {H : Type} : Left H := { results := [], args := [] }

/-- 'laws.FnExactSameItem': WHATEVER THE INPUT: true; the input reads as it did. -/
def fnExactSameItemSpec : ChangeSpec := { name := "fnExactSameItem", fn := fun _ => fun
  | [d1, d2] => { results := [.lit (.bool true)], args := [d1, d2] }
  | _ => none }
def fnExactSameItemRow : OpenClaim := { program := "ytmhakjpjnnfidaa", sum := "e5487a382786968395b00f1045993a7fdf70b254d420230927661b159b47523f", func := "loop.example/g00321/laws.FnExactSameItem", spec := "fnExactSameItem", unfollowed := true, recurses := true, loops := true, apart := false }
def FnExactSameItemSaid : Prop := fnExactSameItemRow.holds Try.pinned (OpenSpec.ofChange fnExactSameItemSpec)

/-- ITS FALSE NEIGHBOUR: 'it returns false'. Refute it at one input. -/
def fnExactSameItemWrong : ChangeSpec := { name := "fnExactSameItem", fn := fun _ => fun
  | [d1, d2] => { results := [.lit (.bool false)], args := [d1, d2] }
  | _ => none }
def FnExactSameItemWrongFalsely : Prop := fnExactSameItemRow.holds Try.pinned (OpenSpec.ofChange fnExactSameItemWrong)

/-- 'laws.FnExactItemOk': WHATEVER THE INPUT: true; the input reads as it did. -/
def fnExactItemOkSpec : ChangeSpec := { name := "fnExactItemOk", fn := fun _ => fun
  | [d] => { results := [.lit (.bool true)], args := [d] }
  | _ => none }
def fnExactItemOkRow : OpenClaim := { program := "ytmhakjpjnnfidaa", sum := "e5487a382786968395b00f1045993a7fdf70b254d420230927661b159b47523f", func := "loop.example/g00321/laws.FnExactItemOk", spec := "fnExactItemOk", recurses := true, loops := true, apart := false }
def FnExactItemOkSaid : Prop := fnExactItemOkRow.holds Try.pinned (OpenSpec.ofChange fnExactItemOkSpec)

/-- ITS FALSE NEIGHBOUR: 'it returns false'. Refute it at one input. -/
def fnExactItemOkWrong : ChangeSpec := { name := "fnExactItemOk", fn := fun _ => fun
  | [d] => { results := [.lit (.bool false)], args := [d] }
  | _ => none }
def FnExactItemOkWrongFalsely : Prop := fnExactItemOkRow.holds Try.pinned (OpenSpec.ofChange fnExactItemOkWrong)

/-- 'laws.FnExactReadPrefix': WHATEVER THE INPUT: true; the input reads as it did. -/
def fnExactReadPrefixSpec : ChangeSpec := { name := "fnExactReadPrefix", fn := fun _ => fun
  | [d] => { results := [.lit (.bool true)], args := [d] }
  | _ => none }
def fnExactReadPrefixRow : OpenClaim := { program := "ytmhakjpjnnfidaa", sum := "e5487a382786968395b00f1045993a7fdf70b254d420230927661b159b47523f", func := "loop.example/g00321/laws.FnExactReadPrefix", spec := "fnExactReadPrefix", apart := false }
def FnExactReadPrefixSaid : Prop := fnExactReadPrefixRow.holds Try.pinned (OpenSpec.ofChange fnExactReadPrefixSpec)

/-- ITS FALSE NEIGHBOUR: 'it returns false'. Refute it at one input. -/
def fnExactReadPrefixWrong : ChangeSpec := { name := "fnExactReadPrefix", fn := fun _ => fun
  | [d] => { results := [.lit (.bool false)], args := [d] }
  | _ => none }
def FnExactReadPrefixWrongFalsely : Prop := fnExactReadPrefixRow.holds Try.pinned (OpenSpec.ofChange fnExactReadPrefixWrong)

/-- 'laws.FnExactAccountsOk': WHATEVER THE INPUT: true; the input reads as it did. -/
def fnExactAccountsOkSpec : ChangeSpec := { name := "fnExactAccountsOk", fn := fun _ => fun
  | [d] => { results := [.lit (.bool true)], args := [d] }
  | _ => none }
def fnExactAccountsOkRow : OpenClaim := { program := "ytmhakjpjnnfidaa", sum := "e5487a382786968395b00f1045993a7fdf70b254d420230927661b159b47523f", func := "loop.example/g00321/laws.FnExactAccountsOk", spec := "fnExactAccountsOk", apart := false }
def FnExactAccountsOkSaid : Prop := fnExactAccountsOkRow.holds Try.pinned (OpenSpec.ofChange fnExactAccountsOkSpec)

/-- ITS FALSE NEIGHBOUR: 'it returns false'. Refute it at one input. -/
def fnExactAccountsOkWrong : ChangeSpec := { name := "fnExactAccountsOk", fn := fun _ => fun
  | [d] => { results := [.lit (.bool false)], args := [d] }
  | _ => none }
def FnExactAccountsOkWrongFalsely : Prop := fnExactAccountsOkRow.holds Try.pinned (OpenSpec.ofChange fnExactAccountsOkWrong)

/-- 'laws.FnExactReadJournal': WHATEVER THE INPUT: true; the input reads as it did. -/
def fnExactReadJournalSpec : ChangeSpec := { name := "fnExactReadJournal", fn := fun _ => fun
  | [d] => { results := [.lit (.bool true)], args := [d] }
  | _ => none }
def fnExactReadJournalRow : OpenClaim := { program := "ytmhakjpjnnfidaa", sum := "e5487a382786968395b00f1045993a7fdf70b254d420230927661b159b47523f", func := "loop.example/g00321/laws.FnExactReadJournal", spec := "fnExactReadJournal", apart := false }
def FnExactReadJournalSaid : Prop := fnExactReadJournalRow.holds Try.pinned (OpenSpec.ofChange fnExactReadJournalSpec)

/-- ITS FALSE NEIGHBOUR: 'it returns false'. Refute it at one input. -/
def fnExactReadJournalWrong : ChangeSpec := { name := "fnExactReadJournal", fn := fun _ => fun
  | [d] => { results := [.lit (.bool false)], args := [d] }
  | _ => none }
def FnExactReadJournalWrongFalsely : Prop := fnExactReadJournalRow.holds Try.pinned (OpenSpec.ofChange fnExactReadJournalWrong)

/-- 'laws.FnExactItemText': WHATEVER THE INPUT: true; the input reads as it did. -/
def fnExactItemTextSpec : ChangeSpec := { name := "fnExactItemText", fn := fun _ => fun
  | [d] => { results := [.lit (.bool true)], args := [d] }
  | _ => none }
def fnExactItemTextRow : OpenClaim := { program := "ytmhakjpjnnfidaa", sum := "e5487a382786968395b00f1045993a7fdf70b254d420230927661b159b47523f", func := "loop.example/g00321/laws.FnExactItemText", spec := "fnExactItemText", inPlace := ["internal/abi.NoEscape"], recurses := true, loops := true, apart := false }
def FnExactItemTextSaid : Prop := fnExactItemTextRow.holds Try.pinned (OpenSpec.ofChange fnExactItemTextSpec)

/-- ITS FALSE NEIGHBOUR: 'it returns false'. Refute it at one input. -/
def fnExactItemTextWrong : ChangeSpec := { name := "fnExactItemText", fn := fun _ => fun
  | [d] => { results := [.lit (.bool false)], args := [d] }
  | _ => none }
def FnExactItemTextWrongFalsely : Prop := fnExactItemTextRow.holds Try.pinned (OpenSpec.ofChange fnExactItemTextWrong)

/-- 'laws.FnExactToxicOk': WHATEVER THE INPUT: true; the input reads as it did. -/
def fnExactToxicOkSpec : ChangeSpec := { name := "fnExactToxicOk", fn := fun _ => fun
  | [d1, d2] => { results := [.lit (.bool true)], args := [d1, d2] }
  | _ => none }
def fnExactToxicOkRow : OpenClaim := { program := "ytmhakjpjnnfidaa", sum := "e5487a382786968395b00f1045993a7fdf70b254d420230927661b159b47523f", func := "loop.example/g00321/laws.FnExactToxicOk", spec := "fnExactToxicOk", apart := false }
def FnExactToxicOkSaid : Prop := fnExactToxicOkRow.holds Try.pinned (OpenSpec.ofChange fnExactToxicOkSpec)

/-- ITS FALSE NEIGHBOUR: 'it returns false'. Refute it at one input. -/
def fnExactToxicOkWrong : ChangeSpec := { name := "fnExactToxicOk", fn := fun _ => fun
  | [d1, d2] => { results := [.lit (.bool false)], args := [d1, d2] }
  | _ => none }
def FnExactToxicOkWrongFalsely : Prop := fnExactToxicOkRow.holds Try.pinned (OpenSpec.ofChange fnExactToxicOkWrong)

/-- 'laws.FnExactReadItem': WHATEVER THE INPUT: true; the input reads as it did. -/
def fnExactReadItemSpec : ChangeSpec := { name := "fnExactReadItem", fn := fun _ => fun
  | [d] => { results := [.lit (.bool true)], args := [d] }
  | _ => none }
def fnExactReadItemRow : OpenClaim := { program := "ytmhakjpjnnfidaa", sum := "e5487a382786968395b00f1045993a7fdf70b254d420230927661b159b47523f", func := "loop.example/g00321/laws.FnExactReadItem", spec := "fnExactReadItem", inPlace := ["internal/abi.NoEscape"], recurses := true, apart := false }
def FnExactReadItemSaid : Prop := fnExactReadItemRow.holds Try.pinned (OpenSpec.ofChange fnExactReadItemSpec)

/-- ITS FALSE NEIGHBOUR: 'it returns false'. Refute it at one input. -/
def fnExactReadItemWrong : ChangeSpec := { name := "fnExactReadItem", fn := fun _ => fun
  | [d] => { results := [.lit (.bool false)], args := [d] }
  | _ => none }
def FnExactReadItemWrongFalsely : Prop := fnExactReadItemRow.holds Try.pinned (OpenSpec.ofChange fnExactReadItemWrong)

/-- 'laws.FnExactQuotientOf': WHATEVER THE INPUT: true; the input reads as it did. -/
def fnExactQuotientOfSpec : ChangeSpec := { name := "fnExactQuotientOf", fn := fun _ => fun
  | [d1, d2] => { results := [.lit (.bool true)], args := [d1, d2] }
  | _ => none }
def fnExactQuotientOfRow : OpenClaim := { program := "ytmhakjpjnnfidaa", sum := "e5487a382786968395b00f1045993a7fdf70b254d420230927661b159b47523f", func := "loop.example/g00321/laws.FnExactQuotientOf", spec := "fnExactQuotientOf", apart := false }
def FnExactQuotientOfSaid : Prop := fnExactQuotientOfRow.holds Try.pinned (OpenSpec.ofChange fnExactQuotientOfSpec)

/-- ITS FALSE NEIGHBOUR: 'it returns false'. Refute it at one input. -/
def fnExactQuotientOfWrong : ChangeSpec := { name := "fnExactQuotientOf", fn := fun _ => fun
  | [d1, d2] => { results := [.lit (.bool false)], args := [d1, d2] }
  | _ => none }
def FnExactQuotientOfWrongFalsely : Prop := fnExactQuotientOfRow.holds Try.pinned (OpenSpec.ofChange fnExactQuotientOfWrong)

/-- 'laws.FnExactQapHolds': WHATEVER THE INPUT: true; the input reads as it did. -/
def fnExactQapHoldsSpec : ChangeSpec := { name := "fnExactQapHolds", fn := fun _ => fun
  | [d1, d2, d3] => { results := [.lit (.bool true)], args := [d1, d2, d3] }
  | _ => none }
def fnExactQapHoldsRow : OpenClaim := { program := "ytmhakjpjnnfidaa", sum := "e5487a382786968395b00f1045993a7fdf70b254d420230927661b159b47523f", func := "loop.example/g00321/laws.FnExactQapHolds", spec := "fnExactQapHolds", apart := false }
def FnExactQapHoldsSaid : Prop := fnExactQapHoldsRow.holds Try.pinned (OpenSpec.ofChange fnExactQapHoldsSpec)

/-- ITS FALSE NEIGHBOUR: 'it returns false'. Refute it at one input. -/
def fnExactQapHoldsWrong : ChangeSpec := { name := "fnExactQapHolds", fn := fun _ => fun
  | [d1, d2, d3] => { results := [.lit (.bool false)], args := [d1, d2, d3] }
  | _ => none }
def FnExactQapHoldsWrongFalsely : Prop := fnExactQapHoldsRow.holds Try.pinned (OpenSpec.ofChange fnExactQapHoldsWrong)

/-- 'laws.FnItemsLong': WHATEVER THE INPUT: true; the input reads as it did. -/
def fnItemsLongSpec : ChangeSpec := { name := "fnItemsLong", fn := fun _ => fun
  | [d] => { results := [.lit (.bool true)], args := [d] }
  | _ => none }
def fnItemsLongRow : OpenClaim := { program := "ytmhakjpjnnfidaa", sum := "e5487a382786968395b00f1045993a7fdf70b254d420230927661b159b47523f", func := "loop.example/g00321/laws.FnItemsLong", spec := "fnItemsLong", inPlace := ["internal/abi.NoEscape"], recurses := true, apart := false }
def FnItemsLongSaid : Prop := fnItemsLongRow.holds Try.pinned (OpenSpec.ofChange fnItemsLongSpec)

/-- ITS FALSE NEIGHBOUR: 'it returns false'. Refute it at one input. -/
def fnItemsLongWrong : ChangeSpec := { name := "fnItemsLong", fn := fun _ => fun
  | [d] => { results := [.lit (.bool false)], args := [d] }
  | _ => none }
def FnItemsLongWrongFalsely : Prop := fnItemsLongRow.holds Try.pinned (OpenSpec.ofChange fnItemsLongWrong)

/-- 'laws.FnHalves': WHATEVER THE INPUT: true; the input reads as it did. -/
def fnHalvesSpec : ChangeSpec := { name := "fnHalves", fn := fun _ => fun
  | [d] => { results := [.lit (.bool true)], args := [d] }
  | _ => none }
def fnHalvesRow : OpenClaim := { program := "ytmhakjpjnnfidaa", sum := "e5487a382786968395b00f1045993a7fdf70b254d420230927661b159b47523f", func := "loop.example/g00321/laws.FnHalves", spec := "fnHalves", apart := false }
def FnHalvesSaid : Prop := fnHalvesRow.holds Try.pinned (OpenSpec.ofChange fnHalvesSpec)

/-- ITS FALSE NEIGHBOUR: 'it returns false'. Refute it at one input. -/
def fnHalvesWrong : ChangeSpec := { name := "fnHalves", fn := fun _ => fun
  | [d] => { results := [.lit (.bool false)], args := [d] }
  | _ => none }
def FnHalvesWrongFalsely : Prop := fnHalvesRow.holds Try.pinned (OpenSpec.ofChange fnHalvesWrong)

/- THE SECOND FORM. 'bulk': how many values and letters a reading holds, each counted each time it is reached (what is shared counts as often as it is met; a slice's spare places count too). A statement '..UptoSaid' is the law's where the arguments, and the package variables that the reading takes, are together of bulk at most 1048576: NARROWER than '..Said'. Prove '..Said' where nothing that the law and all that it calls make is longer than what came in: it says more and counts as full. Else prove '..UptoSaid'. A law counts once. -/
mutual
def uptoBulk {H : Type} : DataW H → Nat
  | .lit (.string bytes) => bytes.length + 1
  | .lit _ => 1
  | .nil => 1
  | .ptr d => uptoBulk d + 1
  | .slice elems spare => uptoBulkAll elems + uptoBulkAll spare + 1
  | .agg parts => uptoBulkAll parts + 1
  | .iface _ d => uptoBulk d + 1
  | .map entries => uptoBulkEntries entries + 1
  | .held _ => 1
def uptoBulkAll {H : Type} : List (DataW H) → Nat
  | [] => 0
  | d :: r => uptoBulk d + uptoBulkAll r
def uptoBulkEntries {H : Type} : List (Lit × DataW H) → Nat
  | [] => 0
  | x :: r => uptoBulkEntry x + uptoBulkEntries r
def uptoBulkEntry {H : Type} : Lit × DataW H → Nat
  | (.string bytes, d) => bytes.length + uptoBulk d + 1
  | (_, d) => uptoBulk d + 1
 end
def uptoSmall : (H : Type) → List (DataW H) → Bool := fun _ ds => decide (uptoBulkAll ds ≤ 1048576)
def OpenSpec.upto (s : _root_.Go.ChangeSpec) : _root_.Go.OpenSpec := { _root_.Go.OpenSpec.ofChange s with cond := some uptoSmall }

/-- 'laws.FnExactSameItem', WHERE WHAT IT READS IS OF BULK AT MOST 1048576: true; the input reads as it did. -/
def fnExactSameItemUptoRow : OpenClaim := { program := "ytmhakjpjnnfidaa", sum := "e5487a382786968395b00f1045993a7fdf70b254d420230927661b159b47523f", func := "loop.example/g00321/laws.FnExactSameItem", spec := "fnExactSameItem", unfollowed := true, recurses := true, loops := true, apart := false, narrowed := true }
def FnExactSameItemUptoSaid : Prop := fnExactSameItemUptoRow.holds Try.pinned (OpenSpec.upto fnExactSameItemSpec)

/-- 'laws.FnExactItemOk', WHERE WHAT IT READS IS OF BULK AT MOST 1048576: true; the input reads as it did. -/
def fnExactItemOkUptoRow : OpenClaim := { program := "ytmhakjpjnnfidaa", sum := "e5487a382786968395b00f1045993a7fdf70b254d420230927661b159b47523f", func := "loop.example/g00321/laws.FnExactItemOk", spec := "fnExactItemOk", recurses := true, loops := true, apart := false, narrowed := true }
def FnExactItemOkUptoSaid : Prop := fnExactItemOkUptoRow.holds Try.pinned (OpenSpec.upto fnExactItemOkSpec)

/-- 'laws.FnExactReadPrefix', WHERE WHAT IT READS IS OF BULK AT MOST 1048576: true; the input reads as it did. -/
def fnExactReadPrefixUptoRow : OpenClaim := { program := "ytmhakjpjnnfidaa", sum := "e5487a382786968395b00f1045993a7fdf70b254d420230927661b159b47523f", func := "loop.example/g00321/laws.FnExactReadPrefix", spec := "fnExactReadPrefix", apart := false, narrowed := true }
def FnExactReadPrefixUptoSaid : Prop := fnExactReadPrefixUptoRow.holds Try.pinned (OpenSpec.upto fnExactReadPrefixSpec)

/-- 'laws.FnExactAccountsOk', WHERE WHAT IT READS IS OF BULK AT MOST 1048576: true; the input reads as it did. -/
def fnExactAccountsOkUptoRow : OpenClaim := { program := "ytmhakjpjnnfidaa", sum := "e5487a382786968395b00f1045993a7fdf70b254d420230927661b159b47523f", func := "loop.example/g00321/laws.FnExactAccountsOk", spec := "fnExactAccountsOk", apart := false, narrowed := true }
def FnExactAccountsOkUptoSaid : Prop := fnExactAccountsOkUptoRow.holds Try.pinned (OpenSpec.upto fnExactAccountsOkSpec)

/-- 'laws.FnExactReadJournal', WHERE WHAT IT READS IS OF BULK AT MOST 1048576: true; the input reads as it did. -/
def fnExactReadJournalUptoRow : OpenClaim := { program := "ytmhakjpjnnfidaa", sum := "e5487a382786968395b00f1045993a7fdf70b254d420230927661b159b47523f", func := "loop.example/g00321/laws.FnExactReadJournal", spec := "fnExactReadJournal", apart := false, narrowed := true }
def FnExactReadJournalUptoSaid : Prop := fnExactReadJournalUptoRow.holds Try.pinned (OpenSpec.upto fnExactReadJournalSpec)

/-- 'laws.FnExactItemText', WHERE WHAT IT READS IS OF BULK AT MOST 1048576: true; the input reads as it did. -/
def fnExactItemTextUptoRow : OpenClaim := { program := "ytmhakjpjnnfidaa", sum := "e5487a382786968395b00f1045993a7fdf70b254d420230927661b159b47523f", func := "loop.example/g00321/laws.FnExactItemText", spec := "fnExactItemText", inPlace := ["internal/abi.NoEscape"], recurses := true, loops := true, apart := false, narrowed := true }
def FnExactItemTextUptoSaid : Prop := fnExactItemTextUptoRow.holds Try.pinned (OpenSpec.upto fnExactItemTextSpec)

/-- 'laws.FnExactToxicOk', WHERE WHAT IT READS IS OF BULK AT MOST 1048576: true; the input reads as it did. -/
def fnExactToxicOkUptoRow : OpenClaim := { program := "ytmhakjpjnnfidaa", sum := "e5487a382786968395b00f1045993a7fdf70b254d420230927661b159b47523f", func := "loop.example/g00321/laws.FnExactToxicOk", spec := "fnExactToxicOk", apart := false, narrowed := true }
def FnExactToxicOkUptoSaid : Prop := fnExactToxicOkUptoRow.holds Try.pinned (OpenSpec.upto fnExactToxicOkSpec)

/-- 'laws.FnExactReadItem', WHERE WHAT IT READS IS OF BULK AT MOST 1048576: true; the input reads as it did. -/
def fnExactReadItemUptoRow : OpenClaim := { program := "ytmhakjpjnnfidaa", sum := "e5487a382786968395b00f1045993a7fdf70b254d420230927661b159b47523f", func := "loop.example/g00321/laws.FnExactReadItem", spec := "fnExactReadItem", inPlace := ["internal/abi.NoEscape"], recurses := true, apart := false, narrowed := true }
def FnExactReadItemUptoSaid : Prop := fnExactReadItemUptoRow.holds Try.pinned (OpenSpec.upto fnExactReadItemSpec)

/-- 'laws.FnExactQuotientOf', WHERE WHAT IT READS IS OF BULK AT MOST 1048576: true; the input reads as it did. -/
def fnExactQuotientOfUptoRow : OpenClaim := { program := "ytmhakjpjnnfidaa", sum := "e5487a382786968395b00f1045993a7fdf70b254d420230927661b159b47523f", func := "loop.example/g00321/laws.FnExactQuotientOf", spec := "fnExactQuotientOf", apart := false, narrowed := true }
def FnExactQuotientOfUptoSaid : Prop := fnExactQuotientOfUptoRow.holds Try.pinned (OpenSpec.upto fnExactQuotientOfSpec)

/-- 'laws.FnExactQapHolds', WHERE WHAT IT READS IS OF BULK AT MOST 1048576: true; the input reads as it did. -/
def fnExactQapHoldsUptoRow : OpenClaim := { program := "ytmhakjpjnnfidaa", sum := "e5487a382786968395b00f1045993a7fdf70b254d420230927661b159b47523f", func := "loop.example/g00321/laws.FnExactQapHolds", spec := "fnExactQapHolds", apart := false, narrowed := true }
def FnExactQapHoldsUptoSaid : Prop := fnExactQapHoldsUptoRow.holds Try.pinned (OpenSpec.upto fnExactQapHoldsSpec)

/-- 'laws.FnItemsLong', WHERE WHAT IT READS IS OF BULK AT MOST 1048576: true; the input reads as it did. -/
def fnItemsLongUptoRow : OpenClaim := { program := "ytmhakjpjnnfidaa", sum := "e5487a382786968395b00f1045993a7fdf70b254d420230927661b159b47523f", func := "loop.example/g00321/laws.FnItemsLong", spec := "fnItemsLong", inPlace := ["internal/abi.NoEscape"], recurses := true, apart := false, narrowed := true }
def FnItemsLongUptoSaid : Prop := fnItemsLongUptoRow.holds Try.pinned (OpenSpec.upto fnItemsLongSpec)

/-- 'laws.FnHalves', WHERE WHAT IT READS IS OF BULK AT MOST 1048576: true; the input reads as it did. -/
def fnHalvesUptoRow : OpenClaim := { program := "ytmhakjpjnnfidaa", sum := "e5487a382786968395b00f1045993a7fdf70b254d420230927661b159b47523f", func := "loop.example/g00321/laws.FnHalves", spec := "fnHalves", apart := false, narrowed := true }
def FnHalvesUptoSaid : Prop := fnHalvesUptoRow.holds Try.pinned (OpenSpec.upto fnHalvesSpec)

end Rows
end Go.Proofs.Ytmhakjpjnnfidaa
