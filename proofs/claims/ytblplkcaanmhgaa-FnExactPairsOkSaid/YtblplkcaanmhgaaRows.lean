/-
  No cell of these rows narrows 'for every input' (looked for: loops, veiled, ifaces, maps, wideKeys, modest, calm, conditions, laid).
  DERIVED. THE GIVEN ROWS OF THIS SEAT. 12 by the template 'for every input the law returns true; each argument reads behind the call as it read before'; 0 by the template 'total and deterministic' (their statements: YtblplkcaanmhgaaTotals.lean).
  GIVEN WITH THE SEED: the statements are not yours to turn. If you find one false, say at which input.
  Laid BY PROGRAM, IN A SANDBOX (cutbox-rows.mjs): the forced cells as the released guide's own fill.sh prints them over the translation f643eccbe27400d4… (all of the seat's roots in one cut). By AI agents, Wed Nov 11 2026. No macro, syntax, notation, axiom, sorry.
-/
import Derived.Test.YtblplkcaanmhgaaChecked
import GoSem.Claim
import GoSem.ClaimJoined
import GoSem.ClaimMapViews
import Derived.JoinedTies
import Derived.KernelRfl
namespace Go.Proofs.Ytblplkcaanmhgaa
/- THE CELL 'sum', in the pinned program and in every row, IS THE sha256 OF THE DUMP (.gsa) THAT YtblplkcaanmhgaaProg.lean LOADS. Nothing in Lean hashes anything: it is a label: what it is worth is what the hold of that sum in a sandbox is worth. -/
noncomputable def Try.pinned : Pinned := { name := "ytblplkcaanmhgaa", sum := "f643eccbe27400d462cb9b2b3cef91d83d9d7af1f786a29f6f0e3d4e6fdaec23", checked := Try.checked }
namespace Rows
def none {H : Type} : Left H := { results := [], args := [] }

/-- 'laws.FnExactPeriodOf': WHATEVER THE INPUT: true; the input reads as it did. -/
def fnExactPeriodOfSpec : ChangeSpec := { name := "fnExactPeriodOf", fn := fun _ => fun
  | [d] => { results := [.lit (.bool true)], args := [d] }
  | _ => none }
def fnExactPeriodOfRow : OpenClaim := { program := "ytblplkcaanmhgaa", sum := "f643eccbe27400d462cb9b2b3cef91d83d9d7af1f786a29f6f0e3d4e6fdaec23", func := "loop.example/g00321/laws.FnExactPeriodOf", spec := "fnExactPeriodOf", apart := false }
def FnExactPeriodOfSaid : Prop := fnExactPeriodOfRow.holds Try.pinned (OpenSpec.ofChange fnExactPeriodOfSpec)

/-- ITS FALSE NEIGHBOUR: 'it returns false'. Refute it at one input. -/
def fnExactPeriodOfWrong : ChangeSpec := { name := "fnExactPeriodOf", fn := fun _ => fun
  | [d] => { results := [.lit (.bool false)], args := [d] }
  | _ => none }
def FnExactPeriodOfWrongFalsely : Prop := fnExactPeriodOfRow.holds Try.pinned (OpenSpec.ofChange fnExactPeriodOfWrong)

/-- 'laws.FnExactCutJournal': WHATEVER THE INPUT: true; the input reads as it did. -/
def fnExactCutJournalSpec : ChangeSpec := { name := "fnExactCutJournal", fn := fun _ => fun
  | [d1, d2] => { results := [.lit (.bool true)], args := [d1, d2] }
  | _ => none }
def fnExactCutJournalRow : OpenClaim := { program := "ytblplkcaanmhgaa", sum := "f643eccbe27400d462cb9b2b3cef91d83d9d7af1f786a29f6f0e3d4e6fdaec23", func := "loop.example/g00321/laws.FnExactCutJournal", spec := "fnExactCutJournal", apart := false }
def FnExactCutJournalSaid : Prop := fnExactCutJournalRow.holds Try.pinned (OpenSpec.ofChange fnExactCutJournalSpec)

/-- ITS FALSE NEIGHBOUR: 'it returns false'. Refute it at one input. -/
def fnExactCutJournalWrong : ChangeSpec := { name := "fnExactCutJournal", fn := fun _ => fun
  | [d1, d2] => { results := [.lit (.bool false)], args := [d1, d2] }
  | _ => none }
def FnExactCutJournalWrongFalsely : Prop := fnExactCutJournalRow.holds Try.pinned (OpenSpec.ofChange fnExactCutJournalWrong)

/-- 'laws.FnExactNumText': WHATEVER THE INPUT: true; the input reads as it did. -/
def fnExactNumTextSpec : ChangeSpec := { name := "fnExactNumText", fn := fun _ => fun
  | [d] => { results := [.lit (.bool true)], args := [d] }
  | _ => none }
def fnExactNumTextRow : OpenClaim := { program := "ytblplkcaanmhgaa", sum := "f643eccbe27400d462cb9b2b3cef91d83d9d7af1f786a29f6f0e3d4e6fdaec23", func := "loop.example/g00321/laws.FnExactNumText", spec := "fnExactNumText", apart := false }
def FnExactNumTextSaid : Prop := fnExactNumTextRow.holds Try.pinned (OpenSpec.ofChange fnExactNumTextSpec)

/-- ITS FALSE NEIGHBOUR: 'it returns false'. Refute it at one input. -/
def fnExactNumTextWrong : ChangeSpec := { name := "fnExactNumText", fn := fun _ => fun
  | [d] => { results := [.lit (.bool false)], args := [d] }
  | _ => none }
def FnExactNumTextWrongFalsely : Prop := fnExactNumTextRow.holds Try.pinned (OpenSpec.ofChange fnExactNumTextWrong)

/-- 'laws.FnExactCommon': WHATEVER THE INPUT: true; the input reads as it did. -/
def fnExactCommonSpec : ChangeSpec := { name := "fnExactCommon", fn := fun _ => fun
  | [d1, d2] => { results := [.lit (.bool true)], args := [d1, d2] }
  | _ => none }
def fnExactCommonRow : OpenClaim := { program := "ytblplkcaanmhgaa", sum := "f643eccbe27400d462cb9b2b3cef91d83d9d7af1f786a29f6f0e3d4e6fdaec23", func := "loop.example/g00321/laws.FnExactCommon", spec := "fnExactCommon", apart := false }
def FnExactCommonSaid : Prop := fnExactCommonRow.holds Try.pinned (OpenSpec.ofChange fnExactCommonSpec)

/-- ITS FALSE NEIGHBOUR: 'it returns false'. Refute it at one input. -/
def fnExactCommonWrong : ChangeSpec := { name := "fnExactCommon", fn := fun _ => fun
  | [d1, d2] => { results := [.lit (.bool false)], args := [d1, d2] }
  | _ => none }
def FnExactCommonWrongFalsely : Prop := fnExactCommonRow.holds Try.pinned (OpenSpec.ofChange fnExactCommonWrong)

/-- 'laws.FnExactNibblesOk': WHATEVER THE INPUT: true; the input reads as it did. -/
def fnExactNibblesOkSpec : ChangeSpec := { name := "fnExactNibblesOk", fn := fun _ => fun
  | [d] => { results := [.lit (.bool true)], args := [d] }
  | _ => none }
def fnExactNibblesOkRow : OpenClaim := { program := "ytblplkcaanmhgaa", sum := "f643eccbe27400d462cb9b2b3cef91d83d9d7af1f786a29f6f0e3d4e6fdaec23", func := "loop.example/g00321/laws.FnExactNibblesOk", spec := "fnExactNibblesOk", apart := false }
def FnExactNibblesOkSaid : Prop := fnExactNibblesOkRow.holds Try.pinned (OpenSpec.ofChange fnExactNibblesOkSpec)

/-- ITS FALSE NEIGHBOUR: 'it returns false'. Refute it at one input. -/
def fnExactNibblesOkWrong : ChangeSpec := { name := "fnExactNibblesOk", fn := fun _ => fun
  | [d] => { results := [.lit (.bool false)], args := [d] }
  | _ => none }
def FnExactNibblesOkWrongFalsely : Prop := fnExactNibblesOkRow.holds Try.pinned (OpenSpec.ofChange fnExactNibblesOkWrong)

/-- 'laws.FnExactNibblesOf': WHATEVER THE INPUT: true; the input reads as it did. -/
def fnExactNibblesOfSpec : ChangeSpec := { name := "fnExactNibblesOf", fn := fun _ => fun
  | [d] => { results := [.lit (.bool true)], args := [d] }
  | _ => none }
def fnExactNibblesOfRow : OpenClaim := { program := "ytblplkcaanmhgaa", sum := "f643eccbe27400d462cb9b2b3cef91d83d9d7af1f786a29f6f0e3d4e6fdaec23", func := "loop.example/g00321/laws.FnExactNibblesOf", spec := "fnExactNibblesOf", apart := false }
def FnExactNibblesOfSaid : Prop := fnExactNibblesOfRow.holds Try.pinned (OpenSpec.ofChange fnExactNibblesOfSpec)

/-- ITS FALSE NEIGHBOUR: 'it returns false'. Refute it at one input. -/
def fnExactNibblesOfWrong : ChangeSpec := { name := "fnExactNibblesOf", fn := fun _ => fun
  | [d] => { results := [.lit (.bool false)], args := [d] }
  | _ => none }
def FnExactNibblesOfWrongFalsely : Prop := fnExactNibblesOfRow.holds Try.pinned (OpenSpec.ofChange fnExactNibblesOfWrong)

/-- 'laws.FnExactBranchOk': WHATEVER THE INPUT: true; the input reads as it did. -/
def fnExactBranchOkSpec : ChangeSpec := { name := "fnExactBranchOk", fn := fun _ => fun
  | [d] => { results := [.lit (.bool true)], args := [d] }
  | _ => none }
def fnExactBranchOkRow : OpenClaim := { program := "ytblplkcaanmhgaa", sum := "f643eccbe27400d462cb9b2b3cef91d83d9d7af1f786a29f6f0e3d4e6fdaec23", func := "loop.example/g00321/laws.FnExactBranchOk", spec := "fnExactBranchOk", apart := false }
def FnExactBranchOkSaid : Prop := fnExactBranchOkRow.holds Try.pinned (OpenSpec.ofChange fnExactBranchOkSpec)

/-- ITS FALSE NEIGHBOUR: 'it returns false'. Refute it at one input. -/
def fnExactBranchOkWrong : ChangeSpec := { name := "fnExactBranchOk", fn := fun _ => fun
  | [d] => { results := [.lit (.bool false)], args := [d] }
  | _ => none }
def FnExactBranchOkWrongFalsely : Prop := fnExactBranchOkRow.holds Try.pinned (OpenSpec.ofChange fnExactBranchOkWrong)

/-- 'laws.FnExactReadNum': WHATEVER THE INPUT: true; the input reads as it did. -/
def fnExactReadNumSpec : ChangeSpec := { name := "fnExactReadNum", fn := fun _ => fun
  | [d] => { results := [.lit (.bool true)], args := [d] }
  | _ => none }
def fnExactReadNumRow : OpenClaim := { program := "ytblplkcaanmhgaa", sum := "f643eccbe27400d462cb9b2b3cef91d83d9d7af1f786a29f6f0e3d4e6fdaec23", func := "loop.example/g00321/laws.FnExactReadNum", spec := "fnExactReadNum", apart := false }
def FnExactReadNumSaid : Prop := fnExactReadNumRow.holds Try.pinned (OpenSpec.ofChange fnExactReadNumSpec)

/-- ITS FALSE NEIGHBOUR: 'it returns false'. Refute it at one input. -/
def fnExactReadNumWrong : ChangeSpec := { name := "fnExactReadNum", fn := fun _ => fun
  | [d] => { results := [.lit (.bool false)], args := [d] }
  | _ => none }
def FnExactReadNumWrongFalsely : Prop := fnExactReadNumRow.holds Try.pinned (OpenSpec.ofChange fnExactReadNumWrong)

/-- 'laws.FnExactPrefixText': WHATEVER THE INPUT: true; the input reads as it did. -/
def fnExactPrefixTextSpec : ChangeSpec := { name := "fnExactPrefixText", fn := fun _ => fun
  | [d1, d2] => { results := [.lit (.bool true)], args := [d1, d2] }
  | _ => none }
def fnExactPrefixTextRow : OpenClaim := { program := "ytblplkcaanmhgaa", sum := "f643eccbe27400d462cb9b2b3cef91d83d9d7af1f786a29f6f0e3d4e6fdaec23", func := "loop.example/g00321/laws.FnExactPrefixText", spec := "fnExactPrefixText", apart := false }
def FnExactPrefixTextSaid : Prop := fnExactPrefixTextRow.holds Try.pinned (OpenSpec.ofChange fnExactPrefixTextSpec)

/-- ITS FALSE NEIGHBOUR: 'it returns false'. Refute it at one input. -/
def fnExactPrefixTextWrong : ChangeSpec := { name := "fnExactPrefixText", fn := fun _ => fun
  | [d1, d2] => { results := [.lit (.bool false)], args := [d1, d2] }
  | _ => none }
def FnExactPrefixTextWrongFalsely : Prop := fnExactPrefixTextRow.holds Try.pinned (OpenSpec.ofChange fnExactPrefixTextWrong)

/-- 'laws.FnExactRecordText': WHATEVER THE INPUT: true; the input reads as it did. -/
def fnExactRecordTextSpec : ChangeSpec := { name := "fnExactRecordText", fn := fun _ => fun
  | [d] => { results := [.lit (.bool true)], args := [d] }
  | _ => none }
def fnExactRecordTextRow : OpenClaim := { program := "ytblplkcaanmhgaa", sum := "f643eccbe27400d462cb9b2b3cef91d83d9d7af1f786a29f6f0e3d4e6fdaec23", func := "loop.example/g00321/laws.FnExactRecordText", spec := "fnExactRecordText", apart := false }
def FnExactRecordTextSaid : Prop := fnExactRecordTextRow.holds Try.pinned (OpenSpec.ofChange fnExactRecordTextSpec)

/-- ITS FALSE NEIGHBOUR: 'it returns false'. Refute it at one input. -/
def fnExactRecordTextWrong : ChangeSpec := { name := "fnExactRecordText", fn := fun _ => fun
  | [d] => { results := [.lit (.bool false)], args := [d] }
  | _ => none }
def FnExactRecordTextWrongFalsely : Prop := fnExactRecordTextRow.holds Try.pinned (OpenSpec.ofChange fnExactRecordTextWrong)

/-- 'laws.FnExactPairsOk': WHATEVER THE INPUT: true; the input reads as it did. -/
def fnExactPairsOkSpec : ChangeSpec := { name := "fnExactPairsOk", fn := fun _ => fun
  | [d] => { results := [.lit (.bool true)], args := [d] }
  | _ => none }
def fnExactPairsOkRow : OpenClaim := { program := "ytblplkcaanmhgaa", sum := "f643eccbe27400d462cb9b2b3cef91d83d9d7af1f786a29f6f0e3d4e6fdaec23", func := "loop.example/g00321/laws.FnExactPairsOk", spec := "fnExactPairsOk", apart := false }
def FnExactPairsOkSaid : Prop := fnExactPairsOkRow.holds Try.pinned (OpenSpec.ofChange fnExactPairsOkSpec)

/-- ITS FALSE NEIGHBOUR: 'it returns false'. Refute it at one input. -/
def fnExactPairsOkWrong : ChangeSpec := { name := "fnExactPairsOk", fn := fun _ => fun
  | [d] => { results := [.lit (.bool false)], args := [d] }
  | _ => none }
def FnExactPairsOkWrongFalsely : Prop := fnExactPairsOkRow.holds Try.pinned (OpenSpec.ofChange fnExactPairsOkWrong)

/-- 'laws.FnExactAddRecord': WHATEVER THE INPUT: true; the input reads as it did. -/
def fnExactAddRecordSpec : ChangeSpec := { name := "fnExactAddRecord", fn := fun _ => fun
  | [d1, d2] => { results := [.lit (.bool true)], args := [d1, d2] }
  | _ => none }
def fnExactAddRecordRow : OpenClaim := { program := "ytblplkcaanmhgaa", sum := "f643eccbe27400d462cb9b2b3cef91d83d9d7af1f786a29f6f0e3d4e6fdaec23", func := "loop.example/g00321/laws.FnExactAddRecord", spec := "fnExactAddRecord", apart := false }
def FnExactAddRecordSaid : Prop := fnExactAddRecordRow.holds Try.pinned (OpenSpec.ofChange fnExactAddRecordSpec)

/-- ITS FALSE NEIGHBOUR: 'it returns false'. Refute it at one input. -/
def fnExactAddRecordWrong : ChangeSpec := { name := "fnExactAddRecord", fn := fun _ => fun
  | [d1, d2] => { results := [.lit (.bool false)], args := [d1, d2] }
  | _ => none }
def FnExactAddRecordWrongFalsely : Prop := fnExactAddRecordRow.holds Try.pinned (OpenSpec.ofChange fnExactAddRecordWrong)

/- THE SECOND FORM. 'bulk': how many values and letters a reading holds, each counted each time it is reached (what is shared counts as often as it is met; a slice's spare places count too). A statement '..UptoSaid' is the law's where the arguments, and the package variables that the reading takes, are together of bulk at most 1048576: NARROWER than '..Said'. Prove '..Said' where nothing that the law and all that it calls make is longer than what came in: it says more and counts as full. Else prove '..UptoSaid'. A law counts once. -/
mutual
def uptoBulk {H : Type} : DataW H → Nat
  | .lit (.string bytes) => bytes.length + 1
  | .lit _ => 1
  | .nil => 1
  | .ptr d => uptoBulk d + 1
  | .slice elems spare => uptoBulkAll elems + uptoBulkAll spare + 1
  | .agg parts => uptoBulkAll parts + 1
  | .iface _ d => uptoBulk d + 1
  | .map entries => uptoBulkEntries entries + 1
  | .held _ => 1
def uptoBulkAll {H : Type} : List (DataW H) → Nat
  | [] => 0
  | d :: r => uptoBulk d + uptoBulkAll r
def uptoBulkEntries {H : Type} : List (Lit × DataW H) → Nat
  | [] => 0
  | x :: r => uptoBulkEntry x + uptoBulkEntries r
def uptoBulkEntry {H : Type} : Lit × DataW H → Nat
  | (.string bytes, d) => bytes.length + uptoBulk d + 1
  | (_, d) => uptoBulk d + 1
 end
def uptoSmall : (H : Type) → List (DataW H) → Bool := fun _ ds => decide (uptoBulkAll ds ≤ 1048576)
def OpenSpec.upto (s : _root_.Go.ChangeSpec) : _root_.Go.OpenSpec := { _root_.Go.OpenSpec.ofChange s with cond := some uptoSmall }

/-- 'laws.FnExactPeriodOf', WHERE WHAT IT READS IS OF BULK AT MOST 1048576: true; the input reads as it did. -/
def fnExactPeriodOfUptoRow : OpenClaim := { program := "ytblplkcaanmhgaa", sum := "f643eccbe27400d462cb9b2b3cef91d83d9d7af1f786a29f6f0e3d4e6fdaec23", func := "loop.example/g00321/laws.FnExactPeriodOf", spec := "fnExactPeriodOf", apart := false, narrowed := true }
def FnExactPeriodOfUptoSaid : Prop := fnExactPeriodOfUptoRow.holds Try.pinned (OpenSpec.upto fnExactPeriodOfSpec)

/-- 'laws.FnExactCutJournal', WHERE WHAT IT READS IS OF BULK AT MOST 1048576: true; the input reads as it did. -/
def fnExactCutJournalUptoRow : OpenClaim := { program := "ytblplkcaanmhgaa", sum := "f643eccbe27400d462cb9b2b3cef91d83d9d7af1f786a29f6f0e3d4e6fdaec23", func := "loop.example/g00321/laws.FnExactCutJournal", spec := "fnExactCutJournal", apart := false, narrowed := true }
def FnExactCutJournalUptoSaid : Prop := fnExactCutJournalUptoRow.holds Try.pinned (OpenSpec.upto fnExactCutJournalSpec)

/-- 'laws.FnExactNumText', WHERE WHAT IT READS IS OF BULK AT MOST 1048576: true; the input reads as it did. -/
def fnExactNumTextUptoRow : OpenClaim := { program := "ytblplkcaanmhgaa", sum := "f643eccbe27400d462cb9b2b3cef91d83d9d7af1f786a29f6f0e3d4e6fdaec23", func := "loop.example/g00321/laws.FnExactNumText", spec := "fnExactNumText", apart := false, narrowed := true }
def FnExactNumTextUptoSaid : Prop := fnExactNumTextUptoRow.holds Try.pinned (OpenSpec.upto fnExactNumTextSpec)

/-- 'laws.FnExactCommon', WHERE WHAT IT READS IS OF BULK AT MOST 1048576: true; the input reads as it did. -/
def fnExactCommonUptoRow : OpenClaim := { program := "ytblplkcaanmhgaa", sum := "f643eccbe27400d462cb9b2b3cef91d83d9d7af1f786a29f6f0e3d4e6fdaec23", func := "loop.example/g00321/laws.FnExactCommon", spec := "fnExactCommon", apart := false, narrowed := true }
def FnExactCommonUptoSaid : Prop := fnExactCommonUptoRow.holds Try.pinned (OpenSpec.upto fnExactCommonSpec)

/-- 'laws.FnExactNibblesOk', WHERE WHAT IT READS IS OF BULK AT MOST 1048576: true; the input reads as it did. -/
def fnExactNibblesOkUptoRow : OpenClaim := { program := "ytblplkcaanmhgaa", sum := "f643eccbe27400d462cb9b2b3cef91d83d9d7af1f786a29f6f0e3d4e6fdaec23", func := "loop.example/g00321/laws.FnExactNibblesOk", spec := "fnExactNibblesOk", apart := false, narrowed := true }
def FnExactNibblesOkUptoSaid : Prop := fnExactNibblesOkUptoRow.holds Try.pinned (OpenSpec.upto fnExactNibblesOkSpec)

/-- 'laws.FnExactNibblesOf', WHERE WHAT IT READS IS OF BULK AT MOST 1048576: true; the input reads as it did. -/
def fnExactNibblesOfUptoRow : OpenClaim := { program := "ytblplkcaanmhgaa", sum := "f643eccbe27400d462cb9b2b3cef91d83d9d7af1f786a29f6f0e3d4e6fdaec23", func := "loop.example/g00321/laws.FnExactNibblesOf", spec := "fnExactNibblesOf", apart := false, narrowed := true }
def FnExactNibblesOfUptoSaid : Prop := fnExactNibblesOfUptoRow.holds Try.pinned (OpenSpec.upto fnExactNibblesOfSpec)

/-- 'laws.FnExactBranchOk', WHERE WHAT IT READS IS OF BULK AT MOST 1048576: true; the input reads as it did. -/
def fnExactBranchOkUptoRow : OpenClaim := { program := "ytblplkcaanmhgaa", sum := "f643eccbe27400d462cb9b2b3cef91d83d9d7af1f786a29f6f0e3d4e6fdaec23", func := "loop.example/g00321/laws.FnExactBranchOk", spec := "fnExactBranchOk", apart := false, narrowed := true }
def FnExactBranchOkUptoSaid : Prop := fnExactBranchOkUptoRow.holds Try.pinned (OpenSpec.upto fnExactBranchOkSpec)

/-- 'laws.FnExactReadNum', WHERE WHAT IT READS IS OF BULK AT MOST 1048576: true; the input reads as it did. -/
def fnExactReadNumUptoRow : OpenClaim := { program := "ytblplkcaanmhgaa", sum := "f643eccbe27400d462cb9b2b3cef91d83d9d7af1f786a29f6f0e3d4e6fdaec23", func := "loop.example/g00321/laws.FnExactReadNum", spec := "fnExactReadNum", apart := false, narrowed := true }
def FnExactReadNumUptoSaid : Prop := fnExactReadNumUptoRow.holds Try.pinned (OpenSpec.upto fnExactReadNumSpec)

/-- 'laws.FnExactPrefixText', WHERE WHAT IT READS IS OF BULK AT MOST 1048576: true; the input reads as it did. -/
def fnExactPrefixTextUptoRow : OpenClaim := { program := "ytblplkcaanmhgaa", sum := "f643eccbe27400d462cb9b2b3cef91d83d9d7af1f786a29f6f0e3d4e6fdaec23", func := "loop.example/g00321/laws.FnExactPrefixText", spec := "fnExactPrefixText", apart := false, narrowed := true }
def FnExactPrefixTextUptoSaid : Prop := fnExactPrefixTextUptoRow.holds Try.pinned (OpenSpec.upto fnExactPrefixTextSpec)

/-- 'laws.FnExactRecordText', WHERE WHAT IT READS IS OF BULK AT MOST 1048576: true; the input reads as it did. -/
def fnExactRecordTextUptoRow : OpenClaim := { program := "ytblplkcaanmhgaa", sum := "f643eccbe27400d462cb9b2b3cef91d83d9d7af1f786a29f6f0e3d4e6fdaec23", func := "loop.example/g00321/laws.FnExactRecordText", spec := "fnExactRecordText", apart := false, narrowed := true }
def FnExactRecordTextUptoSaid : Prop := fnExactRecordTextUptoRow.holds Try.pinned (OpenSpec.upto fnExactRecordTextSpec)

/-- 'laws.FnExactPairsOk', WHERE WHAT IT READS IS OF BULK AT MOST 1048576: true; the input reads as it did. -/
def fnExactPairsOkUptoRow : OpenClaim := { program := "ytblplkcaanmhgaa", sum := "f643eccbe27400d462cb9b2b3cef91d83d9d7af1f786a29f6f0e3d4e6fdaec23", func := "loop.example/g00321/laws.FnExactPairsOk", spec := "fnExactPairsOk", apart := false, narrowed := true }
def FnExactPairsOkUptoSaid : Prop := fnExactPairsOkUptoRow.holds Try.pinned (OpenSpec.upto fnExactPairsOkSpec)

/-- 'laws.FnExactAddRecord', WHERE WHAT IT READS IS OF BULK AT MOST 1048576: true; the input reads as it did. -/
def fnExactAddRecordUptoRow : OpenClaim := { program := "ytblplkcaanmhgaa", sum := "f643eccbe27400d462cb9b2b3cef91d83d9d7af1f786a29f6f0e3d4e6fdaec23", func := "loop.example/g00321/laws.FnExactAddRecord", spec := "fnExactAddRecord", apart := false, narrowed := true }
def FnExactAddRecordUptoSaid : Prop := fnExactAddRecordUptoRow.holds Try.pinned (OpenSpec.upto fnExactAddRecordSpec)

end Rows
end Go.Proofs.Ytblplkcaanmhgaa
