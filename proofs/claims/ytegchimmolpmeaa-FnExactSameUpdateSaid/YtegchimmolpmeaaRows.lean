/-
  No cell of these rows narrows 'for every input' (looked for: loops, veiled, ifaces, maps, wideKeys, modest, calm, conditions, laid).
  DERIVED. THE GIVEN ROWS OF THIS SEAT. 11 by the template 'for every input the law returns true; each argument reads behind the call as it read before'; 0 by the template 'total and deterministic' (their statements: YtegchimmolpmeaaTotals.lean).
  GIVEN WITH THE SEED: the statements are not yours to turn. If you find one false, say at which input.
  Laid BY PROGRAM, IN A SANDBOX (cutbox-rows.mjs): the forced cells as the released guide's own fill.sh prints them over the translation ab8334479a18abd0… (all of the seat's roots in one cut). By AI agents, Wed Nov 11 2026. No macro, syntax, notation, axiom, sorry.
-/
import Derived.Test.YtegchimmolpmeaaChecked
import GoSem.Claim
import GoSem.ClaimJoined
import GoSem.ClaimMapViews
import Derived.JoinedTies
import Derived.KernelRfl
namespace Go.Proofs.Ytegchimmolpmeaa
/- THE CELL 'sum', in the pinned program and in every row, IS THE sha256 OF THE DUMP (.gsa) THAT YtegchimmolpmeaaProg.lean LOADS. Nothing in Lean hashes anything: it is a label: what it is worth is what the hold of that sum in a sandbox is worth. -/
noncomputable def Try.pinned : Pinned := { name := "ytegchimmolpmeaa", sum := "ab8334479a18abd068b86e3615ee434d2117b42b6f9e50353f5399281660f77c", checked := Try.checked }
namespace Rows
def none {H : Type} : Left H := { results := [], args := [] }

/-- 'laws.FnExactProofText': WHATEVER THE INPUT: true; the input reads as it did. -/
def fnExactProofTextSpec : ChangeSpec := { name := "fnExactProofText", fn := fun _ => fun
  | [d] => { results := [.lit (.bool true)], args := [d] }
  | _ => none }
def fnExactProofTextRow : OpenClaim := { program := "ytegchimmolpmeaa", sum := "ab8334479a18abd068b86e3615ee434d2117b42b6f9e50353f5399281660f77c", func := "loop.example/g00321/laws.FnExactProofText", spec := "fnExactProofText", apart := false }
def FnExactProofTextSaid : Prop := fnExactProofTextRow.holds Try.pinned (OpenSpec.ofChange fnExactProofTextSpec)

/-- ITS FALSE NEIGHBOUR: 'it returns false'. Refute it at one input. -/
def fnExactProofTextWrong : ChangeSpec := { name := "fnExactProofText", fn := fun _ => fun
  | [d] => { results := [.lit (.bool false)], args := [d] }
  | _ => none }
def FnExactProofTextWrongFalsely : Prop := fnExactProofTextRow.holds Try.pinned (OpenSpec.ofChange fnExactProofTextWrong)

/-- 'laws.FnExactSigners': WHATEVER THE INPUT: true; the input reads as it did. -/
def fnExactSignersSpec : ChangeSpec := { name := "fnExactSigners", fn := fun _ => fun
  | [d1, d2] => { results := [.lit (.bool true)], args := [d1, d2] }
  | _ => none }
def fnExactSignersRow : OpenClaim := { program := "ytegchimmolpmeaa", sum := "ab8334479a18abd068b86e3615ee434d2117b42b6f9e50353f5399281660f77c", func := "loop.example/g00321/laws.FnExactSigners", spec := "fnExactSigners", apart := false }
def FnExactSignersSaid : Prop := fnExactSignersRow.holds Try.pinned (OpenSpec.ofChange fnExactSignersSpec)

/-- ITS FALSE NEIGHBOUR: 'it returns false'. Refute it at one input. -/
def fnExactSignersWrong : ChangeSpec := { name := "fnExactSigners", fn := fun _ => fun
  | [d1, d2] => { results := [.lit (.bool false)], args := [d1, d2] }
  | _ => none }
def FnExactSignersWrongFalsely : Prop := fnExactSignersRow.holds Try.pinned (OpenSpec.ofChange fnExactSignersWrong)

/-- 'laws.FnExactInputSum': WHATEVER THE INPUT: true; the input reads as it did. -/
def fnExactInputSumSpec : ChangeSpec := { name := "fnExactInputSum", fn := fun _ => fun
  | [d1, d2] => { results := [.lit (.bool true)], args := [d1, d2] }
  | _ => none }
def fnExactInputSumRow : OpenClaim := { program := "ytegchimmolpmeaa", sum := "ab8334479a18abd068b86e3615ee434d2117b42b6f9e50353f5399281660f77c", func := "loop.example/g00321/laws.FnExactInputSum", spec := "fnExactInputSum", apart := false }
def FnExactInputSumSaid : Prop := fnExactInputSumRow.holds Try.pinned (OpenSpec.ofChange fnExactInputSumSpec)

/-- ITS FALSE NEIGHBOUR: 'it returns false'. Refute it at one input. -/
def fnExactInputSumWrong : ChangeSpec := { name := "fnExactInputSum", fn := fun _ => fun
  | [d1, d2] => { results := [.lit (.bool false)], args := [d1, d2] }
  | _ => none }
def FnExactInputSumWrongFalsely : Prop := fnExactInputSumRow.holds Try.pinned (OpenSpec.ofChange fnExactInputSumWrong)

/-- 'laws.FnExactReadProof': WHATEVER THE INPUT: true; the input reads as it did. -/
def fnExactReadProofSpec : ChangeSpec := { name := "fnExactReadProof", fn := fun _ => fun
  | [d] => { results := [.lit (.bool true)], args := [d] }
  | _ => none }
def fnExactReadProofRow : OpenClaim := { program := "ytegchimmolpmeaa", sum := "ab8334479a18abd068b86e3615ee434d2117b42b6f9e50353f5399281660f77c", func := "loop.example/g00321/laws.FnExactReadProof", spec := "fnExactReadProof", apart := false }
def FnExactReadProofSaid : Prop := fnExactReadProofRow.holds Try.pinned (OpenSpec.ofChange fnExactReadProofSpec)

/-- ITS FALSE NEIGHBOUR: 'it returns false'. Refute it at one input. -/
def fnExactReadProofWrong : ChangeSpec := { name := "fnExactReadProof", fn := fun _ => fun
  | [d] => { results := [.lit (.bool false)], args := [d] }
  | _ => none }
def FnExactReadProofWrongFalsely : Prop := fnExactReadProofRow.holds Try.pinned (OpenSpec.ofChange fnExactReadProofWrong)

/-- 'laws.FnExactClientOk': WHATEVER THE INPUT: true; the input reads as it did. -/
def fnExactClientOkSpec : ChangeSpec := { name := "fnExactClientOk", fn := fun _ => fun
  | [d] => { results := [.lit (.bool true)], args := [d] }
  | _ => none }
def fnExactClientOkRow : OpenClaim := { program := "ytegchimmolpmeaa", sum := "ab8334479a18abd068b86e3615ee434d2117b42b6f9e50353f5399281660f77c", func := "loop.example/g00321/laws.FnExactClientOk", spec := "fnExactClientOk", apart := false }
def FnExactClientOkSaid : Prop := fnExactClientOkRow.holds Try.pinned (OpenSpec.ofChange fnExactClientOkSpec)

/-- ITS FALSE NEIGHBOUR: 'it returns false'. Refute it at one input. -/
def fnExactClientOkWrong : ChangeSpec := { name := "fnExactClientOk", fn := fun _ => fun
  | [d] => { results := [.lit (.bool false)], args := [d] }
  | _ => none }
def FnExactClientOkWrongFalsely : Prop := fnExactClientOkRow.holds Try.pinned (OpenSpec.ofChange fnExactClientOkWrong)

/-- 'laws.FnExactUpdateOk': WHATEVER THE INPUT: true; the input reads as it did. -/
def fnExactUpdateOkSpec : ChangeSpec := { name := "fnExactUpdateOk", fn := fun _ => fun
  | [d] => { results := [.lit (.bool true)], args := [d] }
  | _ => none }
def fnExactUpdateOkRow : OpenClaim := { program := "ytegchimmolpmeaa", sum := "ab8334479a18abd068b86e3615ee434d2117b42b6f9e50353f5399281660f77c", func := "loop.example/g00321/laws.FnExactUpdateOk", spec := "fnExactUpdateOk", apart := false }
def FnExactUpdateOkSaid : Prop := fnExactUpdateOkRow.holds Try.pinned (OpenSpec.ofChange fnExactUpdateOkSpec)

/-- ITS FALSE NEIGHBOUR: 'it returns false'. Refute it at one input. -/
def fnExactUpdateOkWrong : ChangeSpec := { name := "fnExactUpdateOk", fn := fun _ => fun
  | [d] => { results := [.lit (.bool false)], args := [d] }
  | _ => none }
def FnExactUpdateOkWrongFalsely : Prop := fnExactUpdateOkRow.holds Try.pinned (OpenSpec.ofChange fnExactUpdateOkWrong)

/-- 'laws.FnExactProofOk': WHATEVER THE INPUT: true; the input reads as it did. -/
def fnExactProofOkSpec : ChangeSpec := { name := "fnExactProofOk", fn := fun _ => fun
  | [d1, d2, d3] => { results := [.lit (.bool true)], args := [d1, d2, d3] }
  | _ => none }
def fnExactProofOkRow : OpenClaim := { program := "ytegchimmolpmeaa", sum := "ab8334479a18abd068b86e3615ee434d2117b42b6f9e50353f5399281660f77c", func := "loop.example/g00321/laws.FnExactProofOk", spec := "fnExactProofOk", apart := false }
def FnExactProofOkSaid : Prop := fnExactProofOkRow.holds Try.pinned (OpenSpec.ofChange fnExactProofOkSpec)

/-- ITS FALSE NEIGHBOUR: 'it returns false'. Refute it at one input. -/
def fnExactProofOkWrong : ChangeSpec := { name := "fnExactProofOk", fn := fun _ => fun
  | [d1, d2, d3] => { results := [.lit (.bool false)], args := [d1, d2, d3] }
  | _ => none }
def FnExactProofOkWrongFalsely : Prop := fnExactProofOkRow.holds Try.pinned (OpenSpec.ofChange fnExactProofOkWrong)

/-- 'laws.FnExactMakeKeys': WHATEVER THE INPUT: true; the input reads as it did. -/
def fnExactMakeKeysSpec : ChangeSpec := { name := "fnExactMakeKeys", fn := fun _ => fun
  | [d1, d2] => { results := [.lit (.bool true)], args := [d1, d2] }
  | _ => none }
def fnExactMakeKeysRow : OpenClaim := { program := "ytegchimmolpmeaa", sum := "ab8334479a18abd068b86e3615ee434d2117b42b6f9e50353f5399281660f77c", func := "loop.example/g00321/laws.FnExactMakeKeys", spec := "fnExactMakeKeys", apart := false }
def FnExactMakeKeysSaid : Prop := fnExactMakeKeysRow.holds Try.pinned (OpenSpec.ofChange fnExactMakeKeysSpec)

/-- ITS FALSE NEIGHBOUR: 'it returns false'. Refute it at one input. -/
def fnExactMakeKeysWrong : ChangeSpec := { name := "fnExactMakeKeys", fn := fun _ => fun
  | [d1, d2] => { results := [.lit (.bool false)], args := [d1, d2] }
  | _ => none }
def FnExactMakeKeysWrongFalsely : Prop := fnExactMakeKeysRow.holds Try.pinned (OpenSpec.ofChange fnExactMakeKeysWrong)

/-- 'laws.FnExactFakeProof': WHATEVER THE INPUT: true; the input reads as it did. -/
def fnExactFakeProofSpec : ChangeSpec := { name := "fnExactFakeProof", fn := fun _ => fun
  | [d1, d2, d3, d4, d5] => { results := [.lit (.bool true)], args := [d1, d2, d3, d4, d5] }
  | _ => none }
def fnExactFakeProofRow : OpenClaim := { program := "ytegchimmolpmeaa", sum := "ab8334479a18abd068b86e3615ee434d2117b42b6f9e50353f5399281660f77c", func := "loop.example/g00321/laws.FnExactFakeProof", spec := "fnExactFakeProof", apart := false }
def FnExactFakeProofSaid : Prop := fnExactFakeProofRow.holds Try.pinned (OpenSpec.ofChange fnExactFakeProofSpec)

/-- ITS FALSE NEIGHBOUR: 'it returns false'. Refute it at one input. -/
def fnExactFakeProofWrong : ChangeSpec := { name := "fnExactFakeProof", fn := fun _ => fun
  | [d1, d2, d3, d4, d5] => { results := [.lit (.bool false)], args := [d1, d2, d3, d4, d5] }
  | _ => none }
def FnExactFakeProofWrongFalsely : Prop := fnExactFakeProofRow.holds Try.pinned (OpenSpec.ofChange fnExactFakeProofWrong)

/-- 'laws.FnExactUpdateText': WHATEVER THE INPUT: true; the input reads as it did. -/
def fnExactUpdateTextSpec : ChangeSpec := { name := "fnExactUpdateText", fn := fun _ => fun
  | [d] => { results := [.lit (.bool true)], args := [d] }
  | _ => none }
def fnExactUpdateTextRow : OpenClaim := { program := "ytegchimmolpmeaa", sum := "ab8334479a18abd068b86e3615ee434d2117b42b6f9e50353f5399281660f77c", func := "loop.example/g00321/laws.FnExactUpdateText", spec := "fnExactUpdateText", inPlace := ["internal/abi.NoEscape"], apart := false }
def FnExactUpdateTextSaid : Prop := fnExactUpdateTextRow.holds Try.pinned (OpenSpec.ofChange fnExactUpdateTextSpec)

/-- ITS FALSE NEIGHBOUR: 'it returns false'. Refute it at one input. -/
def fnExactUpdateTextWrong : ChangeSpec := { name := "fnExactUpdateText", fn := fun _ => fun
  | [d] => { results := [.lit (.bool false)], args := [d] }
  | _ => none }
def FnExactUpdateTextWrongFalsely : Prop := fnExactUpdateTextRow.holds Try.pinned (OpenSpec.ofChange fnExactUpdateTextWrong)

/-- 'laws.FnExactSameUpdate': WHATEVER THE INPUT: true; the input reads as it did. -/
def fnExactSameUpdateSpec : ChangeSpec := { name := "fnExactSameUpdate", fn := fun _ => fun
  | [d1, d2] => { results := [.lit (.bool true)], args := [d1, d2] }
  | _ => none }
def fnExactSameUpdateRow : OpenClaim := { program := "ytegchimmolpmeaa", sum := "ab8334479a18abd068b86e3615ee434d2117b42b6f9e50353f5399281660f77c", func := "loop.example/g00321/laws.FnExactSameUpdate", spec := "fnExactSameUpdate", inPlace := ["internal/abi.NoEscape"], apart := false }
def FnExactSameUpdateSaid : Prop := fnExactSameUpdateRow.holds Try.pinned (OpenSpec.ofChange fnExactSameUpdateSpec)

/-- ITS FALSE NEIGHBOUR: 'it returns false'. Refute it at one input. -/
def fnExactSameUpdateWrong : ChangeSpec := { name := "fnExactSameUpdate", fn := fun _ => fun
  | [d1, d2] => { results := [.lit (.bool false)], args := [d1, d2] }
  | _ => none }
def FnExactSameUpdateWrongFalsely : Prop := fnExactSameUpdateRow.holds Try.pinned (OpenSpec.ofChange fnExactSameUpdateWrong)

/- THE SECOND FORM. 'bulk': how many values and letters a reading holds, each counted each time it is reached (what is shared counts as often as it is met; a slice's spare places count too). A statement '..UptoSaid' is the law's where the arguments, and the package variables that the reading takes, are together of bulk at most 1048576: NARROWER than '..Said'. Prove '..Said' where nothing that the law and all that it calls make is longer than what came in: it says more and counts as full. Else prove '..UptoSaid'. A law counts once. -/
mutual
def uptoBulk {H : Type} : DataW H → Nat
  | .lit (.string bytes) => bytes.length + 1
  | .lit _ => 1
  | .nil => 1
  | .ptr d => uptoBulk d + 1
  | .slice elems spare => uptoBulkAll elems + uptoBulkAll spare + 1
  | .agg parts => uptoBulkAll parts + 1
  | .iface _ d => uptoBulk d + 1
  | .map entries => uptoBulkEntries entries + 1
  | .held _ => 1
def uptoBulkAll {H : Type} : List (DataW H) → Nat
  | [] => 0
  | d :: r => uptoBulk d + uptoBulkAll r
def uptoBulkEntries {H : Type} : List (Lit × DataW H) → Nat
  | [] => 0
  | x :: r => uptoBulkEntry x + uptoBulkEntries r
def uptoBulkEntry {H : Type} : Lit × DataW H → Nat
  | (.string bytes, d) => bytes.length + uptoBulk d + 1
  | (_, d) => uptoBulk d + 1
 end
def uptoSmall : (H : Type) → List (DataW H) → Bool := fun _ ds => decide (uptoBulkAll ds ≤ 1048576)
def OpenSpec.upto (s : _root_.Go.ChangeSpec) : _root_.Go.OpenSpec := { _root_.Go.OpenSpec.ofChange s with cond := some uptoSmall }

/-- 'laws.FnExactProofText', WHERE WHAT IT READS IS OF BULK AT MOST 1048576: true; the input reads as it did. -/
def fnExactProofTextUptoRow : OpenClaim := { program := "ytegchimmolpmeaa", sum := "ab8334479a18abd068b86e3615ee434d2117b42b6f9e50353f5399281660f77c", func := "loop.example/g00321/laws.FnExactProofText", spec := "fnExactProofText", apart := false, narrowed := true }
def FnExactProofTextUptoSaid : Prop := fnExactProofTextUptoRow.holds Try.pinned (OpenSpec.upto fnExactProofTextSpec)

/-- 'laws.FnExactSigners', WHERE WHAT IT READS IS OF BULK AT MOST 1048576: true; the input reads as it did. -/
def fnExactSignersUptoRow : OpenClaim := { program := "ytegchimmolpmeaa", sum := "ab8334479a18abd068b86e3615ee434d2117b42b6f9e50353f5399281660f77c", func := "loop.example/g00321/laws.FnExactSigners", spec := "fnExactSigners", apart := false, narrowed := true }
def FnExactSignersUptoSaid : Prop := fnExactSignersUptoRow.holds Try.pinned (OpenSpec.upto fnExactSignersSpec)

/-- 'laws.FnExactInputSum', WHERE WHAT IT READS IS OF BULK AT MOST 1048576: true; the input reads as it did. -/
def fnExactInputSumUptoRow : OpenClaim := { program := "ytegchimmolpmeaa", sum := "ab8334479a18abd068b86e3615ee434d2117b42b6f9e50353f5399281660f77c", func := "loop.example/g00321/laws.FnExactInputSum", spec := "fnExactInputSum", apart := false, narrowed := true }
def FnExactInputSumUptoSaid : Prop := fnExactInputSumUptoRow.holds Try.pinned (OpenSpec.upto fnExactInputSumSpec)

/-- 'laws.FnExactReadProof', WHERE WHAT IT READS IS OF BULK AT MOST 1048576: true; the input reads as it did. -/
def fnExactReadProofUptoRow : OpenClaim := { program := "ytegchimmolpmeaa", sum := "ab8334479a18abd068b86e3615ee434d2117b42b6f9e50353f5399281660f77c", func := "loop.example/g00321/laws.FnExactReadProof", spec := "fnExactReadProof", apart := false, narrowed := true }
def FnExactReadProofUptoSaid : Prop := fnExactReadProofUptoRow.holds Try.pinned (OpenSpec.upto fnExactReadProofSpec)

/-- 'laws.FnExactClientOk', WHERE WHAT IT READS IS OF BULK AT MOST 1048576: true; the input reads as it did. -/
def fnExactClientOkUptoRow : OpenClaim := { program := "ytegchimmolpmeaa", sum := "ab8334479a18abd068b86e3615ee434d2117b42b6f9e50353f5399281660f77c", func := "loop.example/g00321/laws.FnExactClientOk", spec := "fnExactClientOk", apart := false, narrowed := true }
def FnExactClientOkUptoSaid : Prop := fnExactClientOkUptoRow.holds Try.pinned (OpenSpec.upto fnExactClientOkSpec)

/-- 'laws.FnExactUpdateOk', WHERE WHAT IT READS IS OF BULK AT MOST 1048576: true; the input reads as it did. -/
def fnExactUpdateOkUptoRow : OpenClaim := { program := "ytegchimmolpmeaa", sum := "ab8334479a18abd068b86e3615ee434d2117b42b6f9e50353f5399281660f77c", func := "loop.example/g00321/laws.FnExactUpdateOk", spec := "fnExactUpdateOk", apart := false, narrowed := true }
def FnExactUpdateOkUptoSaid : Prop := fnExactUpdateOkUptoRow.holds Try.pinned (OpenSpec.upto fnExactUpdateOkSpec)

/-- 'laws.FnExactProofOk', WHERE WHAT IT READS IS OF BULK AT MOST 1048576: true; the input reads as it did. -/
def fnExactProofOkUptoRow : OpenClaim := { program := "ytegchimmolpmeaa", sum := "ab8334479a18abd068b86e3615ee434d2117b42b6f9e50353f5399281660f77c", func := "loop.example/g00321/laws.FnExactProofOk", spec := "fnExactProofOk", apart := false, narrowed := true }
def FnExactProofOkUptoSaid : Prop := fnExactProofOkUptoRow.holds Try.pinned (OpenSpec.upto fnExactProofOkSpec)

/-- 'laws.FnExactMakeKeys', WHERE WHAT IT READS IS OF BULK AT MOST 1048576: true; the input reads as it did. -/
def fnExactMakeKeysUptoRow : OpenClaim := { program := "ytegchimmolpmeaa", sum := "ab8334479a18abd068b86e3615ee434d2117b42b6f9e50353f5399281660f77c", func := "loop.example/g00321/laws.FnExactMakeKeys", spec := "fnExactMakeKeys", apart := false, narrowed := true }
def FnExactMakeKeysUptoSaid : Prop := fnExactMakeKeysUptoRow.holds Try.pinned (OpenSpec.upto fnExactMakeKeysSpec)

/-- 'laws.FnExactFakeProof', WHERE WHAT IT READS IS OF BULK AT MOST 1048576: true; the input reads as it did. -/
def fnExactFakeProofUptoRow : OpenClaim := { program := "ytegchimmolpmeaa", sum := "ab8334479a18abd068b86e3615ee434d2117b42b6f9e50353f5399281660f77c", func := "loop.example/g00321/laws.FnExactFakeProof", spec := "fnExactFakeProof", apart := false, narrowed := true }
def FnExactFakeProofUptoSaid : Prop := fnExactFakeProofUptoRow.holds Try.pinned (OpenSpec.upto fnExactFakeProofSpec)

/-- 'laws.FnExactUpdateText', WHERE WHAT IT READS IS OF BULK AT MOST 1048576: true; the input reads as it did. -/
def fnExactUpdateTextUptoRow : OpenClaim := { program := "ytegchimmolpmeaa", sum := "ab8334479a18abd068b86e3615ee434d2117b42b6f9e50353f5399281660f77c", func := "loop.example/g00321/laws.FnExactUpdateText", spec := "fnExactUpdateText", inPlace := ["internal/abi.NoEscape"], apart := false, narrowed := true }
def FnExactUpdateTextUptoSaid : Prop := fnExactUpdateTextUptoRow.holds Try.pinned (OpenSpec.upto fnExactUpdateTextSpec)

/-- 'laws.FnExactSameUpdate', WHERE WHAT IT READS IS OF BULK AT MOST 1048576: true; the input reads as it did. -/
def fnExactSameUpdateUptoRow : OpenClaim := { program := "ytegchimmolpmeaa", sum := "ab8334479a18abd068b86e3615ee434d2117b42b6f9e50353f5399281660f77c", func := "loop.example/g00321/laws.FnExactSameUpdate", spec := "fnExactSameUpdate", inPlace := ["internal/abi.NoEscape"], apart := false, narrowed := true }
def FnExactSameUpdateUptoSaid : Prop := fnExactSameUpdateUptoRow.holds Try.pinned (OpenSpec.upto fnExactSameUpdateSpec)

end Rows
end Go.Proofs.Ytegchimmolpmeaa
