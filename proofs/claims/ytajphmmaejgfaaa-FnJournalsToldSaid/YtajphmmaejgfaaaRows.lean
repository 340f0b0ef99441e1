/-
  No cell of these rows narrows 'for every input' (looked for: loops, veiled, ifaces, maps, wideKeys, modest, calm, conditions, laid).
  DERIVED. THE GIVEN ROWS OF THIS SEAT. 7 by the template 'for every input the law returns true; each argument reads behind the call as it read before'; 0 by the template 'total and deterministic' (their statements: YtajphmmaejgfaaaTotals.lean).
  GIVEN WITH THE SEED: the statements are not yours to turn. If you find one false, say at which input.
  Laid BY PROGRAM, IN A SANDBOX (cutbox-rows.mjs): the forced cells as the released guide's own fill.sh prints them over the translation 80feb051d6576641… (all of the seat's roots in one cut). By AI agents, Wed Nov 11 2026. No macro, syntax, notation, axiom, sorry.
-/
import Derived.Test.YtajphmmaejgfaaaChecked
import GoSem.Claim
import GoSem.ClaimJoined
import GoSem.ClaimMapViews
import Derived.JoinedTies
import Derived.KernelRfl
namespace Go.Proofs.Ytajphmmaejgfaaa
/- THE CELL 'sum', in the pinned program and in every row, IS THE sha256 OF THE DUMP (.gsa) THAT YtajphmmaejgfaaaProg.lean LOADS. Nothing in Lean hashes anything: it is a label: what it is worth is what the hold of that sum in a sandbox is worth. -/
noncomputable def Try.pinned : Pinned := { name := "ytajphmmaejgfaaa", sum := "80feb051d65766413179df98475f5e0bd8e2a68c3cd305665a9d167f5ae06991", checked := Try.checked }
namespace Rows
def none {H : Type} : Left H := { results := [], args := [] }

/-- 'laws.FnJournals': WHATEVER THE INPUT: true; the input reads as it did. -/
def fnJournalsSpec : ChangeSpec := { name := "fnJournals", fn := fun _ => fun
  | [d] => { results := [.lit (.bool true)], args := [d] }
  | _ => none }
def fnJournalsRow : OpenClaim := { program := "ytajphmmaejgfaaa", sum := "80feb051d65766413179df98475f5e0bd8e2a68c3cd305665a9d167f5ae06991", func := "loop.example/g00321/laws.FnJournals", spec := "fnJournals", apart := false }
def FnJournalsSaid : Prop := fnJournalsRow.holds Try.pinned (OpenSpec.ofChange fnJournalsSpec)

/-- ITS FALSE NEIGHBOUR: 'it returns false'. Refute it at one input. -/
def fnJournalsWrong : ChangeSpec := { name := "fnJournals", fn := fun _ => fun
  | [d] => { results := [.lit (.bool false)], args := [d] }
  | _ => none }
def FnJournalsWrongFalsely : Prop := fnJournalsRow.holds Try.pinned (OpenSpec.ofChange fnJournalsWrong)

/-- 'laws.FnJournalsTold': WHATEVER THE INPUT: true; the input reads as it did. -/
def fnJournalsToldSpec : ChangeSpec := { name := "fnJournalsTold", fn := fun _ => fun
  | [d] => { results := [.lit (.bool true)], args := [d] }
  | _ => none }
def fnJournalsToldRow : OpenClaim := { program := "ytajphmmaejgfaaa", sum := "80feb051d65766413179df98475f5e0bd8e2a68c3cd305665a9d167f5ae06991", func := "loop.example/g00321/laws.FnJournalsTold", spec := "fnJournalsTold", apart := false }
def FnJournalsToldSaid : Prop := fnJournalsToldRow.holds Try.pinned (OpenSpec.ofChange fnJournalsToldSpec)

/-- ITS FALSE NEIGHBOUR: 'it returns false'. Refute it at one input. -/
def fnJournalsToldWrong : ChangeSpec := { name := "fnJournalsTold", fn := fun _ => fun
  | [d] => { results := [.lit (.bool false)], args := [d] }
  | _ => none }
def FnJournalsToldWrongFalsely : Prop := fnJournalsToldRow.holds Try.pinned (OpenSpec.ofChange fnJournalsToldWrong)

/-- 'laws.FnItems': WHATEVER THE INPUT: true; the input reads as it did. -/
def fnItemsSpec : ChangeSpec := { name := "fnItems", fn := fun _ => fun
  | [d] => { results := [.lit (.bool true)], args := [d] }
  | _ => none }
def fnItemsRow : OpenClaim := { program := "ytajphmmaejgfaaa", sum := "80feb051d65766413179df98475f5e0bd8e2a68c3cd305665a9d167f5ae06991", func := "loop.example/g00321/laws.FnItems", spec := "fnItems", inPlace := ["internal/abi.NoEscape"], unfollowed := true, recurses := true, apart := false }
def FnItemsSaid : Prop := fnItemsRow.holds Try.pinned (OpenSpec.ofChange fnItemsSpec)

/-- ITS FALSE NEIGHBOUR: 'it returns false'. Refute it at one input. -/
def fnItemsWrong : ChangeSpec := { name := "fnItems", fn := fun _ => fun
  | [d] => { results := [.lit (.bool false)], args := [d] }
  | _ => none }
def FnItemsWrongFalsely : Prop := fnItemsRow.holds Try.pinned (OpenSpec.ofChange fnItemsWrong)

/-- 'laws.FnQapsTold': WHATEVER THE INPUT: true; the input reads as it did. -/
def fnQapsToldSpec : ChangeSpec := { name := "fnQapsTold", fn := fun _ => fun
  | [d] => { results := [.lit (.bool true)], args := [d] }
  | _ => none }
def fnQapsToldRow : OpenClaim := { program := "ytajphmmaejgfaaa", sum := "80feb051d65766413179df98475f5e0bd8e2a68c3cd305665a9d167f5ae06991", func := "loop.example/g00321/laws.FnQapsTold", spec := "fnQapsTold", apart := false }
def FnQapsToldSaid : Prop := fnQapsToldRow.holds Try.pinned (OpenSpec.ofChange fnQapsToldSpec)

/-- ITS FALSE NEIGHBOUR: 'it returns false'. Refute it at one input. -/
def fnQapsToldWrong : ChangeSpec := { name := "fnQapsTold", fn := fun _ => fun
  | [d] => { results := [.lit (.bool false)], args := [d] }
  | _ => none }
def FnQapsToldWrongFalsely : Prop := fnQapsToldRow.holds Try.pinned (OpenSpec.ofChange fnQapsToldWrong)

/-- 'laws.FnFakes': WHATEVER THE INPUT: true; the input reads as it did. -/
def fnFakesSpec : ChangeSpec := { name := "fnFakes", fn := fun _ => fun
  | [d] => { results := [.lit (.bool true)], args := [d] }
  | _ => none }
def fnFakesRow : OpenClaim := { program := "ytajphmmaejgfaaa", sum := "80feb051d65766413179df98475f5e0bd8e2a68c3cd305665a9d167f5ae06991", func := "loop.example/g00321/laws.FnFakes", spec := "fnFakes", apart := false }
def FnFakesSaid : Prop := fnFakesRow.holds Try.pinned (OpenSpec.ofChange fnFakesSpec)

/-- ITS FALSE NEIGHBOUR: 'it returns false'. Refute it at one input. -/
def fnFakesWrong : ChangeSpec := { name := "fnFakes", fn := fun _ => fun
  | [d] => { results := [.lit (.bool false)], args := [d] }
  | _ => none }
def FnFakesWrongFalsely : Prop := fnFakesRow.holds Try.pinned (OpenSpec.ofChange fnFakesWrong)

/-- 'laws.FnProves': WHATEVER THE INPUT: true; the input reads as it did. -/
def fnProvesSpec : ChangeSpec := { name := "fnProves", fn := fun _ => fun
  | [d] => { results := [.lit (.bool true)], args := [d] }
  | _ => none }
def fnProvesRow : OpenClaim := { program := "ytajphmmaejgfaaa", sum := "80feb051d65766413179df98475f5e0bd8e2a68c3cd305665a9d167f5ae06991", func := "loop.example/g00321/laws.FnProves", spec := "fnProves", apart := false }
def FnProvesSaid : Prop := fnProvesRow.holds Try.pinned (OpenSpec.ofChange fnProvesSpec)

/-- ITS FALSE NEIGHBOUR: 'it returns false'. Refute it at one input. -/
def fnProvesWrong : ChangeSpec := { name := "fnProves", fn := fun _ => fun
  | [d] => { results := [.lit (.bool false)], args := [d] }
  | _ => none }
def FnProvesWrongFalsely : Prop := fnProvesRow.holds Try.pinned (OpenSpec.ofChange fnProvesWrong)

/-- 'laws.FnProvesOther': WHATEVER THE INPUT: true; the input reads as it did. -/
def fnProvesOtherSpec : ChangeSpec := { name := "fnProvesOther", fn := fun _ => fun
  | [d] => { results := [.lit (.bool true)], args := [d] }
  | _ => none }
def fnProvesOtherRow : OpenClaim := { program := "ytajphmmaejgfaaa", sum := "80feb051d65766413179df98475f5e0bd8e2a68c3cd305665a9d167f5ae06991", func := "loop.example/g00321/laws.FnProvesOther", spec := "fnProvesOther", apart := false }
def FnProvesOtherSaid : Prop := fnProvesOtherRow.holds Try.pinned (OpenSpec.ofChange fnProvesOtherSpec)

/-- ITS FALSE NEIGHBOUR: 'it returns false'. Refute it at one input. -/
def fnProvesOtherWrong : ChangeSpec := { name := "fnProvesOther", fn := fun _ => fun
  | [d] => { results := [.lit (.bool false)], args := [d] }
  | _ => none }
def FnProvesOtherWrongFalsely : Prop := fnProvesOtherRow.holds Try.pinned (OpenSpec.ofChange fnProvesOtherWrong)

/- THE SECOND FORM. 'bulk': how many values and letters a reading holds, each counted each time it is reached (what is shared counts as often as it is met; a slice's spare places count too). A statement '..UptoSaid' is the law's where the arguments, and the package variables that the reading takes, are together of bulk at most 1048576: NARROWER than '..Said'. Prove '..Said' where nothing that the law and all that it calls make is longer than what came in: it says more and counts as full. Else prove '..UptoSaid'. A law counts once. -/
mutual
def uptoBulk {H : Type} : DataW H → Nat
  | .lit (.string bytes) => bytes.length + 1
  | .lit _ => 1
  | .nil => 1
  | .ptr d => uptoBulk d + 1
  | .slice elems spare => uptoBulkAll elems + uptoBulkAll spare + 1
  | .agg parts => uptoBulkAll parts + 1
  | .iface _ d => uptoBulk d + 1
  | .map entries => uptoBulkEntries entries + 1
  | .held _ => 1
def uptoBulkAll {H : Type} : List (DataW H) → Nat
  | [] => 0
  | d :: r => uptoBulk d + uptoBulkAll r
def uptoBulkEntries {H : Type} : List (Lit × DataW H) → Nat
  | [] => 0
  | x :: r => uptoBulkEntry x + uptoBulkEntries r
def uptoBulkEntry {H : Type} : Lit × DataW H → Nat
  | (.string bytes, d) => bytes.length + uptoBulk d + 1
  | (_, d) => uptoBulk d + 1
 end
def uptoSmall : (H : Type) → List (DataW H) → Bool := fun _ ds => decide (uptoBulkAll ds ≤ 1048576)
def OpenSpec.upto (s : _root_.Go.ChangeSpec) : _root_.Go.OpenSpec := { _root_.Go.OpenSpec.ofChange s with cond := some uptoSmall }

/-- 'laws.FnJournals', WHERE WHAT IT READS IS OF BULK AT MOST 1048576: true; the input reads as it did. -/
def fnJournalsUptoRow : OpenClaim := { program := "ytajphmmaejgfaaa", sum := "80feb051d65766413179df98475f5e0bd8e2a68c3cd305665a9d167f5ae06991", func := "loop.example/g00321/laws.FnJournals", spec := "fnJournals", apart := false, narrowed := true }
def FnJournalsUptoSaid : Prop := fnJournalsUptoRow.holds Try.pinned (OpenSpec.upto fnJournalsSpec)

/-- 'laws.FnJournalsTold', WHERE WHAT IT READS IS OF BULK AT MOST 1048576: true; the input reads as it did. -/
def fnJournalsToldUptoRow : OpenClaim := { program := "ytajphmmaejgfaaa", sum := "80feb051d65766413179df98475f5e0bd8e2a68c3cd305665a9d167f5ae06991", func := "loop.example/g00321/laws.FnJournalsTold", spec := "fnJournalsTold", apart := false, narrowed := true }
def FnJournalsToldUptoSaid : Prop := fnJournalsToldUptoRow.holds Try.pinned (OpenSpec.upto fnJournalsToldSpec)

/-- 'laws.FnItems', WHERE WHAT IT READS IS OF BULK AT MOST 1048576: true; the input reads as it did. -/
def fnItemsUptoRow : OpenClaim := { program := "ytajphmmaejgfaaa", sum := "80feb051d65766413179df98475f5e0bd8e2a68c3cd305665a9d167f5ae06991", func := "loop.example/g00321/laws.FnItems", spec := "fnItems", inPlace := ["internal/abi.NoEscape"], unfollowed := true, recurses := true, apart := false, narrowed := true }
def FnItemsUptoSaid : Prop := fnItemsUptoRow.holds Try.pinned (OpenSpec.upto fnItemsSpec)

/-- 'laws.FnQapsTold', WHERE WHAT IT READS IS OF BULK AT MOST 1048576: true; the input reads as it did. -/
def fnQapsToldUptoRow : OpenClaim := { program := "ytajphmmaejgfaaa", sum := "80feb051d65766413179df98475f5e0bd8e2a68c3cd305665a9d167f5ae06991", func := "loop.example/g00321/laws.FnQapsTold", spec := "fnQapsTold", apart := false, narrowed := true }
def FnQapsToldUptoSaid : Prop := fnQapsToldUptoRow.holds Try.pinned (OpenSpec.upto fnQapsToldSpec)

/-- 'laws.FnFakes', WHERE WHAT IT READS IS OF BULK AT MOST 1048576: true; the input reads as it did. -/
def fnFakesUptoRow : OpenClaim := { program := "ytajphmmaejgfaaa", sum := "80feb051d65766413179df98475f5e0bd8e2a68c3cd305665a9d167f5ae06991", func := "loop.example/g00321/laws.FnFakes", spec := "fnFakes", apart := false, narrowed := true }
def FnFakesUptoSaid : Prop := fnFakesUptoRow.holds Try.pinned (OpenSpec.upto fnFakesSpec)

/-- 'laws.FnProves', WHERE WHAT IT READS IS OF BULK AT MOST 1048576: true; the input reads as it did. -/
def fnProvesUptoRow : OpenClaim := { program := "ytajphmmaejgfaaa", sum := "80feb051d65766413179df98475f5e0bd8e2a68c3cd305665a9d167f5ae06991", func := "loop.example/g00321/laws.FnProves", spec := "fnProves", apart := false, narrowed := true }
def FnProvesUptoSaid : Prop := fnProvesUptoRow.holds Try.pinned (OpenSpec.upto fnProvesSpec)

/-- 'laws.FnProvesOther', WHERE WHAT IT READS IS OF BULK AT MOST 1048576: true; the input reads as it did. -/
def fnProvesOtherUptoRow : OpenClaim := { program := "ytajphmmaejgfaaa", sum := "80feb051d65766413179df98475f5e0bd8e2a68c3cd305665a9d167f5ae06991", func := "loop.example/g00321/laws.FnProvesOther", spec := "fnProvesOther", apart := false, narrowed := true }
def FnProvesOtherUptoSaid : Prop := fnProvesOtherUptoRow.holds Try.pinned (OpenSpec.upto fnProvesOtherSpec)

end Rows
end Go.Proofs.Ytajphmmaejgfaaa
