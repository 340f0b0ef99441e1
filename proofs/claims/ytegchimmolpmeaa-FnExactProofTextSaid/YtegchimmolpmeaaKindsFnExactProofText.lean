/- FnExactProofText: what its arguments read as. No conditions. -/
import Derived.Test.YtegchimmolpmeaaPLopen
import Derived.Test.YtegchimmolpmeaaQFnExactProofTextx0
import Derived.OpenShut
namespace Go.Proofs.Ytegchimmolpmeaa.QFnExactProofText
open Go Go.RowKit Go.ChangeShapes Go.WideShapes Go.Proofs.YtegchimmolpmeaaW.PrintWords Go.Proofs.YtegchimmolpmeaaW.PrintLast Go.Proofs.YtegchimmolpmeaaW.PrintMore Go.Proofs.Ytegchimmolpmeaa.PL
set_option linter.unusedVariables false
set_option linter.unusedSimpArgs false
set_option maxRecDepth 100000
theorem opens23 : Opens Try.prog 23 (Kd.pair (Kd.int .i64) (Kd.pair (Kd.int .i64) Kd.bool)) (fun x => (((Lit.int .i64 x.1).wf = true) ∧ (((Lit.int .i64 x.2.1).wf = true) ∧ (True)))) := Opens.of_succ fun b =>
  opensB_struct Try.underlying23 (by kernel_rfl) (opensAt_cons rfl (by first | kernel_rfl | (show _ = 1; kernel_rfl)) ((opens_int Try.underlying3) b) (opensAt_cons rfl (by first | kernel_rfl | (show _ = 1; kernel_rfl)) ((opens_int Try.underlying3) b) (opensAt_one rfl (by first | kernel_rfl | (show _ = 1; kernel_rfl)) ((opens_bool Try.underlying4) b))))
theorem opens25 : Opens Try.prog 25 (Kd.pair (Kd.pair (Kd.int .i64) (Kd.pair (Kd.int .i64) Kd.bool)) (Kd.pair (Kd.pair (Kd.int .i64) (Kd.pair (Kd.int .i64) Kd.bool)) (Kd.pair (Kd.int .i64) (Kd.pair (Kd.int .i64) Kd.bool)))) (fun x => (((((Lit.int .i64 x.1.1).wf = true) ∧ (((Lit.int .i64 x.1.2.1).wf = true) ∧ (True)))) ∧ (((((Lit.int .i64 x.2.1.1).wf = true) ∧ (((Lit.int .i64 x.2.1.2.1).wf = true) ∧ (True)))) ∧ ((((Lit.int .i64 x.2.2.1).wf = true) ∧ (((Lit.int .i64 x.2.2.2.1).wf = true) ∧ (True))))))) := Opens.of_succ fun b =>
  opensB_struct Try.underlying25 (by kernel_rfl) (opensAt_cons rfl (by first | kernel_rfl | (show _ = 1; kernel_rfl)) ((opens23) b) (opensAt_cons rfl (by first | kernel_rfl | (show _ = 1; kernel_rfl)) ((opens23) b) (opensAt_one rfl (by first | kernel_rfl | (show _ = 1; kernel_rfl)) ((opens23) b))))
theorem agg25_open {W : World} {x : ((Int × Int × Bool) × (Int × Int × Bool) × (Int × Int × Bool))} {cs : List Value} (h : (Kd.pair (Kd.pair (Kd.int .i64) (Kd.pair (Kd.int .i64) Kd.bool)) (Kd.pair (Kd.pair (Kd.int .i64) (Kd.pair (Kd.int .i64) Kd.bool)) (Kd.pair (Kd.int .i64) (Kd.pair (Kd.int .i64) Kd.bool)))).K W x cs) : cs = [.int .i64 x.1.1, .int .i64 x.1.2.1, .bool x.1.2.2, .int .i64 x.2.1.1, .int .i64 x.2.1.2.1, .bool x.2.1.2.2, .int .i64 x.2.2.1, .int .i64 x.2.2.2.1, .bool x.2.2.2.2] := by
  obtain ⟨_, _, rfl, ⟨_, _, rfl, rfl, ⟨_, _, rfl, rfl, rfl⟩⟩, ⟨_, _, rfl, ⟨_, _, rfl, rfl, ⟨_, _, rfl, rfl, rfl⟩⟩, ⟨_, _, rfl, rfl, ⟨_, _, rfl, rfl, rfl⟩⟩⟩⟩ := h
  rfl
end Go.Proofs.Ytegchimmolpmeaa.QFnExactProofText
