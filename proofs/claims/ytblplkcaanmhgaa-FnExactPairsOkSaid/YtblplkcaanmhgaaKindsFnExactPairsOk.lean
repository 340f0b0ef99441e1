/- FnExactPairsOk: what its arguments read as. No conditions. -/
import Derived.Test.YtblplkcaanmhgaaPLopen
import Derived.Test.YtblplkcaanmhgaaQFnExactPairsOkx0
import Derived.OpenShut
namespace Go.Proofs.Ytblplkcaanmhgaa.QFnExactPairsOk
open Go Go.RowKit Go.ChangeShapes Go.WideShapes Go.Proofs.YtblplkcaanmhgaaW.PrintWords Go.Proofs.YtblplkcaanmhgaaW.PrintLast Go.Proofs.YtblplkcaanmhgaaW.PrintMore Go.Proofs.Ytblplkcaanmhgaa.PL
set_option linter.unusedVariables false
set_option linter.unusedSimpArgs false
set_option maxRecDepth 100000
instance : Inhabited S61 := ⟨z61⟩
def wf61 (x : S61) : Prop := (x.f0.size ≤ 9223372036854775807) ∧ (x.f1.size ≤ 9223372036854775807)
theorem opens61 : Opens Try.prog 61 k61 wf61 := Opens.of_succ fun b =>
  OpensB.imp (OpensB.iso (fun x : S61 => (x.f0, x.f1)) (fun a => ⟨a.1, a.2⟩) (fun _ => rfl) (opensB_struct Try.underlying61 (by kernel_rfl) (opensAt_cons rfl (by first | kernel_rfl | (show _ = 1; kernel_rfl)) ((opens_string Try.underlying9) b) (opensAt_one rfl (by first | kernel_rfl | (show _ = 1; kernel_rfl)) ((opens_string Try.underlying9) b))))) (fun x h => by obtain ⟨h0, h1⟩ := h; exact ⟨h0, h1⟩)
end Go.Proofs.Ytblplkcaanmhgaa.QFnExactPairsOk
