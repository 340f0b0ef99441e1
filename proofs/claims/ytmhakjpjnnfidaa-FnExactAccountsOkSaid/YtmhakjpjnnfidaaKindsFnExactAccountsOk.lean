/- FnExactAccountsOk: what its arguments read as. No conditions. -/
import Derived.Test.YtmhakjpjnnfidaaPLopen
import Derived.Test.YtmhakjpjnnfidaaQFnExactAccountsOkx0
import Derived.OpenShut
namespace Go.Proofs.Ytmhakjpjnnfidaa.QFnExactAccountsOk
open Go Go.RowKit Go.ChangeShapes Go.WideShapes Go.Proofs.YtmhakjpjnnfidaaW.PrintWords Go.Proofs.YtmhakjpjnnfidaaW.PrintLast Go.Proofs.YtmhakjpjnnfidaaW.PrintMore Go.Proofs.Ytmhakjpjnnfidaa.PL
set_option linter.unusedVariables false
set_option linter.unusedSimpArgs false
set_option maxRecDepth 100000
instance : Inhabited S172 := ⟨z172⟩
def wf172 (x : S172) : Prop := (x.f0.size ≤ 9223372036854775807) ∧ (x.f1.size ≤ 9223372036854775807)
theorem opens172 : Opens Try.prog 172 k172 wf172 := Opens.of_succ fun b =>
  OpensB.imp (OpensB.iso (fun x : S172 => (x.f0, x.f1)) (fun a => ⟨a.1, a.2⟩) (fun _ => rfl) (opensB_struct Try.underlying172 (by kernel_rfl) (opensAt_cons rfl (by first | kernel_rfl | (show _ = 1; kernel_rfl)) ((opens_string Try.underlying9) b) (opensAt_one rfl (by first | kernel_rfl | (show _ = 1; kernel_rfl)) ((opens_string Try.underlying9) b))))) (fun x h => by obtain ⟨h0, h1⟩ := h; exact ⟨h0, h1⟩)
instance : Inhabited S99 := ⟨z99⟩
def wf99 (x : S99) : Prop := (x.f0.size ≤ 9223372036854775807) ∧ ((Lit.int .i64 x.f1).wf = true) ∧ ((Lit.int .i64 x.f2).wf = true) ∧ ((x.f3.length ≤ 9223372036854775807 ∧ ∀ y ∈ x.f3, wf172 y))
theorem opens99 : Opens Try.prog 99 k99 wf99 := Opens.of_succ fun b =>
  OpensB.imp (OpensB.iso (fun x : S99 => (x.f0, x.f1, x.f2, x.f3)) (fun a => ⟨a.1, a.2.1, a.2.2.1, a.2.2.2⟩) (fun _ => rfl) (opensB_struct Try.underlying99 (by kernel_rfl) (opensAt_cons rfl (by first | kernel_rfl | (show _ = 1; kernel_rfl)) ((opens_string Try.underlying9) b) (opensAt_cons rfl (by first | kernel_rfl | (show _ = 1; kernel_rfl)) ((opens_int Try.underlying3) b) (opensAt_cons rfl (by first | kernel_rfl | (show _ = 1; kernel_rfl)) ((opens_int Try.underlying3) b) (opensAt_one rfl (by first | kernel_rfl | (show _ = 1; kernel_rfl)) ((opens_slice Try.underlying97 (by kernel_rfl) opens172) b))))))) (fun x h => by obtain ⟨h0, h1, h2, h3⟩ := h; exact ⟨h0, h1, h2, h3⟩)
end Go.Proofs.Ytmhakjpjnnfidaa.QFnExactAccountsOk
