/- FnExactInputSum: what its arguments read as. No conditions. -/
import Derived.Test.YtegchimmolpmeaaPLopenFnExactInputSum
import Derived.Test.YtegchimmolpmeaaQFnExactInputSumx0
import Derived.OpenShut
namespace Go.Proofs.Ytegchimmolpmeaa.QFnExactInputSum
open Go Go.RowKit Go.ChangeShapes Go.WideShapes Go.Proofs.YtegchimmolpmeaaW.PrintWords Go.Proofs.YtegchimmolpmeaaW.PrintLast Go.Proofs.YtegchimmolpmeaaW.PrintMore Go.Proofs.Ytegchimmolpmeaa.PL
set_option linter.unusedVariables false
set_option linter.unusedSimpArgs false
set_option maxRecDepth 100000
instance : Inhabited S23 := ⟨z23⟩
def wf23 (x : S23) : Prop := ((Lit.int .i64 x.f0).wf = true) ∧ ((Lit.int .i64 x.f1).wf = true) ∧ (True)
theorem opens23 : Opens Try.prog 23 k23 wf23 := Opens.of_succ fun b =>
  OpensB.imp (OpensB.iso (fun x : S23 => (x.f0, x.f1, x.f2)) (fun a => ⟨a.1, a.2.1, a.2.2⟩) (fun _ => rfl) (opensB_struct Try.underlying23 (by kernel_rfl) (opensAt_cons rfl (by first | kernel_rfl | (show _ = 1; kernel_rfl)) ((opens_int Try.underlying3) b) (opensAt_cons rfl (by first | kernel_rfl | (show _ = 1; kernel_rfl)) ((opens_int Try.underlying3) b) (opensAt_one rfl (by first | kernel_rfl | (show _ = 1; kernel_rfl)) ((opens_bool Try.underlying4) b)))))) (fun x h => by obtain ⟨h0, h1, h2⟩ := h; exact ⟨h0, h1, h2⟩)
theorem opens39 : Opens Try.prog 39 (Kd.pair k23 (Kd.pair k23 (Kd.pair k23 (Kd.pair k23 (Kd.slice 23 k23))))) (fun x => ((wf23 x.1) ∧ ((wf23 x.2.1) ∧ ((wf23 x.2.2.1) ∧ ((wf23 x.2.2.2.1) ∧ ((x.2.2.2.2.length ≤ 9223372036854775807 ∧ ∀ y ∈ x.2.2.2.2, wf23 y))))))) := Opens.of_succ fun b =>
  opensB_struct Try.underlying39 (by kernel_rfl) (opensAt_cons rfl (by first | kernel_rfl | (show _ = 1; kernel_rfl)) (opens23 b) (opensAt_cons rfl (by first | kernel_rfl | (show _ = 1; kernel_rfl)) (opens23 b) (opensAt_cons rfl (by first | kernel_rfl | (show _ = 1; kernel_rfl)) (opens23 b) (opensAt_cons rfl (by first | kernel_rfl | (show _ = 1; kernel_rfl)) (opens23 b) (opensAt_one rfl (by first | kernel_rfl | (show _ = 1; kernel_rfl)) ((opens_slice Try.underlying35 (by kernel_rfl) opens23) b))))))
theorem agg39_open {W : World} {x : (S23 × S23 × S23 × S23 × (List S23))} {cs : List Value} (h : (Kd.pair k23 (Kd.pair k23 (Kd.pair k23 (Kd.pair k23 (Kd.slice 23 k23))))).K W x cs) : ∃ (B0 : Option Addr) (C0 : Nat), cs = [.int .i64 x.1.f0, .int .i64 x.1.f1, .bool x.1.f2, .int .i64 x.2.1.f0, .int .i64 x.2.1.f1, .bool x.2.1.f2, .int .i64 x.2.2.1.f0, .int .i64 x.2.2.1.f1, .bool x.2.2.1.f2, .int .i64 x.2.2.2.1.f0, .int .i64 x.2.2.2.1.f1, .bool x.2.2.2.1.f2, .slice B0 x.2.2.2.2.length C0] ∧ x.2.2.2.2.length ≤ C0 ∧ k23.C W B0 x.2.2.2.2.length x.2.2.2.2 := by
  obtain ⟨_, _, rfl, q0, ⟨_, _, rfl, q1, ⟨_, _, rfl, q2, ⟨_, _, rfl, q3, ⟨B0, C0, rfl, l0, g0⟩⟩⟩⟩⟩ := h
  obtain rfl := k23_open q0
  obtain rfl := k23_open q1
  obtain rfl := k23_open q2
  obtain rfl := k23_open q3
  exact ⟨B0, C0, rfl, l0, g0⟩
end Go.Proofs.Ytegchimmolpmeaa.QFnExactInputSum
