/- FnExactToxicOk: what its arguments read as. No conditions. -/
import Derived.Test.YtmhakjpjnnfidaaPLopenFnExactToxicOk
import Derived.Test.YtmhakjpjnnfidaaQFnExactToxicOkx0
import Derived.OpenShut
namespace Go.Proofs.Ytmhakjpjnnfidaa.QFnExactToxicOk
open Go Go.RowKit Go.ChangeShapes Go.WideShapes Go.Proofs.YtmhakjpjnnfidaaW.PrintWords Go.Proofs.YtmhakjpjnnfidaaW.PrintLast Go.Proofs.YtmhakjpjnnfidaaW.PrintMore Go.Proofs.Ytmhakjpjnnfidaa.PL
set_option linter.unusedVariables false
set_option linter.unusedSimpArgs false
set_option maxRecDepth 100000
instance : Inhabited S161 := ⟨z161⟩
def wf161 (x : S161) : Prop := ((x.f0.length ≤ 9223372036854775807 ∧ ∀ y ∈ x.f0, (Lit.int .i64 y).wf = true)) ∧ ((x.f1.length ≤ 9223372036854775807 ∧ ∀ y ∈ x.f1, (Lit.int .i64 y).wf = true)) ∧ ((x.f2.length ≤ 9223372036854775807 ∧ ∀ y ∈ x.f2, (Lit.int .i64 y).wf = true))
theorem opens161 : Opens Try.prog 161 k161 wf161 := Opens.of_succ fun b =>
  OpensB.imp (OpensB.iso (fun x : S161 => (x.f0, x.f1, x.f2)) (fun a => ⟨a.1, a.2.1, a.2.2⟩) (fun _ => rfl) (opensB_struct Try.underlying161 (by kernel_rfl) (opensAt_cons rfl (by first | kernel_rfl | (show _ = 1; kernel_rfl)) ((opens_slice Try.underlying34 (by kernel_rfl) (opens_int Try.underlying3)) b) (opensAt_cons rfl (by first | kernel_rfl | (show _ = 1; kernel_rfl)) ((opens_slice Try.underlying34 (by kernel_rfl) (opens_int Try.underlying3)) b) (opensAt_one rfl (by first | kernel_rfl | (show _ = 1; kernel_rfl)) ((opens_slice Try.underlying34 (by kernel_rfl) (opens_int Try.underlying3)) b)))))) (fun x h => by obtain ⟨h0, h1, h2⟩ := h; exact ⟨h0, h1, h2⟩)
theorem opens56 : Opens Try.prog 56 (Kd.pair (Kd.int .i64) (Kd.pair (Kd.int .i64) (Kd.slice 161 k161))) (fun x => (((Lit.int .i64 x.1).wf = true) ∧ (((Lit.int .i64 x.2.1).wf = true) ∧ ((x.2.2.length ≤ 9223372036854775807 ∧ ∀ y ∈ x.2.2, wf161 y))))) := Opens.of_succ fun b =>
  opensB_struct Try.underlying56 (by kernel_rfl) (opensAt_cons rfl (by first | kernel_rfl | (show _ = 1; kernel_rfl)) ((opens_int Try.underlying3) b) (opensAt_cons rfl (by first | kernel_rfl | (show _ = 1; kernel_rfl)) ((opens_int Try.underlying3) b) (opensAt_one rfl (by first | kernel_rfl | (show _ = 1; kernel_rfl)) ((opens_slice Try.underlying54 (by kernel_rfl) opens161) b))))
theorem opens58 : Opens Try.prog 58 (Kd.pair (Kd.int .i64) (Kd.pair (Kd.int .i64) (Kd.pair (Kd.int .i64) (Kd.pair (Kd.int .i64) (Kd.int .i64))))) (fun x => (((Lit.int .i64 x.1).wf = true) ∧ (((Lit.int .i64 x.2.1).wf = true) ∧ (((Lit.int .i64 x.2.2.1).wf = true) ∧ (((Lit.int .i64 x.2.2.2.1).wf = true) ∧ ((Lit.int .i64 x.2.2.2.2).wf = true)))))) := Opens.of_succ fun b =>
  opensB_struct Try.underlying58 (by kernel_rfl) (opensAt_cons rfl (by first | kernel_rfl | (show _ = 1; kernel_rfl)) ((opens_int Try.underlying3) b) (opensAt_cons rfl (by first | kernel_rfl | (show _ = 1; kernel_rfl)) ((opens_int Try.underlying3) b) (opensAt_cons rfl (by first | kernel_rfl | (show _ = 1; kernel_rfl)) ((opens_int Try.underlying3) b) (opensAt_cons rfl (by first | kernel_rfl | (show _ = 1; kernel_rfl)) ((opens_int Try.underlying3) b) (opensAt_one rfl (by first | kernel_rfl | (show _ = 1; kernel_rfl)) ((opens_int Try.underlying3) b))))))
theorem agg56_open {W : World} {x : (Int × Int × (List S161))} {cs : List Value} (h : (Kd.pair (Kd.int .i64) (Kd.pair (Kd.int .i64) (Kd.slice 161 k161))).K W x cs) : ∃ (B0 : Option Addr) (C0 : Nat), cs = [.int .i64 x.1, .int .i64 x.2.1, .slice B0 x.2.2.length C0] ∧ x.2.2.length ≤ C0 ∧ k161.C W B0 x.2.2.length x.2.2 := by
  obtain ⟨_, _, rfl, rfl, ⟨_, _, rfl, rfl, ⟨B0, C0, rfl, l0, g0⟩⟩⟩ := h
  exact ⟨B0, C0, rfl, l0, g0⟩
theorem agg58_open {W : World} {x : (Int × Int × Int × Int × Int)} {cs : List Value} (h : (Kd.pair (Kd.int .i64) (Kd.pair (Kd.int .i64) (Kd.pair (Kd.int .i64) (Kd.pair (Kd.int .i64) (Kd.int .i64))))).K W x cs) : cs = [.int .i64 x.1, .int .i64 x.2.1, .int .i64 x.2.2.1, .int .i64 x.2.2.2.1, .int .i64 x.2.2.2.2] := by
  obtain ⟨_, _, rfl, rfl, ⟨_, _, rfl, rfl, ⟨_, _, rfl, rfl, ⟨_, _, rfl, rfl, rfl⟩⟩⟩⟩ := h
  rfl
end Go.Proofs.Ytmhakjpjnnfidaa.QFnExactToxicOk
