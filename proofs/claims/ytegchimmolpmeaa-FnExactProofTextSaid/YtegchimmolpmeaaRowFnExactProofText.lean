/- FnExactProofText: the row: for every argument that reads as data the call answers true, and the arguments read as they did. No conditions. -/
import Derived.Test.YtegchimmolpmeaaRows
import Derived.Test.YtegchimmolpmeaaQFnExactProofTextx6
import Derived.Test.YtegchimmolpmeaaPureFnExactProofText
import Derived.Test.YtegchimmolpmeaaKindsFnExactProofText
import Derived.WalkKit
import Derived.ProofKit
import Derived.OpenShut
import Derived.ShutString
import Derived.ChangeOld
import Derived.Below
import Derived.SizedLaws
import Derived.Carry
namespace Go.Proofs.Ytegchimmolpmeaa.fnExactProofText
open Go.ChangeShapes Go.WideShapes Go.ChangeAt Go.RowKit Go.Proofs.Ytegchimmolpmeaa Go.Proofs.Ytegchimmolpmeaa.QFnExactProofText Go.Proofs.Ytegchimmolpmeaa.PL Go.Proofs.YtegchimmolpmeaaW.PrintWords
open Go.ChangeMaps (open_string shut_string)
set_option linter.unusedVariables false
theorem own : ownKnob Try.prog.godebug = none := by kernel_rfl
theorem laidOut : laidOutB Try.prog = true := by kernel_rfl
-- k; a0_0; a0_1; a0_2; a0_3; a0_4; a0_5; a0_6; a0_7; a0_8; r; w; h
set_option maxRecDepth 100000 in
theorem lifted (os : Os) (started : os.Started) (H : Type) (enc : TypeId × Value → H) :
    ReturnsInHanded {} Try.checked os 3 .any (Rows.fnExactProofTextSpec.pre6 enc Try.prog Try.f3 Rows.fnExactProofTextRow.domain false) (Rows.fnExactProofTextSpec.post enc Try.prog Try.f3 false true false false) := by
  refine returnsInHanded_of_change_sized (C := Try.checked) own started (by kernel_rfl) Try.func3
    (ChangeSpec.witness6 (enc := enc) (C := Try.checked) false ⟨#[], #[.agg #[.int .i64 0, .int .i64 0, .bool false, .int .i64 0, .int .i64 0, .bool false, .int .i64 0, .int .i64 0, .bool false]], []⟩ 8 (by kernel_rfl) (by kernel_rfl) (by kernel_rfl) (by kernel_rfl)) ?_
  intro W base args ds gs before hval0 hW hcnd hsz0 _
  have hval : ∀ (j : Nat) t v, Try.f3.params[j]? = some t → args[j]? = some v → Value.okWide Try.prog W .any base t v := hval0
  have hW' := hW
  obtain ⟨p, q, hA0, hV, rfl, hfz, hnd⟩ := hW
  have hA : DataW.TrodAll enc Try.prog W 0 (fun _ => true) true Try.f3.params.toList args.toList ds p := hA0
  rw [Try.params3] at hA hval
  obtain ⟨v0, vs0, d0, ds0, p0, q0, hargs, rfl, rfl, h0, r0⟩ := trodAll_cons hA
  obtain ⟨rfl, rfl, rfl⟩ := trodAll_nil r0
  obtain rfl : args = #[v0] := by cases args; simp_all
  obtain ⟨rfl, rfl⟩ := trodVars_none hV
  have t0 := h0
  have lt0 : ∀ x ∈ p0, x.block < W.heap.size := by obtain ⟨m, hm⟩ := t0; exact DataW.trod_lt m _ _ _ hm
  obtain ⟨cs0, rfl⟩ := okWide_agg Try.underlying25 (hval 0 25 v0 rfl rfl)
  obtain ⟨x0, g0, wf0_⟩ : ∃ x : ((Int × Int × Bool) × (Int × Int × Bool) × (Int × Int × Bool)), (Kd.pair (Kd.pair (Kd.int .i64) (Kd.pair (Kd.int .i64) Kd.bool)) (Kd.pair (Kd.pair (Kd.int .i64) (Kd.pair (Kd.int .i64) Kd.bool)) (Kd.pair (Kd.int .i64) (Kd.pair (Kd.int .i64) Kd.bool)))).K W x cs0.toList ∧ (((((Lit.int .i64 x.1.1).wf = true) ∧ (((Lit.int .i64 x.1.2.1).wf = true) ∧ (True)))) ∧ (((((Lit.int .i64 x.2.1.1).wf = true) ∧ (((Lit.int .i64 x.2.1.2.1).wf = true) ∧ (True)))) ∧ ((((Lit.int .i64 x.2.2.1).wf = true) ∧ (((Lit.int .i64 x.2.2.2.1).wf = true) ∧ (True)))))) := by
    obtain ⟨fuel, hf⟩ := h0
    exact (opens25) fuel (Nat.le_refl _) hf
  obtain e0 := agg25_open g0
  obtain rfl : cs0 = #[.int .i64 x0.1.1, .int .i64 x0.1.2.1, .bool x0.1.2.2, .int .i64 x0.2.1.1, .int .i64 x0.2.1.2.1, .bool x0.2.1.2.2, .int .i64 x0.2.2.1, .int .i64 x0.2.2.2.1, .bool x0.2.2.2.2] := by cases cs0; simpa using e0
  obtain ⟨k, hk⟩ := Pure.FnExactProofText x0 wf0_
  refine (QFnExactProofText.laws_FnExactProofText.calls k _ _ _ _ _ _ _ _ _ true W hk).mono fun e W' ⟨he, bel⟩ => ?_
  subst he
  exact ⟨_, rfl, _, _, _, [], _, [], hW', trodAll_mk1 (shut_bool Try.underlying4 _), (trodAll_cons_mk (Below.trod laidOut (by kernel_rfl) (of_decide_eq_true (by kernel_rfl)) t0 bel lt0) trodAll_mk0), rfl, bel.frame _, fun h => by cases h⟩
theorem over : Rows.fnExactProofTextRow.holds Try.pinned (OpenSpec.ofChange Rows.fnExactProofTextSpec) :=
  OpenClaim.holds_of_wide 3 Try.f3 rfl rfl rfl rfl rfl rfl rfl ⟨rfl, rfl, rfl, rfl, rfl⟩ rfl rfl rfl rfl rfl (by kernel_rfl) Try.func3 (by kernel_rfl)
    (of_decide_eq_true (by kernel_rfl)) (by unfold Func.isWrapper; first | (rw [if_pos (by decide +kernel)]; kernel_rfl) | (rw [if_neg (by decide +kernel)]; exact ⟨rfl, rfl⟩))
    (fun os started H enc _ => lifted os started H enc)
theorem proved : Rows.FnExactProofTextSaid := over
#print axioms proved
end Go.Proofs.Ytegchimmolpmeaa.fnExactProofText
namespace Go.Proofs.Ytegchimmolpmeaa
/-- The row, under a short name, for the claim. -/
theorem fnExactProofText_holds : Rows.FnExactProofTextSaid := fnExactProofText.proved
end Go.Proofs.Ytegchimmolpmeaa
