/- FnExactInputSum: the row: for every argument that reads as data the call answers true, and the arguments read as they did. No conditions. -/
import Derived.Test.YtegchimmolpmeaaRows
import Derived.Test.YtegchimmolpmeaaQFnExactInputSumx9
import Derived.Test.YtegchimmolpmeaaPureFnExactInputSum
import Derived.Test.YtegchimmolpmeaaKindsFnExactInputSum
import Derived.WalkKit
import Derived.ProofKit
import Derived.OpenShut
import Derived.ShutString
import Derived.ChangeOld
import Derived.Below
import Derived.SizedLaws
import Derived.Carry
namespace Go.Proofs.Ytegchimmolpmeaa.fnExactInputSum
open Go.ChangeShapes Go.WideShapes Go.ChangeAt Go.RowKit Go.Proofs.Ytegchimmolpmeaa Go.Proofs.Ytegchimmolpmeaa.QFnExactInputSum Go.Proofs.Ytegchimmolpmeaa.PL Go.Proofs.YtegchimmolpmeaaW.PrintWords
open Go.ChangeMaps (open_string shut_string)
set_option linter.unusedVariables false
theorem own : ownKnob Try.prog.godebug = none := by kernel_rfl
theorem laidOut : laidOutB Try.prog = true := by kernel_rfl
-- k; a0_0; a0_1; a0_2; a0_3; a0_4; a0_5; a0_6; a0_7; a0_8; a0_9; a0_10; a0_11; A0_12; c0_12; l0_12; A1; c1; l1; r; w; hr0_12; hc0_12; hr1; hc1; h
set_option maxRecDepth 100000 in
theorem lifted (os : Os) (started : os.Started) (H : Type) (enc : TypeId × Value → H) :
    ReturnsInHanded {} Try.checked os 5 .any (Rows.fnExactInputSumSpec.pre6 enc Try.prog Try.f5 Rows.fnExactInputSumRow.domain false) (Rows.fnExactInputSumSpec.post enc Try.prog Try.f5 false true false false) := by
  refine returnsInHanded_of_change_sized (C := Try.checked) own started (by kernel_rfl) Try.func5
    (ChangeSpec.witness6 (enc := enc) (C := Try.checked) false ⟨#[], #[.agg #[.int .i64 0, .int .i64 0, .bool false, .int .i64 0, .int .i64 0, .bool false, .int .i64 0, .int .i64 0, .bool false, .int .i64 0, .int .i64 0, .bool false, .slice none 0 0], .slice none 0 0], []⟩ 8 (by kernel_rfl) (by kernel_rfl) (by kernel_rfl) (by kernel_rfl)) ?_
  intro W base args ds gs before hval0 hW hcnd hsz0 _
  have hval : ∀ (j : Nat) t v, Try.f5.params[j]? = some t → args[j]? = some v → Value.okWide Try.prog W .any base t v := hval0
  have hW' := hW
  obtain ⟨p, q, hA0, hV, rfl, hfz, hnd⟩ := hW
  have hA : DataW.TrodAll enc Try.prog W 0 (fun _ => true) true Try.f5.params.toList args.toList ds p := hA0
  rw [Try.params5] at hA hval
  obtain ⟨v0, vs0, d0, ds0, p0, q0, hargs, rfl, rfl, h0, r0⟩ := trodAll_cons hA
  obtain ⟨v1, vs1, d1, ds1, p1, q1, rfl, rfl, rfl, h1, r1⟩ := trodAll_cons r0
  obtain ⟨rfl, rfl, rfl⟩ := trodAll_nil r1
  obtain rfl : args = #[v0, v1] := by cases args; simp_all
  obtain ⟨rfl, rfl⟩ := trodVars_none hV
  have t0 := h0
  have lt0 : ∀ x ∈ p0, x.block < W.heap.size := by obtain ⟨m, hm⟩ := t0; exact DataW.trod_lt m _ _ _ hm
  obtain ⟨cs0, rfl⟩ := okWide_agg Try.underlying39 (hval 0 39 v0 rfl rfl)
  obtain ⟨x0, g0, wf0_⟩ : ∃ x : (S23 × S23 × S23 × S23 × (List S23)), (Kd.pair k23 (Kd.pair k23 (Kd.pair k23 (Kd.pair k23 (Kd.slice 23 k23))))).K W x cs0.toList ∧ ((wf23 x.1) ∧ ((wf23 x.2.1) ∧ ((wf23 x.2.2.1) ∧ ((wf23 x.2.2.2.1) ∧ ((x.2.2.2.2.length ≤ 9223372036854775807 ∧ ∀ y ∈ x.2.2.2.2, wf23 y)))))) := by
    obtain ⟨fuel, hf⟩ := h0
    exact (opens39) fuel (Nat.le_refl _) hf
  have t1 := h1
  have lt1 : ∀ x ∈ p1, x.block < W.heap.size := by obtain ⟨m, hm⟩ := t1; exact DataW.trod_lt m _ _ _ hm
  obtain ⟨a1, len1, cap1, rfl⟩ := okWide_slice Try.underlying59 (hval 1 59 v1 rfl rfl)
  obtain ⟨x1, g1, wf1_⟩ : ∃ x : (List Int), (Kd.slice 3 (Kd.int .i64)).K W x [.slice a1 len1 cap1] ∧ (x.length ≤ 9223372036854775807 ∧ ∀ y ∈ x, (Lit.int .i64 y).wf = true) := by
    obtain ⟨fuel, hf⟩ := h1
    exact (opens_slice Try.underlying59 (by kernel_rfl) (opens_int Try.underlying3)) fuel (Nat.le_refl _) hf
  obtain ⟨A1, c1, e1, hc1, hr1⟩ := g1
  obtain ⟨rfl, rfl, rfl⟩ : a1 = A1 ∧ len1 = x1.length ∧ cap1 = c1 := by simpa using e1
  obtain ⟨B0_0, C0_0, e0, hc0_0, hr0_0⟩ := agg39_open g0
  obtain rfl : cs0 = #[.int .i64 x0.1.f0, .int .i64 x0.1.f1, .bool x0.1.f2, .int .i64 x0.2.1.f0, .int .i64 x0.2.1.f1, .bool x0.2.1.f2, .int .i64 x0.2.2.1.f0, .int .i64 x0.2.2.1.f1, .bool x0.2.2.1.f2, .int .i64 x0.2.2.2.1.f0, .int .i64 x0.2.2.2.1.f1, .bool x0.2.2.2.1.f2, .slice B0_0 x0.2.2.2.2.length C0_0] := by cases cs0; simpa using e0
  obtain ⟨k, hk⟩ := Pure.FnExactInputSum x0 x1 wf0_ wf1_
  refine (QFnExactInputSum.laws_FnExactInputSum.calls k _ _ _ _ _ _ _ _ _ _ _ _ _ _ _ _ _ _ true W hr0_0 hc0_0 hr1 hc1 hk).mono fun e W' ⟨he, bel⟩ => ?_
  subst he
  exact ⟨_, rfl, _, _, _, [], _, [], hW', trodAll_mk1 (shut_bool Try.underlying4 _), (trodAll_cons_mk (Below.trod laidOut (by kernel_rfl) (of_decide_eq_true (by kernel_rfl)) t0 bel lt0) (trodAll_cons_mk (Below.trod laidOut (by kernel_rfl) (of_decide_eq_true (by kernel_rfl)) t1 bel lt1) trodAll_mk0)), rfl, bel.frame _, fun h => by cases h⟩
theorem over : Rows.fnExactInputSumRow.holds Try.pinned (OpenSpec.ofChange Rows.fnExactInputSumSpec) :=
  OpenClaim.holds_of_wide 5 Try.f5 rfl rfl rfl rfl rfl rfl rfl ⟨rfl, rfl, rfl, rfl, rfl⟩ rfl rfl rfl rfl rfl (by kernel_rfl) Try.func5 (by kernel_rfl)
    (of_decide_eq_true (by kernel_rfl)) (by unfold Func.isWrapper; first | (rw [if_pos (by decide +kernel)]; kernel_rfl) | (rw [if_neg (by decide +kernel)]; exact ⟨rfl, rfl⟩))
    (fun os started H enc _ => lifted os started H enc)
theorem proved : Rows.FnExactInputSumSaid := over
#print axioms proved
end Go.Proofs.Ytegchimmolpmeaa.fnExactInputSum
namespace Go.Proofs.Ytegchimmolpmeaa
/-- The row, under a short name, for the claim. -/
theorem fnExactInputSum_holds : Rows.FnExactInputSumSaid := fnExactInputSum.proved
end Go.Proofs.Ytegchimmolpmeaa
