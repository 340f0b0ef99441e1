/- FnExactToxicOk: the row: for every argument that reads as data the call answers true, and the arguments read as they did. No conditions. -/
import Derived.Test.YtmhakjpjnnfidaaRows
import Derived.Test.YtmhakjpjnnfidaaQFnExactToxicOkx7
import Derived.Test.YtmhakjpjnnfidaaPureFnExactToxicOk
import Derived.Test.YtmhakjpjnnfidaaKindsFnExactToxicOk
import Derived.WalkKit
import Derived.ProofKit
import Derived.OpenShut
import Derived.ShutString
import Derived.ChangeOld
import Derived.Below
import Derived.SizedLaws
import Derived.Carry
namespace Go.Proofs.Ytmhakjpjnnfidaa.fnExactToxicOk
open Go.ChangeShapes Go.WideShapes Go.ChangeAt Go.RowKit Go.Proofs.Ytmhakjpjnnfidaa Go.Proofs.Ytmhakjpjnnfidaa.QFnExactToxicOk Go.Proofs.Ytmhakjpjnnfidaa.PL Go.Proofs.YtmhakjpjnnfidaaW.PrintWords
open Go.ChangeMaps (open_string shut_string)
set_option linter.unusedVariables false
theorem own : ownKnob Try.prog.godebug = none := by kernel_rfl
theorem laidOut : laidOutB Try.prog = true := by kernel_rfl
-- k; a0_0; a0_1; A0_2; c0_2; l0_2; a1_0; a1_1; a1_2; a1_3; a1_4; r; w; hr0_2; hc0_2; h
set_option maxRecDepth 100000 in
theorem lifted (os : Os) (started : os.Started) (H : Type) (enc : TypeId × Value → H) :
    ReturnsInHanded {} Try.checked os 9 .any (Rows.fnExactToxicOkSpec.pre6 enc Try.prog Try.f9 Rows.fnExactToxicOkRow.domain false) (Rows.fnExactToxicOkSpec.post enc Try.prog Try.f9 false true false false) := by
  refine returnsInHanded_of_change_sized (C := Try.checked) own started (by kernel_rfl) Try.func9
    (ChangeSpec.witness6 (enc := enc) (C := Try.checked) false ⟨#[], #[.agg #[.int .i64 0, .int .i64 0, .slice none 0 0], .agg #[.int .i64 0, .int .i64 0, .int .i64 0, .int .i64 0, .int .i64 0]], []⟩ 8 (by kernel_rfl) (by kernel_rfl) (by kernel_rfl) (by kernel_rfl)) ?_
  intro W base args ds gs before hval0 hW hcnd hsz0 _
  have hval : ∀ (j : Nat) t v, Try.f9.params[j]? = some t → args[j]? = some v → Value.okWide Try.prog W .any base t v := hval0
  have hW' := hW
  obtain ⟨p, q, hA0, hV, rfl, hfz, hnd⟩ := hW
  have hA : DataW.TrodAll enc Try.prog W 0 (fun _ => true) true Try.f9.params.toList args.toList ds p := hA0
  rw [Try.params9] at hA hval
  obtain ⟨v0, vs0, d0, ds0, p0, q0, hargs, rfl, rfl, h0, r0⟩ := trodAll_cons hA
  obtain ⟨v1, vs1, d1, ds1, p1, q1, rfl, rfl, rfl, h1, r1⟩ := trodAll_cons r0
  obtain ⟨rfl, rfl, rfl⟩ := trodAll_nil r1
  obtain rfl : args = #[v0, v1] := by cases args; simp_all
  obtain ⟨rfl, rfl⟩ := trodVars_none hV
  have t0 := h0
  have lt0 : ∀ x ∈ p0, x.block < W.heap.size := by obtain ⟨m, hm⟩ := t0; exact DataW.trod_lt m _ _ _ hm
  obtain ⟨cs0, rfl⟩ := okWide_agg Try.underlying56 (hval 0 56 v0 rfl rfl)
  obtain ⟨x0, g0, wf0_⟩ : ∃ x : (Int × Int × (List S161)), (Kd.pair (Kd.int .i64) (Kd.pair (Kd.int .i64) (Kd.slice 161 k161))).K W x cs0.toList ∧ (((Lit.int .i64 x.1).wf = true) ∧ (((Lit.int .i64 x.2.1).wf = true) ∧ ((x.2.2.length ≤ 9223372036854775807 ∧ ∀ y ∈ x.2.2, wf161 y)))) := by
    obtain ⟨fuel, hf⟩ := h0
    exact (opens56) fuel (Nat.le_refl _) hf
  have t1 := h1
  have lt1 : ∀ x ∈ p1, x.block < W.heap.size := by obtain ⟨m, hm⟩ := t1; exact DataW.trod_lt m _ _ _ hm
  obtain ⟨cs1, rfl⟩ := okWide_agg Try.underlying58 (hval 1 58 v1 rfl rfl)
  obtain ⟨x1, g1, wf1_⟩ : ∃ x : (Int × Int × Int × Int × Int), (Kd.pair (Kd.int .i64) (Kd.pair (Kd.int .i64) (Kd.pair (Kd.int .i64) (Kd.pair (Kd.int .i64) (Kd.int .i64))))).K W x cs1.toList ∧ (((Lit.int .i64 x.1).wf = true) ∧ (((Lit.int .i64 x.2.1).wf = true) ∧ (((Lit.int .i64 x.2.2.1).wf = true) ∧ (((Lit.int .i64 x.2.2.2.1).wf = true) ∧ ((Lit.int .i64 x.2.2.2.2).wf = true))))) := by
    obtain ⟨fuel, hf⟩ := h1
    exact (opens58) fuel (Nat.le_refl _) hf
  obtain ⟨B0_0, C0_0, e0, hc0_0, hr0_0⟩ := agg56_open g0
  obtain rfl : cs0 = #[.int .i64 x0.1, .int .i64 x0.2.1, .slice B0_0 x0.2.2.length C0_0] := by cases cs0; simpa using e0
  obtain e1 := agg58_open g1
  obtain rfl : cs1 = #[.int .i64 x1.1, .int .i64 x1.2.1, .int .i64 x1.2.2.1, .int .i64 x1.2.2.2.1, .int .i64 x1.2.2.2.2] := by cases cs1; simpa using e1
  obtain ⟨k, hk⟩ := Pure.FnExactToxicOk x0 x1 wf0_ wf1_
  refine (QFnExactToxicOk.laws_FnExactToxicOk.calls k _ _ _ _ _ _ _ _ _ _ true W hr0_0 hc0_0 hk).mono fun e W' ⟨he, bel⟩ => ?_
  subst he
  exact ⟨_, rfl, _, _, _, [], _, [], hW', trodAll_mk1 (shut_bool Try.underlying4 _), (trodAll_cons_mk (Below.trod laidOut (by kernel_rfl) (of_decide_eq_true (by kernel_rfl)) t0 bel lt0) (trodAll_cons_mk (Below.trod laidOut (by kernel_rfl) (of_decide_eq_true (by kernel_rfl)) t1 bel lt1) trodAll_mk0)), rfl, bel.frame _, fun h => by cases h⟩
theorem over : Rows.fnExactToxicOkRow.holds Try.pinned (OpenSpec.ofChange Rows.fnExactToxicOkSpec) :=
  OpenClaim.holds_of_wide 9 Try.f9 rfl rfl rfl rfl rfl rfl rfl ⟨rfl, rfl, rfl, rfl, rfl⟩ rfl rfl rfl rfl rfl (by kernel_rfl) Try.func9 (by kernel_rfl)
    (of_decide_eq_true (by kernel_rfl)) (by unfold Func.isWrapper; first | (rw [if_pos (by decide +kernel)]; kernel_rfl) | (rw [if_neg (by decide +kernel)]; exact ⟨rfl, rfl⟩))
    (fun os started H enc _ => lifted os started H enc)
theorem proved : Rows.FnExactToxicOkSaid := over
#print axioms proved
end Go.Proofs.Ytmhakjpjnnfidaa.fnExactToxicOk
namespace Go.Proofs.Ytmhakjpjnnfidaa
/-- The row, under a short name, for the claim. -/
theorem fnExactToxicOk_holds : Rows.FnExactToxicOkSaid := fnExactToxicOk.proved
end Go.Proofs.Ytmhakjpjnnfidaa
