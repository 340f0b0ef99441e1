/- FnExactClientOk: the row: for every argument that reads as data the call answers true, and the arguments read as they did. No conditions. -/
import Derived.Test.YtegchimmolpmeaaRows
import Derived.Test.YtegchimmolpmeaaQFnExactClientOkx11
import Derived.Test.YtegchimmolpmeaaPureFnExactClientOk
import Derived.Test.YtegchimmolpmeaaKindsFnExactClientOk
import Derived.WalkKit
import Derived.ProofKit
import Derived.OpenShut
import Derived.ShutString
import Derived.ChangeOld
import Derived.Below
import Derived.SizedLaws
import Derived.Carry
namespace Go.Proofs.Ytegchimmolpmeaa.fnExactClientOk
open Go.ChangeShapes Go.WideShapes Go.ChangeAt Go.RowKit Go.Proofs.Ytegchimmolpmeaa Go.Proofs.Ytegchimmolpmeaa.QFnExactClientOk Go.Proofs.Ytegchimmolpmeaa.PL Go.Proofs.YtegchimmolpmeaaW.PrintWords
open Go.ChangeMaps (open_string shut_string)
set_option linter.unusedVariables false
theorem own : ownKnob Try.prog.godebug = none := by kernel_rfl
theorem laidOut : laidOutB Try.prog = true := by kernel_rfl
-- k; a0_0; a0_1; a0_2; a0_3; A0_4; c0_4; l0_4; A0_5; c0_5; l0_5; a0_6; a0_7; a0_8; a0_9; a0_10; a0_11; a0_12; a0_13; a0_14; a0_15; a0_16; a0_17; a0_18; A0_19; c0_19; l0_19; r; w; hr0_4; hc0_4; hr0_5; hc0_5; hr0_19; hc0_19; h
set_option maxRecDepth 100000 in
theorem lifted (os : Os) (started : os.Started) (H : Type) (enc : TypeId × Value → H) :
    ReturnsInHanded {} Try.checked os 7 .any (Rows.fnExactClientOkSpec.pre6 enc Try.prog Try.f7 Rows.fnExactClientOkRow.domain false) (Rows.fnExactClientOkSpec.post enc Try.prog Try.f7 false true false false) := by
  refine returnsInHanded_of_change_sized (C := Try.checked) own started (by kernel_rfl) Try.func7
    (ChangeSpec.witness6 (enc := enc) (C := Try.checked) false ⟨#[], #[.agg #[.int .i64 0, .string ByteArray.empty, .string ByteArray.empty, .string ByteArray.empty, .slice none 0 0, .slice none 0 0, .bool false, .int .i64 0, .int .i64 0, .bool false, .int .i64 0, .int .i64 0, .bool false, .int .i64 0, .int .i64 0, .bool false, .int .i64 0, .int .i64 0, .bool false, .slice none 0 0]], []⟩ 8 (by kernel_rfl) (by kernel_rfl) (by kernel_rfl) (by kernel_rfl)) ?_
  intro W base args ds gs before hval0 hW hcnd hsz0 _
  have hval : ∀ (j : Nat) t v, Try.f7.params[j]? = some t → args[j]? = some v → Value.okWide Try.prog W .any base t v := hval0
  have hW' := hW
  obtain ⟨p, q, hA0, hV, rfl, hfz, hnd⟩ := hW
  have hA : DataW.TrodAll enc Try.prog W 0 (fun _ => true) true Try.f7.params.toList args.toList ds p := hA0
  rw [Try.params7] at hA hval
  obtain ⟨v0, vs0, d0, ds0, p0, q0, hargs, rfl, rfl, h0, r0⟩ := trodAll_cons hA
  obtain ⟨rfl, rfl, rfl⟩ := trodAll_nil r0
  obtain rfl : args = #[v0] := by cases args; simp_all
  obtain ⟨rfl, rfl⟩ := trodVars_none hV
  have t0 := h0
  have lt0 : ∀ x ∈ p0, x.block < W.heap.size := by obtain ⟨m, hm⟩ := t0; exact DataW.trod_lt m _ _ _ hm
  obtain ⟨cs0, rfl⟩ := okWide_agg Try.underlying41 (hval 0 41 v0 rfl rfl)
  obtain ⟨x0, g0, wf0_⟩ : ∃ x : ((Int × ByteArray × ByteArray × ByteArray) × ((List S23)) × ((List S23)) × Bool × (S23 × S23 × S23 × S23 × (List S23))), (Kd.pair (Kd.pair (Kd.int .i64) (Kd.pair Kd.string (Kd.pair Kd.string Kd.string))) (Kd.pair (Kd.slice 23 k23) (Kd.pair (Kd.slice 23 k23) (Kd.pair Kd.bool (Kd.pair k23 (Kd.pair k23 (Kd.pair k23 (Kd.pair k23 (Kd.slice 23 k23))))))))).K W x cs0.toList ∧ (((((Lit.int .i64 x.1.1).wf = true) ∧ ((x.1.2.1.size ≤ 9223372036854775807) ∧ ((x.1.2.2.1.size ≤ 9223372036854775807) ∧ (x.1.2.2.2.size ≤ 9223372036854775807))))) ∧ ((((x.2.1.length ≤ 9223372036854775807 ∧ ∀ y ∈ x.2.1, wf23 y))) ∧ ((((x.2.2.1.length ≤ 9223372036854775807 ∧ ∀ y ∈ x.2.2.1, wf23 y))) ∧ ((True) ∧ (((wf23 x.2.2.2.2.1) ∧ ((wf23 x.2.2.2.2.2.1) ∧ ((wf23 x.2.2.2.2.2.2.1) ∧ ((wf23 x.2.2.2.2.2.2.2.1) ∧ ((x.2.2.2.2.2.2.2.2.length ≤ 9223372036854775807 ∧ ∀ y ∈ x.2.2.2.2.2.2.2.2, wf23 y))))))))))) := by
    obtain ⟨fuel, hf⟩ := h0
    exact (opens41) fuel (Nat.le_refl _) hf
  obtain ⟨B0_0, B0_1, B0_2, C0_0, C0_1, C0_2, e0, hc0_0, hc0_1, hc0_2, hr0_0, hr0_1, hr0_2⟩ := agg41_open g0
  obtain rfl : cs0 = #[.int .i64 x0.1.1, .string x0.1.2.1, .string x0.1.2.2.1, .string x0.1.2.2.2, .slice B0_0 x0.2.1.length C0_0, .slice B0_1 x0.2.2.1.length C0_1, .bool x0.2.2.2.1, .int .i64 x0.2.2.2.2.1.f0, .int .i64 x0.2.2.2.2.1.f1, .bool x0.2.2.2.2.1.f2, .int .i64 x0.2.2.2.2.2.1.f0, .int .i64 x0.2.2.2.2.2.1.f1, .bool x0.2.2.2.2.2.1.f2, .int .i64 x0.2.2.2.2.2.2.1.f0, .int .i64 x0.2.2.2.2.2.2.1.f1, .bool x0.2.2.2.2.2.2.1.f2, .int .i64 x0.2.2.2.2.2.2.2.1.f0, .int .i64 x0.2.2.2.2.2.2.2.1.f1, .bool x0.2.2.2.2.2.2.2.1.f2, .slice B0_2 x0.2.2.2.2.2.2.2.2.length C0_2] := by cases cs0; simpa using e0
  obtain ⟨k, hk⟩ := Pure.FnExactClientOk x0 wf0_
  refine (QFnExactClientOk.laws_FnExactClientOk.calls k _ _ _ _ _ _ _ _ _ _ _ _ _ _ _ _ _ _ _ _ _ _ _ _ _ _ true W hr0_0 hc0_0 hr0_1 hc0_1 hr0_2 hc0_2 hk).mono fun e W' ⟨he, bel⟩ => ?_
  subst he
  exact ⟨_, rfl, _, _, _, [], _, [], hW', trodAll_mk1 (shut_bool Try.underlying4 _), (trodAll_cons_mk (Below.trod laidOut (by kernel_rfl) (of_decide_eq_true (by kernel_rfl)) t0 bel lt0) trodAll_mk0), rfl, bel.frame _, fun h => by cases h⟩
theorem over : Rows.fnExactClientOkRow.holds Try.pinned (OpenSpec.ofChange Rows.fnExactClientOkSpec) :=
  OpenClaim.holds_of_wide 7 Try.f7 rfl rfl rfl rfl rfl rfl rfl ⟨rfl, rfl, rfl, rfl, rfl⟩ rfl rfl rfl rfl rfl (by kernel_rfl) Try.func7 (by kernel_rfl)
    (of_decide_eq_true (by kernel_rfl)) (by unfold Func.isWrapper; first | (rw [if_pos (by decide +kernel)]; kernel_rfl) | (rw [if_neg (by decide +kernel)]; exact ⟨rfl, rfl⟩))
    (fun os started H enc _ => lifted os started H enc)
theorem proved : Rows.FnExactClientOkSaid := over
#print axioms proved
end Go.Proofs.Ytegchimmolpmeaa.fnExactClientOk
namespace Go.Proofs.Ytegchimmolpmeaa
/-- The row, under a short name, for the claim. -/
theorem fnExactClientOk_holds : Rows.FnExactClientOkSaid := fnExactClientOk.proved
end Go.Proofs.Ytegchimmolpmeaa
