/- FnExactProofOk: the row: for every argument that reads as data the call answers true, and the arguments read as they did. No conditions. -/
import Derived.Test.YtegchimmolpmeaaRows
import Derived.Test.YtegchimmolpmeaaChecked
import Derived.Test.YtegchimmolpmeaaEVqFnExactProofOk
import Derived.WalkKit
import Derived.ProofKit
import Derived.OpenShut
import Derived.ShutString
import Derived.ChangeOld
import Derived.Below
import Derived.SizedLaws
import Derived.Carry
namespace Go.Proofs.Ytegchimmolpmeaa.FnExactProofOk
open Go Go.ChangeShapes Go.WideShapes Go.ChangeAt Go.RowKit Go.Proofs Go.Proofs.Ytegchimmolpmeaa Go.Proofs.Ytegchimmolpmeaa.EV
open Go.ChangeMaps (open_string shut_string)
set_option linter.unusedVariables false
set_option linter.unusedSimpArgs false
set_option maxRecDepth 100000
theorem opens23 : Opens Try.prog 23 (Enc.pair (Enc.int .i64) (Enc.pair (Enc.int .i64) Enc.bool)) (fun x => (okInt .i64) x.1 ∧ (fun x => (okInt .i64) x.1 ∧ (fun _ => True) x.2) x.2) := Opens.of_succ fun b =>
  opensB_struct Try.underlying23 (by kernel_rfl) (opensAt_cons rfl (by first | kernel_rfl | (show _ = 1; kernel_rfl)) ((opens_int Try.underlying3) b) (opensAt_cons rfl (by first | kernel_rfl | (show _ = 1; kernel_rfl)) ((opens_int Try.underlying3) b) (opensAt_one rfl (by first | kernel_rfl | (show _ = 1; kernel_rfl)) ((opens_bool Try.underlying4) b))))
theorem opens39 : Opens Try.prog 39 (Enc.pair (Enc.pair (Enc.int .i64) (Enc.pair (Enc.int .i64) Enc.bool)) (Enc.pair (Enc.pair (Enc.int .i64) (Enc.pair (Enc.int .i64) Enc.bool)) (Enc.pair (Enc.pair (Enc.int .i64) (Enc.pair (Enc.int .i64) Enc.bool)) (Enc.pair (Enc.pair (Enc.int .i64) (Enc.pair (Enc.int .i64) Enc.bool)) (Enc.slice (Enc.pair (Enc.int .i64) (Enc.pair (Enc.int .i64) Enc.bool))))))) (fun x => (fun x => (okInt .i64) x.1 ∧ (fun x => (okInt .i64) x.1 ∧ (fun _ => True) x.2) x.2) x.1 ∧ (fun x => (fun x => (okInt .i64) x.1 ∧ (fun x => (okInt .i64) x.1 ∧ (fun _ => True) x.2) x.2) x.1 ∧ (fun x => (fun x => (okInt .i64) x.1 ∧ (fun x => (okInt .i64) x.1 ∧ (fun _ => True) x.2) x.2) x.1 ∧ (fun x => (fun x => (okInt .i64) x.1 ∧ (fun x => (okInt .i64) x.1 ∧ (fun _ => True) x.2) x.2) x.1 ∧ (okList (fun x => (okInt .i64) x.1 ∧ (fun x => (okInt .i64) x.1 ∧ (fun _ => True) x.2) x.2)) x.2) x.2) x.2) x.2) := Opens.of_succ fun b =>
  opensB_struct Try.underlying39 (by kernel_rfl) (opensAt_cons rfl (by first | kernel_rfl | (show _ = 1; kernel_rfl)) (opens23 b) (opensAt_cons rfl (by first | kernel_rfl | (show _ = 1; kernel_rfl)) (opens23 b) (opensAt_cons rfl (by first | kernel_rfl | (show _ = 1; kernel_rfl)) (opens23 b) (opensAt_cons rfl (by first | kernel_rfl | (show _ = 1; kernel_rfl)) (opens23 b) (opensAt_one rfl (by first | kernel_rfl | (show _ = 1; kernel_rfl)) ((opens_slice Try.underlying35 (by kernel_rfl) (by decide) opens23) b))))))
theorem opens25 : Opens Try.prog 25 (Enc.pair (Enc.pair (Enc.int .i64) (Enc.pair (Enc.int .i64) Enc.bool)) (Enc.pair (Enc.pair (Enc.int .i64) (Enc.pair (Enc.int .i64) Enc.bool)) (Enc.pair (Enc.int .i64) (Enc.pair (Enc.int .i64) Enc.bool)))) (fun x => (fun x => (okInt .i64) x.1 ∧ (fun x => (okInt .i64) x.1 ∧ (fun _ => True) x.2) x.2) x.1 ∧ (fun x => (fun x => (okInt .i64) x.1 ∧ (fun x => (okInt .i64) x.1 ∧ (fun _ => True) x.2) x.2) x.1 ∧ (fun x => (okInt .i64) x.1 ∧ (fun x => (okInt .i64) x.1 ∧ (fun _ => True) x.2) x.2) x.2) x.2) := Opens.of_succ fun b =>
  opensB_struct Try.underlying25 (by kernel_rfl) (opensAt_cons rfl (by first | kernel_rfl | (show _ = 1; kernel_rfl)) (opens23 b) (opensAt_cons rfl (by first | kernel_rfl | (show _ = 1; kernel_rfl)) (opens23 b) (opensAt_one rfl (by first | kernel_rfl | (show _ = 1; kernel_rfl)) (opens23 b))))
theorem pure_FnExactProofOk (x0 : ((Int × Int × Bool) × (Int × Int × Bool) × (Int × Int × Bool) × (Int × Int × Bool) × (List (Int × Int × Bool)))) (x1 : (List Int)) (x2 : ((Int × Int × Bool) × (Int × Int × Bool) × (Int × Int × Bool))) (h0 : (fun x => (fun x => (okInt .i64) x.1 ∧ (fun x => (okInt .i64) x.1 ∧ (fun _ => True) x.2) x.2) x.1 ∧ (fun x => (fun x => (okInt .i64) x.1 ∧ (fun x => (okInt .i64) x.1 ∧ (fun _ => True) x.2) x.2) x.1 ∧ (fun x => (fun x => (okInt .i64) x.1 ∧ (fun x => (okInt .i64) x.1 ∧ (fun _ => True) x.2) x.2) x.1 ∧ (fun x => (fun x => (okInt .i64) x.1 ∧ (fun x => (okInt .i64) x.1 ∧ (fun _ => True) x.2) x.2) x.1 ∧ (okList (fun x => (okInt .i64) x.1 ∧ (fun x => (okInt .i64) x.1 ∧ (fun _ => True) x.2) x.2)) x.2) x.2) x.2) x.2) x0) (h1 : (okList (okInt .i64)) x1) (h2 : (fun x => (fun x => (okInt .i64) x.1 ∧ (fun x => (okInt .i64) x.1 ∧ (fun _ => True) x.2) x.2) x.1 ∧ (fun x => (fun x => (okInt .i64) x.1 ∧ (fun x => (okInt .i64) x.1 ∧ (fun _ => True) x.2) x.2) x.1 ∧ (fun x => (okInt .i64) x.1 ∧ (fun x => (okInt .i64) x.1 ∧ (fun _ => True) x.2) x.2) x.2) x.2) x2) : ∃ k, evF cp k n_laws_FnExactProofOk [.agg ((Enc.pair (Enc.pair (Enc.int .i64) (Enc.pair (Enc.int .i64) Enc.bool)) (Enc.pair (Enc.pair (Enc.int .i64) (Enc.pair (Enc.int .i64) Enc.bool)) (Enc.pair (Enc.pair (Enc.int .i64) (Enc.pair (Enc.int .i64) Enc.bool)) (Enc.pair (Enc.pair (Enc.int .i64) (Enc.pair (Enc.int .i64) Enc.bool)) (Enc.slice (Enc.pair (Enc.int .i64) (Enc.pair (Enc.int .i64) Enc.bool))))))).enc x0), .fs x1.length (x1.flatMap (Enc.int .i64).enc), .agg ((Enc.pair (Enc.pair (Enc.int .i64) (Enc.pair (Enc.int .i64) Enc.bool)) (Enc.pair (Enc.pair (Enc.int .i64) (Enc.pair (Enc.int .i64) Enc.bool)) (Enc.pair (Enc.int .i64) (Enc.pair (Enc.int .i64) Enc.bool)))).enc x2)] = some [.bool true] := law_ProofOk x0.1 x0.2.1 x0.2.2.1 x0.2.2.2.1 x0.2.2.2.2 x1 x2.1 x2.2.1 x2.2.2 h0.2.2.2.2.1
theorem own : ownKnob Try.prog.godebug = none := by kernel_rfl
theorem laidOut : laidOutB Try.prog = true := by kernel_rfl
theorem lifted (os : Os) (started : os.Started) (H : Type) (enc : TypeId × Value → H) :
    ReturnsInHanded {} Try.checked os 9 .any (Rows.fnExactProofOkSpec.pre6 enc Try.prog Try.f9 Rows.fnExactProofOkRow.domain false) (Rows.fnExactProofOkSpec.post enc Try.prog Try.f9 false true false false) := by
  refine returnsInHanded_of_change_sized (C := Try.checked) own started (by kernel_rfl) Try.func9
    (ChangeSpec.witness6 (enc := enc) (C := Try.checked) false ⟨#[], #[.agg #[.int .i64 0, .int .i64 0, .bool false, .int .i64 0, .int .i64 0, .bool false, .int .i64 0, .int .i64 0, .bool false, .int .i64 0, .int .i64 0, .bool false, .slice none 0 0], .slice none 0 0, .agg #[.int .i64 0, .int .i64 0, .bool false, .int .i64 0, .int .i64 0, .bool false, .int .i64 0, .int .i64 0, .bool false]], []⟩ 8 (by kernel_rfl) (by kernel_rfl) (by kernel_rfl) (by kernel_rfl)) ?_
  intro W base args ds gs before hval0 hW hcnd hsz0 _
  have hval : ∀ (j : Nat) t v, Try.f9.params[j]? = some t → args[j]? = some v → Value.okWide Try.prog W .any base t v := hval0
  have hW' := hW
  obtain ⟨p, q, hA0, hV, rfl, hfz, hnd⟩ := hW
  have hA : DataW.TrodAll enc Try.prog W 0 (fun _ => true) true Try.f9.params.toList args.toList ds p := hA0
  rw [Try.params9] at hA hval
  obtain ⟨v0, vs0, d0, ds0, p0, q0, hargs, rfl, rfl, h0, r0⟩ := trodAll_cons hA
  obtain ⟨v1, vs1, d1, ds1, p1, q1, rfl, rfl, rfl, h1, r1⟩ := trodAll_cons r0
  obtain ⟨v2, vs2, d2, ds2, p2, q2, rfl, rfl, rfl, h2, r2⟩ := trodAll_cons r1
  obtain ⟨rfl, rfl, rfl⟩ := trodAll_nil r2
  obtain rfl : args = #[v0, v1, v2] := by cases args; simp_all
  obtain ⟨rfl, rfl⟩ := trodVars_none hV
  have t0 := h0
  have lt0 : ∀ x ∈ p0, x.block < W.heap.size := by obtain ⟨m, hm⟩ := t0; exact DataW.trod_lt m _ _ _ hm
  obtain ⟨cs0, rfl⟩ := okWide_agg Try.underlying39 (hval 0 39 v0 rfl rfl)
  obtain ⟨x0, g0, wf0_⟩ : ∃ x : ((Int × Int × Bool) × (Int × Int × Bool) × (Int × Int × Bool) × (Int × Int × Bool) × (List (Int × Int × Bool))), RepL W (top W) ((Enc.pair (Enc.pair (Enc.int .i64) (Enc.pair (Enc.int .i64) Enc.bool)) (Enc.pair (Enc.pair (Enc.int .i64) (Enc.pair (Enc.int .i64) Enc.bool)) (Enc.pair (Enc.pair (Enc.int .i64) (Enc.pair (Enc.int .i64) Enc.bool)) (Enc.pair (Enc.pair (Enc.int .i64) (Enc.pair (Enc.int .i64) Enc.bool)) (Enc.slice (Enc.pair (Enc.int .i64) (Enc.pair (Enc.int .i64) Enc.bool))))))).enc x) cs0.toList ∧ (fun x => (fun x => (okInt .i64) x.1 ∧ (fun x => (okInt .i64) x.1 ∧ (fun _ => True) x.2) x.2) x.1 ∧ (fun x => (fun x => (okInt .i64) x.1 ∧ (fun x => (okInt .i64) x.1 ∧ (fun _ => True) x.2) x.2) x.1 ∧ (fun x => (fun x => (okInt .i64) x.1 ∧ (fun x => (okInt .i64) x.1 ∧ (fun _ => True) x.2) x.2) x.1 ∧ (fun x => (fun x => (okInt .i64) x.1 ∧ (fun x => (okInt .i64) x.1 ∧ (fun _ => True) x.2) x.2) x.1 ∧ (okList (fun x => (okInt .i64) x.1 ∧ (fun x => (okInt .i64) x.1 ∧ (fun _ => True) x.2) x.2)) x.2) x.2) x.2) x.2) x := by
    obtain ⟨fuel, hf⟩ := h0
    exact opens39 fuel (Nat.le_refl _) hf
  have t1 := h1
  have lt1 : ∀ x ∈ p1, x.block < W.heap.size := by obtain ⟨m, hm⟩ := t1; exact DataW.trod_lt m _ _ _ hm
  obtain ⟨a1, len1, cap1, rfl⟩ := okWide_slice Try.underlying59 (hval 1 59 v1 rfl rfl)
  obtain ⟨x1, g1, wf1_⟩ : ∃ x : (List Int), RepL W (top W) ((Enc.slice (Enc.int .i64)).enc x) [.slice a1 len1 cap1] ∧ (okList (okInt .i64)) x := by
    obtain ⟨fuel, hf⟩ := h1
    exact (opens_slice Try.underlying59 (by kernel_rfl) (by decide) (opens_int Try.underlying3)) fuel (Nat.le_refl _) hf
  obtain ⟨_, _, e1, g1_, _⟩ := g1
  obtain ⟨rfl, rfl⟩ : _ = _ ∧ _ = [] := by simpa using e1.symm
  have t2 := h2
  have lt2 : ∀ x ∈ p2, x.block < W.heap.size := by obtain ⟨m, hm⟩ := t2; exact DataW.trod_lt m _ _ _ hm
  obtain ⟨cs2, rfl⟩ := okWide_agg Try.underlying25 (hval 2 25 v2 rfl rfl)
  obtain ⟨x2, g2, wf2_⟩ : ∃ x : ((Int × Int × Bool) × (Int × Int × Bool) × (Int × Int × Bool)), RepL W (top W) ((Enc.pair (Enc.pair (Enc.int .i64) (Enc.pair (Enc.int .i64) Enc.bool)) (Enc.pair (Enc.pair (Enc.int .i64) (Enc.pair (Enc.int .i64) Enc.bool)) (Enc.pair (Enc.int .i64) (Enc.pair (Enc.int .i64) Enc.bool)))).enc x) cs2.toList ∧ (fun x => (fun x => (okInt .i64) x.1 ∧ (fun x => (okInt .i64) x.1 ∧ (fun _ => True) x.2) x.2) x.1 ∧ (fun x => (fun x => (okInt .i64) x.1 ∧ (fun x => (okInt .i64) x.1 ∧ (fun _ => True) x.2) x.2) x.1 ∧ (fun x => (okInt .i64) x.1 ∧ (fun x => (okInt .i64) x.1 ∧ (fun _ => True) x.2) x.2) x.2) x.2) x := by
    obtain ⟨fuel, hf⟩ := h2
    exact opens25 fuel (Nat.le_refl _) hf
  obtain ⟨k, hk⟩ := pure_FnExactProofOk x0 x1 x2 wf0_ wf1_ wf2_
  have hrep : RepL W (top W) [.agg ((Enc.pair (Enc.pair (Enc.int .i64) (Enc.pair (Enc.int .i64) Enc.bool)) (Enc.pair (Enc.pair (Enc.int .i64) (Enc.pair (Enc.int .i64) Enc.bool)) (Enc.pair (Enc.pair (Enc.int .i64) (Enc.pair (Enc.int .i64) Enc.bool)) (Enc.pair (Enc.pair (Enc.int .i64) (Enc.pair (Enc.int .i64) Enc.bool)) (Enc.slice (Enc.pair (Enc.int .i64) (Enc.pair (Enc.int .i64) Enc.bool))))))).enc x0), .fs x1.length (x1.flatMap (Enc.int .i64).enc), .agg ((Enc.pair (Enc.pair (Enc.int .i64) (Enc.pair (Enc.int .i64) Enc.bool)) (Enc.pair (Enc.pair (Enc.int .i64) (Enc.pair (Enc.int .i64) Enc.bool)) (Enc.pair (Enc.int .i64) (Enc.pair (Enc.int .i64) Enc.bool)))).enc x2)] [.agg cs0, .slice a1 len1 cap1, .agg cs2] := ⟨_, _, rfl, ⟨cs0.toList, by simp, g0⟩, ⟨_, _, rfl, g1_, ⟨_, _, rfl, ⟨cs2.toList, by simp, g2⟩, rfl⟩⟩⟩
  refine (law_calls (cp := cp) cp_ok cp_any (f := 9) (fn := Try.f9) rfl (t := 4) (by kernel_rfl) rfl hk hrep).mono fun e W' ⟨he, bel⟩ => ?_
  subst he
  exact ⟨_, rfl, _, _, _, [], _, [], hW', trodAll_mk1 (shut_bool Try.underlying4 _), (trodAll_cons_mk (Below.trod laidOut (by kernel_rfl) (of_decide_eq_true (by kernel_rfl)) t0 bel lt0) (trodAll_cons_mk (Below.trod laidOut (by kernel_rfl) (of_decide_eq_true (by kernel_rfl)) t1 bel lt1) (trodAll_cons_mk (Below.trod laidOut (by kernel_rfl) (of_decide_eq_true (by kernel_rfl)) t2 bel lt2) trodAll_mk0))), rfl, bel.frame _, fun h => by cases h⟩
theorem over : Rows.fnExactProofOkRow.holds Try.pinned (OpenSpec.ofChange Rows.fnExactProofOkSpec) :=
  OpenClaim.holds_of_wide 9 Try.f9 rfl rfl rfl rfl rfl rfl rfl ⟨rfl, rfl, rfl, rfl, rfl⟩ rfl rfl rfl rfl rfl (by kernel_rfl) Try.func9 (by kernel_rfl)
    (of_decide_eq_true (by kernel_rfl)) (by unfold Func.isWrapper; first | (rw [if_pos (by decide +kernel)]; kernel_rfl) | (rw [if_neg (by decide +kernel)]; exact ⟨rfl, rfl⟩))
    (fun os started H enc _ => lifted os started H enc)
theorem proved : Rows.FnExactProofOkSaid := over
#print axioms proved
end Go.Proofs.Ytegchimmolpmeaa.FnExactProofOk
namespace Go.Proofs.Ytegchimmolpmeaa
/-- The row, under a short name, for the claim. -/
theorem fnExactProofOk_holds : Rows.FnExactProofOkSaid := FnExactProofOk.proved
end Go.Proofs.Ytegchimmolpmeaa
