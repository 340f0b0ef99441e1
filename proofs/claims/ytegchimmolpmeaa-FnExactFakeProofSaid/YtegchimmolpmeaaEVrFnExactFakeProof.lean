/- FnExactFakeProof: the row: for every argument that reads as data the call answers true, and the arguments read as they did. No conditions. -/
import Derived.Test.YtegchimmolpmeaaRows
import Derived.Test.YtegchimmolpmeaaChecked
import Derived.Test.YtegchimmolpmeaaEVqFnExactFakeProof
import Derived.WalkKit
import Derived.ProofKit
import Derived.OpenShut
import Derived.ShutString
import Derived.ChangeOld
import Derived.Below
import Derived.SizedLaws
import Derived.Carry
namespace Go.Proofs.Ytegchimmolpmeaa.FnExactFakeProof
open Go Go.ChangeShapes Go.WideShapes Go.ChangeAt Go.RowKit Go.Proofs Go.Proofs.Ytegchimmolpmeaa Go.Proofs.Ytegchimmolpmeaa.EV
open Go.ChangeMaps (open_string shut_string)
set_option linter.unusedVariables false
set_option linter.unusedSimpArgs false
set_option maxRecDepth 100000
theorem opens186 : Opens Try.prog 186 (Enc.pair (Enc.slice (Enc.int .i64)) (Enc.pair (Enc.slice (Enc.int .i64)) (Enc.slice (Enc.int .i64)))) (fun x => (okList (okInt .i64)) x.1 ∧ (fun x => (okList (okInt .i64)) x.1 ∧ (okList (okInt .i64)) x.2) x.2) := Opens.of_succ fun b =>
  opensB_struct Try.underlying186 (by kernel_rfl) (opensAt_cons rfl (by first | kernel_rfl | (show _ = 1; kernel_rfl)) ((opens_slice Try.underlying59 (by kernel_rfl) (by decide) (opens_int Try.underlying3)) b) (opensAt_cons rfl (by first | kernel_rfl | (show _ = 1; kernel_rfl)) ((opens_slice Try.underlying59 (by kernel_rfl) (by decide) (opens_int Try.underlying3)) b) (opensAt_one rfl (by first | kernel_rfl | (show _ = 1; kernel_rfl)) ((opens_slice Try.underlying59 (by kernel_rfl) (by decide) (opens_int Try.underlying3)) b))))
theorem opens88 : Opens Try.prog 88 (Enc.pair (Enc.int .i64) (Enc.pair (Enc.int .i64) (Enc.slice (Enc.pair (Enc.slice (Enc.int .i64)) (Enc.pair (Enc.slice (Enc.int .i64)) (Enc.slice (Enc.int .i64))))))) (fun x => (okInt .i64) x.1 ∧ (fun x => (okInt .i64) x.1 ∧ (okList (fun x => (okList (okInt .i64)) x.1 ∧ (fun x => (okList (okInt .i64)) x.1 ∧ (okList (okInt .i64)) x.2) x.2)) x.2) x.2) := Opens.of_succ fun b =>
  opensB_struct Try.underlying88 (by kernel_rfl) (opensAt_cons rfl (by first | kernel_rfl | (show _ = 1; kernel_rfl)) ((opens_int Try.underlying3) b) (opensAt_cons rfl (by first | kernel_rfl | (show _ = 1; kernel_rfl)) ((opens_int Try.underlying3) b) (opensAt_one rfl (by first | kernel_rfl | (show _ = 1; kernel_rfl)) ((opens_slice Try.underlying86 (by kernel_rfl) (by decide) opens186) b))))
theorem opens90 : Opens Try.prog 90 (Enc.pair (Enc.int .i64) (Enc.pair (Enc.int .i64) (Enc.pair (Enc.int .i64) (Enc.pair (Enc.int .i64) (Enc.int .i64))))) (fun x => (okInt .i64) x.1 ∧ (fun x => (okInt .i64) x.1 ∧ (fun x => (okInt .i64) x.1 ∧ (fun x => (okInt .i64) x.1 ∧ (okInt .i64) x.2) x.2) x.2) x.2) := Opens.of_succ fun b =>
  opensB_struct Try.underlying90 (by kernel_rfl) (opensAt_cons rfl (by first | kernel_rfl | (show _ = 1; kernel_rfl)) ((opens_int Try.underlying3) b) (opensAt_cons rfl (by first | kernel_rfl | (show _ = 1; kernel_rfl)) ((opens_int Try.underlying3) b) (opensAt_cons rfl (by first | kernel_rfl | (show _ = 1; kernel_rfl)) ((opens_int Try.underlying3) b) (opensAt_cons rfl (by first | kernel_rfl | (show _ = 1; kernel_rfl)) ((opens_int Try.underlying3) b) (opensAt_one rfl (by first | kernel_rfl | (show _ = 1; kernel_rfl)) ((opens_int Try.underlying3) b))))))
theorem pure_FnExactFakeProof (x0 : (Int × Int × (List ((List Int) × (List Int) × (List Int))))) (x1 : (Int × Int × Int × Int × Int)) (x2 : (List Int)) (x3 : Int) (x4 : Int) (h0 : (fun x => (okInt .i64) x.1 ∧ (fun x => (okInt .i64) x.1 ∧ (okList (fun x => (okList (okInt .i64)) x.1 ∧ (fun x => (okList (okInt .i64)) x.1 ∧ (okList (okInt .i64)) x.2) x.2)) x.2) x.2) x0) (h1 : (fun x => (okInt .i64) x.1 ∧ (fun x => (okInt .i64) x.1 ∧ (fun x => (okInt .i64) x.1 ∧ (fun x => (okInt .i64) x.1 ∧ (okInt .i64) x.2) x.2) x.2) x.2) x1) (h2 : (okList (okInt .i64)) x2) (h3 : (okInt .i64) x3) (h4 : (okInt .i64) x4) : ∃ k, evF cp k n_laws_FnExactFakeProof [.agg ((Enc.pair (Enc.int .i64) (Enc.pair (Enc.int .i64) (Enc.slice (Enc.pair (Enc.slice (Enc.int .i64)) (Enc.pair (Enc.slice (Enc.int .i64)) (Enc.slice (Enc.int .i64))))))).enc x0), .agg ((Enc.pair (Enc.int .i64) (Enc.pair (Enc.int .i64) (Enc.pair (Enc.int .i64) (Enc.pair (Enc.int .i64) (Enc.int .i64))))).enc x1), .fs x2.length (x2.flatMap (Enc.int .i64).enc), .int .i64 x3, .int .i64 x4] = some [.bool true] := law_FakeProof x0.1 x0.2.1 x0.2.2 x1.1 x1.2.1 x1.2.2.1 x1.2.2.2.1 x1.2.2.2.2 x2 x3 x4 ⟨h0.2.2.1, fun y hy => ⟨(h0.2.2.2 y hy).1.1, (h0.2.2.2 y hy).2.1.1, (h0.2.2.2 y hy).2.2.1⟩⟩
theorem own : ownKnob Try.prog.godebug = none := by kernel_rfl
theorem laidOut : laidOutB Try.prog = true := by kernel_rfl
theorem lifted (os : Os) (started : os.Started) (H : Type) (enc : TypeId × Value → H) :
    ReturnsInHanded {} Try.checked os 11 .any (Rows.fnExactFakeProofSpec.pre6 enc Try.prog Try.f11 Rows.fnExactFakeProofRow.domain false) (Rows.fnExactFakeProofSpec.post enc Try.prog Try.f11 false true false false) := by
  refine returnsInHanded_of_change_sized (C := Try.checked) own started (by kernel_rfl) Try.func11
    (ChangeSpec.witness6 (enc := enc) (C := Try.checked) false ⟨#[], #[.agg #[.int .i64 0, .int .i64 0, .slice none 0 0], .agg #[.int .i64 0, .int .i64 0, .int .i64 0, .int .i64 0, .int .i64 0], .slice none 0 0, .int .i64 0, .int .i64 0], []⟩ 8 (by kernel_rfl) (by kernel_rfl) (by kernel_rfl) (by kernel_rfl)) ?_
  intro W base args ds gs before hval0 hW hcnd hsz0 _
  have hval : ∀ (j : Nat) t v, Try.f11.params[j]? = some t → args[j]? = some v → Value.okWide Try.prog W .any base t v := hval0
  have hW' := hW
  obtain ⟨p, q, hA0, hV, rfl, hfz, hnd⟩ := hW
  have hA : DataW.TrodAll enc Try.prog W 0 (fun _ => true) true Try.f11.params.toList args.toList ds p := hA0
  rw [Try.params11] at hA hval
  obtain ⟨v0, vs0, d0, ds0, p0, q0, hargs, rfl, rfl, h0, r0⟩ := trodAll_cons hA
  obtain ⟨v1, vs1, d1, ds1, p1, q1, rfl, rfl, rfl, h1, r1⟩ := trodAll_cons r0
  obtain ⟨v2, vs2, d2, ds2, p2, q2, rfl, rfl, rfl, h2, r2⟩ := trodAll_cons r1
  obtain ⟨v3, vs3, d3, ds3, p3, q3, rfl, rfl, rfl, h3, r3⟩ := trodAll_cons r2
  obtain ⟨v4, vs4, d4, ds4, p4, q4, rfl, rfl, rfl, h4, r4⟩ := trodAll_cons r3
  obtain ⟨rfl, rfl, rfl⟩ := trodAll_nil r4
  obtain rfl : args = #[v0, v1, v2, v3, v4] := by cases args; simp_all
  obtain ⟨rfl, rfl⟩ := trodVars_none hV
  have t0 := h0
  have lt0 : ∀ x ∈ p0, x.block < W.heap.size := by obtain ⟨m, hm⟩ := t0; exact DataW.trod_lt m _ _ _ hm
  obtain ⟨cs0, rfl⟩ := okWide_agg Try.underlying88 (hval 0 88 v0 rfl rfl)
  obtain ⟨x0, g0, wf0_⟩ : ∃ x : (Int × Int × (List ((List Int) × (List Int) × (List Int)))), RepL W (top W) ((Enc.pair (Enc.int .i64) (Enc.pair (Enc.int .i64) (Enc.slice (Enc.pair (Enc.slice (Enc.int .i64)) (Enc.pair (Enc.slice (Enc.int .i64)) (Enc.slice (Enc.int .i64))))))).enc x) cs0.toList ∧ (fun x => (okInt .i64) x.1 ∧ (fun x => (okInt .i64) x.1 ∧ (okList (fun x => (okList (okInt .i64)) x.1 ∧ (fun x => (okList (okInt .i64)) x.1 ∧ (okList (okInt .i64)) x.2) x.2)) x.2) x.2) x := by
    obtain ⟨fuel, hf⟩ := h0
    exact opens88 fuel (Nat.le_refl _) hf
  have t1 := h1
  have lt1 : ∀ x ∈ p1, x.block < W.heap.size := by obtain ⟨m, hm⟩ := t1; exact DataW.trod_lt m _ _ _ hm
  obtain ⟨cs1, rfl⟩ := okWide_agg Try.underlying90 (hval 1 90 v1 rfl rfl)
  obtain ⟨x1, g1, wf1_⟩ : ∃ x : (Int × Int × Int × Int × Int), RepL W (top W) ((Enc.pair (Enc.int .i64) (Enc.pair (Enc.int .i64) (Enc.pair (Enc.int .i64) (Enc.pair (Enc.int .i64) (Enc.int .i64))))).enc x) cs1.toList ∧ (fun x => (okInt .i64) x.1 ∧ (fun x => (okInt .i64) x.1 ∧ (fun x => (okInt .i64) x.1 ∧ (fun x => (okInt .i64) x.1 ∧ (okInt .i64) x.2) x.2) x.2) x.2) x := by
    obtain ⟨fuel, hf⟩ := h1
    exact opens90 fuel (Nat.le_refl _) hf
  have t2 := h2
  have lt2 : ∀ x ∈ p2, x.block < W.heap.size := by obtain ⟨m, hm⟩ := t2; exact DataW.trod_lt m _ _ _ hm
  obtain ⟨a2, len2, cap2, rfl⟩ := okWide_slice Try.underlying59 (hval 2 59 v2 rfl rfl)
  obtain ⟨x2, g2, wf2_⟩ : ∃ x : (List Int), RepL W (top W) ((Enc.slice (Enc.int .i64)).enc x) [.slice a2 len2 cap2] ∧ (okList (okInt .i64)) x := by
    obtain ⟨fuel, hf⟩ := h2
    exact (opens_slice Try.underlying59 (by kernel_rfl) (by decide) (opens_int Try.underlying3)) fuel (Nat.le_refl _) hf
  obtain ⟨_, _, e2, g2_, _⟩ := g2
  obtain ⟨rfl, rfl⟩ : _ = _ ∧ _ = [] := by simpa using e2.symm
  have t3 := h3
  have lt3 : ∀ x ∈ p3, x.block < W.heap.size := by obtain ⟨m, hm⟩ := t3; exact DataW.trod_lt m _ _ _ hm
  obtain ⟨x3, rfl, rfl, rfl, wf3_⟩ := open_int Try.underlying3 (hval 3 3 v3 rfl rfl) h3
  have t4 := h4
  have lt4 : ∀ x ∈ p4, x.block < W.heap.size := by obtain ⟨m, hm⟩ := t4; exact DataW.trod_lt m _ _ _ hm
  obtain ⟨x4, rfl, rfl, rfl, wf4_⟩ := open_int Try.underlying3 (hval 4 3 v4 rfl rfl) h4
  obtain ⟨k, hk⟩ := pure_FnExactFakeProof x0 x1 x2 x3 x4 wf0_ wf1_ wf2_ wf3_ wf4_
  have hrep : RepL W (top W) [.agg ((Enc.pair (Enc.int .i64) (Enc.pair (Enc.int .i64) (Enc.slice (Enc.pair (Enc.slice (Enc.int .i64)) (Enc.pair (Enc.slice (Enc.int .i64)) (Enc.slice (Enc.int .i64))))))).enc x0), .agg ((Enc.pair (Enc.int .i64) (Enc.pair (Enc.int .i64) (Enc.pair (Enc.int .i64) (Enc.pair (Enc.int .i64) (Enc.int .i64))))).enc x1), .fs x2.length (x2.flatMap (Enc.int .i64).enc), .int .i64 x3, .int .i64 x4] [.agg cs0, .agg cs1, .slice a2 len2 cap2, .int .i64 x3, .int .i64 x4] := ⟨_, _, rfl, ⟨cs0.toList, by simp, g0⟩, ⟨_, _, rfl, ⟨cs1.toList, by simp, g1⟩, ⟨_, _, rfl, g2_, ⟨_, _, rfl, rfl, ⟨_, _, rfl, rfl, rfl⟩⟩⟩⟩⟩
  refine (law_calls (cp := cp) cp_ok cp_any (f := 11) (fn := Try.f11) rfl (t := 4) (by kernel_rfl) rfl hk hrep).mono fun e W' ⟨he, bel⟩ => ?_
  subst he
  exact ⟨_, rfl, _, _, _, [], _, [], hW', trodAll_mk1 (shut_bool Try.underlying4 _), (trodAll_cons_mk (Below.trod laidOut (by kernel_rfl) (of_decide_eq_true (by kernel_rfl)) t0 bel lt0) (trodAll_cons_mk (Below.trod laidOut (by kernel_rfl) (of_decide_eq_true (by kernel_rfl)) t1 bel lt1) (trodAll_cons_mk (Below.trod laidOut (by kernel_rfl) (of_decide_eq_true (by kernel_rfl)) t2 bel lt2) (trodAll_cons_mk (Below.trod laidOut (by kernel_rfl) (of_decide_eq_true (by kernel_rfl)) t3 bel lt3) (trodAll_cons_mk (Below.trod laidOut (by kernel_rfl) (of_decide_eq_true (by kernel_rfl)) t4 bel lt4) trodAll_mk0))))), rfl, bel.frame _, fun h => by cases h⟩
theorem over : Rows.fnExactFakeProofRow.holds Try.pinned (OpenSpec.ofChange Rows.fnExactFakeProofSpec) :=
  OpenClaim.holds_of_wide 11 Try.f11 rfl rfl rfl rfl rfl rfl rfl ⟨rfl, rfl, rfl, rfl, rfl⟩ rfl rfl rfl rfl rfl (by kernel_rfl) Try.func11 (by kernel_rfl)
    (of_decide_eq_true (by kernel_rfl)) (by unfold Func.isWrapper; first | (rw [if_pos (by decide +kernel)]; kernel_rfl) | (rw [if_neg (by decide +kernel)]; exact ⟨rfl, rfl⟩))
    (fun os started H enc _ => lifted os started H enc)
theorem proved : Rows.FnExactFakeProofSaid := over
#print axioms proved
end Go.Proofs.Ytegchimmolpmeaa.FnExactFakeProof
namespace Go.Proofs.Ytegchimmolpmeaa
/-- The row, under a short name, for the claim. -/
theorem fnExactFakeProof_holds : Rows.FnExactFakeProofSaid := FnExactFakeProof.proved
end Go.Proofs.Ytegchimmolpmeaa
