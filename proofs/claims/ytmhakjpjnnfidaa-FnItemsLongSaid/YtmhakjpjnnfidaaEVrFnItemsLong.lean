/- FnItemsLong: the row: for every argument that reads as data the call answers true, and the arguments read as they did. No conditions. -/
import Derived.Test.YtmhakjpjnnfidaaRows
import Derived.Test.YtmhakjpjnnfidaaChecked
import Derived.Test.YtmhakjpjnnfidaaEVqFnItemsLong
import Derived.WalkKit
import Derived.ProofKit
import Derived.OpenShut
import Derived.ShutString
import Derived.ChangeOld
import Derived.Below
import Derived.SizedLaws
import Derived.Carry
namespace Go.Proofs.Ytmhakjpjnnfidaa.FnItemsLong
open Go Go.ChangeShapes Go.WideShapes Go.ChangeAt Go.RowKit Go.Proofs Go.Proofs.Ytmhakjpjnnfidaa Go.Proofs.Ytmhakjpjnnfidaa.EV
open Go.ChangeMaps (open_string shut_string)
set_option linter.unusedVariables false
set_option linter.unusedSimpArgs false
set_option maxRecDepth 100000
theorem pure_FnItemsLong (x0 : (List Int)) (h0 : (okList (okInt .u8)) x0) : ∃ k, evF cp k n_laws_FnItemsLong [.fs x0.length (x0.flatMap (Enc.int .u8).enc)] = some [.bool true] := law_ItemsLong x0
theorem own : ownKnob Try.prog.godebug = none := by kernel_rfl
theorem laidOut : laidOutB Try.prog = true := by kernel_rfl
theorem lifted (os : Os) (started : os.Started) (H : Type) (enc : TypeId × Value → H) :
    ReturnsInHanded {} Try.checked os 13 .any (Rows.fnItemsLongSpec.pre6 enc Try.prog Try.f13 Rows.fnItemsLongRow.domain false) (Rows.fnItemsLongSpec.post enc Try.prog Try.f13 false true false false) := by
  refine returnsInHanded_of_change_sized (C := Try.checked) own started (by kernel_rfl) Try.func13
    (ChangeSpec.witness6 (enc := enc) (C := Try.checked) false ⟨#[], #[.slice none 0 0], []⟩ 8 (by kernel_rfl) (by kernel_rfl) (by kernel_rfl) (by kernel_rfl)) ?_
  intro W base args ds gs before hval0 hW hcnd hsz0 _
  have hval : ∀ (j : Nat) t v, Try.f13.params[j]? = some t → args[j]? = some v → Value.okWide Try.prog W .any base t v := hval0
  have hW' := hW
  obtain ⟨p, q, hA0, hV, rfl, hfz, hnd⟩ := hW
  have hA : DataW.TrodAll enc Try.prog W 0 (fun _ => true) true Try.f13.params.toList args.toList ds p := hA0
  rw [Try.params13] at hA hval
  obtain ⟨v0, vs0, d0, ds0, p0, q0, hargs, rfl, rfl, h0, r0⟩ := trodAll_cons hA
  obtain ⟨rfl, rfl, rfl⟩ := trodAll_nil r0
  obtain rfl : args = #[v0] := by cases args; simp_all
  obtain ⟨rfl, rfl⟩ := trodVars_none hV
  have t0 := h0
  have lt0 : ∀ x ∈ p0, x.block < W.heap.size := by obtain ⟨m, hm⟩ := t0; exact DataW.trod_lt m _ _ _ hm
  obtain ⟨a0, len0, cap0, rfl⟩ := okWide_slice Try.underlying79 (hval 0 79 v0 rfl rfl)
  obtain ⟨x0, g0, wf0_⟩ : ∃ x : (List Int), RepL W (top W) ((Enc.slice (Enc.int .u8)).enc x) [.slice a0 len0 cap0] ∧ (okList (okInt .u8)) x := by
    obtain ⟨fuel, hf⟩ := h0
    exact (opens_slice Try.underlying79 (by kernel_rfl) (by decide) (opens_int Try.underlying5)) fuel (Nat.le_refl _) hf
  obtain ⟨_, _, e0, g0_, _⟩ := g0
  obtain ⟨rfl, rfl⟩ : _ = _ ∧ _ = [] := by simpa using e0.symm
  obtain ⟨k, hk⟩ := pure_FnItemsLong x0 wf0_
  have hrep : RepL W (top W) [.fs x0.length (x0.flatMap (Enc.int .u8).enc)] [.slice a0 len0 cap0] := ⟨_, _, rfl, g0_, rfl⟩
  refine (law_calls (cp := cp) cp_ok cp_any (f := 13) (fn := Try.f13) rfl (t := 4) (by kernel_rfl) (by kernel_rfl) rfl hk hrep).mono fun e W' ⟨he, bel⟩ => ?_
  subst he
  exact ⟨_, rfl, _, _, _, [], _, [], hW', trodAll_mk1 (shut_bool Try.underlying4 _), (trodAll_cons_mk (Below.trod laidOut (by kernel_rfl) (of_decide_eq_true (by kernel_rfl)) t0 bel lt0) trodAll_mk0), rfl, bel.frame _, fun h => by cases h⟩
theorem over : Rows.fnItemsLongRow.holds Try.pinned (OpenSpec.ofChange Rows.fnItemsLongSpec) :=
  OpenClaim.holds_of_wide 13 Try.f13 rfl rfl rfl rfl rfl rfl rfl ⟨rfl, rfl, rfl, rfl, rfl⟩ rfl rfl rfl rfl rfl (by kernel_rfl) Try.func13 (by kernel_rfl)
    (of_decide_eq_true (by kernel_rfl)) (by unfold Func.isWrapper; first | (rw [if_pos (by decide +kernel)]; kernel_rfl) | (rw [if_neg (by decide +kernel)]; exact ⟨rfl, rfl⟩))
    (fun os started H enc _ => lifted os started H enc)
theorem proved : Rows.FnItemsLongSaid := over
#print axioms proved
end Go.Proofs.Ytmhakjpjnnfidaa.FnItemsLong
namespace Go.Proofs.Ytmhakjpjnnfidaa
/-- The row, under a short name, for the claim. -/
theorem fnItemsLong_holds : Rows.FnItemsLongSaid := FnItemsLong.proved
end Go.Proofs.Ytmhakjpjnnfidaa
