/- FnExactItemText: the row: for every argument that reads as data the call answers true, and the arguments read as they did. No conditions. -/
import Derived.Test.YtmhakjpjnnfidaaRows
import Derived.Test.YtmhakjpjnnfidaaChecked
import Derived.Test.YtmhakjpjnnfidaaEVqFnExactItemText
import Derived.WalkKit
import Derived.ProofKit
import Derived.OpenShut
import Derived.ShutString
import Derived.ChangeOld
import Derived.Below
import Derived.SizedLaws
import Derived.Carry
namespace Go.Proofs.Ytmhakjpjnnfidaa.FnExactItemText
open Go Go.ChangeShapes Go.WideShapes Go.ChangeAt Go.RowKit Go.Proofs Go.Proofs.Ytmhakjpjnnfidaa Go.Proofs.Ytmhakjpjnnfidaa.EV
open Go.ChangeMaps (open_string shut_string)
set_option linter.unusedVariables false
set_option linter.unusedSimpArgs false
set_option maxRecDepth 100000
theorem opens24 : Opens Try.prog 24 encItem okItem := fun b => by
  induction b with
  | zero => exact OpensB.zero
  | succ b hB => exact opensB_item (opensB_struct Try.underlying24 (by kernel_rfl) (opensAt_cons rfl (by first | kernel_rfl | (show _ = 1; kernel_rfl)) ((opens_bool Try.underlying4) b) (opensAt_cons rfl (by first | kernel_rfl | (show _ = 1; kernel_rfl)) ((opens_string Try.underlying9) b) (opensAt_one rfl (by first | kernel_rfl | (show _ = 1; kernel_rfl)) (OpensB.le (opensB_slice Try.underlying22 (by kernel_rfl) (by decide) hB) (by omega))))))
theorem pure_FnExactItemText (x0 : Tree) (h0 : okItem x0) : ∃ k, evF cp k n_laws_FnExactItemText [.agg (encItem.enc x0)] = some [.bool true] := law_ItemText x0 h0
theorem own : ownKnob Try.prog.godebug = none := by kernel_rfl
theorem laidOut : laidOutB Try.prog = true := by kernel_rfl
theorem lifted (os : Os) (started : os.Started) (H : Type) (enc : TypeId × Value → H) :
    ReturnsInHanded {} Try.checked os 8 .any (Rows.fnExactItemTextSpec.pre6 enc Try.prog Try.f8 Rows.fnExactItemTextRow.domain false) (Rows.fnExactItemTextSpec.post enc Try.prog Try.f8 false true false false) := by
  refine returnsInHanded_of_change_sized (C := Try.checked) own started (by kernel_rfl) Try.func8
    (ChangeSpec.witness6 (enc := enc) (C := Try.checked) false ⟨#[], #[.agg #[.bool false, .string ByteArray.empty, .slice none 0 0]], []⟩ 8 (by kernel_rfl) (by kernel_rfl) (by kernel_rfl) (by kernel_rfl)) ?_
  intro W base args ds gs before hval0 hW hcnd hsz0 _
  have hval : ∀ (j : Nat) t v, Try.f8.params[j]? = some t → args[j]? = some v → Value.okWide Try.prog W .any base t v := hval0
  have hW' := hW
  obtain ⟨p, q, hA0, hV, rfl, hfz, hnd⟩ := hW
  have hA : DataW.TrodAll enc Try.prog W 0 (fun _ => true) true Try.f8.params.toList args.toList ds p := hA0
  rw [Try.params8] at hA hval
  obtain ⟨v0, vs0, d0, ds0, p0, q0, hargs, rfl, rfl, h0, r0⟩ := trodAll_cons hA
  obtain ⟨rfl, rfl, rfl⟩ := trodAll_nil r0
  obtain rfl : args = #[v0] := by cases args; simp_all
  obtain ⟨rfl, rfl⟩ := trodVars_none hV
  have t0 := h0
  have lt0 : ∀ x ∈ p0, x.block < W.heap.size := by obtain ⟨m, hm⟩ := t0; exact DataW.trod_lt m _ _ _ hm
  obtain ⟨cs0, rfl⟩ := okWide_agg Try.underlying24 (hval 0 24 v0 rfl rfl)
  obtain ⟨x0, g0, wf0_⟩ : ∃ x : Tree, RepL W (top W) (encItem.enc x) cs0.toList ∧ okItem x := by
    obtain ⟨fuel, hf⟩ := h0
    exact opens24 fuel (Nat.le_refl _) hf
  obtain ⟨k, hk⟩ := pure_FnExactItemText x0 wf0_
  have hrep : RepL W (top W) [.agg (encItem.enc x0)] [.agg cs0] := ⟨_, _, rfl, ⟨cs0.toList, by simp, g0⟩, rfl⟩
  refine (law_calls (cp := cp) cp_ok cp_any (f := 8) (fn := Try.f8) rfl (t := 4) (by kernel_rfl) (by kernel_rfl) rfl hk hrep).mono fun e W' ⟨he, bel⟩ => ?_
  subst he
  exact ⟨_, rfl, _, _, _, [], _, [], hW', trodAll_mk1 (shut_bool Try.underlying4 _), (trodAll_cons_mk (Below.trod laidOut (by kernel_rfl) (of_decide_eq_true (by kernel_rfl)) t0 bel lt0) trodAll_mk0), rfl, bel.frame _, fun h => by cases h⟩
theorem over : Rows.fnExactItemTextRow.holds Try.pinned (OpenSpec.ofChange Rows.fnExactItemTextSpec) :=
  OpenClaim.holds_of_wide 8 Try.f8 rfl rfl rfl rfl rfl rfl rfl ⟨rfl, rfl, rfl, rfl, rfl⟩ rfl rfl rfl rfl rfl (by kernel_rfl) Try.func8 (by kernel_rfl)
    (of_decide_eq_true (by kernel_rfl)) (by unfold Func.isWrapper; first | (rw [if_pos (by decide +kernel)]; kernel_rfl) | (rw [if_neg (by decide +kernel)]; exact ⟨rfl, rfl⟩))
    (fun os started H enc _ => lifted os started H enc)
theorem proved : Rows.FnExactItemTextSaid := over
#print axioms proved
end Go.Proofs.Ytmhakjpjnnfidaa.FnExactItemText
namespace Go.Proofs.Ytmhakjpjnnfidaa
/-- The row, under a short name, for the claim. -/
theorem fnExactItemText_holds : Rows.FnExactItemTextSaid := FnExactItemText.proved
end Go.Proofs.Ytmhakjpjnnfidaa
