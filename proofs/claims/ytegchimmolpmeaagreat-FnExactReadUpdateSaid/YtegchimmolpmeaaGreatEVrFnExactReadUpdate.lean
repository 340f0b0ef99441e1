/- FnExactReadUpdate: the row: for every argument that reads as data the call answers true, and the arguments read as they did. No conditions. -/
import Derived.Test.YtegchimmolpmeaaGreatRows
import Derived.Test.YtegchimmolpmeaaGreatChecked
import Derived.Test.YtegchimmolpmeaaGreatEVqFnExactReadUpdate
import Derived.WalkKit
import Derived.ProofKit
import Derived.OpenShut
import Derived.ShutString
import Derived.ChangeOld
import Derived.Below
import Derived.SizedLaws
import Derived.Carry
namespace Go.Proofs.YtegchimmolpmeaaGreat.FnExactReadUpdate
open Go Go.ChangeShapes Go.WideShapes Go.ChangeAt Go.RowKit Go.Proofs Go.Proofs.YtegchimmolpmeaaGreat Go.Proofs.YtegchimmolpmeaaGreat.EV
open Go.ChangeMaps (open_string shut_string)
set_option linter.unusedVariables false
set_option linter.unusedSimpArgs false
set_option maxRecDepth 100000
theorem pure_FnExactReadUpdate (x0 : ByteArray) (h0 : okStr x0) : ∃ k, evF cp k n_laws_FnExactReadUpdate [.str x0] = some [.bool true] := law_ReadUpdate x0
theorem own : ownKnob Tryz.prog.godebug = none := by kernel_rfl
theorem laidOut : laidOutB Tryz.prog = true := by kernel_rfl
theorem lifted (os : Os) (started : os.Started) (H : Type) (enc : TypeId × Value → H) :
    ReturnsInHanded {} Tryz.checked os 3 .any (Rows.fnExactReadUpdateSpec.pre6 enc Tryz.prog Tryz.f3 Rows.fnExactReadUpdateRow.domain false) (Rows.fnExactReadUpdateSpec.post enc Tryz.prog Tryz.f3 false true false false) := by
  refine returnsInHanded_of_change_sized (C := Tryz.checked) own started (by kernel_rfl) Tryz.func3
    (ChangeSpec.witness6 (enc := enc) (C := Tryz.checked) false ⟨#[], #[.string ByteArray.empty], []⟩ 8 (by kernel_rfl) (by kernel_rfl) (by kernel_rfl) (by kernel_rfl)) ?_
  intro W base args ds gs before hval0 hW hcnd hsz0 _
  have hval : ∀ (j : Nat) t v, Tryz.f3.params[j]? = some t → args[j]? = some v → Value.okWide Tryz.prog W .any base t v := hval0
  have hW' := hW
  obtain ⟨p, q, hA0, hV, rfl, hfz, hnd⟩ := hW
  have hA : DataW.TrodAll enc Tryz.prog W 0 (fun _ => true) true Tryz.f3.params.toList args.toList ds p := hA0
  rw [Tryz.params3] at hA hval
  obtain ⟨v0, vs0, d0, ds0, p0, q0, hargs, rfl, rfl, h0, r0⟩ := trodAll_cons hA
  obtain ⟨rfl, rfl, rfl⟩ := trodAll_nil r0
  obtain rfl : args = #[v0] := by cases args; simp_all
  obtain ⟨rfl, rfl⟩ := trodVars_none hV
  have t0 := h0
  have lt0 : ∀ x ∈ p0, x.block < W.heap.size := by obtain ⟨m, hm⟩ := t0; exact DataW.trod_lt m _ _ _ hm
  obtain ⟨x0, rfl, rfl, rfl, y0⟩ := open_string Tryz.underlying9 (hval 0 9 v0 rfl rfl) h0
  have wf0_ : okStr x0 := by simpa [maxLen, okStr] using y0
  obtain ⟨k, hk⟩ := pure_FnExactReadUpdate x0 wf0_
  have hrep : RepL W (top W) [.str x0] [.string x0] := ⟨_, _, rfl, rfl, rfl⟩
  refine (law_calls (cp := cp) cp_ok cp_any (f := 3) (fn := Tryz.f3) rfl (t := 4) (by kernel_rfl) (by kernel_rfl) rfl hk hrep).mono fun e W' ⟨he, bel⟩ => ?_
  subst he
  exact ⟨_, rfl, _, _, _, [], _, [], hW', trodAll_mk1 (shut_bool Tryz.underlying4 _), (trodAll_cons_mk (Below.trod laidOut (by kernel_rfl) (of_decide_eq_true (by kernel_rfl)) t0 bel lt0) trodAll_mk0), rfl, bel.frame _, fun h => by cases h⟩
theorem over : Rows.fnExactReadUpdateRow.holds Tryz.pinned (OpenSpec.ofChange Rows.fnExactReadUpdateSpec) :=
  OpenClaim.holds_of_wide 3 Tryz.f3 rfl rfl rfl rfl rfl rfl rfl ⟨rfl, rfl, rfl, rfl, rfl⟩ rfl rfl rfl rfl rfl (by kernel_rfl) Tryz.func3 (by kernel_rfl)
    (of_decide_eq_true (by kernel_rfl)) (by unfold Func.isWrapper; first | (rw [if_pos (by decide +kernel)]; kernel_rfl) | (rw [if_neg (by decide +kernel)]; exact ⟨rfl, rfl⟩))
    (fun os started H enc _ => lifted os started H enc)
theorem proved : Rows.FnExactReadUpdateSaid := over
#print axioms proved
end Go.Proofs.YtegchimmolpmeaaGreat.FnExactReadUpdate
namespace Go.Proofs.YtegchimmolpmeaaGreat
/-- The row, under a short name, for the claim. -/
theorem fnExactReadUpdate_holds : Rows.FnExactReadUpdateSaid := FnExactReadUpdate.proved
end Go.Proofs.YtegchimmolpmeaaGreat
