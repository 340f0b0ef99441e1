/- FnExactTrieRef: the row: for every argument that reads as data the call answers true, and the arguments read as they did. No conditions. -/
import Derived.Test.YtlcnpecejhcnfaaDoorCards
import Derived.Test.YtlcnpecejhcnfaaDoorTie
import Derived.SevenTiedAt
import Derived.LaidMore
import Derived.Stop.Joined
import Derived.OpenVars
import Derived.MakeChecks
import Derived.Test.YtlcnpecejhcnfaaDoorEVsFnExactTrieRef
import Derived.Test.YtlcnpecejhcnfaaDoorRows
import Derived.Test.YtlcnpecejhcnfaaDoorChecked
import Derived.Test.YtlcnpecejhcnfaaDoorEVqFnExactTrieRef
import Derived.WalkKit
import Derived.ProofKit
import Derived.OpenShut
import Derived.ShutString
import Derived.ChangeOld
import Derived.Below
import Derived.SizedLaws
import Derived.Carry
namespace Go.Proofs.YtlcnpecejhcnfaaDoor.FnExactTrieRef
open Go Go.ChangeShapes Go.WideShapes Go.ChangeAt Go.RowKit Go.Proofs Go.Proofs.YtlcnpecejhcnfaaDoor Go.Proofs.YtlcnpecejhcnfaaDoor.EV
open Go.ChangeMaps (open_string shut_string)
set_option linter.unusedVariables false
set_option linter.unusedSimpArgs false
set_option maxRecDepth 100000
theorem opens24 : Opens Tryd.prog 24 encItem okItem := fun b => by
  induction b with
  | zero => exact OpensB.zero
  | succ b hB => exact opensB_item (opensB_struct Tryd.underlying24 (by kernel_rfl) (opensAt_cons rfl (by first | kernel_rfl | (show _ = 1; kernel_rfl)) ((opens_bool Tryd.underlying4) b) (opensAt_cons rfl (by first | kernel_rfl | (show _ = 1; kernel_rfl)) ((opens_string Tryd.underlying9) b) (opensAt_one rfl (by first | kernel_rfl | (show _ = 1; kernel_rfl)) (OpensB.le (opensB_slice Tryd.underlying22 (by kernel_rfl) (by decide) hB) (by omega))))))
theorem pure_FnExactTrieRef (x0 : Tree) (h0 : okItem x0) : ∃ k, evF cp k n_laws_FnExactTrieRef [.agg (encItem.enc x0)] = some [.bool true] := law_TrieRef x0 h0
theorem own : ownKnob Tryd.prog.godebug = none := by kernel_rfl
theorem laidOut : laidOutB Tryd.prog = true := by kernel_rfl
def laidL : List (String × DataW Unit) := [("loop.example/g00321/impl.roundConstants", Rows.laid_loop_example_g00321_impl_roundConstants), ("loop.example/g00321/impl.turns", Rows.laid_loop_example_g00321_impl_turns)]
theorem door_met (os : Os) (args : Array Value) : laidMetH Tryd.prog laidL ((World.doorLaid Tryd.prog 400 os).forCall (fun _ _ => 0) ⟨#[], args, []⟩).memory :=
  laidMetH_of_parts3 (fuel := 8) (laidMet_of_run' 8 (by kernel_rfl) (by kernel_rfl)) (by kernel_rfl) (by kernel_rfl)
theorem globs_ok {W : World} (h : laidMetH Tryd.prog laidL W) : GlobOk cp W (top W) := by
  rw [MakeChecks.laidMetH_plain _ _ _ (by kernel_rfl)] at h
  obtain ⟨ps, ⟨g0, t0, cs0, f0, p0, q0, hg0, ht0, hv0, hd0, ⟨g1, t1, cs1, f1, p1, q1, hg1, ht1, hv1, hd1, _, _⟩, _⟩, _, _⟩ := h
  obtain rfl := Option.some.inj ((show Tryd.prog.globalNamed "loop.example/g00321/impl.roundConstants" = some 1 by kernel_rfl).symm.trans hg0)
  obtain rfl := Option.some.inj ((show Tryd.prog.globalNamed "loop.example/g00321/impl.turns" = some 0 by kernel_rfl).symm.trans hg1)
  obtain rfl := Option.some.inj ((show (Tryd.prog.globals[1]?).map (·.type) = some 99 by kernel_rfl).symm.trans ht0)
  have r0 := glob_cells (vs := kecRC) (k := .u64) hg0 Tryd.underlying99 Tryd.underlying79 (by kernel_rfl) hv0 hd0 rfl
  obtain rfl := Option.some.inj ((show (Tryd.prog.globals[0]?).map (·.type) = some 123 by kernel_rfl).symm.trans ht1)
  have r1 := glob_cells (vs := kecOff) (k := .i64) hg1 Tryd.underlying123 Tryd.underlying3 (by kernel_rfl) hv1 hd1 rfl
  exact glob_two rfl r1 r0
theorem ext_ok : ExtOk cp := ext_one (f := 90) (fn := Tryd.f90) (t := 9) rfl rfl rfl rfl (by kernel_rfl) (by kernel_rfl) (by kernel_rfl) (by kernel_rfl) (by kernel_rfl) repeat_calls
theorem lifted (os : Os) (started : os.Started) (H : Type) (enc : TypeId × Value → H) :
    ReturnsInHanded {} Tryd.checked os 3 .any (fun w args => (Rows.fnExactTrieRefSpec.pre enc Tryd.prog Tryd.f3 [] false w args ∧ laidMetH Tryd.prog laidL w) ∧ sizedMet enc Tryd.prog Tryd.f3 (OpenSpec.ofChange Rows.fnExactTrieRefSpec) false w args) (Rows.fnExactTrieRefSpec.post enc Tryd.prog Tryd.f3 false true false false) := by
  refine returnsInHanded_of_change_and (C := Tryd.checked) (X := fun w _ => laidMetH Tryd.prog laidL w) (fun _ _ _ hh h => h.of_heap hh) own started (by kernel_rfl) Tryd.func3
    (ChangeSpec.witness_shaped (enc := enc) (C := Tryd.checked) (os := os) (X := fun w _ => laidMetH Tryd.prog laidL w) false (World.doorLaid Tryd.prog 400 os) #[.agg #[.bool false, .string ByteArray.empty, .slice none 0 0]] 8 rfl (World.shaped_of_RefB (by kernel_rfl) (by kernel_rfl)) (by kernel_rfl) (by kernel_rfl) (by kernel_rfl) (door_met os _)) ?_
  intro W base args ds gs before hval0 hW hcnd hsz0 hL _
  have hval : ∀ (j : Nat) t v, Tryd.f3.params[j]? = some t → args[j]? = some v → Value.okWide Tryd.prog W .any base t v := hval0
  have hW' := hW
  obtain ⟨p, q, hA0, hV, rfl, hfz, hnd⟩ := hW
  have hA : DataW.TrodAll enc Tryd.prog W 0 (fun _ => true) true Tryd.f3.params.toList args.toList ds p := hA0
  rw [Tryd.params3] at hA hval
  obtain ⟨v0, vs0, d0, ds0, p0, q0, hargs, rfl, rfl, h0, r0⟩ := trodAll_cons hA
  have hV1 : DataW.TrodVars enc Tryd.prog W (fun _ => true) ["loop.example/g00321/impl.turns", "loop.example/g00321/impl.roundConstants"] gs q := hV
  obtain ⟨va, vb, rfl⟩ : ∃ a b, gs = [a, b] := by
    match gs, hV1 with
    | [], h => exact h.elim
    | [_], ⟨_, _, _, _, _, _, _, _, _, _, h, _⟩ => exact h.elim
    | [a, b], _ => exact ⟨a, b, rfl⟩
    | _ :: _ :: _ :: _, ⟨_, _, _, _, _, _, _, _, _, _, ⟨_, _, _, _, _, _, _, _, _, _, h, _⟩, _⟩ => exact h.elim
  obtain ⟨rfl, rfl, rfl⟩ := trodAll_nil r0
  obtain rfl : args = #[v0] := by cases args; simp_all
  have t0 := h0
  have lt0 : ∀ x ∈ p0, x.block < W.heap.size := by obtain ⟨m, hm⟩ := t0; exact DataW.trod_lt m _ _ _ hm
  obtain ⟨cs0, rfl⟩ := okWide_agg Tryd.underlying24 (hval 0 24 v0 rfl rfl)
  obtain ⟨x0, g0, wf0_⟩ : ∃ x : Tree, RepL W (top W) (encItem.enc x) cs0.toList ∧ okItem x := by
    obtain ⟨fuel, hf⟩ := h0
    exact opens24 fuel (Nat.le_refl _) hf
  obtain ⟨k, hk⟩ := pure_FnExactTrieRef x0 wf0_
  have hrep : RepL W (top W) [.agg (encItem.enc x0)] [.agg cs0] := ⟨_, _, rfl, ⟨cs0.toList, by simp, g0⟩, rfl⟩
  refine (law_calls (cp := cp) cp_ok ext_ok cp_any (f := 3) (fn := Tryd.f3) rfl (t := 4) (by kernel_rfl) (by kernel_rfl) (by kernel_rfl) rfl hk (globs_ok hL) hrep).mono fun e W' ⟨he, bel⟩ => ?_
  subst he
  exact ⟨_, rfl, _, _, _, [], _, _, hW', trodAll_mk1 (shut_bool Tryd.underlying4 _), (trodAll_cons_mk (Below.trod laidOut (by kernel_rfl) (of_decide_eq_true (by kernel_rfl)) t0 bel lt0) trodAll_mk0), (Below.trodVars laidOut bel (by kernel_rfl) hV1), bel.frame _, fun h => by cases h⟩
theorem over : Rows.fnExactTrieRefRow.holds Tryd.pinned (OpenSpec.ofChange Rows.fnExactTrieRefSpec) :=
  OpenClaim.holds_of_wide 3 Tryd.f3 rfl rfl rfl rfl rfl rfl rfl ⟨rfl, rfl, rfl, rfl, rfl⟩ rfl rfl rfl rfl rfl (by kernel_rfl) Tryd.func3 (by kernel_rfl)
    (of_decide_eq_true (by kernel_rfl)) (by unfold Func.isWrapper; first | (rw [if_pos (by decide +kernel)]; kernel_rfl) | (rw [if_neg (by decide +kernel)]; exact ⟨rfl, rfl⟩))
    (fun os started H enc _ => lifted os started H enc)
theorem proved : Rows.FnExactTrieRefSaid := over
theorem card_proved : Rows.FnExactTrieRefCardSaid :=
  Claim7.holds_tied_plain_at .later [] [.data, .data] true (true, "5abd7306568fb7e6a18309268ab45835f377fcb05486e9f83240e2d5bbbee0b8") false
    proved (fun _ h => by cases h) (by kernel_rfl) (fun _ h => by cases h) fnExactTrieRef_row_tie rfl ⟨rfl, rfl⟩ (by kernel_rfl) rfl
    (fun f fn hf hfn => by
      obtain rfl : f = 3 := Option.some.inj ((show Tryd.prog.funcNamed "loop.example/g00321/laws.FnExactTrieRef" = some 3 by kernel_rfl).symm.trans hf) |>.symm
      obtain rfl : fn = Tryd.f3 := (Option.some.inj (Tryd.func3.symm.trans hfn)).symm
      exact ⟨by kernel_rfl, fun j t ht => by
        rw [Tryd.params3] at ht
        have hm : t ∈ [24] := by simpa using Array.mem_of_getElem? ht
        have hall : ([24].all fun u => !Tryd.prog.wantsStandIn u) = true := by kernel_rfl
        exact (show Tryd.prog.wantsStandIn t = false by simpa using List.all_eq_true.1 hall t hm)⟩)
    (by kernel_rfl)
#print axioms card_proved
end Go.Proofs.YtlcnpecejhcnfaaDoor.FnExactTrieRef
namespace Go.Proofs.YtlcnpecejhcnfaaDoor
/-- The row, under a short name, for the claim. -/
theorem fnExactTrieRef_holds : Rows.FnExactTrieRefCardSaid := FnExactTrieRef.card_proved
end Go.Proofs.YtlcnpecejhcnfaaDoor
