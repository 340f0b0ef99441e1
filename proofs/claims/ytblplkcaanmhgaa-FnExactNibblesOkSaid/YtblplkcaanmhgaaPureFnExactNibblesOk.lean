/- FnExactNibblesOk, the pure part: both say the same of every list. No conditions. -/
import Derived.Test.YtblplkcaanmhgaaPFnExactNibblesOkx1
import Derived.Test.YtblplkcaanmhgaaKindsFnExactNibblesOk
import Derived.Test.YtblplkcaanmhgaaPLbase
namespace Go.Proofs.Ytblplkcaanmhgaa.Pure
open Go Go.RowKit Go.Proofs.Ytblplkcaanmhgaa.PFnExactNibblesOk Go.Proofs.YtblplkcaanmhgaaW.PrintWords Go.Proofs.YtblplkcaanmhgaaW.PrintLast Go.Proofs.YtblplkcaanmhgaaW.PrintMore Go.Proofs.Ytblplkcaanmhgaa.PL
set_option linter.unusedVariables false
set_option linter.unusedSimpArgs false

theorem toIntS_l (x0 : List Int) (hb : x0.length ≤ 281474976710656) (n : Nat) : ∀ (i : Nat) (x3 : List Int), i + n = x0.length → x3.length = x0.length → x3.take i = x0.take i →
    Ev (fun k => laws_toIntS.l0 k x0 x3 (i : Int)) x0 := by
  induction n with
  | zero =>
    intro i x3 hi hl ht
    refine Ev.step (fun k => by rw [laws_toIntS.l0, if_neg (by omega)]) (Ev.some_ ?_)
    have hi' : i = x0.length := by omega
    subst hi'
    rw [List.take_length, List.take_of_length_le (by omega)] at ht
    exact ht
  | succ n ih =>
    intro i x3 hi hl ht
    refine Ev.step (fun k => by rw [laws_toIntS.l0, if_pos (by omega), if_pos (by omega), if_pos (by omega)]) ?_
    rw [wNat (by omega)]
    refine ih (i + 1) _ (by omega) (by simp [hl]) ?_
    rw [Int.toNat_natCast, rd_get x0 i (by omega), List.take_add_one, List.take_set_of_le (Nat.le_refl _), ht, List.take_add_one]
    congr 1
    rw [List.getElem?_set_self (by omega), List.getElem?_eq_getElem (by omega)]
theorem toIntS_ev (x0 : List Int) (hb : x0.length ≤ 35184372088832) : Ev (fun k => laws_toIntS.f k x0) x0 := by
  unfold laws_toIntS.f
  refine Ev.pos (by omega) (Ev.pos (by omega) ?_)
  exact toIntS_l x0 (by omega) x0.length 0 _ (by omega) (by simp) (by simp)

theorem eqIntS_l (x0 x1 : List Int) (hb : x0.length ≤ 281474976710656) (hl : x0.length = x1.length) (n : Nat) : ∀ (i : Nat), i + n = x0.length →
    Ev (fun k => laws_eqIntS.l0 k x0 x1 (i : Int)) (decide (x0.drop i = x1.drop i)) := by
  induction n with
  | zero =>
    intro i hi
    refine Ev.step (fun k => by rw [laws_eqIntS.l0, if_neg (by omega)]) (Ev.some_ ?_)
    rw [List.drop_eq_nil_of_le (by omega), List.drop_eq_nil_of_le (by omega)]
    rfl
  | succ n ih =>
    intro i hi
    rw [drop_cons x0 i (by omega), drop_cons x1 i (by omega)]
    by_cases hc : x0[i]'(by omega) = x1[i]'(by omega)
    · refine Ev.step (fun k => by rw [laws_eqIntS.l0, if_pos (by omega), if_pos (by omega), if_pos (by omega), if_pos (by rw [rd_get x0 i (by omega), rd_get x1 i (by omega)]; exact hc)]) ?_
      rw [wNat (by omega)]
      exact (ih (i + 1) (by omega)).eq (dec_cons hc _ _)
    · refine Ev.step (fun k => by rw [laws_eqIntS.l0, if_pos (by omega), if_pos (by omega), if_pos (by omega), if_neg (by rw [rd_get x0 i (by omega), rd_get x1 i (by omega)]; exact hc)]) (Ev.some_ (dec_ne hc _ _))
theorem eqIntS_ev (x0 x1 : List Int) (hb : x0.length ≤ 281474976710656) : Ev (fun k => laws_eqIntS.f k x0 x1) (decide (x0 = x1)) := by
  unfold laws_eqIntS.f
  by_cases hl : x0.length = x1.length
  · refine Ev.pos (by omega) ?_
    exact eqIntS_l x0 x1 hb hl x0.length 0 (by omega)
  · refine Ev.neg (by omega) (Ev.some_ ?_)
    rw [eq_comm, decide_eq_false_iff_not]
    intro h
    rw [h] at hl
    exact hl rfl
theorem eqIntS_same (x0 : List Int) (hb : x0.length ≤ 281474976710656) : Ev (fun k => laws_eqIntS.f k x0 x0) true := (eqIntS_ev x0 x0 hb).eq (by simp)

def nibblesOk (x : List Int) : Bool := x.all (fun n => decide (0 ≤ n ∧ n ≤ 15)) && decide (x.length ≤ 64)

theorem spec_l01In_eq (a b c : Int) : spec_l01In.f a b c = some (decide (b ≤ a ∧ a ≤ c)) := by
  unfold spec_l01In.f
  by_cases h : a ≥ b
  · rw [if_pos h]; congr 1; simp [show b ≤ a from h]
  · rw [if_neg h]; congr 1; rw [eq_comm, decide_eq_false_iff_not]; omega

theorem spec_NibblesOk_l (x0 : List Int) (hb : x0.length ≤ 281474976710656) (n : Nat) : ∀ (i : Nat), i + n = x0.length →
    Ev (fun k => spec_NibblesOk.l0 k x0 (i : Int)) ((x0.drop i).all (fun n => decide (0 ≤ n ∧ n ≤ 15)) && decide (x0.length ≤ 64)) := by
  induction n with
  | zero =>
    intro i hi
    refine Ev.step (fun k => by rw [spec_NibblesOk.l0, if_neg (by omega)]) (Ev.some_ ?_)
    rw [List.drop_eq_nil_of_le (by omega), List.all_nil, Bool.true_and]
    exact decide_eq_decide.2 (by omega)
  | succ n ih =>
    intro i hi
    rw [drop_cons x0 i (by omega), List.all_cons]
    by_cases hc : 0 ≤ x0[i]'(by omega) ∧ x0[i]'(by omega) ≤ 15
    · refine Ev.step (fun k => by rw [spec_NibblesOk.l0, if_pos (by omega), if_pos (by omega), spec_l01In_eq, Option.bind_some, if_pos (by rw [rd_get x0 i (by omega)]; exact decide_eq_true hc)]) ?_
      rw [wNat (by omega), decide_eq_true hc, Bool.true_and]
      exact ih (i + 1) (by omega)
    · refine Ev.step (fun k => by rw [spec_NibblesOk.l0, if_pos (by omega), if_pos (by omega), spec_l01In_eq, Option.bind_some, if_neg (by rw [rd_get x0 i (by omega)]; simpa using hc)]) (Ev.some_ ?_)
      rw [decide_eq_false hc, Bool.false_and, Bool.false_and]
theorem spec_NibblesOk_ev (x0 : List Int) (hb : x0.length ≤ 281474976710656) : Ev (fun k => spec_NibblesOk.f k x0) (nibblesOk x0) := by
  unfold spec_NibblesOk.f
  exact spec_NibblesOk_l x0 hb x0.length 0 (by omega)

theorem impl_NibblesOk_l (x0 : List Int) (hb : x0.length ≤ 281474976710656) (n : Nat) : ∀ (i : Nat), i + n = x0.length →
    Ev (fun k => impl_NibblesOk.l0 k x0 x0 (x0.length : Int) (i : Int)) ((x0.drop i).all (fun n => decide (0 ≤ n ∧ n ≤ 15)) && decide (x0.length ≤ 64)) := by
  induction n with
  | zero =>
    intro i hi
    refine Ev.step (fun k => by rw [impl_NibblesOk.l0, if_neg (by omega)]) (Ev.some_ ?_)
    rw [List.drop_eq_nil_of_le (by omega), List.all_nil, Bool.true_and]
    exact decide_eq_decide.2 (by omega)
  | succ n ih =>
    intro i hi
    rw [drop_cons x0 i (by omega), List.all_cons]
    have hr := rd_get x0 i (by omega)
    by_cases hc : 0 ≤ x0[i]'(by omega) ∧ x0[i]'(by omega) ≤ 15
    · refine Ev.step (fun k => by rw [impl_NibblesOk.l0, if_pos (by omega), if_pos (by omega), if_pos (by omega), if_neg (by omega), if_neg (by omega)]) ?_
      rw [wNat (by omega), decide_eq_true hc, Bool.true_and]
      exact ih (i + 1) (by omega)
    · refine Ev.step (f := fun _ => some false) (fun k => ?_) (Ev.some_ ?_)
      · rw [impl_NibblesOk.l0, if_pos (by omega), if_pos (by omega), if_pos (by omega)]
        by_cases h1 : rd x0 (i : Int) < 0
        · rw [if_pos h1]
        · rw [if_neg h1, if_pos (by omega)]
      · rw [decide_eq_false hc, Bool.false_and, Bool.false_and]
theorem impl_NibblesOk_ev (x0 : List Int) (hb : x0.length ≤ 281474976710656) : Ev (fun k => impl_NibblesOk.f k x0) (nibblesOk x0) := by
  unfold impl_NibblesOk.f
  exact impl_NibblesOk_l x0 hb x0.length 0 (by omega)

theorem FnExactNibblesOk (x0 : List Int) : (x0.length ≤ 9223372036854775807 ∧ ∀ y ∈ x0, (Lit.int .i64 y).wf = true) → ∃ k, laws_FnExactNibblesOk.f k x0 = some true := by
  rintro ⟨hm0, hw0⟩
  apply Ev.rounds
  unfold laws_FnExactNibblesOk.f
  by_cases h0 : (x0.length : Int) > 1048576
  · exact Ev.pos h0 (Ev.now _)
  refine Ev.neg h0 ?_
  have t0 := toIntS_ev x0 (by omega)
  refine Ev.bind t0 (Ev.bind (spec_NibblesOk_ev x0 (by omega)) (Ev.bind t0 (Ev.bind (impl_NibblesOk_ev x0 (by omega)) ?_)))
  refine Ev.neg (by simp) (Ev.bind t0 (Ev.bind (eqIntS_same x0 (by omega)) (Ev.pos rfl (Ev.now _))))

end Go.Proofs.Ytblplkcaanmhgaa.Pure
