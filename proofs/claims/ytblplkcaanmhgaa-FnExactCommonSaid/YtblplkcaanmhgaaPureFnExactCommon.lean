/- FnExactCommon, the pure part: both count the same beginning. No conditions. -/
import Derived.Test.YtblplkcaanmhgaaPFnExactCommonx1
import Derived.Test.YtblplkcaanmhgaaKindsFnExactCommon
import Derived.Test.YtblplkcaanmhgaaPLbase
namespace Go.Proofs.Ytblplkcaanmhgaa.Pure
open Go Go.RowKit Go.Proofs.Ytblplkcaanmhgaa.PFnExactCommon Go.Proofs.YtblplkcaanmhgaaW.PrintWords Go.Proofs.YtblplkcaanmhgaaW.PrintLast Go.Proofs.YtblplkcaanmhgaaW.PrintMore Go.Proofs.Ytblplkcaanmhgaa.PL
set_option linter.unusedVariables false
set_option linter.unusedSimpArgs false

theorem toIntS_l (x0 : List Int) (hb : x0.length ≤ 281474976710656) (n : Nat) : ∀ (i : Nat) (x3 : List Int), i + n = x0.length → x3.length = x0.length → x3.take i = x0.take i →
    Ev (fun k => laws_toIntS.l0 k x0 x3 (i : Int)) x0 := by
  induction n with
  | zero =>
    intro i x3 hi hl ht
    refine Ev.step (fun k => by rw [laws_toIntS.l0, if_neg (by omega)]) (Ev.some_ ?_)
    have hi' : i = x0.length := by omega
    subst hi'
    rw [List.take_length, List.take_of_length_le (by omega)] at ht
    exact ht
  | succ n ih =>
    intro i x3 hi hl ht
    refine Ev.step (fun k => by rw [laws_toIntS.l0, if_pos (by omega), if_pos (by omega), if_pos (by omega)]) ?_
    rw [wNat (by omega)]
    refine ih (i + 1) _ (by omega) (by simp [hl]) ?_
    rw [Int.toNat_natCast, rd_get x0 i (by omega), List.take_add_one, List.take_set_of_le (Nat.le_refl _), ht, List.take_add_one]
    congr 1
    rw [List.getElem?_set_self (by omega), List.getElem?_eq_getElem (by omega)]
theorem toIntS_ev (x0 : List Int) (hb : x0.length ≤ 35184372088832) : Ev (fun k => laws_toIntS.f k x0) x0 := by
  unfold laws_toIntS.f
  refine Ev.pos (by omega) (Ev.pos (by omega) ?_)
  exact toIntS_l x0 (by omega) x0.length 0 _ (by omega) (by simp) (by simp)

theorem eqIntS_l (x0 x1 : List Int) (hb : x0.length ≤ 281474976710656) (hl : x0.length = x1.length) (n : Nat) : ∀ (i : Nat), i + n = x0.length →
    Ev (fun k => laws_eqIntS.l0 k x0 x1 (i : Int)) (decide (x0.drop i = x1.drop i)) := by
  induction n with
  | zero =>
    intro i hi
    refine Ev.step (fun k => by rw [laws_eqIntS.l0, if_neg (by omega)]) (Ev.some_ ?_)
    rw [List.drop_eq_nil_of_le (by omega), List.drop_eq_nil_of_le (by omega)]
    rfl
  | succ n ih =>
    intro i hi
    rw [drop_cons x0 i (by omega), drop_cons x1 i (by omega)]
    by_cases hc : x0[i]'(by omega) = x1[i]'(by omega)
    · refine Ev.step (fun k => by rw [laws_eqIntS.l0, if_pos (by omega), if_pos (by omega), if_pos (by omega), if_pos (by rw [rd_get x0 i (by omega), rd_get x1 i (by omega)]; exact hc)]) ?_
      rw [wNat (by omega)]
      exact (ih (i + 1) (by omega)).eq (dec_cons hc _ _)
    · refine Ev.step (fun k => by rw [laws_eqIntS.l0, if_pos (by omega), if_pos (by omega), if_pos (by omega), if_neg (by rw [rd_get x0 i (by omega), rd_get x1 i (by omega)]; exact hc)]) (Ev.some_ (dec_ne hc _ _))
theorem eqIntS_ev (x0 x1 : List Int) (hb : x0.length ≤ 281474976710656) : Ev (fun k => laws_eqIntS.f k x0 x1) (decide (x0 = x1)) := by
  unfold laws_eqIntS.f
  by_cases hl : x0.length = x1.length
  · refine Ev.pos (by omega) ?_
    exact eqIntS_l x0 x1 hb hl x0.length 0 (by omega)
  · refine Ev.neg (by omega) (Ev.some_ ?_)
    rw [eq_comm, decide_eq_false_iff_not]
    intro h
    rw [h] at hl
    exact hl rfl
theorem eqIntS_same (x0 : List Int) (hb : x0.length ≤ 281474976710656) : Ev (fun k => laws_eqIntS.f k x0 x0) true := (eqIntS_ev x0 x0 hb).eq (by simp)

def common : List Int → List Int → Int
  | a :: x, b :: y => if a = b then common x y + 1 else 0
  | _, _ => 0
theorem common_le (x y : List Int) : 0 ≤ common x y ∧ common x y ≤ x.length := by
  induction x generalizing y with
  | nil => simp [common]
  | cons a x ih =>
    cases y with
    | nil => simp only [common]; omega
    | cons b y =>
      simp only [common, List.length_cons]
      have := ih y
      split <;> omega
theorem common_nil (x : List Int) : common x [] = 0 := by cases x <;> rfl

theorem spec_Common_l (x0 x1 : List Int) (hb : x0.length ≤ 281474976710656) (n : Nat) : ∀ (i : Nat), i + n = x0.length →
    Ev (fun k => spec_Common.l0 k x0 x1 (i : Int)) (i + common (x0.drop i) (x1.drop i)) := by
  induction n with
  | zero =>
    intro i hi
    refine Ev.step (fun k => by rw [spec_Common.l0, if_neg (by omega)]) (Ev.some_ ?_)
    rw [show x0.drop i = [] from List.drop_eq_nil_of_le (by omega)]
    simp [common]
  | succ n ih =>
    intro i hi
    by_cases h1 : i < x1.length
    · rw [drop_cons x0 i (by omega), drop_cons x1 i h1]
      by_cases hc : x0[i]'(by omega) = x1[i]
      · refine Ev.step (fun k => by rw [spec_Common.l0, if_pos (by omega), if_pos (by omega), if_pos (by omega), if_pos (by rw [rd_get x0 i (by omega), rd_get x1 i (by omega)]; exact hc)]) ?_
        rw [wNat (by omega)]
        refine (ih (i + 1) (by omega)).eq ?_
        rw [common, if_pos hc]
        omega
      · refine Ev.step (fun k => by rw [spec_Common.l0, if_pos (by omega), if_pos (by omega), if_pos (by omega), if_neg (by rw [rd_get x0 i (by omega), rd_get x1 i (by omega)]; exact hc)]) (Ev.some_ ?_)
        rw [common, if_neg hc]
        omega
    · refine Ev.step (fun k => by rw [spec_Common.l0, if_pos (by omega), if_neg (by omega)]) (Ev.some_ ?_)
      rw [show x1.drop i = [] from List.drop_eq_nil_of_le (by omega), common_nil]
      omega
theorem spec_Common_ev (x0 x1 : List Int) (hb : x0.length ≤ 281474976710656) : Ev (fun k => spec_Common.f k x0 x1) (common x0 x1) := by
  unfold spec_Common.f
  refine (spec_Common_l x0 x1 hb x0.length 0 (by omega)).eq ?_
  simp

theorem impl_Common_l (x0 x1 : List Int) (hb : x0.length ≤ 281474976710656) (n : Nat) : ∀ (i : Nat), i + n = x0.length →
    Ev (fun k => impl_Common.l0 k x0 x1 (i : Int)) (i + common (x0.drop i) (x1.drop i)) := by
  induction n with
  | zero =>
    intro i hi
    refine Ev.step (fun k => by rw [impl_Common.l0, if_neg (by omega)]) (Ev.some_ ?_)
    rw [show x0.drop i = [] from List.drop_eq_nil_of_le (by omega)]
    simp [common]
  | succ n ih =>
    intro i hi
    by_cases h1 : i < x1.length
    · rw [drop_cons x0 i (by omega), drop_cons x1 i h1]
      by_cases hc : x0[i]'(by omega) = x1[i]
      · refine Ev.step (fun k => by rw [impl_Common.l0, if_pos (by omega), if_pos (by omega), if_pos (by omega), if_pos (by rw [rd_get x0 i (by omega), rd_get x1 i (by omega)]; exact hc)]) ?_
        rw [wNat (by omega)]
        refine (ih (i + 1) (by omega)).eq ?_
        rw [common, if_pos hc]
        omega
      · refine Ev.step (fun k => by rw [impl_Common.l0, if_pos (by omega), if_pos (by omega), if_pos (by omega), if_neg (by rw [rd_get x0 i (by omega), rd_get x1 i (by omega)]; exact hc)]) (Ev.some_ ?_)
        rw [common, if_neg hc]
        omega
    · refine Ev.step (fun k => by rw [impl_Common.l0, if_pos (by omega), if_neg (by omega)]) (Ev.some_ ?_)
      rw [show x1.drop i = [] from List.drop_eq_nil_of_le (by omega), common_nil]
      omega
theorem impl_Common_ev (x0 x1 : List Int) (hb : x0.length ≤ 281474976710656) : Ev (fun k => impl_Common.f k x0 x1) (common x0 x1) := by
  unfold impl_Common.f
  refine (impl_Common_l x0 x1 hb x0.length 0 (by omega)).eq ?_
  simp

theorem FnExactCommon (x0 x1 : List Int) : (x0.length ≤ 9223372036854775807 ∧ ∀ y ∈ x0, (Lit.int .i64 y).wf = true) → (x1.length ≤ 9223372036854775807 ∧ ∀ y ∈ x1, (Lit.int .i64 y).wf = true) → ∃ k, laws_FnExactCommon.f k x0 x1 = some true := by
  rintro ⟨hm0, hw0⟩ ⟨hm1, hw1⟩
  apply Ev.rounds
  unfold laws_FnExactCommon.f
  by_cases h0 : (x0.length : Int) > 1048576
  · exact Ev.pos h0 (Ev.now _)
  refine Ev.neg h0 ?_
  by_cases h1 : (x1.length : Int) > 1048576
  · exact Ev.pos h1 (Ev.now _)
  refine Ev.neg h1 ?_
  have t0 := toIntS_ev x0 (by omega)
  have t1 := toIntS_ev x1 (by omega)
  refine Ev.bind t0 (Ev.bind t1 (Ev.bind (spec_Common_ev x0 x1 (by omega)) (Ev.bind t0 (Ev.bind t1 (Ev.bind (impl_Common_ev x0 x1 (by omega)) ?_)))))
  refine Ev.pos rfl (Ev.bind t0 (Ev.bind (eqIntS_same x0 (by omega)) (Ev.pos rfl (Ev.bind t1 (Ev.bind (eqIntS_same x1 (by omega)) (Ev.pos rfl (Ev.now _)))))))

end Go.Proofs.Ytblplkcaanmhgaa.Pure
