/- FnExactPrefixText, the pure part: both write the same text of every list. No conditions. -/
import Derived.Test.YtblplkcaanmhgaaPFnExactPrefixTextx3
import Derived.Test.YtblplkcaanmhgaaKindsFnExactPrefixText
import Derived.Test.YtblplkcaanmhgaaPLbase
namespace Go.Proofs.Ytblplkcaanmhgaa.Pure
open Go Go.RowKit Go.Proofs.Ytblplkcaanmhgaa.PFnExactPrefixText Go.Proofs.YtblplkcaanmhgaaW.PrintWords Go.Proofs.YtblplkcaanmhgaaW.PrintLast Go.Proofs.YtblplkcaanmhgaaW.PrintMore Go.Proofs.Ytblplkcaanmhgaa.PL
set_option linter.unusedVariables false
set_option linter.unusedSimpArgs false

theorem toIntS_l (x0 : List Int) (hb : x0.length ≤ 281474976710656) (n : Nat) : ∀ (i : Nat) (x3 : List Int), i + n = x0.length → x3.length = x0.length → x3.take i = x0.take i →
    Ev (fun k => laws_toIntS.l0 k x0 x3 (i : Int)) x0 := by
  induction n with
  | zero =>
    intro i x3 hi hl ht
    refine Ev.step (fun k => by rw [laws_toIntS.l0, if_neg (by omega)]) (Ev.some_ ?_)
    have hi' : i = x0.length := by omega
    subst hi'
    rw [List.take_length, List.take_of_length_le (by omega)] at ht
    exact ht
  | succ n ih =>
    intro i x3 hi hl ht
    refine Ev.step (fun k => by rw [laws_toIntS.l0, if_pos (by omega), if_pos (by omega), if_pos (by omega)]) ?_
    rw [wNat (by omega)]
    refine ih (i + 1) _ (by omega) (by simp [hl]) ?_
    rw [Int.toNat_natCast, rd_get x0 i (by omega), List.take_add_one, List.take_set_of_le (Nat.le_refl _), ht, List.take_add_one]
    congr 1
    rw [List.getElem?_set_self (by omega), List.getElem?_eq_getElem (by omega)]
theorem toIntS_ev (x0 : List Int) (hb : x0.length ≤ 35184372088832) : Ev (fun k => laws_toIntS.f k x0) x0 := by
  unfold laws_toIntS.f
  refine Ev.pos (by omega) (Ev.pos (by omega) ?_)
  exact toIntS_l x0 (by omega) x0.length 0 _ (by omega) (by simp) (by simp)

theorem eqIntS_l (x0 x1 : List Int) (hb : x0.length ≤ 281474976710656) (hl : x0.length = x1.length) (n : Nat) : ∀ (i : Nat), i + n = x0.length →
    Ev (fun k => laws_eqIntS.l0 k x0 x1 (i : Int)) (decide (x0.drop i = x1.drop i)) := by
  induction n with
  | zero =>
    intro i hi
    refine Ev.step (fun k => by rw [laws_eqIntS.l0, if_neg (by omega)]) (Ev.some_ ?_)
    rw [List.drop_eq_nil_of_le (by omega), List.drop_eq_nil_of_le (by omega)]
    rfl
  | succ n ih =>
    intro i hi
    rw [drop_cons x0 i (by omega), drop_cons x1 i (by omega)]
    by_cases hc : x0[i]'(by omega) = x1[i]'(by omega)
    · refine Ev.step (fun k => by rw [laws_eqIntS.l0, if_pos (by omega), if_pos (by omega), if_pos (by omega), if_pos (by rw [rd_get x0 i (by omega), rd_get x1 i (by omega)]; exact hc)]) ?_
      rw [wNat (by omega)]
      exact (ih (i + 1) (by omega)).eq (dec_cons hc _ _)
    · refine Ev.step (fun k => by rw [laws_eqIntS.l0, if_pos (by omega), if_pos (by omega), if_pos (by omega), if_neg (by rw [rd_get x0 i (by omega), rd_get x1 i (by omega)]; exact hc)]) (Ev.some_ (dec_ne hc _ _))
theorem eqIntS_ev (x0 x1 : List Int) (hb : x0.length ≤ 281474976710656) : Ev (fun k => laws_eqIntS.f k x0 x1) (decide (x0 = x1)) := by
  unfold laws_eqIntS.f
  by_cases hl : x0.length = x1.length
  · refine Ev.pos (by omega) ?_
    exact eqIntS_l x0 x1 hb hl x0.length 0 (by omega)
  · refine Ev.neg (by omega) (Ev.some_ ?_)
    rw [eq_comm, decide_eq_false_iff_not]
    intro h
    rw [h] at hl
    exact hl rfl
theorem eqIntS_same (x0 : List Int) (hb : x0.length ≤ 281474976710656) : Ev (fun k => laws_eqIntS.f k x0 x0) true := (eqIntS_ev x0 x0 hb).eq (by simp)

def nibblesOk (x : List Int) : Bool := x.all (fun n => decide (0 ≤ n ∧ n ≤ 15)) && decide (x.length ≤ 64)

def pairs16 : List Int → List Int
  | a :: b :: r => (16 * a + b) :: pairs16 r
  | _ => []
def prefixNums (l : List Int) (leaf : Bool) : List Int :=
  if l.length % 2 = 1 then ((if leaf then 32 else 0) + (16 + rd l 0)) :: pairs16 (l.drop 1) else (if leaf then 32 else 0) :: pairs16 l
def prefixText (l : List Int) (leaf : Bool) : ByteArray × Bool := if nibblesOk l then (strOfNums (prefixNums l leaf), true) else ((⟨#[]⟩ : ByteArray), false)
theorem nibblesOk_iff {l : List Int} : nibblesOk l = true ↔ (∀ x ∈ l, 0 ≤ x ∧ x ≤ 15) ∧ l.length ≤ 64 := by
  unfold nibblesOk
  rw [Bool.and_eq_true, List.all_eq_true, decide_eq_true_eq]
  constructor
  · rintro ⟨h, h2⟩
    exact ⟨fun x hx => of_decide_eq_true (h x hx), h2⟩
  · rintro ⟨h, h2⟩
    exact ⟨fun x hx => decide_eq_true (h x hx), h2⟩
theorem pairs16_length : ∀ (n : Nat) (l : List Int), l.length ≤ n → (pairs16 l).length = l.length / 2 := by
  intro n
  induction n using Nat.strongRecOn with
  | _ n ih =>
    intro l hl
    match l with
    | [] => rfl
    | [a] => simp [pairs16]
    | a :: b :: r =>
      simp only [pairs16, List.length_cons] at hl ⊢
      rw [ih (n - 1) (by omega) r (by omega)]
      omega

theorem spec_l01In_eq (a b c : Int) : spec_l01In.f a b c = some (decide (b ≤ a ∧ a ≤ c)) := by
  unfold spec_l01In.f
  by_cases h : a ≥ b
  · rw [if_pos h]; congr 1; simp [show b ≤ a from h]
  · rw [if_neg h]; congr 1; rw [eq_comm, decide_eq_false_iff_not]; omega

theorem spec_NibblesOk_l (x0 : List Int) (hb : x0.length ≤ 281474976710656) (n : Nat) : ∀ (i : Nat), i + n = x0.length →
    Ev (fun k => spec_NibblesOk.l0 k x0 (i : Int)) ((x0.drop i).all (fun n => decide (0 ≤ n ∧ n ≤ 15)) && decide (x0.length ≤ 64)) := by
  induction n with
  | zero =>
    intro i hi
    refine Ev.step (fun k => by rw [spec_NibblesOk.l0, if_neg (by omega)]) (Ev.some_ ?_)
    rw [List.drop_eq_nil_of_le (by omega), List.all_nil, Bool.true_and]
    exact decide_eq_decide.2 (by omega)
  | succ n ih =>
    intro i hi
    rw [drop_cons x0 i (by omega), List.all_cons]
    by_cases hc : 0 ≤ x0[i]'(by omega) ∧ x0[i]'(by omega) ≤ 15
    · refine Ev.step (fun k => by rw [spec_NibblesOk.l0, if_pos (by omega), if_pos (by omega), spec_l01In_eq, Option.bind_some, if_pos (by rw [rd_get x0 i (by omega)]; exact decide_eq_true hc)]) ?_
      rw [wNat (by omega), decide_eq_true hc, Bool.true_and]
      exact ih (i + 1) (by omega)
    · refine Ev.step (fun k => by rw [spec_NibblesOk.l0, if_pos (by omega), if_pos (by omega), spec_l01In_eq, Option.bind_some, if_neg (by rw [rd_get x0 i (by omega)]; simpa using hc)]) (Ev.some_ ?_)
      rw [decide_eq_false hc, Bool.false_and, Bool.false_and]
theorem spec_NibblesOk_ev (x0 : List Int) (hb : x0.length ≤ 281474976710656) : Ev (fun k => spec_NibblesOk.f k x0) (nibblesOk x0) := by
  unfold spec_NibblesOk.f
  exact spec_NibblesOk_l x0 hb x0.length 0 (by omega)

theorem spec_PrefixText_l (x0 : List Int) (hb : x0.length ≤ 64) (hr : ∀ x ∈ x0, 0 ≤ x ∧ x ≤ 15) (n : Nat) : ∀ (i : Nat) (x8 : ByteArray), i + 2 * n = x0.length → x8.size ≤ 1 + i →
    Ev (fun k => spec_PrefixText.l0 k x0 x8 (i : Int)) (x8 ++ strOfNums (pairs16 (x0.drop i)), true) := by
  induction n with
  | zero =>
    intro i x8 hi h8
    refine Ev.step (fun k => by rw [spec_PrefixText.l0, wNat (by omega), if_neg (by omega)]) (Ev.some_ ?_)
    rw [List.drop_eq_nil_of_le (by omega), pairs16, strOf_nil, ba_append_nil]
    · simp
  | succ n ih =>
    intro i x8 hi h8
    have g0 := rd_get x0 i (by omega)
    have g1 := rd_get x0 (i + 1) (by omega)
    have r0 := hr _ (List.getElem_mem (show i < x0.length by omega))
    have r1 := hr _ (List.getElem_mem (show i + 1 < x0.length by omega))
    rw [drop_cons x0 i (by omega), drop_cons x0 (i + 1) (by omega), pairs16]
    have hsz : (strOfNums [16 * x0[i]'(by omega) + x0[i + 1]'(by omega)]).size = 1 := by rw [strOfNums_size]; rfl
    have e2 : wrap64 ((i : Int) + 2) = ((i + 2 : Nat) : Int) := by rw [w64 (by omega)]; omega
    refine Ev.step (fun k => by rw [spec_PrefixText.l0, wNat (by omega), if_pos (by omega), if_pos (by omega), if_pos (by omega), if_pos (by omega), Option.bind_some, g0, g1, w64 (n := 16 * _) (by omega), w64 (n := _ + _) (by omega), Int.emod_eq_of_lt (by omega) (by omega), if_pos (by rw [hsz]; omega), e2]) ?_
    refine (ih (i + 2) _ (by omega) (by rw [size_append, hsz]; omega)).eq ?_
    rw [ba_append_assoc, ← strOf_append]
    rfl
theorem spec_PrefixText_ev (l : List Int) (leaf : Bool) (hb : l.length ≤ 281474976710656) : Ev (fun k => spec_PrefixText.f k l leaf) (prefixText l leaf) := by
  unfold spec_PrefixText.f prefixText
  refine Ev.bind (spec_NibblesOk_ev l hb) ?_
  by_cases h : nibblesOk l = true
  · rw [if_pos h]
    refine Ev.pos h ?_
    obtain ⟨hr, h64⟩ := nibblesOk_iff.1 h
    have key : ∀ b : Int, 0 ≤ b → b ≤ 32 → Ev (fun k => spec_PrefixText.j0 k l b) (strOfNums (if l.length % 2 = 1 then (b + (16 + rd l 0)) :: pairs16 (l.drop 1) else b :: pairs16 l), true) := by
      intro b hb0 hb1
      by_cases ho : l.length % 2 = 1
      · have hm := hr _ (rd_mem (i := 0) (xs := l) (by omega) (by omega))
        rw [if_pos ho]
        refine Ev.step (fun k => by rw [spec_PrefixText.j0, if_pos (by omega), if_pos (by omega), w64 (n := b + 16) (by omega), w64 (by omega)]) ?_
        refine Ev.step (fun k => by rw [spec_PrefixText.j1, Int.emod_eq_of_lt (by omega) (by omega)]) ?_
        refine (spec_PrefixText_l l h64 hr (l.length / 2) 1 _ (by omega) (by rw [strOfNums_size]; simp)).eq ?_
        rw [← strOf_append, Int.add_assoc]
        rfl
      · rw [if_neg ho]
        refine Ev.step (fun k => by rw [spec_PrefixText.j0, if_neg (by omega)]) ?_
        refine Ev.step (fun k => by rw [spec_PrefixText.j1, Int.emod_eq_of_lt (by omega) (by omega)]) ?_
        refine (spec_PrefixText_l l h64 hr (l.length / 2) 0 _ (by omega) (by rw [strOfNums_size]; simp)).eq ?_
        rw [← strOf_append]
        rfl
    cases leaf with
    | true => exact Ev.pos rfl (key 32 (by omega) (by omega))
    | false => exact Ev.neg (by simp) (key 0 (by omega) (by omega))
  · rw [if_neg h]
    exact Ev.neg h (Ev.now _)

theorem impl_NibblesOk_l (x0 : List Int) (hb : x0.length ≤ 281474976710656) (n : Nat) : ∀ (i : Nat), i + n = x0.length →
    Ev (fun k => impl_NibblesOk.l0 k x0 x0 (x0.length : Int) (i : Int)) ((x0.drop i).all (fun n => decide (0 ≤ n ∧ n ≤ 15)) && decide (x0.length ≤ 64)) := by
  induction n with
  | zero =>
    intro i hi
    refine Ev.step (fun k => by rw [impl_NibblesOk.l0, if_neg (by omega)]) (Ev.some_ ?_)
    rw [List.drop_eq_nil_of_le (by omega), List.all_nil, Bool.true_and]
    exact decide_eq_decide.2 (by omega)
  | succ n ih =>
    intro i hi
    rw [drop_cons x0 i (by omega), List.all_cons]
    have hr := rd_get x0 i (by omega)
    by_cases hc : 0 ≤ x0[i]'(by omega) ∧ x0[i]'(by omega) ≤ 15
    · refine Ev.step (fun k => by rw [impl_NibblesOk.l0, if_pos (by omega), if_pos (by omega), if_pos (by omega), if_neg (by omega), if_neg (by omega)]) ?_
      rw [wNat (by omega), decide_eq_true hc, Bool.true_and]
      exact ih (i + 1) (by omega)
    · refine Ev.step (f := fun _ => some false) (fun k => ?_) (Ev.some_ ?_)
      · rw [impl_NibblesOk.l0, if_pos (by omega), if_pos (by omega), if_pos (by omega)]
        by_cases h1 : rd x0 (i : Int) < 0
        · rw [if_pos h1]
        · rw [if_neg h1, if_pos (by omega)]
      · rw [decide_eq_false hc, Bool.false_and, Bool.false_and]
theorem impl_NibblesOk_ev (x0 : List Int) (hb : x0.length ≤ 281474976710656) : Ev (fun k => impl_NibblesOk.f k x0) (nibblesOk x0) := by
  unfold impl_NibblesOk.f
  exact impl_NibblesOk_l x0 hb x0.length 0 (by omega)

theorem impl_PrefixText_l (x0 : List Int) (hb : x0.length ≤ 64) (hr : ∀ x ∈ x0, 0 ≤ x ∧ x ≤ 15) (n : Nat) : ∀ (i : Nat) (x7 : List Int), i + 2 * n = x0.length → x7.length ≤ 1 + i →
    Ev (fun k => impl_PrefixText.l0 k x0 x7 (i : Int)) (strOfNums (x7 ++ pairs16 (x0.drop i)), true) := by
  induction n with
  | zero =>
    intro i x7 hi h8
    refine Ev.step (fun k => by rw [impl_PrefixText.l0, if_neg (by omega)]) (Ev.some_ ?_)
    rw [List.drop_eq_nil_of_le (by omega), pairs16, List.append_nil]
    · simp
  | succ n ih =>
    intro i x7 hi h8
    have g0 := rd_get x0 i (by omega)
    have g1 := rd_get x0 (i + 1) (by omega)
    have r0 := hr _ (List.getElem_mem (show i < x0.length by omega))
    have r1 := hr _ (List.getElem_mem (show i + 1 < x0.length by omega))
    rw [drop_cons x0 i (by omega), drop_cons x0 (i + 1) (by omega), pairs16]
    have e2 : wrap64 ((i : Int) + 2) = ((i + 2 : Nat) : Int) := by rw [w64 (by omega)]; omega
    refine Ev.step (fun k => by rw [impl_PrefixText.l0, if_pos (by omega), if_pos (by omega), wNat (by omega), if_pos (by omega), if_pos (by omega), if_pos (by omega), g0, g1, w64 (n := _ * 16) (by omega), or64 4 (by omega) (by omega) (by omega) (by omega) (by omega) (by omega), Int.emod_eq_of_lt (by omega) (by omega), e2, Int.mul_comm _ 16]) ?_
    refine (ih (i + 2) _ (by omega) (by rw [List.length_append]; show x7.length + 1 ≤ _; omega)).eq ?_
    rw [List.append_assoc]
    rfl
theorem impl_PrefixText_ev (l : List Int) (leaf : Bool) (hb : l.length ≤ 281474976710656) : Ev (fun k => impl_PrefixText.f k l leaf) (prefixText l leaf) := by
  unfold impl_PrefixText.f prefixText
  refine Ev.bind (impl_NibblesOk_ev l hb) ?_
  by_cases h : nibblesOk l = true
  · rw [if_pos h]
    refine Ev.pos h ?_
    obtain ⟨hr, h64⟩ := nibblesOk_iff.1 h
    have key : ∀ b : Int, 0 ≤ b → b ≤ 32 → Ev (fun k => impl_PrefixText.j0 k l b) (strOfNums (if l.length % 2 = 1 then (b + (16 + rd l 0)) :: pairs16 (l.drop 1) else b :: pairs16 l), true) := by
      intro b hb0 hb1
      by_cases ho : l.length % 2 = 1
      · have hm := hr _ (rd_mem (i := 0) (xs := l) (by omega) (by omega))
        rw [if_pos ho]
        refine Ev.step (fun k => by rw [impl_PrefixText.j0, if_pos (by omega), if_pos (by omega), if_pos (by omega), w64 (n := 16 + rd l 0) (by omega), w64 (by omega)]) ?_
        refine Ev.step (fun k => by rw [impl_PrefixText.j1, Int.emod_eq_of_lt (by omega) (by omega)]) ?_
        refine (impl_PrefixText_l (l.drop 1) (by rw [List.length_drop]; omega) (fun x hx => hr x (List.mem_of_mem_drop hx)) (l.length / 2) 0 _ (by rw [List.length_drop]; omega) (by simp)).eq ?_
        rfl
      · rw [if_neg ho]
        refine Ev.step (fun k => by rw [impl_PrefixText.j0, if_neg (by omega)]) ?_
        refine Ev.step (fun k => by rw [impl_PrefixText.j1, Int.emod_eq_of_lt (by omega) (by omega)]) ?_
        exact impl_PrefixText_l l h64 hr (l.length / 2) 0 _ (by omega) (by simp)
    cases leaf with
    | true => exact Ev.pos rfl (key 32 (by omega) (by omega))
    | false => exact Ev.neg (by simp) (key 0 (by omega) (by omega))
  · rw [if_neg h]
    exact Ev.neg h (Ev.now _)

theorem FnExactPrefixText (x0 : List Int) (a1 : Bool) : (x0.length ≤ 9223372036854775807 ∧ ∀ y ∈ x0, (Lit.int .i64 y).wf = true) → True → ∃ k, laws_FnExactPrefixText.f k x0 a1 = some true := by
  rintro ⟨hm0, hw0⟩ _
  apply Ev.rounds
  unfold laws_FnExactPrefixText.f
  by_cases h0 : (x0.length : Int) > 1048576
  · exact Ev.pos h0 (Ev.now _)
  refine Ev.neg h0 ?_
  have t0 := toIntS_ev x0 (by omega)
  refine Ev.bind t0 (Ev.bind (spec_PrefixText_ev x0 a1 (by omega)) (Ev.bind t0 (Ev.bind (impl_PrefixText_ev x0 a1 (by omega)) (Ev.pos rfl ?_))))
  refine Ev.step (fun k => by rw [laws_FnExactPrefixText.j0, if_neg (by simp)]) ?_
  refine Ev.bind t0 (Ev.bind (eqIntS_same x0 (by omega)) (Ev.pos rfl (Ev.now _)))

end Go.Proofs.Ytblplkcaanmhgaa.Pure
