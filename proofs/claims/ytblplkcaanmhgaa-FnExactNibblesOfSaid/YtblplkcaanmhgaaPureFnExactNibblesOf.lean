/- FnExactNibblesOf, the pure part: both tell the same halves; what is made is no other's memory. No conditions. -/
import Derived.Test.YtblplkcaanmhgaaPFnExactNibblesOfx2
import Derived.Test.YtblplkcaanmhgaaPLbase
namespace Go.Proofs.Ytblplkcaanmhgaa.Pure
open Go Go.RowKit Go.Proofs.Ytblplkcaanmhgaa.PFnExactNibblesOf Go.Proofs.YtblplkcaanmhgaaW.PrintWords Go.Proofs.YtblplkcaanmhgaaW.PrintLast Go.Proofs.YtblplkcaanmhgaaW.PrintMore Go.Proofs.Ytblplkcaanmhgaa.PL
set_option linter.unusedVariables false
set_option linter.unusedSimpArgs false

theorem eqIntS_l (x0 x1 : List Int) (hb : x0.length ≤ 281474976710656) (hl : x0.length = x1.length) (n : Nat) : ∀ (i : Nat), i + n = x0.length →
    Ev (fun k => laws_eqIntS.l0 k x0 x1 (i : Int)) (decide (x0.drop i = x1.drop i)) := by
  induction n with
  | zero =>
    intro i hi
    refine Ev.step (fun k => by rw [laws_eqIntS.l0, if_neg (by omega)]) (Ev.some_ ?_)
    rw [List.drop_eq_nil_of_le (by omega), List.drop_eq_nil_of_le (by omega)]
    rfl
  | succ n ih =>
    intro i hi
    rw [drop_cons x0 i (by omega), drop_cons x1 i (by omega)]
    by_cases hc : x0[i]'(by omega) = x1[i]'(by omega)
    · refine Ev.step (fun k => by rw [laws_eqIntS.l0, if_pos (by omega), if_pos (by omega), if_pos (by omega), if_pos (by rw [rd_get x0 i (by omega), rd_get x1 i (by omega)]; exact hc)]) ?_
      rw [wNat (by omega)]
      exact (ih (i + 1) (by omega)).eq (dec_cons hc _ _)
    · refine Ev.step (fun k => by rw [laws_eqIntS.l0, if_pos (by omega), if_pos (by omega), if_pos (by omega), if_neg (by rw [rd_get x0 i (by omega), rd_get x1 i (by omega)]; exact hc)]) (Ev.some_ (dec_ne hc _ _))
theorem eqIntS_ev (x0 x1 : List Int) (hb : x0.length ≤ 281474976710656) : Ev (fun k => laws_eqIntS.f k x0 x1) (decide (x0 = x1)) := by
  unfold laws_eqIntS.f
  by_cases hl : x0.length = x1.length
  · refine Ev.pos (by omega) ?_
    exact eqIntS_l x0 x1 hb hl x0.length 0 (by omega)
  · refine Ev.neg (by omega) (Ev.some_ ?_)
    rw [eq_comm, decide_eq_false_iff_not]
    intro h
    rw [h] at hl
    exact hl rfl
theorem eqIntS_same (x0 : List Int) (hb : x0.length ≤ 281474976710656) : Ev (fun k => laws_eqIntS.f k x0 x0) true := (eqIntS_ev x0 x0 hb).eq (by simp)

theorem heldIntS_l (m : Int) (hm : 0 ≤ m) (x : List Int) (hb : m + x.length ≤ 281474976710656) (h : ∀ j : Nat, j < x.length → rd x j = m + j) (n : Nat) : ∀ (i : Nat), i + n = x.length →
    Ev (fun k => laws_heldIntS.l0 k x (m + i) (i : Int)) (m + x.length) := by
  induction n with
  | zero =>
    intro i hi
    exact Ev.step (fun k => by rw [laws_heldIntS.l0, if_neg (by omega)]) (Ev.some_ (by rw [show i = x.length by omega]))
  | succ n ih =>
    intro i hi
    refine Ev.step (fun k => by rw [laws_heldIntS.l0, if_pos (by omega), if_pos (by omega), if_pos (h i (by omega))]) ?_
    rw [wNat (by omega), w64 (by omega)]
    have e : m + (i : Int) + 1 = m + ((i + 1 : Nat) : Int) := by omega
    rw [e]
    exact ih (i + 1) (by omega)

theorem markIntS_l (m : Int) (hm : 0 ≤ m) (n : Nat) : ∀ (i : Nat) (x0 : List Int), i + n = x0.length → m + x0.length ≤ 281474976710656 →
    (∀ j : Nat, j < i → rd x0 j = m + j) →
    ∃ x' : List Int, Ev (fun k => laws_markIntS.l0 k x0 (m + i) (i : Int)) (m + x0.length, x') ∧ x'.length = x0.length ∧ ∀ j : Nat, j < x0.length → rd x' j = m + j := by
  induction n with
  | zero =>
    intro i x0 hi hb h
    refine ⟨x0, Ev.step (fun k => by rw [laws_markIntS.l0, if_neg (by omega)]) (Ev.some_ (by rw [show i = x0.length by omega])), rfl, fun j hj => h j (by omega)⟩
  | succ n ih =>
    intro i x0 hi hb h
    obtain ⟨x', he, hl, hx⟩ := ih (i + 1) (x0.set i (m + i)) (by simp; omega) (by simp; omega) (by
      intro j hj
      by_cases hji : j = i
      · subst hji
        rw [rd_nat, List.getD_eq_getElem?_getD, List.getElem?_set_self (by omega)]
        rfl
      · rw [rd_nat, List.getD_eq_getElem?_getD, List.getElem?_set_ne (by omega), ← List.getD_eq_getElem?_getD]
        exact h j (by omega))
    refine ⟨x', ?_, by simpa using hl, by simpa using hx⟩
    refine Ev.step (fun k => by rw [laws_markIntS.l0, if_pos (by omega), if_pos (by omega)]) ?_
    rw [wNat (by omega), w64 (by omega), Int.toNat_natCast]
    rw [List.length_set] at he
    have e : m + (i : Int) + 1 = m + ((i + 1 : Nat) : Int) := by omega
    rw [e]
    exact he
theorem markIntS_ev (x0 : List Int) (m : Int) (hm : 0 ≤ m) (hb : m + x0.length ≤ 281474976710656) :
    ∃ (x' : List Int) (q : Int), Ev (fun k => laws_markIntS.f k x0 m) (q, x') ∧ Ev (fun k => laws_heldIntS.f k x' m) q ∧ m ≤ q ∧ q ≤ m + x0.length := by
  obtain ⟨x', he, hl, hx⟩ := markIntS_l m hm x0.length 0 x0 (by omega) hb (fun j hj => by omega)
  refine ⟨x', m + x0.length, ?_, ?_, by omega, by omega⟩
  · simpa [laws_markIntS.f] using he
  · have := heldIntS_l m hm x' (by omega) (by rw [hl]; exact hx) x'.length 0 (by omega)
    rw [hl] at this
    simpa [laws_heldIntS.f] using this

def nibs : List Int → List Int
  | [] => []
  | b :: r => b / 16 :: b % 16 :: nibs r
def nibblesOf (t : ByteArray) : List Int := nibs (bytesOf t)
theorem nibs_length (l : List Int) : (nibs l).length = 2 * l.length := by
  induction l with
  | nil => rfl
  | cons a l ih => simp only [nibs, List.length_cons, ih]; omega
theorem nibblesOf_length (t : ByteArray) : (nibblesOf t).length = 2 * t.size := by rw [nibblesOf, nibs_length, bytesOf_length]
theorem nibs_range (l : List Int) (h : ∀ x ∈ l, 0 ≤ x ∧ x < 256) : ∀ x ∈ nibs l, 0 ≤ x ∧ x ≤ 15 := by
  induction l with
  | nil => intro x hx; simp [nibs] at hx
  | cons a l ih =>
    intro x hx
    have ha := h a List.mem_cons_self
    simp only [nibs, List.mem_cons] at hx
    rcases hx with rfl | rfl | hx
    · omega
    · omega
    · exact ih (fun y hy => h y (List.mem_cons_of_mem _ hy)) x hx
theorem nibblesOf_range (t : ByteArray) : ∀ x ∈ nibblesOf t, 0 ≤ x ∧ x ≤ 15 := nibs_range _ (fun _ hx => bytesOf_range hx)

theorem spec_NibblesOf_l (x0 : ByteArray) (hb : x0.size ≤ 2097152) (n : Nat) : ∀ (i : Nat) (x3 : List Int), i + n = x0.size → x3.length = 2 * i →
    Ev (fun k => spec_NibblesOf.l0 k x0 x3 (i : Int)) (x3 ++ nibs ((bytesOf x0).drop i)) := by
  have hl := bytesOf_length x0
  induction n with
  | zero =>
    intro i x3 hi h3
    refine Ev.step (fun k => by rw [spec_NibblesOf.l0, if_neg (by omega)]) (Ev.some_ ?_)
    rw [List.drop_eq_nil_of_le (by omega), nibs, List.append_nil]
  | succ n ih =>
    intro i x3 hi h3
    rw [drop_cons (bytesOf x0) i (by omega), nibs]
    have hr := rd_get (bytesOf x0) i (by omega)
    have hg := bt_range x0 (i : Int)
    have e : wrap64 (bt x0 (i : Int)) = bt x0 (i : Int) := w64 (by omega)
    refine Ev.step (fun k => by rw [spec_NibblesOf.l0, if_pos (by omega), if_pos (by omega), e, Option.bind_some, if_pos (by simp; omega), tdiv_pos hg.1, tmod_pos hg.1, w64 (by omega), bt_eq, hr, wNat (by omega)]) ?_
    refine (ih (i + 1) _ (by omega) (by simp; omega)).eq ?_
    simp
theorem spec_NibblesOf_ev (x0 : ByteArray) (hb : x0.size ≤ 2097152) : Ev (fun k => spec_NibblesOf.f k x0) (nibblesOf x0) := by
  unfold spec_NibblesOf.f
  refine (spec_NibblesOf_l x0 hb x0.size 0 [] (by omega) rfl).eq ?_
  rfl

theorem impl_NibblesOf_l (x0 : ByteArray) (hb : x0.size ≤ 2097152) (n : Nat) : ∀ (i : Nat) (x3 : List Int), i + n = x0.size → x3.length = 2 * i →
    Ev (fun k => impl_NibblesOf.l0 k x0 x3 (i : Int)) (x3 ++ nibs ((bytesOf x0).drop i)) := by
  have hl := bytesOf_length x0
  induction n with
  | zero =>
    intro i x3 hi h3
    refine Ev.step (fun k => by rw [impl_NibblesOf.l0, if_neg (by omega)]) (Ev.some_ ?_)
    rw [List.drop_eq_nil_of_le (by omega), nibs, List.append_nil]
  | succ n ih =>
    intro i x3 hi h3
    rw [drop_cons (bytesOf x0) i (by omega), nibs]
    have hr := rd_get (bytesOf x0) i (by omega)
    have hg := bt_range x0 (i : Int)
    refine Ev.step (fun k => by rw [impl_NibblesOf.l0, if_pos (by omega), if_pos (by omega), Option.bind_some, if_pos (by simp; omega), u8_and15 _ hg.1 (by omega), w64 (by omega), w64 (by omega), bt_eq, hr, wNat (by omega)]) ?_
    refine (ih (i + 1) _ (by omega) (by simp; omega)).eq ?_
    simp
theorem impl_NibblesOf_ev (x0 : ByteArray) (hb : x0.size ≤ 2097152) : Ev (fun k => impl_NibblesOf.f k x0) (nibblesOf x0) := by
  unfold impl_NibblesOf.f
  refine (impl_NibblesOf_l x0 hb x0.size 0 [] (by omega) rfl).eq ?_
  rfl

theorem FnExactNibblesOf : laws_FnExactNibblesOf.Pure := by
  intro a0 hs
  apply Ev.rounds
  unfold laws_FnExactNibblesOf.f
  by_cases h0 : (a0.size : Int) > 1048576
  · exact Ev.pos h0 (Ev.now _)
  refine Ev.neg h0 ?_
  have hl := nibblesOf_length a0
  have es := spec_NibblesOf_ev a0 (by omega)
  have ei := impl_NibblesOf_ev a0 (by omega)
  have eq := eqIntS_same (nibblesOf a0) (by omega)
  obtain ⟨x', q, em, eh, hq, hq'⟩ := markIntS_ev (nibblesOf a0) 1 (by omega) (by omega)
  refine Ev.bind es (Ev.bind ei (Ev.bind eq (Ev.pos rfl (Ev.bind em (Ev.bind eh (Ev.neg (by omega) (Ev.pos rfl ?_)))))))
  refine Ev.bind ei (Ev.bind eq (Ev.pos rfl (Ev.bind eh (Ev.neg (by omega) (Ev.pos rfl (Ev.now _))))))

end Go.Proofs.Ytblplkcaanmhgaa.Pure
