/- Trees: rows of one's own that hold rows of one's own. No conditions. -/
import Derived.Test.YtlcnpecejhcnfaaDoorEVcall2
import Derived.Test.YtlcnpecejhcnfaaDoorEVarr
namespace Go.Proofs.YtlcnpecejhcnfaaDoor.EV
set_option linter.unusedVariables false
set_option linter.unusedSimpArgs false
open Go Go.RowKit

def RowAt (w : World) (b m : Nat) (cs : List AV) : Prop := ∃ cells el fr, w.heap[b]? = some (.cells cells el fr) ∧ m ≤ cells.size ∧ (∀ i, i < cells.size → ¬ (fr.1 ≤ i ∧ i < fr.2)) ∧ (fr = (0, 0) ∨ cs.all plain1 = true)
def CellsAt (w : World) (b o : Nat) (vs : List Value) : Prop := ∀ (j : Nat) (v : Value), vs[j]? = some v → w.cell? ⟨b, o + j, none⟩ = some v ∧ v.oneCell' = true
mutual
/-- A cell of a tree, and the rows below it. -/
def TR (w : World) : AV → Value → List Nat → Prop
  | .any, _, T => T = []
  | .int k n, v, T => v = .int k n ∧ T = []
  | .bool b, v, T => v = .bool b ∧ T = []
  | .str s, v, T => v = .string s ∧ T = []
  | .fs n cs, v, T => ∃ a cap, v = .slice a n cap ∧ n ≤ cap ∧ ((n = 0 ∧ cap = 0 ∧ cs = [] ∧ T = []) ∨ ∃ b o s vs T', a = some ⟨b, o, none⟩ ∧ 0 < cap ∧ T = b :: T' ∧ cs.length = n * s ∧ RowAt w b (o + cap * s) cs ∧ CellsAt w b o vs ∧ TRV w cs vs T')
  | _, _, _ => False
def TRV (w : World) : List AV → List Value → List Nat → Prop
  | [], vs, T => vs = [] ∧ T = []
  | x :: xs, vs, T => ∃ v r T1 T2, vs = v :: r ∧ T = T1 ++ T2 ∧ TR w x v T1 ∧ TRV w xs r T2
end
def Same (w w' : World) (T : List Nat) : Prop := ∀ b, b ∈ T → w'.heap[b]? = w.heap[b]?
theorem Same.mono {w w' : World} {T T' : List Nat} (h : Same w w' T) (s : ∀ b, b ∈ T' → b ∈ T) : Same w w' T' := fun b hb => h b (s b hb)
theorem rowAt_same {w w' : World} {b m : Nat} {cs : List AV} (h : w'.heap[b]? = w.heap[b]?) (r : RowAt w b m cs) : RowAt w' b m cs := by
  unfold RowAt at r ⊢; rw [h]; exact r
theorem cellsAt_same {w w' : World} {b o : Nat} {vs : List Value} (h : w'.heap[b]? = w.heap[b]?) (r : CellsAt w b o vs) : CellsAt w' b o vs := fun j v q => by
  obtain ⟨q1, q2⟩ := r j v q
  exact ⟨(cell_of_heap h _).trans q1, q2⟩
mutual
theorem tr_same {w w' : World} : ∀ (x : AV) (v : Value) (T : List Nat), Same w w' T → TR w x v T → TR w' x v T
  | .any, _, _, _, r => r
  | .int _ _, _, _, _, r => r
  | .bool _, _, _, _, r => r
  | .str _, _, _, _, r => r
  | .fs n cs, v, T, h, r => by
    obtain ⟨a, cap, e1, e2, e3⟩ := r
    refine ⟨a, cap, e1, e2, ?_⟩
    rcases e3 with e3 | ⟨b, o, s, vs, T', f1, f0, f2, f3, f4, f5, f6⟩
    · exact .inl e3
    · subst f2
      have hb : w'.heap[b]? = w.heap[b]? := h b (by simp)
      exact .inr ⟨b, o, s, vs, T', f1, f0, rfl, f3, rowAt_same hb f4, cellsAt_same hb f5, trv_same cs vs T' (h.mono fun x hx => by simp [hx]) f6⟩
  | .nils, _, _, _, r => r
  | .nilp, _, _, _, r => r
  | .unk _ _, _, _, _, r => r
  | .own _ _ _, _, _, _, r => r
  | .agg _, _, _, _, r => r
  | .tup _, _, _, _, r => r
  | .ptr _ _, _, _, _, r => r
  | .fp _ _, _, _, _, r => r
  | .fn _, _, _, _, r => r
  | .ref _ _ _, _, _, _, r => r
  | .arr _ _, _, _, _, r => r
theorem trv_same {w w' : World} : ∀ (xs : List AV) (vs : List Value) (T : List Nat), Same w w' T → TRV w xs vs T → TRV w' xs vs T
  | [], _, _, _, r => r
  | x :: xs, vs, T, h, r => by
    obtain ⟨v, us, T1, T2, e1, e2, r1, r2⟩ := r
    subst e2
    exact ⟨v, us, T1, T2, e1, rfl, tr_same x v T1 (h.mono fun b hb => by simp [hb]) r1, trv_same xs us T2 (h.mono fun b hb => by simp [hb]) r2⟩
end
theorem trv_len {w : World} : ∀ {xs : List AV} {vs : List Value} {T : List Nat}, TRV w xs vs T → vs.length = xs.length
  | [], vs, T, r => by obtain ⟨e, _⟩ := r; rw [e]; rfl
  | x :: xs, vs, T, r => by
    obtain ⟨v, us, T1, T2, e1, e2, r1, r2⟩ := r
    rw [e1]; simp [trv_len r2]
theorem cellsAt_uniq {w : World} {b o : Nat} {vs us : List Value} (h : CellsAt w b o vs) (k : CellsAt w b o us) (l : vs.length = us.length) : vs = us := by
  apply List.ext_getElem? 
  intro j
  by_cases hj : j < vs.length
  · have h1 := (h j _ (List.getElem?_eq_getElem hj)).1
    have h2 := (k j _ (List.getElem?_eq_getElem (l ▸ hj))).1
    rw [List.getElem?_eq_getElem hj, List.getElem?_eq_getElem (l ▸ hj)]
    rw [h1] at h2
    exact h2
  · rw [List.getElem?_eq_none (by omega), List.getElem?_eq_none (by omega)]
mutual
theorem tr_uniq {w : World} : ∀ (x : AV) (v : Value) (T T' : List Nat), TR w x v T → TR w x v T' → T = T'
  | .any, _, _, _, r, r' => r.trans r'.symm
  | .int _ _, _, _, _, r, r' => r.2.trans r'.2.symm
  | .bool _, _, _, _, r, r' => r.2.trans r'.2.symm
  | .str _, _, _, _, r, r' => r.2.trans r'.2.symm
  | .fs n cs, v, T, T', r, r' => by
    obtain ⟨a, cap, e1, e2, e3⟩ := r
    obtain ⟨a', cap', e1', e2', e3'⟩ := r'
    rw [e1] at e1'
    cases e1'
    rcases e3 with ⟨g1, g2, g3, g4⟩ | ⟨b, o, s, vs, U, f1, f0, f2, f3, f4, f5, f6⟩
    · rcases e3' with ⟨g1', g2', g3', g4'⟩ | ⟨b', o', s', vs', U', f1', f0', f2', f3', f4', f5', f6'⟩
      · rw [g4, g4']
      · omega
    · rcases e3' with ⟨g1', g2', g3', g4'⟩ | ⟨b', o', s', vs', U', f1', f0', f2', f3', f4', f5', f6'⟩
      · omega
      · rw [f1] at f1'
        cases f1'
        have hl : vs.length = vs'.length := by rw [trv_len f6, trv_len f6']
        have := cellsAt_uniq f5 f5' hl
        subst this
        rw [f2, f2', trv_uniq cs vs U U' f6 f6']
  | .nils, _, _, _, r, _ => r.elim
  | .nilp, _, _, _, r, _ => r.elim
  | .unk _ _, _, _, _, r, _ => r.elim
  | .own _ _ _, _, _, _, r, _ => r.elim
  | .agg _, _, _, _, r, _ => r.elim
  | .tup _, _, _, _, r, _ => r.elim
  | .ptr _ _, _, _, _, r, _ => r.elim
  | .fp _ _, _, _, _, r, _ => r.elim
  | .fn _, _, _, _, r, _ => r.elim
  | .ref _ _ _, _, _, _, r, _ => r.elim
  | .arr _ _, _, _, _, r, _ => r.elim
theorem trv_uniq {w : World} : ∀ (xs : List AV) (vs : List Value) (T T' : List Nat), TRV w xs vs T → TRV w xs vs T' → T = T'
  | [], _, _, _, r, r' => r.2.trans r'.2.symm
  | x :: xs, vs, T, T', r, r' => by
    obtain ⟨v, us, T1, T2, e1, e2, r1, r2⟩ := r
    obtain ⟨v', us', T1', T2', e1', e2', r1', r2'⟩ := r'
    rw [e1] at e1'
    cases e1'
    rw [e2, e2', tr_uniq x v T1 T1' r1 r1', trv_uniq xs us T2 T2' r2 r2']
end

/-- It reads as a row that nobody writes. -/
theorem plain_of {w : World} {x : AV} {v : Value} (C : Ctx) (h : plain1 x = true) (r : Rep w C x v) : TR w x v [] := by
  cases x <;> first | (simp [plain1] at h; done) | exact ⟨r, rfl⟩
mutual
theorem tr_rep {w : World} (φ : Nat → Option Loc) (F : Nat → Prop) : ∀ (x : AV) (v : Value) (T : List Nat), (∀ b, b ∈ T → F b) → TR w x v T → Rep w ⟨φ, F⟩ x v
  | .any, _, _, _, _ => trivial
  | .int _ _, _, _, _, r => r.1
  | .bool _, _, _, _, r => r.1
  | .str _, _, _, _, r => r.1
  | .fs n cs, v, T, h, r => by
    obtain ⟨a, cap, e1, e2, e3⟩ := r
    refine ⟨a, cap, e1, e2, ?_⟩
    rcases e3 with ⟨g1, _, g3, _⟩ | ⟨b, o, s, vs, T', f1, f0, f2, f3, f4, f5, f6⟩
    · exact .inl ⟨g1, g3⟩
    · subst f2
      exact .inr ⟨b, o, f1, h b (by simp), repAt_of_repL (trv_rep (fun _ => none) F cs vs T' (fun x hx => h x (by simp [hx])) f6) f5⟩
  | .nils, _, _, _, r => r.elim
  | .nilp, _, _, _, r => r.elim
  | .unk _ _, _, _, _, r => r.elim
  | .own _ _ _, _, _, _, r => r.elim
  | .agg _, _, _, _, r => r.elim
  | .tup _, _, _, _, r => r.elim
  | .ptr _ _, _, _, _, r => r.elim
  | .fp _ _, _, _, _, r => r.elim
  | .fn _, _, _, _, r => r.elim
  | .ref _ _ _, _, _, _, r => r.elim
  | .arr _ _, _, _, _, r => r.elim
theorem trv_rep {w : World} (φ : Nat → Option Loc) (F : Nat → Prop) : ∀ (xs : List AV) (vs : List Value) (T : List Nat), (∀ b, b ∈ T → F b) → TRV w xs vs T → RepL w ⟨φ, F⟩ xs vs
  | [], _, _, _, r => r.1
  | x :: xs, vs, T, h, r => by
    obtain ⟨v, us, T1, T2, e1, e2, r1, r2⟩ := r
    subst e2
    exact ⟨v, us, e1, tr_rep φ F x v T1 (fun b hb => h b (by simp [hb])) r1, trv_rep φ F xs us T2 (fun b hb => h b (by simp [hb])) r2⟩
end

/-! Lists of cells. -/
theorem trv_append {w : World} : ∀ {xs ys : List AV} {vs us : List Value} {T U : List Nat}, TRV w xs vs T → TRV w ys us U → TRV w (xs ++ ys) (vs ++ us) (T ++ U)
  | [], ys, vs, us, T, U, h, k => by obtain ⟨e1, e2⟩ := h; subst e1; subst e2; exact k
  | x :: xs, ys, vs, us, T, U, h, k => by
    obtain ⟨v, r, T1, T2, e1, e2, r1, r2⟩ := h
    subst e1; subst e2
    exact ⟨v, r ++ us, T1, T2 ++ U, rfl, List.append_assoc _ _ _, r1, trv_append r2 k⟩
theorem trv_split {w : World} : ∀ {xs ys : List AV} {vs : List Value} {T : List Nat}, TRV w (xs ++ ys) vs T → ∃ T1 T2, T = T1 ++ T2 ∧ TRV w xs (vs.take xs.length) T1 ∧ TRV w ys (vs.drop xs.length) T2
  | [], ys, vs, T, h => ⟨[], T, rfl, ⟨by simp, rfl⟩, by simpa using h⟩
  | x :: xs, ys, vs, T, h => by
    obtain ⟨v, r, T1, T2, e1, e2, r1, r2⟩ := h
    obtain ⟨U1, U2, q1, q2, q3⟩ := trv_split r2
    subst e1; subst e2; subst q1
    exact ⟨T1 ++ U1, U2, by simp, ⟨v, _, T1, U1, by simp, rfl, r1, q2⟩, by simpa using q3⟩
theorem cut_split (cs : List AV) (o n : Nat) : cs = cs.take o ++ (cutC cs o n ++ cs.drop (o + n)) := by
  unfold cutC
  rw [← List.drop_drop, List.take_append_drop, List.take_append_drop]
theorem trv_cut {w : World} {cs : List AV} {vs : List Value} {T : List Nat} (h : TRV w cs vs T) (o n : Nat) : ∃ Ta Tm Tb, T = Ta ++ (Tm ++ Tb) ∧ TRV w (cutC cs o n) ((vs.drop o).take n) Tm := by
  have hl := trv_len h
  have h' := h
  rw [cut_split cs o n] at h'
  obtain ⟨Ta, T2, q1, q2, q3⟩ := trv_split h'
  obtain ⟨Tm, Tb, p1, p2, p3⟩ := trv_split q3
  refine ⟨Ta, Tm, Tb, by rw [q1, p1], ?_⟩
  have e1 : vs.drop (cs.take o).length = vs.drop o := by
    rw [List.length_take]
    by_cases ho : o ≤ cs.length
    · rw [Nat.min_eq_left ho]
    · rw [List.drop_eq_nil_of_le (by omega), List.drop_eq_nil_of_le (by omega)]
  rw [e1] at p2
  have e2 : (vs.drop o).take (cutC cs o n).length = (vs.drop o).take n := by
    unfold cutC
    rw [List.length_take, List.length_drop]
    by_cases hn : n ≤ cs.length - o
    · rw [Nat.min_eq_left hn]
    · rw [Nat.min_eq_right (by omega), List.take_of_length_le (by rw [List.length_drop]; omega), List.take_of_length_le (by rw [List.length_drop]; omega)]
  rwa [e2] at p2
theorem setMany_eq (ys : List AV) : ∀ (cs : List AV) (o : Nat), o + ys.length ≤ cs.length → setMany cs o ys = cs.take o ++ (ys ++ cs.drop (o + ys.length)) := by
  intro cs o h
  apply List.ext_getElem?
  intro j
  rw [setMany_get _ _ _ _ h]
  by_cases h1 : j < o
  · rw [if_neg (by omega), List.getElem?_append_left (by rw [List.length_take]; omega), List.getElem?_take, if_pos h1]
  · have hl : (cs.take o).length = o := by rw [List.length_take]; omega
    rw [List.getElem?_append_right (by omega), hl]
    by_cases h2 : j < o + ys.length
    · rw [if_pos ⟨by omega, h2⟩, List.getElem?_append_left (by omega)]
    · rw [if_neg (by omega), List.getElem?_append_right (by omega), List.getElem?_drop]
      congr 1; omega
/-- Values put over others. -/
def putL (vs : List Value) (o : Nat) (us : List Value) : List Value := vs.take o ++ (us ++ vs.drop (o + us.length))
theorem trv_put {w : World} {cs ys : List AV} {vs us : List Value} {T U : List Nat} (h : TRV w cs vs T) (k : TRV w ys us U) {o : Nat} (hl : o + ys.length ≤ cs.length) :
    ∃ Ta Tm Tb, T = Ta ++ (Tm ++ Tb) ∧ TRV w (cutC cs o ys.length) ((vs.drop o).take ys.length) Tm ∧ TRV w (setMany cs o ys) (putL vs o us) (Ta ++ (U ++ Tb)) := by
  have hvl := trv_len h
  have hul := trv_len k
  have h' := h
  rw [cut_split cs o ys.length] at h'
  obtain ⟨Ta, T2, q1, q2, q3⟩ := trv_split h'
  obtain ⟨Tm, Tb, p1, p2, p3⟩ := trv_split q3
  have l1 : (cs.take o).length = o := by rw [List.length_take]; omega
  have l2 : (cutC cs o ys.length).length = ys.length := by unfold cutC; rw [List.length_take, List.length_drop]; omega
  rw [l1] at q2 p2 p3
  rw [l2] at p2 p3
  refine ⟨Ta, Tm, Tb, by rw [q1, p1], p2, ?_⟩
  rw [setMany_eq _ _ _ hl]
  unfold putL
  refine trv_append q2 (trv_append k ?_)
  rw [List.drop_drop] at p3
  rwa [hul]
theorem putL_get (vs : List Value) (o : Nat) (us : List Value) (h : o + us.length ≤ vs.length) (j : Nat) : (putL vs o us)[j]? = if o ≤ j ∧ j < o + us.length then us[j - o]? else vs[j]? := by
  unfold putL
  by_cases h1 : j < o
  · rw [if_neg (by omega), List.getElem?_append_left (by rw [List.length_take]; omega), List.getElem?_take, if_pos h1]
  · have hl : (vs.take o).length = o := by rw [List.length_take]; omega
    rw [List.getElem?_append_right (by omega), hl]
    by_cases h2 : j < o + us.length
    · rw [if_pos ⟨by omega, h2⟩, List.getElem?_append_left (by omega)]
    · rw [if_neg (by omega), List.getElem?_append_right (by omega), List.getElem?_drop]
      congr 1; omega
theorem trv_get {w : World} : ∀ {cs : List AV} {vs : List Value} {T : List Nat} {j : Nat} {x : AV}, TRV w cs vs T → cs[j]? = some x → ∃ v Ta T1 Tb, vs[j]? = some v ∧ T = Ta ++ (T1 ++ Tb) ∧ TR w x v T1 ∧ ∀ y Ty, TR w y v Ty → TRV w (cs.set j y) vs (Ta ++ (Ty ++ Tb))
  | [], _, _, _, _, _, h => by simp at h
  | c :: cs, vs, T, 0, x, r, h => by
    simp only [List.getElem?_cons_zero, Option.some.injEq] at h
    subst h
    obtain ⟨v, us, T1, T2, e1, e2, r1, r2⟩ := r
    subst e1; subst e2
    exact ⟨v, [], T1, T2, rfl, rfl, r1, fun y Ty hy => ⟨v, us, Ty, T2, rfl, rfl, hy, r2⟩⟩
  | c :: cs, vs, T, j + 1, x, r, h => by
    obtain ⟨v, us, T1, T2, e1, e2, r1, r2⟩ := r
    subst e1; subst e2
    obtain ⟨u, Ta, Tm, Tb, q1, q2, q3, q4⟩ := trv_get r2 (by simpa using h)
    subst q2
    exact ⟨u, T1 ++ Ta, Tm, Tb, by simpa using q1, by simp, q3, fun y Ty hy => ⟨v, us, T1, Ta ++ (Ty ++ Tb), rfl, by simp, r1, q4 y Ty hy⟩⟩
theorem trv_plain {w : World} {C : Ctx} : ∀ {xs : List AV} {vs : List Value}, xs.all plain1 = true → RepL w C xs vs → TRV w xs vs []
  | [], vs, _, r => ⟨r, rfl⟩
  | x :: xs, vs, h, r => by
    rw [List.all_cons, Bool.and_eq_true] at h
    obtain ⟨v, us, e, r1, r2⟩ := r
    exact ⟨v, us, [], [], e, rfl, plain_of C h.1 r1, trv_plain h.2 r2⟩
end Go.Proofs.YtlcnpecejhcnfaaDoor.EV
