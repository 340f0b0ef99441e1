/- Loads and stores of the evaluator are the program's. No conditions. -/
import Derived.Test.YtlcnpecejhcnfaaDoorEVops1
namespace Go.Proofs.YtlcnpecejhcnfaaDoor.EV
set_option linter.unusedVariables false
set_option linter.unusedSimpArgs false
open Go Go.RowKit

theorem upto_length {α : Type} : ∀ (n : Nat) (f : Nat → α), (upto n f).length = n
  | 0, _ => rfl
  | n + 1, f => by simp [upto, upto_length n]
theorem window_length (cs : List AV) (o n : Nat) : (window cs o n).length = n := upto_length _ _
theorem upto_get {α : Type} : ∀ (n : Nat) (f : Nat → α) (j : Nat), j < n → (upto n f)[j]? = some (f j)
  | 0, _, _, h => by omega
  | n + 1, f, 0, _ => rfl
  | n + 1, f, j + 1, h => by
    show (upto n fun i => f (i + 1))[j]? = _
    exact upto_get n (fun i => f (i + 1)) j (by omega)
theorem window_get (cs : List AV) (o n j : Nat) (h : j < n) : (window cs o n)[j]? = some (cellAt cs (o + j)) := upto_get _ _ _ h

/-- Cells of a row, from a place on: their values. -/
theorem repAt_vals {w : World} {C : Ctx} {b o : Nat} {cs : List AV} (h : RepAt w C b o cs) (off : Nat) : ∀ (n : Nat), off + n ≤ cs.length →
    ∃ vs : List Value, vs.length = n ∧ (∀ (j : Nat) (v : Value), vs[j]? = some v → w.cell? ⟨b, o + off + j, none⟩ = some v ∧ v.oneCell' = true) ∧ RepL w C (window cs off n) vs
  | 0, _ => ⟨[], rfl, fun j v q => by simp at q, rfl⟩
  | n + 1, hn => by
    obtain ⟨vs, h1, h2, h3⟩ := repAt_vals h off n (by omega)
    have hx : cs[off + n]? = some cs[off + n] := List.getElem?_eq_getElem (by omega)
    obtain ⟨v, q1, qo, q2⟩ := repAt_get1 h hx
    refine ⟨vs ++ [v], by simp [h1], fun j u hu => ?_, ?_⟩
    · by_cases hj : j < vs.length
      · rw [List.getElem?_append_left hj] at hu; exact h2 j u hu
      · have : j = vs.length := by
          have := (List.getElem?_eq_some_iff.1 hu).1
          simp at this; omega
        subst this
        simp at hu
        subst hu
        rw [h1, show o + off + n = o + (off + n) by omega]
        exact ⟨q1, qo⟩
    · refine repL_of (by simp [window_length, h1]) fun j x u hx2 hu => ?_
      have hj : j < n + 1 := by have := (List.getElem?_eq_some_iff.1 hx2).1; rwa [window_length] at this
      rw [window_get _ _ _ _ hj] at hx2
      cases hx2
      by_cases hj2 : j < n
      · rw [List.getElem?_append_left (by omega)] at hu
        obtain ⟨u2, r1, r2⟩ := repL_get h3 (window_get cs off n j hj2)
        rw [hu] at r1; cases r1; exact r2
      · have : j = n := by omega
        subst this
        rw [List.getElem?_append_right (by omega)] at hu
        simp [h1] at hu
        subst hu
        have : cellAt cs (off + j) = cs[off + j] := by simp [cellAt, List.getD, hx]
        rw [this]; exact q2

theorem ok1_any {s : Sc} : ok1 s .any = false := by cases s <;> rfl
theorem cast_rep {w : World} {C : Ctx} {s : Sc} {x : AV} {v : Value} (h : ok1 s x = true) (r : Rep w C x v) : Rep w C (cast1 s x) v := by
  cases s <;> cases x <;> simp only [ok1, reduceCtorEq, Bool.false_eq_true] at h
  case int.int k k' n => simp only [decide_eq_true_eq] at h; subst h; exact r
  case bool.bool => exact r
  case str.str => exact r
  case sl.nils => obtain ⟨a, rfl⟩ := r; exact ⟨none, 0, rfl, Nat.le_refl _, .inl ⟨rfl, rfl⟩⟩
  case sl.fs => exact r
theorem okAll_get : ∀ {ss : List Sc} {vs : List AV} {j : Nat} {s : Sc}, okAll ss vs = true → ss[j]? = some s → ∃ x, vs[j]? = some x ∧ ok1 s x = true
  | [], _, _, _, _, h => by simp at h
  | t :: ts, vs, 0, s, h, e => by
    simp only [List.getElem?_cons_zero, Option.some.injEq] at e; subst e
    simp only [okAll, Bool.and_eq_true] at h
    cases vs with
    | nil => have := h.1; simp [ok1_any] at this
    | cons x r => exact ⟨x, rfl, h.1⟩
  | t :: ts, vs, j + 1, s, h, e => by
    simp only [okAll, Bool.and_eq_true] at h
    obtain ⟨x, q1, q2⟩ := okAll_get h.2 (by simpa using e)
    cases vs with
    | nil => simp at q1
    | cons y r => exact ⟨x, by simpa using q1, q2⟩
theorem castAll_rep {w : World} {C : Ctx} : ∀ {ss : List Sc} {xs : List AV} {vs : List Value}, ss.length = xs.length → okAll ss xs = true → RepL w C xs vs → RepL w C (castAll ss xs) vs
  | [], [], _, _, _, r => r
  | [], _ :: _, _, h, _, _ => by simp at h
  | _ :: _, [], _, h, _, _ => by simp at h
  | s :: ss, x :: xs, vs, h, e, r => by
    obtain ⟨v, q, rfl, r1, r2⟩ := r
    simp only [okAll, Bool.and_eq_true, List.headD_cons, List.tail_cons] at e
    exact ⟨v, q, rfl, cast_rep e.1 r1, castAll_rep (by simpa using h) e.2 r2⟩

theorem okT_info {P : Program} {t : TypeId} (h : okT P t = true) : ∃ i d, P.info? t = some i ∧ i.size = szOf P t ∧ 1 ≤ szOf P t ∧ P.underlying t = some d ∧ und P t = d := by
  unfold okT at h
  rw [Bool.and_eq_true, Bool.and_eq_true] at h
  have h1 := Nat.le_of_ble_eq_true h.1.1
  cases e : P.info? t with
  | none => simp [szOf, e] at h1
  | some i =>
    have hs : i.size = szOf P t := by simp [szOf, e]
    cases e2 : P.underlying t with
    | none => have := h.2; simp [und, e2] at this
    | some d => exact ⟨i, d, rfl, hs, h1, rfl, by simp [und, e2]⟩
theorem okT_ne {P : Program} {t : TypeId} (h : okT P t = true) : t ≠ 0 := by
  unfold okT at h
  rw [Bool.and_eq_true, Bool.and_eq_true] at h
  intro q
  subst q
  have := h.1.2
  simp at this
theorem run_isAgg {P : Program} {t : TypeId} (h : okT P t = true) (w : World) : (isAgg t).run P w = .ok (isAggT P t) w := by
  obtain ⟨i, d, _, _, _, e, e2⟩ := okT_info h
  unfold isAgg isAggT
  rw [Sem.run_bind, run_underlying e w, e2]
  cases d <;> rfl
theorem run_sizeOf {P : Program} {t : TypeId} (h : okT P t = true) (w : World) : (sizeOf t).run P w = .ok (szOf P t) w := by
  obtain ⟨i, d, e, hs, _⟩ := okT_info h
  simp [sizeOf, typeInfo, e, hs]

/-- A value read out of a row. -/
theorem run_loadVar {P : Program} {w : World} {t : TypeId} (h : okT P t = true) (b o : Nat) (vs : List Value) (hl : vs.length = szOf P t) (hv : ∀ (j : Nat) (v : Value), vs[j]? = some v → w.cell? ⟨b, o + j, none⟩ = some v) :
    ∃ v0, vs.head? = some v0 ∧ (Instr.loadAt t (.pointer (some ⟨b, o, none⟩))).run P w = .ok (if isAggT P t then .agg vs.toArray else v0) w := by
  obtain ⟨i, d, e, hs, h1, e2, e3⟩ := okT_info h
  cases vs with
  | nil => simp at hl; omega
  | cons v0 r =>
    refine ⟨v0, rfl, ?_⟩
    have hc := run_loadCells_list (P := P) w ⟨b, o, none⟩ (v0 :: r) (fun j v q => by rw [Addr.add_mid]; exact hv j v q)
    have h0 := hv 0 v0 rfl
    rw [Nat.add_zero] at h0
    simp only [Instr.loadAt, Instr.sureAddr, loadVar, Sem.run_bind, Sem.run_pure, Result.andThen_ok, run_isAgg h w]
    cases hb : isAggT P t with
    | true =>
      rw [if_pos rfl, if_pos rfl]
      simp only [Sem.run_bind, run_sizeOf h w, Result.andThen_ok, ← hl, hc]
      rfl
    | false =>
      rw [if_neg (by simp), if_neg (by simp), run_load, h0]
theorem plain_rep {P : Program} {w : World} {C : Ctx} {t : TypeId} {xs : List AV} {vs : List Value} {v0 : Value} (h : RepL w C xs vs) (h0 : vs.head? = some v0) : Rep w C (plainAs P t xs) (if isAggT P t then .agg vs.toArray else v0) := by
  unfold plainAs
  cases isAggT P t with
  | true => exact ⟨vs, rfl, h⟩
  | false =>
    cases xs with
    | nil => cases h; simp at h0
    | cons x r =>
      obtain ⟨v, q, rfl, r1, _⟩ := h
      simp at h0; subst h0
      exact r1
theorem parts_rep {P : Program} {w : World} {C : Ctx} {t : TypeId} {xs : List AV} {vs : List Value} {v0 : Value} (ok : partsOk P t xs = true) (h : RepL w C xs vs) (h0 : vs.head? = some v0) : Rep w C (partsAs P t xs) (if isAggT P t then .agg vs.toArray else v0) := by
  unfold partsOk at ok
  rw [Bool.and_eq_true] at ok
  have hl := nbeq_eq ok.1
  unfold partsAs
  cases isAggT P t with
  | true => exact ⟨vs, rfl, castAll_rep hl ok.2 h⟩
  | false =>
    cases xs with
    | nil => cases h; simp at h0
    | cons x r =>
      obtain ⟨v, q, rfl, r1, _⟩ := h
      simp at h0; subst h0
      cases hf : flat P 8 t with
      | nil => rw [hf] at hl; simp at hl
      | cons s ss =>
        rw [hf] at ok
        have := ok.2
        simp only [okAll, Bool.and_eq_true, List.headD_cons] at this
        exact cast_rep this.1 r1
/-- A window whose cells are of a type's kinds lies in the row. -/
theorem window_in {P : Program} {t : TypeId} {cs : List AV} {off : Nat} (h : okT P t = true) (ok : partsOk P t (window cs off (szOf P t)) = true) : off + szOf P t ≤ cs.length := by
  obtain ⟨i, d, e, hs, h1, _⟩ := okT_info h
  unfold partsOk at ok
  rw [Bool.and_eq_true] at ok
  have hl := nbeq_eq ok.1
  rw [window_length] at hl
  cases hf : (flat P 8 t)[szOf P t - 1]? with
  | none => have := List.getElem?_eq_none_iff.1 hf; omega
  | some s =>
    obtain ⟨x, q1, q2⟩ := okAll_get ok.2 hf
    rw [window_get _ _ _ _ (by omega)] at q1
    cases q1
    rcases Nat.lt_or_ge (off + (szOf P t - 1)) cs.length with hlt | hge
    · omega
    · have : cellAt cs (off + (szOf P t - 1)) = .any := by unfold cellAt; rw [List.getD_eq_getElem?_getD, List.getElem?_eq_none hge]; rfl
      rw [this, ok1_any] at q2; cases q2

theorem load_ok {P : Program} {w : World} {C : Ctx} {H : Nat → Option Blk} (hH : RelH P w C H) {t : TypeId} {a : AV} {va : Value} (ra : Rep w C a va) {g : Bool} {v : AV} {nw : List (Nat × Blk)} {dd fz : List Nat}
    (h : loadA P H t a = .val g v nw dd fz) (hg : g = true) : nw = [] ∧ dd = [] ∧ fz = [] ∧ ∃ u, (Instr.loadAt t va).run P w = .ok u w ∧ Rep w C v u := by
  cases a <;> simp only [loadA, reduceCtorEq] at h
  case ptr id off =>
    obtain ⟨L, e, rfl⟩ := ra
    obtain ⟨k, hk, ok⟩ := hH.blk id L e
    rw [hk] at h
    simp only at h
    rcases ok with ok | ⟨e0, cells, el, fr, e1, e2, e3, e4, e5, e6, _⟩
    · rw [nble1_no ok] at h; simp at h
    · have hb : Nat.ble k.st 1 = true := Nat.ble_eq_true_of_le e0
      rw [hb] at h
      cases ha : k.arr with
      | true =>
        rw [ha] at h
        cases h
        rw [Bool.and_eq_true] at hg
        have hin := window_in hg.1 hg.2
        obtain ⟨vs, v1, v2, v3⟩ := repAt_vals e6 off _ hin
        obtain ⟨v0, q1, q2⟩ := run_loadVar hg.1 L.b (L.d + off) vs v1 (fun j v q => (v2 j v q).1)
        exact ⟨rfl, rfl, rfl, _, q2, parts_rep hg.2 v3 q1⟩
      | false =>
        rw [ha] at h
        cases h
        rw [Bool.and_eq_true] at hg
        have hin := Nat.le_of_ble_eq_true hg.2
        obtain ⟨vs, v1, v2, v3⟩ := repAt_vals e6 off _ hin
        obtain ⟨v0, q1, q2⟩ := run_loadVar hg.1 L.b (L.d + off) vs v1 (fun j v q => (v2 j v q).1)
        exact ⟨rfl, rfl, rfl, _, q2, plain_rep v3 q1⟩
  case fp cs off =>
    obtain ⟨b, o, rfl, hf, r⟩ := ra
    cases h
    rw [Bool.and_eq_true] at hg
    have hin := window_in hg.1 hg.2
    obtain ⟨vs, v1, v2, v3⟩ := repAt_vals r off _ hin
    obtain ⟨v0, q1, q2⟩ := run_loadVar hg.1 b (o + off) vs v1 (fun j v q => (v2 j v q).1)
    exact ⟨rfl, rfl, rfl, _, q2, rep_step (Step.of_bare w C) _ _ (parts_rep hg.2 v3 q1)⟩
end Go.Proofs.YtlcnpecejhcnfaaDoor.EV
