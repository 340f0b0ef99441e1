/- Arrays of many numbers as values, and variables of packages. No conditions. -/
import Derived.Test.YtlcnpecejhcnfaaDoorEVop3
namespace Go.Proofs.YtlcnpecejhcnfaaDoor.EV
set_option linter.unusedVariables false
set_option linter.unusedSimpArgs false
open Go Go.RowKit

/-- What the variables of the packages hold: nobody writes it. -/
def GlobOk (cp : CP) (w : World) (C : Ctx) : Prop := ∀ g cs, look cp.globs g = some cs → C.Fz g ∧ RepAt w C.bare g 0 cs
theorem GlobOk.step {cp : CP} {w w' : World} {C C' : Ctx} (h : GlobOk cp w C) (s : Step w C w' C') : GlobOk cp w' C' := fun g cs e =>
  ⟨s.Fz g (h g cs e).1, repAt_step s.bare cs g 0 (h g cs e).1 (h g cs e).2⟩
theorem GlobOk.fz {cp : CP} {w : World} {C C' : Ctx} (h : GlobOk cp w C) (s : ∀ b, C.Fz b → C'.Fz b) : GlobOk cp w C' := fun g cs e =>
  ⟨s g (h g cs e).1, repAt_step (C := C.bare) (C' := C'.bare) ⟨(by intro _ _ q; cases q), s, fun _ _ => rfl⟩ cs g 0 (h g cs e).1 (h g cs e).2⟩

structure BigT (P : Program) (t : TypeId) (k : IntKind) (n : Nat) : Prop where
  ex : ∃ e, und P t = .array n e
  sz : szOf P t = n
  ok : okT P t = true
  agg : isAggT P t = true
  pos : 20 ≤ n
theorem big_of {P : Program} {t : TypeId} {k : IntKind} {n : Nat} (h : bigA P t = some (k, n)) : BigT P t k n := by
  unfold bigA at h
  cases hu : und P t <;> rw [hu] at h <;> first | (simp at h; done) | skip
  rename_i m e
  simp only at h
  split at h
  · rename_i kk q1 q2
    simp only [Option.some.injEq, Prod.mk.injEq] at h
    obtain ⟨rfl, rfl⟩ := h
    simp only [Bool.and_eq_true] at q2
    exact ⟨⟨e, hu⟩, nbeq_eq q2.2.2.1, q2.2.2.2.1, by unfold isAggT; rw [hu], Nat.le_of_ble_eq_true q2.1⟩
  · simp at h

theorem ok1_int {k : IntKind} {x : AV} (h : ok1 (.int k) x = true) : x = .int k x.asInt := by
  cases x <;> simp only [ok1, Bool.false_eq_true] at h
  have := of_decide_eq_true h
  subst this
  rfl
theorem repL_ints {w : World} {C : Ctx} {k : IntKind} : ∀ {l : List AV} {us : List Value}, l.all (ok1 (.int k)) = true → RepL w C l us → us = (l.map AV.asInt).map (Value.int k)
  | [], us, _, r => by cases r; rfl
  | x :: xs, us, h, r => by
    obtain ⟨v, q, rfl, r1, r2⟩ := r
    rw [List.all_cons, Bool.and_eq_true] at h
    rw [ok1_int h.1] at r1
    have r1' : v = .int k x.asInt := r1
    rw [r1', repL_ints h.2 r2]
    rfl
theorem ints_repL (w : World) (C : Ctx) (k : IntKind) : ∀ ns : List Int, RepL w C (arrC k ns) (ns.map (Value.int k))
  | [] => rfl
  | n :: ns => ⟨_, _, rfl, rfl, ints_repL w C k ns⟩
theorem lift_rep {w : World} {C : Ctx} {x : AV} {v : Value} (r : Rep w C x v) : Rep w C (liftV x) v := by
  cases x <;> first | exact r | skip
  rename_i k ns
  have r' : v = .agg (ns.map (Value.int k)).toArray := r
  exact ⟨_, r', ints_repL w C k ns⟩
theorem arrC_all (k : IntKind) (p : AV → Bool) (hp : ∀ n, p (.int k n) = true) (ns : List Int) : (arrC k ns).all p = true := by
  unfold arrC; rw [List.all_map]; exact List.all_eq_true.2 fun n _ => hp n
theorem arrC_len (k : IntKind) (ns : List Int) : (arrC k ns).length = ns.length := by unfold arrC; simp
theorem arrC_closed (P : Program) (h : Nat → Option Blk) (k : IntKind) : ∀ ns : List Int, closedAll P h (arrC k ns) = some (arrC k ns, [])
  | [] => rfl
  | n :: ns => by
    show (match closed1 P h (.int k n), closedAll P h (arrC k ns) with | some (a, i), some (b, j) => some (a :: b, i ++ j) | _, _ => none) = _
    rw [arrC_closed P h k ns]; rfl
theorem setMany_put : ∀ (l cells : List AV) (o : Nat), o + l.length ≤ cells.length → setMany cells o l = cells.take o ++ (l ++ cells.drop (o + l.length))
  | [], cells, o, _ => by
    show cells = _
    simp
  | x :: l, cells, o, h => by
    rw [List.length_cons] at h
    show setMany (cells.set o x) (o + 1) l = _
    rw [setMany_put l (cells.set o x) (o + 1) (by rw [List.length_set]; omega)]
    have h1 : (cells.set o x).take (o + 1) = cells.take o ++ [x] := by
      rw [List.take_set, List.take_add_one, List.set_append_right _ _ (by simp; omega)]
      have : (List.take o cells).length = o := by simp; omega
      rw [this, Nat.sub_self, List.getElem?_eq_getElem (by omega)]
      rfl
    have h2 : (cells.set o x).drop (o + 1 + l.length) = cells.drop (o + (x :: l).length) := by
      rw [List.drop_set_of_lt (by omega)]
      congr 1
      rw [List.length_cons]; omega
    rw [h1, h2]
    simp

theorem loadBig_ok {P : Program} {w : World} {C : Ctx} {H : Nat → Option Blk} (hH : RelH P w C H) {t : TypeId} {k : IntKind} {n : Nat} (hb : bigA P t = some (k, n)) {a : AV} {va : Value} (ra : Rep w C a va) {g : Bool} {v : AV} {nw : List (Nat × Blk)} {dd fz : List Nat}
    (h : loadBig H k n a = .val g v nw dd fz) (hg : g = true) : nw = [] ∧ dd = [] ∧ fz = [] ∧ ∃ u, (Instr.loadAt t va).run P w = .ok u w ∧ Rep w C v u := by
  have bt := big_of hb
  have core : ∀ {D : Ctx} {b o : Nat} {cells : List AV} {off : Nat}, RepAt w D b o cells → kindC k cells off n = true → ∃ u, (Instr.loadAt t (.pointer (some ⟨b, o + off, none⟩))).run P w = .ok u w ∧ Rep w C (.arr k (intsC cells off n)) u := by
    intro D b o cells off e6 hk
    unfold kindC at hk
    rw [Bool.and_eq_true] at hk
    have hl := nbeq_eq hk.1
    obtain ⟨us, u1, u2, u3⟩ := cells_at (repAt_cut e6 off n) (Nat.le_refl _)
    rw [List.take_length] at u3
    have hus := repL_ints hk.2 u3
    have hlen : us.length = szOf P t := by rw [← repL_length u3, hl, bt.sz]
    obtain ⟨v0, q1, q2⟩ := run_loadVar bt.ok b (o + off) us hlen (fun j v q => (u2 j v q).1)
    refine ⟨_, q2, ?_⟩
    rw [bt.agg, if_pos rfl]
    show Value.agg us.toArray = .agg ((intsC cells off n).map (Value.int k)).toArray
    rw [hus]; rfl
  cases a <;> simp only [loadBig, reduceCtorEq] at h
  case ptr id off =>
    obtain ⟨L, e, rfl⟩ := ra
    obtain ⟨kb, hk, ok⟩ := hH.blk id L e
    rw [hk] at h
    simp only at h
    rcases ok with ok | ⟨e0, cells, el, fr, e1, e2, e3, e4, e5, e6, _⟩
    · rw [nble1_no ok] at h; simp at h
    · have hb : Nat.ble kb.st 1 = true := Nat.ble_eq_true_of_le e0
      rw [hb] at h
      cases ha : kb.arr <;> rw [ha] at h <;> simp only [Res.gpure, reduceCtorEq, Res.val.injEq] at h
      obtain ⟨rfl, rfl, rfl, rfl, rfl⟩ := h
      exact ⟨rfl, rfl, rfl, core e6 hg⟩
  case fp cs off =>
    obtain ⟨b, o, rfl, hf, r⟩ := ra
    simp only [Res.gpure, Res.val.injEq] at h
    obtain ⟨rfl, rfl, rfl, rfl, rfl⟩ := h
    exact ⟨rfl, rfl, rfl, core r hg⟩
theorem loadR_ok {P : Program} {w : World} {C : Ctx} {H : Nat → Option Blk} (hH : RelH P w C H) {t : TypeId} {a : AV} {va : Value} (ra : Rep w C a va) {g : Bool} {v : AV} {nw : List (Nat × Blk)} {dd fz : List Nat}
    (h : loadR P H t a = .val g v nw dd fz) (hg : g = true) : nw = [] ∧ dd = [] ∧ fz = [] ∧ ∃ u, (Instr.loadAt t va).run P w = .ok u w ∧ Rep w C v u := by
  unfold loadR at h
  cases hb : bigA P t with
  | none => rw [hb] at h; exact load_ok hH ra h hg
  | some p => obtain ⟨k, n⟩ := p; rw [hb] at h; exact loadBig_ok hH hb ra h hg
theorem storeBig_ok {P : Program} {w : World} {C : Ctx} {H : Nat → Option Blk} (hH : RelH P w C H) {t : TypeId} {k : IntKind} {ns : List Int} {a : AV} {va vx : Value} (ra : Rep w C a va) (rx : Rep w C (.arr k ns) vx) (base : Nat) {g : Bool} {v : AV} {nw : List (Nat × Blk)} {dd fz : List Nat}
    (h : storeBig P H t k ns a = .val g v nw dd fz) (hg : g = true) : Did P w C H base (do Instr.storeAt t va vx; pure .skip) v (after H nw dd fz) := by
  cases a <;> simp only [storeBig, reduceCtorEq] at h
  rename_i id off
  cases hk : H id with
  | none => rw [hk] at h; simp at h
  | some b =>
    rw [hk] at h
    simp only at h
    cases h0 : Nat.beq b.st 0 <;> cases ha : b.arr <;> rw [h0, ha] at h <;> simp only [reduceCtorEq, Res.val.injEq] at h
    obtain ⟨rfl, rfl, rfl, rfl, rfl⟩ := h
    simp only [Bool.and_eq_true] at hg
    obtain ⟨g1, g2, g3⟩ := hg
    have hl : ns.length = szOf P t := nbeq_eq g2
    have hle := Nat.le_of_ble_eq_true g3
    refine store_ok (x := .agg (arrC k ns)) hH ra (lift_rep rx) base (g := true) ?_ rfl
    have hput : setMany b.cells off (arrC k ns) = putC b.cells off k ns := by
      rw [setMany_put _ _ _ (by rw [arrC_len]; omega), arrC_len]; rfl
    simp only [storeA, AV.parts, hk, h0, ha, arrC_all k one (fun _ => rfl), arrC_len, hl, Nat.beq_refl, Bool.and_self, arrC_closed, g1, g3, hput]
    rfl
theorem boxBig_ok {P : Program} {w : World} {C : Ctx} {H : Nat → Option Blk} (hH : RelH P w C H) (base : Nat) (hb : C.φ base = none) {t : TypeId} {k : IntKind} {ns : List Int} {v : Value} (rx : Rep w C (.arr k ns) v)
    (h : (okT P t && (isArr P t && lenL ns (szOf P t))) = true) : Did P w C H base (do pure (.value (← Instr.box t v))) (.ptr base 0) (after H [(base, ⟨true, t, 0, arrC k ns⟩)] [] []) := by
  simp only [Bool.and_eq_true] at h
  obtain ⟨h1, h2, h3⟩ := h
  have hl : ns.length = szOf P t := nbeq_eq h3
  have := box_ok (x := .agg (arrC k ns)) hH base hb (lift_rep rx) (t := t) (by
    simp only [AV.parts, arrC_all k one (fun _ => rfl), arrC_len, hl, Nat.beq_refl, h1, h2, arrC_all k flat1 (fun _ => rfl)]
    rfl)
  rw [h2] at this
  exact this
theorem idxBig_ok {P : Program} {w : World} {C : Ctx} {H : Nat → Option Blk} (hH : RelH P w C H) (base : Nat) {t : TypeId} {k : IntKind} {ns : List Int} {x : AV} {vx va : Value} (ra : Rep w C (.arr k ns) va) (rx : Rep w C x vx) {g : Bool} {v : AV} {nw : List (Nat × Blk)} {dd fz : List Nat}
    (h : idxBig P t k ns x = .val g v nw dd fz) (hg : g = true) : Did P w C H base (do pure (.value (← Instr.index t va vx))) v (after H nw dd fz) := by
  cases x <;> simp only [idxBig, reduceCtorEq] at h
  rename_i ki i
  cases hu : und P t <;> rw [hu] at h <;> first | (simp at h; done) | skip
  rename_i n e
  simp only at h
  cases hag : isAggT P e <;> rw [hag] at h <;> simp only [Res.gpure, reduceCtorEq, Res.val.injEq] at h
  obtain ⟨rfl, rfl, rfl, rfl, rfl⟩ := h
  simp only [Bool.and_eq_true] at hg
  obtain ⟨g1, g2, g3, g4⟩ := hg
  have ra' : va = .agg (ns.map (Value.int k)).toArray := ra
  have rx' : vx = .int ki i := rx
  subst ra'; subst rx'
  obtain ⟨h0, h1⟩ := inR_of g3
  have hl : ns.length = n := nbeq_eq g4
  have hs := nbeq_eq g2
  refine did_val hH (u := .int k (nthI ns (natI i))) ?_ rfl
  unfold Instr.index
  have hlt : i.toNat < ns.length := by omega
  simp only [asIntOf, Sem.run_bind, Sem.run_pure, Result.andThen_ok, run_und hu (by simp), if_pos (And.intro h0 h1), run_sizeOf g1 w, hs, Nat.mul_one, part, run_isAgg g1 w, hag]
  rw [if_neg (by simp)]
  unfold nthI natI
  rw [show (ns.map (Value.int k)).toArray[i.toNat]? = some (.int k ns[i.toNat]) by simp [hlt], List.getD_eq_getElem?_getD, List.getElem?_eq_getElem hlt]
  rfl
theorem glob_rep {cp : CP} {w : World} {C : Ctx} (hG : GlobOk cp w C) {a : Act} (g : Nat) : Rep w C (globV cp g) (a.eval (.global g)) := by
  unfold globV
  cases hl : look cp.globs g with
  | none => trivial
  | some cs => exact ⟨g, 0, rfl, (hG g cs hl).1, (hG g cs hl).2⟩
theorem ρL_rep {cp : CP} {w : World} {C : Ctx} (hG : GlobOk cp w C) {a : Act} {ρ : Operand → AV} (hρ : ∀ x, Rep w C (ρ x) (a.eval x)) : ∀ x, Rep w C (ρL cp ρ x) (a.eval x) := by
  intro x
  cases x with
  | global g => exact glob_rep hG g
  | _ => exact lift_rep (hρ _)
theorem evA_ok {cp : CP} {w : World} {C : Ctx} {H : Nat → Option Blk} (hH : RelH cp.P w C H) (hG : GlobOk cp w C) (base : Nat) (hb : C.φ base = none) {a : Act} {ρ : Operand → AV} (hρ : ∀ x, Rep w C (ρ x) (a.eval x)) (o : Oper)
    {g : Bool} {v : AV} {nw : List (Nat × Blk)} {dd fz : List Nat} (h : evA cp ρ H base o = some (.val g v nw dd fz)) (hg : g = true) : Did cp.P w C H base (execOp a.eval o) v (after H nw dd fz) := by
  obtain ⟨dst, op, ty, pos, aft, gu⟩ := o
  cases op <;> first | (simp [evA] at h; done) | skip
  case box t x =>
    have rx := hρ x
    simp only [evA] at h
    cases hx : ρ x <;> rw [hx] at h rx <;> simp only [reduceCtorEq, Option.some.injEq, Res.val.injEq] at h
    obtain ⟨rfl, rfl, rfl, rfl, rfl⟩ := h
    exact did_eq rfl (boxBig_ok hH base hb rx hg)
  case build t parts =>
    simp only [evA] at h
    cases hbt : bigA cp.P t with
    | none => rw [hbt] at h; simp at h
    | some p =>
      obtain ⟨k, n⟩ := p
      rw [hbt] at h
      simp only [Option.some.injEq] at h
      cases hc : buildA cp.P t (parts.toList.map fun p => (p.1, ρ p.2)) with
      | none => rw [hc] at h; simp [buildBig] at h
      | some cs =>
        rw [hc] at h
        simp only [buildBig] at h
        split at h
        · rename_i hall
          simp only [Res.pure, Res.val.injEq] at h
          obtain ⟨rfl, rfl, rfl, rfl, rfl⟩ := h
          obtain ⟨u, q1, q2⟩ := build_ok hρ hc
          obtain ⟨us, rfl, rl⟩ := q2
          exact did_eq rfl (did_val hH q1 (by show Value.agg us.toArray = _; rw [repL_ints hall rl]))
        · simp at h
  case load t x =>
    simp only [evA] at h
    cases hx : isG x with
    | true =>
      rw [hx] at h
      simp only [Option.some.injEq] at h
      exact op_ok0 hH base hb (ρL_rep hG hρ) _ h hg
    | false =>
      rw [hx] at h
      simp only at h
      cases hbt : bigA cp.P t with
      | none => rw [hbt] at h; simp at h
      | some p =>
        obtain ⟨k, n⟩ := p
        rw [hbt] at h
        simp only [Option.some.injEq] at h
        obtain ⟨rfl, rfl, rfl, u, q1, q2⟩ := loadBig_ok hH hbt (hρ x) h hg
        exact did_eq rfl (did_val hH q1 q2)
  case store t x y =>
    have ry := hρ y
    simp only [evA] at h
    cases hy : ρ y <;> rw [hy] at h ry <;> simp only [reduceCtorEq, Option.some.injEq] at h
    exact did_eq rfl (storeBig_ok hH (hρ x) ry base h hg)
  case indexAddr t x ix =>
    simp only [evA] at h
    cases hx : isG x with
    | false => rw [hx] at h; simp at h
    | true =>
      rw [hx] at h
      simp only [Option.some.injEq] at h
      exact op_ok0 hH base hb (ρL_rep hG hρ) _ h hg
  case index t x ix =>
    have rx := hρ x
    simp only [evA] at h
    cases hx : ρ x <;> rw [hx] at h rx <;> simp only [reduceCtorEq, Option.some.injEq] at h
    exact did_eq rfl (idxBig_ok hH base rx (hρ ix) h hg)
/-- Every operation but a call of the program's own. -/
theorem op_okG1 {cp : CP} {w : World} {C : Ctx} {H : Nat → Option Blk} (hH : RelH cp.P w C H) (hG : GlobOk cp w C) (base : Nat) (hb : C.φ base = none) {a : Act} {ρ : Operand → AV} (hρ : ∀ x, Rep w C (ρ x) (a.eval x)) (o : Oper)
    {g : Bool} {v : AV} {nw : List (Nat × Blk)} {dd fz : List Nat} (h : evR1 cp ρ H base o = .val g v nw dd fz) (hg : g = true) : Did cp.P w C H base (execOp a.eval o) v (after H nw dd fz) := by
  unfold evR1 at h
  cases q : isP cp o with
  | true => rw [q] at h; exact op_okP hH base hρ o q h hg
  | false =>
    rw [q] at h
    simp only at h
    cases hA : evA cp ρ H base o with
    | none => rw [hA] at h; exact op_ok0 hH base hb hρ o h hg
    | some r => rw [hA] at h; simp only at h; subst h; exact evA_ok hH hG base hb hρ o hA hg
end Go.Proofs.YtlcnpecejhcnfaaDoor.EV
