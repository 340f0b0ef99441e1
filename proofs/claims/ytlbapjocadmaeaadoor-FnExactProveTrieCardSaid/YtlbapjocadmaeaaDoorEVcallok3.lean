/- Which operation is a call of the program's own. No conditions. -/
import Derived.Test.YtlbapjocadmaeaaDoorEVdeep2
namespace Go.Proofs.YtlbapjocadmaeaaDoor.EV
set_option linter.unusedVariables false
set_option linter.unusedSimpArgs false
open Go Go.RowKit
set_option linter.unusedSimpArgs false

def Res.isCall : Res → Bool | .call .. => true | _ => false
theorem nc_int (op : BinOp) (k : IntKind) (a b : Int) : (intOp op k a b).isCall = false := by cases op <;> rfl
theorem nc_str (op : BinOp) (a b : ByteArray) : (strOp op a b).isCall = false := by cases op <;> rfl
theorem nc_bin (P : Program) (op : BinOp) (t : TypeId) (x y : AV) : (binA P op t x y).isCall = false := by
  unfold binA
  repeat' split
  all_goals first | rfl | exact nc_int _ _ _ _ | exact nc_str _ _ _
theorem nc_load (P : Program) (h : Nat → Option Blk) (t : TypeId) (a : AV) : (loadA P h t a).isCall = false := by
  unfold loadA
  repeat' split
  all_goals rfl
theorem nc_store (P : Program) (h : Nat → Option Blk) (t : TypeId) (a v : AV) : (storeA P h t a v).isCall = false := by
  unfold storeA
  repeat' split
  all_goals rfl
theorem nc_nil (d : Bool) (x : AV) : (nilCmp d x).isCall = false := by cases x <;> rfl
theorem nc_binN (P : Program) (op : BinOp) (t : TypeId) (y : Operand) (vx vy : AV) : (binN P op t y vx vy).isCall = false := by
  unfold binN
  repeat' split
  all_goals first | exact nc_nil _ _ | exact nc_bin _ _ _ _ _
theorem nc_conv (P : Program) (h : Nat → Option Blk) (base : Nat) (s d : TypeId) (a : AV) : (convA P h base s d a).isCall = false := by
  unfold convA
  repeat' split
  all_goals rfl
theorem nc_append (P : Program) (h : Nat → Option Blk) (base : Nat) (e : TypeId) (s : AV) (n : Nat) (cs : List AV) (b : Bool) : (appendA P h base e s n cs b).isCall = false := by
  unfold appendA
  repeat' split
  all_goals rfl
theorem nc_builtin (P : Program) (h : Nat → Option Blk) (base : Nat) (b : Builtin) (ts : List TypeId) (xs : List AV) : (builtinA P h base b ts xs).isCall = false := by
  unfold builtinA
  repeat' split
  all_goals first | rfl | exact nc_append _ _ _ _ _ _ _ _

theorem evR0_call {cp : CP} {ρ : Operand → AV} {h : Nat → Option Blk} {base : Nat} {o : Oper} {f : FuncId} {args : List AV} {froz refs : List Nat} (e : evR0 cp ρ h base o = .call f args froz refs) :
    ∃ x as ats, o.op = .call ⟨.value x, as, ats⟩ ∧ ρ x = .fn f ∧ argsOf cp f h (as.toList.map ρ) = some (args, froz, refs) := by
  have hc : (evR0 cp ρ h base o).isCall = true := by rw [e]; rfl
  obtain ⟨dst, op, ty, pos, aft, gu⟩ := o
  cases op <;> first | (simp [evR0, Res.isCall] at hc; done) | skip
  case call c =>
    obtain ⟨callee, as, ats⟩ := c
    cases callee with
    | value x =>
      simp only [evR0] at e
      split at e
      · rename_i g hg
        split at e
        · rename_i a' f' r' hcl
          simp only [Res.call.injEq] at e
          obtain ⟨rfl, rfl, rfl, rfl⟩ := e
          exact ⟨x, as, ats, rfl, hg, hcl⟩
        · simp at e
      · simp at e
    | invoke _ _ => simp [evR0] at e
    | builtin b =>
      simp only [evR0] at hc
      rw [nc_builtin] at hc; cases hc
  all_goals
    exfalso
    simp only [evR0] at hc
    first
      | (rw [nc_binN] at hc; cases hc)
      | (rw [nc_bin] at hc; cases hc)
      | (rw [nc_load] at hc; cases hc)
      | (rw [nc_store] at hc; cases hc)
      | (rw [nc_conv] at hc; cases hc)
      | ((repeat' split at hc) <;> cases hc)
theorem nc_loadBig (h : Nat → Option Blk) (k : IntKind) (n : Nat) (a : AV) : (loadBig h k n a).isCall = false := by
  unfold loadBig
  repeat' split
  all_goals rfl
theorem nc_storeBig (P : Program) (h : Nat → Option Blk) (t : TypeId) (k : IntKind) (ns : List Int) (a : AV) : (storeBig P h t k ns a).isCall = false := by
  unfold storeBig
  repeat' split
  all_goals rfl
theorem nc_buildBig (k : IntKind) (c : Option (List AV)) : (buildBig k c).isCall = false := by
  unfold buildBig
  repeat' split
  all_goals rfl
theorem nc_idxBig (P : Program) (t : TypeId) (k : IntKind) (ns : List Int) (a : AV) : (idxBig P t k ns a).isCall = false := by
  unfold idxBig
  repeat' split
  all_goals rfl
theorem evA_nc {cp : CP} {ρ : Operand → AV} {h : Nat → Option Blk} {base : Nat} {o : Oper} {r : Res} (e : evA cp ρ h base o = some r) : r.isCall = false := by
  have no : ∀ ρ', (∃ t a, o.op = .load t a) ∨ (∃ t a ix, o.op = .indexAddr t a ix) → (evR0 cp ρ' h base o).isCall = false := by
    intro ρ' ho
    cases hr : evR0 cp ρ' h base o with
    | no => rfl
    | val => rfl
    | call f args fz rs =>
      obtain ⟨x, as, ats, h1, _⟩ := evR0_call hr
      rcases ho with ⟨t, a, q⟩ | ⟨t, a, ix, q⟩ <;> rw [q] at h1 <;> cases h1
  obtain ⟨dst, op, ty, pos, aft, gu⟩ := o
  cases op <;> first | (simp [evA] at e; done) | skip
  case box t x =>
    simp only [evA] at e
    cases hx : ρ x <;> rw [hx] at e <;> simp only [reduceCtorEq, Option.some.injEq] at e
    subst e; rfl
  case build t parts =>
    simp only [evA] at e
    cases hb : bigA cp.P t <;> rw [hb] at e <;> simp only [reduceCtorEq, Option.some.injEq] at e
    subst e; exact nc_buildBig _ _
  case load t a =>
    simp only [evA] at e
    cases q : isG a <;> rw [q] at e <;> simp only [Option.some.injEq] at e
    · cases hb : bigA cp.P t <;> rw [hb] at e <;> simp only [reduceCtorEq, Option.some.injEq] at e
      subst e; exact nc_loadBig _ _ _ _
    · subst e; exact no _ (.inl ⟨_, _, rfl⟩)
  case store t a x =>
    simp only [evA] at e
    cases hx : ρ x <;> rw [hx] at e <;> simp only [reduceCtorEq, Option.some.injEq] at e
    subst e; exact nc_storeBig _ _ _ _ _ _
  case index t x ix =>
    simp only [evA] at e
    cases hx : ρ x <;> rw [hx] at e <;> simp only [reduceCtorEq, Option.some.injEq] at e
    subst e; exact nc_idxBig _ _ _ _ _
  case indexAddr t a ix =>
    simp only [evA] at e
    cases q : isG a <;> rw [q] at e <;> simp only [reduceCtorEq, Option.some.injEq] at e
    subst e; exact no _ (.inr ⟨_, _, _, rfl⟩)
theorem evR_call {cp : CP} {ρ : Operand → AV} {h : Nat → Option Blk} {base : Nat} {o : Oper} {f : FuncId} {args : List AV} {froz refs : List Nat} (e : evR cp ρ h base o = .call f args froz refs) :
    ∃ x as ats, o.op = .call ⟨.value x, as, ats⟩ ∧ ρ x = .fn f ∧ argsOf cp f h (as.toList.map ρ) = some (args, froz, refs) := by
  unfold evR at e
  cases q : isP cp o with
  | false =>
    rw [q] at e
    cases hA : evA cp ρ h base o with
    | none => rw [hA] at e; exact evR0_call e
    | some r =>
      rw [hA] at e
      have := evA_nc hA
      simp only at e
      rw [e] at this; cases this
  | true =>
    exfalso
    rw [q] at e
    simp only at e
    have hc : (evP cp ρ h o).isCall = true := by rw [e]; rfl
    obtain ⟨dst, op, ty, pos, aft, gu⟩ := o
    cases op <;> first | (simp [evP, Res.isCall] at hc; done) | skip
    case convert s d x =>
      simp only [evP, ptrConv] at hc
      (repeat' split at hc) <;> cases hc
    case binOp op t x y z =>
      simp only [evP, ptrBin] at hc
      repeat' split at hc
      all_goals first | (cases hc; done) | (generalize ρ x = u at hc; cases u <;> cases hc)
    case call c =>
      obtain ⟨callee, as, ats⟩ := c
      cases callee with
      | invoke _ _ => simp [evP, Res.isCall] at hc
      | builtin b =>
        cases b <;> first | (simp [evP, Res.isCall] at hc; done) | skip
        all_goals
          simp only [evP, sliceData, unsafeStr] at hc
          (repeat' split at hc) <;> cases hc
      | value f =>
        simp only [evP] at hc
        (repeat' split at hc) <;> cases hc
theorem argsOf_cases {cp : CP} {f : FuncId} {h : Nat → Option Blk} {xs args : List AV} {froz refs : List Nat} (e : argsOf cp f h xs = some (args, froz, refs)) :
    (isDeep cp f = true ∧ deepArgs h xs = some (args, refs)) ∨ (isDeep cp f = false ∧ closedArgs cp.P h xs = some (args, froz, refs) ∧ distinct refs = true ∧ ∀ r, r ∈ refs → r ∉ froz) := by
  unfold argsOf at e
  unfold isDeep
  cases hl : look cp.deep f with
  | some l =>
    rw [hl] at e
    simp only at e
    cases hd : deepArgs h xs with
    | none => rw [hd] at e; simp at e
    | some p =>
      obtain ⟨as, ids⟩ := p
      rw [hd] at e
      simp only at e
      cases hf : findT l as 0 with
      | none => rw [hf] at e; simp at e
      | some i =>
        rw [hf] at e
        simp only [Option.some.injEq, Prod.mk.injEq] at e
        obtain ⟨rfl, _, rfl⟩ := e
        exact .inl ⟨rfl, rfl⟩
  | none =>
    rw [hl] at e
    simp only at e
    cases hc : closedArgs cp.P h xs with
    | none => rw [hc] at e; simp at e
    | some p =>
      obtain ⟨as, fz, rs⟩ := p
      rw [hc] at e
      simp only at e
      cases hd : (distinct rs && rs.all (fun x => !fz.contains x)) with
      | false => rw [hd] at e; simp at e
      | true =>
        rw [hd] at e
        simp only [Option.some.injEq, Prod.mk.injEq] at e
        obtain ⟨rfl, rfl, rfl⟩ := e
        rw [Bool.and_eq_true, List.all_eq_true] at hd
        exact .inr ⟨rfl, rfl, hd.1, fun r hr => by have := hd.2 r hr; simpa using this⟩

theorem args_repL {w : World} {C : Ctx} {ρ : Operand → AV} {ev : Operand → Value} (hρ : ∀ x, Rep w C (ρ x) (ev x)) (args : Array Operand) : RepL w C (args.toList.map ρ) (args.toList.map ev) :=
  repL_of (by simp) fun j x v hx hv => by
    rw [List.getElem?_map] at hx hv
    cases hz : args.toList[j]? with
    | none => rw [hz] at hx; simp at hx
    | some z =>
      rw [hz] at hx hv
      simp only [Option.map_some, Option.some.injEq] at hx hv
      subst hx; subst hv
      exact hρ z
theorem call_ok {cp : CP} {orc : Orc} (hcp : CpOk cp) (hor : OrcOk cp orc) : CallOk cp orc := by
  intro w0 C0 H0 w C a σ B B' base o f args froz refs r hG hr hnb hfr hB hB2 hd hev hof hfit next Q hn
  have hρ := operand_rep hr.env
  obtain ⟨x, as, ats, ho, hx, hca⟩ := evR_call hev
  have hfv : a.eval x = .func (.func f) #[] #[] := by
    have := hρ x
    rw [hx] at this
    exact this
  have hargs := args_repL hρ as
  have harr : (as.toList.map a.eval).toArray = as.map a.eval := by apply Array.ext'; simp
  have hstr : 0 < stride := by decide
  rcases argsOf_cases hca with ⟨hdp, hca⟩ | ⟨hdp, hca, hdis, hsep⟩
  · unfold callFits at hfit
    rw [hdp] at hfit
    simp only at hfit
    cases hfn : look cp.fns f with
    | none => rw [hfn] at hfit; simp at hfit
    | some fn =>
      rw [hfn] at hfit
      simp only at hfit
      obtain ⟨p1, p2, p3, _, _⟩ := pre_deep hr.mem hca hargs
      have hcalls := hor f fn args r hfn hof w (renφ C refs) _ ((hG.step hr.kept.step).fz fun _ hb => hb) p1 p2 (fun id hid => by
        show (match refs[id]? with | some id => C.φ id | none => none) = none
        rw [p3] at hid
        rw [List.getElem?_eq_none hid])
      rw [harr] at hcalls
      obtain ⟨dst, op, ty, pos, aft, gu⟩ := o
      simp only at ho
      subst ho
      unfold Oper.wp
      rw [run_call hcp hfn a.eval dst x hfv as ats ty pos aft gu w, Oper.upon_enter]
      refine hcalls.mono fun e w' ran => ?_
      obtain ⟨u, D2, rfl, q1, q2, q3, q5⟩ := post_deep hdp hr.mem hca hargs hfr ran hfit
      have hp : putCall cp σ base ⟨dst, .call ⟨.value x, as, ats⟩, ty, pos, aft, gu⟩ f froz refs r = putDeep cp σ base ⟨dst, .call ⟨.value x, as, ats⟩, ty, pos, aft, gu⟩ f froz refs r := by unfold putCall; rw [hdp]
      refine hn u w' D2 ⟨?_, ?_, fun id hid => by rw [q5 id (.inr (by omega))]; exact hr.fresh id (by omega), ?_, ?_, ?_, ⟨?_, fun id b hb => ?_⟩, ?_⟩ q5
      · rw [hp]; exact q1
      · have := put_env q2.step hr.env hr.size (o := ⟨dst, .call ⟨.value x, as, ats⟩, ty, pos, aft, gu⟩) hd q3
        rw [hp]; exact this
      · rw [(put_size _ _ _).1, hp]; exact hr.size
      · rw [(put_size _ _ _).2]; exact hr.defers
      · rw [hp]; exact hr.kept.trans q2
      · rw [hp]; exact hr.nr.1
      · rw [hp]
        obtain ⟨z1, z2⟩ := hr.nr.2 id b hb
        exact ⟨z1, fun z3 => by rw [q5 id (.inl (by omega))]; exact z2 z3⟩
      · rw [hp]; have := hr.nb; exact Nat.le_trans this hB
  · unfold callFits at hfit
    rw [hdp] at hfit
    simp only at hfit
    cases hfn : look cp.fns f with
    | none => rw [hfn] at hfit; simp at hfit
    | some fn =>
      rw [hfn] at hfit
      simp only at hfit
      rw [Bool.and_eq_true] at hfit
      have hfit' := Nat.le_of_ble_eq_true hfit.1
      have hpl : needPl cp f fn froz refs = true → plainRes r = true := fun q => by have := hfit.2; rw [q] at this; exact this
      obtain ⟨p1, p2, p3, p4⟩ := pre_rel hr.mem hca hdis hsep hargs
      have hcalls := hor f fn args r hfn hof w ⟨refφ C refs, (C.ice froz).Fz⟩ _ ((hG.step hr.kept.step).fz fun _ hb => .inl hb) p1 p2 (fun id hid => by
        show refφ C refs id = none
        unfold refφ
        rw [p3] at hid
        rw [List.getElem?_eq_none hid])
      rw [harr] at hcalls
      obtain ⟨dst, op, ty, pos, aft, gu⟩ := o
      simp only at ho
      subst ho
      unfold Oper.wp
      rw [run_call hcp hfn a.eval dst x hfv as ats ty pos aft gu w, Oper.upon_enter]
      refine hcalls.mono fun e w' ran => ?_
      obtain ⟨u, D2, rfl, q1, q2, q3, q4, q5⟩ := post_rel hdp hr.mem hca hdis hsep hargs hfr ran hfit' hpl
      have hp : (putCall cp σ base ⟨dst, .call ⟨.value x, as, ats⟩, ty, pos, aft, gu⟩ f froz refs r).heap = upds (afterC cp f fn σ.heap froz refs r) (takeVals (cp.fresh.contains f) cp.P base fn.resultTypes.toList r).2.1 := by unfold putCall afterC; rw [hdp, hfn]
      refine hn u w' D2 ⟨?_, ?_, fun id hid => by rw [q5 id (.inr (by omega))]; exact hr.fresh id (by omega), ?_, ?_, ?_, ?_, ?_⟩ q5
      · rw [hp]; exact q1
      · have := put_env q2.step hr.env hr.size (o := ⟨dst, .call ⟨.value x, as, ats⟩, ty, pos, aft, gu⟩) hd q3
        unfold putCall; rw [hdp, hfn]; exact this
      · rw [(put_size _ _ _).1]; unfold putCall; rw [hdp, hfn]; exact hr.size
      · rw [(put_size _ _ _).2]; exact hr.defers
      · rw [hp]; exact hr.kept.trans q2
      · unfold putCall; rw [hdp, hfn]
        refine ⟨hr.nr.1, fun id b hb => ?_⟩
        obtain ⟨z1, z2⟩ := hr.nr.2 id b hb
        exact ⟨z1, fun z3 => by rw [q5 id (.inl (by omega))]; exact z2 z3⟩
      · unfold putCall; rw [hdp, hfn]; exact Nat.le_trans hr.nb hB
end Go.Proofs.YtlbapjocadmaeaaDoor.EV
