/- Which operation is a call of the program's own. No conditions. -/
import Derived.Test.YtegchimmolpmeaaEVcallok2
namespace Go.Proofs.Ytegchimmolpmeaa.EV
set_option linter.unusedVariables false
set_option linter.unusedSimpArgs false
open Go Go.RowKit
set_option linter.unusedSimpArgs false

def Res.isCall : Res → Bool | .call .. => true | _ => false
theorem nc_int (op : BinOp) (k : IntKind) (a b : Int) : (intOp op k a b).isCall = false := by cases op <;> rfl
theorem nc_str (op : BinOp) (a b : ByteArray) : (strOp op a b).isCall = false := by cases op <;> rfl
theorem nc_bin (P : Program) (op : BinOp) (t : TypeId) (x y : AV) : (binA P op t x y).isCall = false := by
  unfold binA
  repeat' split
  all_goals first | rfl | exact nc_int _ _ _ _ | exact nc_str _ _ _
theorem nc_load (P : Program) (h : Nat → Option Blk) (t : TypeId) (a : AV) : (loadA P h t a).isCall = false := by
  unfold loadA
  repeat' split
  all_goals rfl
theorem nc_store (P : Program) (h : Nat → Option Blk) (t : TypeId) (a v : AV) : (storeA P h t a v).isCall = false := by
  unfold storeA
  repeat' split
  all_goals rfl
theorem nc_conv (P : Program) (h : Nat → Option Blk) (base : Nat) (s d : TypeId) (a : AV) : (convA P h base s d a).isCall = false := by
  unfold convA
  repeat' split
  all_goals rfl
theorem nc_append (P : Program) (h : Nat → Option Blk) (base : Nat) (e : TypeId) (s : AV) (n : Nat) (cs : List AV) (b : Bool) : (appendA P h base e s n cs b).isCall = false := by
  unfold appendA
  repeat' split
  all_goals rfl
theorem nc_builtin (P : Program) (h : Nat → Option Blk) (base : Nat) (b : Builtin) (ts : List TypeId) (xs : List AV) : (builtinA P h base b ts xs).isCall = false := by
  unfold builtinA
  repeat' split
  all_goals first | rfl | exact nc_append _ _ _ _ _ _ _ _

theorem evR_call {cp : CP} {ρ : Operand → AV} {h : Nat → Option Blk} {base : Nat} {o : Oper} {f : FuncId} {args : List AV} {froz refs : List Nat} (e : evR cp ρ h base o = .call f args froz refs) :
    ∃ x as ats, o.op = .call ⟨.value x, as, ats⟩ ∧ ρ x = .fn f ∧ closedArgs cp.P h (as.toList.map ρ) = some (args, froz, refs) ∧ distinct refs = true ∧ ∀ r, r ∈ refs → r ∉ froz := by
  have hc : (evR cp ρ h base o).isCall = true := by rw [e]; rfl
  obtain ⟨dst, op, ty, pos, aft, gu⟩ := o
  cases op <;> first | (simp [evR, Res.isCall] at hc; done) | skip
  case call c =>
    obtain ⟨callee, as, ats⟩ := c
    cases callee with
    | value x =>
      simp only [evR] at e
      split at e
      · rename_i g hg
        split at e
        · rename_i a' f' r' hcl
          split at e
          · rename_i hd
            simp only [Res.call.injEq] at e
            obtain ⟨rfl, rfl, rfl, rfl⟩ := e
            rw [Bool.and_eq_true, List.all_eq_true] at hd
            exact ⟨x, as, ats, rfl, hg, hcl, hd.1, fun r hr => by have := hd.2 r hr; simpa using this⟩
          · simp at e
        · simp at e
      · simp at e
    | invoke _ _ => simp [evR] at e
    | builtin b =>
      simp only [evR] at hc
      rw [nc_builtin] at hc; cases hc
  all_goals
    exfalso
    simp only [evR] at hc
    first
      | (rw [nc_bin] at hc; cases hc)
      | (rw [nc_load] at hc; cases hc)
      | (rw [nc_store] at hc; cases hc)
      | (rw [nc_conv] at hc; cases hc)
      | ((repeat' split at hc) <;> cases hc)

theorem args_repL {w : World} {C : Ctx} {ρ : Operand → AV} {ev : Operand → Value} (hρ : ∀ x, Rep w C (ρ x) (ev x)) (args : Array Operand) : RepL w C (args.toList.map ρ) (args.toList.map ev) :=
  repL_of (by simp) fun j x v hx hv => by
    rw [List.getElem?_map] at hx hv
    cases hz : args.toList[j]? with
    | none => rw [hz] at hx; simp at hx
    | some z =>
      rw [hz] at hx hv
      simp only [Option.map_some, Option.some.injEq] at hx hv
      subst hx; subst hv
      exact hρ z
theorem call_ok {cp : CP} {orc : Orc} (hcp : CpOk cp) (hor : OrcOk cp orc) : CallOk cp orc := by
  intro w0 C0 H0 w C a σ B B' base o f args froz refs r hr hfr hB hB2 hd hev hof hfit next Q hn
  have hρ := operand_rep hr.env
  obtain ⟨x, as, ats, ho, hx, hca, hdis, hsep⟩ := evR_call hev
  unfold callFits at hfit
  cases hfn : look cp.fns f with
  | none => rw [hfn] at hfit; simp at hfit
  | some fn =>
    rw [hfn] at hfit
    rw [Bool.and_eq_true] at hfit
    have hfit' := Nat.le_of_ble_eq_true hfit.1
    have hpl : needPl cp f fn froz refs = true → plainRes r = true := fun q => by have := hfit.2; rw [q] at this; exact this
    have hfv : a.eval x = .func (.func f) #[] #[] := by
      have := hρ x
      rw [hx] at this
      exact this
    have hargs := args_repL hρ as
    obtain ⟨p1, p2, p3, p4⟩ := pre_rel hr.mem hca hdis hsep hargs
    have hcalls := hor f fn args r hfn hof w ⟨refφ C refs, (C.ice froz).Fz⟩ _ p1 p2 (fun id hid => by
      show refφ C refs id = none
      unfold refφ
      rw [p3] at hid
      rw [List.getElem?_eq_none hid])
    have harr : (as.toList.map a.eval).toArray = as.map a.eval := by apply Array.ext'; simp
    rw [harr] at hcalls
    obtain ⟨dst, op, ty, pos, aft, gu⟩ := o
    simp only at ho
    subst ho
    unfold Oper.wp
    rw [run_call hcp hfn a.eval dst x hfv as ats ty pos aft gu w, Oper.upon_enter]
    refine hcalls.mono fun e w' ran => ?_
    obtain ⟨u, D2, rfl, q1, q2, q3, q4, q5⟩ := post_rel hr.mem hca hdis hsep hargs hfr ran hfit' hpl
    have hp : (putCall cp σ base ⟨dst, .call ⟨.value x, as, ats⟩, ty, pos, aft, gu⟩ f froz refs r).heap = upds (afterC cp f fn σ.heap froz refs r) (takeVals (cp.fresh.contains f) cp.P base fn.resultTypes.toList r).2.1 := by unfold putCall afterC; rw [hfn]
    refine hn u w' D2 ⟨?_, ?_, fun id hid => by rw [q5 id (.inr (by omega))]; exact hr.fresh id (by omega), ?_, ?_, ?_, ?_⟩ q5
    · rw [hp]; exact q1
    · have := put_env q2.step hr.env hr.size (o := ⟨dst, .call ⟨.value x, as, ats⟩, ty, pos, aft, gu⟩) hd q3
      unfold putCall; rw [hfn]; exact this
    · rw [(put_size _ _ _).1]; unfold putCall; rw [hfn]; exact hr.size
    · rw [(put_size _ _ _).2]; exact hr.defers
    · rw [hp]; exact hr.kept.trans q2
    · unfold putCall; rw [hfn]; exact hr.nr
end Go.Proofs.Ytegchimmolpmeaa.EV
