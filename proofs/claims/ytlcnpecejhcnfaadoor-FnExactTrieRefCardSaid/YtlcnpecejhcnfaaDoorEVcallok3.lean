/- Which operation is a call of the program's own. No conditions. -/
import Derived.Test.YtlcnpecejhcnfaaDoorEVdeep2
import Derived.Test.YtlcnpecejhcnfaaDoorEVcallt3
namespace Go.Proofs.YtlcnpecejhcnfaaDoor.EV
set_option linter.unusedVariables false
set_option linter.unusedSimpArgs false
open Go Go.RowKit
set_option linter.unusedSimpArgs false

def Res.isCall : Res → Bool | .call .. => true | _ => false
theorem nc_int (op : BinOp) (k : IntKind) (a b : Int) : (intOp op k a b).isCall = false := by cases op <;> rfl
theorem nc_str (op : BinOp) (a b : ByteArray) : (strOp op a b).isCall = false := by cases op <;> rfl
theorem nc_bin (P : Program) (op : BinOp) (t : TypeId) (x y : AV) : (binA P op t x y).isCall = false := by
  unfold binA
  repeat' split
  all_goals first | rfl | exact nc_int _ _ _ _ | exact nc_str _ _ _
theorem nc_load (P : Program) (h : Nat → Option Blk) (t : TypeId) (a : AV) : (loadA P h t a).isCall = false := by
  unfold loadA
  repeat' split
  all_goals rfl
theorem nc_store (P : Program) (h : Nat → Option Blk) (t : TypeId) (a v : AV) : (storeA P h t a v).isCall = false := by
  unfold storeA
  repeat' split
  all_goals rfl
theorem nc_nil (d : Bool) (x : AV) : (nilCmp d x).isCall = false := by cases x <;> rfl
theorem nc_binN (P : Program) (op : BinOp) (t : TypeId) (y : Operand) (vx vy : AV) : (binN P op t y vx vy).isCall = false := by
  unfold binN
  repeat' split
  all_goals first | exact nc_nil _ _ | exact nc_bin _ _ _ _ _
theorem nc_conv (P : Program) (h : Nat → Option Blk) (base : Nat) (s d : TypeId) (a : AV) : (convA P h base s d a).isCall = false := by
  unfold convA
  repeat' split
  all_goals rfl
theorem nc_append (P : Program) (h : Nat → Option Blk) (base : Nat) (e : TypeId) (s : AV) (n : Nat) (cs : List AV) (b : Bool) : (appendA P h base e s n cs b).isCall = false := by
  unfold appendA
  repeat' split
  all_goals rfl
theorem nc_builtin (P : Program) (h : Nat → Option Blk) (base : Nat) (b : Builtin) (ts : List TypeId) (xs : List AV) : (builtinA P h base b ts xs).isCall = false := by
  unfold builtinA
  repeat' split
  all_goals first | rfl | exact nc_append _ _ _ _ _ _ _ _

theorem evR0_call {cp : CP} {ρ : Operand → AV} {h : Nat → Option Blk} {base : Nat} {o : Oper} {f : FuncId} {args : List AV} {froz refs : List Nat} (e : evR0 cp ρ h base o = .call f args froz refs) :
    ∃ x as ats, o.op = .call ⟨.value x, as, ats⟩ ∧ ρ x = .fn f ∧ argsOf cp f h (as.toList.map ρ) = some (args, froz, refs) := by
  have hc : (evR0 cp ρ h base o).isCall = true := by rw [e]; rfl
  obtain ⟨dst, op, ty, pos, aft, gu⟩ := o
  cases op <;> first | (simp [evR0, Res.isCall] at hc; done) | skip
  case call c =>
    obtain ⟨callee, as, ats⟩ := c
    cases callee with
    | value x =>
      simp only [evR0] at e
      split at e
      · rename_i g hg
        split at e
        · rename_i a' f' r' hcl
          simp only [Res.call.injEq] at e
          obtain ⟨rfl, rfl, rfl, rfl⟩ := e
          exact ⟨x, as, ats, rfl, hg, hcl⟩
        · simp at e
      · simp at e
    | invoke _ _ => simp [evR0] at e
    | builtin b =>
      simp only [evR0] at hc
      rw [nc_builtin] at hc; cases hc
  all_goals
    exfalso
    simp only [evR0] at hc
    first
      | (rw [nc_binN] at hc; cases hc)
      | (rw [nc_bin] at hc; cases hc)
      | (rw [nc_load] at hc; cases hc)
      | (rw [nc_store] at hc; cases hc)
      | (rw [nc_conv] at hc; cases hc)
      | ((repeat' split at hc) <;> cases hc)
theorem nc_loadBig (h : Nat → Option Blk) (k : IntKind) (n : Nat) (a : AV) : (loadBig h k n a).isCall = false := by
  unfold loadBig
  repeat' split
  all_goals rfl
theorem nc_storeBig (P : Program) (h : Nat → Option Blk) (t : TypeId) (k : IntKind) (ns : List Int) (a : AV) : (storeBig P h t k ns a).isCall = false := by
  unfold storeBig
  repeat' split
  all_goals rfl
theorem nc_buildBig (k : IntKind) (c : Option (List AV)) : (buildBig k c).isCall = false := by
  unfold buildBig
  repeat' split
  all_goals rfl
theorem nc_idxBig (P : Program) (t : TypeId) (k : IntKind) (ns : List Int) (a : AV) : (idxBig P t k ns a).isCall = false := by
  unfold idxBig
  repeat' split
  all_goals rfl
theorem evA_nc {cp : CP} {ρ : Operand → AV} {h : Nat → Option Blk} {base : Nat} {o : Oper} {r : Res} (e : evA cp ρ h base o = some r) : r.isCall = false := by
  have no : ∀ ρ', (∃ t a, o.op = .load t a) ∨ (∃ t a ix, o.op = .indexAddr t a ix) → (evR0 cp ρ' h base o).isCall = false := by
    intro ρ' ho
    cases hr : evR0 cp ρ' h base o with
    | no => rfl
    | val => rfl
    | call f args fz rs =>
      obtain ⟨x, as, ats, h1, _⟩ := evR0_call hr
      rcases ho with ⟨t, a, q⟩ | ⟨t, a, ix, q⟩ <;> rw [q] at h1 <;> cases h1
  obtain ⟨dst, op, ty, pos, aft, gu⟩ := o
  cases op <;> first | (simp [evA] at e; done) | skip
  case box t x =>
    simp only [evA] at e
    cases hx : ρ x <;> rw [hx] at e <;> simp only [reduceCtorEq, Option.some.injEq] at e
    subst e; rfl
  case build t parts =>
    simp only [evA] at e
    cases hb : bigA cp.P t <;> rw [hb] at e <;> simp only [reduceCtorEq, Option.some.injEq] at e
    subst e; exact nc_buildBig _ _
  case load t a =>
    simp only [evA] at e
    cases q : isG a <;> rw [q] at e <;> simp only [Option.some.injEq] at e
    · cases hb : bigA cp.P t <;> rw [hb] at e <;> simp only [reduceCtorEq, Option.some.injEq] at e
      subst e; exact nc_loadBig _ _ _ _
    · subst e; exact no _ (.inl ⟨_, _, rfl⟩)
  case store t a x =>
    simp only [evA] at e
    cases hx : ρ x <;> rw [hx] at e <;> simp only [reduceCtorEq, Option.some.injEq] at e
    subst e; exact nc_storeBig _ _ _ _ _ _
  case index t x ix =>
    simp only [evA] at e
    cases hx : ρ x <;> rw [hx] at e <;> simp only [reduceCtorEq, Option.some.injEq] at e
    subst e; exact nc_idxBig _ _ _ _ _
  case indexAddr t a ix =>
    simp only [evA] at e
    cases q : isG a <;> rw [q] at e <;> simp only [reduceCtorEq, Option.some.injEq] at e
    subst e; exact no _ (.inr ⟨_, _, _, rfl⟩)
theorem evR1_call {cp : CP} {ρ : Operand → AV} {h : Nat → Option Blk} {base : Nat} {o : Oper} {f : FuncId} {args : List AV} {froz refs : List Nat} (e : evR1 cp ρ h base o = .call f args froz refs) :
    ∃ x as ats, o.op = .call ⟨.value x, as, ats⟩ ∧ ρ x = .fn f ∧ argsOf cp f h (as.toList.map ρ) = some (args, froz, refs) := by
  unfold evR1 at e
  cases q : isP cp o with
  | false =>
    rw [q] at e
    cases hA : evA cp ρ h base o with
    | none => rw [hA] at e; exact evR0_call e
    | some r =>
      rw [hA] at e
      have := evA_nc hA
      simp only at e
      rw [e] at this; cases this
  | true =>
    exfalso
    rw [q] at e
    simp only at e
    have hc : (evP cp ρ h o).isCall = true := by rw [e]; rfl
    obtain ⟨dst, op, ty, pos, aft, gu⟩ := o
    cases op <;> first | (simp [evP, Res.isCall] at hc; done) | skip
    case convert s d x =>
      simp only [evP, ptrConv] at hc
      (repeat' split at hc) <;> cases hc
    case binOp op t x y z =>
      simp only [evP, ptrBin] at hc
      repeat' split at hc
      all_goals first | (cases hc; done) | (generalize ρ x = u at hc; cases u <;> cases hc)
    case call c =>
      obtain ⟨callee, as, ats⟩ := c
      cases callee with
      | invoke _ _ => simp [evP, Res.isCall] at hc
      | builtin b =>
        cases b <;> first | (simp [evP, Res.isCall] at hc; done) | skip
        all_goals
          simp only [evP, sliceData, unsafeStr] at hc
          (repeat' split at hc) <;> cases hc
      | value f =>
        simp only [evP] at hc
        (repeat' split at hc) <;> cases hc
theorem nc_tload (P : Program) (h : Nat → Option Blk) (base : Nat) (t : TypeId) (id off : Nat) (b : Blk) : (treeLoad P h base t id off b).isCall = false := by
  unfold treeLoad
  repeat' split
  all_goals rfl
theorem nc_tstore (P : Program) (h : Nat → Option Blk) (t : TypeId) (id off : Nat) (b : Blk) (v : AV) : (treeStore P h t id off b v).isCall = false := by
  unfold treeStore
  repeat' split
  all_goals rfl
theorem nc_tbuild (P : Program) (h : Nat → Option Blk) (base : Nat) (e : TypeId) (len : Nat) (ps : List (Nat × AV)) : (treeBuild P h base e len ps).isCall = false := by
  unfold treeBuild
  repeat' split
  all_goals rfl
theorem nc_tapp (P : Program) (h : Nat → Option Blk) (base : Nat) (e : TypeId) (a b : AV) : (treeApp P h base e a b).isCall = false := by
  unfold treeApp
  repeat' split
  all_goals rfl
theorem evT_nc {cp : CP} {ρ : Operand → AV} {h : Nat → Option Blk} {base : Nat} {o : Oper} {r : Res} (e : evT cp ρ h base o = some r) : r.isCall = false := by
  obtain ⟨dst, op, ty, pos, aft, gu⟩ := o
  cases op <;> first | (simp [evT] at e; done) | skip
  case call c =>
    obtain ⟨callee, as, ats⟩ := c
    cases callee <;> first | (simp [evT] at e; done) | skip
    rename_i b
    cases b <;> first | (simp [evT] at e; done) | skip
    simp only [evT] at e
    repeat' split at e
    all_goals first | (cases e; done) | (cases e; exact nc_tapp _ _ _ _ _ _)
  all_goals
    simp only [evT] at e
    repeat' split at e
    all_goals first
      | (cases e; done)
      | (cases e; exact nc_tload _ _ _ _ _ _ _)
      | (cases e; exact nc_tstore _ _ _ _ _ _ _)
      | (cases e; exact nc_tbuild _ _ _ _ _ _)
      | (cases e; rfl)
theorem evR_call {cp : CP} {ρ : Operand → AV} {h : Nat → Option Blk} {base : Nat} {o : Oper} {f : FuncId} {args : List AV} {froz refs : List Nat} (e : evR cp ρ h base o = .call f args froz refs) :
    ∃ x as ats, o.op = .call ⟨.value x, as, ats⟩ ∧ ρ x = .fn f ∧ argsOf cp f h (as.toList.map ρ) = some (args, froz, refs) := by
  unfold evR at e
  cases hT : evT cp ρ h base o with
  | some r =>
    rw [hT] at e
    have := evT_nc hT
    cases r with
    | no => simp [tame] at e
    | call _ _ _ _ => simp [Res.isCall] at this
    | val g v nw dd fz =>
      simp only [tame] at e
      split at e <;> cases e
  | none =>
    rw [hT] at e
    simp only at e
    cases h1 : evR1 cp ρ h base o with
    | no => rw [h1] at e; simp [sane] at e
    | val g v nw dd fz =>
      rw [h1] at e
      simp only [sane] at e
      split at e <;> cases e
    | call f' a' z' r' =>
      rw [h1] at e
      simp only [sane, Res.call.injEq] at e
      obtain ⟨rfl, rfl, rfl, rfl⟩ := e
      exact evR1_call h1
theorem closed1_in {P : Program} {h : Nat → Option Blk} {v a : AV} {i : List Nat} (e : closed1 P h v = some (a, i)) {id : Nat} (hi : id ∈ ids1 [v]) : id ∈ i := by
  cases v with
  | own j o n =>
    simp only [ids1, List.mem_singleton] at hi
    subst hi
    simp only [closed1] at e
    split at e
    · split at e
      · simp only [Option.some.injEq, Prod.mk.injEq] at e
        rw [← e.2]; exact List.mem_singleton.2 rfl
      · cases e
    · cases e
  | ptr j o => simp [closed1] at e
  | _ => simp [ids1] at hi
theorem closedAll_in {P : Program} {h : Nat → Option Blk} : ∀ {vs as : List AV} {i : List Nat}, closedAll P h vs = some (as, i) → ∀ {id : Nat}, id ∈ ids1 vs → id ∈ i
  | [], _, _, _, _, hi => by simp [ids1] at hi
  | v :: r, as, i, e, id, hi => by
    unfold closedAll at e
    cases h1 : closed1 P h v with
    | none => rw [h1] at e; simp at e
    | some p =>
      cases h2 : closedAll P h r with
      | none => rw [h1, h2] at e; simp at e
      | some q =>
        obtain ⟨a, i1⟩ := p
        obtain ⟨b, i2⟩ := q
        rw [h1, h2] at e
        simp only [Option.some.injEq, Prod.mk.injEq] at e
        rw [← e.2]
        have hm : id ∈ ids1 [v] ∨ id ∈ ids1 r := by
          cases v <;> simp only [ids1, List.mem_cons, List.not_mem_nil, or_false, false_or] at hi ⊢ <;> exact hi
        rcases hm with z | z
        · exact List.mem_append.2 (.inl (closed1_in h1 z))
        · exact List.mem_append.2 (.inr (closedAll_in h2 z))
theorem closedArg_tree {P : Program} {h : Nat → Option Blk} {v a : AV} {i p : List Nat} (e : closedArg P (viewF h) v = some (a, i, p)) {id : Nat} (hi : id ∈ idsOf v) (ht : treeB h id = true) : id ∈ i := by
  have one : closed1 P (viewF h) v = some (a, i) → id ∈ ids1 [v] → id ∈ i := fun q z => closed1_in q (id := id) z
  have key : ∀ (x : Option (AV × List Nat)), (match x with | some (a, i) => some (a, i, ([] : List Nat)) | none => none) = some (a, i, p) → x = some (a, i) := by
    intro x q
    cases x with
    | none => cases q
    | some y =>
      obtain ⟨y1, y2⟩ := y
      simp only [Option.some.injEq, Prod.mk.injEq] at q
      rw [q.1, q.2.1]
  cases v with
  | agg xs =>
    simp only [closedArg] at e
    cases h1 : closedAll P (viewF h) xs with
    | none => rw [h1] at e; cases e
    | some y =>
      obtain ⟨y1, y2⟩ := y
      rw [h1] at e
      simp only [Option.some.injEq, Prod.mk.injEq] at e
      rw [← e.2.1]
      exact closedAll_in h1 hi
  | own j o n => exact one (key _ e) hi
  | ptr j o =>
    cases o with
    | succ o => exact one (key _ e) hi
    | zero =>
      simp only [idsOf, List.mem_singleton] at hi
      subst hi
      unfold treeB at ht
      cases hb : h id with
      | none => rw [hb] at ht; cases ht
      | some b =>
        rw [hb] at ht
        simp only at ht
        have hv : viewF h id = some { b with st := 1 } := by unfold viewF; rw [hb]; simp only [ht]
        simp only [closedArg, hv] at e
        cases e
  | _ => simp [idsOf] at hi
theorem froz_some {P : Program} {h : Nat → Option Blk} {xs as : List AV} {fz rs : List Nat} (e : closedArgs P (viewF h) xs = some (as, fz, rs)) (ht : hasTree h xs = true) : fz ≠ [] := by
  have key : ∀ {xs as : List AV} {fz rs : List Nat}, closedArgs P (viewF h) xs = some (as, fz, rs) → ∀ id, id ∈ xs.flatMap idsOf → treeB h id = true → id ∈ fz := by
    intro xs
    induction xs with
    | nil => intro _ _ _ _ id hi; simp at hi
    | cons v r ih =>
      intro as fz rs e id hi hb
      unfold closedArgs at e
      cases h1 : closedArg P (viewF h) v with
      | none => rw [h1] at e; simp at e
      | some p =>
        cases h2 : closedArgs P (viewF h) r with
        | none => rw [h1, h2] at e; simp at e
        | some q =>
          obtain ⟨a1, a2, a3⟩ := p
          obtain ⟨b1, b2, b3⟩ := q
          rw [h1, h2] at e
          simp only [Option.some.injEq, Prod.mk.injEq] at e
          rw [← e.2.1]
          rw [List.flatMap_cons, List.mem_append] at hi
          rcases hi with z | z
          · exact List.mem_append.2 (.inl (closedArg_tree h1 z hb))
          · exact List.mem_append.2 (.inr (ih h2 id z hb))
  unfold hasTree at ht
  rw [List.any_eq_true] at ht
  obtain ⟨id, h1, h2⟩ := ht
  intro q
  have := key e id h1 h2
  rw [q] at this
  cases this
theorem argsOf_cases {cp : CP} {f : FuncId} {h : Nat → Option Blk} {xs args : List AV} {froz refs : List Nat} (e : argsOf cp f h xs = some (args, froz, refs)) :
    (isDeep cp f = true ∧ deepArgs h xs = some (args, refs)) ∨ (isDeep cp f = false ∧ closedArgs cp.P h xs = some (args, froz, refs) ∧ distinct refs = true ∧ ∀ r, r ∈ refs → r ∉ froz) ∨ (isDeep cp f = false ∧ closedArgs cp.P (viewF h) xs = some (args, froz, []) ∧ refs = [] ∧ thawF cp f = true ∧ froz ≠ []) := by
  unfold argsOf at e
  unfold isDeep
  cases hl : look cp.deep f with
  | some l =>
    rw [hl] at e
    simp only at e
    cases hd : deepArgs h xs with
    | none => rw [hd] at e; simp at e
    | some p =>
      obtain ⟨as, ids⟩ := p
      rw [hd] at e
      simp only at e
      cases hf : findT l as 0 with
      | none => rw [hf] at e; simp at e
      | some i =>
        rw [hf] at e
        simp only [Option.some.injEq, Prod.mk.injEq] at e
        obtain ⟨rfl, _, rfl⟩ := e
        exact .inl ⟨rfl, rfl⟩
  | none =>
    rw [hl] at e
    simp only at e
    cases ht : hasTree h xs with
    | false =>
      rw [ht] at e
      simp only at e
      cases hc : closedArgs cp.P h xs with
      | none => rw [hc] at e; simp at e
      | some p =>
        obtain ⟨as, fz, rs⟩ := p
        rw [hc] at e
        simp only at e
        cases hd : (distinct rs && rs.all (fun x => !fz.contains x)) with
        | false => rw [hd] at e; simp at e
        | true =>
          rw [hd] at e
          simp only [Option.some.injEq, Prod.mk.injEq] at e
          obtain ⟨rfl, rfl, rfl⟩ := e
          rw [Bool.and_eq_true, List.all_eq_true] at hd
          exact .inr (.inl ⟨rfl, rfl, hd.1, fun r hr => by have := hd.2 r hr; simpa using this⟩)
    | true =>
      rw [ht] at e
      simp only at e
      split at e
      · rename_i as fz hc
        cases htf : thawF cp f with
        | false => rw [htf] at e; simp at e
        | true =>
          rw [htf] at e
          simp only [Option.some.injEq, Prod.mk.injEq] at e
          obtain ⟨rfl, rfl, rfl⟩ := e
          exact .inr (.inr ⟨rfl, hc, rfl, rfl, froz_some hc ht⟩)
      · simp at e

theorem args_repL {w : World} {C : Ctx} {ρ : Operand → AV} {ev : Operand → Value} (hρ : ∀ x, Rep w C (ρ x) (ev x)) (args : Array Operand) : RepL w C (args.toList.map ρ) (args.toList.map ev) :=
  repL_of (by simp) fun j x v hx hv => by
    rw [List.getElem?_map] at hx hv
    cases hz : args.toList[j]? with
    | none => rw [hz] at hx; simp at hx
    | some z =>
      rw [hz] at hx hv
      simp only [Option.map_some, Option.some.injEq] at hx hv
      subst hx; subst hv
      exact hρ z
theorem takeTL_rng : ∀ (ss : List Sc) (b : Nat) (es : List TypeId) (vs : List AV), b ≤ (takeTL b ss es vs).2.2 ∧ ∀ p ∈ (takeTL b ss es vs).2.1, p.1 < (takeTL b ss es vs).2.2
  | [], b, es, vs => ⟨Nat.le_refl _, by simp [takeTL]⟩
  | s :: ss, b, es, vs => by
    have h1 : b ≤ (takeT1 b s (es.headD 0) (hdV vs)).2.2 ∧ ∀ p ∈ (takeT1 b s (es.headD 0) (hdV vs)).2.1, p.1 < (takeT1 b s (es.headD 0) (hdV vs)).2.2 := by
      cases s <;> simp [takeT1]
    have h2 := takeTL_rng ss (takeT1 b s (es.headD 0) (hdV vs)).2.2 es.tail (tlV vs)
    refine ⟨Nat.le_trans h1.1 h2.1, fun p hp => ?_⟩
    simp only [takeTL, List.mem_append] at hp ⊢
    rcases hp with hp | hp
    · exact Nat.lt_of_lt_of_le (h1.2 p hp) h2.1
    · exact h2.2 p hp
theorem takeTV_rng (P : Program) (b : Nat) (t : TypeId) (v : AV) : b ≤ (takeTV P b t v).2.2 ∧ ∀ p ∈ (takeTV P b t v).2.1, p.1 < (takeTV P b t v).2.2 := by
  unfold takeTV
  cases isAggT P t with
  | true => exact takeTL_rng _ _ _ _
  | false =>
    generalize (flat P 8 t).headD .bad = s
    cases s <;> simp [takeT1]
theorem takeTs_rng (P : Program) : ∀ (ts : List TypeId) (b : Nat) (vs : List AV), b ≤ (takeTs P b ts vs).2.2 ∧ ∀ p ∈ (takeTs P b ts vs).2.1, p.1 < (takeTs P b ts vs).2.2
  | [], b, vs => ⟨Nat.le_refl _, by simp [takeTs]⟩
  | t :: ts, b, vs => by
    have h1 := takeTV_rng P b t (hdV vs)
    have h2 := takeTs_rng P ts (takeTV P b t (hdV vs)).2.2 (tlV vs)
    refine ⟨Nat.le_trans h1.1 h2.1, fun p hp => ?_⟩
    simp only [takeTs, List.mem_append] at hp ⊢
    rcases hp with hp | hp
    · exact Nat.lt_of_lt_of_le (h1.2 p hp) h2.1
    · exact h2.2 p hp
theorem noT_upds {H : Nat → Option Blk} {l : List (Nat × Blk)} {B : Nat} (h : NoT H B) (k : ∀ p ∈ l, p.1 < B ∨ p.2.st < 3) : NoT (upds H l) B := by
  intro id b hid hb
  rcases upds_some (l := l) (f := H) (id := id) with z | ⟨p, p1, p2, p3⟩
  · rw [z] at hb; exact h id b hid hb
  · rw [p3] at hb; cases hb
    rcases k p p1 with q | q
    · omega
    · exact q
theorem noT_setSt {H : Nat → Option Blk} {s B : Nat} (hs : s < 3) {l : List Nat} (h : NoT H B) : NoT (setSt H s l) B := by
  intro id b hid hb
  cases hq : H id with
  | none => rw [setSt_none hq] at hb; cases hb
  | some k =>
    rcases setSt_get (s := s) (l := l) hq with z | z
    · rw [z] at hb; cases hb; exact h id _ hid hq
    · rw [z] at hb; cases hb; exact hs
theorem tree_put {cp : CP} {w0 : World} {C0 : Ctx} {H0 : Nat → Option Blk} {w : World} {C : Ctx} {a : Act} {σ : St} {B B' base : Nat} {o : Oper} {f : FuncId} {fn : Func} {froz : List Nat} {r : List AV} (hdp : isDeep cp f = false) (htr : treeF cp f = true) (hfn : look cp.fns f = some fn)
    (hr : RelB cp.P w0 C0 H0 w C a σ B) (hB : B ≤ B') (hB2 : base + stride ≤ B') (hd : dstOk σ o = true) (htb : NoT σ.heap B') (hfit : (takeTs cp.P base fn.resultTypes.toList r).2.2 ≤ base + stride) {u : Value} {w' : World} {D2 : Ctx} (hnb : σ.nr ≤ base)
    (q1 : RelT cp.P w' D2 (upds σ.heap (takeTs cp.P base fn.resultTypes.toList r).2.1)) (q2 : KeptT cp.P w C σ.heap w' D2 (upds σ.heap (takeTs cp.P base fn.resultTypes.toList r).2.1))
    (q3 : Rep w' D2 (tupA (takeTs cp.P base fn.resultTypes.toList r).1) u) (q5 : ∀ id, (id < base ∨ base + stride ≤ id) → D2.φ id = C.φ id) :
    RelB cp.P w0 C0 H0 w' D2 (a.put o.dst u) (putCall cp σ base o f froz [] r) B' := by
  have hp : (putCall cp σ base o f froz [] r).heap = upds σ.heap (takeTs cp.P base fn.resultTypes.toList r).2.1 := by unfold putCall; rw [hdp, htr, hfn]
  refine ⟨by rw [hp]; exact q1, ?_, fun id hid => by rw [q5 id (.inr (by omega))]; exact hr.fresh id (by omega), ?_, ?_, ?_, ?_, ?_, ?_⟩
  · have := put_env q2.step hr.env hr.size (o := o) hd q3
    unfold putCall; rw [hdp, htr, hfn]; exact this
  · rw [(put_size _ _ _).1]; unfold putCall; rw [hdp, htr, hfn]; exact hr.size
  · rw [(put_size _ _ _).2]; exact hr.defers
  · rw [hp]; exact hr.kept.trans q2
  · unfold putCall; rw [hdp, htr, hfn]
    refine ⟨hr.nr.1, fun id b hb => ?_⟩
    obtain ⟨z1, z2⟩ := hr.nr.2 id b hb
    exact ⟨z1, fun z3 => by rw [q5 id (.inl (by omega))]; exact z2 z3⟩
  · unfold putCall; rw [hdp, htr, hfn]; exact Nat.le_trans hr.nb hB
  · rw [hp]
    refine noT_upds htb fun p hp => .inl ?_
    have := (takeTs_rng cp.P fn.resultTypes.toList base r).2 p hp
    omega
theorem call_ok {cp : CP} {orc : Orc} (hcp : CpOk cp) (hor : OrcOk cp orc) : CallOk cp orc := by
  intro w0 C0 H0 w C a σ B B' base o f args froz refs r hG hr hnb hfr hno hB hB2 hd hev hof hfit next Q hn
  have hρ := operand_rep hr.env
  obtain ⟨x, as, ats, ho, hx, hca0⟩ := evR_call hev
  have hfv : a.eval x = .func (.func f) #[] #[] := by
    have := hρ x
    rw [hx] at this
    exact this
  have hargs := args_repL hρ as
  have harr : (as.toList.map a.eval).toArray = as.map a.eval := by apply Array.ext'; simp
  have hstr : 0 < stride := by decide
  have htb : NoT σ.heap B' := fun id k q => hr.tb id k (by omega)
  rcases argsOf_cases hca0 with ⟨hdp, hca⟩ | ⟨hdp, hca, hdis, hsep⟩ | ⟨hdp, hca, rfl, hth, hfz⟩
  · unfold callFits at hfit
    rw [hdp] at hfit
    simp only at hfit
    cases hfn : look cp.fns f with
    | none => rw [hfn] at hfit; simp at hfit
    | some fn =>
      rw [hfn] at hfit
      simp only at hfit
      obtain ⟨p1, p2, p3, _, _⟩ := pre_deep hr.mem hca hargs
      have hcalls := hor f fn args r hfn hof w (renφ C refs) _ ((hG.step hr.kept.step).fz fun _ hb => hb) p1 p2 (fun id hid => by
        show (match refs[id]? with | some id => C.φ id | none => none) = none
        rw [p3] at hid
        rw [List.getElem?_eq_none hid])
      rw [harr] at hcalls
      obtain ⟨dst, op, ty, pos, aft, gu⟩ := o
      simp only at ho
      subst ho
      unfold Oper.wp
      rw [run_call hcp hfn a.eval dst x hfv as ats ty pos aft gu w, Oper.upon_enter]
      refine hcalls.mono fun e w' ran => ?_
      obtain ⟨u, D2, rfl, q1, q2, q3, q5⟩ := post_deep hdp hr.mem hca hargs hfr ran hfit
      have hp : putCall cp σ base ⟨dst, .call ⟨.value x, as, ats⟩, ty, pos, aft, gu⟩ f froz refs r = putDeep cp σ base ⟨dst, .call ⟨.value x, as, ats⟩, ty, pos, aft, gu⟩ f froz refs r := by unfold putCall; rw [hdp]
      refine hn u w' D2 ⟨?_, ?_, fun id hid => by rw [q5 id (.inr (by omega))]; exact hr.fresh id (by omega), ?_, ?_, ?_, ⟨?_, fun id b hb => ?_⟩, ?_, ?_⟩ q5
      · rw [hp]; exact q1
      · have := put_env q2.step hr.env hr.size (o := ⟨dst, .call ⟨.value x, as, ats⟩, ty, pos, aft, gu⟩) hd q3
        rw [hp]; exact this
      · rw [(put_size _ _ _).1, hp]; exact hr.size
      · rw [(put_size _ _ _).2]; exact hr.defers
      · rw [hp]; exact hr.kept.trans q2
      · rw [hp]; exact hr.nr.1
      · rw [hp]
        obtain ⟨z1, z2⟩ := hr.nr.2 id b hb
        exact ⟨z1, fun z3 => by rw [q5 id (.inl (by omega))]; exact z2 z3⟩
      · rw [hp]; have := hr.nb; exact Nat.le_trans this hB
      · rw [hp]
        have hf2 := hfit
        unfold deepFits at hf2
        simp only [Bool.and_eq_true] at hf2
        obtain ⟨g1, _, g3, g4, g5⟩ := hf2
        have hlow : ∀ id, id ∈ refs → id < base := fun id hid => Nat.le_of_ble_eq_true (List.all_eq_true.1 g1 id hid)
        have g4' := Nat.le_of_ble_eq_true g4
        have hlen : (deepR cp f froz r).1.length = (tmB cp f froz).length := by unfold deepR; exact cBs_len _ _
        refine noT_upds (noT_setSt (by omega) htb) fun p hp => .inl ?_
        have hm := deepNews_keys (List.mem_map.2 ⟨p, hp, rfl⟩)
        obtain ⟨j, hj⟩ := List.getElem?_of_mem hm
        rcases deepL_cases hj (by rw [hlen]; exact Nat.le_of_ble_eq_true g3) with ⟨_, q⟩ | ⟨q1, q2, q3⟩
        · have := hlow _ (List.mem_of_getElem? q); omega
        · rw [hlen] at q2; omega
  · cases htr : treeF cp f with
    | false =>
      unfold callFits at hfit
      rw [hdp, htr] at hfit
      simp only at hfit
      cases hfn : look cp.fns f with
      | none => rw [hfn] at hfit; simp at hfit
      | some fn =>
        rw [hfn] at hfit
        simp only at hfit
        rw [Bool.and_eq_true] at hfit
        have hfit' := Nat.le_of_ble_eq_true hfit.1
        have hpl : needPl cp f fn froz refs = true → plainRes r = true := fun q => by have := hfit.2; rw [q] at this; exact this
        obtain ⟨p1, p2, p3, p4⟩ := pre_rel hr.mem.h hca hdis hsep hargs
        have hcalls := hor f fn args r hfn hof w ⟨refφ C refs, (C.ice froz).Fz⟩ _ ((hG.step hr.kept.step).fz fun _ hb => .inl hb) (bareT p1 (argsNoT hca)) p2 (fun id hid => by
          show refφ C refs id = none
          unfold refφ
          rw [p3] at hid
          rw [List.getElem?_eq_none hid])
        rw [harr] at hcalls
        obtain ⟨dst, op, ty, pos, aft, gu⟩ := o
        simp only at ho
        subst ho
        unfold Oper.wp
        rw [run_call hcp hfn a.eval dst x hfv as ats ty pos aft gu w, Oper.upon_enter]
        refine hcalls.mono fun e w' ran => ?_
        obtain ⟨u, D2, rfl, q1, q2, q3, q4, q5⟩ := post_relT hdp htr hr.mem hca hdis hsep hargs hfr hno ran hfit' hpl
        have hp : (putCall cp σ base ⟨dst, .call ⟨.value x, as, ats⟩, ty, pos, aft, gu⟩ f froz refs r).heap = upds (afterC cp f fn σ.heap froz refs r) (takeVals (cp.fresh.contains f) cp.P base fn.resultTypes.toList r).2.1 := by unfold putCall afterC; rw [hdp, htr, hfn]
        refine hn u w' D2 ⟨?_, ?_, fun id hid => by rw [q5 id (.inr (by omega))]; exact hr.fresh id (by omega), ?_, ?_, ?_, ?_, ?_, ?_⟩ q5
        · rw [hp]; exact q1
        · have := put_env q2.step hr.env hr.size (o := ⟨dst, .call ⟨.value x, as, ats⟩, ty, pos, aft, gu⟩) hd q3
          unfold putCall; rw [hdp, htr, hfn]; exact this
        · rw [(put_size _ _ _).1]; unfold putCall; rw [hdp, htr, hfn]; exact hr.size
        · rw [(put_size _ _ _).2]; exact hr.defers
        · rw [hp]; exact hr.kept.trans q2
        · unfold putCall; rw [hdp, htr, hfn]
          refine ⟨hr.nr.1, fun id b hb => ?_⟩
          obtain ⟨z1, z2⟩ := hr.nr.2 id b hb
          exact ⟨z1, fun z3 => by rw [q5 id (.inl (by omega))]; exact z2 z3⟩
        · unfold putCall; rw [hdp, htr, hfn]; exact Nat.le_trans hr.nb hB
        · rw [hp]
          refine noT_upds (noT_setSt (by omega) (noT_upds htb fun p hp => ?_)) fun p hp => .inr ?_
          · obtain ⟨_, b0, z1, z2⟩ := takeRefs_mem hp
            rcases Nat.lt_or_ge p.1 B' with q | q
            · exact .inl q
            · exact .inr (by rw [z2]; exact htb _ _ q z1)
          · rw [takeVals_st _ _ _ _ _ p hp]; omega
    | true =>
      unfold callFits at hfit
      rw [hdp, htr] at hfit
      simp only at hfit
      cases hfn : look cp.fns f with
      | none => rw [hfn] at hfit; simp at hfit
      | some fn =>
        cases refs with
        | cons _ _ => rw [hfn] at hfit; simp at hfit
        | nil =>
        rw [hfn] at hfit
        simp only at hfit
        have hfit' := Nat.le_of_ble_eq_true hfit
        obtain ⟨p1, p2, p3, p4⟩ := pre_rel hr.mem.h hca hdis hsep hargs
        have hnil : (takeArgs 0 args).2 = [] := List.length_eq_zero_iff.1 p3
        have hrs : refTys args = [] := by unfold refTys; rw [hnil]; rfl
        have hφ0 : refφ C [] = fun _ => none := by funext i; rfl
        have hcalls := hor f fn args r hfn hof w ⟨refφ C [], (C.ice froz).Fz⟩ _ ((hG.step hr.kept.step).fz fun _ hb => .inl hb) (bareT p1 (argsNoT hca)) p2 (fun id hid => rfl)
        rw [harr, hnil, hrs, hφ0] at hcalls
        obtain ⟨dst, op, ty, pos, aft, gu⟩ := o
        simp only at ho
        subst ho
        unfold Oper.wp
        rw [run_call hcp hfn a.eval dst x hfv as ats ty pos aft gu w, Oper.upon_enter]
        refine hcalls.mono fun e w' ran => ?_
        obtain ⟨u, D2, rfl, q1, q2, q3, q5⟩ := post_tree hdp htr hr.mem (fun x hx => .inl hx) hfr ran hfit'
        exact hn _ _ _ (tree_put hdp htr hfn hr hB hB2 hd htb hfit' hnb q1 q2 q3 q5) q5
  · cases hfn : look cp.fns f with
    | none => unfold thawF at hth; rw [hfn] at hth; simp at hth
    | some fn =>
    obtain ⟨a1, a2⟩ := closedVArgs_rep hr.mem hca hargs
    have hnil : (takeArgs 0 args).2 = [] := by rw [a1 0]
    have hfst : (takeArgs 0 args).1 = args := by rw [a1 0]
    have hrs : refTys args = [] := by unfold refTys; rw [hnil]; rfl
    have hcalls := hor f fn args r hfn hof w ⟨fun _ => none, allF cp.P w C σ.heap⟩ (as.toList.map a.eval) ((hG.step hr.kept.step).fz fun _ hb => .inl hb) (bareT ⟨(by intro _ _ q; cases q), (by intro _ _ _ _ _ _ q; cases q), fun b hb => allF_old hr.mem hb⟩ (by rw [hnil]; intro id k q; cases q)) (by rw [hfst]; exact a2) (fun id hid => rfl)
    rw [harr, hnil, hrs] at hcalls
    unfold callFits at hfit
    rw [hdp] at hfit
    simp only at hfit
    cases htr : treeF cp f with
    | true =>
      rw [htr, hfn] at hfit
      simp only at hfit
      have hfit' := Nat.le_of_ble_eq_true hfit
      obtain ⟨dst, op, ty, pos, aft, gu⟩ := o
      simp only at ho
      subst ho
      unfold Oper.wp
      rw [run_call hcp hfn a.eval dst x hfv as ats ty pos aft gu w, Oper.upon_enter]
      refine hcalls.mono fun e w' ran => ?_
      obtain ⟨u, D2, rfl, q1, q2, q3, q5⟩ := post_tree hdp htr hr.mem (fun x hx => .inl hx) hfr ran hfit'
      exact hn _ _ _ (tree_put hdp htr hfn hr hB hB2 hd htb hfit' hnb q1 q2 q3 q5) q5
    | false =>
      rw [htr, hfn] at hfit
      simp only at hfit
      rw [Bool.and_eq_true] at hfit
      have hfit' := Nat.le_of_ble_eq_true hfit.1
      unfold thawF at hth
      rw [hfn] at hth
      simp only at hth
      rw [htr, Bool.false_or] at hth
      have hpl : scalarRes cp.P fn = false → plainRes r = true := fun q => by
        have h2 := hfit.2
        have hnp : needPl cp f fn froz [] = true := by
          cases froz with
          | nil => exact absurd rfl hfz
          | cons x y =>
            unfold needPl
            rw [q, htr]
            rw [q, Bool.false_or] at hth
            rw [hth]; rfl
        rw [hnp] at h2
        exact h2
      obtain ⟨dst, op, ty, pos, aft, gu⟩ := o
      simp only at ho
      subst ho
      unfold Oper.wp
      rw [run_call hcp hfn a.eval dst x hfv as ats ty pos aft gu w, Oper.upon_enter]
      refine hcalls.mono fun e w' ran => ?_
      obtain ⟨u, D2, rfl, q1, q2, q3, q5⟩ := post_thaw hdp htr hr.mem (fun x hx => .inl hx) hfr hno ran hfit' hth hpl
      have hcold : coldC cp f fn froz [] = [] := by
        unfold coldC
        rw [htr, Bool.false_or, hth]
      have hp : (putCall cp σ base ⟨dst, .call ⟨.value x, as, ats⟩, ty, pos, aft, gu⟩ f froz [] r).heap = upds σ.heap (takeVals (cp.fresh.contains f) cp.P base fn.resultTypes.toList r).2.1 := by unfold putCall; rw [hdp, htr, hfn]; simp only [hcold]; rfl
      refine hn u w' D2 ⟨?_, ?_, fun id hid => by rw [q5 id (.inr (by omega))]; exact hr.fresh id (by omega), ?_, ?_, ?_, ?_, ?_, ?_⟩ q5
      · rw [hp]; exact q1
      · have := put_env q2.step hr.env hr.size (o := ⟨dst, .call ⟨.value x, as, ats⟩, ty, pos, aft, gu⟩) hd q3
        unfold putCall; rw [hdp, htr, hfn]; exact this
      · rw [(put_size _ _ _).1]; unfold putCall; rw [hdp, htr, hfn]; exact hr.size
      · rw [(put_size _ _ _).2]; exact hr.defers
      · rw [hp]; exact hr.kept.trans q2
      · unfold putCall; rw [hdp, htr, hfn]
        refine ⟨hr.nr.1, fun id b hb => ?_⟩
        obtain ⟨z1, z2⟩ := hr.nr.2 id b hb
        exact ⟨z1, fun z3 => by rw [q5 id (.inl (by omega))]; exact z2 z3⟩
      · unfold putCall; rw [hdp, htr, hfn]; exact Nat.le_trans hr.nb hB
      · rw [hp]
        refine noT_upds htb fun p hp => .inr ?_
        rw [takeVals_st _ _ _ _ _ p hp]; omega
end Go.Proofs.YtlcnpecejhcnfaaDoor.EV
