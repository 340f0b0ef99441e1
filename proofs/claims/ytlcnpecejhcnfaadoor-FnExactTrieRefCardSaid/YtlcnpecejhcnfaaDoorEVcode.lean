/- Regions in their order, and code. No conditions. -/
import Derived.Test.YtlcnpecejhcnfaaDoorEVtop8
namespace Go.Proofs.YtlcnpecejhcnfaaDoor.EV
set_option linter.unusedVariables false
set_option linter.unusedSimpArgs false
open Go Go.RowKit

/-- A frame and its memory, as the evaluator has them. -/
structure RelB (P : Program) (w0 : World) (C0 : Ctx) (H0 : Nat → Option Blk) (w : World) (C : Ctx) (a : Act) (σ : St) (base : Nat) : Prop where
  mem : RelT P w C σ.heap
  env : ∀ t, Rep w C (σ.env t) (a.tmps.getD t undef)
  fresh : ∀ id, base ≤ id → C.φ id = none
  size : a.tmps.size = σ.nt
  defers : a.defers = []
  kept : KeptT P w0 C0 H0 w C σ.heap
  nr : (∀ id L, C0.φ id = some L → id < σ.nr) ∧ ∀ id b, H0 id = some b → id < σ.nr ∧ (C0.φ id = none → C.φ id = none)
  nb : σ.nr ≤ base
  tb : NoT σ.heap base

theorem getD_put {a : Act} {d t : Nat} {u : Value} (hd : d < a.tmps.size) : (a.put (some d) u).tmps.getD t undef = if t = d then u else a.tmps.getD t undef := by
  show (a.tmps.setIfInBounds d u).getD t undef = _
  simp only [Array.getD_eq_getD_getElem?, Array.getElem?_setIfInBounds]
  by_cases h : t = d
  · subst h
    simp [hd]
  · rw [if_neg (fun q => h q.symm), if_neg h]
theorem put_env {w w' : World} {C C' : Ctx} (st : Step w C w' C') {a : Act} {σ : St} (he : ∀ t, Rep w C (σ.env t) (a.tmps.getD t undef)) (hsz : a.tmps.size = σ.nt) {o : Oper} (hd : dstOk σ o = true) {v : AV} {u : Value} (r : Rep w' C' v u) :
    ∀ t, Rep w' C' ((match o.dst with | some d => upd σ.env d v | none => σ.env) t) ((a.put o.dst u).tmps.getD t undef) := by
  intro t
  unfold dstOk at hd
  cases ho : o.dst with
  | none => exact rep_step st _ _ (he t)
  | some d =>
    rw [ho] at hd
    have hlt : d < a.tmps.size := by rw [hsz]; exact Nat.le_of_ble_eq_true hd
    rw [getD_put hlt]
    by_cases h : t = d
    · subst h
      rw [if_pos rfl]
      show Rep w' C' (upd σ.env t v t) u
      rw [upd_same]; exact r
    · rw [if_neg h]
      show Rep w' C' (upd σ.env d v t) _
      rw [upd_other _ _ h]; exact rep_step st _ _ (he t)
theorem put_size (a : Act) (d : Option Tmp) (u : Value) : (a.put d u).tmps.size = a.tmps.size ∧ (a.put d u).defers = a.defers := by
  cases d <;> simp [Act.put]

theorem operand_rep {w : World} {C : Ctx} {a : Act} {σ : St} (he : ∀ t, Rep w C (σ.env t) (a.tmps.getD t undef)) : ∀ x, Rep w C (evOperand σ.env x) (a.eval x)
  | .tmp t => he t
  | .const v => const_rep w C v
  | .global _ => trivial
  | .func _ => rfl

/-- A call of the program's own: what it comes to, for whoever goes on. -/
def CallOk (cp : CP) (orc : Orc) : Prop := ∀ (w0 : World) (C0 : Ctx) (H0 : Nat → Option Blk) (w : World) (C : Ctx) (a : Act) (σ : St) (B B' base : Nat) (o : Oper) (f : FuncId) (args : List AV) (froz refs : List Nat) (r : List AV), GlobOk cp w0 C0 →
  RelB cp.P w0 C0 H0 w C a σ B → σ.nr ≤ base → (∀ id, base ≤ id → id < base + stride → C.φ id = none) → (∀ id k, base ≤ id → id < base + stride → σ.heap id = some k → k.st < 3) → B ≤ B' → base + stride ≤ B' → dstOk σ o = true → evR cp (evOperand σ.env) σ.heap base o = .call f args froz refs → orc f args = some r → callFits cp base f froz refs r = true →
  ∀ (next : Act → World → Prop) (Q : Exit → Act → World → Prop), (∀ u w' C', RelB cp.P w0 C0 H0 w' C' (a.put o.dst u) (putCall cp σ base o f froz refs r) B' → (∀ id, (id < base ∨ base + stride ≤ id) → C'.φ id = C.φ id) → next (a.put o.dst u) w') → o.wp cp.P a w next Q

theorem flag_rel {P : Program} {w0 : World} {C0 : Ctx} {H0 : Nat → Option Blk} {w : World} {C : Ctx} {a : Act} {σ : St} {base d : Nat} {b : Bool} (h : RelB P w0 C0 H0 w C a σ base) (e : σ.env d = .bool b) : RelB P w0 C0 H0 w C a (setFlag σ d b) base := by
  have : (setFlag σ d b) = σ := by unfold setFlag; rw [upd_self _ _ _ e]
  rw [this]; exact h

theorem unk_rel {P : Program} {w0 : World} {C0 : Ctx} {H0 : Nat → Option Blk} {w : World} {C : Ctx} {a : Act} {σ : St} {base d : Nat} {b : Bool} (h : RelB P w0 C0 H0 w C a σ base) (e : a.tmps.getD d undef = .bool b) : RelB P w0 C0 H0 w C a (setFlag σ d b) base :=
  ⟨h.mem, fun t => by
    show Rep w C (upd σ.env d (.bool b) t) _
    unfold upd
    cases q : Nat.beq t d with
    | true => rw [Nat.eq_of_beq_eq_true q]; exact e
    | false => exact h.env t, h.fresh, h.size, h.defers, h.kept, h.nr, h.nb, h.tb⟩
theorem both_some {x y : Option (List AV)} {r : List AV} (h : both x y = some r) : x = some r ∧ y = some r := by
  unfold both at h
  split at h
  · rename_i e; exact ⟨h, e ▸ h⟩
  · cases h
theorem off_wanted {w : World} {C : Ctx} {ops : Array Oper} {tmps : Array Value} {o : Oper} {j : Nat} {b : Bool} {d : Nat} (h1 : o.guard = some (j, b)) (h2 : (ops[j]?).bind (·.dst) = some d) (h3 : Rep w C (.tup []) (tmps.getD d undef)) : Region.wanted o (yielded ops tmps) = false := by
  have hy : yielded ops tmps j = none := by
    unfold yielded
    rw [h2]
    obtain ⟨vs, e, rv⟩ := h3
    rw [Array.getD_eq_getD_getElem?] at e
    show (match tmps[d]? with | some (.bool b) => some b | _ => none) = none
    cases hq : tmps[d]? with
    | none => rfl
    | some x => rw [hq] at e; simp at e; subst e; rfl
  simp only [Region.wanted, h1, hy]
  rfl
theorem evOps_ok {cp : CP} {orc : Orc} (hc : CallOk cp orc) {ops : Array Oper} {Q : Exit → Act → World → Prop} {w0 : World} {C0 : Ctx} {H0 : Nat → Option Blk} {K : St → Option (List AV)} {out : List AV} (hG : GlobOk cp w0 C0)
    (hK : ∀ w C a σ base, RelB cp.P w0 C0 H0 w C a σ base → K { σ with next := base } = some out → Q .normal a w) :
    ∀ (rest : List Oper) (i : Nat), rest = ops.toList.drop i → ∀ (base : Nat) (σ : St) (a : Act) (w : World) (C : Ctx), RelB cp.P w0 C0 H0 w C a σ base → evOps cp orc ops rest base σ K = some out →
      wpOps cp.P ops Q ((List.range ops.size).drop i) a w
  | [], i, hr, base, σ, a, w, C, h, e => by
    have hi : ops.size ≤ i := by
      have := congrArg List.length hr
      simp at this; omega
    rw [List.drop_eq_nil_of_le (by simp; omega)]
    exact hK w C a σ base h e
  | o :: rest, i, hr, base, σ, a, w, C, h, e => by
    have hi : i < ops.size := by
      have := congrArg List.length hr
      simp at this; omega
    have ho : ops[i]? = some o := by
      have := congrArg (fun l => l[0]?) hr
      simp only [List.getElem?_cons_zero, List.getElem?_drop, Nat.add_zero] at this
      simpa using this.symm
    have hrest : rest = ops.toList.drop (i + 1) := by
      have := congrArg List.tail hr
      simpa [List.tail_drop] using this
    have hrange : (List.range ops.size).drop i = i :: (List.range ops.size).drop (i + 1) := by
      rw [List.drop_eq_getElem_cons (by simpa using hi)]
      simp
    rw [hrange]
    unfold evOps at e
    cases hd : dstOk σ o with
    | false => rw [hd] at e; simp at e
    | true =>
    rw [hd] at e
    simp only at e
    -- the operation itself
    have go : ∀ σ1, RelB cp.P w0 C0 H0 w C a σ1 base → dstOk σ1 o = true → (match evR cp (evOperand σ1.env) σ1.heap base o with
        | .no => none
        | .val g v news dead froz => gd g (evOps cp orc ops rest (base + stride) (putVal σ1 o v news dead froz) K)
        | .call f args froz refs => bnd (orc f args) fun r => gd (callFits cp base f froz refs r) (evOps cp orc ops rest (base + stride) (putCall cp σ1 base o f froz refs r) K)) = some out →
        o.wp cp.P a w (wpOps cp.P ops Q ((List.range ops.size).drop (i + 1))) Q := by
      intro σ1 h1 hd1 e1
      cases hev : evR cp (evOperand σ1.env) σ1.heap base o with
      | no => rw [hev] at e1; simp at e1
      | val g v news dead froz =>
        rw [hev] at e1
        simp only at e1
        unfold gd at e1
        cases hg : g with
        | false => rw [hg] at e1; simp at e1
        | true =>
          rw [hg] at e1
          simp only at e1
          obtain ⟨nx, u, w', C', q1, q2, q3, q4, q5, q6⟩ := (op_ok h1.mem (hG.step h1.kept.step) base (h1.fresh base (Nat.le_refl _)) (fun k => h1.tb base k (Nat.le_refl _)) (operand_rep h1.env) o hev hg).out
          have hrel : RelB cp.P w0 C0 H0 w' C' (a.put o.dst u) (putVal σ1 o v news dead froz) (base + stride) :=
            ⟨q4, put_env q5.step h1.env h1.size hd1 q3, fun id hid => by
              have hs : 0 < stride := by decide
              exact q6 id (by omega) (h1.fresh id (by omega)), by rw [(put_size a o.dst u).1]; exact h1.size, by rw [(put_size a o.dst u).2]; exact h1.defers, h1.kept.trans q5, ⟨h1.nr.1, fun id b hb => by
              obtain ⟨q1, q2⟩ := h1.nr.2 id b hb
              have hs : 0 < stride := by decide
              have := h1.nb
              exact ⟨q1, fun q3 => q6 id (by omega) (q2 q3)⟩⟩, by
              have := h1.nb
              show σ1.nr ≤ base + stride
              omega, noT_after hev (fun id k q => h1.tb id k (by omega)) (Nat.lt_add_of_pos_right (by decide))⟩
          have hn := evOps_ok hc hG hK rest (i + 1) hrest _ _ _ _ _ hrel e1
          unfold Oper.wp
          rw [q1]
          rcases q2 with rfl | ⟨rfl, rfl⟩
          · rw [Oper.upon_value]; exact hn
          · rw [Oper.upon_skip]; exact hn
      | call f args froz refs =>
        rw [hev] at e1
        simp only at e1
        unfold bnd at e1
        cases hor : orc f args with
        | none => rw [hor] at e1; simp at e1
        | some r =>
          rw [hor] at e1
          simp only at e1
          unfold gd at e1
          cases hfit : callFits cp base f froz refs r with
          | false => rw [hfit] at e1; simp at e1
          | true =>
          rw [hfit] at e1
          simp only at e1
          exact hc w0 C0 H0 w C a σ1 base (base + stride) base o f args froz refs r hG h1 h1.nb (fun id q _ => h1.fresh id q) (fun id k q _ => h1.tb id k q) (by omega) (Nat.le_refl _) hd1 hev hor hfit _ _ (fun u w' C' hrel _ => evOps_ok hc hG hK rest (i + 1) hrest _ _ _ _ _ hrel e1)
    have skip : ∀ σ1, RelB cp.P w0 C0 H0 w C a σ1 base → dstOk σ1 o = true → evOps cp orc ops rest (base + stride) (setAny σ1 o) K = some out → wpOps cp.P ops Q ((List.range ops.size).drop (i + 1)) (a.put o.dst undef) w := by
      intro σ1 h1 hd1 e1
      refine evOps_ok hc hG hK rest (i + 1) hrest (base + stride) (setAny σ1 o) (a.put o.dst undef) w C ⟨h1.mem, ?_, fun id hid => h1.fresh id (by omega), by rw [(put_size _ _ _).1]; exact h1.size, by rw [(put_size _ _ _).2]; exact h1.defers, h1.kept, h1.nr, by
        have := h1.nb
        show σ1.nr ≤ base + stride
        omega, fun id k q => h1.tb id k (by omega)⟩ e1
      exact put_env (Step.refl w C) h1.env h1.size hd1 (v := .tup []) ⟨[], rfl, rfl⟩
    unfold wpOps
    rw [ho]
    simp only
    cases hgu : o.guard with
    | none =>
      rw [hgu] at e
      rw [if_pos (by simp [Region.wanted, hgu])]
      exact .inl (go σ h hd e)
    | some p =>
      obtain ⟨j, want⟩ := p
      rw [hgu] at e
      simp only at e
      cases hj : (ops[j]?).bind (·.dst) with
      | none => rw [hj] at e; simp at e
      | some d =>
        rw [hj] at e
        simp only at e
        cases hv : σ.env d <;> rw [hv] at e <;> first | (simp at e; done) | skip
        case tup xs =>
          cases xs with
          | cons _ _ => simp at e
          | nil =>
          have hrd := h.env d
          rw [hv] at hrd
          rw [if_neg (by rw [off_wanted hgu hj hrd]; simp)]
          exact skip _ h hd e
        rename_i b
        simp only at e
        have hrd := h.env d
        rw [hv] at hrd
        simp only [Rep] at hrd
        have hy : yielded ops a.tmps j = some b := by
          unfold yielded
          rw [hj]
          have : a.tmps[d]? = some (.bool b) := by
            rw [Array.getD_eq_getD_getElem?] at hrd
            cases hq : a.tmps[d]? with
            | none => rw [hq] at hrd; simp [undef] at hrd
            | some x => rw [hq] at hrd; simp at hrd; rw [hrd]
          simp [this]
        have hf := flag_rel h hv
        have hdf : ∀ b', dstOk (setFlag σ d b') o = true := fun _ => hd
        unfold br at e
        have hw : Region.wanted o (yielded ops a.tmps) = (b == want) := by
          simp only [Region.wanted, hgu, hy]
          cases b <;> cases want <;> rfl
        rw [hw]
        cases b <;> cases want <;> simp only at e
        · rw [if_pos (by decide)]; exact .inl (go _ hf (hdf _) e)
        · rw [if_neg (by simp)]; exact skip _ hf (hdf _) e
        · rw [if_neg (by simp)]; exact skip _ hf (hdf _) e
        · rw [if_pos (by decide)]; exact .inl (go _ hf (hdf _) e)
end Go.Proofs.YtlcnpecejhcnfaaDoor.EV
