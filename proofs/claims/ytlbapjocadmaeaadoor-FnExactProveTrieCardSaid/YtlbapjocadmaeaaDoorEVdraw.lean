/- Regions that draw their order, 1: one operation, wherever it comes up. No conditions. -/
import Derived.Test.YtlbapjocadmaeaaDoorEVfn
import Derived.Test.YtlbapjocadmaeaaDoorEVmono
import Derived.Test.YtlbapjocadmaeaaDoorEVlocal
namespace Go.Proofs.YtlbapjocadmaeaaDoor.EV
set_option linter.unusedVariables false
set_option linter.unusedSimpArgs false
open Go Go.RowKit

theorem rel_congr {P : Program} {w : World} {C : Ctx} {H H' : Nat → Option Blk} (h : RelH P w C H) (e : ∀ id L, C.φ id = some L → H' id = H id) : RelH P w C H' := by
  refine ⟨fun id L q => ?_, fun id id' L L' k k' q q' a b => ?_, h.old⟩
  · rw [e id L q]; exact h.blk id L q
  · rw [e id L q] at a; rw [e id' L' q'] at b; exact h.apart id id' L L' k k' q q' a b
theorem kept_congr {w0 : World} {C0 : Ctx} {H0 : Nat → Option Blk} {w : World} {C : Ctx} {H H' : Nat → Option Blk} (h : Kept w0 C0 H0 w C H) (e : ∀ id L, C.φ id = some L → H' id = H id) : Kept w0 C0 H0 w C H' :=
  { h with
    rw := fun b ⟨id, L, k, q1, q2, q3⟩ => h.rw b ⟨id, L, k, q1, by rw [← e id L q1]; exact q2, q3⟩
    rwa := fun b ⟨id, L, k, q1, q2, q3⟩ => h.rwa b ⟨id, L, k, q1, by rw [← e id L q1]; exact q2, q3⟩ }
theorem relB_congr {P : Program} {w0 : World} {C0 : Ctx} {H0 : Nat → Option Blk} {w : World} {C : Ctx} {a : Act} {σ σ' : St} {B B' : Nat} (h : RelB P w0 C0 H0 w C a σ B) (he : ∀ t, σ'.env t = σ.env t) (hh : ∀ id L, C.φ id = some L → σ'.heap id = σ.heap id)
    (hnt : σ'.nt = σ.nt) (hnr : σ'.nr = σ.nr) (hB : ∀ id, B' ≤ id → C.φ id = none) (hN : σ.nr ≤ B') : RelB P w0 C0 H0 w C a σ' B' :=
  ⟨rel_congr h.mem hh, fun t => by rw [he t]; exact h.env t, hB, by rw [hnt]; exact h.size, h.defers, kept_congr h.kept hh, by rw [hnr]; exact h.nr, by rw [hnr]; exact hN⟩
theorem relB_drawn {P : Program} {w0 : World} {C0 : Ctx} {H0 : Nat → Option Blk} {w : World} {C : Ctx} {a : Act} {σ : St} {B : Nat} (h : RelB P w0 C0 H0 w C a σ B) (n : Nat) : RelB P w0 C0 H0 { w with drawn := n } C a σ B := by
  have st : Step w C { w with drawn := n } C := ⟨fun _ _ q => q, fun _ q => q, fun _ _ => rfl⟩
  refine ⟨rel_world h.mem (Nat.le_refl _) (fun _ _ => rfl) (fun _ _ _ _ _ _ => rfl), fun t => rep_step st _ _ (h.env t), h.fresh, h.size, h.defers, h.kept.trans ?_, h.nr, h.nb⟩
  exact ⟨st, rfl, rfl, rfl, Nat.le_refl _, fun _ _ _ => rfl, fun _ q => .inl q, fun _ q => .inl q, fun _ q => .inl q⟩

/-! What is done to the memory, block by block. -/
theorem setSt_pt {s : Nat} {id : Nat} : ∀ {l : List Nat} {h h' : Nat → Option Blk}, h id = h' id → setSt h s l id = setSt h' s l id
  | [], _, _, e => e
  | j :: r, h, h', e => by
    unfold setSt
    refine setSt_pt (l := r) ?_
    by_cases q : id = j
    · subst q; rw [upd_same, upd_same, e]
    · rw [upd_other _ _ q, upd_other _ _ q, e]
def keys {α : Type} (l : List (Nat × α)) : List Nat := l.map (·.1)
theorem upds_pt {α : Type} {id : Nat} : ∀ {l : List (Nat × α)} {f f' : Nat → Option α}, f id = f' id → upds f l id = upds f' l id
  | [], _, _, e => e
  | (j, v) :: r, f, f', e => by
    unfold upds
    refine upds_pt (l := r) ?_
    by_cases q : id = j
    · subst q; rw [upd_same, upd_same]
    · rw [upd_other _ _ q, upd_other _ _ q, e]
theorem upds_in {α : Type} {id : Nat} : ∀ {l : List (Nat × α)} {f f' : Nat → Option α}, id ∈ keys l → upds f l id = upds f' l id
  | [], _, _, e => by simp [keys] at e
  | (j, v) :: r, f, f', e => by
    unfold upds
    by_cases q : id = j
    · subst q; exact upds_pt (by rw [upd_same, upd_same])
    · exact upds_in (by simpa [keys, q] using e)
theorem upds_not {α : Type} {id : Nat} : ∀ {l : List (Nat × α)} {f : Nat → Option α}, id ∉ keys l → upds f l id = f id
  | [], _, _ => rfl
  | (j, v) :: r, f, e => by
    unfold upds
    have q : id ≠ j := fun q => e (by simp [keys, q])
    rw [upds_not (l := r) (fun m => e (by simp only [keys, List.map_cons, List.mem_cons] at m ⊢; exact .inr m)), upd_other _ _ q]
theorem takeRefs_pt {P : Program} {id : Nat} : ∀ {l : List Nat} {vs : List AV} {h h' f f' : Nat → Option Blk}, h id = h' id → f id = f' id → upds f (takeRefs P h l vs) id = upds f' (takeRefs P h' l vs) id
  | [], _, _, _, _, _, _, e => e
  | j :: r, vs, h, h', f, f', e, e2 => by
    by_cases q : id = j
    · subst q
      rw [takeRefs, takeRefs, ← e]
      cases h id with
      | none => exact takeRefs_pt e e2
      | some b => simp only [upds]; exact takeRefs_pt e (by rw [upd_same, upd_same])
    · have one : ∀ (g : Nat → Option Blk) (k : Nat → Option Blk), upds k (takeRefs P g (j :: r) vs) id = upds k (takeRefs P g r (tlV vs)) id := by
        intro g k
        rw [takeRefs]
        cases g j with
        | none => rfl
        | some b => simp only [upds]; exact upds_pt (upd_other _ _ q)
      rw [one, one]
      exact takeRefs_pt e e2
theorem takeRefs_keys {P : Program} {id : Nat} : ∀ {l : List Nat} {vs : List AV} {h : Nat → Option Blk}, id ∈ keys (takeRefs P h l vs) → id ∈ l
  | [], _, _, e => by simp [takeRefs, keys] at e
  | j :: r, vs, h, e => by
    unfold takeRefs at e
    cases q : h j with
    | none => rw [q] at e; simp [takeRefs_keys e]
    | some b =>
      rw [q] at e
      simp only [keys, List.map_cons, List.mem_cons] at e
      rcases e with e | e
      · simp [e]
      · simp [takeRefs_keys (l := r) (vs := (tlV vs)) (h := h) e]

/-! The numbers of what a call brings. -/
theorem take1_keys {fresh : Bool} {b : Nat} {s : Sc} {e : TypeId} {v : AV} {id : Nat} (h : id ∈ keys (take1 fresh b s e v).2.1) : b ≤ id ∧ id < (take1 fresh b s e v).2.2 := by
  unfold take1 at h ⊢
  split <;> simp [keys] at h ⊢
  omega
theorem takeIn_keys {fresh : Bool} {id : Nat} : ∀ {ss : List Sc} {es : List TypeId} {vs : List AV} {b : Nat}, id ∈ keys (takeIn fresh b ss es vs).2.1 → b ≤ id ∧ id < (takeIn fresh b ss es vs).2.2
  | [], _, _, _, h => by simp [takeIn, keys] at h
  | s :: ss, es, vs, b, h => by
    unfold takeIn at h ⊢
    simp only [keys, List.map_append, List.mem_append] at h ⊢
    have l1 := take1_le fresh b s (es.headD 0) (hdV vs)
    have l2 := takeIn_le fresh ss es.tail (tlV vs) (take1 fresh b s (es.headD 0) (hdV vs)).2.2
    rcases h with h | h
    · have := take1_keys h; omega
    · have := takeIn_keys (ss := ss) h; omega
theorem takeV_keys {fresh : Bool} {b : Nat} {s : Sc} {e : TypeId} {v : AV} {id : Nat} (h : id ∈ keys (takeV fresh b s e v).2.1) : b ≤ id ∧ id < (takeV fresh b s e v).2.2 := by
  unfold takeV at h ⊢
  split at h
  · simp [keys] at h ⊢; omega
  · exact take1_keys h
theorem takeVal_keys {fresh : Bool} {P : Program} {b : Nat} {t : TypeId} {r : AV} {id : Nat} (h : id ∈ keys (takeVal fresh P b t r).2.1) : b ≤ id ∧ id < (takeVal fresh P b t r).2.2 := by
  unfold takeVal at h ⊢
  cases hb : bigA P t with
  | some p => rw [hb] at h; simp [keys] at h
  | none =>
    rw [hb] at h
    cases ha : isAggT P t with
    | true => rw [ha] at h; exact takeIn_keys h
    | false => rw [ha] at h; exact takeV_keys h
theorem takeVals_keys {fresh : Bool} {P : Program} {id : Nat} : ∀ {ts : List TypeId} {vs : List AV} {b : Nat}, id ∈ keys (takeVals fresh P b ts vs).2.1 → b ≤ id ∧ id < (takeVals fresh P b ts vs).2.2
  | [], _, _, h => by simp [takeVals, keys] at h
  | t :: ts, vs, b, h => by
    unfold takeVals at h ⊢
    simp only [keys, List.map_append, List.mem_append] at h ⊢
    have l1 := takeVal_le fresh P b t (hdV vs)
    have l2 := takeVals_le fresh P ts (tlV vs) (takeVal fresh P b t (hdV vs)).2.2
    rcases h with h | h
    · have := takeVal_keys h; omega
    · have := takeVals_keys (ts := ts) h; omega

def dstAt (ops : Array Oper) (j : Nat) : Option Tmp := (ops[j]?).bind (·.dst)
/-- The flag of a guard says so. -/
def Flag (ops : Array Oper) (o : Oper) (σ : St) (want : Bool → Bool) : Prop := ∃ j b d, o.guard = some (j, b) ∧ dstAt ops j = some d ∧ σ.env d = .bool (want b)

/-- The guard was not done itself. -/
def Off (ops : Array Oper) (o : Oper) (σ : St) : Prop := ∃ j b d, o.guard = some (j, b) ∧ dstAt ops j = some d ∧ σ.env d = .tup []
/-- What an operation comes to, in the listed order; last: the blocks of before that it touches. -/
inductive OpStep (cp : CP) (orc : Orc) (ops : Array Oper) (A : List Nat) (base0 i : Nat) (o : Oper) (σ : St) : St → List Nat → Bool → Prop where
  | skip (h0 : dstOk σ o = true) (h1 : Flag ops o σ (!·) ∨ Off ops o σ) : OpStep cp orc ops A base0 i o σ (setAny σ o) [] false
  | val {v : AV} {news : List (Nat × Blk)} {dead froz : List Nat} (h0 : dstOk σ o = true) (h1 : o.guard = none ∨ Flag ops o σ id) (h2 : evR cp (evOperand σ.env) σ.heap (base0 + stride * i) o = .val true v news dead froz)
      (h3 : (quiet (touchV (base0 + stride * i) news dead froz) || chgOk cp ops A base0 i o (softV σ.heap (base0 + stride * i) news dead froz) (touchV (base0 + stride * i) news dead froz)) = true) : OpStep cp orc ops A base0 i o σ (putVal σ o v news dead froz) (touchV (base0 + stride * i) news dead froz) (softV σ.heap (base0 + stride * i) news dead froz)
  | call {f : FuncId} {args : List AV} {froz refs : List Nat} {r : List AV} (h0 : dstOk σ o = true) (h1 : o.guard = none ∨ Flag ops o σ id) (h2 : evR cp (evOperand σ.env) σ.heap (base0 + stride * i) o = .call f args froz refs)
      (h3 : (quiet (touchC cp f froz refs) || chgOk cp ops A base0 i o (softC cp σ.heap f froz refs) (touchC cp f froz refs)) = true) (h4 : orc f args = some r) (h5 : callFits cp (base0 + stride * i) f froz refs r = true) :
      OpStep cp orc ops A base0 i o σ (putCall cp σ (base0 + stride * i) o f froz refs r) (touchC cp f froz refs) (softC cp σ.heap f froz refs)

theorem setFlag_self {σ : St} {d : Nat} {b : Bool} (h : σ.env d = .bool b) : setFlag σ d b = σ := by unfold setFlag; rw [upd_self _ _ _ h]
theorem trace {cp : CP} {orc : Orc} {ops : Array Oper} {A : List Nat} {base0 : Nat} {K : St → Option (List AV)} {r : List AV} : ∀ (rest : List Oper) (i : Nat) (σ : St), rest = ops.toList.drop i → i ≤ ops.size →
    evDraw cp orc ops A base0 rest i (base0 + stride * i) σ K = some r →
    ∃ (s : Nat → St) (T : Nat → List Nat) (Sf : Nat → Bool), s i = σ ∧ (∀ k o, i ≤ k → ops[k]? = some o → OpStep cp orc ops A base0 k o (s k) (s (k + 1)) (T k) (Sf k)) ∧ K { s ops.size with next := base0 + stride * ops.size } = some r
  | [], i, σ, hr, hi, h => by
    have : i = ops.size := by
      have := congrArg List.length hr
      simp at this; omega
    subst this
    exact ⟨fun _ => σ, fun _ => [], fun _ => false, rfl, fun k o hk ho => by have := (Array.getElem?_eq_some_iff.1 ho).1; omega, h⟩
  | o :: rest, i, σ, hr, hi, h => by
    have hi : i < ops.size := by
      have := congrArg List.length hr
      simp at this; omega
    have ho : ops[i]? = some o := by
      have := congrArg (fun l => l[0]?) hr
      simp only [List.getElem?_cons_zero, List.getElem?_drop, Nat.add_zero] at this
      simpa using this.symm
    have hrest : rest = ops.toList.drop (i + 1) := by
      have := congrArg List.tail hr
      simpa [List.tail_drop] using this
    have hb : base0 + stride * i + stride = base0 + stride * (i + 1) := by rw [Nat.mul_succ]; omega
    have glue : ∀ σ' ids sf, OpStep cp orc ops A base0 i o σ σ' ids sf → evDraw cp orc ops A base0 rest (i + 1) (base0 + stride * i + stride) σ' K = some r →
        ∃ (s : Nat → St) (T : Nat → List Nat) (Sf : Nat → Bool), s i = σ ∧ (∀ k o, i ≤ k → ops[k]? = some o → OpStep cp orc ops A base0 k o (s k) (s (k + 1)) (T k) (Sf k)) ∧ K { s ops.size with next := base0 + stride * ops.size } = some r := by
      intro σ' ids sf st e
      rw [hb] at e
      obtain ⟨s, T, Sf, q1, q2, q3⟩ := trace rest (i + 1) σ' hrest (by omega) e
      refine ⟨fun k => if k ≤ i then σ else s k, fun k => if k = i then ids else T k, fun k => if k = i then sf else Sf k, by simp, fun k o' hk ho' => ?_, by simp only [show ¬ ops.size ≤ i by omega, if_false]; exact q3⟩
      by_cases e : k = i
      · subst e
        rw [ho] at ho'; cases ho'
        simp only [Nat.le_refl, if_true, show ¬ (k + 1 ≤ k) by omega, if_false, q1]
        exact st
      · simp only [show ¬ k ≤ i by omega, show ¬ k + 1 ≤ i by omega, if_false, e]
        exact q2 k o' (by omega) ho'
    unfold evDraw at h
    cases hd : dstOk σ o with
    | false => rw [hd] at h; simp at h
    | true =>
    rw [hd] at h
    simp only at h
    have go : (o.guard = none ∨ Flag ops o σ id) → (match evR cp (evOperand σ.env) σ.heap (base0 + stride * i) o with
        | .no => none
        | .val g v news dead froz => match quiet (touchV (base0 + stride * i) news dead froz) || chgOk cp ops A base0 i o (softV σ.heap (base0 + stride * i) news dead froz) (touchV (base0 + stride * i) news dead froz) with
          | false => none
          | true => gd g (evDraw cp orc ops A base0 rest (i + 1) (base0 + stride * i + stride) (putVal σ o v news dead froz) K)
        | .call f args froz refs => match quiet (touchC cp f froz refs) || chgOk cp ops A base0 i o (softC cp σ.heap f froz refs) (touchC cp f froz refs) with
          | false => none
          | true => bnd (orc f args) fun r => gd (callFits cp (base0 + stride * i) f froz refs r) (evDraw cp orc ops A base0 rest (i + 1) (base0 + stride * i + stride) (putCall cp σ (base0 + stride * i) o f froz refs r) K)) = some r →
        ∃ (s : Nat → St) (T : Nat → List Nat) (Sf : Nat → Bool), s i = σ ∧ (∀ k o, i ≤ k → ops[k]? = some o → OpStep cp orc ops A base0 k o (s k) (s (k + 1)) (T k) (Sf k)) ∧ K { s ops.size with next := base0 + stride * ops.size } = some r := by
      intro hg e
      cases hev : evR cp (evOperand σ.env) σ.heap (base0 + stride * i) o with
      | no => rw [hev] at e; simp at e
      | val g v news dead froz =>
        rw [hev] at e
        simp only at e
        cases hq : (quiet (touchV (base0 + stride * i) news dead froz) || chgOk cp ops A base0 i o (softV σ.heap (base0 + stride * i) news dead froz) (touchV (base0 + stride * i) news dead froz)) <;> rw [hq] at e <;> simp only [reduceCtorEq] at e
        unfold gd at e
        cases g <;> simp only [reduceCtorEq] at e
        exact glue _ _ _ (.val hd hg hev hq) e
      | call f args froz refs =>
        rw [hev] at e
        simp only at e
        cases hq : (quiet (touchC cp f froz refs) || chgOk cp ops A base0 i o (softC cp σ.heap f froz refs) (touchC cp f froz refs)) <;> rw [hq] at e <;> simp only [reduceCtorEq] at e
        unfold bnd at e
        cases hor : orc f args with
        | none => rw [hor] at e; simp at e
        | some r' =>
          rw [hor] at e
          simp only at e
          unfold gd at e
          cases hfit : callFits cp (base0 + stride * i) f froz refs r' with
          | false => rw [hfit] at e; simp at e
          | true =>
          rw [hfit] at e
          exact glue _ _ _ (.call hd hg hev hq hor hfit) e
    cases hgu : o.guard with
    | none =>
      rw [hgu] at h
      exact go (.inl hgu) h
    | some p =>
      obtain ⟨j, want⟩ := p
      rw [hgu] at h
      simp only at h
      cases hj : (ops[j]?).bind (·.dst) with
      | none => rw [hj] at h; simp at h
      | some d =>
        rw [hj] at h
        simp only at h
        cases hv : σ.env d <;> rw [hv] at h <;> first | (simp at h; done) | skip
        case tup xs =>
          cases xs with
          | cons _ _ => simp at h
          | nil => exact glue _ _ _ (.skip hd (.inr ⟨j, want, d, hgu, hj, hv⟩)) h
        rename_i b
        simp only at h
        unfold br at h
        cases b <;> cases want <;> simp only [setFlag_self hv] at h
        · exact go (.inr ⟨j, false, d, hgu, hj, hv⟩) h
        · exact glue _ _ _ (.skip hd (.inl ⟨j, true, d, hgu, hj, hv⟩)) h
        · exact glue _ _ _ (.skip hd (.inl ⟨j, false, d, hgu, hj, hv⟩)) h
        · exact go (.inr ⟨j, true, d, hgu, hj, hv⟩) h
end Go.Proofs.YtlbapjocadmaeaaDoor.EV
