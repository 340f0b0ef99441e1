/- Functions. No conditions. -/
import Derived.Test.YtegchimmolpmeaaGreatEVcallok3
namespace Go.Proofs.YtegchimmolpmeaaGreat.EV
set_option linter.unusedVariables false
set_option linter.unusedSimpArgs false
open Go Go.RowKit

/-- One result of a frame. -/
def oneRes (a : Act) : ResultVar → Sem Value
  | .tmp t => pure (a.tmps.getD t undef)
  | .cell b t => do loadVar t (← asAddr (a.tmps.getD b undef))
theorem results_ok {P : Program} {w : World} {C : Ctx} {a : Act} {σ : St} (hm : RelH P w C σ.heap) (he : ∀ t, Rep w C (σ.env t) (a.tmps.getD t undef)) : ∀ (rv : List ResultVar) (vs : List AV), resultsOf P σ rv = some vs →
    ∃ us : List Value, Sem.run P (rv.mapM (oneRes a)) w = Result.ok us w ∧ RepL w C vs us
  | [], vs, h => by
    simp only [resultsOf, Option.some.injEq] at h
    subst h
    exact ⟨[], rfl, rfl⟩
  | .tmp t :: r, vs, h => by
    simp only [resultsOf] at h
    cases h1 : resultsOf P σ r with
    | none => rw [h1] at h; simp at h
    | some vr =>
      rw [h1] at h
      simp only [Option.some.injEq] at h
      subst h
      obtain ⟨us, e1, e2⟩ := results_ok hm he r vr h1
      refine ⟨a.tmps.getD t undef :: us, ?_, _, us, rfl, he t, e2⟩
      rw [List.mapM_cons, Sem.run_bind]
      show ((Sem.run P (pure (a.tmps.getD t undef)) w).andThen _) = _
      rw [Sem.run_pure, Result.andThen_ok, Sem.run_bind, e1]
      rfl
  | .cell b t :: r, vs, h => by
    simp only [resultsOf] at h
    split at h
    · rename_i v nw dd fz vr h1 h2
      simp only [Option.some.injEq] at h
      subst h
      obtain ⟨us, e1, e2⟩ := results_ok hm he r vr h2
      obtain ⟨_, _, _, u, q1, q2⟩ := load_ok hm (he b) h1 rfl
      have q3 : (oneRes a (.cell b t)).run P w = .ok u w := by
        unfold oneRes
        rw [Sem.run_bind]
        unfold Instr.loadAt at q1
        rw [Sem.run_bind] at q1
        cases hv : a.tmps.getD b undef <;> rw [hv] at q1 <;> first | (simp [Instr.sureAddr, stuck] at q1; done) | skip
        rename_i p
        cases p with
        | none => simp [Instr.sureAddr, stuck] at q1
        | some p => exact q1
      refine ⟨u :: us, ?_, _, us, rfl, q2, e2⟩
      rw [List.mapM_cons, Sem.run_bind, q3, Result.andThen_ok, Sem.run_bind, e1]
      rfl
    · simp at h
theorem run_results {P : Program} {w : World} {C : Ctx} {a : Act} {σ : St} {fn : Func} (hm : RelH P w C σ.heap) (he : ∀ t, Rep w C (σ.env t) (a.tmps.getD t undef)) {vs : List AV} (h : resultsOf P σ fn.results.toList = some vs) :
    ∃ us : List Value, (results fn a.tmps).run P w = .ok (oneOr us) w ∧ RepL w C vs us := by
  obtain ⟨us, e1, e2⟩ := results_ok hm he _ _ h
  refine ⟨us, ?_, e2⟩
  have e3 : (fn.results.mapM (oneRes a)).run P w = .ok us.toArray w := by
    have : fn.results.mapM (oneRes a) = List.toArray <$> fn.results.toList.mapM (oneRes a) := by
      rw [← List.mapM_toArray]
    rw [this, Sem.run_map, e1]
    rfl
  show (Sem.run P (fn.results.mapM (oneRes a) >>= _) w) = _
  rw [Sem.run_bind, e3, Result.andThen_ok]
  match us with
  | [] => rfl
  | [u] => rfl
  | u :: v :: r => rfl

theorem look_numbered : ∀ (l : List AV) (j t : Nat), look (numbered j l) t = if j ≤ t then l[t - j]? else none
  | [], j, t => by simp [numbered, look]
  | x :: r, j, t => by
    unfold numbered look
    cases h : Nat.beq t j with
    | true =>
      have := nbeq_eq h
      subst this
      simp
    | false =>
      have hne : t ≠ j := fun q => by subst q; simp at h
      simp only
      rw [look_numbered r (j + 1) t]
      by_cases h1 : j + 1 ≤ t
      · rw [if_pos h1, if_pos (by omega), show t - j = (t - (j + 1)) + 1 by omega]; rfl
      · rw [if_neg h1, if_neg (by omega)]
theorem takeArgs_len : ∀ (as : List AV) (b : Nat), (takeArgs b as).1.length ≤ as.length
  | [], _ => Nat.le_refl _
  | v :: r, b => by
    cases v
    case ref e cs => exact Nat.succ_le_succ (takeArgs_len r (b + 1))
    case tup bs => exact Nat.le_succ_of_le (takeArgs_len r (b + bs.length))
    all_goals exact Nat.succ_le_succ (takeArgs_len r b)

/-- Every function of the table does what the evaluator says. -/
theorem evF_ok {cp : CP} (hcp : CpOk cp) (hdr : ∀ orc, OrcOk cp orc → DrawOk cp orc) : ∀ k, OrcOk cp (evF cp k)
  | 0 => by
    intro f fn as r _ h
    rw [evF_zero] at h
    cases h
  | k + 1 => by
    intro f fn as r hf h w C0 cargs h1 h2 h3
    have ih := evF_ok hcp hdr k
    rw [evF_succ] at h
    unfold evBody at h
    rw [hf] at h
    simp only at h
    cases hb : fn.body with
    | none => rw [hb] at h; simp at h
    | some c =>
      rw [hb] at h
      simp only at h
      cases hl : Nat.ble as.length fn.ntmps with
      | false => rw [hl] at h; simp at h
      | true =>
        rw [hl] at h
        simp only at h
        have hle := Nat.le_of_ble_eq_true hl
        have hcl : cargs.length ≤ as.length := by rw [← repL_length h2]; exact takeArgs_len as 0
        refine calls_of_wp (hcp f fn hf).1 hb ?_
        refine evC_ok (call_ok hcp ih) (hdr _ ih) k (fiOf fn) c _ _ _ _ r h w C0 (look (takeArgs 0 as).2) w C0 _ ⟨h1, fun t => ?_, h3, ?_, rfl, Kept.refl _ _ _, ⟨fun id L e => ?_, fun id b hb => ⟨takeArgs_look hb, fun q => q⟩⟩, Nat.le_refl _⟩ _ fun e σ' w' C' a' hr' hk => ?_
        · show Rep w C0 (ofList (numbered 0 (takeArgs 0 as).1) .any t) _
          unfold ofList
          rw [look_numbered]
          simp only [Nat.zero_le, if_true, Nat.sub_zero]
          cases hx : (takeArgs 0 as).1[t]? with
          | none => trivial
          | some x =>
            obtain ⟨v, q1, q2⟩ := repL_get h2 hx
            have hlt := (List.getElem?_eq_some_iff.1 q1).1
            have : (cargs.toArray ++ Array.replicate (fn.ntmps - cargs.toArray.size) undef).getD t undef = v := by
              rw [Array.getD_eq_getD_getElem?, Array.getElem?_append_left (by simpa using hlt)]
              simp [q1]
            rw [this]
            exact q2
        · show (cargs.toArray ++ Array.replicate (fn.ntmps - cargs.toArray.size) undef).size = fn.ntmps
          simp; omega
        · show id < (takeArgs 0 as).2.length
          rcases Nat.lt_or_ge id (takeArgs 0 as).2.length with q | q
          · exact q
          · rw [h3 id q] at e; cases e
        · have fin : ∀ e', e = e' → e' ≠ .exit 0 ∨ True → finish cp fn f (refTys as) σ' = some r → a'.defers = [] ∧ ∃ v, (results fn a'.tmps).run cp.P w' = .ok v w' ∧ Ran cp w C0 (look (takeArgs 0 as).2) fn f (refTys as) r (.returned v) w' := by
            intro e' _ _ hfin
            unfold finish at hfin
            cases hres : resultsOf cp.P σ' fn.results.toList with
            | none => rw [hres] at hfin; simp at hfin
            | some vs =>
              rw [hres] at hfin
              obtain ⟨us, q1, q2⟩ := run_results hr'.mem hr'.env hres
              exact ⟨hr'.defers, _, q1, C', σ'.heap, vs, us, rfl, hr'.kept, hr'.mem, q2, hfin, fun id b hb => (hr'.nr.2 id b hb).2⟩
          cases e with
          | normal => exact fin .normal rfl (.inr trivial) hk
          | exit id => exact absurd hk (by unfold lastK; simp)
          | ret => exact fin .ret rfl (.inr trivial) hk
end Go.Proofs.YtegchimmolpmeaaGreat.EV
