/- Every operation but a call. No conditions. -/
import Derived.Test.YtlcnpecejhcnfaaDoorEVop
namespace Go.Proofs.YtlcnpecejhcnfaaDoor.EV
set_option linter.unusedVariables false
set_option linter.unusedSimpArgs false
open Go Go.RowKit

theorem did_eq {P : Program} {w : World} {C : Ctx} {H : Nat → Option Blk} {base : Nat} {s s' : Sem Next} {v : AV} {H' : Nat → Option Blk} (e : s.run P w = s'.run P w) (h : Did P w C H base s' v H') : Did P w C H base s v H' := by
  obtain ⟨nx, u, w', C', e1, e2⟩ := h.out
  exact ⟨nx, u, w', C', e.trans e1, e2⟩
theorem bound_at {w : World} {C : Ctx} {ρ : Operand → AV} {ev : Operand → Value} (hρ : ∀ x, Rep w C (ρ x) (ev x)) (x : Option Operand) : asBound w C (x.map ρ) (x.map ev) := by
  cases x with
  | none => trivial
  | some x => exact hρ x
theorem args_get {ev : Operand → Value} {args : Array Operand} : (args.map ev).toList = args.toList.map ev := by simp

theorem builtin_ok {P : Program} {w : World} {C : Ctx} {H : Nat → Option Blk} (hH : RelH P w C H) (base : Nat) (hb : C.φ base = none) (b : Builtin) (ts : Array TypeId) (ty : TypeId) (cons : Array Bool) {xs : List AV} {vs : Array Value} (r : RepL w C xs vs.toList)
    {g : Bool} {v : AV} {nw : List (Nat × Blk)} {dd fz : List Nat} (h : builtinA P H base b ts.toList xs = .val g v nw dd fz) (hg : g = true) : Did P w C H base (builtin b ts ty cons vs) v (after H nw dd fz) := by
  obtain ⟨vl⟩ := vs
  obtain ⟨tl⟩ := ts
  simp only at r h
  cases b <;> first | (simp only [builtinA, reduceCtorEq] at h; done) | skip
  · -- append
    match xs, r, h with
    | [s, x], r, h =>
      obtain ⟨vs, r1, rfl, rs, r2⟩ := r
      obtain ⟨vx, r3, rfl, rx, r4⟩ := r2
      cases r4
      simp only [builtinA] at h
      match tl, h with
      | [t, t'], h =>
        simp only at h
        cases ht : und P t <;> rw [ht] at h <;> first | (simp at h; done) | skip
        rename_i e
        simp only at h
        cases hz : (okZ P e && notInt P t') <;> rw [hz] at h <;> simp only [reduceCtorEq] at h
        rw [Bool.and_eq_true] at hz
        refine did_eq (s' := do pure (.value (← Builtin.append_ #[t, t'] ty #[vs, vx]))) rfl ?_
        have go : ∀ n cs, sliceOf P e H x = some (n, cs) → appendA P H base e s n cs (exactly x cs (mulN n (szOf P e))) = .val g v nw dd fz → Did P w C H base (do pure (.value (← Builtin.append_ #[t, t'] ty #[vs, vx]))) v (after H nw dd fz) :=
          fun n cs h1 h2 => append_ok hH base hb hz.1 rs (fun q => src_slice hH rx h1 q) ht hz.2 ty h2 hg
        cases x <;> simp only at h
        case str z =>
          simp only [Rep] at rx
          subst rx
          refine append_ok hH base hb hz.1 rs (fun q => ?_) ht hz.2 ty h hg
          rw [nbeq_eq q]
          exact ⟨_, src_str⟩
        all_goals
          split at h
          · rename_i q
            exact go _ _ q h
          · simp at h
  · -- len
    match xs, r, h with
    | [x], r, h =>
      obtain ⟨vx, r1, rfl, rx, r2⟩ := r
      cases r2
      simp only [builtinA] at h
      match tl, h with
      | t :: tr, h =>
        simp only at h
        refine did_eq (s' := do pure (.value (← Builtin.len_ ⟨t :: tr⟩ ty #[vx]))) rfl ?_
        cases ht : und P t <;> rw [ht] at h <;> first | (simp at h; done) | skip
        · cases x <;> simp only [Res.pure, reduceCtorEq, Res.val.injEq] at h
          obtain ⟨rfl, rfl, rfl, rfl, rfl⟩ := h
          simp only [Rep] at rx
          subst rx
          refine did_val hH (u := .int .i64 _) ?_ rfl
          unfold Builtin.len_
          simp only [List.getElem?_toArray, List.getElem?_cons_zero, Sem.run_bind, run_und ht (by simp), Result.andThen_ok]
          rfl
        · cases x <;> simp only [Res.pure, reduceCtorEq, Res.val.injEq] at h
          all_goals
            obtain ⟨rfl, rfl, rfl, rfl, rfl⟩ := h
          · obtain ⟨a, rfl⟩ := rx
            refine did_val hH (u := .int .i64 0) ?_ rfl
            unfold Builtin.len_
            simp only [List.getElem?_toArray, List.getElem?_cons_zero, Sem.run_bind, run_und ht (by simp), Result.andThen_ok]
            rfl
          all_goals
            obtain ⟨a, cap, rfl, _⟩ := rx
            refine did_val hH (u := .int .i64 _) ?_ rfl
            unfold Builtin.len_
            simp only [List.getElem?_toArray, List.getElem?_cons_zero, Sem.run_bind, run_und ht (by simp), Result.andThen_ok]
            rfl
  · -- max
    match xs, r, h with
    | [x, y], r, h =>
      obtain ⟨vx, r1, rfl, rx, r2⟩ := r
      obtain ⟨vy, r3, rfl, ry, r4⟩ := r2
      cases r4
      simp only [builtinA] at h
      cases x <;> cases y <;> simp only [Res.pure, reduceCtorEq, Res.val.injEq] at h
      obtain ⟨rfl, rfl, rfl, rfl, rfl⟩ := h
      simp only [Rep] at rx ry
      subst rx; subst ry
      refine did_eq (s' := do pure (.value (← (pure (.int _ (maxI _ _)) : Sem Value)))) rfl (did_val hH rfl rfl)
  · match xs, r, h with
    | [x, y], r, h =>
      obtain ⟨vx, r1, rfl, rx, r2⟩ := r
      obtain ⟨vy, r3, rfl, ry, r4⟩ := r2
      cases r4
      simp only [builtinA] at h
      cases x <;> cases y <;> simp only [Res.pure, reduceCtorEq, Res.val.injEq] at h
      obtain ⟨rfl, rfl, rfl, rfl, rfl⟩ := h
      simp only [Rep] at rx ry
      subst rx; subst ry
      refine did_eq (s' := do pure (.value (← (pure (.int _ (minI _ _)) : Sem Value)))) rfl (did_val hH rfl rfl)
end Go.Proofs.YtlcnpecejhcnfaaDoor.EV
