/- The evaluator looks at its operands alone; and who does not look at the memory. No conditions. -/
import Derived.Test.YtegchimmolpmeaaEVdef
namespace Go.Proofs.Ytegchimmolpmeaa.EV
set_option linter.unusedVariables false
set_option linter.unusedSimpArgs false
open Go
theorem map_opt {α β : Type} {f g : α → β} {x : Option α} (h : ∀ y ∈ x.toArray, f y = g y) : x.map f = x.map g := by
  cases x with
  | none => rfl
  | some y => simp at h; simp [h]
theorem evR_local {cp : CP} {h : Nat → Option Blk} {base : Nat} {o : Oper} {ρ ρ' : Operand → AV} (hρ : ∀ x ∈ o.op.operands, ρ x = ρ' x) : evR cp ρ h base o = evR cp ρ' h base o := by
  obtain ⟨dst, op, ty, pos, aft, gu⟩ := o
  have pairs : ∀ ps : Array (Nat × Operand), (∀ x ∈ (ps.toList.map (·.2)).toArray, ρ x = ρ' x) → ps.toList.map (fun p => (p.1, ρ p.2)) = ps.toList.map (fun p => (p.1, ρ' p.2)) := fun ps hp =>
    List.map_congr_left fun p hm => by
      have : ρ p.2 = ρ' p.2 := hp p.2 (by simp; exact ⟨p.1, by simpa using hm⟩)
      rw [this]
  cases op <;> simp only [Op.operands] at hρ <;> simp only [evR] <;> try rfl
  case build t ps => rw [pairs ps hρ]
  case buildSlice t n ps => rw [pairs ps hρ]
  case call c =>
    obtain ⟨callee, as, ats⟩ := c
    have ha : as.toList.map ρ = as.toList.map ρ' := List.map_congr_left fun x hx => hρ x (by simp [Call.operands]; right; simpa using hx)
    cases callee with
    | invoke r m => rfl
    | builtin b => simp only [ha]
    | value f =>
      have hf : ρ f = ρ' f := hρ f (by simp [Call.operands])
      simp only [ha, hf]
  case slice t x lo hi mx =>
    have hx : ρ x = ρ' x := hρ x (by simp)
    have hlo : lo.map ρ = lo.map ρ' := map_opt fun y hy => hρ y (by simp at hy ⊢; simp [hy])
    have hhi : hi.map ρ = hi.map ρ' := map_opt fun y hy => hρ y (by simp at hy ⊢; simp [hy])
    simp only [hx, hlo, hhi]
  case pick c a b =>
    have h1 := hρ c (by simp)
    have h2 := hρ a (by simp)
    have h3 := hρ b (by simp)
    simp only [h1, h2, h3]
  all_goals first
    | (have h1 := hρ _ (by simp; rfl); simp only [h1]; done)
    | (rename_i x y; have h1 := hρ x (by simp); have h2 := hρ y (by simp); simp only [h1, h2]; done)
    | (rename_i x y z; have h1 := hρ x (by simp); have h2 := hρ y (by simp); simp only [h1, h2]; done)
    | (rename_i t x y; have h1 := hρ x (by simp); have h2 := hρ y (by simp); simp only [h1, h2]; done)

theorem evR_blind {cp : CP} {h h' : Nat → Option Blk} {base : Nat} {o : Oper} {ρ : Operand → AV} (nt : tchB cp o = false) : evR cp ρ h base o = evR cp ρ h' base o := by
  obtain ⟨dst, op, ty, pos, aft, gu⟩ := o
  cases op <;> simp only [tchB, Bool.true_eq_false, reduceCtorEq] at nt <;> first | rfl | skip
  case convert s d x =>
    simp only [evR]
    generalize ρ x = v
    cases v <;> first | rfl | skip
    all_goals
      simp only [convA]
      cases hs : und cp.P s <;> rw [hs] at nt <;> first | rfl | simp at nt
  case call c =>
    obtain ⟨callee, as, ats⟩ := c
    cases callee with
    | value f => simp at nt
    | invoke r m => rfl
    | builtin b =>
      simp only [evR]
      generalize as.toList.map ρ = l
      cases b <;> first | (simp at nt; done) | skip
      all_goals
        rcases l with _ | ⟨x, _ | ⟨y, _ | ⟨z, l⟩⟩⟩ <;> rfl
end Go.Proofs.Ytegchimmolpmeaa.EV
