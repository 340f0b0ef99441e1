/- The evaluator looks at its operands alone; and who does not look at the memory. No conditions. -/
import Derived.Test.YtlbapjocadmaeaaDoorEVdef
namespace Go.Proofs.YtlbapjocadmaeaaDoor.EV
set_option linter.unusedVariables false
set_option linter.unusedSimpArgs false
open Go
theorem map_opt {α β : Type} {f g : α → β} {x : Option α} (h : ∀ y ∈ x.toArray, f y = g y) : x.map f = x.map g := by
  cases x with
  | none => rfl
  | some y => simp at h; simp [h]
theorem evR0_local {cp : CP} {h : Nat → Option Blk} {base : Nat} {o : Oper} {ρ ρ' : Operand → AV} (hρ : ∀ x ∈ o.op.operands, ρ x = ρ' x) : evR0 cp ρ h base o = evR0 cp ρ' h base o := by
  obtain ⟨dst, op, ty, pos, aft, gu⟩ := o
  have pairs : ∀ ps : Array (Nat × Operand), (∀ x ∈ (ps.toList.map (·.2)).toArray, ρ x = ρ' x) → ps.toList.map (fun p => (p.1, ρ p.2)) = ps.toList.map (fun p => (p.1, ρ' p.2)) := fun ps hp =>
    List.map_congr_left fun p hm => by
      have : ρ p.2 = ρ' p.2 := hp p.2 (by simp; exact ⟨p.1, by simpa using hm⟩)
      rw [this]
  cases op <;> simp only [Op.operands] at hρ <;> simp only [evR0] <;> try rfl
  case build t ps => rw [pairs ps hρ]
  case buildSlice t n ps => rw [pairs ps hρ]
  case call c =>
    obtain ⟨callee, as, ats⟩ := c
    have ha : as.toList.map ρ = as.toList.map ρ' := List.map_congr_left fun x hx => hρ x (by simp [Call.operands]; right; simpa using hx)
    cases callee with
    | invoke r m => rfl
    | builtin b => simp only [ha]
    | value f =>
      have hf : ρ f = ρ' f := hρ f (by simp [Call.operands])
      simp only [ha, hf]
  case slice t x lo hi mx =>
    have hx : ρ x = ρ' x := hρ x (by simp)
    have hlo : lo.map ρ = lo.map ρ' := map_opt fun y hy => hρ y (by simp at hy ⊢; simp [hy])
    have hhi : hi.map ρ = hi.map ρ' := map_opt fun y hy => hρ y (by simp at hy ⊢; simp [hy])
    simp only [hx, hlo, hhi]
  case pick c a b =>
    have h1 := hρ c (by simp)
    have h2 := hρ a (by simp)
    have h3 := hρ b (by simp)
    simp only [h1, h2, h3]
  all_goals first
    | (have h1 := hρ _ (by simp; rfl); simp only [h1]; done)
    | (rename_i x y; have h1 := hρ x (by simp); have h2 := hρ y (by simp); simp only [h1, h2]; done)
    | (rename_i x y z; have h1 := hρ x (by simp); have h2 := hρ y (by simp); simp only [h1, h2]; done)
    | (rename_i t x y; have h1 := hρ x (by simp); have h2 := hρ y (by simp); simp only [h1, h2]; done)

theorem evR0_blind {cp : CP} {h h' : Nat → Option Blk} {base : Nat} {o : Oper} {ρ : Operand → AV} (nt : tchB cp o = false) : evR0 cp ρ h base o = evR0 cp ρ h' base o := by
  obtain ⟨dst, op, ty, pos, aft, gu⟩ := o
  cases op <;> simp only [tchB, Bool.true_eq_false, reduceCtorEq] at nt <;> first | rfl | skip
  case convert s d x =>
    simp only [evR0]
    generalize ρ x = v
    cases v <;> first | rfl | skip
    all_goals
      simp only [convA]
      cases hs : und cp.P s <;> rw [hs] at nt <;> first | rfl | simp at nt
  case slice t x lo hi mx =>
    simp only [evR0]
    cases mx with
    | some _ => rfl
    | none =>
      generalize ρ x = v
      cases v <;> first | rfl | (cases hs : und cp.P t <;> rw [hs] at nt <;> first | rfl | simp at nt)
  case call c =>
    obtain ⟨callee, as, ats⟩ := c
    cases callee with
    | value f => simp at nt
    | invoke r m => rfl
    | builtin b =>
      simp only [evR0]
      generalize as.toList.map ρ = l
      cases b <;> first | (simp at nt; done) | skip
      all_goals
        rcases l with _ | ⟨x, _ | ⟨y, _ | ⟨z, l⟩⟩⟩ <;> rfl
theorem evP_local {cp : CP} {h : Nat → Option Blk} {o : Oper} {ρ ρ' : Operand → AV} (hρ : ∀ x ∈ o.op.operands, ρ x = ρ' x) : evP cp ρ h o = evP cp ρ' h o := by
  obtain ⟨dst, op, ty, pos, aft, gu⟩ := o
  cases op <;> simp only [Op.operands] at hρ <;> simp only [evP] <;> try rfl
  case convert s d x => rw [hρ x (by simp)]
  case binOp op t x y z => rw [hρ x (by simp), hρ y (by simp)]
  case call c =>
    obtain ⟨callee, as, ats⟩ := c
    have ha : as.toList.map ρ = as.toList.map ρ' := List.map_congr_left fun x hx => hρ x (by simp [Call.operands]; right; simpa using hx)
    cases callee with
    | invoke r m => rfl
    | builtin b => cases b <;> simp only [ha]
    | value f => simp only [ha]
theorem evA_local {cp : CP} {h : Nat → Option Blk} {base : Nat} {o : Oper} {ρ ρ' : Operand → AV} (hρ : ∀ x ∈ o.op.operands, ρ x = ρ' x) : evA cp ρ h base o = evA cp ρ' h base o := by
  have hL : evR0 cp (ρL cp ρ) h base o = evR0 cp (ρL cp ρ') h base o := evR0_local fun x hx => by
    cases x with
    | global g => rfl
    | _ => show liftV _ = liftV _; rw [hρ _ hx]
  obtain ⟨dst, op, ty, pos, aft, gu⟩ := o
  cases op <;> simp only [Op.operands] at hρ <;> simp only [evA] <;> try rfl
  case box t x => rw [hρ x (by simp)]
  case build t parts =>
    have ha : parts.toList.map (fun p => (p.1, ρ p.2)) = parts.toList.map (fun p => (p.1, ρ' p.2)) := List.map_congr_left fun p hp => by rw [hρ p.2 (by simp; exact ⟨p.1, by simpa using hp⟩)]
    rw [ha]
  case load t x => rw [hρ x (by simp), hL]
  case store t a x => rw [hρ x (by simp), hρ a (by simp)]
  case index t x ix => rw [hρ x (by simp), hρ ix (by simp)]
  case indexAddr t x ix => rw [hL]
theorem evA_blind {cp : CP} {h h' : Nat → Option Blk} {base : Nat} {o : Oper} {ρ : Operand → AV} (nt : tchB cp o = false) : evA cp ρ h base o = evA cp ρ h' base o := by
  obtain ⟨dst, op, ty, pos, aft, gu⟩ := o
  cases op <;> first | rfl | (simp [tchB] at nt; done)
theorem evR_local {cp : CP} {h : Nat → Option Blk} {base : Nat} {o : Oper} {ρ ρ' : Operand → AV} (hρ : ∀ x ∈ o.op.operands, ρ x = ρ' x) : evR cp ρ h base o = evR cp ρ' h base o := by
  unfold evR
  rw [evR0_local hρ, evP_local hρ, evA_local hρ]
theorem evR_blind {cp : CP} {h h' : Nat → Option Blk} {base : Nat} {o : Oper} {ρ : Operand → AV} (nt : tchB cp o = false) : evR cp ρ h base o = evR cp ρ h' base o := by
  unfold evR
  rw [evR0_blind nt, evA_blind nt]
  cases hp : isP cp o with
  | false => rfl
  | true =>
    simp only
    obtain ⟨dst, op, ty, pos, aft, gu⟩ := o
    cases op <;> simp only [tchB, Bool.true_eq_false, reduceCtorEq] at nt <;> first | rfl | skip
    case convert s d x =>
      simp only [isP, isPt2] at hp
      cases hs : und cp.P s <;> rw [hs] at nt hp <;> first | (simp at hp; done) | (simp at nt; done)
    case call c =>
      obtain ⟨callee, as, ats⟩ := c
      cases callee with
      | value f => simp at nt
      | invoke r m => rfl
      | builtin b => cases b <;> first | rfl | (simp at nt; done)
/-! Who merely reads does not mind what is frozen. -/
def SoftB (b b' : Blk) : Prop := b'.arr = b.arr ∧ b'.elem = b.elem ∧ b'.cells = b.cells ∧ (b'.st = b.st ∨ (b.st ≤ 1 ∧ b'.st ≤ 1))
def SoftExt (h h' : Nat → Option Blk) : Prop := ∀ id b, h id = some b → ∃ b', h' id = some b' ∧ SoftB b b'
theorem soft_ble {b b' : Blk} (s : SoftB b b') : Nat.ble b'.st 1 = Nat.ble b.st 1 := by
  obtain ⟨_, _, _, s | ⟨s1, s2⟩⟩ := s
  · rw [s]
  · rw [Nat.ble_eq_true_of_le s1, Nat.ble_eq_true_of_le s2]
theorem sliceOf_soft {P : Program} {h h' : Nat → Option Blk} (x : SoftExt h h') {t : TypeId} {v : AV} {r : Nat × List AV} (e : sliceOf P t h v = some r) : sliceOf P t h' v = some r := by
  cases v <;> first | exact e | skip
  rename_i id off len
  simp only [sliceOf] at e ⊢
  cases q : h id with
  | none => rw [q] at e; simp at e
  | some b =>
    obtain ⟨b', q', s⟩ := x id b q
    rw [q] at e; rw [q']
    simp only [soft_ble s, s.1, s.2.1, s.2.2.1]
    exact e
theorem evR0_soft {cp : CP} {h h' : Nat → Option Blk} (x : SoftExt h h') {base : Nat} {o : Oper} {ρ : Operand → AV} (rd : readB o = true) (e : evR0 cp ρ h base o ≠ .no) : evR0 cp ρ h' base o = evR0 cp ρ h base o := by
  obtain ⟨dst, op, ty, pos, aft, gu⟩ := o
  cases op <;> simp only [readB, Bool.false_eq_true] at rd
  case load t a =>
    simp only [evR0] at e ⊢
    generalize ρ a = v at e ⊢
    cases v <;> first | rfl | skip
    rename_i id off
    simp only [loadA] at e ⊢
    cases q : h id with
    | none => rw [q] at e; simp at e
    | some b =>
      obtain ⟨b', q', s⟩ := x id b q
      rw [q']
      simp only [soft_ble s, s.1, s.2.2.1]
  case convert s d v =>
    simp only [evR0] at e ⊢
    generalize ρ v = a at e ⊢
    unfold convA at e ⊢
    cases a
    case int => rfl
    case str => rfl
    all_goals
      simp only at e ⊢
      generalize und cp.P s = a at e ⊢
      generalize und cp.P d = b at e ⊢
      cases a <;> cases b <;> first | rfl | (
        rename_i t
        simp only at e ⊢
        generalize und cp.P t = c at e ⊢
        cases c <;> first | rfl | (
          rename_i k
          cases k <;> first | rfl | (
            try simp only at e ⊢
            generalize hv : sliceOf cp.P t h _ = q at e ⊢
            cases q with
            | none => simp at e
            | some r => rw [sliceOf_soft x hv])))
  case slice t v lo hi mx =>
    simp only [evR0] at e ⊢
    cases mx <;> first | rfl | skip
    simp only at e ⊢
    generalize ρ v = u at e ⊢
    generalize und cp.P t = a at e ⊢
    cases u <;> cases a <;> first | rfl | skip
    rename_i id off n el
    simp only at e ⊢
    cases q : h id with
    | none => rw [q] at e; simp at e
    | some b =>
      obtain ⟨b', q', s⟩ := x id b q
      rw [q']
      simp only [soft_ble s, s.1, s.2.1]
  case indexAddr t v ix =>
    simp only [evR0] at e ⊢
    generalize und cp.P t = a at e ⊢
    generalize ρ v = u at e ⊢
    generalize ρ ix = j at e ⊢
    cases a <;> cases u <;> cases j <;> first | rfl | skip
    simp only at e ⊢
    rename_i id off n k i
    cases q : h id with
    | none => rw [q] at e; simp at e
    | some b =>
      obtain ⟨b', q', s⟩ := x id b q
      rw [q']
      simp only [soft_ble s]
theorem liveS_soft {P : Program} {h h' : Nat → Option Blk} (x : SoftExt h h') {t : TypeId} {v : AV} (e : liveS P h t v = true) : liveS P h' t v = true := by
  cases v <;> simp only [liveS, Bool.false_eq_true] at e
  rename_i id off
  simp only [liveS]
  cases q : h id with
  | none => rw [q] at e; simp at e
  | some b =>
    obtain ⟨b', q', s⟩ := x id b q
    rw [q] at e; rw [q']
    simp only [soft_ble s, s.1, s.2.1]
    exact e
theorem ptrConv_soft {P : Program} {h h' : Nat → Option Blk} (x : SoftExt h h') {s d : TypeId} {v : AV} (e : ptrConv P h s d v ≠ .no) : ptrConv P h' s d v = ptrConv P h s d v := by
  unfold ptrConv at e ⊢
  generalize und P s = a at e ⊢
  generalize und P d = b at e ⊢
  cases a <;> cases b <;> first | rfl | skip
  · rename_i u
    simp only at e ⊢
    cases hl : liveS P h u v with
    | false => rw [hl] at e; simp at e
    | true => rw [liveS_soft x hl]
  · rename_i u
    simp only at e ⊢
    cases hl : liveS P h u v with
    | false => rw [hl] at e; simp at e
    | true => rw [liveS_soft x hl]
theorem evA_soft {cp : CP} {h h' : Nat → Option Blk} (x : SoftExt h h') {base : Nat} {o : Oper} {ρ : Operand → AV} (rd : readB o = true) (e : evA cp ρ h base o ≠ some .no) : evA cp ρ h' base o = evA cp ρ h base o := by
  obtain ⟨dst, op, ty, pos, aft, gu⟩ := o
  cases op <;> simp only [readB, Bool.false_eq_true] at rd <;> first | rfl | skip
  case load t a =>
    simp only [evA] at e ⊢
    cases q : isG a <;> rw [q] at e <;> simp only at e ⊢
    · cases hb : bigA cp.P t <;> rw [hb] at e <;> first | rfl | skip
      simp only at e ⊢
      generalize ρ a = v at e ⊢
      cases v <;> first | rfl | skip
      rename_i id off
      simp only [loadBig] at e ⊢
      cases q2 : h id with
      | none => rw [q2] at e; simp at e
      | some b =>
        obtain ⟨b', q', s⟩ := x id b q2
        rw [q']
        simp only [soft_ble s, s.1, s.2.2.1]
    · rw [evR0_soft x rfl (fun q => e (by rw [q]))]
  case indexAddr t a ix =>
    simp only [evA] at e ⊢
    cases q : isG a <;> rw [q] at e <;> first | rfl | skip
    simp only at e ⊢
    rw [evR0_soft x rfl (fun q => e (by rw [q]))]
theorem evR_soft {cp : CP} {h h' : Nat → Option Blk} (x : SoftExt h h') {base : Nat} {o : Oper} {ρ : Operand → AV} (rd : readB o = true) (e : evR cp ρ h base o ≠ .no) : evR cp ρ h' base o = evR cp ρ h base o := by
  unfold evR at e ⊢
  cases q : isP cp o <;> rw [q] at e <;> simp only at e ⊢
  · cases hA : evA cp ρ h base o with
    | none => rw [hA] at e; rw [evA_soft x rd (by rw [hA]; simp), hA]; exact evR0_soft x rd e
    | some r => rw [hA] at e; rw [evA_soft x rd (by rw [hA]; intro q; exact e (Option.some.inj q)), hA]
  · obtain ⟨dst, op, ty, pos, aft, gu⟩ := o
    cases op <;> simp only [readB, Bool.false_eq_true] at rd <;> first | rfl | skip
    exact ptrConv_soft x e
def Soft (x y : Option Blk) : Prop := x = y ∨ ∃ b b', x = some b ∧ y = some b' ∧ SoftB b b'
theorem Soft.refl (x : Option Blk) : Soft x x := .inl rfl
theorem Soft.symm {x y : Option Blk} (h : Soft x y) : Soft y x := by
  rcases h with h | ⟨b, b', h1, h2, s1, s2, s3, s4⟩
  · exact .inl h.symm
  · exact .inr ⟨b', b, h2, h1, s1.symm, s2.symm, s3.symm, s4.imp Eq.symm And.symm⟩
theorem Soft.trans {x y z : Option Blk} (h : Soft x y) (k : Soft y z) : Soft x z := by
  rcases h with rfl | ⟨b, b', h1, h2, s1, s2, s3, s4⟩
  · exact k
  rcases k with rfl | ⟨c, c', k1, k2, t1, t2, t3, t4⟩
  · exact .inr ⟨b, b', h1, h2, s1, s2, s3, s4⟩
  · rw [h2] at k1; cases k1
    exact .inr ⟨b, c', h1, k2, t1.trans s1, t2.trans s2, t3.trans s3, by omega⟩
theorem Soft.ext {h h' : Nat → Option Blk} {id : Nat} {b : Blk} (s : Soft (h id) (h' id)) (e : h id = some b) : ∃ b', h' id = some b' ∧ SoftB b b' := by
  rcases s with s | ⟨c, c', h1, h2, s⟩
  · exact ⟨b, by rw [← s]; exact e, rfl, rfl, rfl, .inl rfl⟩
  · rw [e] at h1; cases h1
    exact ⟨c', h2, s⟩
end Go.Proofs.YtlbapjocadmaeaaDoor.EV
