/- The evaluator looks at its operands alone; and who does not look at the memory. No conditions. -/
import Derived.Test.YtlcnpecejhcnfaaDoorEVdef
import Derived.Test.YtlcnpecejhcnfaaDoorEVfn
import Derived.Test.YtlcnpecejhcnfaaDoorEVmono
namespace Go.Proofs.YtlcnpecejhcnfaaDoor.EV
set_option linter.unusedVariables false
set_option linter.unusedSimpArgs false
open Go
theorem map_opt {α β : Type} {f g : α → β} {x : Option α} (h : ∀ y ∈ x.toArray, f y = g y) : x.map f = x.map g := by
  cases x with
  | none => rfl
  | some y => simp at h; simp [h]
theorem evR0_local {cp : CP} {h : Nat → Option Blk} {base : Nat} {o : Oper} {ρ ρ' : Operand → AV} (hρ : ∀ x ∈ o.op.operands, ρ x = ρ' x) : evR0 cp ρ h base o = evR0 cp ρ' h base o := by
  obtain ⟨dst, op, ty, pos, aft, gu⟩ := o
  have pairs : ∀ ps : Array (Nat × Operand), (∀ x ∈ (ps.toList.map (·.2)).toArray, ρ x = ρ' x) → ps.toList.map (fun p => (p.1, ρ p.2)) = ps.toList.map (fun p => (p.1, ρ' p.2)) := fun ps hp =>
    List.map_congr_left fun p hm => by
      have : ρ p.2 = ρ' p.2 := hp p.2 (by simp; exact ⟨p.1, by simpa using hm⟩)
      rw [this]
  cases op <;> simp only [Op.operands] at hρ <;> simp only [evR0] <;> try rfl
  case build t ps => rw [pairs ps hρ]
  case buildSlice t n ps => rw [pairs ps hρ]
  case call c =>
    obtain ⟨callee, as, ats⟩ := c
    have ha : as.toList.map ρ = as.toList.map ρ' := List.map_congr_left fun x hx => hρ x (by simp [Call.operands]; right; simpa using hx)
    cases callee with
    | invoke r m => rfl
    | builtin b => simp only [ha]
    | value f =>
      have hf : ρ f = ρ' f := hρ f (by simp [Call.operands])
      simp only [ha, hf]
  case slice t x lo hi mx =>
    have hx : ρ x = ρ' x := hρ x (by simp)
    have hlo : lo.map ρ = lo.map ρ' := map_opt fun y hy => hρ y (by simp at hy ⊢; simp [hy])
    have hhi : hi.map ρ = hi.map ρ' := map_opt fun y hy => hρ y (by simp at hy ⊢; simp [hy])
    simp only [hx, hlo, hhi]
  case pick c a b =>
    have h1 := hρ c (by simp)
    have h2 := hρ a (by simp)
    have h3 := hρ b (by simp)
    simp only [h1, h2, h3]
  all_goals first
    | (have h1 := hρ _ (by simp; rfl); simp only [h1]; done)
    | (rename_i x y; have h1 := hρ x (by simp); have h2 := hρ y (by simp); simp only [h1, h2]; done)
    | (rename_i x y z; have h1 := hρ x (by simp); have h2 := hρ y (by simp); simp only [h1, h2]; done)
    | (rename_i t x y; have h1 := hρ x (by simp); have h2 := hρ y (by simp); simp only [h1, h2]; done)

theorem evR0_blind {cp : CP} {h h' : Nat → Option Blk} {base : Nat} {o : Oper} {ρ : Operand → AV} (nt : tchB cp o = false) : evR0 cp ρ h base o = evR0 cp ρ h' base o := by
  obtain ⟨dst, op, ty, pos, aft, gu⟩ := o
  cases op <;> simp only [tchB, Bool.true_eq_false, reduceCtorEq] at nt <;> first | rfl | skip
  case convert s d x =>
    simp only [evR0]
    generalize ρ x = v
    cases v <;> first | rfl | skip
    all_goals
      simp only [convA]
      cases hs : und cp.P s <;> rw [hs] at nt <;> first | rfl | simp at nt
  case slice t x lo hi mx =>
    simp only [evR0]
    cases mx with
    | some _ => rfl
    | none =>
      generalize ρ x = v
      cases v <;> first | rfl | (cases hs : und cp.P t <;> rw [hs] at nt <;> first | rfl | simp at nt)
  case call c =>
    obtain ⟨callee, as, ats⟩ := c
    cases callee with
    | value f => simp at nt
    | invoke r m => rfl
    | builtin b =>
      simp only [evR0]
      generalize as.toList.map ρ = l
      cases b <;> first | (simp at nt; done) | skip
      all_goals
        rcases l with _ | ⟨x, _ | ⟨y, _ | ⟨z, l⟩⟩⟩ <;> rfl
theorem evP_local {cp : CP} {h : Nat → Option Blk} {o : Oper} {ρ ρ' : Operand → AV} (hρ : ∀ x ∈ o.op.operands, ρ x = ρ' x) : evP cp ρ h o = evP cp ρ' h o := by
  obtain ⟨dst, op, ty, pos, aft, gu⟩ := o
  cases op <;> simp only [Op.operands] at hρ <;> simp only [evP] <;> try rfl
  case convert s d x => rw [hρ x (by simp)]
  case binOp op t x y z => rw [hρ x (by simp), hρ y (by simp)]
  case call c =>
    obtain ⟨callee, as, ats⟩ := c
    have ha : as.toList.map ρ = as.toList.map ρ' := List.map_congr_left fun x hx => hρ x (by simp [Call.operands]; right; simpa using hx)
    cases callee with
    | invoke r m => rfl
    | builtin b => cases b <;> simp only [ha]
    | value f => simp only [ha]
theorem evA_local {cp : CP} {h : Nat → Option Blk} {base : Nat} {o : Oper} {ρ ρ' : Operand → AV} (hρ : ∀ x ∈ o.op.operands, ρ x = ρ' x) : evA cp ρ h base o = evA cp ρ' h base o := by
  have hL : evR0 cp (ρL cp ρ) h base o = evR0 cp (ρL cp ρ') h base o := evR0_local fun x hx => by
    cases x with
    | global g => rfl
    | _ => show liftV _ = liftV _; rw [hρ _ hx]
  obtain ⟨dst, op, ty, pos, aft, gu⟩ := o
  cases op <;> simp only [Op.operands] at hρ <;> simp only [evA] <;> try rfl
  case box t x => rw [hρ x (by simp)]
  case build t parts =>
    have ha : parts.toList.map (fun p => (p.1, ρ p.2)) = parts.toList.map (fun p => (p.1, ρ' p.2)) := List.map_congr_left fun p hp => by rw [hρ p.2 (by simp; exact ⟨p.1, by simpa using hp⟩)]
    rw [ha]
  case load t x => rw [hρ x (by simp), hL]
  case store t a x => rw [hρ x (by simp), hρ a (by simp)]
  case index t x ix => rw [hρ x (by simp), hρ ix (by simp)]
  case indexAddr t x ix => rw [hL]
theorem evA_blind {cp : CP} {h h' : Nat → Option Blk} {base : Nat} {o : Oper} {ρ : Operand → AV} (nt : tchB cp o = false) : evA cp ρ h base o = evA cp ρ h' base o := by
  obtain ⟨dst, op, ty, pos, aft, gu⟩ := o
  cases op <;> first | rfl | (simp [tchB] at nt; done)
theorem evT_local {cp : CP} {h : Nat → Option Blk} {base : Nat} {o : Oper} {ρ ρ' : Operand → AV} (hρ : ∀ x ∈ o.op.operands, ρ x = ρ' x) : evT cp ρ h base o = evT cp ρ' h base o := by
  obtain ⟨dst, op, ty, pos, aft, gu⟩ := o
  cases op <;> simp only [Op.operands] at hρ <;> simp only [evT] <;> try rfl
  case load t a => rw [hρ a (by simp)]
  case store t a x => rw [hρ x (by simp), hρ a (by simp)]
  case indexAddr t x ix => rw [hρ x (by simp), hρ ix (by simp)]
  case makeSlice t l c => rw [hρ l (by simp), hρ c (by simp)]
  case buildSlice t n parts =>
    have ha : parts.toList.map (fun p => (p.1, ρ p.2)) = parts.toList.map (fun p => (p.1, ρ' p.2)) := List.map_congr_left fun p hp => by rw [hρ p.2 (by simp; exact ⟨p.1, by simpa using hp⟩)]
    rw [ha]
  case binOp op t x y z => rw [hρ x (by simp), hρ y (by simp)]
  case call c =>
    obtain ⟨callee, as, ats⟩ := c
    have ha : as.toList.map ρ = as.toList.map ρ' := List.map_congr_left fun x hx => hρ x (by simp [Call.operands]; right; simpa using hx)
    cases callee with
    | invoke r m => rfl
    | builtin b => cases b <;> simp only [ha]
    | value f => rfl
theorem evR_local {cp : CP} {h : Nat → Option Blk} {base : Nat} {o : Oper} {ρ ρ' : Operand → AV} (hρ : ∀ x ∈ o.op.operands, ρ x = ρ' x) : evR cp ρ h base o = evR cp ρ' h base o := by
  unfold evR evR1
  rw [evT_local hρ, evR0_local hρ, evP_local hρ, evA_local hρ]
theorem evR1_blind {cp : CP} {h h' : Nat → Option Blk} {base : Nat} {o : Oper} {ρ : Operand → AV} (nt : tchB cp o = false) : evR1 cp ρ h base o = evR1 cp ρ h' base o := by
  unfold evR1
  rw [evR0_blind nt, evA_blind nt]
  cases hp : isP cp o with
  | false => rfl
  | true =>
    simp only
    obtain ⟨dst, op, ty, pos, aft, gu⟩ := o
    cases op <;> simp only [tchB, Bool.true_eq_false, reduceCtorEq] at nt <;> first | rfl | skip
    case convert s d x =>
      simp only [isP, isPt2] at hp
      cases hs : und cp.P s <;> rw [hs] at nt hp <;> first | (simp at hp; done) | (simp at nt; done)
    case call c =>
      obtain ⟨callee, as, ats⟩ := c
      cases callee with
      | value f => simp at nt
      | invoke r m => rfl
      | builtin b => cases b <;> first | rfl | (simp at nt; done)
/-- It leaves the blocks of before alone. -/
def Res.still (base : Nat) : Res → Bool
  | .val _ _ nw dd fz => quiet (touchV base nw dd fz)
  | _ => true
theorem still_pure (base : Nat) (g : Bool) (v : AV) : (Res.val g v [] [] []).still base = true := rfl
theorem still_new (base : Nat) (g : Bool) (v : AV) (b : Blk) : (Res.val g v [(base, b)] [] []).still base = true := by
  simp [Res.still, touchV, quiet]
theorem s_int (base : Nat) (op : BinOp) (k : IntKind) (a b : Int) : (intOp op k a b).still base = true := by cases op <;> rfl
theorem s_str (base : Nat) (op : BinOp) (a b : ByteArray) : (strOp op a b).still base = true := by cases op <;> rfl
theorem s_bin (base : Nat) (P : Program) (op : BinOp) (t : TypeId) (x y : AV) : (binA P op t x y).still base = true := by
  unfold binA
  repeat' split
  all_goals first | rfl | exact s_int _ _ _ _ _ | exact s_str _ _ _ _
theorem s_nil (base : Nat) (d : Bool) (x : AV) : (nilCmp d x).still base = true := by cases x <;> rfl
theorem s_binN (base : Nat) (P : Program) (op : BinOp) (t : TypeId) (y : Operand) (vx vy : AV) : (binN P op t y vx vy).still base = true := by
  unfold binN
  repeat' split
  all_goals first | exact s_nil _ _ _ | exact s_bin _ _ _ _ _ _
theorem s_conv (base : Nat) (P : Program) (h : Nat → Option Blk) (s d : TypeId) (a : AV) : (convA P h base s d a).still base = true := by
  unfold convA
  repeat' split
  all_goals first | rfl | exact still_new _ _ _ _
theorem s_buildBig (base : Nat) (k : IntKind) (c : Option (List AV)) : (buildBig k c).still base = true := by
  unfold buildBig
  repeat' split
  all_goals rfl
theorem s_idxBig (base : Nat) (P : Program) (t : TypeId) (k : IntKind) (ns : List Int) (a : AV) : (idxBig P t k ns a).still base = true := by
  unfold idxBig
  repeat' split
  all_goals rfl
theorem s_ptrConv (base : Nat) (P : Program) (h : Nat → Option Blk) (s d : TypeId) (a : AV) : (ptrConv P h s d a).still base = true := by
  unfold ptrConv
  repeat' split
  all_goals rfl
theorem still0 {cp : CP} {h : Nat → Option Blk} {base : Nat} {o : Oper} {ρ : Operand → AV} (nt : tchB cp o = false) : (evR0 cp ρ h base o).still base = true := by
  obtain ⟨dst, op, ty, pos, aft, gu⟩ := o
  cases op <;> simp only [tchB, Bool.true_eq_false] at nt <;> first | rfl | skip
  case call c =>
    obtain ⟨callee, as, ats⟩ := c
    cases callee with
    | value f => simp at nt
    | invoke r m => rfl
    | builtin b =>
      simp only [evR0]
      generalize as.toList.map ρ = l
      cases b <;> first | (simp at nt; done) | skip
      all_goals
        rcases l with _ | ⟨x, _ | ⟨y, _ | ⟨z, l⟩⟩⟩ <;> first | rfl | skip
      all_goals
        simp only [builtinA]
        repeat' split
        all_goals rfl
  case alloc => exact still_new _ _ _ _
  case box => exact still_new _ _ _ _
  case makeSlice =>
    simp only [evR0]
    repeat' split
    all_goals first | exact still_new _ _ _ _ | rfl
  case binOp => exact s_binN _ _ _ _ _ _ _
  case convert => exact s_conv _ _ _ _ _ _
  all_goals
    simp only [evR0]
    repeat' split
    all_goals rfl
theorem stillA {cp : CP} {h : Nat → Option Blk} {base : Nat} {o : Oper} {ρ : Operand → AV} (nt : tchB cp o = false) {r : Res} (e : evA cp ρ h base o = some r) : r.still base = true := by
  obtain ⟨dst, op, ty, pos, aft, gu⟩ := o
  cases op <;> first | (simp [evA] at e; done) | (simp [tchB] at nt; done) | skip
  case box t x =>
    simp only [evA] at e
    cases hx : ρ x <;> rw [hx] at e <;> simp only [reduceCtorEq, Option.some.injEq] at e
    subst e; first | rfl | exact still_new _ _ _ _
  case build t parts =>
    simp only [evA] at e
    cases hb : bigA cp.P t <;> rw [hb] at e <;> simp only [reduceCtorEq, Option.some.injEq] at e
    subst e; exact s_buildBig _ _ _
  case index t x ix =>
    simp only [evA] at e
    cases hx : ρ x <;> rw [hx] at e <;> simp only [reduceCtorEq, Option.some.injEq] at e
    subst e; exact s_idxBig _ _ _ _ _ _
theorem stillP {cp : CP} {h : Nat → Option Blk} {base : Nat} {o : Oper} {ρ : Operand → AV} (nt : tchB cp o = false) : (evP cp ρ h o).still base = true := by
  obtain ⟨dst, op, ty, pos, aft, gu⟩ := o
  cases op <;> first | rfl | (simp [tchB] at nt; done) | skip
  case convert s d x => simp only [evP]; exact s_ptrConv _ _ _ _ _ _
  case binOp op t x y z =>
    simp only [evP, ptrBin]
    repeat' split
    all_goals first | rfl | (generalize ρ x = u; cases u <;> rfl)
  case call c =>
    obtain ⟨callee, as, ats⟩ := c
    cases callee with
    | invoke _ _ => rfl
    | value f =>
      simp only [evP]
      repeat' split
      all_goals rfl
    | builtin b =>
      cases b <;> first | rfl | (simp [tchB] at nt; done) | skip
      all_goals
        simp only [evP, sliceData, unsafeStr]
        repeat' split
        all_goals rfl
theorem still1 {cp : CP} {h : Nat → Option Blk} {base : Nat} {o : Oper} {ρ : Operand → AV} (nt : tchB cp o = false) : (evR1 cp ρ h base o).still base = true := by
  unfold evR1
  cases q : isP cp o with
  | true => exact stillP nt
  | false =>
    simp only
    cases hA : evA cp ρ h base o with
    | none => exact still0 nt
    | some r => exact stillA nt hA
theorem evT_blind {cp : CP} {h h' : Nat → Option Blk} {base : Nat} {o : Oper} {ρ : Operand → AV} (nt : tchB cp o = false) : evT cp ρ h base o = evT cp ρ h' base o := by
  obtain ⟨dst, op, ty, pos, aft, gu⟩ := o
  cases op <;> first | rfl | (simp [tchB] at nt; done) | skip
  case binOp op t x y z =>
    simp only [tchB] at nt
    simp only [evT]
    cases op <;> first | rfl | skip
    cases hu : und cp.P t <;> rw [hu] at nt <;> first | rfl | (simp at nt; done)
  case call c =>
    obtain ⟨callee, as, ats⟩ := c
    cases callee with
    | invoke _ _ => rfl
    | value f => rfl
    | builtin b => cases b <;> first | rfl | (simp [tchB] at nt; done)
theorem sane_still {h h' : Nat → Option Blk} {base : Nat} {r : Res} (s : r.still base = true) : sane h base r = sane h' base r := by
  cases r with
  | no => rfl
  | call _ _ _ _ => rfl
  | val g v nw dd fz =>
    have : touchV base nw dd fz = [] := by
      simp only [Res.still] at s
      cases q : touchV base nw dd fz with
      | nil => rfl
      | cons a b => rw [q] at s; simp [quiet] at s
    simp only [sane, this]
    rfl
theorem evR_blind {cp : CP} {h h' : Nat → Option Blk} {base : Nat} {o : Oper} {ρ : Operand → AV} (nt : tchB cp o = false) : evR cp ρ h base o = evR cp ρ h' base o := by
  unfold evR
  rw [evT_blind (h' := h') nt, evR1_blind (h' := h') nt, sane_still (h' := h') (still1 nt)]
/-! Who merely reads does not mind what is frozen. -/
def SoftB (b b' : Blk) : Prop := b'.arr = b.arr ∧ b'.elem = b.elem ∧ b'.cells = b.cells ∧ (b'.st = b.st ∨ (b.st ≤ 1 ∧ b'.st ≤ 1))
def SoftExt (h h' : Nat → Option Blk) : Prop := ∀ id b, h id = some b → ∃ b', h' id = some b' ∧ SoftB b b'
theorem soft_ble {b b' : Blk} (s : SoftB b b') : Nat.ble b'.st 1 = Nat.ble b.st 1 := by
  obtain ⟨_, _, _, s | ⟨s1, s2⟩⟩ := s
  · rw [s]
  · rw [Nat.ble_eq_true_of_le s1, Nat.ble_eq_true_of_le s2]
theorem sliceOf_soft {P : Program} {h h' : Nat → Option Blk} (x : SoftExt h h') {t : TypeId} {v : AV} {r : Nat × List AV} (e : sliceOf P t h v = some r) : sliceOf P t h' v = some r := by
  cases v <;> first | exact e | skip
  rename_i id off len
  simp only [sliceOf] at e ⊢
  cases q : h id with
  | none => rw [q] at e; simp at e
  | some b =>
    obtain ⟨b', q', s⟩ := x id b q
    rw [q] at e; rw [q']
    simp only [soft_ble s, s.1, s.2.1, s.2.2.1]
    exact e
theorem evR0_soft {cp : CP} {h h' : Nat → Option Blk} (x : SoftExt h h') {base : Nat} {o : Oper} {ρ : Operand → AV} (rd : readB o = true) (e : evR0 cp ρ h base o ≠ .no) : evR0 cp ρ h' base o = evR0 cp ρ h base o := by
  obtain ⟨dst, op, ty, pos, aft, gu⟩ := o
  cases op <;> simp only [readB, Bool.false_eq_true] at rd
  case load t a =>
    simp only [evR0] at e ⊢
    generalize ρ a = v at e ⊢
    cases v <;> first | rfl | skip
    rename_i id off
    simp only [loadA] at e ⊢
    cases q : h id with
    | none => rw [q] at e; simp at e
    | some b =>
      obtain ⟨b', q', s⟩ := x id b q
      rw [q']
      simp only [soft_ble s, s.1, s.2.2.1]
  case convert s d v =>
    simp only [evR0] at e ⊢
    generalize ρ v = a at e ⊢
    unfold convA at e ⊢
    cases a
    case int => rfl
    case str => rfl
    all_goals
      simp only at e ⊢
      generalize und cp.P s = a at e ⊢
      generalize und cp.P d = b at e ⊢
      cases a <;> cases b <;> first | rfl | (
        rename_i t
        simp only at e ⊢
        generalize und cp.P t = c at e ⊢
        cases c <;> first | rfl | (
          rename_i k
          cases k <;> first | rfl | (
            try simp only at e ⊢
            generalize hv : sliceOf cp.P t h _ = q at e ⊢
            cases q with
            | none => simp at e
            | some r => rw [sliceOf_soft x hv])))
  case slice t v lo hi mx =>
    simp only [evR0] at e ⊢
    cases mx <;> first | rfl | skip
    simp only at e ⊢
    generalize ρ v = u at e ⊢
    generalize und cp.P t = a at e ⊢
    cases u <;> cases a <;> first | rfl | skip
    rename_i id off n el
    simp only at e ⊢
    cases q : h id with
    | none => rw [q] at e; simp at e
    | some b =>
      obtain ⟨b', q', s⟩ := x id b q
      rw [q']
      simp only [soft_ble s, s.1, s.2.1]
  case indexAddr t v ix =>
    simp only [evR0] at e ⊢
    generalize und cp.P t = a at e ⊢
    generalize ρ v = u at e ⊢
    generalize ρ ix = j at e ⊢
    cases a <;> cases u <;> cases j <;> first | rfl | skip
    simp only at e ⊢
    rename_i id off n k i
    cases q : h id with
    | none => rw [q] at e; simp at e
    | some b =>
      obtain ⟨b', q', s⟩ := x id b q
      rw [q']
      simp only [soft_ble s]
theorem liveS_soft {P : Program} {h h' : Nat → Option Blk} (x : SoftExt h h') {t : TypeId} {v : AV} (e : liveS P h t v = true) : liveS P h' t v = true := by
  cases v <;> simp only [liveS, Bool.false_eq_true] at e
  rename_i id off
  simp only [liveS]
  cases q : h id with
  | none => rw [q] at e; simp at e
  | some b =>
    obtain ⟨b', q', s⟩ := x id b q
    rw [q] at e; rw [q']
    simp only [soft_ble s, s.1, s.2.1]
    exact e
theorem ptrConv_soft {P : Program} {h h' : Nat → Option Blk} (x : SoftExt h h') {s d : TypeId} {v : AV} (e : ptrConv P h s d v ≠ .no) : ptrConv P h' s d v = ptrConv P h s d v := by
  unfold ptrConv at e ⊢
  generalize und P s = a at e ⊢
  generalize und P d = b at e ⊢
  cases a <;> cases b <;> first | rfl | skip
  · rename_i u
    simp only at e ⊢
    cases hl : liveS P h u v with
    | false => rw [hl] at e; simp at e
    | true => rw [liveS_soft x hl]
  · rename_i u
    simp only at e ⊢
    cases hl : liveS P h u v with
    | false => rw [hl] at e; simp at e
    | true => rw [liveS_soft x hl]
theorem evA_soft {cp : CP} {h h' : Nat → Option Blk} (x : SoftExt h h') {base : Nat} {o : Oper} {ρ : Operand → AV} (rd : readB o = true) (e : evA cp ρ h base o ≠ some .no) : evA cp ρ h' base o = evA cp ρ h base o := by
  obtain ⟨dst, op, ty, pos, aft, gu⟩ := o
  cases op <;> simp only [readB, Bool.false_eq_true] at rd <;> first | rfl | skip
  case load t a =>
    simp only [evA] at e ⊢
    cases q : isG a <;> rw [q] at e <;> simp only at e ⊢
    · cases hb : bigA cp.P t <;> rw [hb] at e <;> first | rfl | skip
      simp only at e ⊢
      generalize ρ a = v at e ⊢
      cases v <;> first | rfl | skip
      rename_i id off
      simp only [loadBig] at e ⊢
      cases q2 : h id with
      | none => rw [q2] at e; simp at e
      | some b =>
        obtain ⟨b', q', s⟩ := x id b q2
        rw [q']
        simp only [soft_ble s, s.1, s.2.2.1]
    · rw [evR0_soft x rfl (fun q => e (by rw [q]))]
  case indexAddr t a ix =>
    simp only [evA] at e ⊢
    cases q : isG a <;> rw [q] at e <;> first | rfl | skip
    simp only at e ⊢
    rw [evR0_soft x rfl (fun q => e (by rw [q]))]
theorem evR1_soft {cp : CP} {h h' : Nat → Option Blk} (x : SoftExt h h') {base : Nat} {o : Oper} {ρ : Operand → AV} (rd : readB o = true) (e : evR1 cp ρ h base o ≠ .no) : evR1 cp ρ h' base o = evR1 cp ρ h base o := by
  unfold evR1 at e ⊢
  cases q : isP cp o <;> rw [q] at e <;> simp only at e ⊢
  · cases hA : evA cp ρ h base o with
    | none => rw [hA] at e; rw [evA_soft x rd (by rw [hA]; simp), hA]; exact evR0_soft x rd e
    | some r => rw [hA] at e; rw [evA_soft x rd (by rw [hA]; intro q; exact e (Option.some.inj q)), hA]
  · obtain ⟨dst, op, ty, pos, aft, gu⟩ := o
    cases op <;> simp only [readB, Bool.false_eq_true] at rd <;> first | rfl | skip
    exact ptrConv_soft x e
theorem SoftB.tree {b b' : Blk} (s : SoftB b b') : Nat.ble 3 b'.st = Nat.ble 3 b.st ∧ (3 ≤ b.st → b' = b) := by
  obtain ⟨s1, s2, s3, s4⟩ := s
  rcases s4 with q | ⟨q1, q2⟩
  · refine ⟨by rw [q], fun _ => ?_⟩
    cases b; cases b'
    simp only at s1 s2 s3 q
    rw [s1, s2, s3, q]
  · refine ⟨?_, fun z => by omega⟩
    have n : ∀ k, k ≤ 1 → Nat.ble 3 k = false := fun k hk => by
      cases z : Nat.ble 3 k with
      | false => rfl
      | true => have := Nat.le_of_ble_eq_true z; omega
    rw [n _ q1, n _ q2]
theorem foldB_soft {h h' : Nat → Option Blk} (x : SoftExt h h') {b : Blk} {r : Blk × List Nat} (e : foldB h b = some r) : foldB h' b = some r := by
  unfold foldB at e ⊢
  cases q : Nat.beq b.st 3 with
  | true => rw [q] at e; exact e
  | false =>
    rw [q] at e
    simp only at e ⊢
    cases q4 : Nat.beq b.st 4 with
    | false => rw [q4] at e; simp at e
    | true =>
      rw [q4] at e
      split at e
      · rename_i cid j n _ _
        cases hk : h cid with
        | none => rw [hk] at e; simp at e
        | some c =>
          rw [hk] at e
          simp only at e
          obtain ⟨c', hk', sb⟩ := x cid c hk
          cases q3 : Nat.beq c.st 3 with
          | false => rw [q3] at e; simp at e
          | true =>
            have := Nat.eq_of_beq_eq_true q3
            rw [sb.tree.2 (by omega)] at hk'
            rw [hk']
            exact e
      · simp at e
theorem evT_soft {cp : CP} {h h' : Nat → Option Blk} (x : SoftExt h h') {base : Nat} {o : Oper} {ρ : Operand → AV} (rd : readB o = true) (e : evT cp ρ h base o ≠ some .no) : evT cp ρ h' base o = evT cp ρ h base o := by
  obtain ⟨dst, op, ty, pos, aft, gu⟩ := o
  cases op <;> simp only [readB, Bool.false_eq_true] at rd <;> first | rfl | skip
  case load t a =>
    simp only [evT] at e ⊢
    generalize isG a = g at e ⊢
    generalize ρ a = v at e ⊢
    cases g <;> cases v <;> first | rfl | skip
    rename_i id off
    simp only at e ⊢
    cases q : h id with
    | none => rw [q] at e; simp at e
    | some b =>
      obtain ⟨b', q', s⟩ := x id b q
      rw [q] at e; rw [q']
      simp only [s.tree.1] at e ⊢
      cases q3 : Nat.ble 3 b.st with
      | false => rfl
      | true =>
        rw [q3] at e
        rw [s.tree.2 (Nat.le_of_ble_eq_true q3)]
        simp only at e ⊢
        unfold treeLoad at e ⊢
        cases hf : foldB h b with
        | none => rw [hf] at e; simp at e
        | some r => rw [foldB_soft x hf]
  case indexAddr t v ix =>
    simp only [evT] at e ⊢
    generalize isG v = g at e ⊢
    generalize ρ v = u at e ⊢
    cases g <;> cases u <;> first | rfl | skip
    rename_i id off n
    simp only at e ⊢
    cases q : h id with
    | none => rw [q] at e; simp at e
    | some b =>
      obtain ⟨b', q', s⟩ := x id b q
      rw [q']
      simp only [s.tree.1]
theorem stOk_soft {h h' : Nat → Option Blk} (x : SoftExt h h') {l : List Nat} (e : stOk h l = true) : stOk h' l = true := List.all_eq_true.2 fun id hid => by
  have := List.all_eq_true.1 e id hid
  cases q : h id with
  | none => rw [q] at this; cases this
  | some b =>
    obtain ⟨b', q', s⟩ := x id b q
    rw [q] at this; rw [q']
    simp only [soft_ble s]
    exact this
theorem evR_soft {cp : CP} {h h' : Nat → Option Blk} (x : SoftExt h h') {base : Nat} {o : Oper} {ρ : Operand → AV} (rd : readB o = true) (e : evR cp ρ h base o ≠ .no) : evR cp ρ h' base o = evR cp ρ h base o := by
  unfold evR at e ⊢
  cases hT : evT cp ρ h base o with
  | some r =>
    rw [hT] at e
    rw [evT_soft x rd (by rw [hT]; rintro ⟨⟩; exact e rfl), hT]
  | none =>
    rw [hT] at e
    rw [evT_soft x rd (by rw [hT]; simp), hT]
    simp only at e ⊢
    rw [evR1_soft x rd (fun q => e (by rw [q]; rfl))]
    cases q : evR1 cp ρ h base o with
    | no => rfl
    | call _ _ _ _ => rfl
    | val g v nw dd fz =>
      rw [q] at e
      simp only [sane] at e ⊢
      cases q1 : stOk h (touchV base nw dd fz) with
      | false => rw [q1] at e; simp at e
      | true => rw [stOk_soft x q1]
def Soft (x y : Option Blk) : Prop := x = y ∨ ∃ b b', x = some b ∧ y = some b' ∧ SoftB b b'
theorem Soft.refl (x : Option Blk) : Soft x x := .inl rfl
theorem Soft.symm {x y : Option Blk} (h : Soft x y) : Soft y x := by
  rcases h with h | ⟨b, b', h1, h2, s1, s2, s3, s4⟩
  · exact .inl h.symm
  · exact .inr ⟨b', b, h2, h1, s1.symm, s2.symm, s3.symm, s4.imp Eq.symm And.symm⟩
theorem Soft.trans {x y z : Option Blk} (h : Soft x y) (k : Soft y z) : Soft x z := by
  rcases h with rfl | ⟨b, b', h1, h2, s1, s2, s3, s4⟩
  · exact k
  rcases k with rfl | ⟨c, c', k1, k2, t1, t2, t3, t4⟩
  · exact .inr ⟨b, b', h1, h2, s1, s2, s3, s4⟩
  · rw [h2] at k1; cases k1
    exact .inr ⟨b, c', h1, k2, t1.trans s1, t2.trans s2, t3.trans s3, by omega⟩
theorem Soft.ext {h h' : Nat → Option Blk} {id : Nat} {b : Blk} (s : Soft (h id) (h' id)) (e : h id = some b) : ∃ b', h' id = some b' ∧ SoftB b b' := by
  rcases s with s | ⟨c, c', h1, h2, s⟩
  · exact ⟨b, by rw [← s]; exact e, rfl, rfl, rfl, .inl rfl⟩
  · rw [e] at h1; cases h1
    exact ⟨c', h2, s⟩
end Go.Proofs.YtlcnpecejhcnfaaDoor.EV
namespace Go.Proofs.YtlcnpecejhcnfaaDoor.EV
set_option linter.unusedVariables false
set_option linter.unusedSimpArgs false
open Go Go.RowKit

theorem relB_congr {P : Program} {w0 : World} {C0 : Ctx} {H0 : Nat → Option Blk} {w : World} {C : Ctx} {a : Act} {σ σ' : St} {B B' : Nat} (h : RelB P w0 C0 H0 w C a σ B) (he : ∀ t, σ'.env t = σ.env t) (hh : ∀ id L, C.φ id = some L → σ'.heap id = σ.heap id)
    (hnt : σ'.nt = σ.nt) (hnr : σ'.nr = σ.nr) (hB : ∀ id, B' ≤ id → C.φ id = none) (hN : σ.nr ≤ B') (ht : NoT σ'.heap B') : RelB P w0 C0 H0 w C a σ' B' :=
  ⟨(relT_ext h.mem hh).1, fun t => by rw [he t]; exact h.env t, hB, by rw [hnt]; exact h.size, h.defers, h.kept.trans (relT_ext h.mem hh).2, by rw [hnr]; exact h.nr, by rw [hnr]; exact hN, ht⟩
theorem relB_drawn {P : Program} {w0 : World} {C0 : Ctx} {H0 : Nat → Option Blk} {w : World} {C : Ctx} {a : Act} {σ : St} {B : Nat} (h : RelB P w0 C0 H0 w C a σ B) (n : Nat) : RelB P w0 C0 H0 { w with drawn := n } C a σ B := by
  have st : Step w C { w with drawn := n } C := ⟨fun _ _ q => q, fun _ q => q, fun _ _ => rfl⟩
  have k : Kept w C σ.heap { w with drawn := n } C σ.heap := ⟨st, rfl, rfl, rfl, Nat.le_refl _, fun _ _ _ => rfl, fun _ q => .inl q, fun _ q => .inl q, fun _ q => .inl q⟩
  obtain ⟨a1, a2⟩ := lift (w' := { w with drawn := n }) h.mem (rel_world h.mem.h (Nat.le_refl _) (fun _ _ => rfl) (fun _ _ _ _ _ _ => rfl)) k (fun _ _ q _ => q) (fun _ _ _ _ q => q)
  exact ⟨a1, fun t => rep_step st _ _ (h.env t), h.fresh, h.size, h.defers, h.kept.trans a2, h.nr, h.nb, h.tb⟩

/-! What is done to the memory, block by block. -/
theorem setSt_pt {s : Nat} {id : Nat} : ∀ {l : List Nat} {h h' : Nat → Option Blk}, h id = h' id → setSt h s l id = setSt h' s l id
  | [], _, _, e => e
  | j :: r, h, h', e => by
    unfold setSt
    refine setSt_pt (l := r) ?_
    by_cases q : id = j
    · subst q; rw [upd_same, upd_same, e]
    · rw [upd_other _ _ q, upd_other _ _ q, e]
def keys {α : Type} (l : List (Nat × α)) : List Nat := l.map (·.1)
theorem upds_pt {α : Type} {id : Nat} : ∀ {l : List (Nat × α)} {f f' : Nat → Option α}, f id = f' id → upds f l id = upds f' l id
  | [], _, _, e => e
  | (j, v) :: r, f, f', e => by
    unfold upds
    refine upds_pt (l := r) ?_
    by_cases q : id = j
    · subst q; rw [upd_same, upd_same]
    · rw [upd_other _ _ q, upd_other _ _ q, e]
theorem upds_in {α : Type} {id : Nat} : ∀ {l : List (Nat × α)} {f f' : Nat → Option α}, id ∈ keys l → upds f l id = upds f' l id
  | [], _, _, e => by simp [keys] at e
  | (j, v) :: r, f, f', e => by
    unfold upds
    by_cases q : id = j
    · subst q; exact upds_pt (by rw [upd_same, upd_same])
    · exact upds_in (by simpa [keys, q] using e)
theorem upds_not {α : Type} {id : Nat} : ∀ {l : List (Nat × α)} {f : Nat → Option α}, id ∉ keys l → upds f l id = f id
  | [], _, _ => rfl
  | (j, v) :: r, f, e => by
    unfold upds
    have q : id ≠ j := fun q => e (by simp [keys, q])
    rw [upds_not (l := r) (fun m => e (by simp only [keys, List.map_cons, List.mem_cons] at m ⊢; exact .inr m)), upd_other _ _ q]
theorem takeRefs_pt {P : Program} {id : Nat} : ∀ {l : List Nat} {vs : List AV} {h h' f f' : Nat → Option Blk}, h id = h' id → f id = f' id → upds f (takeRefs P h l vs) id = upds f' (takeRefs P h' l vs) id
  | [], _, _, _, _, _, _, e => e
  | j :: r, vs, h, h', f, f', e, e2 => by
    by_cases q : id = j
    · subst q
      rw [takeRefs, takeRefs, ← e]
      cases h id with
      | none => exact takeRefs_pt e e2
      | some b => simp only [upds]; exact takeRefs_pt e (by rw [upd_same, upd_same])
    · have one : ∀ (g : Nat → Option Blk) (k : Nat → Option Blk), upds k (takeRefs P g (j :: r) vs) id = upds k (takeRefs P g r (tlV vs)) id := by
        intro g k
        rw [takeRefs]
        cases g j with
        | none => rfl
        | some b => simp only [upds]; exact upds_pt (upd_other _ _ q)
      rw [one, one]
      exact takeRefs_pt e e2
theorem takeRefs_keys {P : Program} {id : Nat} : ∀ {l : List Nat} {vs : List AV} {h : Nat → Option Blk}, id ∈ keys (takeRefs P h l vs) → id ∈ l
  | [], _, _, e => by simp [takeRefs, keys] at e
  | j :: r, vs, h, e => by
    unfold takeRefs at e
    cases q : h j with
    | none => rw [q] at e; simp [takeRefs_keys e]
    | some b =>
      rw [q] at e
      simp only [keys, List.map_cons, List.mem_cons] at e
      rcases e with e | e
      · simp [e]
      · simp [takeRefs_keys (l := r) (vs := (tlV vs)) (h := h) e]

/-! The numbers of what a call brings. -/
theorem take1_keys {fresh : Bool} {b : Nat} {s : Sc} {e : TypeId} {v : AV} {id : Nat} (h : id ∈ keys (take1 fresh b s e v).2.1) : b ≤ id ∧ id < (take1 fresh b s e v).2.2 := by
  unfold take1 at h ⊢
  split <;> simp [keys] at h ⊢
  omega
theorem takeIn_keys {fresh : Bool} {id : Nat} : ∀ {ss : List Sc} {es : List TypeId} {vs : List AV} {b : Nat}, id ∈ keys (takeIn fresh b ss es vs).2.1 → b ≤ id ∧ id < (takeIn fresh b ss es vs).2.2
  | [], _, _, _, h => by simp [takeIn, keys] at h
  | s :: ss, es, vs, b, h => by
    unfold takeIn at h ⊢
    simp only [keys, List.map_append, List.mem_append] at h ⊢
    have l1 := take1_le fresh b s (es.headD 0) (hdV vs)
    have l2 := takeIn_le fresh ss es.tail (tlV vs) (take1 fresh b s (es.headD 0) (hdV vs)).2.2
    rcases h with h | h
    · have := take1_keys h; omega
    · have := takeIn_keys (ss := ss) h; omega
theorem takeV_keys {fresh : Bool} {b : Nat} {s : Sc} {e : TypeId} {v : AV} {id : Nat} (h : id ∈ keys (takeV fresh b s e v).2.1) : b ≤ id ∧ id < (takeV fresh b s e v).2.2 := by
  unfold takeV at h ⊢
  split at h
  · simp [keys] at h ⊢; omega
  · exact take1_keys h
theorem takeVal_keys {fresh : Bool} {P : Program} {b : Nat} {t : TypeId} {r : AV} {id : Nat} (h : id ∈ keys (takeVal fresh P b t r).2.1) : b ≤ id ∧ id < (takeVal fresh P b t r).2.2 := by
  unfold takeVal at h ⊢
  cases hb : bigA P t with
  | some p => rw [hb] at h; simp [keys] at h
  | none =>
    rw [hb] at h
    cases ha : isAggT P t with
    | true => rw [ha] at h; exact takeIn_keys h
    | false => rw [ha] at h; exact takeV_keys h
theorem takeVals_keys {fresh : Bool} {P : Program} {id : Nat} : ∀ {ts : List TypeId} {vs : List AV} {b : Nat}, id ∈ keys (takeVals fresh P b ts vs).2.1 → b ≤ id ∧ id < (takeVals fresh P b ts vs).2.2
  | [], _, _, h => by simp [takeVals, keys] at h
  | t :: ts, vs, b, h => by
    unfold takeVals at h ⊢
    simp only [keys, List.map_append, List.mem_append] at h ⊢
    have l1 := takeVal_le fresh P b t (hdV vs)
    have l2 := takeVals_le fresh P ts (tlV vs) (takeVal fresh P b t (hdV vs)).2.2
    rcases h with h | h
    · have := takeVal_keys h; omega
    · have := takeVals_keys (ts := ts) h; omega

def dstAt (ops : Array Oper) (j : Nat) : Option Tmp := (ops[j]?).bind (·.dst)
/-- The flag of a guard says so. -/
def Flag (ops : Array Oper) (o : Oper) (σ : St) (want : Bool → Bool) : Prop := ∃ j b d, o.guard = some (j, b) ∧ dstAt ops j = some d ∧ σ.env d = .bool (want b)

/-- The guard was not done itself. -/
def Off (ops : Array Oper) (o : Oper) (σ : St) : Prop := ∃ j b d, o.guard = some (j, b) ∧ dstAt ops j = some d ∧ σ.env d = .tup []
/-- What an operation comes to, in the listed order; last: what it touches and looks at. -/
inductive OpStep (cp : CP) (orc : Orc) (ops : Array Oper) (base0 i : Nat) (o : Oper) (σ : St) : St → Trc → Prop where
  | skip (h0 : dstOk σ o = true) (h1 : Flag ops o σ (!·) ∨ Off ops o σ) : OpStep cp orc ops base0 i o σ (setAny σ o) trc0
  | val {v : AV} {news : List (Nat × Blk)} {dead froz : List Nat} (h0 : dstOk σ o = true) (h1 : o.guard = none ∨ Flag ops o σ id) (h2 : evR cp (evOperand σ.env) (only (lookIds cp (evOperand σ.env) σ.heap o) σ.heap) (base0 + stride * i) o = .val true v news dead froz) :
      OpStep cp orc ops base0 i o σ (putVal σ o v news dead froz) (trcOf o (touchV (base0 + stride * i) news dead froz) (lookIds cp (evOperand σ.env) σ.heap o) (softV σ.heap (base0 + stride * i) news dead froz))
  | call {f : FuncId} {args : List AV} {froz refs : List Nat} {r : List AV} (h0 : dstOk σ o = true) (h1 : o.guard = none ∨ Flag ops o σ id) (h2 : evR cp (evOperand σ.env) (only (lookIds cp (evOperand σ.env) σ.heap o) σ.heap) (base0 + stride * i) o = .call f args froz refs)
      (h4 : orc f args = some r) (h5 : callFits cp (base0 + stride * i) f froz refs r = true) :
      OpStep cp orc ops base0 i o σ (putCall cp σ (base0 + stride * i) o f froz refs r) (trcOf o (touchC cp f froz refs) (lookIds cp (evOperand σ.env) σ.heap o) (softC cp σ.heap f froz refs))
theorem ordAt_get {A : List Nat} {i : Nat} {x : Trc} : ∀ {c0 : Nat} {acc : List Trc}, ordAt A i x c0 acc = true → ∀ k y, acc[k]? = some y → waitsB A i (c0 + k) = true ∨ (apartB x y = true ∧ apartB y x = true)
  | _, [], _, k, y, e => by simp at e
  | c0, z :: r, h, k, y, e => by
    unfold ordAt at h
    rw [Bool.and_eq_true, Bool.or_eq_true, Bool.and_eq_true] at h
    cases k with
    | zero => simp at e; subst e; exact h.1
    | succ k =>
      have := ordAt_get h.2 k y (by simpa using e)
      rwa [show c0 + 1 + k = c0 + (k + 1) by omega] at this
theorem apart0 (y : Trc) : apartB trc0 y = true ∧ apartB y trc0 = true := by
  refine ⟨rfl, ?_⟩
  unfold apartB meets trc0
  simp
def Ord (A : List Nat) (base0 k : Nat) (X : Nat → Trc) : Prop := touchOk A base0 k (X k).L = true ∧ ∀ c, c < k → waitsB A k c = true ∨ (apartB (X k) (X c) = true ∧ apartB (X c) (X k) = true)

theorem setFlag_self {σ : St} {d : Nat} {b : Bool} (h : σ.env d = .bool b) : setFlag σ d b = σ := by unfold setFlag; rw [upd_self _ _ _ h]
theorem trace {cp : CP} {orc : Orc} {ops : Array Oper} {A : List Nat} {base0 : Nat} {K : St → Option (List AV)} {r : List AV} : ∀ (rest : List Oper) (i : Nat) (acc : List Trc) (σ : St), acc.length = i → rest = ops.toList.drop i → i ≤ ops.size →
    evDraw cp orc ops A base0 rest i (base0 + stride * i) acc σ K = some r →
    ∃ (s : Nat → St) (X : Nat → Trc), s i = σ ∧ (∀ k, k < i → acc[k]? = some (X k)) ∧ (∀ k o, i ≤ k → ops[k]? = some o → OpStep cp orc ops base0 k o (s k) (s (k + 1)) (X k) ∧ Ord A base0 k X) ∧ K { s ops.size with next := base0 + stride * ops.size } = some r
  | [], i, acc, σ, hacc, hr, hi, h => by
    have : i = ops.size := by
      have := congrArg List.length hr
      simp at this; omega
    subst this
    exact ⟨fun _ => σ, fun k => acc.getD k trc0, rfl, fun k hk => by show acc[k]? = some (acc.getD k trc0); rw [List.getD_eq_getElem?_getD, List.getElem?_eq_getElem (by omega)]; rfl, fun k o hk ho => by have := (Array.getElem?_eq_some_iff.1 ho).1; omega, h⟩
  | o :: rest, i, acc, σ, hacc, hr, hi, h => by
    have hi : i < ops.size := by
      have := congrArg List.length hr
      simp at this; omega
    have ho : ops[i]? = some o := by
      have := congrArg (fun l => l[0]?) hr
      simp only [List.getElem?_cons_zero, List.getElem?_drop, Nat.add_zero] at this
      simpa using this.symm
    have hrest : rest = ops.toList.drop (i + 1) := by
      have := congrArg List.tail hr
      simpa [List.tail_drop] using this
    have hb : base0 + stride * i + stride = base0 + stride * (i + 1) := by rw [Nat.mul_succ]; omega
    have glue : ∀ σ' x, OpStep cp orc ops base0 i o σ σ' x → touchOk A base0 i x.L = true → (∀ k y, acc[k]? = some y → waitsB A i k = true ∨ (apartB x y = true ∧ apartB y x = true)) → evDraw cp orc ops A base0 rest (i + 1) (base0 + stride * i + stride) (acc ++ [x]) σ' K = some r →
        ∃ (s : Nat → St) (X : Nat → Trc), s i = σ ∧ (∀ k, k < i → acc[k]? = some (X k)) ∧ (∀ k o, i ≤ k → ops[k]? = some o → OpStep cp orc ops base0 k o (s k) (s (k + 1)) (X k) ∧ Ord A base0 k X) ∧ K { s ops.size with next := base0 + stride * ops.size } = some r := by
      intro σ' x st ht hx e
      rw [hb] at e
      obtain ⟨s, X, q1, q0, q2, q3⟩ := trace rest (i + 1) (acc ++ [x]) σ' (by simp [hacc]) hrest (by omega) e
      have hXi : X i = x := by
        have := q0 i (by omega)
        rw [List.getElem?_append_right (by omega), show i - acc.length = 0 by omega] at this
        simpa using this.symm
      have hlow : ∀ k, k < i → acc[k]? = some (X k) := fun k hk => by
        have := q0 k (by omega)
        rwa [List.getElem?_append_left (by omega)] at this
      refine ⟨fun k => if k ≤ i then σ else s k, X, by simp, hlow, fun k o' hk ho' => ?_, by simp only [show ¬ ops.size ≤ i by omega, if_false]; exact q3⟩
      by_cases e : k = i
      · subst e
        rw [ho] at ho'; cases ho'
        simp only [Nat.le_refl, if_true, show ¬ (k + 1 ≤ k) by omega, if_false, q1]
        rw [hXi]
        exact ⟨st, by rw [hXi]; exact ht, fun c hc => by rw [hXi]; exact hx c _ (hlow c hc)⟩
      · simp only [show ¬ k ≤ i by omega, show ¬ k + 1 ≤ i by omega, if_false]
        exact q2 k o' (by omega) ho'
    have glue0 : ∀ σ', OpStep cp orc ops base0 i o σ σ' trc0 → evDraw cp orc ops A base0 rest (i + 1) (base0 + stride * i + stride) (acc ++ [trc0]) σ' K = some r →
        ∃ (s : Nat → St) (X : Nat → Trc), s i = σ ∧ (∀ k, k < i → acc[k]? = some (X k)) ∧ (∀ k o, i ≤ k → ops[k]? = some o → OpStep cp orc ops base0 k o (s k) (s (k + 1)) (X k) ∧ Ord A base0 k X) ∧ K { s ops.size with next := base0 + stride * ops.size } = some r :=
      fun σ' st e => glue σ' trc0 st rfl (fun _ y _ => .inr (apart0 y)) e
    unfold evDraw at h
    cases hd : dstOk σ o with
    | false => rw [hd] at h; simp at h
    | true =>
    rw [hd] at h
    simp only at h
    have go : (o.guard = none ∨ Flag ops o σ id) → (match evR cp (evOperand σ.env) (only (lookIds cp (evOperand σ.env) σ.heap o) σ.heap) (base0 + stride * i) o with
        | .no => none
        | .val g v news dead froz => match ordOk A base0 i (trcOf o (touchV (base0 + stride * i) news dead froz) (lookIds cp (evOperand σ.env) σ.heap o) (softV σ.heap (base0 + stride * i) news dead froz)) acc with
          | false => none
          | true => gd g (evDraw cp orc ops A base0 rest (i + 1) (base0 + stride * i + stride) (acc ++ [trcOf o (touchV (base0 + stride * i) news dead froz) (lookIds cp (evOperand σ.env) σ.heap o) (softV σ.heap (base0 + stride * i) news dead froz)]) (putVal σ o v news dead froz) K)
        | .call f args froz refs => match ordOk A base0 i (trcOf o (touchC cp f froz refs) (lookIds cp (evOperand σ.env) σ.heap o) (softC cp σ.heap f froz refs)) acc with
          | false => none
          | true => bnd (orc f args) fun r => gd (callFits cp (base0 + stride * i) f froz refs r) (evDraw cp orc ops A base0 rest (i + 1) (base0 + stride * i + stride) (acc ++ [trcOf o (touchC cp f froz refs) (lookIds cp (evOperand σ.env) σ.heap o) (softC cp σ.heap f froz refs)]) (putCall cp σ (base0 + stride * i) o f froz refs r) K)) = some r →
        ∃ (s : Nat → St) (X : Nat → Trc), s i = σ ∧ (∀ k, k < i → acc[k]? = some (X k)) ∧ (∀ k o, i ≤ k → ops[k]? = some o → OpStep cp orc ops base0 k o (s k) (s (k + 1)) (X k) ∧ Ord A base0 k X) ∧ K { s ops.size with next := base0 + stride * ops.size } = some r := by
      intro hg e
      cases hev : evR cp (evOperand σ.env) (only (lookIds cp (evOperand σ.env) σ.heap o) σ.heap) (base0 + stride * i) o with
      | no => rw [hev] at e; simp at e
      | val g v news dead froz =>
        rw [hev] at e
        simp only at e
        cases hq : ordOk A base0 i (trcOf o (touchV (base0 + stride * i) news dead froz) (lookIds cp (evOperand σ.env) σ.heap o) (softV σ.heap (base0 + stride * i) news dead froz)) acc <;> rw [hq] at e <;> simp only [reduceCtorEq] at e
        unfold gd at e
        cases g <;> simp only [reduceCtorEq] at e
        unfold ordOk at hq
        rw [Bool.and_eq_true] at hq
        exact glue _ _ (.val hd hg hev) hq.1 (fun k y hy => by have := ordAt_get hq.2 k y hy; rwa [Nat.zero_add] at this) e
      | call f args froz refs =>
        rw [hev] at e
        simp only at e
        cases hq : ordOk A base0 i (trcOf o (touchC cp f froz refs) (lookIds cp (evOperand σ.env) σ.heap o) (softC cp σ.heap f froz refs)) acc <;> rw [hq] at e <;> simp only [reduceCtorEq] at e
        unfold bnd at e
        cases hor : orc f args with
        | none => rw [hor] at e; simp at e
        | some r' =>
          rw [hor] at e
          simp only at e
          unfold gd at e
          cases hfit : callFits cp (base0 + stride * i) f froz refs r' with
          | false => rw [hfit] at e; simp at e
          | true =>
          rw [hfit] at e
          unfold ordOk at hq
          rw [Bool.and_eq_true] at hq
          exact glue _ _ (.call hd hg hev hor hfit) hq.1 (fun k y hy => by have := ordAt_get hq.2 k y hy; rwa [Nat.zero_add] at this) e
    cases hgu : o.guard with
    | none =>
      rw [hgu] at h
      exact go (.inl hgu) h
    | some p =>
      obtain ⟨j, want⟩ := p
      rw [hgu] at h
      simp only at h
      cases hj : (ops[j]?).bind (·.dst) with
      | none => rw [hj] at h; simp at h
      | some d =>
        rw [hj] at h
        simp only at h
        cases hv : σ.env d <;> rw [hv] at h <;> first | (simp at h; done) | skip
        case tup xs =>
          cases xs with
          | cons _ _ => simp at h
          | nil => exact glue0 _ (.skip hd (.inr ⟨j, want, d, hgu, hj, hv⟩)) h
        rename_i b
        simp only at h
        unfold br at h
        cases b <;> cases want <;> simp only [setFlag_self hv] at h
        · exact go (.inr ⟨j, false, d, hgu, hj, hv⟩) h
        · exact glue0 _ (.skip hd (.inl ⟨j, true, d, hgu, hj, hv⟩)) h
        · exact glue0 _ (.skip hd (.inl ⟨j, false, d, hgu, hj, hv⟩)) h
        · exact go (.inr ⟨j, true, d, hgu, hj, hv⟩) h
end Go.Proofs.YtlcnpecejhcnfaaDoor.EV
namespace Go.Proofs.YtlcnpecejhcnfaaDoor.EV
set_option linter.unusedVariables false
set_option linter.unusedSimpArgs false
open Go Go.RowKit

theorem soft_set {id : Nat} : ∀ {l : List Nat} {h : Nat → Option Blk}, stOk h l = true → Soft (h id) (setSt h 1 l id)
  | [], _, _ => .inl rfl
  | j :: r, h, e => by
    unfold stOk at e
    rw [List.all_cons, Bool.and_eq_true] at e
    obtain ⟨e1, e2⟩ := e
    unfold setSt
    have one : Soft (h id) ((upd h j (match h j with | some b => some { b with st := 1 } | none => none)) id) := by
      by_cases q : id = j
      · subst q
        rw [upd_same]
        cases hk : h id with
        | none => exact .inl rfl
        | some b =>
          rw [hk] at e1
          exact .inr ⟨b, _, rfl, rfl, rfl, rfl, rfl, .inr ⟨Nat.le_of_ble_eq_true e1, Nat.le_refl _⟩⟩
      · rw [upd_other _ _ q]; exact .inl rfl
    refine one.trans (soft_set (l := r) ?_)
    unfold stOk
    rw [List.all_eq_true] at e2 ⊢
    intro x hx
    have := e2 x hx
    by_cases q : x = j
    · subst q
      rw [upd_same]
      cases hk : h x with
      | none => rw [hk] at this; simp at this
      | some b => rfl
    · rw [upd_other _ _ q]; exact this
def envOf (o : Oper) (e : Nat → AV) (v : AV) : Nat → AV := match o.dst with | some d => upd e d v | none => e
/-- What is done to the memory. -/
structure Eff (cp : CP) (base0 i : Nat) (o : Oper) (σ σ' : St) (x : Trc) (E : (Nat → Option Blk) → Nat → Option Blk) (v : AV) (ks : List Nat) : Prop where
  heap : σ'.heap = E σ.heap
  env : σ'.env = envOf o σ.env v
  nt : σ'.nt = σ.nt
  nr : σ'.nr = σ.nr
  pt : ∀ h h' id, h id = h' id → E h id = E h' id
  keep : ∀ h id, id ∉ x.T → id ∉ ks → E h id = h id
  new : ∀ h h' id, id ∈ ks → E h id = E h' id
  rng : ∀ id, id ∈ ks → base0 + stride * i ≤ id ∧ id < base0 + stride * i + stride
  soft : x.sf = true → ∀ id, id ∉ ks → Soft (σ.heap id) (E σ.heap id)
  sub : ∀ id, id ∈ x.T → id ∈ x.L
  rd : x.rd = true → readB o = true ∧ x.T = []

theorem quiet_nil {l : List Nat} (h : quiet l = true) : l = [] := by cases l <;> simp [quiet] at h ⊢
theorem trc_sub {o : Oper} {T V : List Nat} {sf : Bool} : ∀ id, id ∈ (trcOf o T V sf).T → id ∈ (trcOf o T V sf).L := fun _ h => List.mem_append_right _ h
theorem trc_rd {o : Oper} {T V : List Nat} {sf : Bool} (h : (trcOf o T V sf).rd = true) : readB o = true ∧ (trcOf o T V sf).T = [] := by
  unfold trcOf at h
  simp only [Bool.and_eq_true] at h
  exact ⟨h.1, quiet_nil h.2⟩
theorem flag_wanted {P : Program} {w0 : World} {C0 : Ctx} {H0 : Nat → Option Blk} {w : World} {C : Ctx} {a : Act} {σ : St} {B : Nat} (h : RelB P w0 C0 H0 w C a σ B) {ops : Array Oper} {o : Oper} {f : Bool → Bool} {j : Nat} {b : Bool} {d : Nat}
    (h1 : o.guard = some (j, b)) (h2 : dstAt ops j = some d) (h3 : σ.env d = .bool (f b)) : Region.wanted o (yielded ops a.tmps) = (f b == b) := by
  have hrd := h.env d
  rw [h3] at hrd
  simp only [Rep] at hrd
  have hy : yielded ops a.tmps j = some (f b) := by
    unfold yielded
    unfold dstAt at h2
    rw [h2]
    have : a.tmps[d]? = some (.bool (f b)) := by
      rw [Array.getD_eq_getD_getElem?] at hrd
      cases hq : a.tmps[d]? with
      | none => rw [hq] at hrd; simp [undef] at hrd
      | some x => rw [hq] at hrd; simp at hrd; rw [hrd]
    simp [this]
  simp only [Region.wanted, h1, hy]
  rfl

theorem putVal_eff {cp : CP} {base0 i : Nat} {o : Oper} {σ : St} {v : AV} {news : List (Nat × Blk)} {dead froz V : List Nat} :
    Eff cp base0 i o σ (putVal σ o v news dead froz) (trcOf o (touchV (base0 + stride * i) news dead froz) V (softV σ.heap (base0 + stride * i) news dead froz)) (fun h => upds (setSt (setSt h 1 froz) 2 dead) news) v ((keys news).filter fun id => Nat.beq id (base0 + stride * i)) := by
  refine ⟨rfl, rfl, rfl, rfl, fun h h' id e => upds_pt (setSt_pt (setSt_pt e)), fun h id h1 h2 => ?_, fun h h' id h1 => upds_in (List.mem_filter.1 h1).1, fun id h1 => ?_, fun hs id hk => ?_, trc_sub, trc_rd⟩
  · change id ∉ touchV (base0 + stride * i) news dead froz at h1
    have hn : id ∉ keys news := fun q => by
      cases hb : Nat.beq id (base0 + stride * i) with
      | true => exact h2 (List.mem_filter.2 ⟨q, hb⟩)
      | false =>
        unfold touchV at h1
        exact h1 (List.mem_append_right _ (List.mem_filter.2 ⟨q, by rw [hb]; rfl⟩))
    rw [upds_not hn, setSt_not (fun q => h1 (by unfold touchV; simp [q])), setSt_not (fun q => h1 (by unfold touchV; simp [q]))]
  · have := nbeq_eq (List.mem_filter.1 h1).2
    have : 0 < stride := by decide
    omega
  · change softV σ.heap (base0 + stride * i) news dead froz = true at hs
    unfold softV at hs
    rw [Bool.and_eq_true, Bool.and_eq_true] at hs
    obtain ⟨⟨a1, a2⟩, a3⟩ := hs
    have hd := quiet_nil a1
    have hn := quiet_nil a2
    subst hd
    have hn' : id ∉ keys news := fun q => by
      cases hb : Nat.beq id (base0 + stride * i) with
      | true => exact hk (List.mem_filter.2 ⟨q, hb⟩)
      | false =>
        have : id ∈ (news.map (·.1)).filter fun id => !Nat.beq id (base0 + stride * i) := List.mem_filter.2 ⟨q, by rw [hb]; rfl⟩
        rw [hn] at this; simp at this
    show Soft (σ.heap id) (upds (setSt (setSt σ.heap 1 froz) 2 []) news id)
    rw [upds_not hn']
    exact soft_set a3
theorem takeT1_low {b : Nat} {s : Sc} {e : TypeId} {v : AV} : b ≤ (takeT1 b s e v).2.2 ∧ ∀ p ∈ (takeT1 b s e v).2.1, b ≤ p.1 := by cases s <;> simp [takeT1]
theorem takeTL_low : ∀ (ss : List Sc) (b : Nat) (es : List TypeId) (vs : List AV), ∀ p ∈ (takeTL b ss es vs).2.1, b ≤ p.1
  | [], _, _, _ => by simp [takeTL]
  | s :: ss, b, es, vs => by
    have h1 := takeT1_low (b := b) (s := s) (e := es.headD 0) (v := hdV vs)
    have h2 := takeTL_low ss (takeT1 b s (es.headD 0) (hdV vs)).2.2 es.tail (tlV vs)
    intro p hp
    simp only [takeTL, List.mem_append] at hp
    rcases hp with hp | hp
    · exact h1.2 p hp
    · exact Nat.le_trans h1.1 (h2 p hp)
theorem takeTV_low (P : Program) (b : Nat) (t : TypeId) (v : AV) : ∀ p ∈ (takeTV P b t v).2.1, b ≤ p.1 := by
  unfold takeTV
  cases isAggT P t with
  | true => exact takeTL_low _ _ _ _
  | false => exact takeT1_low.2
theorem takeTs_low (P : Program) : ∀ (ts : List TypeId) (b : Nat) (vs : List AV), ∀ p ∈ (takeTs P b ts vs).2.1, b ≤ p.1
  | [], _, _ => by simp [takeTs]
  | t :: ts, b, vs => by
    have h1 := takeTV_low P b t (hdV vs)
    have h2 := takeTs_low P ts (takeTV P b t (hdV vs)).2.2 (tlV vs)
    intro p hp
    simp only [takeTs, List.mem_append] at hp
    rcases hp with hp | hp
    · exact h1 p hp
    · exact Nat.le_trans (takeTV_rng P b t (hdV vs)).1 (h2 p hp)
theorem putCall_eff {cp : CP} {base0 i : Nat} {o : Oper} {σ : St} {f : FuncId} {froz refs V : List Nat} {r : List AV}
    (hf : callFits cp (base0 + stride * i) f froz refs r = true) :
    ∃ E v ks, Eff cp base0 i o σ (putCall cp σ (base0 + stride * i) o f froz refs r) (trcOf o (touchC cp f froz refs) V (softC cp σ.heap f froz refs)) E v ks ∧ ∀ σ2 : St, (putCall cp σ2 (base0 + stride * i) o f froz refs r).heap = E σ2.heap ∧ (putCall cp σ2 (base0 + stride * i) o f froz refs r).env = envOf o σ2.env v ∧
      (putCall cp σ2 (base0 + stride * i) o f froz refs r).nt = σ2.nt ∧ (putCall cp σ2 (base0 + stride * i) o f froz refs r).nr = σ2.nr := by
  cases hdp : isDeep cp f with
  | true =>
    unfold callFits at hf
    rw [hdp] at hf
    simp only at hf
    cases hfn : look cp.fns f with
    | none => rw [hfn] at hf; simp at hf
    | some fn =>
    rw [hfn] at hf
    simp only at hf
    have hfz : frozC cp f froz refs = [] := by unfold frozC; rw [hdp]
    have htc : touchC cp f froz refs = refs := by unfold touchC; rw [hfz]; rfl
    unfold deepFits at hf
    rw [Bool.and_eq_true, Bool.and_eq_true, Bool.and_eq_true, Bool.and_eq_true] at hf
    obtain ⟨_, href, hle1, hle2, hsh⟩ := hf
    have hq1 : (deepR cp f froz r).1.length = (tmB cp f froz).length := cBs_len _ _
    have h1 := Nat.le_of_ble_eq_true hle1
    have h2 := Nat.le_of_ble_eq_true hle2
    rw [← hq1] at h1 h2
    let L := deepL refs (base0 + stride * i) (deepR cp f froz r).1.length
    have hkL : ∀ id, id ∈ L → id ∈ refs ∨ (base0 + stride * i ≤ id ∧ id < base0 + stride * i + stride) := by
      intro id hid
      obtain ⟨j, hj⟩ := List.getElem?_of_mem hid
      rcases deepL_cases hj h1 with ⟨_, q⟩ | ⟨q1, q2, q3⟩
      · exact .inl (List.mem_of_getElem? q)
      · exact .inr (by omega)
    have hks : ∀ id, id ∈ keys (deepNews L L (deepR cp f froz r).1) → id ∈ L := fun id hid => deepNews_keys hid
    have keepE : ∀ (hh : Nat → Option Blk) (id : Nat), id ∉ refs → id ∉ keys (deepNews L L (deepR cp f froz r).1) → upds (setSt hh 2 (deepDead L (deepR cp f froz r).1)) (deepNews L L (deepR cp f froz r).1) id = hh id := by
      intro hh id n1 hnk
      rw [upds_not hnk]
      refine setSt_not fun hm => ?_
      obtain ⟨j, v, q1, q2, q3⟩ := deepDead_at hm
      rcases deepL_cases q1 h1 with ⟨_, q⟩ | ⟨p1, p2, _⟩
      · exact n1 (List.mem_of_getElem? q)
      · obtain ⟨t, ht⟩ : ∃ t, (tmB cp f froz)[j]? = some t := ⟨_, List.getElem?_eq_getElem (by omega)⟩
        have htr : isRef t = true := by
          refine List.all_eq_true.1 href t ?_
          refine List.mem_of_getElem? (i := j - refs.length) ?_
          rw [List.getElem?_drop, show refs.length + (j - refs.length) = j by omega]
          exact ht
        obtain ⟨v', z1, z2⟩ := cBs_ref (vs := (r.headD .any).tupL) ht htr
        have q2' : (cBs (tmB cp f froz) (r.headD .any).tupL)[j]? = some v := q2
        rw [z1] at q2'
        cases q2'
        rw [z2] at q3; cases q3
    refine ⟨fun h => upds (setSt h 2 (deepDead L (deepR cp f froz r).1)) (deepNews L L (deepR cp f froz r).1), tupA ((deepR cp f froz r).2.map (mv L)),
      (keys (deepNews L L (deepR cp f froz r).1)).filter fun id => !refs.contains id, ⟨?_, ?_, ?_, ?_, ?_, ?_, ?_, ?_, ?_, trc_sub, trc_rd⟩, fun σ2 => ?_⟩
    · unfold putCall; rw [hdp]; rfl
    · unfold putCall; rw [hdp]; rfl
    · unfold putCall; rw [hdp]; rfl
    · unfold putCall; rw [hdp]; rfl
    · exact fun h h' id e => upds_pt (setSt_pt e)
    · intro hh id n1 n2
      change id ∉ touchC cp f froz refs at n1
      rw [htc] at n1
      have hnk : id ∉ keys (deepNews L L (deepR cp f froz r).1) := fun q => n2 (List.mem_filter.2 ⟨q, by simpa using n1⟩)
      exact keepE hh id n1 hnk
    · exact fun h h' id h1 => upds_in (List.mem_filter.1 h1).1
    · intro id hid
      obtain ⟨q1, q2⟩ := List.mem_filter.1 hid
      rcases hkL id (hks id q1) with q | q
      · simp [q] at q2
      · exact q
    · intro hs id hk
      change softC cp σ.heap f froz refs = true at hs
      unfold softC at hs
      rw [Bool.and_eq_true] at hs
      have hr := quiet_nil hs.1
      refine .inl ?_
      refine (keepE σ.heap id (by rw [hr]; simp) (fun q => hk (List.mem_filter.2 ⟨q, by rw [hr]; simp⟩))).symm
    · unfold putCall; rw [hdp]; exact ⟨rfl, rfl, rfl, rfl⟩
  | false =>
    unfold callFits at hf
    rw [hdp] at hf
    simp only at hf
    cases htr : treeF cp f with
    | true =>
      rw [htr] at hf
      simp only at hf
      cases hfn : look cp.fns f with
      | none => rw [hfn] at hf; simp at hf
      | some fn =>
      rw [hfn] at hf
      cases refs with
      | cons _ _ => simp at hf
      | nil =>
      simp only at hf
      have hle := Nat.le_of_ble_eq_true hf
      have hfz : frozC cp f froz [] = [] := by
        unfold frozC coldC
        rw [hdp, hfn, htr]
        simp
      have htc : touchC cp f froz [] = [] := by unfold touchC; rw [hfz]; rfl
      refine ⟨fun h => upds h (takeTs cp.P (base0 + stride * i) fn.resultTypes.toList r).2.1, tupA (takeTs cp.P (base0 + stride * i) fn.resultTypes.toList r).1, keys (takeTs cp.P (base0 + stride * i) fn.resultTypes.toList r).2.1, ⟨?_, ?_, ?_, ?_, ?_, ?_, ?_, ?_, ?_, trc_sub, trc_rd⟩, fun σ2 => ?_⟩
      · unfold putCall; rw [hdp, htr, hfn]
      · unfold putCall envOf; rw [hdp, htr, hfn]; rfl
      · unfold putCall; rw [hdp, htr, hfn]
      · unfold putCall; rw [hdp, htr, hfn]
      · exact fun h h' id e => upds_pt e
      · exact fun h id _ h2 => upds_not h2
      · exact fun h h' id h1 => upds_in h1
      · intro id h1
        obtain ⟨p, hp, rfl⟩ := List.mem_map.1 h1
        have := takeTs_low cp.P fn.resultTypes.toList (base0 + stride * i) r p hp
        have := (takeTs_rng cp.P fn.resultTypes.toList (base0 + stride * i) r).2 p hp
        omega
      · intro _ id hk
        exact .inl (upds_not hk).symm
      · unfold putCall envOf; rw [hdp, htr, hfn]; exact ⟨rfl, rfl, rfl, rfl⟩
    | false =>
    rw [htr] at hf
    simp only at hf
    cases hfn : look cp.fns f with
    | none => rw [hfn] at hf; simp at hf
    | some fn =>
      rw [hfn] at hf
      have hle : (takeVals (cp.fresh.contains f) cp.P (base0 + stride * i) fn.resultTypes.toList r).2.2 ≤ base0 + stride * i + stride := by
        exact Nat.le_of_ble_eq_true (Bool.and_eq_true _ _ ▸ hf).1
      refine ⟨fun h => upds (setSt (upds h (takeRefs cp.P h refs (dropV fn.resultTypes.toList r))) 1 (frozC cp f froz refs)) (takeVals (cp.fresh.contains f) cp.P (base0 + stride * i) fn.resultTypes.toList r).2.1,
        tupA (takeVals (cp.fresh.contains f) cp.P (base0 + stride * i) fn.resultTypes.toList r).1, keys (takeVals (cp.fresh.contains f) cp.P (base0 + stride * i) fn.resultTypes.toList r).2.1, ⟨?_, ?_, ?_, ?_, ?_, ?_, ?_, ?_, ?_, trc_sub, trc_rd⟩, fun σ2 => ?_⟩
      · unfold putCall frozC; rw [hdp, htr, hfn]
      · unfold putCall envOf; rw [hdp, htr, hfn]; rfl
      · unfold putCall; rw [hdp, htr, hfn]
      · unfold putCall; rw [hdp, htr, hfn]
      · exact fun h h' id e => upds_pt (setSt_pt (takeRefs_pt e e))
      · intro h id h1 h2
        change id ∉ touchC cp f froz refs at h1
        rw [upds_not h2, setSt_not (fun q => h1 (by unfold touchC; simp [q])), upds_not (fun q => h1 (by unfold touchC; simp [takeRefs_keys q]))]
      · exact fun h h' id h1 => upds_in h1
      · intro id h1
        have := takeVals_keys h1
        omega
      · intro hs id hk
        change softC cp σ.heap f froz refs = true at hs
        unfold softC at hs
        rw [Bool.and_eq_true] at hs
        have hr := quiet_nil hs.1
        subst hr
        rw [upds_not hk]
        exact soft_set hs.2
      · unfold putCall frozC envOf; rw [hdp, htr, hfn]; exact ⟨rfl, rfl, rfl, rfl⟩

theorem only_app {V T : List Nat} {h : Nat → Option Blk} {id : Nat} {b : Blk} (e : only V h id = some b) : only (V ++ T) h id = some b := by
  unfold only at e ⊢
  cases q : V.contains id with
  | false => rw [q] at e; cases e
  | true =>
    rw [q] at e
    have : (V ++ T).contains id = true := by
      rw [List.contains_iff_mem] at q ⊢
      exact List.mem_append_left _ q
    rw [this]; exact e
/-- The operation from a memory that holds more, with what else is done. -/
theorem op_any {cp : CP} {orc : Orc} (hc : CallOk cp orc) {ops : Array Oper} {base0 i : Nat} {o : Oper} (ho : ops[i]? = some o) {σ σ' : St} {x : Trc} (st : OpStep cp orc ops base0 i o σ σ' x) :
    ∃ E v ks, Eff cp base0 i o σ σ' x E v ks ∧ ∀ {w0 : World} {C0 : Ctx} {H0 : Nat → Option Blk} {w : World} {C : Ctx} {a : Act} {σS : St} {B : Nat} {Q : Exit → Act → World → Prop} {K : Act → World → Prop},
      GlobOk cp w0 C0 → RelB cp.P w0 C0 H0 w C a σS B → σS.nr ≤ base0 → σS.nt = σ.nt → (∀ x ∈ o.op.operands, evOperand σS.env x = evOperand σ.env x) → (∀ g b d, o.guard = some (g, b) → dstAt ops g = some d → σS.env d = σ.env d) → (Ext (only x.L σ.heap) σS.heap ∨ (readB o = true ∧ SoftExt (only x.L σ.heap) σS.heap)) →
      (∀ id, base0 + stride * i ≤ id → id < base0 + stride * i + stride → C.φ id = none) → base0 + stride * i + stride ≤ B → (∀ id k, base0 + stride * i ≤ id → id < base0 + stride * i + stride → σS.heap id = some k → k.st < 3) →
      (∀ u w' C' σ1, RelB cp.P w0 C0 H0 w' C' (a.put o.dst u) σ1 B → σ1.heap = E σS.heap → σ1.env = envOf o σS.env v → σ1.nt = σS.nt → σ1.nr = σS.nr → (∀ id, (id < base0 + stride * i ∨ base0 + stride * i + stride ≤ id) → C.φ id = none → C'.φ id = none) → K (a.put o.dst u) w') →
      wpOp cp.P ops Q i K a w := by
  have same : ∀ {σS : St} {T : List Nat} {sf : Bool}, (∀ x ∈ o.op.operands, evOperand σS.env x = evOperand σ.env x) → (Ext (only (trcOf o T (lookIds cp (evOperand σ.env) σ.heap o) sf).L σ.heap) σS.heap ∨ (readB o = true ∧ SoftExt (only (trcOf o T (lookIds cp (evOperand σ.env) σ.heap o) sf).L σ.heap) σS.heap)) → evR cp (evOperand σ.env) (only (lookIds cp (evOperand σ.env) σ.heap o) σ.heap) (base0 + stride * i) o ≠ .no →
      evR cp (evOperand σS.env) σS.heap (base0 + stride * i) o = evR cp (evOperand σ.env) (only (lookIds cp (evOperand σ.env) σ.heap o) σ.heap) (base0 + stride * i) o := by
    intro σS T sf h1 h2 h3
    rw [evR_local h1]
    rcases h2 with h2 | h2
    · exact evR_mono (fun id b hb => h2 id b (only_app hb)) rfl h3
    · exact evR_soft (fun id b hb => h2.2 id b (only_app hb)) h2.1 h3
  have want : ∀ {w0 : World} {C0 : Ctx} {H0 : Nat → Option Blk} {w : World} {C : Ctx} {a : Act} {σS : St} {B : Nat}, RelB cp.P w0 C0 H0 w C a σS B → (∀ g b d, o.guard = some (g, b) → dstAt ops g = some d → σS.env d = σ.env d) → (o.guard = none ∨ Flag ops o σ id) → Region.wanted o (yielded ops a.tmps) = true := by
    intro w0 C0 H0 w C a σS B hr hg h
    rcases h with h | ⟨j, b, d, h1, h2, h3⟩
    · simp [Region.wanted, h]
    · rw [flag_wanted hr (f := id) h1 h2 (by rw [hg j b d h1 h2, h3])]; simp
  cases st with
  | skip h0 h1 =>
    refine ⟨fun h => h, .tup [], [], ⟨rfl, rfl, rfl, rfl, fun _ _ _ e => e, fun _ _ _ _ => rfl, fun _ _ _ q => by simp at q, fun _ q => by simp at q, fun q => (by cases q), fun _ q => (by cases q), fun q => (by cases q)⟩, ?_⟩
    intro w0 C0 H0 w C a σS B Q K hG hr hnb hnt _ hg _ _ _ _ hK
    have hnw : ¬ Region.wanted o (yielded ops a.tmps) = true := by
      rcases h1 with ⟨j, b, d, g1, g2, g3⟩ | ⟨j, b, d, g1, g2, g3⟩
      · rw [flag_wanted hr (f := (!·)) g1 g2 (by rw [hg j b d g1 g2, g3])]; cases b <;> simp
      · have := hr.env d
        rw [hg j b d g1 g2, g3] at this
        rw [off_wanted g1 g2 this]; simp
    unfold wpOp
    rw [ho]
    simp only
    rw [if_neg hnw]
    have hd : dstOk σS o = true := by unfold dstOk at h0 ⊢; rw [hnt]; exact h0
    refine hK undef w C (setAny σS o) ⟨hr.mem, ?_, hr.fresh, by rw [(put_size _ _ _).1]; exact hr.size, by rw [(put_size _ _ _).2]; exact hr.defers, hr.kept, hr.nr, hr.nb, hr.tb⟩ rfl rfl rfl rfl (fun _ _ q => q)
    exact put_env (Step.refl w C) hr.env hr.size hd (v := .tup []) ⟨[], rfl, rfl⟩
  | @val v news dead froz h0 h1 h2 =>
    refine ⟨_, v, _, putVal_eff, ?_⟩
    intro w0 C0 H0 w C a σS B Q K hG hr hnb hnt hop hg hx hfr hB hNT hK
    have hev := same hop hx (by rw [h2]; simp)
    rw [h2] at hev
    have hd : dstOk σS o = true := by unfold dstOk at h0 ⊢; rw [hnt]; exact h0
    have hs : 0 < stride := by decide
    unfold wpOp
    rw [ho]
    simp only
    rw [if_pos (want hr hg h1)]
    left
    obtain ⟨nx, u, w', C', q1, q2, q3, q4, q5, q6⟩ := (op_ok hr.mem (hG.step hr.kept.step) _ (hfr _ (Nat.le_refl _) (by omega)) (fun k => hNT _ k (Nat.le_refl _) (by omega)) (operand_rep hr.env) o hev rfl).out
    have hrel : RelB cp.P w0 C0 H0 w' C' (a.put o.dst u) (putVal σS o v news dead froz) B :=
      ⟨q4, put_env q5.step hr.env hr.size hd q3, fun id hid => q6 id (by omega) (hr.fresh id hid), by rw [(put_size a o.dst u).1]; exact hr.size, by rw [(put_size a o.dst u).2]; exact hr.defers, hr.kept.trans q5, ⟨hr.nr.1, fun id b hb => by
          obtain ⟨q1, q2⟩ := hr.nr.2 id b hb
          exact ⟨q1, fun q3 => q6 id (by omega) (q2 q3)⟩⟩, hr.nb, noT_after hev hr.tb (by omega)⟩
    have hn := hK u w' C' _ hrel rfl rfl rfl rfl (fun id hid q => q6 id (by omega) q)
    unfold Oper.wp
    rw [q1]
    rcases q2 with rfl | ⟨rfl, rfl⟩
    · rw [Oper.upon_value]; exact hn
    · rw [Oper.upon_skip]; exact hn
  | @call f args froz refs r h0 h1 h2 h4 h5 =>
    obtain ⟨E, v, ks, eff, all⟩ := putCall_eff (σ := σ) (o := o) (V := lookIds cp (evOperand σ.env) σ.heap o) h5
    refine ⟨E, v, ks, eff, ?_⟩
    intro w0 C0 H0 w C a σS B Q K hG hr hnb hnt hop hg hx hfr hB hNT hK
    have hev := same hop hx (by rw [h2]; simp)
    rw [h2] at hev
    have hd : dstOk σS o = true := by unfold dstOk at h0 ⊢; rw [hnt]; exact h0
    unfold wpOp
    rw [ho]
    simp only
    rw [if_pos (want hr hg h1)]
    left
    obtain ⟨e1, e2, e3, e4⟩ := all σS
    exact hc w0 C0 H0 w C a σS B B _ o f args froz refs r hG hr (by omega) hfr hNT (Nat.le_refl _) hB hd hev h4 h5 _ _ fun u w' C' hrel hφ => hK u w' C' _ hrel e1 e2 e3 e4 (fun id hid q => by rw [hφ id hid]; exact q)
end Go.Proofs.YtlcnpecejhcnfaaDoor.EV
namespace Go.Proofs.YtlcnpecejhcnfaaDoor.EV
set_option linter.unusedVariables false
set_option linter.unusedSimpArgs false
open Go Go.RowKit

inductive Waits (ops : Array Oper) : Nat → Nat → Prop where
  | edge {j i : Nat} {o : Oper} (h : ops[j]? = some o) (e : i ∈ edgesTo o) : Waits ops j i
  | far {j k i : Nat} {o : Oper} (h : ops[j]? = some o) (e : k ∈ edgesTo o) (r : Waits ops k i) : Waits ops j i

theorem bit_one {j y : Nat} (h : Nat.testBit (1 <<< j) y = true) : y = j := by
  rw [Nat.one_shiftLeft, Nat.testBit_two_pow] at h
  simpa using Eq.symm (of_decide_eq_true h)
theorem mask_mem_ {y : Nat} : ∀ {l : List Nat} {m : Nat}, Nat.testBit (l.foldl (fun m j => m ||| (1 <<< j)) m) y = true → Nat.testBit m y = true ∨ y ∈ l
  | [], _, h => .inl h
  | x :: r, m, h => by
    rcases mask_mem_ (l := r) h with h | h
    · rw [Nat.testBit_or, Bool.or_eq_true] at h
      rcases h with h | h
      · exact .inl h
      · exact .inr (by rw [bit_one h]; simp)
    · exact .inr (by simp [h])
theorem mask_mem {l : List Nat} {y : Nat} (h : Nat.testBit (maskOf l) y = true) : y ∈ l := by
  rcases mask_mem_ (l := l) h with h | h
  · simp at h
  · exact h
theorem mem_step {prev : List Nat} {y : Nat} : ∀ {es : List Nat} {m : Nat}, Nat.testBit (es.foldl (fun m j => m ||| ((1 <<< j) ||| prev.getD j 0)) m) y = true → Nat.testBit m y = true ∨ ∃ j ∈ es, y = j ∨ Nat.testBit (prev.getD j 0) y = true
  | [], _, h => .inl h
  | x :: r, m, h => by
    rcases mem_step (es := r) h with h | ⟨j, h1, h2⟩
    · rw [Nat.testBit_or, Nat.testBit_or, Bool.or_eq_true, Bool.or_eq_true] at h
      rcases h with h | h | h
      · exact .inl h
      · exact .inr ⟨x, by simp, .inl (bit_one h)⟩
      · exact .inr ⟨x, by simp, .inr h⟩
    · exact .inr ⟨j, by simp [h1], h2⟩
theorem ancsFrom_ok {ops : Array Oper} : ∀ (rest : List Oper) (prev : List Nat), rest = ops.toList.drop prev.length → (∀ j i, Nat.testBit (prev.getD j 0) i = true → Waits ops j i) → ∀ j i, Nat.testBit ((ancsFrom prev rest).getD j 0) i = true → Waits ops j i
  | [], _, _, h, j, i, e => h j i e
  | o :: rest, prev, hr, h, j, i, e => by
    unfold ancsFrom at e
    have ho : ops[prev.length]? = some o := by
      have := congrArg (fun l => l[0]?) hr
      simp only [List.getElem?_cons_zero, List.getElem?_drop, Nat.add_zero] at this
      simpa using this.symm
    refine ancsFrom_ok rest _ ?_ (fun j i e => ?_) j i e
    · have := congrArg List.tail hr
      simpa [List.tail_drop] using this
    · rw [List.getD_eq_getElem?_getD, List.getElem?_append] at e
      by_cases q : j < prev.length
      · rw [if_pos q] at e
        exact h j i (by rw [List.getD_eq_getElem?_getD]; exact e)
      · rw [if_neg q] at e
        by_cases q2 : j = prev.length
        · subst q2
          simp only [Nat.sub_self, List.getElem?_cons_zero, Option.getD_some] at e
          rcases mem_step e with e | ⟨k, e1, e2⟩
          · simp at e
          · rcases e2 with rfl | e2
            · exact .edge ho e1
            · exact .far ho e1 (h k i e2)
        · rw [List.getElem?_eq_none (by simp; omega)] at e
          simp at e
theorem waits_of {ops : Array Oper} {j i : Nat} (h : waitsB (ancs ops) j i = true) : Waits ops j i :=
  ancsFrom_ok ops.toList [] rfl (fun j i e => by simp at e) j i h

theorem drawB_at {ops : Array Oper} (h : drawB ops = true) {k : Nat} {o : Oper} (ho : ops[k]? = some o) :
    (∀ j, j ∈ edgesTo o → j < k) ∧ ∀ i oi, i < k → ops[i]? = some oi → (i ∈ edgesTo o ∨ oi.apart ops o = true) ∧ dstNe oi o = true := by
  unfold drawB at h
  rw [List.all_eq_true] at h
  have hk := h k (by simpa using (Array.getElem?_eq_some_iff.1 ho).1)
  rw [ho] at hk
  unfold drawRow at hk
  simp only [Bool.and_eq_true, List.all_eq_true, List.mem_range] at hk
  refine ⟨fun j hj => Nat.le_of_ble_eq_true (hk.1 j hj), fun i oi hi hoi => ?_⟩
  have := hk.2 i hi
  rw [hoi] at this
  simp only [Bool.and_eq_true, Bool.or_eq_true] at this
  exact ⟨this.1.imp (fun q => mask_mem q) id, this.2⟩
theorem waits_lt {ops : Array Oper} (h : drawB ops = true) {j i : Nat} (w : Waits ops j i) : i < j := by
  induction w with
  | edge h1 h2 => exact (drawB_at h h1).1 _ h2
  | far h1 h2 _ ih => exact Nat.lt_trans ih ((drawB_at h h1).1 _ h2)

/-- The listed run. -/
structure Tr (cp : CP) (orc : Orc) (ops : Array Oper) (base0 : Nat) (s : Nat → St) (X : Nat → Trc) : Prop where
  d : drawB ops = true
  hc : CallOk cp orc
  step : ∀ k o, ops[k]? = some o → OpStep cp orc ops base0 k o (s k) (s (k + 1)) (X k)
  ord : ∀ k o, ops[k]? = some o → Ord (ancs ops) base0 k X
  zero : ∀ id, base0 ≤ id → (s 0).heap id = none
  nb : (s 0).nr ≤ base0

theorem at_lt {cp : CP} {orc : Orc} {ops : Array Oper} {base0 : Nat} {s : Nat → St} {X : Nat → Trc} (tr : Tr cp orc ops base0 s X) {k : Nat} (h : k < ops.size) : ∃ o, ops[k]? = some o := ⟨_, Array.getElem?_eq_getElem h⟩
theorem tr_eff {cp : CP} {orc : Orc} {ops : Array Oper} {base0 : Nat} {s : Nat → St} {X : Nat → Trc} (tr : Tr cp orc ops base0 s X) {k : Nat} {o : Oper} (ho : ops[k]? = some o) : ∃ E v ks, Eff cp base0 k o (s k) (s (k + 1)) (X k) E v ks := by
  obtain ⟨E, v, ks, h, _⟩ := op_any tr.hc ho (tr.step k o ho)
  exact ⟨E, v, ks, h⟩
theorem eff_look {cp : CP} {orc : Orc} {ops : Array Oper} {base0 : Nat} {s : Nat → St} {X : Nat → Trc} (tr : Tr cp orc ops base0 s X) {k : Nat} {o : Oper} (ho : ops[k]? = some o) {id : Nat} (h : id ∈ (X k).L) : id < base0 + stride * k ∧ (id < base0 ∨ Waits ops k ((id - base0) / stride)) := by
  have q := (tr.ord k o ho).1
  unfold touchOk at q
  simp only [List.all_eq_true, Bool.or_eq_true] at q
  rcases q id h with q | q
  · have : id < base0 := Nat.le_of_ble_eq_true q
    exact ⟨by omega, .inl this⟩
  · have hw := waits_of q
    have := waits_lt tr.d hw
    refine ⟨?_, .inr hw⟩
    unfold stride at this ⊢
    omega
theorem eff_touch {cp : CP} {orc : Orc} {ops : Array Oper} {base0 : Nat} {s : Nat → St} {X : Nat → Trc} (tr : Tr cp orc ops base0 s X) {k : Nat} {o : Oper} (ho : ops[k]? = some o) {id : Nat} (h : id ∈ (X k).T) : id < base0 + stride * k ∧ (id < base0 ∨ Waits ops k ((id - base0) / stride)) := by
  obtain ⟨E, v, ks, e⟩ := tr_eff tr ho
  exact eff_look tr ho (e.sub id h)
/-- Who touches a block, and who looks at it. -/
theorem chg_ord {cp : CP} {orc : Orc} {ops : Array Oper} {base0 : Nat} {s : Nat → St} {X : Nat → Trc} (tr : Tr cp orc ops base0 s X) {c i : Nat} {oc o : Oper} (hoc : ops[c]? = some oc) (ho : ops[i]? = some o) (hne : c ≠ i) {id : Nat} (h1 : id ∈ (X c).T) (h2 : id ∈ (X i).L) (hsr : ¬ ((X c).sf = true ∧ (X i).rd = true)) : Waits ops c i ∨ Waits ops i c := by
  have bad : apartB (X c) (X i) = true → False := by
    intro h
    unfold apartB at h
    rw [Bool.or_eq_true, Bool.and_eq_true] at h
    rcases h with h | h
    · have hm : meets (X c).T (X i).L = true := List.any_eq_true.2 ⟨id, h1, List.contains_iff_mem.2 h2⟩
      rw [hm] at h; cases h
    · exact hsr h
  rcases Nat.lt_or_gt_of_ne hne with q | q
  · rcases (tr.ord i o ho).2 c q with z | z
    · exact .inr (waits_of z)
    · exact (bad z.2).elim
  · rcases (tr.ord c oc hoc).2 i q with z | z
    · exact .inl (waits_of z)
    · exact (bad z.1).elim

theorem none_hi {cp : CP} {orc : Orc} {ops : Array Oper} {base0 : Nat} {s : Nat → St} {X : Nat → Trc} (tr : Tr cp orc ops base0 s X) : ∀ k, k ≤ ops.size → ∀ id, base0 + stride * k ≤ id → (s k).heap id = none
  | 0, _, id, h => tr.zero id (by omega)
  | k + 1, hk, id, h => by
    obtain ⟨o, ho⟩ := at_lt tr (k := k) (by omega)
    obtain ⟨E, v, ks, e⟩ := tr_eff tr ho
    have hb : base0 + stride * (k + 1) = base0 + stride * k + stride := by rw [Nat.mul_succ]; omega
    rw [e.heap, e.keep _ id (fun q => by have := (eff_touch tr ho q).1; omega) (fun q => by have := e.rng id q; omega)]
    exact none_hi tr k (by omega) id (by omega)
theorem heap_const {cp : CP} {orc : Orc} {ops : Array Oper} {base0 : Nat} {s : Nat → St} {X : Nat → Trc} (tr : Tr cp orc ops base0 s X) {id k : Nat} : ∀ d, k + d ≤ ops.size → (∀ j, k ≤ j → j < k + d → (id < base0 + stride * j ∨ base0 + stride * j + stride ≤ id) ∧ id ∉ (X j).T) → (s (k + d)).heap id = (s k).heap id
  | 0, _, _ => rfl
  | d + 1, hk, h => by
    obtain ⟨o, ho⟩ := at_lt tr (k := k + d) (by omega)
    obtain ⟨E, v, ks, e⟩ := tr_eff tr ho
    obtain ⟨h1, h2⟩ := h (k + d) (by omega) (by omega)
    rw [show k + (d + 1) = (k + d) + 1 by omega, e.heap, e.keep _ id h2 (fun q => by have := e.rng id q; omega)]
    exact heap_const tr d (by omega) fun j q1 q2 => h j q1 (by omega)
theorem heap_same {cp : CP} {orc : Orc} {ops : Array Oper} {base0 : Nat} {s : Nat → St} {X : Nat → Trc} (tr : Tr cp orc ops base0 s X) {id k l : Nat} (hkl : k ≤ l) (hl : l ≤ ops.size) (h : ∀ j, k ≤ j → j < l → (id < base0 + stride * j ∨ base0 + stride * j + stride ≤ id) ∧ id ∉ (X j).T) : (s l).heap id = (s k).heap id := by
  have := heap_const tr (k := k) (id := id) (l - k) (by omega) fun j q1 q2 => h j q1 (by omega)
  rwa [show k + (l - k) = l by omega] at this
theorem heap_soft {cp : CP} {orc : Orc} {ops : Array Oper} {base0 : Nat} {s : Nat → St} {X : Nat → Trc} (tr : Tr cp orc ops base0 s X) {id k : Nat} : ∀ d, k + d ≤ ops.size → (∀ j, k ≤ j → j < k + d → (id < base0 + stride * j ∨ base0 + stride * j + stride ≤ id) ∧ (id ∈ (X j).T → (X j).sf = true)) → Soft ((s k).heap id) ((s (k + d)).heap id)
  | 0, _, _ => .inl rfl
  | d + 1, hk, h => by
    obtain ⟨o, ho⟩ := at_lt tr (k := k + d) (by omega)
    obtain ⟨E, v, ks, e⟩ := tr_eff tr ho
    obtain ⟨h1, h2⟩ := h (k + d) (by omega) (by omega)
    refine (heap_soft tr d (by omega) fun j q1 q2 => h j q1 (by omega)).trans ?_
    have hks : id ∉ ks := fun q => by have := e.rng id q; omega
    rw [show k + (d + 1) = (k + d) + 1 by omega, e.heap]
    by_cases hT : id ∈ (X (k + d)).T
    · exact e.soft (h2 hT) id hks
    · rw [e.keep _ id hT hks]; exact .inl rfl
theorem heap_softly {cp : CP} {orc : Orc} {ops : Array Oper} {base0 : Nat} {s : Nat → St} {X : Nat → Trc} (tr : Tr cp orc ops base0 s X) {id k l : Nat} (hkl : k ≤ l) (hl : l ≤ ops.size) (h : ∀ j, k ≤ j → j < l → (id < base0 + stride * j ∨ base0 + stride * j + stride ≤ id) ∧ (id ∈ (X j).T → (X j).sf = true)) : Soft ((s k).heap id) ((s l).heap id) := by
  have := heap_soft tr (k := k) (id := id) (l - k) (by omega) fun j q1 q2 => h j q1 (by omega)
  rwa [show k + (l - k) = l by omega] at this
theorem env_const {cp : CP} {orc : Orc} {ops : Array Oper} {base0 : Nat} {s : Nat → St} {X : Nat → Trc} (tr : Tr cp orc ops base0 s X) {t k : Nat} : ∀ d, k + d ≤ ops.size → (∀ j, k ≤ j → j < k + d → dstAt ops j ≠ some t) → (s (k + d)).env t = (s k).env t
  | 0, _, _ => rfl
  | d + 1, hk, h => by
    obtain ⟨o, ho⟩ := at_lt tr (k := k + d) (by omega)
    obtain ⟨E, v, ks, e⟩ := tr_eff tr ho
    have h1 := h (k + d) (by omega) (by omega)
    unfold dstAt at h1
    rw [ho] at h1
    rw [show k + (d + 1) = (k + d) + 1 by omega, e.env]
    have : envOf o (s (k + d)).env v t = (s (k + d)).env t := by
      unfold envOf
      cases hd : o.dst with
      | none => rfl
      | some x => exact upd_other _ _ fun q => h1 (by simp [hd, q])
    rw [this]
    exact env_const tr d (by omega) fun j q1 q2 => h j q1 (by omega)
theorem env_same {cp : CP} {orc : Orc} {ops : Array Oper} {base0 : Nat} {s : Nat → St} {X : Nat → Trc} (tr : Tr cp orc ops base0 s X) {t k l : Nat} (hkl : k ≤ l) (hl : l ≤ ops.size) (h : ∀ j, k ≤ j → j < l → dstAt ops j ≠ some t) : (s l).env t = (s k).env t := by
  have := env_const tr (k := k) (t := t) (l - k) (by omega) fun j q1 q2 => h j q1 (by omega)
  rwa [show k + (l - k) = l by omega] at this
theorem nt_const {cp : CP} {orc : Orc} {ops : Array Oper} {base0 : Nat} {s : Nat → St} {X : Nat → Trc} (tr : Tr cp orc ops base0 s X) : ∀ k, k ≤ ops.size → (s k).nt = (s 0).nt ∧ (s k).nr = (s 0).nr
  | 0, _ => ⟨rfl, rfl⟩
  | k + 1, hk => by
    obtain ⟨o, ho⟩ := at_lt tr (k := k) (by omega)
    obtain ⟨E, v, ks, e⟩ := tr_eff tr ho
    rw [e.nt, e.nr]
    exact nt_const tr k (by omega)
/-- Each result has a place of its own. -/
theorem dst_one {cp : CP} {orc : Orc} {ops : Array Oper} {base0 : Nat} {s : Nat → St} {X : Nat → Trc} (tr : Tr cp orc ops base0 s X) {i j t : Nat} (h1 : dstAt ops i = some t) (h2 : dstAt ops j = some t) : i = j := by
  have lt : ∀ {i j : Nat}, i < j → dstAt ops i = some t → dstAt ops j = some t → False := by
    intro i j hij h1 h2
    unfold dstAt at h1 h2
    cases hi : ops[i]? with
    | none => rw [hi] at h1; simp at h1
    | some oi =>
      cases hj : ops[j]? with
      | none => rw [hj] at h2; simp at h2
      | some oj =>
        rw [hi] at h1; rw [hj] at h2
        simp only [Option.bind_some] at h1 h2
        have := ((drawB_at tr.d hj).2 i oi hij hi).2
        unfold dstNe at this
        rw [h1, h2] at this
        simp at this
  rcases Nat.lt_trichotomy i j with q | q | q
  · exact (lt q h1 h2).elim
  · exact q
  · exact (lt q h2 h1).elim
end Go.Proofs.YtlcnpecejhcnfaaDoor.EV
namespace Go.Proofs.YtlcnpecejhcnfaaDoor.EV
set_option linter.unusedVariables false
set_option linter.unusedSimpArgs false
open Go Go.RowKit
open Classical

/-- In whose range a number lies, from 1 on. -/
def own (base0 id : Nat) : Nat := if id < base0 then 0 else (id - base0) / stride + 1
theorem own_le {base0 id k : Nat} (h : id < base0 + stride * k) : own base0 id ≤ k := by
  unfold own
  split
  · omega
  · unfold stride at *; omega
theorem own_lt {base0 id k : Nat} (h : own base0 id ≤ k) : id < base0 + stride * k := by
  unfold own at h
  split at h
  · omega
  · unfold stride at *; omega
theorem own_in {base0 id k : Nat} (h1 : base0 + stride * k ≤ id) (h2 : id < base0 + stride * k + stride) : own base0 id = k + 1 := by
  unfold own
  rw [if_neg (by omega)]
  unfold stride at *; omega
theorem own_off {base0 id j : Nat} (h : own base0 id ≤ j) : id < base0 + stride * j ∨ base0 + stride * j + stride ≤ id := .inl (own_lt h)

noncomputable def envS (ops : Array Oper) (s : Nat → St) (S : Nat → Prop) (t : Nat) : AV := if ∃ j, S j ∧ dstAt ops j = some t then (s ops.size).env t else (s 0).env t
def HS (s : Nat → St) (base0 : Nat) (m : Nat → Nat) (id : Nat) : Option Blk := (s (max (m id) (own base0 id))).heap id
def HC (ops : Array Oper) (s : Nat → St) (base0 : Nat) (m : Nat → Nat) (id : Nat) : Option Blk := if id < base0 + stride * ops.size then HS s base0 m id else none
theorem HC_lt {ops : Array Oper} {s : Nat → St} {base0 : Nat} {m : Nat → Nat} {id : Nat} (h : id < base0 + stride * ops.size) : HC ops s base0 m id = HS s base0 m id := if_pos h
theorem HC_noT (ops : Array Oper) (s : Nat → St) (base0 : Nat) (m : Nat → Nat) : NoT (HC ops s base0 m) (base0 + stride * ops.size) := fun id k hid hk => by
  unfold HC at hk
  rw [if_neg (by omega)] at hk
  cases hk
noncomputable def stS (ops : Array Oper) (s : Nat → St) (base0 : Nat) (S : Nat → Prop) (m : Nat → Nat) : St := { nt := (s 0).nt, nr := (s 0).nr, next := 0, env := envS ops s S, heap := HC ops s base0 m }
def Did1 (listed : Array Bool) (j : Nat) : Prop := listed.getD j false = true

structure Inv (cp : CP) (ops : Array Oper) (base0 : Nat) (s : Nat → St) (X : Nat → Trc) (w0 : World) (C0 : Ctx) (H0 : Nat → Option Blk) (listed : Array Bool) (m : Nat → Nat) (w : World) (C : Ctx) (a : Act) : Prop where
  rel : RelB cp.P w0 C0 H0 w C a (stS ops s base0 (Did1 listed) m) (base0 + stride * ops.size)
  fr : ∀ id L, C.φ id = some L → id < base0 ∨ ∃ j, j < ops.size ∧ Did1 listed j ∧ base0 + stride * j ≤ id ∧ id < base0 + stride * j + stride
  sz : listed.size = ops.size
  lo : ∀ id c, c < ops.size → id ∈ (X c).T → Did1 listed c → c < m id
  hi : ∀ id c, c < m id → id ∈ (X c).T → Did1 listed c
  le : ∀ id, m id ≤ ops.size
  cl : ∀ j o i, ops[j]? = some o → Did1 listed j → i ∈ edgesTo o → Did1 listed i

theorem cl_far {ops : Array Oper} {S : Nat → Prop} (cl : ∀ j o i, ops[j]? = some o → S j → i ∈ edgesTo o → S i) {j i : Nat} (w : Waits ops j i) (h : S j) : S i := by
  induction w with
  | edge h1 h2 => exact cl _ _ _ h1 h h2
  | far h1 h2 _ ih => exact ih (cl _ _ _ h1 h h2)
theorem did1_set {listed : Array Bool} {i j : Nat} (hi : i < listed.size) : Did1 (listed.setIfInBounds i true) j ↔ (j = i ∨ Did1 listed j) := by
  unfold Did1
  by_cases h : i = j
  · subst h; simp [hi]
  · rw [getD_set_ne false h]; simp [show j ≠ i from fun q => h q.symm]
theorem look_dst {ops : Array Oper} {o : Oper} {d : Nat} (h : d ∉ o.looksAt ops) : (∀ x ∈ o.op.operands, x ≠ .tmp d) ∧ ∀ g b, o.guard = some (g, b) → dstAt ops g ≠ some d := by
  refine ⟨fun x hx q => h ?_, fun g b hg q => h ?_⟩
  · subst q
    exact List.mem_append_left _ (List.mem_filterMap.2 ⟨.tmp d, by simpa using hx, rfl⟩)
  · unfold Oper.looksAt
    rw [hg]
    unfold dstAt at q
    refine List.mem_append_right _ ?_
    simp [q]

/-- What a ready operation looks at is as in the listed run. -/
theorem env_ready {cp : CP} {orc : Orc} {ops : Array Oper} {base0 : Nat} {s : Nat → St} {X : Nat → Trc} (tr : Tr cp orc ops base0 s X)   {w0 : World} {C0 : Ctx} {H0 : Nat → Option Blk} {listed : Array Bool} {m : Nat → Nat} {w : World} {C : Ctx} {a : Act} (inv : Inv cp ops base0 s X w0 C0 H0 listed m w C a) {i : Nat} {o : Oper} (ho : ops[i]? = some o) (hu : ¬ Did1 listed i) (hr : ∀ j, j ∈ edgesTo o → Did1 listed j) {t : Nat} (ht : t ∈ o.looksAt ops) : envS ops s (Did1 listed) t = (s i).env t := by
  have hi : i < ops.size := (Array.getElem?_eq_some_iff.1 ho).1
  unfold envS
  by_cases h : ∃ j, Did1 listed j ∧ dstAt ops j = some t
  · rw [if_pos h]
    obtain ⟨j, h1, h2⟩ := h
    have hj : j < ops.size := by
      rcases Nat.lt_or_ge j ops.size with q | q
      · exact q
      · unfold dstAt at h2; rw [Array.getElem?_eq_none q] at h2; simp at h2
    obtain ⟨oj, hoj⟩ := at_lt tr hj
    rcases Nat.lt_trichotomy j i with q | q | q
    · exact env_same tr (by omega) (Nat.le_refl _) fun k k1 k2 k3 => by have := dst_one tr h2 k3; omega
    · subst q; exact absurd h1 hu
    · exfalso
      rcases ((drawB_at tr.d hoj).2 i o q ho).1 with e | e
      · exact hu (inv.cl j oj i hoj h1 e)
      · obtain ⟨_, _, e3⟩ := Oper.apart_spec e
        refine e3 t ?_ ht
        unfold dstAt at h2; rw [hoj] at h2; exact h2
  · rw [if_neg h]
    refine (env_same tr (Nat.zero_le _) (by omega) fun j _ j2 j3 => ?_).symm
    obtain ⟨oj, hoj⟩ := at_lt tr (k := j) (by omega)
    rcases ((drawB_at tr.d ho).2 j oj j2 hoj).1 with e | e
    · exact h ⟨j, hr j e, j3⟩
    · obtain ⟨e1, _, _⟩ := Oper.apart_spec e
      refine e1 t ?_ ht
      unfold dstAt at j3; rw [hoj] at j3; exact j3

/-- What changed a block is ahead of a ready one that looks at it, or not yet done. -/
theorem chg_side {cp : CP} {orc : Orc} {ops : Array Oper} {base0 : Nat} {s : Nat → St} {X : Nat → Trc} (tr : Tr cp orc ops base0 s X) {w0 : World} {C0 : Ctx} {H0 : Nat → Option Blk} {listed : Array Bool} {m : Nat → Nat} {w : World} {C : Ctx} {a : Act} (inv : Inv cp ops base0 s X w0 C0 H0 listed m w C a) {i : Nat} {o : Oper} (ho : ops[i]? = some o) (hu : ¬ Did1 listed i) (hr : ∀ j, j ∈ edgesTo o → Did1 listed j) {c : Nat} (hc : c < ops.size) {id : Nat} (h1 : id ∈ (X c).T) (h2 : id ∈ (X i).L) (hsr : ¬ ((X c).sf = true ∧ (X i).rd = true)) : (c < i → Did1 listed c) ∧ (i < c → ¬ Did1 listed c) := by
  obtain ⟨oc, hoc⟩ := at_lt tr hc
  have far : Waits ops i c → Did1 listed c := by
    intro w
    cases w with
    | edge h1 h2 => rw [ho] at h1; cases h1; exact hr _ h2
    | far h1 h2 h3 => rw [ho] at h1; cases h1; exact cl_far inv.cl h3 (hr _ h2)
  refine ⟨fun q => ?_, fun q hd => ?_⟩
  · rcases chg_ord tr hoc ho (by omega) h1 h2 hsr with e | e
    · have := waits_lt tr.d e; omega
    · exact far e
  · rcases chg_ord tr hoc ho (by omega) h1 h2 hsr with e | e
    · exact hu (cl_far inv.cl e hd)
    · have := waits_lt tr.d e; omega
theorem heap_ready {cp : CP} {orc : Orc} {ops : Array Oper} {base0 : Nat} {s : Nat → St} {X : Nat → Trc} (tr : Tr cp orc ops base0 s X) {w0 : World} {C0 : Ctx} {H0 : Nat → Option Blk} {listed : Array Bool} {m : Nat → Nat} {w : World} {C : Ctx} {a : Act} (inv : Inv cp ops base0 s X w0 C0 H0 listed m w C a) {i : Nat} {o : Oper} (ho : ops[i]? = some o) (hu : ¬ Did1 listed i) (hr : ∀ j, j ∈ edgesTo o → Did1 listed j) (hrd : (X i).rd = false) {id : Nat} (hid : id ∈ (X i).L) : HS s base0 m id = (s i).heap id := by
  have hi : i < ops.size := (Array.getElem?_eq_some_iff.1 ho).1
  have hle := inv.le id
  have how := own_le (eff_look tr ho hid).1
  have hs : ∀ c, ¬ ((X c).sf = true ∧ (X i).rd = true) := fun c => by rw [hrd]; simp
  unfold HS
  by_cases q : max (m id) (own base0 id) ≤ i
  · refine (heap_same tr q (by omega) fun j j1 j2 => ⟨own_off (by omega), fun hT => ?_⟩).symm
    have := inv.lo id j (by omega) hT ((chg_side tr inv ho hu hr (by omega) hT hid (hs j)).1 j2)
    omega
  · have hm : max (m id) (own base0 id) = m id := by omega
    rw [hm]
    refine heap_same tr (by omega) hle fun j j1 j2 => ⟨own_off (by omega), fun hT => ?_⟩
    have hd := inv.hi id j j2 hT
    rcases Nat.eq_or_lt_of_le j1 with e | e
    · subst e; exact hu hd
    · exact (chg_side tr inv ho hu hr (by omega) hT hid (hs j)).2 e hd

theorem heap_ready_soft {cp : CP} {orc : Orc} {ops : Array Oper} {base0 : Nat} {s : Nat → St} {X : Nat → Trc} (tr : Tr cp orc ops base0 s X) {w0 : World} {C0 : Ctx} {H0 : Nat → Option Blk} {listed : Array Bool} {m : Nat → Nat} {w : World} {C : Ctx} {a : Act} (inv : Inv cp ops base0 s X w0 C0 H0 listed m w C a) {i : Nat} {o : Oper} (ho : ops[i]? = some o) (hu : ¬ Did1 listed i) (hr : ∀ j, j ∈ edgesTo o → Did1 listed j) {id : Nat} (hid : id ∈ (X i).L) : Soft ((s i).heap id) (HS s base0 m id) := by
  have hi : i < ops.size := (Array.getElem?_eq_some_iff.1 ho).1
  have hle := inv.le id
  have how := own_le (eff_look tr ho hid).1
  have hard : ∀ {c : Nat}, (X c).sf = false → ¬ ((X c).sf = true ∧ (X i).rd = true) := fun q z => by rw [q] at z; cases z.1
  unfold HS
  by_cases q : max (m id) (own base0 id) ≤ i
  · refine (heap_softly tr q (by omega) fun j j1 j2 => ⟨own_off (by omega), fun hT => ?_⟩).symm
    cases hs : (X j).sf with
    | true => rfl
    | false =>
      have := inv.lo id j (by omega) hT ((chg_side tr inv ho hu hr (by omega) hT hid (hard hs)).1 j2)
      omega
  · have hm : max (m id) (own base0 id) = m id := by omega
    rw [hm]
    refine heap_softly tr (by omega) hle fun j j1 j2 => ⟨own_off (by omega), fun hT => ?_⟩
    have hd := inv.hi id j j2 hT
    cases hs : (X j).sf with
    | true => rfl
    | false =>
      rcases Nat.eq_or_lt_of_le j1 with e | e
      · subst e; exact absurd hd hu
      · exact absurd hd ((chg_side tr inv ho hu hr (by omega) hT hid (hard hs)).2 e)

theorem inv_step {cp : CP} {orc : Orc} {ops : Array Oper} {base0 : Nat} {s : Nat → St} {X : Nat → Trc} (tr : Tr cp orc ops base0 s X)   {w0 : World} {C0 : Ctx} {H0 : Nat → Option Blk} {listed : Array Bool} {m : Nat → Nat} {w : World} {C : Ctx} {a : Act} (hG : GlobOk cp w0 C0) (inv : Inv cp ops base0 s X w0 C0 H0 listed m w C a) {i : Nat} (hi : i ∈ Region.ready .any ops listed) {Q : Exit → Act → World → Prop} {K : Act → World → Prop}
    (hK : ∀ m' w' C' a', Inv cp ops base0 s X w0 C0 H0 (listed.setIfInBounds i true) m' w' C' a' → K a' w') : wpOp cp.P ops Q i K a w := by
  obtain ⟨hun, o, ho, hall⟩ := mem_ready.1 hi
  have hilt : i < ops.size := (Array.getElem?_eq_some_iff.1 ho).1
  have hsz := inv.sz
  have hu : ¬ Did1 listed i := by
    unfold Did1
    intro q
    simp [hsz, hilt] at hun q
    rw [hun] at q; cases q
  have hr : ∀ j, j ∈ edgesTo o → Did1 listed j := by
    intro j hj
    unfold edgesTo at hj
    rw [List.mem_map] at hj
    obtain ⟨e, h1, rfl⟩ := hj
    rw [List.mem_filter] at h1
    exact hall e (by simpa using h1.1) h1.2
  have hset : ∀ j, Did1 (listed.setIfInBounds i true) j ↔ (j = i ∨ Did1 listed j) := fun j => did1_set (by omega)
  have hbs : base0 + stride * i + stride ≤ base0 + stride * ops.size := by
    have : stride * (i + 1) ≤ stride * ops.size := Nat.mul_le_mul_left _ (by omega)
    rw [Nat.mul_succ] at this; omega
  obtain ⟨E, v, ks, eff, run⟩ := op_any tr.hc ho (tr.step i o ho)
  have hntc := nt_const tr i (by omega)
  have free : ∀ id, base0 + stride * i ≤ id → id < base0 + stride * i + stride → C.φ id = none := fun id h1 h2 => by
    cases hq : C.φ id with
    | none => rfl
    | some L =>
      rcases inv.fr id L hq with q | ⟨j, j0, j1, j2, j3⟩
      · omega
      · have a1 := own_in h1 h2
        have a2 := own_in j2 j3
        have : j = i := by omega
        subst this; exact absurd j1 hu
  have hX : ∃ X' : Nat → Option Blk, (∀ id, base0 + stride * i ≤ id → id < base0 + stride * i + stride → X' id = none) ∧ (∀ id, base0 + stride * ops.size ≤ id → X' id = none) ∧ ∀ id, (id < base0 + stride * i ∨ base0 + stride * i + stride ≤ id) → id < base0 + stride * ops.size → X' id = HS s base0 m id := by
    refine ⟨fun id => if base0 + stride * i ≤ id ∧ id < base0 + stride * i + stride then none else HC ops s base0 m id, fun id h1 h2 => if_pos ⟨h1, h2⟩, fun id h1 => ?_, fun id h1 h2 => ?_⟩
    · show (if _ then _ else _) = _
      split
      · rfl
      · unfold HC; rw [if_neg (by omega)]
    · show (if _ then _ else _) = _
      rw [if_neg (by omega)]; exact HC_lt h2
  obtain ⟨X', x1, x2, x3⟩ := hX
  have hrS : RelB cp.P w0 C0 H0 w C a { stS ops s base0 (Did1 listed) m with heap := X' } (base0 + stride * ops.size) := by
    refine relB_congr inv.rel (fun _ => rfl) (fun id L hL => ?_) rfl rfl inv.rel.fresh inv.rel.nb (fun id k hid hk => by have z : X' id = some k := hk; rw [x2 id hid] at z; cases z)
    have hlt : id < base0 + stride * ops.size := by
      rcases Nat.lt_or_ge id (base0 + stride * ops.size) with q | q
      · exact q
      · rw [inv.rel.fresh id q] at hL; cases hL
    have hoff : id < base0 + stride * i ∨ base0 + stride * i + stride ≤ id := by
      rcases Nat.lt_or_ge id (base0 + stride * i) with q | q
      · exact .inl q
      · rcases Nat.lt_or_ge id (base0 + stride * i + stride) with q2 | q2
        · rw [free id q q2] at hL; cases hL
        · exact .inr q2
    show X' id = HC ops s base0 m id
    rw [x3 id hoff hlt, HC_lt hlt]
  have hb2 : base0 + stride * i ≤ base0 + stride * ops.size := by omega
  refine run hG hrS tr.nb hntc.1.symm (fun x hx => ?_) (fun g b d g1 g2 => ?_) ?_ free hbs (fun id k h1 h2 hk => by have z : X' id = some k := hk; rw [x1 id h1 h2] at z; cases z) (fun u w' C' σ1 hrel e1 e2 e3 e4 hφ => ?_)
  · cases x with
    | tmp t => exact env_ready tr inv ho hu hr (List.mem_append_left _ (List.mem_filterMap.2 ⟨.tmp t, by simpa using hx, rfl⟩))
    | _ => rfl
  · refine env_ready tr inv ho hu hr ?_
    unfold Oper.looksAt
    rw [g1]
    unfold dstAt at g2
    exact List.mem_append_right _ (by simp [g2])
  · have pick : ∀ id b, only (X i).L (s i).heap id = some b → id ∈ (X i).L ∧ (s i).heap id = some b := fun id b hb => by
      unfold only at hb
      cases q : (X i).L.contains id with
      | false => rw [q] at hb; cases hb
      | true => rw [q] at hb; exact ⟨List.contains_iff_mem.1 q, hb⟩
    have seen : ∀ id, id ∈ (X i).L → X' id = HS s base0 m id := fun id hl => by
      have := (eff_look tr ho hl).1
      exact x3 id (.inl this) (by omega)
    cases hrd : (X i).rd with
    | true =>
      right
      refine ⟨(eff.rd hrd).1, fun id b hb => ?_⟩
      obtain ⟨hl, hb⟩ := pick id b hb
      obtain ⟨b', z1, z2⟩ := (heap_ready_soft tr inv ho hu hr hl).ext (h' := HS s base0 m) hb
      exact ⟨b', (seen id hl).trans z1, z2⟩
    | false =>
      left
      intro id b hb
      obtain ⟨hl, hb⟩ := pick id b hb
      show X' id = some b
      rw [seen id hl, heap_ready tr inv ho hu hr hrd hl]; exact hb
  · have fr' : ∀ id L, C'.φ id = some L → id < base0 ∨ ∃ j, j < ops.size ∧ Did1 (listed.setIfInBounds i true) j ∧ base0 + stride * j ≤ id ∧ id < base0 + stride * j + stride := by
      intro id L hL
      by_cases q : base0 + stride * i ≤ id ∧ id < base0 + stride * i + stride
      · exact .inr ⟨i, hilt, (hset i).2 (.inl rfl), q.1, q.2⟩
      · cases hq : C.φ id with
        | none => rw [hφ id (by omega) hq] at hL; cases hL
        | some L2 =>
          rcases inv.fr id L2 hq with q | ⟨j, j0, j1, j2, j3⟩
          · exact .inl q
          · exact .inr ⟨j, j0, (hset j).2 (.inr j1), j2, j3⟩
    have cl' : ∀ j oj k, ops[j]? = some oj → Did1 (listed.setIfInBounds i true) j → k ∈ edgesTo oj → Did1 (listed.setIfInBounds i true) k := by
      intro j oj k hoj hd hk
      rcases (hset j).1 hd with q | q
      · subst q
        rw [ho] at hoj; cases hoj
        exact (hset k).2 (.inr (hr k hk))
      · exact (hset k).2 (.inr (inv.cl j oj k hoj q hk))
    have env' : ∀ t, envS ops s (Did1 (listed.setIfInBounds i true)) t = σ1.env t := by
      intro t
      rw [e2]
      unfold envOf
      have other : dstAt ops i ≠ some t → envS ops s (Did1 (listed.setIfInBounds i true)) t = envS ops s (Did1 listed) t := by
        intro hne
        unfold envS
        by_cases h : ∃ j, Did1 listed j ∧ dstAt ops j = some t
        · rw [if_pos h, if_pos]
          obtain ⟨j, j1, j2⟩ := h
          exact ⟨j, (hset j).2 (.inr j1), j2⟩
        · rw [if_neg h, if_neg]
          rintro ⟨j, j1, j2⟩
          rcases (hset j).1 j1 with q | q
          · subst q; exact hne j2
          · exact h ⟨j, q, j2⟩
      cases hd : o.dst with
      | none => exact other (by unfold dstAt; rw [ho]; simp [hd])
      | some d =>
        by_cases q : t = d
        · subst q
          show _ = upd _ t v t
          rw [upd_same]
          have hdi : dstAt ops i = some t := by unfold dstAt; rw [ho]; exact hd
          have h1 : (s ops.size).env t = (s (i + 1)).env t := env_same tr (by omega) (Nat.le_refl _) fun k k1 k2 k3 => by have := dst_one tr hdi k3; omega
          have h2 : (s (i + 1)).env t = v := by rw [eff.env]; unfold envOf; rw [hd]; exact upd_same _ _ _
          unfold envS
          rw [if_pos ⟨i, (hset i).2 (.inl rfl), hdi⟩, h1, h2]
        · show _ = upd _ d v t
          rw [upd_other _ _ q]
          exact other (by unfold dstAt; rw [ho]; simp [hd, show ¬ d = t from fun x => q x.symm])
    have hltB : ∀ id L, C'.φ id = some L → id < base0 + stride * ops.size := fun id L hL => by
      rcases Nat.lt_or_ge id (base0 + stride * ops.size) with q | q
      · exact q
      · rw [hrel.fresh id q] at hL; cases hL
    have fin : ∀ m', (∀ id L, C'.φ id = some L → HS s base0 m' id = σ1.heap id) → (∀ id c, c < ops.size → id ∈ (X c).T → Did1 (listed.setIfInBounds i true) c → c < m' id) → (∀ id c, c < m' id → id ∈ (X c).T → Did1 (listed.setIfInBounds i true) c) → (∀ id, m' id ≤ ops.size) → K (a.put o.dst u) w' := by
      intro m' hh lo hi' le
      exact hK m' w' C' _ ⟨relB_congr hrel env' (fun id L hL => (HC_lt (hltB id L hL)).trans (hh id L hL)) e3.symm e4.symm hrel.fresh hrel.nb (HC_noT ops s base0 m'), fr', by simp [hsz], lo, hi', le, cl'⟩
    have e1' : ∀ id L, C'.φ id = some L → σ1.heap id = E (HS s base0 m) id := by
      intro id L hL
      have e0 : σ1.heap id = E X' id := by rw [e1]
      by_cases q : base0 + stride * i ≤ id ∧ id < base0 + stride * i + stride
      · by_cases hk : id ∈ ks
        · rw [e0]; exact eff.new _ _ id hk
        · exfalso
          obtain ⟨k, hk2, _⟩ := hrel.mem.h.blk id L hL
          rw [e0, eff.keep _ id (fun x => by have := (eff_touch tr ho x).1; omega) hk, x1 id q.1 q.2] at hk2
          cases hk2
      · rw [e0]; exact eff.pt _ _ id (x3 id (by omega) (hltB id L hL))
    have look_ : ∀ {c id : Nat}, c < ops.size → c ≠ i → id ∈ (X c).T → id ∈ (X i).T → (c < i → Did1 listed c) ∧ (i < c → ¬ Did1 listed c) := fun hc _ h1 h2 =>
      chg_side tr inv ho hu hr hc h1 (eff.sub _ h2) (fun z => by rw [(eff.rd z.2).2] at h2; simp at h2)
    refine fin (fun id => if id ∈ (X i).T then i + 1 else m id) (fun id L hL => ?_) (fun id c c1 c2 c3 => ?_) (fun id c c1 c2 => ?_) (fun id => ?_)
    · rw [e1' id L hL]
      show (s (max (if id ∈ (X i).T then i + 1 else m id) (own base0 id))).heap id = E (HS s base0 m) id
      by_cases hT : id ∈ (X i).T
      · rw [if_pos hT]
        have hl := eff.sub id hT
        have how := own_le (eff_look tr ho hl).1
        have hrd : (X i).rd = false := by
          cases z : (X i).rd with
          | false => rfl
          | true => rw [(eff.rd z).2] at hT; simp at hT
        have h1 : E (HS s base0 m) id = (s (i + 1)).heap id := by rw [eff.heap]; exact eff.pt _ _ id (heap_ready tr inv ho hu hr hrd hl)
        rw [h1, show max (i + 1) (own base0 id) = i + 1 by omega]
      · rw [if_neg hT]
        by_cases hk : id ∈ ks
        · have hrg := eff.rng id hk
          have how := own_in hrg.1 hrg.2
          have h1 : E (HS s base0 m) id = (s (i + 1)).heap id := by rw [eff.heap]; exact eff.new _ _ id hk
          rw [h1]
          have hle := inv.le id
          rw [how]
          refine heap_same tr (by omega) (by omega) fun j j1 j2 => ⟨own_off (by omega), fun hTj => ?_⟩
          obtain ⟨oj, hoj⟩ := at_lt tr (k := j) (by omega)
          have hd := inv.hi id j (by omega) hTj
          rcases (eff_touch tr hoj hTj).2 with q | q
          · omega
          · have : (id - base0) / stride = i := by
              unfold own at how
              rw [if_neg (by omega)] at how
              omega
            rw [this] at q
            exact hu (cl_far inv.cl q hd)
        · rw [eff.keep _ id hT hk]; rfl
    · show c < (if id ∈ (X i).T then i + 1 else m id)
      by_cases hT : id ∈ (X i).T
      · rw [if_pos hT]
        rcases (hset c).1 c3 with q | q
        · omega
        · rcases Nat.lt_or_ge i c with z | z
          · exact absurd q ((look_ c1 (by omega) c2 hT).2 z)
          · omega
      · rw [if_neg hT]
        rcases (hset c).1 c3 with q | q
        · subst q; exact absurd c2 hT
        · exact inv.lo id c c1 c2 q
    · change c < (if id ∈ (X i).T then i + 1 else m id) at c1
      by_cases hT : id ∈ (X i).T
      · rw [if_pos hT] at c1
        rcases Nat.lt_or_ge c i with q | q
        · exact (hset c).2 (.inr ((look_ (by omega) (by omega) c2 hT).1 q))
        · exact (hset c).2 (.inl (by omega))
      · rw [if_neg hT] at c1
        exact (hset c).2 (.inr (inv.hi id c c1 c2))
    · show (if id ∈ (X i).T then i + 1 else m id) ≤ ops.size
      have := inv.le id
      split <;> omega

theorem inv_full {cp : CP} {orc : Orc} {ops : Array Oper} {base0 : Nat} {s : Nat → St} {X : Nat → Trc} (tr : Tr cp orc ops base0 s X)   {w0 : World} {C0 : Ctx} {H0 : Nat → Option Blk} {listed : Array Bool} {m : Nat → Nat} {w : World} {C : Ctx} {a : Act} (inv : Inv cp ops base0 s X w0 C0 H0 listed m w C a) (h : ∀ j, j < ops.size → Did1 listed j) : RelB cp.P w0 C0 H0 w C a (s ops.size) (base0 + stride * ops.size) := by
  have hn := nt_const tr ops.size (Nat.le_refl _)
  refine relB_congr inv.rel (fun t => ?_) (fun id L hL => ?_) hn.1 hn.2 inv.rel.fresh inv.rel.nb (fun id k hid hk => by rw [none_hi tr ops.size (Nat.le_refl _) id hid] at hk; cases hk)
  · show _ = envS ops s (Did1 listed) t
    unfold envS
    by_cases q : ∃ j, Did1 listed j ∧ dstAt ops j = some t
    · rw [if_pos q]
    · rw [if_neg q]
      exact env_same tr (Nat.zero_le _) (Nat.le_refl _) fun j _ j2 j3 => q ⟨j, h j j2, j3⟩
  · show _ = HC ops s base0 m id
    rw [HC_lt (by
      rcases Nat.lt_or_ge id (base0 + stride * ops.size) with q | q
      · exact q
      · rw [inv.rel.fresh id q] at hL; cases hL)]
    have how : own base0 id ≤ ops.size := by
      rcases inv.fr id L hL with q | ⟨j, j0, _, j2, j3⟩
      · exact own_le (by omega)
      · rw [own_in j2 j3]; omega
    have hle := inv.le id
    unfold HS
    refine heap_same tr (by omega) (Nat.le_refl _) fun j j1 j2 => ⟨own_off (by omega), fun hT => ?_⟩
    have := inv.lo id j j2 hT (h j j2)
    omega
theorem full_of_nil {cp : CP} {orc : Orc} {ops : Array Oper} {base0 : Nat} {s : Nat → St} {X : Nat → Trc} (tr : Tr cp orc ops base0 s X)   {w0 : World} {C0 : Ctx} {H0 : Nat → Option Blk} {listed : Array Bool} {m : Nat → Nat} {w : World} {C : Ctx} {a : Act} (inv : Inv cp ops base0 s X w0 C0 H0 listed m w C a) (h : Region.ready .any ops listed = []) : ∀ j, j < ops.size → Did1 listed j := by
  intro j
  induction j using Nat.strongRecOn with
  | ind j ih =>
    intro hj
    apply Classical.byContradiction
    intro hn
    obtain ⟨o, ho⟩ := at_lt tr hj
    have : j ∈ Region.ready .any ops listed := by
      refine mem_ready.2 ⟨?_, o, ho, fun e he hb => ?_⟩
      · unfold Did1 at hn
        have hsz := inv.sz
        simp [hsz, hj] at hn ⊢
        exact hn
      · have hlt := (drawB_at tr.d ho).1 e.on (by
          unfold edgesTo
          rw [List.mem_map]
          exact ⟨e, List.mem_filter.2 ⟨by simpa using he, hb⟩, rfl⟩)
        exact ih e.on hlt (by omega)
    rw [h] at this
    cases this

theorem any_ok {cp : CP} {orc : Orc} {ops : Array Oper} {base0 : Nat} {s : Nat → St} {X : Nat → Trc} (tr : Tr cp orc ops base0 s X) {w0 : World} {C0 : Ctx} {H0 : Nat → Option Blk} (hG : GlobOk cp w0 C0) {Q : Exit → Act → World → Prop}
    (hQ : ∀ w C a, RelB cp.P w0 C0 H0 w C a (s ops.size) (base0 + stride * ops.size) → Q .normal a w) :
    ∀ (fuel : Nat) (listed : Array Bool) (m : Nat → Nat) (w : World) (C : Ctx) (a : Act), Inv cp ops base0 s X w0 C0 H0 listed m w C a → listed.toList.count false ≤ fuel → wpAny cp.P .any ops Q fuel listed a w
  | 0, listed, m, w, C, a, inv, hf => by
    have hall : ∀ j, j < ops.size → Did1 listed j := by
      intro j hj
      unfold Did1
      have hsz := inv.sz
      have h0 : listed.toList.count false = 0 := by omega
      have := List.count_eq_zero.1 h0
      have hjl : j < listed.size := by omega
      simp only [Array.getD, hjl, dif_pos]
      cases hv : listed[j] with
      | true => exact hv
      | false => exact absurd (by rw [← hv]; exact Array.getElem_mem_toList hjl) this
    refine ⟨?_, hQ w C a (inv_full tr inv hall)⟩
    rw [List.eq_nil_iff_forall_not_mem]
    intro j hj
    obtain ⟨h0, o, ho, _⟩ := mem_ready.1 hj
    have hlt := (Array.getElem?_eq_some_iff.1 ho).1
    have := hall j hlt
    unfold Did1 at this
    have hsz := inv.sz
    simp [hsz, hlt] at h0 this
    rw [h0] at this; cases this
  | fuel + 1, listed, m, w, C, a, inv, hf => by
    refine ⟨fun h => hQ w C a (inv_full tr inv (full_of_nil tr inv h)), fun i hi => ?_⟩
    refine inv_step tr hG inv hi fun m' w' C' a' inv' => any_ok tr hG hQ fuel _ m' w' C' a' inv' ?_
    obtain ⟨h0, o, ho, _⟩ := mem_ready.1 hi
    have hlt := (Array.getElem?_eq_some_iff.1 ho).1
    have hsz := inv.sz
    have hil : i < listed.size := by omega
    have hv : listed.toList[i]'(by simpa using hil) = false := by
      simp [hil] at h0
      simpa using h0
    have : (listed.setIfInBounds i true).toList = listed.toList.set i true := by simp
    rw [this, List.count_set (by simpa using hil)]
    rw [hv]
    show listed.toList.count false - 1 + 0 ≤ fuel
    omega

theorem draw_ok {cp : CP} {orc : Orc} (hm : cp.P.follows .mixedOrders = true) (hc : CallOk cp orc) : DrawOk cp orc := by
  intro id ops σ K r w0 C0 H0 w C a Q h hG hr hK
  unfold evReg at h
  simp only at h
  cases hd : drawB ops with
  | false => rw [hd] at h; simp at h
  | true =>
    rw [hd] at h
    simp only at h
    obtain ⟨s, X, h1, _, h2, h3⟩ := trace (base0 := σ.next) ops.toList 0 [] (cutH σ) rfl (by simp) (Nat.zero_le _) h
    have tr : Tr cp orc ops σ.next s X := ⟨hd, hc, fun k o q => (h2 k o (Nat.zero_le _) q).1, fun k o q => (h2 k o (Nat.zero_le _) q).2, fun id hid => by
      rw [h1]
      unfold cutH
      simp only
      have : Nat.blt id σ.next = false := by
        cases e : Nat.blt id σ.next with
        | false => rfl
        | true => have : id < σ.next := Nat.le_of_ble_eq_true e; omega
      rw [this], by rw [h1]; exact hr.nb⟩
    refine wp_region_any hm (any_ok tr hG (fun w C a hrel => hK w C a _ _ hrel h3) ops.size _ (fun _ => 0) _ C a ⟨?_, fun id L hL => ?_, by simp, fun id c c1 _ c3 => ?_, fun id c c1 => by omega, fun _ => Nat.zero_le _, fun j o i ho hj => ?_⟩ ?_)
    · have hlt : ∀ id L, C.φ id = some L → id < σ.next := fun id L hL => by
        rcases Nat.lt_or_ge id σ.next with q | q
        · exact q
        · rw [hr.fresh id q] at hL; cases hL
      refine relB_congr (relB_drawn hr _) (fun t => ?_) (fun id L hL => ?_) (by show (s 0).nt = _; rw [h1]; rfl) (by show (s 0).nr = _; rw [h1]; rfl) (fun id hid => hr.fresh id (by omega)) (by have := hr.nb; omega) (HC_noT ops s σ.next (fun _ => 0))
      · show envS ops s _ t = _
        unfold envS
        rw [if_neg (by
          rintro ⟨j, j1, j2⟩
          unfold Did1 at j1
          simp [Array.getD] at j1), h1]
        rfl
      · show HC ops s σ.next (fun _ => 0) id = _
        rw [HC_lt (by have := hlt id L hL; omega)]
        unfold HS own
        rw [if_pos (hlt id L hL), show max 0 0 = 0 from rfl, h1]
        unfold cutH
        have : Nat.blt id σ.next = true := Nat.ble_eq_true_of_le (hlt id L hL)
        simp only [this]
    · rcases Nat.lt_or_ge id σ.next with q | q
      · exact .inl q
      · rw [hr.fresh id q] at hL; cases hL
    · unfold Did1 at c3
      simp [Array.getD] at c3
    · unfold Did1 at hj
      simp [Array.getD] at hj
    · simp
end Go.Proofs.YtlcnpecejhcnfaaDoor.EV
