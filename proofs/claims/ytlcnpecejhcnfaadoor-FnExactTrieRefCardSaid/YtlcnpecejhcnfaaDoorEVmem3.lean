/- What is handed out reads as it did; stores and new variables. No conditions. -/
import Derived.Test.YtlcnpecejhcnfaaDoorEVmem2
namespace Go.Proofs.YtlcnpecejhcnfaaDoor.EV
set_option linter.unusedVariables false
set_option linter.unusedSimpArgs false
open Go Go.RowKit

theorem repAt_cut {w : World} {C : Ctx} {b o : Nat} {cs : List AV} (h : RepAt w C b o cs) (off n : Nat) : RepAt w C b (o + off) (cutC cs off n) := by
  refine repAt_of fun j x hx => ?_
  unfold cutC at hx
  rw [List.getElem?_take] at hx
  split at hx
  · rw [List.getElem?_drop] at hx
    obtain ⟨v, q1, qo, q2⟩ := repAt_get1 h hx
    exact ⟨v, by rw [Nat.add_assoc]; exact q1, qo, q2⟩
  · cases hx

/-- Closed values: the blocks named are frozen. -/
theorem closed1_ids {P : Program} {H : Nat → Option Blk} {x y : AV} {l : List Nat} (h : closed1 P H x = some (y, l)) : ∀ id, id ∈ l → ∃ k, H id = some k ∧ k.st ≤ 1 ∧ k.arr = true ∧ ∃ off n, x = .own id off n := by
  cases x <;> simp only [closed1, reduceCtorEq, Option.some.injEq, Prod.mk.injEq] at h
  case own id off n =>
    cases hk : H id with
    | none => rw [hk] at h; simp at h
    | some k =>
      rw [hk] at h
      simp only at h
      cases h1 : Nat.ble k.st 1 <;> cases h2 : k.arr <;> rw [h1, h2] at h <;> simp only [reduceCtorEq, Option.some.injEq, Prod.mk.injEq] at h
      obtain ⟨_, rfl⟩ := h
      intro j hj
      simp at hj; subst hj
      exact ⟨k, hk, Nat.le_of_ble_eq_true h1, h2, off, n, rfl⟩
  all_goals
    obtain ⟨_, rfl⟩ := h
    intro j hj
    simp at hj
theorem closed1_rep {P : Program} {w : World} {C : Ctx} {H : Nat → Option Blk} (hH : RelH P w C H) {x y : AV} {l : List Nat} {v : Value} (h : closed1 P H x = some (y, l)) (r : Rep w C x v) (Z : List Nat) (hl : ∀ id, id ∈ l → id ∈ Z) :
    Rep w (C.ice Z).bare y v := by
  cases x <;> simp only [closed1, reduceCtorEq, Option.some.injEq, Prod.mk.injEq] at h
  case own id off n =>
    cases hk : H id with
    | none => rw [hk] at h; simp at h
    | some k =>
      rw [hk] at h
      simp only at h
      cases h1 : Nat.ble k.st 1 <;> cases h2 : k.arr <;> rw [h1, h2] at h <;> simp only [reduceCtorEq, Option.some.injEq, Prod.mk.injEq] at h
      obtain ⟨rfl, rfl⟩ := h
      obtain ⟨a, cap, rfl, hc, r⟩ := r
      refine ⟨a, cap, rfl, hc, ?_⟩
      rcases r with ⟨rfl, rfl⟩ | ⟨L, q1, q2, q3⟩
      · exact .inl ⟨rfl, by simp [cutC, mulN]⟩
      · obtain ⟨k2, q4, ok⟩ := hH.blk id L q1
        rw [hk] at q4; cases q4
        rcases ok with ok | ⟨e0, cells, el, fr, e1, e2, e3, e4, e5, e6, ea, e7, e8⟩
        · have := Nat.le_of_ble_eq_true h1; omega
        · exact .inr ⟨L.b, L.d + off, q2, .inr ⟨id, L, hl id (by simp), q1, rfl⟩, repAt_step' (step_ice w C Z).bare _ _ _ rfl (repAt_cut (ea h2) off _)⟩
  case nils =>
    obtain ⟨rfl, rfl⟩ := h
    obtain ⟨_, rfl⟩ := r
    exact ⟨none, 0, rfl, Nat.le_refl _, .inl ⟨rfl, rfl⟩⟩
  case fs =>
    obtain ⟨rfl, rfl⟩ := h
    obtain ⟨a, cap, rfl, hc, r⟩ := r
    refine ⟨a, cap, rfl, hc, ?_⟩
    rcases r with r | ⟨b, o, f1, f2, f3⟩
    · exact .inl r
    · exact .inr ⟨b, o, f1, .inl f2, repAt_step (step_ice w C Z).bare _ _ _ f2 f3⟩
  all_goals
    obtain ⟨rfl, rfl⟩ := h
    exact r
theorem closedAll_ids {P : Program} {H : Nat → Option Blk} : ∀ {xs ys : List AV} {l : List Nat}, closedAll P H xs = some (ys, l) → ∀ id, id ∈ l → ∃ k, H id = some k ∧ k.st ≤ 1 ∧ k.arr = true ∧ ∃ x ∈ xs, ∃ off n, x = .own id off n
  | [], _, _, h => by
    simp only [closedAll, Option.some.injEq, Prod.mk.injEq] at h
    obtain ⟨_, rfl⟩ := h
    intro j hj; simp at hj
  | x :: xs, ys, l, h => by
    simp only [closedAll] at h
    cases h1 : closed1 P H x with
    | none => rw [h1] at h; simp at h
    | some p =>
      cases h2 : closedAll P H xs with
      | none => rw [h1, h2] at h; simp at h
      | some q =>
        obtain ⟨a, i⟩ := p
        obtain ⟨b, j⟩ := q
        rw [h1, h2] at h
        simp only [Option.some.injEq, Prod.mk.injEq] at h
        obtain ⟨rfl, rfl⟩ := h
        intro id hid
        rcases List.mem_append.1 hid with hid | hid
        · obtain ⟨k, q1, q2, q3, q4⟩ := closed1_ids h1 id hid
          exact ⟨k, q1, q2, q3, x, by simp, q4⟩
        · obtain ⟨k, q1, q2, q3, z, hz, q4⟩ := closedAll_ids h2 id hid
          exact ⟨k, q1, q2, q3, z, by simp [hz], q4⟩
theorem closedAll_rep {P : Program} {w : World} {C : Ctx} {H : Nat → Option Blk} (hH : RelH P w C H) (Z : List Nat) : ∀ {xs ys : List AV} {l : List Nat} {vs : List Value}, closedAll P H xs = some (ys, l) → RepL w C xs vs → (∀ id, id ∈ l → id ∈ Z) → RepL w (C.ice Z).bare ys vs
  | [], ys, l, vs, h, r, _ => by
    simp only [closedAll, Option.some.injEq, Prod.mk.injEq] at h
    obtain ⟨rfl, rfl⟩ := h
    exact r
  | x :: xs, ys, l, vs, h, r, hl => by
    simp only [closedAll] at h
    cases h1 : closed1 P H x with
    | none => rw [h1] at h; simp at h
    | some p =>
      cases h2 : closedAll P H xs with
      | none => rw [h1, h2] at h; simp at h
      | some q =>
        obtain ⟨a, i⟩ := p
        obtain ⟨b, j⟩ := q
        rw [h1, h2] at h
        simp only [Option.some.injEq, Prod.mk.injEq] at h
        obtain ⟨rfl, rfl⟩ := h
        obtain ⟨v, s, rfl, r1, r2⟩ := r
        exact ⟨v, s, rfl, (closed1_rep hH h1 r1 Z fun id hid => hl id (by simp [hid])), closedAll_rep hH Z h2 r2 fun id hid => hl id (by simp [hid])⟩
/-- Whatever is named of values that stand in memory has its place. -/
theorem own_loc {w : World} {C : Ctx} {id off n : Nat} {v : Value} (r : Rep w C (.own id off n) v) : (∃ L, C.φ id = some L) ∨ (n = 0 ∧ ∃ a, v = .slice a 0 0) := by
  obtain ⟨a, cap, rfl, _, r⟩ := r
  rcases r with ⟨rfl, rfl⟩ | ⟨L, q, _⟩
  · exact .inr ⟨rfl, a, rfl⟩
  · exact .inl ⟨L, q⟩


/-- What an operation without a call comes to: the world and the call's memory behind it. -/
structure Did (P : Program) (w : World) (C : Ctx) (H : Nat → Option Blk) (base : Nat) (s : Sem Next) (v : AV) (H' : Nat → Option Blk) : Prop where
  out : ∃ nx u w' C', s.run P w = .ok nx w' ∧ (nx = .value u ∨ (nx = .skip ∧ u = undef)) ∧ Rep w' C' v u ∧ RelH P w' C' H' ∧ Kept w C H w' C' H' ∧ (∀ id, id ≠ base → C.φ id = none → C'.φ id = none)
def after (H : Nat → Option Blk) (news : List (Nat × Blk)) (dead froz : List Nat) : Nat → Option Blk := upds (setSt (setSt H 1 froz) 2 dead) news

theorem repL_one {w : World} {C : Ctx} : ∀ {xs : List AV} {vs : List Value}, RepL w C xs vs → xs.all one = true → ∀ v ∈ vs, v.oneCell' = true
  | [], _, e, _, _, hv => by cases e; simp at hv
  | x :: xs, vs, e, h, u, hu => by
    obtain ⟨v, r, rfl, r1, r2⟩ := e
    rw [List.all_cons, Bool.and_eq_true] at h
    rcases List.mem_cons.1 hu with rfl | hu
    · cases x <;> simp only [one, Bool.false_eq_true, false_and] at h <;> simp only [Rep] at r1
      case nils => obtain ⟨a, rfl⟩ := r1; rfl
      case fs => obtain ⟨a, c, rfl, _⟩ := r1; rfl
      case own => obtain ⟨a, c, rfl, _⟩ := r1; rfl
      case ptr => obtain ⟨L, _, rfl⟩ := r1; rfl
      case fp => obtain ⟨b, o, rfl, _⟩ := r1; rfl
      all_goals (subst r1; rfl)
    · exact repL_one r2 h.2 u hu
theorem parts_repL {w : World} {C : Ctx} {x : AV} {v : Value} (r : Rep w C x v) (h : x.parts.all one = true) : RepL w C x.parts v.cells.toList := by
  cases x
  case agg xs => obtain ⟨vs, rfl, r⟩ := r; simpa [AV.parts, Value.cells] using r
  case tup => simp [AV.parts, one] at h
  case arr => simp [AV.parts, one] at h
  case any => simp [AV.parts, one] at h
  case unk => simp [AV.parts, one] at h
  case ref => exact r.elim
  case nils => obtain ⟨a, rfl⟩ := r; exact ⟨_, [], rfl, ⟨a, rfl⟩, rfl⟩
  case fs => obtain ⟨a, c, rfl, q⟩ := r; exact ⟨_, [], rfl, ⟨a, c, rfl, q⟩, rfl⟩
  case own => obtain ⟨a, c, rfl, q⟩ := r; exact ⟨_, [], rfl, ⟨a, c, rfl, q⟩, rfl⟩
  case ptr => obtain ⟨L, q, rfl⟩ := r; exact ⟨_, [], rfl, ⟨L, q, rfl⟩, rfl⟩
  case fp => obtain ⟨b, o, rfl, q⟩ := r; exact ⟨_, [], rfl, ⟨b, o, rfl, q⟩, rfl⟩
  all_goals (simp only [Rep] at r; subst r; exact ⟨_, [], rfl, rfl, rfl⟩)
/-- A store. -/
theorem run_storeAt {P : Program} {w : World} {t : TypeId} (h : okT P t = true) {b o : Nat} {v : Value} (hn : v.cells.size = szOf P t) (h1 : ∀ u ∈ v.cells.toList, u.oneCell' = true) (ht : w.there b o v.cells.size) :
    (Instr.storeAt t (.pointer (some ⟨b, o, none⟩)) v).run P w = .ok () (w.setCells b o v.cells.toList) := by
  obtain ⟨i, d, e, hs, _⟩ := okT_info h
  have hr := run_storeVar_mid (P := P) w b o t v.cells ht (by rw [e]; simp [hs, hn]) (by rw [← Array.all_toList]; exact List.all_eq_true.2 h1)
  have e2 : storeVar t ⟨b, o, none⟩ v = storeVar t ⟨b, o, none⟩ (.agg v.cells) := by unfold storeVar; rfl
  simp only [Instr.storeAt, Instr.sureAddr, Sem.run_bind, Sem.run_pure, Result.andThen_ok, e2, hr]
theorem store_ok {P : Program} {w : World} {C : Ctx} {H : Nat → Option Blk} (hH : RelH P w C H) {t : TypeId} {a x : AV} {va vx : Value} (ra : Rep w C a va) (rx : Rep w C x vx) (base : Nat) {g : Bool} {v : AV} {nw : List (Nat × Blk)} {dd fz : List Nat}
    (h : storeA P H t a x = .val g v nw dd fz) (hg : g = true) : Did P w C H base (do Instr.storeAt t va vx; pure .skip) v (after H nw dd fz) := by
  cases a <;> simp only [storeA, reduceCtorEq] at h
  case ptr id off =>
    obtain ⟨L, e, rfl⟩ := ra
    obtain ⟨k, hk, ok⟩ := hH.blk id L e
    rw [hk] at h
    simp only at h
    cases h0 : Nat.beq k.st 0 <;> cases hp : (Nat.beq x.parts.length (szOf P t) && x.parts.all one) <;> rw [h0, hp] at h <;> simp only [reduceCtorEq] at h
    have hs := nbeq_eq h0
    rw [Bool.and_eq_true] at hp
    have hn := nbeq_eq hp.1
    have rl := parts_repL rx hp.2
    have hlen := repL_length rl
    have hone := repL_one rl hp.2
    cases ha : k.arr with
    | false =>
      rw [ha] at h
      simp only [Res.val.injEq] at h
      obtain ⟨rfl, rfl, rfl, rfl, rfl⟩ := h
      rw [Bool.and_eq_true] at hg
      obtain ⟨r1, r2, r3⟩ := rel_store (off := off) hH e hk hs rl (fun q => by rw [ha] at q; cases q) hone (by have := Nat.le_of_ble_eq_true hg.2; omega)
      rw [ha] at r1 r2
      refine ⟨.skip, undef, _, C, ?_, .inr ⟨rfl, rfl⟩, trivial, r1, r2, fun _ _ q => q⟩
      rw [Sem.run_bind, run_storeAt hg.1 (by rw [← Array.length_toList]; omega) hone (by simpa using r3)]
      rfl
    | true =>
      rw [ha] at h
      simp only at h
      cases hc : closedAll P H x.parts with
      | none => rw [hc] at h; simp at h
      | some q =>
        obtain ⟨ys, l⟩ := q
        rw [hc] at h
        simp only [Res.val.injEq] at h
        obtain ⟨rfl, rfl, rfl, rfl, rfl⟩ := h
        rw [Bool.and_eq_true, Bool.and_eq_true] at hg
        have hid : id ∉ l := by simpa using hg.1.1
        have hl := closedAll_ids hc
        have i1 := rel_ice hH l (fun id hid => by obtain ⟨k, q1, q2, _⟩ := hl id hid; exact ⟨k, q1, q2⟩)
        have i2 := kept_ice hH l (fun id hid => by obtain ⟨k, q1, q2, q3, _⟩ := hl id hid; exact ⟨k, q1, q2, q3⟩)
        have ry := closedAll_rep hH l hc rl (fun _ q => q)
        have hly := repL_length ry
        obtain ⟨r1, r2, r3⟩ := rel_store (off := off) i1 (id := id) (L := L) e ((setSt_not hid).trans hk) hs (repL_step (Step.of_bare _ _) _ _ ry) (fun _ => ry) hone (by have := Nat.le_of_ble_eq_true hg.2; omega)
        rw [ha] at r1 r2
        refine ⟨.skip, undef, _, C.ice l, ?_, .inr ⟨rfl, rfl⟩, trivial, r1, i2.trans r2, fun _ _ q => q⟩
        rw [Sem.run_bind, run_storeAt hg.1.2 (by rw [← Array.length_toList]; omega) hone (by simpa using r3)]
        rfl

end Go.Proofs.YtlcnpecejhcnfaaDoor.EV
