/- What a call is handed. No conditions. -/
import Derived.Test.YtlcnpecejhcnfaaDoorEVop3
namespace Go.Proofs.YtlcnpecejhcnfaaDoor.EV
set_option linter.unusedVariables false
set_option linter.unusedSimpArgs false
open Go Go.RowKit

theorem closedArg_cases {P : Program} {H : Nat → Option Blk} {x y : AV} {l q : List Nat} (h : closedArg P H x = some (y, l, q)) :
    (q = [] ∧ (closed1 P H x = some (y, l) ∨ ∃ xs ys, x = .agg xs ∧ y = .agg ys ∧ closedAll P H xs = some (ys, l))) ∨
    (∃ id k ys, x = .ptr id 0 ∧ q = [id] ∧ H id = some k ∧ k.st = 0 ∧ closedAll P H k.cells = some (ys, l) ∧ y = .ref k.arr k.elem ys) := by
  unfold closedArg at h
  split at h
  · rename_i xs
    split at h
    · rename_i ys i hc
      simp only [Option.some.injEq, Prod.mk.injEq] at h
      obtain ⟨rfl, rfl, rfl⟩ := h
      exact .inl ⟨rfl, .inr ⟨xs, ys, rfl, rfl, hc⟩⟩
    · simp at h
  · rename_i id
    split at h
    · rename_i k hk
      split at h
      · rename_i ys i hs hc
        simp only [Option.some.injEq, Prod.mk.injEq] at h
        obtain ⟨rfl, rfl, rfl⟩ := h
        exact .inr ⟨id, k, ys, rfl, rfl, hk, nbeq_eq hs, hc, rfl⟩
      · simp at h
    · simp at h
  · split at h
    · rename_i a i hc
      simp only [Option.some.injEq, Prod.mk.injEq] at h
      obtain ⟨rfl, rfl, rfl⟩ := h
      exact .inl ⟨rfl, .inl hc⟩
    · simp at h
theorem closed1_noref {P : Program} {H : Nat → Option Blk} {x y : AV} {l : List Nat} (h : closed1 P H x = some (y, l)) : ∀ a e cs, y ≠ .ref a e cs := by
  intro a e cs q
  subst q
  cases x <;> simp only [closed1, reduceCtorEq, Option.some.injEq, Prod.mk.injEq, false_and] at h
  rename_i id off n
  cases hk : H id with
  | none => rw [hk] at h; simp at h
  | some k =>
    rw [hk] at h
    simp only at h
    split at h <;> simp at h
theorem closed1_notup {P : Program} {H : Nat → Option Blk} {x y : AV} {l : List Nat} (h : closed1 P H x = some (y, l)) : ∀ bs, y ≠ .tup bs := by
  intro bs q
  subst q
  cases x <;> simp only [closed1, reduceCtorEq, Option.some.injEq, Prod.mk.injEq, false_and] at h
  rename_i id off n
  cases hk : H id with
  | none => rw [hk] at h; simp at h
  | some k =>
    rw [hk] at h
    simp only at h
    split at h <;> simp at h
theorem takeArgs_plain {b : Nat} {y : AV} {r : List AV} (h : ∀ a e cs, y ≠ .ref a e cs) (h2 : ∀ bs, y ≠ .tup bs) : takeArgs b (y :: r) = (y :: (takeArgs b r).1, (takeArgs b r).2) := by
  cases y <;> first | rfl | exact absurd rfl (h _ _ _) | exact absurd rfl (h2 _)
theorem look_lt {α : Type} : ∀ {l : List (Nat × α)} {u : Nat} {v : α}, look l u = some v → ∃ p ∈ l, p.1 = u ∧ p.2 = v
  | [], _, _, h => by simp [look] at h
  | (d, x) :: r, u, v, h => by
    unfold look at h
    cases e : Nat.beq u d <;> rw [e] at h
    · obtain ⟨p, h1, h2⟩ := look_lt h
      exact ⟨p, by simp [h1], h2⟩
    · simp only [Option.some.injEq] at h
      exact ⟨_, List.mem_cons_self, (nbeq_eq e).symm, h⟩

/-- The arguments as the callee has them. -/
theorem args_rep {P : Program} {w : World} {C : Ctx} {H : Nat → Option Blk} (hH : RelH P w C H) (Z : List Nat) (φ0 : Nat → Option Loc) : ∀ (xs as : List AV) (fz rs : List Nat) (vs : List Value) (pre : List Nat), closedArgs P H xs = some (as, fz, rs) → RepL w C xs vs → (∀ id, id ∈ fz → id ∈ Z) →
    (∀ (i : Nat) (r : Nat), (pre ++ rs)[i]? = some r → φ0 i = C.φ r) →
    RepL w ⟨φ0, (C.ice Z).Fz⟩ (takeArgs pre.length as).1 vs ∧ (takeArgs pre.length as).2.length = rs.length ∧
    (∀ id, look (takeArgs pre.length as).2 id = none ∨ ∃ r k ys l, pre.length ≤ id ∧ (pre ++ rs)[id]? = some r ∧ H r = some k ∧ k.st = 0 ∧ (∃ L, C.φ r = some L) ∧ closedAll P H k.cells = some (ys, l) ∧ (∀ j, j ∈ l → j ∈ Z) ∧ look (takeArgs pre.length as).2 id = some ⟨k.arr, k.elem, 0, ys⟩) ∧
    (∀ id, pre.length ≤ id → id < pre.length + rs.length → ∃ b, look (takeArgs pre.length as).2 id = some b)
  | [], as, fz, rs, vs, pre, h, r, _, _ => by
    simp only [closedArgs, Option.some.injEq, Prod.mk.injEq] at h
    obtain ⟨rfl, rfl, rfl⟩ := h
    exact ⟨r, rfl, fun id => .inl rfl, fun id h1 h2 => by simp at h2; omega⟩
  | x :: xs, as, fz, rs, vs, pre, h, r, hZ, hφ => by
    simp only [closedArgs] at h
    cases h1 : closedArg P H x with
    | none => rw [h1] at h; simp at h
    | some p =>
      cases h2 : closedArgs P H xs with
      | none => rw [h1, h2] at h; simp at h
      | some q =>
        obtain ⟨y, i, p⟩ := p
        obtain ⟨bs, j, q⟩ := q
        rw [h1, h2] at h
        simp only [Option.some.injEq, Prod.mk.injEq] at h
        obtain ⟨rfl, rfl, rfl⟩ := h
        obtain ⟨v, us, rfl, r1, r2⟩ := r
        rcases closedArg_cases h1 with ⟨rfl, hc⟩ | ⟨id, k, ys, rfl, rfl, hk, hs, hc, rfl⟩
        · have hnr : ∀ a e cs, y ≠ .ref a e cs := by
            rcases hc with hc | ⟨_, ys, _, rfl, _⟩
            · exact closed1_noref hc
            · intro a e cs q; cases q
          have hnt : ∀ bs, y ≠ .tup bs := by
            rcases hc with hc | ⟨_, ys, _, rfl, _⟩
            · exact closed1_notup hc
            · intro bs q; cases q
          have ry : Rep w ⟨φ0, (C.ice Z).Fz⟩ y v := by
            rcases hc with hc | ⟨xs2, ys, rfl, rfl, hc⟩
            · exact rep_step (Step.of_bare w ⟨φ0, (C.ice Z).Fz⟩) _ _ (closed1_rep hH hc r1 Z fun id hid => hZ id (by simp [hid]))
            · obtain ⟨vl, rfl, rl⟩ := r1
              exact ⟨vl, rfl, repL_step (Step.of_bare w ⟨φ0, (C.ice Z).Fz⟩) _ _ (closedAll_rep hH Z hc rl fun id hid => hZ id (by simp [hid]))⟩
          obtain ⟨a1, a2, a3, a4⟩ := args_rep hH Z φ0 xs bs j q us pre h2 r2 (fun id hid => hZ id (by simp [hid])) hφ
          rw [takeArgs_plain hnr hnt]
          exact ⟨⟨v, us, rfl, ry, a1⟩, a2, a3, a4⟩
        · obtain ⟨L, q1, q2⟩ := r1
          have hφ' : ∀ (i : Nat) (r : Nat), ((pre ++ [id]) ++ q)[i]? = some r → φ0 i = C.φ r := fun i r hr => hφ i r (by simpa using hr)
          obtain ⟨a1, a2, a3, a4⟩ := args_rep hH Z φ0 xs bs j q us (pre ++ [id]) h2 r2 (fun id hid => hZ id (by simp [hid])) hφ'
          have hpl : (pre ++ [id]).length = pre.length + 1 := by simp
          rw [hpl] at a1 a2 a3 a4
          have hself : φ0 pre.length = some L := by rw [hφ pre.length id (by simp), q1]
          show RepL w _ (.ptr pre.length 0 :: (takeArgs (pre.length + 1) bs).1) _ ∧ _ ∧ (∀ id', look ((pre.length, (⟨k.arr, k.elem, 0, ys⟩ : Blk)) :: (takeArgs (pre.length + 1) bs).2) id' = none ∨ _) ∧ _
          refine ⟨⟨v, us, rfl, ⟨L, hself, q2⟩, a1⟩, by simp [takeArgs, a2], fun id' => ?_, fun id' g1 g2 => ?_⟩
          · show look ((pre.length, _) :: _) id' = none ∨ _
            by_cases e : id' = pre.length
            · subst e
              right
              refine ⟨id, k, ys, i, Nat.le_refl _, by simp, hk, hs, ⟨L, q1⟩, hc, fun j hj => hZ j (by simp [hj]), ?_⟩
              show look ((pre.length, _) :: _) pre.length = _
              simp [look]
            · have hl : look ((pre.length, (⟨k.arr, k.elem, 0, ys⟩ : Blk)) :: (takeArgs (pre.length + 1) bs).2) id' = look (takeArgs (pre.length + 1) bs).2 id' := by
                show (match Nat.beq id' pre.length with | true => _ | false => _) = _
                rw [nbeq_ne e]
              rw [hl]
              rcases a3 id' with a3 | ⟨r, k', ys', l, b1, b2, b3⟩
              · exact .inl a3
              · right
                refine ⟨r, k', ys', l, by omega, by simpa using b2, ?_⟩
                show _ ∧ _ ∧ _ ∧ _ ∧ _ ∧ look ((pre.length, (⟨k.arr, k.elem, 0, ys⟩ : Blk)) :: (takeArgs (pre.length + 1) bs).2) id' = _
                rw [hl]; exact b3
          · show ∃ b, look ((pre.length, _) :: _) id' = some b
            by_cases e : id' = pre.length
            · subst e; exact ⟨_, by simp [look]; rfl⟩
            · obtain ⟨b, hb⟩ := a4 id' (by omega) (by simp at g2; omega)
              refine ⟨b, ?_⟩
              show (match Nat.beq id' pre.length with | true => _ | false => _) = _
              rw [nbeq_ne e]; exact hb
end Go.Proofs.YtlcnpecejhcnfaaDoor.EV
