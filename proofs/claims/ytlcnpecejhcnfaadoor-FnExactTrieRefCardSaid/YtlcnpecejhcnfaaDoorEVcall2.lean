/- The callee's memory at its begin. No conditions. -/
import Derived.Test.YtlcnpecejhcnfaaDoorEVcall
namespace Go.Proofs.YtlcnpecejhcnfaaDoor.EV
set_option linter.unusedVariables false
set_option linter.unusedSimpArgs false
open Go Go.RowKit

theorem repAt_of_repL {w : World} {D : Ctx} {b o : Nat} {ys : List AV} {vs : List Value} (r : RepL w D ys vs) (h : ∀ (j : Nat) (v : Value), vs[j]? = some v → w.cell? ⟨b, o + j, none⟩ = some v ∧ v.oneCell' = true) : RepAt w D b o ys :=
  repAt_of fun j x hx => by
    obtain ⟨v, q1, q2⟩ := repL_get r hx
    obtain ⟨q3, q4⟩ := h j v q1
    exact ⟨v, q3, q4, q2⟩
theorem closedRow {P : Program} {w : World} {C : Ctx} {H : Nat → Option Blk} (hH : RelH P w C H) (Z : List Nat) {b o : Nat} {cs ys : List AV} {l : List Nat} (h : RepAt w C b o cs) (hc : closedAll P H cs = some (ys, l)) (hl : ∀ id, id ∈ l → id ∈ Z) :
    RepAt w (C.ice Z).bare b o ys ∧ ys.length = cs.length := by
  obtain ⟨vs, h1, h2, h3⟩ := cells_at h (Nat.le_refl _)
  rw [List.take_length] at h3
  have r := closedAll_rep hH Z hc h3 hl
  exact ⟨repAt_of_repL r h2, by rw [repL_length r, h1]⟩
theorem distinct_ne : ∀ {l : List Nat} {i j a b : Nat}, distinct l = true → l[i]? = some a → l[j]? = some b → i ≠ j → a ≠ b
  | [], _, _, _, _, _, h, _, _ => by simp at h
  | x :: r, i, j, a, b, h, hi, hj, ne => by
    simp only [distinct, Bool.and_eq_true, Bool.not_eq_true', List.contains_eq_mem, decide_eq_false_iff_not] at h
    cases i with
    | zero =>
      cases j with
      | zero => exact absurd rfl ne
      | succ j =>
        simp only [List.getElem?_cons_zero, Option.some.injEq, List.getElem?_cons_succ] at hi hj
        subst hi
        exact fun q => h.1 (q ▸ List.mem_of_getElem? hj)
    | succ i =>
      cases j with
      | zero =>
        simp only [List.getElem?_cons_zero, Option.some.injEq, List.getElem?_cons_succ] at hi hj
        subst hj
        exact fun q => h.1 (q ▸ List.mem_of_getElem? hi)
      | succ j =>
        simp only [List.getElem?_cons_succ] at hi hj
        exact distinct_ne h.2 hi hj (fun q => ne (by rw [q]))
theorem closedArgs_ids {P : Program} {H : Nat → Option Blk} : ∀ {xs as : List AV} {fz rs : List Nat}, closedArgs P H xs = some (as, fz, rs) → ∀ id, id ∈ fz → ∃ k, H id = some k ∧ k.st ≤ 1 ∧ k.arr = true
  | [], _, _, _, h => by
    simp only [closedArgs, Option.some.injEq, Prod.mk.injEq] at h
    obtain ⟨_, rfl, _⟩ := h
    intro id hid; simp at hid
  | x :: xs, as, fz, rs, h => by
    simp only [closedArgs] at h
    cases h1 : closedArg P H x with
    | none => rw [h1] at h; simp at h
    | some p =>
      cases h2 : closedArgs P H xs with
      | none => rw [h1, h2] at h; simp at h
      | some q =>
        obtain ⟨y, i, p⟩ := p
        obtain ⟨bs, j, q⟩ := q
        rw [h1, h2] at h
        simp only [Option.some.injEq, Prod.mk.injEq] at h
        obtain ⟨rfl, rfl, rfl⟩ := h
        intro id hid
        rcases List.mem_append.1 hid with hid | hid
        · rcases closedArg_cases h1 with ⟨_, hc | ⟨xs2, ys, _, _, hc⟩⟩ | ⟨_, k, ys, _, _, _, _, hc, _⟩
          · obtain ⟨k, q1, q2, q3, _⟩ := closed1_ids hc id hid; exact ⟨k, q1, q2, q3⟩
          · obtain ⟨k, q1, q2, q3, _⟩ := closedAll_ids hc id hid; exact ⟨k, q1, q2, q3⟩
          · obtain ⟨k, q1, q2, q3, _⟩ := closedAll_ids hc id hid; exact ⟨k, q1, q2, q3⟩
        · exact closedArgs_ids h2 id hid

/-- Where the blocks handed by reference lie. -/
def refφ (C : Ctx) (rs : List Nat) : Nat → Option Loc := fun i => match rs[i]? with | some r => C.φ r | none => none
theorem pre_rel {P : Program} {w : World} {C : Ctx} {H : Nat → Option Blk} (hH : RelH P w C H) {xs as : List AV} {fz rs : List Nat} {vs : List Value} (h : closedArgs P H xs = some (as, fz, rs)) (hd : distinct rs = true) (hsep : ∀ r, r ∈ rs → r ∉ fz) (r : RepL w C xs vs) :
    RelH P w ⟨refφ C rs, (C.ice fz).Fz⟩ (look (takeArgs 0 as).2) ∧ RepL w ⟨refφ C rs, (C.ice fz).Fz⟩ (takeArgs 0 as).1 vs ∧ (takeArgs 0 as).2.length = rs.length ∧
    (∀ id r, rs[id]? = some r → ∃ k ys l L, H r = some k ∧ k.st = 0 ∧ C.φ r = some L ∧ closedAll P H k.cells = some (ys, l) ∧ look (takeArgs 0 as).2 id = some ⟨k.arr, k.elem, 0, ys⟩) := by
  obtain ⟨a1, a2, a3, a4⟩ := args_rep hH fz (refφ C rs) xs as fz rs vs [] h r (fun _ q => q) (fun i r hr => by unfold refφ; rw [List.nil_append] at hr; rw [hr])
  have hz := closedArgs_ids h
  simp only [List.length_nil, List.nil_append, Nat.zero_add, Nat.zero_le, true_and] at a1 a2 a3 a4
  have full : ∀ id r, rs[id]? = some r → ∃ k ys l L, H r = some k ∧ k.st = 0 ∧ C.φ r = some L ∧ closedAll P H k.cells = some (ys, l) ∧ (∀ j, j ∈ l → j ∈ fz) ∧ look (takeArgs 0 as).2 id = some ⟨k.arr, k.elem, 0, ys⟩ := by
    intro id r hr
    have hlt := (List.getElem?_eq_some_iff.1 hr).1
    obtain ⟨b, hb⟩ := a4 id trivial hlt
    rcases a3 id with q | ⟨r', k, ys, l, q2, q3, q4, ⟨L, q6⟩, q7, q8, q9⟩
    · rw [q] at hb; cases hb
    · rw [hr] at q2; cases q2
      exact ⟨k, ys, l, L, q3, q4, q6, q7, q8, q9⟩
  refine ⟨⟨fun id L e => ?_, fun id id' L L' k k' e e' hk hk' hs hs' ne => ?_, fun b hb => ?_⟩, a1, a2, fun id r hr => ?_⟩
  · change refφ C rs id = some L at e
    unfold refφ at e
    cases hr : rs[id]? with
    | none => rw [hr] at e; cases e
    | some r =>
      rw [hr] at e
      obtain ⟨k, ys, l, L2, q1, q2, q4, q5, q6, q7⟩ := full id r hr
      have e' : C.φ r = some L := e
      rw [q4] at e'; cases e'
      refine ⟨_, q7, ?_⟩
      obtain ⟨k2, z1, ok⟩ := hH.blk r L q4
      rw [q1] at z1; cases z1
      rcases ok with ok | ⟨e0, cells, el, fr, e1, e2, e3, e4, e5, e6, ea, e7, e8⟩
      · omega
      · obtain ⟨c1, c2⟩ := closedRow hH fz e6 q5 q6
        refine .inr ⟨by simp, cells, el, fr, e1, e2, e3, e4, ⟨by rw [e5.1]; exact c2.symm, by show L.d + ys.length ≤ _; rw [c2]; exact e5.2⟩, repAt_step' (Step.of_bare w ⟨refφ C rs, (C.ice fz).Fz⟩) _ _ _ rfl c1, fun _ => c1, fun _ hf => ?_, fun q => by simp at q⟩
        rcases hf with hf | ⟨j, M, hj, g1, g2⟩
        · exact e7 q2 hf
        · obtain ⟨k3, g3, g4, g5⟩ := hz j hj
          have hne : r ≠ j := fun q => hsep r (List.mem_of_getElem? hr) (q ▸ hj)
          exact hH.apart r j L M k k3 q4 g1 q1 g3 q2 g4 hne g2.symm
  · change refφ C rs id = some L at e
    change refφ C rs id' = some L' at e'
    unfold refφ at e e'
    cases hr : rs[id]? with
    | none => rw [hr] at e; cases e
    | some r =>
      cases hr' : rs[id']? with
      | none => rw [hr'] at e'; cases e'
      | some r' =>
        rw [hr] at e; rw [hr'] at e'
        obtain ⟨k1, _, _, _, q1, q2, _⟩ := full id r hr
        obtain ⟨k2, _, _, _, z1, z2, _⟩ := full id' r' hr'
        exact hH.apart r r' L L' k1 k2 e e' q1 z1 q2 (by omega) (distinct_ne hd hr hr' ne)
  · rcases hb with hb | ⟨j, M, hj, g1, g2⟩
    · exact hH.old b hb
    · exact (rel_ice hH fz (fun id hid => by obtain ⟨k, q1, q2, _⟩ := hz id hid; exact ⟨k, q1, q2⟩)).old b (.inr ⟨j, M, hj, g1, g2⟩)
  · obtain ⟨k, ys, l, L, q1, q2, q4, q5, _, q7⟩ := full id r hr
    exact ⟨k, ys, l, L, q1, q2, q4, q5, q7⟩
end Go.Proofs.YtlcnpecejhcnfaaDoor.EV
