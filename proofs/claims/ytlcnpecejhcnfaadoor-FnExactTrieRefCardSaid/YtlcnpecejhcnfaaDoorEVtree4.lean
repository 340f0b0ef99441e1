/- What is given to a tree. No conditions. -/
import Derived.Test.YtlcnpecejhcnfaaDoorEVtree3
namespace Go.Proofs.YtlcnpecejhcnfaaDoor.EV
set_option linter.unusedVariables false
set_option linter.unusedSimpArgs false
open Go Go.RowKit

theorem HasS.mono {P : Program} {w : World} {C : Ctx} {H : Nat → Option Blk} {S S' : Nat → Prop} {b : Nat} (h : HasS P w C H S b) (m : ∀ id, S id → S' id) : HasS P w C H S' b := by
  obtain ⟨id, hs, q⟩ := h
  exact ⟨id, m id hs, q⟩
/-- Rows of different blocks are different. -/
theorem HasS.ne {P : Program} {w : World} {C : Ctx} {H : Nat → Option Blk} (r : RelT P w C H) {S S' : Nat → Prop} (d : ∀ id, S id → ¬ S' id) {b b' : Nat} (h : HasS P w C H S b) (h' : HasS P w C H S' b') : b ≠ b' := by
  obtain ⟨id, hs, L, k, p1, p2, p3⟩ := h'
  have hf := h.far r (fun q => d id q hs) p1 p2
  rcases p3 with ⟨q1, _, q2⟩ | ⟨T, q1, q2⟩
  · exact fun q => hf.1 (by omega) (q2.trans q.symm)
  · exact fun q => hf.2 T q1 (q ▸ q2)
theorem all_cut {cs : List AV} (h : cs.all plain1 = true) (o n : Nat) : (cutC cs o n).all plain1 = true := by
  rw [List.all_eq_true] at h ⊢
  intro x hx
  exact h x (List.mem_of_mem_drop (List.mem_of_mem_take hx))
theorem cutC_len {cs : List AV} {o n : Nat} (h : o + n ≤ cs.length) : (cutC cs o n).length = n := by unfold cutC; rw [List.length_take, List.length_drop]; omega
/-- A part of a row in a tree's block. -/
theorem seg_ok {w : World} {L : Loc} {e : TypeId} {cs : List AV} {vs : List Value} {T : List Nat} (h : TBody w L e cs cs vs T) {off n cap : Nat} (he : e ≠ 0) (hc : 0 < cap) (hn : n ≤ cap) (h1 : L.d + off + cap * L.s ≤ L.top) (h2 : off + n * L.s ≤ L.len) :
    ∃ Tm, TR w (.fs n (cutC cs off (n * L.s))) (.slice (some ⟨L.b, L.d + off, none⟩) n cap) (L.b :: Tm) ∧ ∃ Ta Tb, T = Ta ++ (Tm ++ Tb) := by
  obtain ⟨r1, r2, ⟨cells, el, fr, g1, g2, g3, g4⟩, r4, r5⟩ := h
  obtain ⟨Ta, Tm, Tb, q1, q2⟩ := trv_cut r5 off (n * L.s)
  refine ⟨Tm, ⟨_, cap, rfl, hn, .inr ⟨L.b, L.d + off, L.s, _, Tm, rfl, hc, rfl, cutC_len (by omega), ⟨cells, el, fr, g1, by omega, fun i hi => g3 i (by omega), ?_⟩, fun j v hj => ?_, q2⟩⟩, Ta, Tb, q1⟩
  · rcases g4 with g4 | ⟨g4, _⟩
    · exact .inl g4
    · exact absurd g4 he
  · rw [List.getElem?_take] at hj
    split at hj
    · rw [List.getElem?_drop] at hj
      have := r4 (off + j) v hj
      rwa [← Nat.add_assoc] at this
    · cases hj
theorem tr1_ok {P : Program} {w : World} {C : Ctx} {H : Nat → Option Blk} (r : RelT P w C H) {x y : AV} {g : Bool} {ids : List Nat} {v : Value} (h : tr1 P H x = some (y, g, ids)) (hg : g = true) (rx : Rep w C x v) :
    ∃ T, TR w y v T ∧ T.Nodup ∧ ∀ b, b ∈ T → HasS P w C H (· ∈ ids) b := by
  cases x <;> simp only [tr1, reduceCtorEq, Option.some.injEq, Prod.mk.injEq] at h
  case int k n => obtain ⟨rfl, rfl, rfl⟩ := h; exact ⟨[], ⟨rx, rfl⟩, List.nodup_nil, fun b hb => by simp at hb⟩
  case bool b => obtain ⟨rfl, rfl, rfl⟩ := h; exact ⟨[], ⟨rx, rfl⟩, List.nodup_nil, fun b hb => by simp at hb⟩
  case str s => obtain ⟨rfl, rfl, rfl⟩ := h; exact ⟨[], ⟨rx, rfl⟩, List.nodup_nil, fun b hb => by simp at hb⟩
  case nils =>
    obtain ⟨rfl, rfl, rfl⟩ := h
    obtain ⟨_, rfl⟩ := rx
    exact ⟨[], ⟨none, 0, rfl, Nat.le_refl _, .inl ⟨rfl, rfl, rfl, rfl⟩⟩, List.nodup_nil, fun b hb => by simp at hb⟩
  case own id off n =>
    cases hk : H id with
    | none => rw [hk] at h; simp at h
    | some k =>
      rw [hk] at h
      simp only at h
      obtain ⟨a, cap, rfl, hn, rx⟩ := rx
      have empty : (n = 0 ∧ cap = 0) → ∃ T, TR w (.fs n (cutC k.cells off (mulN n (szOf P k.elem)))) (.slice a n cap) T ∧ T.Nodup ∧ ∀ b, b ∈ T → HasS P w C H (· ∈ [id]) b := by
        rintro ⟨rfl, rfl⟩
        exact ⟨[], ⟨a, 0, rfl, Nat.le_refl _, .inl ⟨rfl, rfl, by simp [cutC, mulN], rfl⟩⟩, List.nodup_nil, fun b hb => by simp at hb⟩
      cases he : Nat.beq k.elem 0 with
      | true => rw [he] at h; simp at h
      | false =>
      have he0 : k.elem ≠ 0 := fun q => by rw [q] at he; simp at he
      cases h3 : Nat.beq k.st 3 with
      | true =>
        rw [he, h3] at h
        simp only [Option.some.injEq, Prod.mk.injEq] at h
        obtain ⟨rfl, rfl, rfl⟩ := h
        by_cases hc : cap = 0
        · exact empty ⟨by omega, hc⟩
        rcases rx with rx | ⟨L, q1, q2, q3, q4⟩
        · exact empty rx
        · obtain ⟨T, ok, nd, _⟩ := r.t.ok id L k q1 hk (by rw [nbeq_eq h3]; omega)
          have ok' := ok
          obtain ⟨z1, z2, z3⟩ := ok
          have hs := nbeq_eq h3
          rcases z3 with ⟨_, vs, tb⟩ | ⟨z, _⟩
          · subst q2
            obtain ⟨Tm, g1, Ta, Tb, g2⟩ := seg_ok tb he0 (by omega) hn q3 q4
            refine ⟨L.b :: Tm, ?_, ?_, fun b hb => ⟨id, by simp, L, k, q1, hk, .inr ⟨T, ok', ?_⟩⟩⟩
            · show TR w (.fs n (cutC k.cells off (n * szOf P k.elem))) _ _
              rw [← z2 he0]; exact g1
            · rw [g2] at nd
              simp only [List.nodup_cons, List.mem_append, not_or, List.nodup_append] at nd ⊢
              exact ⟨nd.1.2.1, nd.2.2.1.1⟩
            · rw [g2]
              rcases List.mem_cons.1 hb with rfl | hb
              · simp
              · simp [hb]
          · omega
      | false =>
        rw [he, h3] at h
        cases h0 : (Nat.beq k.st 0 && k.arr) with
        | false => rw [h0] at h; simp at h
        | true =>
          rw [h0] at h
          simp only [Option.some.injEq, Prod.mk.injEq] at h
          obtain ⟨rfl, rfl, rfl⟩ := h
          rw [Bool.and_eq_true] at h0
          have hs := nbeq_eq h0.1
          by_cases hc : cap = 0
          · exact empty ⟨by omega, hc⟩
          rcases rx with rx | ⟨L, q1, q2, q3, q4⟩
          · exact empty rx
          · subst q2
            obtain ⟨k2, z, ok⟩ := r.h.blk id L q1
            rw [hk] at z; cases z
            rcases ok with ok | ⟨e0, cells, el, fr, e1, e2, e3, e4, e5, e6, ea, e7, e8⟩
            · omega
            have hsz := e4.1 h0.2
            have hcl : (cutC k.cells off (n * L.s)).length = n * L.s := cutC_len (by have := e5.1; omega)
            obtain ⟨us, u1, u2, u3⟩ := cells_at (repAt_cut (ea h0.2) off (n * L.s)) (Nat.le_refl _)
            rw [List.take_length] at u3
            refine ⟨[L.b], ?_, by simp, fun b hb => ⟨id, by simp, L, k, q1, hk, .inl ⟨hs, h0.2, (List.mem_singleton.1 hb).symm⟩⟩⟩
            show TR w (.fs n (cutC k.cells off (n * szOf P k.elem))) _ _
            rw [← hsz.1]
            exact ⟨_, cap, rfl, hn, .inr ⟨L.b, L.d + off, L.s, us, [], rfl, by omega, rfl, hcl, ⟨cells, el, fr, e1, by rw [e2]; exact q3, fun i hi => e3 i (by omega), .inr (all_cut hg _ _)⟩, u2, trv_plain (all_cut hg _ _) u3⟩⟩
theorem trAll_ok {P : Program} {w : World} {C : Ctx} {H : Nat → Option Blk} (r : RelT P w C H) : ∀ {xs ys : List AV} {g : Bool} {ids : List Nat} {vs : List Value}, trAll P H xs = some (ys, g, ids) → g = true → RepL w C xs vs → distinct ids = true →
    ∃ T, TRV w ys vs T ∧ T.Nodup ∧ ∀ b, b ∈ T → HasS P w C H (· ∈ ids) b
  | [], ys, g, ids, vs, h, _, rx, _ => by
    simp only [trAll, Option.some.injEq, Prod.mk.injEq] at h
    obtain ⟨rfl, rfl, rfl⟩ := h
    exact ⟨[], ⟨rx, rfl⟩, List.nodup_nil, fun b hb => by simp at hb⟩
  | x :: xs, ys, g, ids, vs, h, hg, rx, hd => by
    obtain ⟨v, us, rfl, r1, r2⟩ := rx
    simp only [trAll] at h
    cases h1 : tr1 P H x with
    | none => rw [h1] at h; simp at h
    | some p =>
      cases h2 : trAll P H xs with
      | none => rw [h1, h2] at h; simp at h
      | some q =>
        obtain ⟨y, g1, i1⟩ := p
        obtain ⟨ys2, g2, i2⟩ := q
        rw [h1, h2] at h
        simp only [Option.some.injEq, Prod.mk.injEq] at h
        obtain ⟨rfl, rfl, rfl⟩ := h
        rw [Bool.and_eq_true] at hg
        have hdd : ∀ (a b : List Nat), distinct (a ++ b) = true → distinct b = true ∧ ∀ z, z ∈ a → z ∉ b := by
          intro a
          induction a with
          | nil => intro b h; exact ⟨h, by simp⟩
          | cons c a ih =>
            intro b h
            simp only [List.cons_append, distinct, Bool.and_eq_true, Bool.not_eq_true', List.contains_eq_mem, decide_eq_false_iff_not] at h
            obtain ⟨q1, q2⟩ := ih b h.2
            refine ⟨q1, fun z hz => ?_⟩
            rcases List.mem_cons.1 hz with rfl | hz
            · exact fun q => h.1 (List.mem_append_right _ q)
            · exact q2 z hz
        obtain ⟨d1, d2⟩ := hdd i1 i2 hd
        obtain ⟨T1, t1, n1, o1⟩ := tr1_ok r h1 hg.1 r1
        obtain ⟨T2, t2, n2, o2⟩ := trAll_ok r h2 hg.2 r2 d1
        refine ⟨T1 ++ T2, ⟨v, us, T1, T2, rfl, rfl, t1, t2⟩, List.nodup_append.2 ⟨n1, n2, fun a ha b hb => ?_⟩, fun b hb => ?_⟩
        · exact HasS.ne r d2 (o1 a ha) (o2 b hb)
        · rcases List.mem_append.1 hb with hb | hb
          · exact (o1 b hb).mono fun id q => List.mem_append_left _ q
          · exact (o2 b hb).mono fun id q => List.mem_append_right _ q
end Go.Proofs.YtlcnpecejhcnfaaDoor.EV
