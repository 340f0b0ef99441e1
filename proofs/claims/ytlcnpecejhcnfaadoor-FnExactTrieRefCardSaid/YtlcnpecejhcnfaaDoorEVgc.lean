/- A loop's head: what is still read, numbered anew. No conditions. -/
import Derived.Test.YtlcnpecejhcnfaaDoorEVcode
namespace Go.Proofs.YtlcnpecejhcnfaaDoor.EV
set_option linter.unusedVariables false
set_option linter.unusedSimpArgs false
open Go Go.RowKit

def renφ (C : Ctx) (ids : List Nat) : Ctx := ⟨fun j => match ids[j]? with | some id => C.φ id | none => none, C.Fz⟩
theorem idx_get {ids : List Nat} {id : Nat} (h : ids.contains id = true) : ids[ids.idxOf id]? = some id := by
  have hm : id ∈ ids := by simpa using h
  rw [List.getElem?_eq_getElem (List.idxOf_lt_length_of_mem hm)]
  simp
theorem ren1_rep {w : World} {C : Ctx} (ids : List Nat) {x : AV} {v : Value} (r : Rep w C x v) : Rep w (renφ C ids) (ren1 ids x) v := by
  cases x
  case own id o n =>
    simp only [ren1]
    cases h : ids.contains id with
    | false => trivial
    | true =>
      obtain ⟨a, cap, rfl, hc, r⟩ := r
      refine ⟨a, cap, rfl, hc, ?_⟩
      rcases r with r | ⟨L, q1, q2⟩
      · exact .inl r
      · refine .inr ⟨L, ?_, q2⟩
        show (match ids[ids.idxOf id]? with | some id => C.φ id | none => none) = some L
        rw [idx_get h]; exact q1
  case ptr id o =>
    simp only [ren1]
    cases h : ids.contains id with
    | false => trivial
    | true =>
      obtain ⟨L, q1, q2⟩ := r
      refine ⟨L, ?_, q2⟩
      show (match ids[ids.idxOf id]? with | some id => C.φ id | none => none) = some L
      rw [idx_get h]; exact q1
  case agg => trivial
  case tup => trivial
  case ref => exact r.elim
  all_goals exact r
theorem ren1L_rep {w : World} {C : Ctx} (ids : List Nat) : ∀ {xs : List AV} {vs : List Value}, RepL w C xs vs → RepL w (renφ C ids) (xs.map (ren1 ids)) vs
  | [], _, r => r
  | x :: xs, vs, r => by
    obtain ⟨v, us, rfl, r1, r2⟩ := r
    exact ⟨v, us, rfl, ren1_rep ids r1, ren1L_rep ids r2⟩
theorem ren_rep {w : World} {C : Ctx} (ids : List Nat) {x : AV} {v : Value} (r : Rep w C x v) : Rep w (renφ C ids) (ren ids x) v := by
  cases x
  case agg xs =>
    obtain ⟨vs, rfl, rl⟩ := r
    exact ⟨vs, rfl, ren1L_rep ids rl⟩
  all_goals exact ren1_rep ids r
theorem renAt_rep {w : World} {C : Ctx} (ids : List Nat) {b o : Nat} {cs : List AV} (r : RepAt w C b o cs) : RepAt w (renφ C ids) b o (cs.map (ren1 ids)) :=
  repAt_of fun j x hx => by
    rw [List.getElem?_map] at hx
    cases hc : cs[j]? with
    | none => rw [hc] at hx; simp at hx
    | some c =>
      rw [hc] at hx
      simp only [Option.map_some, Option.some.injEq] at hx
      subst hx
      obtain ⟨v, q1, q2, q3⟩ := repAt_get1 r hc
      exact ⟨v, q1, q2, ren1_rep ids q3⟩
theorem look_map {α : Type} (f : Nat → α) : ∀ {l : List Nat} {t : Nat} {v : α}, look (l.map fun t => (t, f t)) t = some v → v = f t
  | [], _, _, h => by simp [look] at h
  | d :: r, t, v, h => by
    simp only [List.map_cons, look] at h
    cases e : Nat.beq t d <;> rw [e] at h
    · exact look_map f h
    · simp only [Option.some.injEq] at h
      rw [nbeq_eq e, ← h]
theorem renB_ok {P : Program} {w : World} {C : Ctx} (ids : List Nat) {L : Loc} {k : Blk} (ok : BlkOk P w C L k) : BlkOk P w (renφ C ids) L (renB ids k) ∧ (renB ids k).st = k.st ∧ (renB ids k).arr = k.arr := by
  unfold renB
  cases ha : k.arr with
  | true =>
    refine ⟨?_, rfl, ha⟩
    rcases ok with ok | ⟨e0, cells, el, fr, e1, e2, e3, e4, e5, e6, ea, e7, e8⟩
    · exact .inl ok
    · exact .inr ⟨e0, cells, el, fr, e1, e2, e3, e4, e5, repAt_step' (Step.of_bare w (renφ C ids)) _ _ _ rfl (ea ha), ea, e7, e8⟩
  | false =>
    dsimp only
    refine ⟨?_, rfl, rfl⟩
    rcases ok with ok | ⟨e0, cells, el, fr, e1, e2, e3, e4, e5, e6, ea, e7, e8⟩
    · exact .inl ok
    · exact .inr ⟨e0, cells, el, fr, e1, e2, e3, ⟨(fun q => Bool.noConfusion q), e4.2.1, fun _ => e4.2.2 ha⟩, by simpa using e5, renAt_rep ids e6, (fun q => Bool.noConfusion q), e7, e8⟩

/-! Nil slices get blocks of their own. -/
theorem nil1_rep {sf : TypeId → Nat} {w : World} {C : Ctx} {b : Nat} {e : TypeId} {x : AV} {v : Value} (r : Rep w C x v) : Rep w C (nil1 sf b e x).1 v := by
  cases x <;> first | exact r | skip
  obtain ⟨_, rfl⟩ := r
  exact ⟨none, 0, rfl, Nat.le_refl _, .inl ⟨rfl, rfl⟩⟩
theorem nil1_next (sf : TypeId → Nat) (b : Nat) (e : TypeId) (x : AV) : b ≤ (nil1 sf b e x).2.2 ∧ ∀ p ∈ (nil1 sf b e x).2.1, b ≤ p.1 := by
  cases x <;> simp [nil1]
theorem nilL_len (sf : TypeId → Nat) : ∀ (b : Nat) (es : List TypeId) (xs : List AV), (nilL sf b es xs).1.length = xs.length
  | _, _, [] => rfl
  | b, es, x :: r => by simp only [nilL, List.length_cons, nilL_len sf _ es.tail r]
theorem nilL_rep {sf : TypeId → Nat} {w : World} {C : Ctx} : ∀ (b : Nat) (es : List TypeId) (xs : List AV) (vs : List Value), RepL w C xs vs → RepL w C (nilL sf b es xs).1 vs
  | _, _, [], _, r => r
  | b, es, x :: xs, vs, r => by
    obtain ⟨v, us, rfl, r1, r2⟩ := r
    exact ⟨v, us, rfl, nil1_rep r1, nilL_rep _ es.tail xs us r2⟩
theorem nilL_at {sf : TypeId → Nat} {w : World} {C : Ctx} {k : Nat} : ∀ (b : Nat) (es : List TypeId) (xs : List AV) (o : Nat), RepAt w C k o xs → RepAt w C k o (nilL sf b es xs).1
  | _, _, [], _, r => r
  | b, es, x :: xs, o, r => by
    obtain ⟨⟨v, e1, eo, e2⟩, e3⟩ := r
    exact ⟨⟨v, e1, eo, nil1_rep e2⟩, nilL_at _ es.tail xs (o + 1) e3⟩
theorem nilL_next (sf : TypeId → Nat) : ∀ (b : Nat) (es : List TypeId) (xs : List AV), b ≤ (nilL sf b es xs).2.2 ∧ ∀ p ∈ (nilL sf b es xs).2.1, b ≤ p.1
  | b, _, [] => ⟨Nat.le_refl b, by simp [nilL]⟩
  | b, es, x :: r => by
    have h1 := nil1_next sf b (es.headD 0) x
    have h2 := nilL_next sf (nil1 sf b (es.headD 0) x).2.2 es.tail r
    refine ⟨Nat.le_trans h1.1 h2.1, fun p hp => ?_⟩
    simp only [nilL, List.mem_append] at hp
    rcases hp with hp | hp
    · exact h1.2 p hp
    · exact Nat.le_trans h1.1 (h2.2 p hp)
theorem nilV_rep {sf : TypeId → Nat} {P : Program} {w : World} {C : Ctx} {b : Nat} {t : TypeId} {x : AV} {v : Value} (r : Rep w C x v) : Rep w C (nilV sf P b t x).1 v := by
  cases x
  case agg xs =>
    obtain ⟨vs, rfl, rl⟩ := r
    exact ⟨vs, rfl, nilL_rep _ _ _ _ rl⟩
  all_goals exact nil1_rep r
theorem nilV_next (sf : TypeId → Nat) (P : Program) (b : Nat) (t : TypeId) (x : AV) : b ≤ (nilV sf P b t x).2.2 ∧ ∀ p ∈ (nilV sf P b t x).2.1, b ≤ p.1 := by
  cases x
  case agg xs => exact nilL_next sf b _ xs
  all_goals exact nil1_next sf b _ _
theorem nilSlots_next (sf : TypeId → Nat) (P : Program) (ty : Nat → TypeId) : ∀ (b : Nat) (l : List (Nat × AV)), b ≤ (nilSlots sf P ty b l).2.2 ∧ ∀ p ∈ (nilSlots sf P ty b l).2.1, b ≤ p.1
  | b, [] => ⟨Nat.le_refl b, by simp [nilSlots]⟩
  | b, (t, v) :: r => by
    have h1 := nilV_next sf P b (ty t) v
    have h2 := nilSlots_next sf P ty (nilV sf P b (ty t) v).2.2 r
    refine ⟨Nat.le_trans h1.1 h2.1, fun p hp => ?_⟩
    simp only [nilSlots, List.mem_append] at hp
    rcases hp with hp | hp
    · exact h1.2 p hp
    · exact Nat.le_trans h1.1 (h2.2 p hp)
theorem nilSlots_look {sf : TypeId → Nat} {P : Program} {ty : Nat → TypeId} : ∀ {b : Nat} {l : List (Nat × AV)} {t : Nat} {y : AV}, look (nilSlots sf P ty b l).1 t = some y → ∃ v b', look l t = some v ∧ y = (nilV sf P b' (ty t) v).1
  | _, [], _, _, h => by simp [nilSlots, look] at h
  | b, (d, v) :: r, t, y, h => by
    simp only [nilSlots, look] at h ⊢
    cases e : Nat.beq t d <;> rw [e] at h
    · exact nilSlots_look h
    · simp only [Option.some.injEq] at h
      subst h
      have := nbeq_eq e
      subst this
      exact ⟨v, b, rfl, rfl⟩
theorem nilBlks_mem {sf : TypeId → Nat} {P : Program} {h : Nat → Option Blk} : ∀ (ids : List Nat) (b : Nat), b ≤ (nilBlks sf P h b ids).2 ∧ ∀ p ∈ (nilBlks sf P h b ids).1, b ≤ p.1 ∨ ∃ k b', h p.1 = some k ∧ k.arr = false ∧ p.2 = { k with cells := (nilL sf b' (elemsOf P 8 k.elem) k.cells).1 }
  | [], b => ⟨Nat.le_refl b, by simp [nilBlks]⟩
  | id :: r, b => by
    unfold nilBlks
    cases hk : h id with
    | none => exact nilBlks_mem r b
    | some k =>
      simp only
      cases haa : (k.arr || k.cells.any isNilp) with
      | true => exact nilBlks_mem r b
      | false =>
        have ha : k.arr = false := by cases hz : k.arr <;> rw [hz] at haa <;> simp at haa <;> rfl
        simp only
        have h1 := nilL_next sf b (elemsOf P 8 k.elem) k.cells
        have h2 := nilBlks_mem (sf := sf) (P := P) (h := h) r (nilL sf b (elemsOf P 8 k.elem) k.cells).2.2
        refine ⟨Nat.le_trans h1.1 h2.1, fun p hp => ?_⟩
        rcases List.mem_cons.1 hp with rfl | hp
        · exact .inr ⟨k, b, hk, ha, by rw [ha]⟩
        · rcases List.mem_append.1 hp with hp | hp
          · exact .inl (h1.2 p hp)
          · rcases h2.2 p hp with q | q
            · exact .inl (Nat.le_trans h1.1 q)
            · exact .inr q
theorem nilB_ok {sf : TypeId → Nat} {P : Program} {w : World} {C : Ctx} {L : Loc} {k : Blk} (ha : k.arr = false) (b : Nat) (es : List TypeId) (ok : BlkOk P w C L k) : BlkOk P w C L { k with cells := (nilL sf b es k.cells).1 } := by
  rcases ok with ok | ⟨e0, cells, el, fr, e1, e2, e3, e4, e5, e6, ea, e7, e8⟩
  · exact .inl ok
  · refine .inr ⟨e0, cells, el, fr, e1, e2, e3, e4, ?_, nilL_at b es _ _ e6, fun q => ?_, e7, e8⟩
    · show L.len = List.length _ ∧ L.d + List.length _ ≤ L.top
      rw [nilL_len]; exact e5
    · have q' : k.arr = true := q
      rw [ha] at q'; cases q'

/-- A memory in which struct blocks hold no nil slices. -/
def NilH (sf : TypeId → Nat) (P : Program) (C : Ctx) (h h' : Nat → Option Blk) : Prop := ∀ id L, C.φ id = some L → ∀ k, h id = some k → h' id = some k ∨ ∃ b, k.arr = false ∧ h' id = some { k with cells := (nilL sf b (elemsOf P 8 k.elem) k.cells).1 }
theorem nilH_relH {sf : TypeId → Nat} {P : Program} {w : World} {C : Ctx} {h h' : Nat → Option Blk} (r : RelH P w C h) (n : NilH sf P C h h') : RelH P w C h' := by
  have back : ∀ id L k', C.φ id = some L → h' id = some k' → ∃ k, h id = some k ∧ k.st = k'.st := by
    intro id L k' e hk
    obtain ⟨k, hk0, _⟩ := r.blk id L e
    rcases n id L e k hk0 with q | ⟨b, _, q⟩
    · rw [q] at hk; cases hk; exact ⟨_, hk0, rfl⟩
    · rw [q] at hk; cases hk; exact ⟨k, hk0, rfl⟩
  refine ⟨fun id L e => ?_, fun id id' L L' k k' e e' hk hk' hs hs' ne => ?_, r.old⟩
  · obtain ⟨k, hk, ok⟩ := r.blk id L e
    rcases n id L e k hk with q | ⟨b, ha, q⟩
    · exact ⟨k, q, ok⟩
    · exact ⟨_, q, nilB_ok ha b _ ok⟩
  · obtain ⟨k0, q1, q2⟩ := back id L k e hk
    obtain ⟨k0', q1', q2'⟩ := back id' L' k' e' hk'
    exact r.apart id id' L L' k0 k0' e e' q1 q1' (by omega) (by omega) ne
theorem nilH_rel {sf : TypeId → Nat} {P : Program} {w : World} {C : Ctx} {h h' : Nat → Option Blk} (r : RelT P w C h) (n : NilH sf P C h h') : RelT P w C h' ∧ KeptT P w C h w C h' := by
  have back : ∀ id L k', C.φ id = some L → h' id = some k' → ∃ k, h id = some k ∧ k.st = k'.st ∧ k.arr = k'.arr := by
    intro id L k' e hk
    obtain ⟨k, hk0, _⟩ := r.h.blk id L e
    rcases n id L e k hk0 with q | ⟨b, _, q⟩
    · rw [q] at hk; cases hk; exact ⟨_, hk0, rfl, rfl⟩
    · rw [q] at hk; cases hk; exact ⟨k, hk0, rfl, rfl⟩
  have tree : ∀ id L k', C.φ id = some L → h' id = some k' → 3 ≤ k'.st → h id = some k' := by
    intro id L k' e hk hs
    obtain ⟨k, hk0, _⟩ := r.h.blk id L e
    rcases n id L e k hk0 with q | ⟨b, ha, q⟩
    · rw [q] at hk; cases hk; exact hk0
    · rw [q] at hk; cases hk
      obtain ⟨T, ok, _⟩ := r.t.ok id L k e hk0 hs
      have := ok.1
      rw [ha] at this; cases this
  have tree2 : ∀ id L k, C.φ id = some L → h id = some k → 3 ≤ k.st → h' id = some k := by
    intro id L k e hk hs
    rcases n id L e k hk with q | ⟨b, ha, q⟩
    · exact q
    · obtain ⟨T, ok, _⟩ := r.t.ok id L k e hk hs
      have := ok.1
      rw [ha] at this; cases this
  have tw : ∀ b, TW P w C h' b → TW P w C h b := by
    rintro b ⟨id, L, k, T, h1, h2, h3, h4⟩
    exact ⟨id, L, k, T, h1, tree id L k h1 h2 h3.st.1, h3, h4⟩
  refine ⟨⟨nilH_relH r.h n, ⟨fun id L k e hk hs => r.t.ok id L k e (tree id L k e hk hs) hs, fun id L k T e hk ok b hb id' L' k' ne e' hk' => ?_⟩⟩, ⟨Step.refl _ _, rfl, rfl, rfl, Nat.le_refl _, fun _ _ _ _ => rfl, fun b q => ?_, fun b q => ?_, fun b q => .inl q⟩⟩
  · obtain ⟨k0, q1, q2, _⟩ := back id' L' k' e' hk'
    have := r.t.off id L k T e (tree id L k e hk ok.st.1) ok b hb id' L' k0 ne e' q1
    refine ⟨fun hs => this.1 (by omega), fun T' ok' => ?_⟩
    have q3 := tree id' L' k' e' hk' ok'.st.1
    rw [q1] at q3; cases q3
    exact this.2 T' ok'
  · rcases q with ⟨id, L, k, q1, q2, q3, q4⟩ | q
    · obtain ⟨k0, z1, z2, z3⟩ := back id L k q1 q2
      exact .inl ⟨id, L, k0, q1, z1, by omega, q4⟩
    · exact .inr (.inl (tw b q))
  · rcases q with ⟨id, L, k, q1, q2, q3, qa, q4⟩ | q
    · obtain ⟨k0, z1, z2, z3⟩ := back id L k q1 q2
      exact .inl ⟨id, L, k0, q1, z1, by omega, by rw [z3]; exact qa, q4⟩
    · exact .inr (.inl (tw b q))

theorem pack_rel {P : Program} {w : World} {C : Ctx} {h G : Nat → Option Blk} (mem : RelH P w C h) {ids : List Nat} (hd : distinct ids = true) (hG : ∀ j id L, ids[j]? = some id → C.φ id = some L → ∀ k, h id = some k → G j = some (renB ids k)) : RelH P w (renφ C ids) G := by
  have hmem : ∀ j L, (renφ C ids).φ j = some L → ∃ id k, ids[j]? = some id ∧ C.φ id = some L ∧ h id = some k ∧ BlkOk P w C L k ∧ G j = some (renB ids k) := by
    intro j L e
    change (match ids[j]? with | some id => C.φ id | none => none) = some L at e
    cases hj : ids[j]? with
    | none => rw [hj] at e; cases e
    | some id =>
      rw [hj] at e
      obtain ⟨k, hk, ok⟩ := mem.blk id L e
      exact ⟨id, k, rfl, e, hk, ok, hG j id L hj e k hk⟩
  refine ⟨fun j L e => ?_, fun j j' L L' k k' e e' hk hk' hs hs' ne => ?_, mem.old⟩
  · obtain ⟨id, k, _, _, _, ok, hg⟩ := hmem j L e
    exact ⟨_, hg, (renB_ok ids ok).1⟩
  · obtain ⟨id, q, hj, e2, hq, oq, hg⟩ := hmem j L e
    obtain ⟨id', q', hj', e2', hq', oq', hg'⟩ := hmem j' L' e'
    rw [hg] at hk; rw [hg'] at hk'
    cases hk; cases hk'
    rw [(renB_ok ids oq).2.1] at hs
    rw [(renB_ok ids oq').2.1] at hs'
    exact mem.apart id id' L L' q q' e2 e2' hq hq' hs hs' (distinct_ne hd hj hj' ne)
theorem TreeOk.ctx {P : Program} {w : World} {C C' : Ctx} {L : Loc} {k : Blk} {T : List Nat} (h : k.st = 3) (r : TreeOk P w C L k T) : TreeOk P w C' L k T := by
  obtain ⟨r1, r2, r3⟩ := r
  exact ⟨r1, r2, .inl (r3.resolve_right fun q => by have := q.1; omega)⟩
theorem renB_arr {ids : List Nat} {k : Blk} (h : k.arr = true) : renB ids k = k := by unfold renB; rw [h]
theorem renB_st (ids : List Nat) (k : Blk) : (renB ids k).st = k.st := by unfold renB; cases k.arr <;> rfl
theorem packT {P : Program} {w : World} {C : Ctx} {h G : Nat → Option Blk} (r : RelT P w C h) {ids : List Nat} (hd : distinct ids = true) (hG : ∀ j id L, ids[j]? = some id → C.φ id = some L → ∀ k, h id = some k → G j = some (renB ids k)) (h4 : ∀ id, id ∈ ids → ∀ k, h id = some k → k.st ≠ 4) :
    RelT P w (renφ C ids) G ∧ (∀ b, TW P w (renφ C ids) G b → TW P w C h b) ∧ (∀ b, RW (renφ C ids) G b → RW C h b) ∧ (∀ b, RWa (renφ C ids) G b → RWa C h b) := by
  have hmem : ∀ j L k', (renφ C ids).φ j = some L → G j = some k' → ∃ id k, ids[j]? = some id ∧ C.φ id = some L ∧ h id = some k ∧ k' = renB ids k := by
    intro j L k' e hk'
    change (match ids[j]? with | some id => C.φ id | none => none) = some L at e
    cases hj : ids[j]? with
    | none => rw [hj] at e; cases e
    | some id =>
      rw [hj] at e
      obtain ⟨k, hk, ok⟩ := r.h.blk id L e
      have := hG j id L hj e k hk
      rw [hk'] at this
      exact ⟨id, k, rfl, e, hk, Option.some.inj this⟩
  have tr : ∀ j L k', (renφ C ids).φ j = some L → G j = some k' → 3 ≤ k'.st → ∃ id, ids[j]? = some id ∧ C.φ id = some L ∧ h id = some k' ∧ k'.st = 3 := by
    intro j L k' e hk' hs
    obtain ⟨id, k, q1, q2, q3, q4⟩ := hmem j L k' e hk'
    have hs' : 3 ≤ k.st := by rw [q4, renB_st] at hs; exact hs
    obtain ⟨T, ok, _⟩ := r.t.ok id L k q2 q3 hs'
    rw [renB_arr ok.1] at q4
    subst q4
    have := h4 id (List.mem_of_getElem? q1) k' q3
    have := ok.st
    exact ⟨id, q1, q2, q3, by omega⟩
  refine ⟨⟨pack_rel r.h hd hG, ⟨fun j L k e hk hs => ?_, fun j L k T e hk ok b hb j' L' k' ne e' hk' => ?_⟩⟩, ?_, ?_, ?_⟩
  · obtain ⟨id, q1, q2, q3, q4⟩ := tr j L k e hk hs
    obtain ⟨T, ok, nd, fz⟩ := r.t.ok id L k q2 q3 hs
    exact ⟨T, ok.ctx q4, nd, fz⟩
  · obtain ⟨id, q1, q2, q3, q4⟩ := tr j L k e hk ok.st.1
    obtain ⟨id', k2, p1, p2, p3, p4⟩ := hmem j' L' k' e' hk'
    have hne : id' ≠ id := distinct_ne hd p1 q1 ne
    have := r.t.off id L k T q2 q3 (ok.ctx q4) b hb id' L' k2 hne p2 p3
    refine ⟨fun hs => this.1 (by rw [p4, renB_st] at hs; exact hs), fun T' ok' => ?_⟩
    obtain ⟨id2, z1, z2, z3, z4⟩ := tr j' L' k' e' hk' ok'.st.1
    rw [p1] at z1; cases z1
    rw [p3] at z3; cases z3
    exact this.2 T' (ok'.ctx z4)
  · rintro b ⟨j, L, k, T, e, hk, ok, hb⟩
    obtain ⟨id, q1, q2, q3, q4⟩ := tr j L k e hk ok.st.1
    exact ⟨id, L, k, T, q2, q3, ok.ctx q4, hb⟩
  · rintro b ⟨j, L, k, e, hk, hs, hb⟩
    obtain ⟨id, k2, p1, p2, p3, p4⟩ := hmem j L k e hk
    exact ⟨id, L, k2, p2, p3, by rw [p4, renB_st] at hs; exact hs, hb⟩
  · rintro b ⟨j, L, k, e, hk, hs, ha, hb⟩
    obtain ⟨id, k2, p1, p2, p3, p4⟩ := hmem j L k e hk
    refine ⟨id, L, k2, p2, p3, by rw [p4, renB_st] at hs; exact hs, ?_, hb⟩
    rw [p4] at ha
    unfold renB at ha
    cases hk2 : k2.arr with
    | true => rfl
    | false => rw [hk2] at ha; simp at ha
/-- Rows in hand put back. -/
theorem fold1_ok {P : Program} {w : World} {C : Ctx} {h : Nat → Option Blk} (r : RelT P w C h) (id : Nat) : RelT P w C (fold1 h id) ∧ KeptT P w C h w C (fold1 h id) ∧ ∀ B, NoT h B → NoT (fold1 h id) B := by
  unfold fold1
  cases hk : h id with
  | none => exact ⟨r, KeptT.refl _ _ _ _, fun _ q => q⟩
  | some b =>
    simp only
    cases h4 : Nat.beq b.st 4 with
    | false => exact ⟨r, KeptT.refl _ _ _ _, fun _ q => q⟩
    | true =>
      cases hf : foldB h b with
      | none => exact ⟨r, KeptT.refl _ _ _ _, fun _ q => q⟩
      | some p =>
        obtain ⟨b', dd⟩ := p
        simp only
        obtain ⟨f1, f2, _⟩ := fold_ok r hk hf
        have hs := nbeq_eq h4
        rcases foldB_cases hf with ⟨z, _⟩ | ⟨cs, cid, j, n, c, z1, z2, z3, z4, rfl, rfl⟩
        · omega
        · refine ⟨f1, f2, fun B hB i k hi hk' => ?_⟩
          have hne : i ≠ id := fun q => by
            have := hB id b (q ▸ hi) hk
            omega
          rw [upd_other _ _ hne] at hk'
          cases hq : h i with
          | none => rw [setSt_none hq] at hk'; cases hk'
          | some k0 =>
            rcases setSt_get (s := 2) (l := [cid]) hq with q | q
            · rw [q] at hk'; cases hk'; exact hB i _ hi hq
            · rw [q] at hk'; cases hk'; show 2 < 3; omega
theorem folds_ok {P : Program} {w : World} {C : Ctx} : ∀ (ids : List Nat) {h : Nat → Option Blk}, RelT P w C h → RelT P w C (foldsH h ids) ∧ KeptT P w C h w C (foldsH h ids) ∧ ∀ B, NoT h B → NoT (foldsH h ids) B
  | [], h, r => ⟨r, KeptT.refl _ _ _ _, fun _ q => q⟩
  | id :: ids, h, r => by
    obtain ⟨a1, a2, a3⟩ := fold1_ok r id
    obtain ⟨b1, b2, b3⟩ := folds_ok ids a1
    exact ⟨b1, a2.trans b2, fun B q => b3 B (a3 B q)⟩
theorem pack_ok {P : Program} {w0 : World} {C0 : Ctx} {H0 : Nat → Option Blk} {w : World} {C : Ctx} {a : Act} {nt nr : Nat} {vs : List (Nat × AV)} {h : Nat → Option Blk} (mem : RelT P w C h) (env : ∀ t, Rep w C (ofList vs .any t) (a.tmps.getD t undef)) (size : a.tmps.size = nt) (defers : a.defers = [])
    (kept : KeptT P w0 C0 H0 w C h) (hnr : (∀ id L, C0.φ id = some L → id < nr) ∧ ∀ id b, H0 id = some b → id < nr ∧ (C0.φ id = none → C.φ id = none)) {ids : List Nat} {D : PSt} (e : packH nt nr vs h ids = some D) : ∃ C', RelB P w0 C0 H0 w C' a (unpack D) (unpack D).next := by
  unfold packH at e
  cases hd : (distinct ids && decide (ids.take nr = List.range nr) && ids.all (shutB h)) with
  | false => rw [hd] at e; simp at e
  | true =>
    rw [hd] at e
    simp only [Option.some.injEq] at e
    subst e
    rw [Bool.and_eq_true, Bool.and_eq_true, decide_eq_true_eq] at hd
    obtain ⟨⟨hd, ht⟩, h4⟩ := hd
    have hH : ∀ j id, ids[j]? = some id → (ids.map fun id => match h id with | some b => some (renB ids b) | none => none).getD j none = (h id).map (renB ids) := by
      intro j id hj
      rw [List.getD_eq_getElem?_getD, List.getElem?_map, hj]
      cases hq : h id <;> simp [hq]
    obtain ⟨p1, p2, p3, p4⟩ := packT mem (G := fun j => (ids.map fun id => match h id with | some b => some (renB ids b) | none => none).getD j none) hd (fun j id L hj _ k hk => (hH j id hj).trans (by rw [hk]; rfl)) (fun id hid k hk q => by
      have := List.all_eq_true.1 h4 id hid
      unfold shutB at this
      rw [hk] at this
      simp [q] at this)
    refine ⟨renφ C ids, ⟨p1, fun t => ?_, fun id hid => ?_, size, defers, ⟨⟨fun id L e => ?_, kept.step.Fz, kept.step.same⟩, kept.os, kept.tape, kept.output, kept.size, kept.blk, fun b hb => kept.rw b (hb.imp (p3 b) (p2 b)), fun b hb => kept.rwa b (hb.imp (p4 b) (p2 b)), kept.fz⟩, ⟨hnr.1, fun id b hb => ⟨(hnr.2 id b hb).1, fun hn => ?_⟩⟩, ?_, fun id k hid hk => ?_⟩⟩
    · show Rep w _ (ofList (vs.map fun p => (p.1, ren ids p.2)) .any t) _
      have he := env t
      unfold ofList at he ⊢
      have hl : ∀ l : List (Nat × AV), look (l.map fun p => (p.1, ren ids p.2)) t = (look l t).map (ren ids) := by
        intro l
        induction l with
        | nil => rfl
        | cons p r ih =>
          obtain ⟨d, v⟩ := p
          simp only [List.map_cons, look]
          cases Nat.beq t d with
          | true => rfl
          | false => exact ih
      rw [hl]
      cases hv : look vs t with
      | none => trivial
      | some v => rw [hv] at he; exact ren_rep ids he
    · have hid' : ids.length ≤ id := hid
      show (match ids[id]? with | some id => C.φ id | none => none) = none
      rw [List.getElem?_eq_none hid']
    · have hlt := hnr.1 id L e
      have hg : ids[id]? = some id := by
        have := congrArg (fun l => l[id]?) ht
        simp only [List.getElem?_take, if_pos hlt] at this
        rw [this]; simp [hlt]
      show (match ids[id]? with | some id => C.φ id | none => none) = some L
      rw [hg]; exact kept.step.φ id L e
    · have hid' : id < nr := (hnr.2 id b hb).1
      have hg : ids[id]? = some id := by
        have := congrArg (fun l => l[id]?) ht
        simp only [List.getElem?_take, if_pos hid'] at this
        rw [this]; simp [hid']
      show (match ids[id]? with | some id => C.φ id | none => none) = none
      rw [hg]; exact (hnr.2 id b hb).2 hn
    · show nr ≤ ids.length
      have := congrArg List.length ht
      rw [List.length_take, List.length_range] at this
      omega
    · exfalso
      have hid' : ids.length ≤ id := hid
      have hk' : (ids.map fun id => match h id with | some b => some (renB ids b) | none => none).getD id none = some k := hk
      rw [List.getD_eq_getElem?_getD, List.getElem?_eq_none (by simpa using hid')] at hk'
      cases hk'
theorem gc_ok {P : Program} {w0 : World} {C0 : Ctx} {H0 : Nat → Option Blk} {w : World} {C : Ctx} {a : Act} {σ : St} (h : RelB P w0 C0 H0 w C a σ σ.next) {md : Bool} {ty : Nat → TypeId} {live : List Nat} {D : PSt} (e : gcD md P ty live σ = some D) : ∃ C', RelB P w0 C0 H0 w C' a (unpack D) (unpack D).next := by
  unfold gcD packG at e
  generalize hl : reach σ.heap 1000 (roots σ.nr (live.map fun t => (t, σ.env t))) [] = fl at e
  obtain ⟨a1, a2, a3⟩ := folds_ok fl h.mem
  generalize hh : foldsH σ.heap fl = hp at *
  generalize hx : nilSlots (stF md P) P ty σ.next (live.map fun t => (t, σ.env t)) = x at e
  have hnx := nilSlots_next (stF md P) P ty σ.next (live.map fun t => (t, σ.env t))
  rw [hx] at hnx
  have hn : NilH (stF md P) P C hp (upds hp (x.2.1 ++ (nilBlks (stF md P) P hp x.2.2 (reach hp 1000 (roots σ.nr x.1) [])).1)) := by
    intro id L hL k hk
    have hlt : id < σ.next := by
      rcases Nat.lt_or_ge id σ.next with q | q
      · exact q
      · rw [h.fresh id q] at hL; cases hL
    rcases upds_some (l := x.2.1 ++ (nilBlks (stF md P) P hp x.2.2 (reach hp 1000 (roots σ.nr x.1) [])).1) (f := hp) (id := id) with q | ⟨p, h1, h2, h3⟩
    · left; rw [q]; exact hk
    · right
      rcases List.mem_append.1 h1 with q | q
      · have := hnx.2 p q; omega
      · rcases (nilBlks_mem (sf := stF md P) (P := P) (h := hp) _ x.2.2).2 p q with q | ⟨k', b', z1, z2, z3⟩
        · have := hnx.1; omega
        · rw [h2] at z1
          rw [hk] at z1; cases z1
          exact ⟨b', z2, by rw [h3, z3]⟩
  obtain ⟨n1, n2⟩ := nilH_rel a1 hn
  refine pack_ok n1 (fun t => ?_) h.size h.defers ((h.kept.trans a2).trans n2) h.nr e
  unfold ofList
  split
  · rename_i y hy
    rw [← hx] at hy
    obtain ⟨v, b', q1, q2⟩ := nilSlots_look hy
    have hv := look_map (fun t => σ.env t) q1
    rw [q2, hv]
    exact nilV_rep (h.env t)
  · trivial
end Go.Proofs.YtlcnpecejhcnfaaDoor.EV
