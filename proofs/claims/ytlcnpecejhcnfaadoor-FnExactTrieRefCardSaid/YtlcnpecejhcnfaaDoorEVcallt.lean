/- Calls where trees are about. No conditions. -/
import Derived.Test.YtlcnpecejhcnfaaDoorEVcallok2
namespace Go.Proofs.YtlcnpecejhcnfaaDoor.EV
set_option linter.unusedVariables false
set_option linter.unusedSimpArgs false
open Go Go.RowKit

theorem takeRefs_mem {P : Program} : ∀ {l : List Nat} {h : Nat → Option Blk} {vs : List AV} {p : Nat × Blk}, p ∈ takeRefs P h l vs → p.1 ∈ l ∧ ∃ b, h p.1 = some b ∧ p.2.st = b.st
  | [], _, _, _, hp => by simp [takeRefs] at hp
  | id :: r, h, vs, p, hp => by
    rw [takeRefs] at hp
    cases hk : h id with
    | none =>
      rw [hk] at hp
      obtain ⟨q1, q2⟩ := takeRefs_mem hp
      exact ⟨by simp [q1], q2⟩
    | some b =>
      rw [hk] at hp
      rcases List.mem_cons.1 hp with rfl | hp
      · exact ⟨by simp, b, hk, rfl⟩
      · obtain ⟨q1, q2⟩ := takeRefs_mem hp
        exact ⟨by simp [q1], q2⟩
theorem post_relT {cp : CP} {f : FuncId} (hnd : isDeep cp f = false) (hnt : treeF cp f = false) {w : World} {C : Ctx} {H : Nat → Option Blk} (rt : RelT cp.P w C H) {xs as : List AV} {fz refs : List Nat} (hca : closedArgs cp.P H xs = some (as, fz, refs)) (hdis : distinct refs = true) (hsep : ∀ r, r ∈ refs → r ∉ fz) {cvs : List Value} (hxs : RepL w C xs cvs)
    {base top : Nat} (hb : ∀ id, base ≤ id → id < top → C.φ id = none) (hno : ∀ id k, base ≤ id → id < top → H id = some k → k.st < 3) {fn : Func} {r : List AV} {w' : World} {e : Ending}
    (ran : Ran cp w ⟨refφ C refs, (C.ice fz).Fz⟩ (look (takeArgs 0 as).2) fn f (refTys as) r e w') (htop : (takeVals (cp.fresh.contains f) cp.P base fn.resultTypes.toList r).2.2 ≤ top) (hpl : needPl cp f fn fz refs = true → plainRes r = true) :
    ∃ u D2, e = .returned u ∧ RelT cp.P w' D2 (upds (afterC cp f fn H fz refs r) (takeVals (cp.fresh.contains f) cp.P base fn.resultTypes.toList r).2.1) ∧
      KeptT cp.P w C H w' D2 (upds (afterC cp f fn H fz refs r) (takeVals (cp.fresh.contains f) cp.P base fn.resultTypes.toList r).2.1) ∧
      Rep w' D2 (tupA (takeVals (cp.fresh.contains f) cp.P base fn.resultTypes.toList r).1) u ∧ (∀ id, (takeVals (cp.fresh.contains f) cp.P base fn.resultTypes.toList r).2.2 ≤ id → id < top → D2.φ id = none) ∧ (∀ id, (id < base ∨ top ≤ id) → D2.φ id = C.φ id) := by
  obtain ⟨u, D2, rfl, q1, q2, q3, q4, q5⟩ := post_rel hnd hnt rt.h hca hdis hsep hxs hb ran htop hpl
  obtain ⟨_, _, _, pre⟩ := pre_rel rt.h hca hdis hsep hxs
  have e1 : ∀ id b, upds (afterC cp f fn H fz refs r) (takeVals (cp.fresh.contains f) cp.P base fn.resultTypes.toList r).2.1 id = some b → 3 ≤ b.st → H id = some b := by
    intro id b h1 h2
    rcases upds_some (l := (takeVals (cp.fresh.contains f) cp.P base fn.resultTypes.toList r).2.1) (f := afterC cp f fn H fz refs r) (id := id) with z | ⟨p, p1, p2, p3⟩
    · rw [z] at h1
      unfold afterC at h1
      cases hq : upds H (takeRefs cp.P H refs (dropV fn.resultTypes.toList r)) id with
      | none => rw [setSt_none hq] at h1; cases h1
      | some k =>
        rcases setSt_get (s := 1) (l := coldC cp f fn fz refs) hq with z | z
        · rw [z] at h1; cases h1
          rcases upds_some (l := takeRefs cp.P H refs (dropV fn.resultTypes.toList r)) (f := H) (id := id) with z | ⟨p, p1, p2, p3⟩
          · rw [z] at hq; exact hq
          · rw [p3] at hq; cases hq
            obtain ⟨m1, b0, m2, m3⟩ := takeRefs_mem p1
            obtain ⟨n, hn⟩ := List.getElem?_of_mem m1
            obtain ⟨k, _, _, _, k1, k2, _⟩ := pre n p.1 hn
            rw [m2] at k1; cases k1
            omega
        · rw [z] at h1; cases h1; simp at h2
    · rw [p3] at h1; cases h1
      have := takeVals_st _ _ _ _ _ p p1
      omega
  obtain ⟨l1, l2⟩ := lift rt q1 q2 e1 (fun id b h1 h2 h3 => by
    have hb' := e1 id b h1 h2
    have : id < base ∨ top ≤ id := by
      rcases Nat.lt_or_ge id base with z | z
      · exact .inl z
      · rcases Nat.lt_or_ge id top with z2 | z2
        · have := hno id b z z2 hb'; omega
        · exact .inr z2
    rw [q5 id this]; exact h3)
  exact ⟨u, D2, rfl, l1, l2, q3, q4, q5⟩

/-! What a callee reads of the caller's own. -/
def allF (P : Program) (w : World) (C : Ctx) (H : Nat → Option Blk) (b : Nat) : Prop := C.Fz b ∨ (∃ id L k, C.φ id = some L ∧ H id = some k ∧ k.st ≤ 1 ∧ L.b = b) ∨ TW P w C H b
theorem allF_old {P : Program} {w : World} {C : Ctx} {H : Nat → Option Blk} (r : RelT P w C H) {b : Nat} (h : allF P w C H b) : b < w.heap.size := by
  rcases h with h | ⟨id, L, k, h1, h2, h3, h4⟩ | h
  · exact r.h.old b h
  · rw [← h4]; exact live_old r.h h1 h2 h3
  · exact (tw_off r h).2.2
theorem closedV1_rep {P : Program} {w : World} {C : Ctx} {H : Nat → Option Blk} (r : RelT P w C H) {x y : AV} {l : List Nat} {v : Value} (h : closed1 P (viewF H) x = some (y, l)) (rx : Rep w C x v) : Rep w ⟨fun _ => none, allF P w C H⟩ y v := by
  have st : Step w C.bare w ⟨fun _ => none, allF P w C H⟩ := ⟨(by intro _ _ q; cases q), fun _ q => .inl q, fun _ _ => rfl⟩
  cases x <;> simp only [closed1, reduceCtorEq, Option.some.injEq, Prod.mk.injEq] at h
  case int k n => rw [← h.1]; exact rx
  case bool b => rw [← h.1]; exact rx
  case str s => rw [← h.1]; exact rx
  case nils => rw [← h.1]; obtain ⟨_, rfl⟩ := rx; exact ⟨none, 0, rfl, Nat.le_refl _, .inl ⟨rfl, rfl⟩⟩
  case arr k ns => rw [← h.1]; exact rx
  case fs n cs =>
    rw [← h.1]
    obtain ⟨a, cap, e1, e2, e3⟩ := rx
    refine ⟨a, cap, e1, e2, e3.imp (fun q => q) ?_⟩
    rintro ⟨b, o, f1, f2, f3⟩
    exact ⟨b, o, f1, .inl f2, repAt_step' st _ _ _ rfl f3⟩
  case own id off n =>
    cases hv : viewF H id with
    | none => rw [hv] at h; simp at h
    | some kv =>
      rw [hv] at h
      simp only at h
      cases h1 : Nat.ble kv.st 1 <;> cases h2 : kv.arr <;> rw [h1, h2] at h <;> simp only [reduceCtorEq, Option.some.injEq, Prod.mk.injEq] at h
      obtain ⟨rfl, _⟩ := h
      have hs1 := Nat.le_of_ble_eq_true h1
      obtain ⟨a, cap, rfl, hn, rx⟩ := rx
      refine ⟨a, cap, rfl, hn, ?_⟩
      rcases rx with ⟨rfl, _⟩ | ⟨L, q1, q2, q3, q4⟩
      · exact .inl ⟨rfl, by simp [cutC, mulN]⟩
      · unfold viewF at hv
        cases hk : H id with
        | none => rw [hk] at hv; simp at hv
        | some k =>
          rw [hk] at hv
          simp only at hv
          cases h3 : Nat.beq k.st 3 with
          | true =>
            rw [h3] at hv
            simp only [Option.some.injEq] at hv
            subst hv
            obtain ⟨T, ok, _⟩ := r.t.ok id L k q1 hk (by rw [nbeq_eq h3]; omega)
            have ok' := ok
            obtain ⟨z1, z2, z3⟩ := ok
            obtain ⟨_, vs, y3, y4, y5, y6, y7⟩ := z3.resolve_right fun q => by have := q.1; have := nbeq_eq h3; omega
            have hr : RepAt w ⟨fun _ => none, allF P w C H⟩ L.b L.d k.cells := repAt_of_repL (trv_rep (fun _ => none) (allF P w C H) _ _ _ (fun b hb => .inr (.inr ⟨id, L, k, T, q1, hk, ok', by simp [hb]⟩)) y7) y6
            exact .inr ⟨L.b, L.d + off, q2, .inr (.inr ⟨id, L, k, T, q1, hk, ok', by simp⟩), repAt_cut hr _ _⟩
          | false =>
            rw [h3] at hv
            simp only [Option.some.injEq] at hv
            subst hv
            obtain ⟨k2, z, ok⟩ := r.h.blk id L q1
            rw [hk] at z; cases z
            rcases ok with ok | ⟨e0, cells, el, fr, e1, e2, e3, e4, e5, e6, ea, e7, e8⟩
            · omega
            exact .inr ⟨L.b, L.d + off, q2, .inr (.inl ⟨id, L, k, q1, hk, hs1, rfl⟩), repAt_cut (repAt_step' st _ _ _ rfl (ea h2)) _ _⟩
theorem closedVAll_rep {P : Program} {w : World} {C : Ctx} {H : Nat → Option Blk} (r : RelT P w C H) : ∀ {xs ys : List AV} {l : List Nat} {vs : List Value}, closedAll P (viewF H) xs = some (ys, l) → RepL w C xs vs → RepL w ⟨fun _ => none, allF P w C H⟩ ys vs
  | [], ys, l, vs, h, rx => by
    simp only [closedAll, Option.some.injEq, Prod.mk.injEq] at h
    obtain ⟨rfl, _⟩ := h
    exact rx
  | x :: xs, ys, l, vs, h, rx => by
    simp only [closedAll] at h
    cases h1 : closed1 P (viewF H) x with
    | none => rw [h1] at h; simp at h
    | some p =>
      cases h2 : closedAll P (viewF H) xs with
      | none => rw [h1, h2] at h; simp at h
      | some q =>
        obtain ⟨y, i⟩ := p
        obtain ⟨zs, j⟩ := q
        rw [h1, h2] at h
        simp only [Option.some.injEq, Prod.mk.injEq] at h
        obtain ⟨rfl, _⟩ := h
        obtain ⟨v, us, rfl, r1, r2⟩ := rx
        exact ⟨v, us, rfl, closedV1_rep r h1 r1, closedVAll_rep r h2 r2⟩
theorem closedVArgs_rep {P : Program} {w : World} {C : Ctx} {H : Nat → Option Blk} (r : RelT P w C H) : ∀ {xs as : List AV} {fz : List Nat} {vs : List Value}, closedArgs P (viewF H) xs = some (as, fz, []) → RepL w C xs vs → (∀ b, takeArgs b as = (as, [])) ∧ RepL w ⟨fun _ => none, allF P w C H⟩ as vs
  | [], as, fz, vs, h, rx => by
    simp only [closedArgs, Option.some.injEq, Prod.mk.injEq] at h
    obtain ⟨rfl, _⟩ := h
    exact ⟨fun _ => rfl, rx⟩
  | x :: xs, as, fz, vs, h, rx => by
    simp only [closedArgs] at h
    cases h1 : closedArg P (viewF H) x with
    | none => rw [h1] at h; simp at h
    | some q1 =>
      cases h2 : closedArgs P (viewF H) xs with
      | none => rw [h1, h2] at h; simp at h
      | some q2 =>
        obtain ⟨y, i, q⟩ := q1
        obtain ⟨bs, j, q'⟩ := q2
        rw [h1, h2] at h
        simp only [Option.some.injEq, Prod.mk.injEq, List.append_eq_nil_iff] at h
        obtain ⟨rfl, _, rfl, rfl⟩ := h
        obtain ⟨v, us, rfl, r1, r2⟩ := rx
        obtain ⟨a1, a2⟩ := closedVArgs_rep r h2 r2
        rcases closedArg_cases h1 with ⟨_, hc⟩ | ⟨id, k, ys, _, hq, _⟩
        · have hnr : ∀ a e cs, y ≠ .ref a e cs := by
            rcases hc with hc | ⟨_, ys, _, rfl, _⟩
            · exact closed1_noref hc
            · intro a e cs q; cases q
          have hnt : ∀ bs, y ≠ .tup bs := by
            rcases hc with hc | ⟨_, ys, _, rfl, _⟩
            · exact closed1_notup hc
            · intro bs q; cases q
          refine ⟨fun b => by rw [takeArgs_plain hnr hnt, a1 b], v, us, rfl, ?_, a2⟩
          rcases hc with hc | ⟨xs2, ys, rfl, rfl, hc⟩
          · exact closedV1_rep r hc r1
          · obtain ⟨vl, rfl, rl⟩ := r1
            exact ⟨vl, rfl, closedVAll_rep r hc rl⟩
        · cases hq
end Go.Proofs.YtlcnpecejhcnfaaDoor.EV
