/- What a call hands back. No conditions. -/
import Derived.Test.YtlcnpecejhcnfaaDoorEVc
namespace Go.Proofs.YtlcnpecejhcnfaaDoor.EV
set_option linter.unusedVariables false
set_option linter.unusedSimpArgs false
open Go Go.RowKit

/-- The caller's memory while it takes what came back: its blocks are its elder ones, or were the callee's. -/
structure Acc (P : Program) (w : World) (C' : Ctx) (H' : Nat → Option Blk) (low top : Nat) (D : Ctx) (G : Nat → Option Blk) (T : List Nat) (b : Nat) : Prop where
  mem : RelH P w D G
  fresh : ∀ id, b ≤ id → id < top → D.φ id = none
  sep : ∀ j M k, D.φ j = some M → G j = some k → k.st ≤ 1 → M.b < low ∨ ∃ i, i ∈ T ∧ ∃ L k', C'.φ i = some L ∧ H' i = some k' ∧ k'.st = 0 ∧ L.b = M.b

structure More (w : World) (low top b : Nat) (D : Ctx) (G : Nat → Option Blk) (D2 : Ctx) (G2 : Nat → Option Blk) : Prop where
  step : Step w D w D2
  fz : D2.Fz = D.Fz
  rw : ∀ x, RW D2 G2 x → RW D G x ∨ low ≤ x
  rwa : ∀ x, RWa D2 G2 x → RWa D G x ∨ low ≤ x
  lo : ∀ id, (id < b ∨ top ≤ id) → D2.φ id = D.φ id
theorem More.refl (w : World) (low top b : Nat) (D : Ctx) (G : Nat → Option Blk) : More w low top b D G D G := ⟨Step.refl _ _, rfl, fun _ h => .inl h, fun _ h => .inl h, fun _ _ => rfl⟩
theorem More.trans {w : World} {low top b b' : Nat} {D D2 D3 : Ctx} {G G2 G3 : Nat → Option Blk} (h : More w low top b D G D2 G2) (le : b ≤ b') (k : More w low top b' D2 G2 D3 G3) : More w low top b D G D3 G3 :=
  ⟨h.step.trans k.step, k.fz.trans h.fz, fun x q => (k.rw x q).elim (h.rw x) .inr, fun x q => (k.rwa x q).elim (h.rwa x) .inr, fun id q => (k.lo id (q.imp (fun z => Nat.lt_of_lt_of_le z le) (fun z => z))).trans (h.lo id q)⟩

theorem ok1_sl {o : AV} (h : ok1 .sl o = true) : o = .nils ∨ ∃ n cs, o = .fs n cs := by
  cases o <;> simp only [ok1, Bool.false_eq_true] at h
  · exact .inl rfl
  · exact .inr ⟨_, _, rfl⟩
theorem out1_scalar {P : Program} {H : Nat → Option Blk} {fresh : Bool} {e : TypeId} {v o : AV} {ids : List Nat} {s : Sc} (h : out1 P H fresh e v = some (o, ids)) (hs : isSl s = false) (ok : ok1 s o = true) : v = o := by
  have hc : closed1 P H v = some (o, ids) ∨ (∃ n cs, o = .fs n cs) := by
    unfold out1 at h
    cases fresh with
    | false => exact .inl h
    | true =>
      simp only at h
      split at h
      · simp at h
      · split at h
        · split at h
          · simp only [Option.some.injEq, Prod.mk.injEq] at h
            exact .inr ⟨_, _, h.1.symm⟩
          · simp at h
        · simp at h
      · exact .inl h
  have hno : ∀ n cs, o ≠ .fs n cs := by
    intro n cs q
    subst q
    cases s <;> simp [ok1, isSl] at ok hs
  rcases hc with hc | ⟨n, cs, q⟩
  · cases v <;> simp only [closed1, reduceCtorEq, Option.some.injEq, Prod.mk.injEq] at hc
    case own id off n =>
      cases hk : H id with
      | none => rw [hk] at hc; simp at hc
      | some k =>
        rw [hk] at hc
        simp only at hc
        split at hc
        · simp only [Option.some.injEq, Prod.mk.injEq] at hc
          exact absurd hc.1.symm (hno _ _)
        · simp at hc
    case nils => exact absurd hc.1.symm (hno _ _)
    all_goals exact hc.1
  · exact absurd q (hno n cs)

theorem repAt_plain {w : World} {C C2 : Ctx} {b : Nat} : ∀ {cs : List AV} {o : Nat}, cs.all plain1 = true → RepAt w C b o cs → RepAt w C2 b o cs
  | [], _, _, _ => trivial
  | x :: xs, o, h, e => by
    rw [List.all_cons, Bool.and_eq_true] at h
    obtain ⟨⟨v, e1, e2, e3⟩, e4⟩ := e
    refine ⟨⟨v, e1, e2, ?_⟩, repAt_plain h.2 e4⟩
    cases x <;> first | exact e3 | (simp [plain1] at h)
theorem take1_ok {P : Program} {w : World} {C' : Ctx} {H' : Nat → Option Blk} (hC : RelH P w C' H') {low top : Nat} {R : Nat} (hlow : ∀ id L k, C'.φ id = some L → H' id = some k → k.st = 0 → R ≤ id → low ≤ L.b) {Z : List Nat} {D : Ctx} {G : Nat → Option Blk} {T : List Nat} {b : Nat} (acc : Acc P w C' H' low top D G T b)
    {s : Sc} {fresh : Bool} {e : TypeId} {v o : AV} (hF : isSl s = true → (∀ x, D.Fz x → (C'.ice Z).Fz x) ∧ ((fresh = true ∧ plainV o = true) ∨ ∀ x, (C'.ice Z).Fz x → D.Fz x)) {ids : List Nat} (ho : out1 P H' fresh e v = some (o, ids)) (hZ : ∀ id, id ∈ ids → id ∈ Z) (ok : ok1 s o = true) {u : Value} (r : Rep w C' v u)
    (hT : fresh = true → ∀ id, id ∈ own1 v → id ∉ T ∧ id ∉ Z ∧ R ≤ id) (hZs : ∀ j, j ∈ Z → ∃ k, H' j = some k ∧ k.st ≤ 1) (htop : (take1 fresh b s e o).2.2 ≤ top) :
    ∃ D2, Acc P w C' H' low top D2 (upds G (take1 fresh b s e o).2.1) (T ++ own1 v) (take1 fresh b s e o).2.2 ∧ More w low top b D G D2 (upds G (take1 fresh b s e o).2.1) ∧ Rep w D2 (take1 fresh b s e o).1 u ∧ b ≤ (take1 fresh b s e o).2.2 := by
  have weak : Acc P w C' H' low top D G (T ++ own1 v) b := ⟨acc.mem, acc.fresh, fun j M k q1 q2 q3 => by
    rcases acc.sep j M k q1 q2 q3 with q | ⟨i, hi, q⟩
    · exact .inl q
    · exact .inr ⟨i, by simp [hi], q⟩⟩
  cases hs : isSl s with
  | false =>
    have ht : take1 fresh b s e o = (cast1 s o, [], b) := by cases s <;> first | rfl | (simp [isSl] at hs)
    rw [ht]
    have hv := out1_scalar ho hs ok
    subst hv
    refine ⟨D, weak, More.refl _ _ _ _ _ _, cast_rep ok ?_, Nat.le_refl _⟩
    cases s <;> cases v <;> simp only [ok1, Bool.false_eq_true] at ok <;> first | exact r | (simp [isSl] at hs)
  | true =>
    have hsl : s = .sl ∨ ∃ t ss, s = .pt t ss := by cases s <;> first | exact .inl rfl | exact .inr ⟨_, _, rfl⟩ | (simp [isSl] at hs)
    rcases hsl with hsl | ⟨t, ss, rfl⟩
    case inr =>
      have ht : take1 fresh b (.pt t ss) e o = (.any, [], b) := rfl
      rw [ht]
      exact ⟨D, weak, More.refl _ _ _ _ _ _, trivial, Nat.le_refl _⟩
    subst hsl
    have hFz := hF rfl
    cases fresh with
    | false =>
      have ht : take1 false b .sl e o = (cast1 .sl o, [], b) := rfl
      rw [ht]
      refine ⟨D, weak, More.refl _ _ _ _ _ _, cast_rep ok ?_, Nat.le_refl _⟩
      have rb := closed1_rep hC ho r Z hZ
      refine rep_step (C := (C'.ice Z).bare) ⟨(by intro _ _ q; cases q), (fun x q => hFz.2.elim (fun q' => nomatch q'.1) (fun q' => q' x q)), fun _ _ => rfl⟩ _ _ rb
    | true =>
      have ht : take1 true b .sl e o = (.own b 0 o.asLen, [(b, ⟨true, e, 0, o.asCells⟩)], b + 1) := rfl
      rw [ht] at htop ⊢
      have hbt : b < top := htop
      have hb : D.φ b = none := acc.fresh b (Nat.le_refl _) hbt
      have idle : (∃ a, u = .slice a 0 0) → o.asLen = 0 → ∃ D2, Acc P w C' H' low top D2 (upds G [(b, ⟨true, e, 0, o.asCells⟩)]) (T ++ own1 v) (b + 1) ∧ More w low top b D G D2 (upds G [(b, ⟨true, e, 0, o.asCells⟩)]) ∧ Rep w D2 (.own b 0 o.asLen) u ∧ b ≤ b + 1 := by
        rintro ⟨a, rfl⟩ h0
        obtain ⟨r1, r2⟩ := rel_idle acc.mem hb ⟨true, e, 0, o.asCells⟩
        have ne : ∀ id L, D.φ id = some L → id ≠ b := fun id L e q => by rw [q, hb] at e; cases e
        refine ⟨D, ⟨r1, fun id hid hit => acc.fresh id (by omega) hit, fun j M k q1 q2 q3 => ?_⟩, ⟨r2.step, rfl, fun x q => ?_, fun x q => ?_, fun _ _ => rfl⟩, ⟨a, 0, by rw [h0], by rw [h0]; exact Nat.le_refl _, .inl ⟨h0, rfl⟩⟩, by omega⟩
        · change upd G b _ j = _ at q2
          rw [upd_other _ _ (ne j M q1)] at q2
          exact weak.sep j M k q1 q2 q3
        · obtain ⟨j, M, k, e1, e2, e3⟩ := q
          change upd G b _ j = _ at e2
          rw [upd_other _ _ (ne j M e1)] at e2
          exact .inl ⟨j, M, k, e1, e2, e3⟩
        · obtain ⟨j, M, k, e1, e2, e3⟩ := q
          change upd G b _ j = _ at e2
          rw [upd_other _ _ (ne j M e1)] at e2
          exact .inl ⟨j, M, k, e1, e2, e3⟩
      unfold out1 at ho
      simp only at ho
      cases v <;> simp only [reduceCtorEq] at ho
      case nils =>
        simp only [closed1, Option.some.injEq, Prod.mk.injEq] at ho
        obtain ⟨rfl, rfl⟩ := ho
        obtain ⟨_, rfl⟩ := r
        exact idle ⟨none, rfl⟩ rfl
      case own id off len =>
        cases hk : H' id with
        | none => rw [hk] at ho; simp at ho
        | some k =>
          rw [hk] at ho
          simp only at ho
          cases h1 : (Nat.beq k.st 0 && (Nat.beq k.elem 0 || (Nat.beq k.elem e && okT P e))) <;> cases h2 : k.arr <;> rw [h1, h2] at ho <;> simp only [reduceCtorEq, Option.some.injEq, Prod.mk.injEq] at ho
          obtain ⟨rfl, rfl⟩ := ho
          rw [Bool.and_eq_true] at h1
          have hs0 := nbeq_eq h1.1
          obtain ⟨a, cap, rfl, hc, r⟩ := r
          rcases r with ⟨rfl, rfl⟩ | ⟨L, q1, rfl, q3, q4⟩
          · exact idle ⟨a, rfl⟩ rfl
          · obtain ⟨k2, q5, okk⟩ := hC.blk id L q1
            rw [hk] at q5; cases q5
            rcases okk with okk | ⟨e0, cells, el, fr, e1, e2, e3, e4, e5, e6, ea, e7, e8⟩
            · omega
            have hsz := e4.1 h2
            have hke : k.elem = e ∧ okT P e = true := by
              rcases Bool.or_eq_true _ _ ▸ h1.2 with g | g
              · exact absurd (nbeq_eq g) hsz.2
              · rw [Bool.and_eq_true] at g
                exact ⟨nbeq_eq g.1, g.2⟩
            have hse : L.s = szOf P e ∧ okT P e = true := ⟨by rw [hsz.1, hke.1], hke.2⟩
            obtain ⟨hnT, hnZ, hR⟩ := hT rfl id (by simp [own1])
            have hcl : (cutC k.cells off (mulN len (szOf P k.elem))).length = len * L.s := by
              unfold cutC mulN
              rw [List.length_take, List.length_drop, ← hsz.1]
              have := e5.1
              omega
            have hlb : low ≤ L.b := hlow id L k q1 hk hs0 hR
            have hap : ∀ j M k3, j ≠ b → D.φ j = some M → G j = some k3 → k3.st ≤ 1 → M.b ≠ L.b := by
              intro j M k3 _ z1 z2 z3 z4
              rcases acc.sep j M k3 z1 z2 z3 with q | ⟨i, hi, L2, k', y1, y2, y3, y4⟩
              · omega
              · have hne : id ≠ i := fun q => hnT (q ▸ hi)
                exact hC.apart id i L L2 k k' q1 y1 hk y2 hs0 (by omega) hne (by rw [y4, z4])
            have hfz : ¬ D.Fz L.b := by
              intro q0
              rcases hFz.1 _ q0 with q | ⟨j, M, hj, y1, y2⟩
              · exact e7 hs0 q
              · have hne : id ≠ j := fun q => hnZ (q ▸ hj)
                obtain ⟨k3, y3, ok3⟩ := hC.blk j M y1
                rcases ok3 with ok3 | ⟨z0, _⟩
                · obtain ⟨k4, y5, y6⟩ := hZs j hj
                  rw [y3] at y5; cases y5; omega
                · exact hC.apart id j L M k k3 q1 y1 hk y3 hs0 z0 hne y2.symm
            have mk : RepAt w D.bare L.b (L.d + off) (cutC k.cells off (mulN len (szOf P k.elem))) := by
              rcases hFz.2 with ⟨_, q'⟩ | q'
              · exact repAt_plain q' (repAt_cut (ea h2) off _)
              · exact repAt_step' (C := C'.bare) (C' := D.bare) ⟨(by intro _ _ q; cases q), (fun x q => q' x (.inl q)), fun _ _ => rfl⟩ _ _ _ rfl (repAt_cut (ea h2) off _)
            have hmul : len * L.s ≤ cap * L.s := Nat.mul_le_mul_right _ hc
            obtain ⟨r1, r2⟩ := rel_put acc.mem b ⟨L.b, L.d + off, L.s, L.top, len * L.s⟩ ⟨true, e, 0, cutC k.cells off (mulN len (szOf P k.elem))⟩ (.inl hb)
              (.inr ⟨by simp, cells, el, fr, e1, e2, e3, ⟨fun _ => ⟨hse.1, okT_ne hse.2⟩, e4.2.1.trans hke.1, fun q => by cases q⟩, ⟨hcl.symm, (Nat.le_trans (Nat.le_of_eq (by show L.d + off + (cutC k.cells off (mulN len (szOf P k.elem))).length = L.d + off + len * L.s; rw [hcl])) (by omega : L.d + off + len * L.s ≤ L.top))⟩,
                repAt_step' (Step.of_bare w ⟨upd D.φ b (some ⟨L.b, L.d + off, L.s, L.top, len * L.s⟩), D.Fz⟩) _ _ _ rfl mk, fun _ => mk, fun _ => hfz, fun q => by simp at q⟩) hap
            refine ⟨⟨upd D.φ b (some ⟨L.b, L.d + off, L.s, L.top, len * L.s⟩), D.Fz⟩, ⟨r1, fun j hj hjt => ?_, fun j M k3 z1 z2 z3 => ?_⟩, ⟨r2, rfl, fun x q => ?_, fun x q => ?_, fun j hj => upd_other _ _ (by omega)⟩, ⟨_, cap, rfl, hc, .inr ⟨_, upd_same _ _ _, rfl, ?_, ?_⟩⟩, Nat.le_succ b⟩
            · have hj' : b + 1 ≤ j := hj
              show upd D.φ b _ j = none
              rw [upd_other _ _ (by omega)]; exact acc.fresh j (by omega) hjt
            · by_cases hj : j = b
              · subst hj
                change upd D.φ j _ j = _ at z1
                rw [upd_same] at z1; cases z1
                exact .inr ⟨id, by simp [own1], L, k, q1, hk, hs0, rfl⟩
              · change upd D.φ b _ j = _ at z1
                change upd G b _ j = _ at z2
                rw [upd_other _ _ hj] at z1 z2
                exact weak.sep j M k3 z1 z2 z3
            · obtain ⟨j, M, k3, z1, z2, z3, z4⟩ := q
              by_cases hj : j = b
              · subst hj
                change upd D.φ j _ j = _ at z1
                rw [upd_same] at z1; cases z1
                exact .inr (by rw [← z4]; exact hlb)
              · change upd D.φ b _ j = _ at z1
                change upd G b _ j = _ at z2
                rw [upd_other _ _ hj] at z1 z2
                exact .inl ⟨j, M, k3, z1, z2, z3, z4⟩
            · obtain ⟨j, M, k3, z1, z2, z3, za, z4⟩ := q
              by_cases hj : j = b
              · subst hj
                change upd D.φ j _ j = _ at z1
                rw [upd_same] at z1; cases z1
                exact .inr (by rw [← z4]; exact hlb)
              · change upd D.φ b _ j = _ at z1
                change upd G b _ j = _ at z2
                rw [upd_other _ _ hj] at z1 z2
                exact .inl ⟨j, M, k3, z1, z2, z3, za, z4⟩
            · show L.d + off + 0 + cap * L.s ≤ L.top
              omega
            · show 0 + len * L.s ≤ len * L.s
              omega
      all_goals
        first
          | (simp [closed1] at ho; done)
          | (simp only [closed1, Option.some.injEq, Prod.mk.injEq] at ho; obtain ⟨rfl, rfl⟩ := ho; simp [ok1] at ok)
end Go.Proofs.YtlcnpecejhcnfaaDoor.EV
