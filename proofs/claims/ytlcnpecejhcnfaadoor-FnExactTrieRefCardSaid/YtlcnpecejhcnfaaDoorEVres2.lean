/- What a call hands back, whole. No conditions. -/
import Derived.Test.YtlcnpecejhcnfaaDoorEVres
namespace Go.Proofs.YtlcnpecejhcnfaaDoor.EV
set_option linter.unusedVariables false
set_option linter.unusedSimpArgs false
open Go Go.RowKit

theorem upds_append {α : Type} (f : Nat → Option α) : ∀ (a b : List (Nat × α)), upds f (a ++ b) = upds (upds f a) b
  | [], _ => rfl
  | (d, v) :: r, b => upds_append (upd f d (some v)) r b
theorem distinct_nodup : ∀ {l : List Nat}, distinct l = true → l.Nodup
  | [], _ => List.nodup_nil
  | x :: r, h => by
    simp only [distinct, Bool.and_eq_true, Bool.not_eq_true', List.contains_eq_mem, decide_eq_false_iff_not] at h
    exact List.nodup_cons.2 ⟨h.1, distinct_nodup h.2⟩

theorem take1_le (fresh : Bool) (b : Nat) (s : Sc) (e : TypeId) (o : AV) : b ≤ (take1 fresh b s e o).2.2 := by
  unfold take1
  split
  · exact Nat.le_succ b
  · exact Nat.le_refl b
theorem takeIn_le (fresh : Bool) : ∀ (ss : List Sc) (es : List TypeId) (os : List AV) (b : Nat), b ≤ (takeIn fresh b ss es os).2.2
  | [], _, _, b => Nat.le_refl b
  | s :: ss, es, os, b => Nat.le_trans (take1_le fresh b s (es.headD 0) (hdV os)) (takeIn_le fresh ss es.tail (tlV os) _)
theorem takeV_le (fresh : Bool) (b : Nat) (s : Sc) (e : TypeId) (o : AV) : b ≤ (takeV fresh b s e o).2.2 := by
  unfold takeV
  split
  · exact Nat.le_succ b
  · exact take1_le fresh b _ _ o
theorem takeV_np {fresh : Bool} {b : Nat} {s : Sc} {e : TypeId} {o : AV} (h : ∀ e zs, s ≠ .pt e zs) : takeV fresh b s e o = take1 fresh b s e o := by
  unfold takeV
  split
  · exact absurd rfl (h _ _)
  · rfl
theorem takeVal_le (fresh : Bool) (P : Program) (b : Nat) (t : TypeId) (o : AV) : b ≤ (takeVal fresh P b t o).2.2 := by
  unfold takeVal
  split
  · exact Nat.le_refl _
  split
  · exact takeIn_le fresh _ _ _ b
  · exact takeV_le fresh b _ _ o
theorem takeVals_le (fresh : Bool) (P : Program) : ∀ (ts : List TypeId) (os : List AV) (b : Nat), b ≤ (takeVals fresh P b ts os).2.2
  | [], _, b => Nat.le_refl b
  | t :: ts, os, b => Nat.le_trans (takeVal_le fresh P b t (hdV os)) (takeVals_le fresh P ts (tlV os) _)

theorem castAll_len : ∀ (ss : List Sc) (vs : List AV), (castAll ss vs).length = ss.length
  | [], _ => rfl
  | s :: ss, vs => by simp [castAll, castAll_len ss vs.tail]
theorem castAll_at {w : World} {C : Ctx} {b : Nat} : ∀ {ss : List Sc} {xs : List AV} {o : Nat}, ss.length = xs.length → okAll ss xs = true → RepAt w C b o xs → RepAt w C b o (castAll ss xs)
  | [], [], _, _, _, _ => trivial
  | [], _ :: _, _, h, _, _ => by simp at h
  | _ :: _, [], _, h, _, _ => by simp at h
  | s :: ss, x :: xs, o, hl, ok, r => by
    simp only [okAll, List.headD_cons, List.tail_cons, Bool.and_eq_true] at ok
    obtain ⟨⟨v, e1, eo, e2⟩, e3⟩ := r
    exact ⟨⟨v, e1, eo, cast_rep ok.1 e2⟩, castAll_at (by simpa using hl) ok.2 e3⟩
theorem takeIn_ok {P : Program} {w : World} {C' : Ctx} {H' : Nat → Option Blk} (hC : RelH P w C' H') {low top : Nat} {R : Nat} (hlow : ∀ id L k, C'.φ id = some L → H' id = some k → k.st = 0 → R ≤ id → low ≤ L.b) {Z : List Nat} (hZs : ∀ j, j ∈ Z → ∃ k, H' j = some k ∧ k.st ≤ 1) {fresh : Bool} (Fz0 : Nat → Prop) : ∀ (ss : List Sc) (es : List TypeId) (vs os : List AV) (ids : List Nat) (us : List Value) (b : Nat) (D : Ctx) (G : Nat → Option Blk) (T : List Nat), outCells P H' fresh es vs = some (os, ids) → okAll ss os = true → ss.length = os.length →
    RepL w C' vs us → (∀ id, id ∈ ids → id ∈ Z) → D.Fz = Fz0 → ((∃ s ∈ ss, isSl s = true) → (∀ x, Fz0 x → (C'.ice Z).Fz x) ∧ ((fresh = true ∧ os.all plainV = true) ∨ ∀ x, (C'.ice Z).Fz x → Fz0 x)) → (fresh = true → (vs.flatMap own1).Nodup ∧ ∀ id, id ∈ vs.flatMap own1 → id ∉ T ∧ id ∉ Z ∧ R ≤ id) → Acc P w C' H' low top D G T b → (takeIn fresh b ss es os).2.2 ≤ top →
    ∃ D2, Acc P w C' H' low top D2 (upds G (takeIn fresh b ss es os).2.1) (T ++ vs.flatMap own1) (takeIn fresh b ss es os).2.2 ∧ More w low top b D G D2 (upds G (takeIn fresh b ss es os).2.1) ∧ RepL w D2 (takeIn fresh b ss es os).1 us ∧ b ≤ (takeIn fresh b ss es os).2.2
  | [], es, vs, os, ids, us, b, D, G, T, h, _, hl, r, _, _, _, _, acc, _ => by
    have : os = [] := by cases os with | nil => rfl | cons _ _ => simp at hl
    subst this
    cases vs with
    | nil =>
      cases r
      exact ⟨D, by rw [show T ++ ([] : List AV).flatMap own1 = T from by simp]; exact acc, More.refl _ _ _ _ _ _, rfl, Nat.le_refl _⟩
    | cons v r =>
      simp only [outCells] at h
      split at h <;> simp at h
  | s :: ss, es, vs, os, ids, us, b, D, G, T, h, ok, hl, r, hZ, hD, hF, hT, acc, htop => by
    cases vs with
    | nil =>
      simp only [outCells, Option.some.injEq, Prod.mk.injEq] at h
      rw [← h.1] at hl; simp at hl
    | cons v vr =>
      simp only [outCells] at h
      cases h1 : out1 P H' fresh (es.headD 0) v with
      | none => rw [h1] at h; simp at h
      | some p =>
        cases h2 : outCells P H' fresh es.tail vr with
        | none => rw [h1, h2] at h; simp at h
        | some q =>
          obtain ⟨o, i⟩ := p
          obtain ⟨os', j⟩ := q
          rw [h1, h2] at h
          simp only [Option.some.injEq, Prod.mk.injEq] at h
          obtain ⟨rfl, rfl⟩ := h
          obtain ⟨u, ur, rfl, r1, r2⟩ := r
          simp only [okAll, List.headD_cons, List.tail_cons, Bool.and_eq_true] at ok
          have hT1 : fresh = true → ∀ id, id ∈ own1 v → id ∉ T ∧ id ∉ Z ∧ R ≤ id := fun q id hid => (hT q).2 id (by simp [hid])
          obtain ⟨D1, a1, m1, rr1, le1⟩ := take1_ok hC hlow acc (s := s) (fun q => by rw [hD]; obtain ⟨f1, f2⟩ := hF ⟨s, by simp, q⟩; exact ⟨f1, f2.imp (fun z => ⟨z.1, by have := z.2; rw [List.all_cons, Bool.and_eq_true] at this; exact this.1⟩) (fun z => z)⟩) h1 (fun id hid => hZ id (by simp [hid])) ok.1 r1 hT1 hZs (Nat.le_trans (takeIn_le fresh ss es.tail os' _) htop)
          have hT2 : fresh = true → (vr.flatMap own1).Nodup ∧ ∀ id, id ∈ vr.flatMap own1 → id ∉ (T ++ own1 v) ∧ id ∉ Z ∧ R ≤ id := fun q => by
            obtain ⟨n1, n2⟩ := hT q
            rw [List.flatMap_cons, List.nodup_append] at n1
            refine ⟨n1.2.1, fun id hid => ⟨fun hm => ?_, (n2 id (by rw [List.flatMap_cons]; exact List.mem_append_right _ hid)).2⟩⟩
            rcases List.mem_append.1 hm with hm | hm
            · exact (n2 id (by rw [List.flatMap_cons]; exact List.mem_append_right _ hid)).1 hm
            · exact n1.2.2 id hm id hid rfl
          obtain ⟨D2, a2, m2, rr2, le2⟩ := takeIn_ok hC hlow hZs Fz0 ss es.tail vr os' j ur _ D1 _ (T ++ own1 v) h2 ok.2 (by simpa using hl) r2 (fun id hid => hZ id (by simp [hid])) (m1.fz.trans hD) (fun ⟨s', hs', q⟩ => by obtain ⟨f1, f2⟩ := hF ⟨s', by simp [hs'], q⟩; exact ⟨f1, f2.imp (fun z => ⟨z.1, by have := z.2; rw [List.all_cons, Bool.and_eq_true] at this; exact this.2⟩) (fun z => z)⟩) hT2 a1 htop
          have e1 : upds G (takeIn fresh b (s :: ss) es (o :: os')).2.1 = upds (upds G (take1 fresh b s (es.headD 0) o).2.1) (takeIn fresh (take1 fresh b s (es.headD 0) o).2.2 ss es.tail os').2.1 := upds_append G _ _
          refine ⟨D2, ?_, ?_, ⟨u, ur, rfl, rep_step m2.step _ _ rr1, rr2⟩, Nat.le_trans le1 le2⟩
          · rw [e1, List.flatMap_cons, ← List.append_assoc]; exact a2
          · rw [e1]; exact m1.trans le1 m2

theorem closed1_arr {P : Program} {H : Nat → Option Blk} {v : AV} {k : IntKind} {ns : List Int} {ids : List Nat} (h : closed1 P H v = some (.arr k ns, ids)) : v = .arr k ns := by
  cases v <;> simp only [closed1, reduceCtorEq, Option.some.injEq, Prod.mk.injEq, false_and] at h
  case own id off n =>
    cases hk : H id with
    | none => rw [hk] at h; simp at h
    | some b =>
      rw [hk] at h
      simp only at h
      split at h <;> simp at h
  case arr => exact h.1
theorem takeVal_ok {P : Program} {w : World} {C' : Ctx} {H' : Nat → Option Blk} (hC : RelH P w C' H') {low top : Nat} {R : Nat} (hlow : ∀ id L k, C'.φ id = some L → H' id = some k → k.st = 0 → R ≤ id → low ≤ L.b) {Z : List Nat} (hZs : ∀ j, j ∈ Z → ∃ k, H' j = some k ∧ k.st ≤ 1) {fresh : Bool} (Fz0 : Nat → Prop) (t : TypeId) {v o : AV} {ids : List Nat} {u : Value} {b : Nat} {D : Ctx} {G : Nat → Option Blk} {T : List Nat} (h : resultVal P H' fresh t v = some (o, ids))
    (ok : okRes1 P t o = true) (r : Rep w C' v u) (hZ : ∀ id, id ∈ ids → id ∈ Z) (hD : D.Fz = Fz0)
    (hF : (∃ s ∈ flat P 8 t, isSl s = true) → (∀ x, Fz0 x → (C'.ice Z).Fz x) ∧ ((fresh = true ∧ o.parts1.all plainV = true) ∨ ∀ x, (C'.ice Z).Fz x → Fz0 x)) (hT : fresh = true → (v.parts1.flatMap own1).Nodup ∧ ∀ id, id ∈ v.parts1.flatMap own1 → id ∉ T ∧ id ∉ Z ∧ R ≤ id) (acc : Acc P w C' H' low top D G T b) (htop : (takeVal fresh P b t o).2.2 ≤ top) :
    ∃ D2, Acc P w C' H' low top D2 (upds G (takeVal fresh P b t o).2.1) (T ++ v.parts1.flatMap own1) (takeVal fresh P b t o).2.2 ∧ More w low top b D G D2 (upds G (takeVal fresh P b t o).2.1) ∧ Rep w D2 (takeVal fresh P b t o).1 u ∧ b ≤ (takeVal fresh P b t o).2.2 := by
  unfold resultVal at h
  unfold okRes1 at ok
  unfold takeVal at htop ⊢
  cases hbig : bigA P t with
  | some p =>
    obtain ⟨k, n⟩ := p
    rw [hbig] at h ok htop
    simp only at h ok htop
    cases o <;> simp only [Bool.false_eq_true] at ok
    rename_i k' ns
    have := of_decide_eq_true ok
    subst this
    have hv := closed1_arr h
    subst hv
    have weak : T ++ (AV.arr k' ns).parts1.flatMap own1 = T := by simp [AV.parts1, own1]
    rw [weak]
    exact ⟨D, acc, More.refl _ _ _ _ _ _, r, Nat.le_refl _⟩
  | none =>
  rw [hbig] at h ok htop
  simp only at h ok htop ⊢
  cases hb : isAggT P t with
  | true =>
    rw [hb] at h ok htop
    simp only at h ok htop
    cases v <;> simp only [reduceCtorEq] at h
    rename_i xs
    cases hc : outCells P H' fresh (elemsOf P 8 t) xs with
    | none => rw [hc] at h; simp at h
    | some q =>
      obtain ⟨ys, i⟩ := q
      rw [hc] at h
      simp only [Option.some.injEq, Prod.mk.injEq] at h
      obtain ⟨rfl, rfl⟩ := h
      simp only [Bool.and_eq_true] at ok
      obtain ⟨vs, rfl, rl⟩ := r
      obtain ⟨D2, a, m, rr, le⟩ := takeIn_ok hC hlow hZs Fz0 (flat P 8 t) (elemsOf P 8 t) xs ys i vs b D G T hc ok.2 (nbeq_eq ok.1).symm rl hZ hD hF hT acc htop
      exact ⟨D2, a, m, ⟨vs, rfl, rr⟩, le⟩
  | false =>
    rw [hb] at h ok htop
    simp only at h ok htop
    by_cases hpt : fresh = true ∧ ∃ id off, v = .ptr id off
    · obtain ⟨rfl, id, off, rfl⟩ := hpt
      simp only at h
      unfold outPt at h
      cases hk : H' id with
      | none => rw [hk] at h; simp at h
      | some k =>
      rw [hk] at h
      split at h
      · rename_i b0 e zs hb0 hfl
        cases hb0
        rw [hfl] at htop ⊢
        cases h1 : (Nat.beq k.st 0 && Nat.beq off 0 && Nat.beq k.elem e) with
        | false => rw [h1] at h; simp at h
        | true =>
        cases h2 : k.arr with
        | true => rw [h1, h2] at h; simp at h
        | false =>
        cases h3 : closedAll P H' k.cells with
        | none => rw [h1, h2, h3] at h; simp at h
        | some q =>
        obtain ⟨ys, i⟩ := q
        rw [h1, h2, h3] at h
        simp only at h
        cases h4 : (Nat.beq ys.length zs.length && okAll zs ys) with
        | false => rw [h4] at h; simp at h
        | true =>
        rw [h4] at h
        simp only [Option.some.injEq, Prod.mk.injEq] at h
        obtain ⟨rfl, rfl⟩ := h
        rw [Bool.and_eq_true] at h4
        rw [Bool.and_eq_true, Bool.and_eq_true] at h1
        have hs0 := nbeq_eq h1.1.1
        have hof := nbeq_eq h1.1.2
        subst hof
        obtain ⟨f1, f2⟩ := hF ⟨.pt e zs, by rw [hfl]; simp, rfl⟩
        have f3 : ∀ x, (C'.ice Z).Fz x → Fz0 x := by
          rcases f2 with ⟨_, z⟩ | z
          · simp [AV.parts1, plainV, plain1] at z
          · exact z
        obtain ⟨hnT, hnZ, hR⟩ := (hT rfl).2 id (by simp [AV.parts1, own1])
        obtain ⟨L, q1, rfl⟩ := r
        obtain ⟨k2, q5, okk⟩ := hC.blk id L q1
        rw [hk] at q5; cases q5
        rcases okk with okk | ⟨e0, cells, el, fr, e1, e2, e3, e4, e5, e6, ea, e7, e8⟩
        · omega
        obtain ⟨c1, c2⟩ := closedRow hC Z e6 h3 hZ
        have hll := nbeq_eq h4.1
        have hlb : low ≤ L.b := hlow id L k q1 hk hs0 hR
        show ∃ D2, Acc P w C' H' low top D2 (upds G [(b, ⟨false, e, 0, castAll zs ys⟩)]) (T ++ [id]) (b + 1) ∧ More w low top b D G D2 (upds G [(b, ⟨false, e, 0, castAll zs ys⟩)]) ∧ Rep w D2 (.ptr b 0) _ ∧ b ≤ b + 1
        have hbt : b < top := htop
        have hbD : D.φ b = none := acc.fresh b (Nat.le_refl _) hbt
        have hap : ∀ j M k3, j ≠ b → D.φ j = some M → G j = some k3 → k3.st ≤ 1 → M.b ≠ L.b := by
          intro j M k3 _ z1 z2 z3 z4
          rcases acc.sep j M k3 z1 z2 z3 with q | ⟨i', hi, L2, k', y1, y2, y3, y4⟩
          · omega
          · have hne : id ≠ i' := fun q => hnT (q ▸ hi)
            exact hC.apart id i' L L2 k k' q1 y1 hk y2 hs0 (by omega) hne (by rw [y4, z4])
        have hfz : ¬ D.Fz L.b := by
          rw [hD]
          intro q0
          rcases f1 _ q0 with q | ⟨j, M, hj, y1, y2⟩
          · exact e7 hs0 q
          · have hne : id ≠ j := fun q => hnZ (q ▸ hj)
            obtain ⟨k3, y3, ok3⟩ := hC.blk j M y1
            rcases ok3 with ok3 | ⟨z0, _⟩
            · obtain ⟨k4, y5, y6⟩ := hZs j hj
              rw [y3] at y5; cases y5; omega
            · exact hC.apart id j L M k k3 q1 y1 hk y3 hs0 z0 hne y2.symm
        have hcl : (castAll zs ys).length = k.cells.length := by rw [castAll_len, ← hll, c2]
        have mk : RepAt w D.bare L.b L.d (castAll zs ys) :=
          castAll_at hll.symm h4.2 (repAt_step' (C := (C'.ice Z).bare) (C' := D.bare) ⟨(by intro _ _ q; cases q), (fun x q => by show D.Fz x; rw [hD]; exact f3 x q), fun _ _ => rfl⟩ _ _ _ rfl c1)
        obtain ⟨r1, r2⟩ := rel_put acc.mem b L ⟨false, e, 0, castAll zs ys⟩ (.inl hbD)
          (.inr ⟨by simp, cells, el, fr, e1, e2, e3, ⟨fun q => by simp at q, e4.2.1.trans (nbeq_eq h1.2), fun _ => by have := e4.2.2 h2; rw [nbeq_eq h1.2] at this; exact this⟩, ⟨by rw [e5.1]; exact hcl.symm, by show L.d + (castAll zs ys).length ≤ L.top; rw [hcl]; exact e5.2⟩,
            repAt_step' (Step.of_bare w ⟨upd D.φ b (some L), D.Fz⟩) _ _ _ rfl mk, fun _ => mk, fun _ => hfz, fun q => by simp at q⟩) hap
        refine ⟨⟨upd D.φ b (some L), D.Fz⟩, ⟨r1, fun j hj hjt => ?_, fun j M k3 z1 z2 z3 => ?_⟩, ⟨r2, rfl, fun x q => ?_, fun x q => ?_, fun j hj => upd_other _ _ (by omega)⟩, ⟨_, upd_same _ _ _, rfl⟩, Nat.le_succ b⟩
        · show upd D.φ b _ j = none
          rw [upd_other _ _ (by omega)]; exact acc.fresh j (by omega) hjt
        · by_cases hj : j = b
          · subst hj
            change upd D.φ j _ j = _ at z1
            rw [upd_same] at z1; cases z1
            exact .inr ⟨id, by simp, L, k, q1, hk, hs0, rfl⟩
          · change upd D.φ b _ j = _ at z1
            change upd G b _ j = _ at z2
            rw [upd_other _ _ hj] at z1 z2
            rcases acc.sep j M k3 z1 z2 z3 with q | ⟨i', hi, q⟩
            · exact .inl q
            · exact .inr ⟨i', by simp [hi], q⟩
        · obtain ⟨j, M, k3, z1, z2, z3, z4⟩ := q
          by_cases hj : j = b
          · subst hj
            change upd D.φ j _ j = _ at z1
            rw [upd_same] at z1; cases z1
            exact .inr (by rw [← z4]; exact hlb)
          · change upd D.φ b _ j = _ at z1
            change upd G b _ j = _ at z2
            rw [upd_other _ _ hj] at z1 z2
            exact .inl ⟨j, M, k3, z1, z2, z3, z4⟩
        · obtain ⟨j, M, k3, z1, z2, z3, za, z4⟩ := q
          by_cases hj : j = b
          · subst hj
            change upd D.φ j _ j = _ at z1
            rw [upd_same] at z1; cases z1
            exact .inr (by rw [← z4]; exact hlb)
          · change upd D.φ b _ j = _ at z1
            change upd G b _ j = _ at z2
            rw [upd_other _ _ hj] at z1 z2
            exact .inl ⟨j, M, k3, z1, z2, z3, za, z4⟩
      · simp at h
    have ho : out1 P H' fresh ((elemsOf P 8 t).headD 0) v = some (o, ids) := by
      cases fresh with
      | false => exact h
      | true => cases v <;> first | exact h | exact absurd ⟨rfl, _, _, rfl⟩ hpt
    have hnref : ∀ a e ys, o ≠ .ref a e ys := by
      intro a e ys q
      subst q
      unfold out1 at ho
      have hc : ∀ {v l}, closed1 P H' v ≠ some (.ref a e ys, l) := by
        intro v l q
        cases v <;> simp [closed1] at q
        rename_i id off n
        cases hk : H' id with
        | none => rw [hk] at q; simp at q
        | some k =>
          rw [hk] at q
          simp only at q
          split at q <;> simp at q
      cases fresh with
      | false => exact hc ho
      | true =>
        simp only at ho
        split at ho
        · simp at ho
        · split at ho
          · split at ho <;> simp at ho
          · simp at ho
        · exact hc ho
    have hok : ok1 ((flat P 8 t).headD .bad) o = true := by
      revert ok
      generalize (flat P 8 t).headD .bad = s
      intro ok
      split at ok
      · exact absurd rfl (hnref _ _ _)
      · exact ok
    have hnpt : ∀ e zs, (flat P 8 t).headD .bad ≠ .pt e zs := by
      intro e zs q
      rw [q] at hok
      simp [ok1] at hok
    rw [takeV_np hnpt] at htop ⊢
    have hpo : o.parts1 = [o] := by
      cases o <;> first | rfl | skip
      generalize (flat P 8 t).headD .bad = s at hok
      cases s <;> simp [ok1] at hok
    have hp : v.parts1.flatMap own1 = own1 v := by
      cases v <;> first | (simp [AV.parts1, own1]; done) | skip
      exfalso
      unfold out1 at ho
      cases fresh <;> simp [closed1] at ho
    rw [hp] at hT ⊢
    have hF' := fun (q : isSl ((flat P 8 t).headD .bad) = true) => hF (by
      cases hf : flat P 8 t with
      | nil => rw [hf] at q; simp [isSl] at q
      | cons s ss => rw [hf] at q; exact ⟨s, by simp, q⟩)
    exact take1_ok hC hlow acc (fun q => by
      rw [hD]
      obtain ⟨f1, f2⟩ := hF' q
      refine ⟨f1, f2.imp (fun z => ⟨z.1, ?_⟩) (fun z => z)⟩
      have := z.2
      rw [hpo] at this
      simpa using this) ho hZ hok r (fun q id hid => (hT q).2 id hid) hZs htop

theorem takeVals_ok {P : Program} {w : World} {C' : Ctx} {H' : Nat → Option Blk} (hC : RelH P w C' H') {low top : Nat} {R : Nat} (hlow : ∀ id L k, C'.φ id = some L → H' id = some k → k.st = 0 → R ≤ id → low ≤ L.b) {Z : List Nat} (hZs : ∀ j, j ∈ Z → ∃ k, H' j = some k ∧ k.st ≤ 1) {fresh : Bool} (Fz0 : Nat → Prop) : ∀ (ts : List TypeId) (vs os : List AV) (ids : List Nat) (us : List Value) (b : Nat) (D : Ctx) (G : Nat → Option Blk) (T : List Nat), handOut P H' fresh ts vs = some (os, ids) → okRes P ts os = true →
    RepL w C' vs us → (∀ id, id ∈ ids → id ∈ Z) → D.Fz = Fz0 → ((∃ t ∈ ts, ∃ s ∈ flat P 8 t, isSl s = true) → (∀ x, Fz0 x → (C'.ice Z).Fz x) ∧ ((fresh = true ∧ (os.all fun v => v.parts1.all plainV) = true) ∨ ∀ x, (C'.ice Z).Fz x → Fz0 x)) → (fresh = true → (ownIds vs).Nodup ∧ ∀ id, id ∈ ownIds vs → id ∉ T ∧ id ∉ Z ∧ R ≤ id) → Acc P w C' H' low top D G T b → (takeVals fresh P b ts os).2.2 ≤ top →
    ∃ D2, Acc P w C' H' low top D2 (upds G (takeVals fresh P b ts os).2.1) (T ++ ownIds vs) (takeVals fresh P b ts os).2.2 ∧ More w low top b D G D2 (upds G (takeVals fresh P b ts os).2.1) ∧ RepL w D2 (takeVals fresh P b ts os).1 us ∧ b ≤ (takeVals fresh P b ts os).2.2
  | [], vs, os, ids, us, b, D, G, T, h, ok, r, _, _, _, _, acc, _ => by
    cases vs with
    | cons v vr => simp [handOut] at h
    | nil =>
      simp only [handOut, Option.some.injEq, Prod.mk.injEq] at h
      obtain ⟨rfl, rfl⟩ := h
      cases r
      exact ⟨D, by rw [show T ++ ownIds [] = T from by simp [ownIds]]; exact acc, More.refl _ _ _ _ _ _, rfl, Nat.le_refl _⟩
  | t :: ts, vs, os, ids, us, b, D, G, T, h, ok, r, hZ, hD, hF, hT, acc, htop => by
    cases vs with
    | nil => simp [handOut] at h
    | cons v vr =>
      simp only [handOut] at h
      cases h1 : resultVal P H' fresh t v with
      | none => rw [h1] at h; simp at h
      | some p =>
        cases h2 : handOut P H' fresh ts vr with
        | none => rw [h1, h2] at h; simp at h
        | some q =>
          obtain ⟨o, i⟩ := p
          obtain ⟨os', j⟩ := q
          rw [h1, h2] at h
          simp only [Option.some.injEq, Prod.mk.injEq] at h
          obtain ⟨rfl, rfl⟩ := h
          obtain ⟨u, ur, rfl, r1, r2⟩ := r
          simp only [okRes, Bool.and_eq_true] at ok
          have e0 : ownIds (v :: vr) = v.parts1.flatMap own1 ++ ownIds vr := by simp [ownIds]
          have hT1 : fresh = true → (v.parts1.flatMap own1).Nodup ∧ ∀ id, id ∈ v.parts1.flatMap own1 → id ∉ T ∧ id ∉ Z ∧ R ≤ id := fun q => by
            obtain ⟨n1, n2⟩ := hT q
            rw [e0, List.nodup_append] at n1
            exact ⟨n1.1, fun id hid => n2 id (by rw [e0]; exact List.mem_append_left _ hid)⟩
          obtain ⟨D1, a1, m1, rr1, le1⟩ := takeVal_ok hC hlow hZs Fz0 t h1 ok.1 r1 (fun id hid => hZ id (by simp [hid])) hD (fun ⟨s, hs, q⟩ => by obtain ⟨f1, f2⟩ := hF ⟨t, by simp, s, hs, q⟩; exact ⟨f1, f2.imp (fun z => ⟨z.1, by have := z.2; rw [List.all_cons, Bool.and_eq_true] at this; exact this.1⟩) (fun z => z)⟩) hT1 acc (Nat.le_trans (takeVals_le fresh P ts os' _) htop)
          have hT2 : fresh = true → (ownIds vr).Nodup ∧ ∀ id, id ∈ ownIds vr → id ∉ (T ++ v.parts1.flatMap own1) ∧ id ∉ Z ∧ R ≤ id := fun q => by
            obtain ⟨n1, n2⟩ := hT q
            rw [e0, List.nodup_append] at n1
            refine ⟨n1.2.1, fun id hid => ⟨fun hm => ?_, (n2 id (by rw [e0]; exact List.mem_append_right _ hid)).2⟩⟩
            rcases List.mem_append.1 hm with hm | hm
            · exact (n2 id (by rw [e0]; exact List.mem_append_right _ hid)).1 hm
            · exact n1.2.2 id hm id hid rfl
          obtain ⟨D2, a2, m2, rr2, le2⟩ := takeVals_ok hC hlow hZs Fz0 ts vr os' j ur _ D1 _ _ h2 ok.2 r2 (fun id hid => hZ id (by simp [hid])) (m1.fz.trans hD) (fun ⟨t', ht', q⟩ => by obtain ⟨f1, f2⟩ := hF ⟨t', by simp [ht'], q⟩; exact ⟨f1, f2.imp (fun z => ⟨z.1, by have := z.2; rw [List.all_cons, Bool.and_eq_true] at this; exact this.2⟩) (fun z => z)⟩) hT2 a1 htop
          have e1 : upds G (takeVals fresh P b (t :: ts) (o :: os')).2.1 = upds (upds G (takeVal fresh P b t o).2.1) (takeVals fresh P (takeVal fresh P b t o).2.2 ts os').2.1 := upds_append G _ _
          refine ⟨D2, ?_, ?_, ⟨u, ur, rfl, rep_step m2.step _ _ rr1, rr2⟩, Nat.le_trans le1 le2⟩
          · rw [e1, e0, ← List.append_assoc]; exact a2
          · rw [e1]; exact m1.trans le1 m2
end Go.Proofs.YtlcnpecejhcnfaaDoor.EV
