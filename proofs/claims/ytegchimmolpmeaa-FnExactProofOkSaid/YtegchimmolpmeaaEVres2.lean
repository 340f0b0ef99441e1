/- What a call hands back, whole. No conditions. -/
import Derived.Test.YtegchimmolpmeaaEVres
namespace Go.Proofs.Ytegchimmolpmeaa.EV
set_option linter.unusedVariables false
set_option linter.unusedSimpArgs false
open Go Go.RowKit

theorem upds_append {α : Type} (f : Nat → Option α) : ∀ (a b : List (Nat × α)), upds f (a ++ b) = upds (upds f a) b
  | [], _ => rfl
  | (d, v) :: r, b => upds_append (upd f d (some v)) r b
theorem distinct_nodup : ∀ {l : List Nat}, distinct l = true → l.Nodup
  | [], _ => List.nodup_nil
  | x :: r, h => by
    simp only [distinct, Bool.and_eq_true, Bool.not_eq_true', List.contains_eq_mem, decide_eq_false_iff_not] at h
    exact List.nodup_cons.2 ⟨h.1, distinct_nodup h.2⟩

theorem take1_le (fresh : Bool) (b : Nat) (s : Sc) (e : TypeId) (o : AV) : b ≤ (take1 fresh b s e o).2.2 := by
  unfold take1
  split
  · exact Nat.le_succ b
  · exact Nat.le_refl b
theorem takeIn_le (fresh : Bool) : ∀ (ss : List Sc) (es : List TypeId) (os : List AV) (b : Nat), b ≤ (takeIn fresh b ss es os).2.2
  | [], _, _, b => Nat.le_refl b
  | s :: ss, es, os, b => Nat.le_trans (take1_le fresh b s (es.headD 0) (hdV os)) (takeIn_le fresh ss es.tail (tlV os) _)
theorem takeVal_le (fresh : Bool) (P : Program) (b : Nat) (t : TypeId) (o : AV) : b ≤ (takeVal fresh P b t o).2.2 := by
  unfold takeVal
  split
  · exact takeIn_le fresh _ _ _ b
  · exact take1_le fresh b _ _ o
theorem takeVals_le (fresh : Bool) (P : Program) : ∀ (ts : List TypeId) (os : List AV) (b : Nat), b ≤ (takeVals fresh P b ts os).2.2
  | [], _, b => Nat.le_refl b
  | t :: ts, os, b => Nat.le_trans (takeVal_le fresh P b t (hdV os)) (takeVals_le fresh P ts (tlV os) _)

theorem takeIn_ok {P : Program} {w : World} {C' : Ctx} {H' : Nat → Option Blk} (hC : RelH P w C' H') {low top : Nat} {R : Nat} (hlow : ∀ id L k, C'.φ id = some L → H' id = some k → k.st = 0 → k.arr = true → R ≤ id → low ≤ L.b) {Z : List Nat} (hZs : ∀ j, j ∈ Z → ∃ k, H' j = some k ∧ k.st ≤ 1) {fresh : Bool} (Fz0 : Nat → Prop) : ∀ (ss : List Sc) (es : List TypeId) (vs os : List AV) (ids : List Nat) (us : List Value) (b : Nat) (D : Ctx) (G : Nat → Option Blk) (T : List Nat), outCells P H' fresh es vs = some (os, ids) → okAll ss os = true → ss.length = os.length →
    RepL w C' vs us → (∀ id, id ∈ ids → id ∈ Z) → D.Fz = Fz0 → ((∃ s ∈ ss, isSl s = true) → Fz0 = (C'.ice Z).Fz) → (fresh = true → (vs.flatMap own1).Nodup ∧ ∀ id, id ∈ vs.flatMap own1 → id ∉ T ∧ id ∉ Z ∧ R ≤ id) → Acc P w C' H' low top D G T b → (takeIn fresh b ss es os).2.2 ≤ top →
    ∃ D2, Acc P w C' H' low top D2 (upds G (takeIn fresh b ss es os).2.1) (T ++ vs.flatMap own1) (takeIn fresh b ss es os).2.2 ∧ More w low top b D G D2 (upds G (takeIn fresh b ss es os).2.1) ∧ RepL w D2 (takeIn fresh b ss es os).1 us ∧ b ≤ (takeIn fresh b ss es os).2.2
  | [], es, vs, os, ids, us, b, D, G, T, h, _, hl, r, _, _, _, _, acc, _ => by
    have : os = [] := by cases os with | nil => rfl | cons _ _ => simp at hl
    subst this
    cases vs with
    | nil =>
      cases r
      exact ⟨D, by rw [show T ++ ([] : List AV).flatMap own1 = T from by simp]; exact acc, More.refl _ _ _ _ _ _, rfl, Nat.le_refl _⟩
    | cons v r =>
      simp only [outCells] at h
      split at h <;> simp at h
  | s :: ss, es, vs, os, ids, us, b, D, G, T, h, ok, hl, r, hZ, hD, hF, hT, acc, htop => by
    cases vs with
    | nil =>
      simp only [outCells, Option.some.injEq, Prod.mk.injEq] at h
      rw [← h.1] at hl; simp at hl
    | cons v vr =>
      simp only [outCells] at h
      cases h1 : out1 P H' fresh (es.headD 0) v with
      | none => rw [h1] at h; simp at h
      | some p =>
        cases h2 : outCells P H' fresh es.tail vr with
        | none => rw [h1, h2] at h; simp at h
        | some q =>
          obtain ⟨o, i⟩ := p
          obtain ⟨os', j⟩ := q
          rw [h1, h2] at h
          simp only [Option.some.injEq, Prod.mk.injEq] at h
          obtain ⟨rfl, rfl⟩ := h
          obtain ⟨u, ur, rfl, r1, r2⟩ := r
          simp only [okAll, List.headD_cons, List.tail_cons, Bool.and_eq_true] at ok
          have hT1 : fresh = true → ∀ id, id ∈ own1 v → id ∉ T ∧ id ∉ Z ∧ R ≤ id := fun q id hid => (hT q).2 id (by simp [hid])
          obtain ⟨D1, a1, m1, rr1, le1⟩ := take1_ok hC hlow acc (s := s) (fun q => by rw [hD]; exact hF ⟨s, by simp, q⟩) h1 (fun id hid => hZ id (by simp [hid])) ok.1 r1 hT1 hZs (Nat.le_trans (takeIn_le fresh ss es.tail os' _) htop)
          have hT2 : fresh = true → (vr.flatMap own1).Nodup ∧ ∀ id, id ∈ vr.flatMap own1 → id ∉ (T ++ own1 v) ∧ id ∉ Z ∧ R ≤ id := fun q => by
            obtain ⟨n1, n2⟩ := hT q
            rw [List.flatMap_cons, List.nodup_append] at n1
            refine ⟨n1.2.1, fun id hid => ⟨fun hm => ?_, (n2 id (by rw [List.flatMap_cons]; exact List.mem_append_right _ hid)).2⟩⟩
            rcases List.mem_append.1 hm with hm | hm
            · exact (n2 id (by rw [List.flatMap_cons]; exact List.mem_append_right _ hid)).1 hm
            · exact n1.2.2 id hm id hid rfl
          obtain ⟨D2, a2, m2, rr2, le2⟩ := takeIn_ok hC hlow hZs Fz0 ss es.tail vr os' j ur _ D1 _ (T ++ own1 v) h2 ok.2 (by simpa using hl) r2 (fun id hid => hZ id (by simp [hid])) (m1.fz.trans hD) (fun ⟨s', hs', q⟩ => hF ⟨s', by simp [hs'], q⟩) hT2 a1 htop
          have e1 : upds G (takeIn fresh b (s :: ss) es (o :: os')).2.1 = upds (upds G (take1 fresh b s (es.headD 0) o).2.1) (takeIn fresh (take1 fresh b s (es.headD 0) o).2.2 ss es.tail os').2.1 := upds_append G _ _
          refine ⟨D2, ?_, ?_, ⟨u, ur, rfl, rep_step m2.step _ _ rr1, rr2⟩, Nat.le_trans le1 le2⟩
          · rw [e1, List.flatMap_cons, ← List.append_assoc]; exact a2
          · rw [e1]; exact m1.trans le1 m2

theorem takeVal_ok {P : Program} {w : World} {C' : Ctx} {H' : Nat → Option Blk} (hC : RelH P w C' H') {low top : Nat} {R : Nat} (hlow : ∀ id L k, C'.φ id = some L → H' id = some k → k.st = 0 → k.arr = true → R ≤ id → low ≤ L.b) {Z : List Nat} (hZs : ∀ j, j ∈ Z → ∃ k, H' j = some k ∧ k.st ≤ 1) {fresh : Bool} (Fz0 : Nat → Prop) (t : TypeId) {v o : AV} {ids : List Nat} {u : Value} {b : Nat} {D : Ctx} {G : Nat → Option Blk} {T : List Nat} (h : resultVal P H' fresh t v = some (o, ids))
    (ok : okRes1 P t o = true) (r : Rep w C' v u) (hZ : ∀ id, id ∈ ids → id ∈ Z) (hD : D.Fz = Fz0)
    (hF : (∃ s ∈ flat P 8 t, isSl s = true) → Fz0 = (C'.ice Z).Fz) (hT : fresh = true → (v.parts1.flatMap own1).Nodup ∧ ∀ id, id ∈ v.parts1.flatMap own1 → id ∉ T ∧ id ∉ Z ∧ R ≤ id) (acc : Acc P w C' H' low top D G T b) (htop : (takeVal fresh P b t o).2.2 ≤ top) :
    ∃ D2, Acc P w C' H' low top D2 (upds G (takeVal fresh P b t o).2.1) (T ++ v.parts1.flatMap own1) (takeVal fresh P b t o).2.2 ∧ More w low top b D G D2 (upds G (takeVal fresh P b t o).2.1) ∧ Rep w D2 (takeVal fresh P b t o).1 u ∧ b ≤ (takeVal fresh P b t o).2.2 := by
  unfold resultVal at h
  unfold okRes1 at ok
  unfold takeVal at htop ⊢
  cases hb : isAggT P t with
  | true =>
    rw [hb] at h ok htop
    simp only at h ok htop
    cases v <;> simp only [reduceCtorEq] at h
    rename_i xs
    cases hc : outCells P H' fresh (elemsOf P 8 t) xs with
    | none => rw [hc] at h; simp at h
    | some q =>
      obtain ⟨ys, i⟩ := q
      rw [hc] at h
      simp only [Option.some.injEq, Prod.mk.injEq] at h
      obtain ⟨rfl, rfl⟩ := h
      simp only [Bool.and_eq_true] at ok
      obtain ⟨vs, rfl, rl⟩ := r
      obtain ⟨D2, a, m, rr, le⟩ := takeIn_ok hC hlow hZs Fz0 (flat P 8 t) (elemsOf P 8 t) xs ys i vs b D G T hc ok.2 (nbeq_eq ok.1).symm rl hZ hD hF hT acc htop
      exact ⟨D2, a, m, ⟨vs, rfl, rr⟩, le⟩
  | false =>
    rw [hb] at h ok htop
    simp only at h ok htop
    have hp : v.parts1.flatMap own1 = own1 v := by
      cases v <;> first | (simp [AV.parts1, own1]; done) | skip
      exfalso
      unfold out1 at h
      cases fresh <;> simp [closed1] at h
    rw [hp] at hT ⊢
    have hF' : isSl ((flat P 8 t).headD .bad) = true → Fz0 = (C'.ice Z).Fz := fun q => hF (by
      cases hf : flat P 8 t with
      | nil => rw [hf] at q; simp [isSl] at q
      | cons s ss => rw [hf] at q; exact ⟨s, by simp, q⟩)
    exact take1_ok hC hlow acc (fun q => by rw [hD]; exact hF' q) h hZ ok r (fun q id hid => (hT q).2 id hid) hZs htop

theorem takeVals_ok {P : Program} {w : World} {C' : Ctx} {H' : Nat → Option Blk} (hC : RelH P w C' H') {low top : Nat} {R : Nat} (hlow : ∀ id L k, C'.φ id = some L → H' id = some k → k.st = 0 → k.arr = true → R ≤ id → low ≤ L.b) {Z : List Nat} (hZs : ∀ j, j ∈ Z → ∃ k, H' j = some k ∧ k.st ≤ 1) {fresh : Bool} (Fz0 : Nat → Prop) : ∀ (ts : List TypeId) (vs os : List AV) (ids : List Nat) (us : List Value) (b : Nat) (D : Ctx) (G : Nat → Option Blk) (T : List Nat), handOut P H' fresh ts vs = some (os, ids) → okRes P ts os = true →
    RepL w C' vs us → (∀ id, id ∈ ids → id ∈ Z) → D.Fz = Fz0 → ((∃ t ∈ ts, ∃ s ∈ flat P 8 t, isSl s = true) → Fz0 = (C'.ice Z).Fz) → (fresh = true → (ownIds vs).Nodup ∧ ∀ id, id ∈ ownIds vs → id ∉ T ∧ id ∉ Z ∧ R ≤ id) → Acc P w C' H' low top D G T b → (takeVals fresh P b ts os).2.2 ≤ top →
    ∃ D2, Acc P w C' H' low top D2 (upds G (takeVals fresh P b ts os).2.1) (T ++ ownIds vs) (takeVals fresh P b ts os).2.2 ∧ More w low top b D G D2 (upds G (takeVals fresh P b ts os).2.1) ∧ RepL w D2 (takeVals fresh P b ts os).1 us ∧ b ≤ (takeVals fresh P b ts os).2.2
  | [], vs, os, ids, us, b, D, G, T, h, ok, r, _, _, _, _, acc, _ => by
    cases vs with
    | cons v vr => simp [handOut] at h
    | nil =>
      simp only [handOut, Option.some.injEq, Prod.mk.injEq] at h
      obtain ⟨rfl, rfl⟩ := h
      cases r
      exact ⟨D, by rw [show T ++ ownIds [] = T from by simp [ownIds]]; exact acc, More.refl _ _ _ _ _ _, rfl, Nat.le_refl _⟩
  | t :: ts, vs, os, ids, us, b, D, G, T, h, ok, r, hZ, hD, hF, hT, acc, htop => by
    cases vs with
    | nil => simp [handOut] at h
    | cons v vr =>
      simp only [handOut] at h
      cases h1 : resultVal P H' fresh t v with
      | none => rw [h1] at h; simp at h
      | some p =>
        cases h2 : handOut P H' fresh ts vr with
        | none => rw [h1, h2] at h; simp at h
        | some q =>
          obtain ⟨o, i⟩ := p
          obtain ⟨os', j⟩ := q
          rw [h1, h2] at h
          simp only [Option.some.injEq, Prod.mk.injEq] at h
          obtain ⟨rfl, rfl⟩ := h
          obtain ⟨u, ur, rfl, r1, r2⟩ := r
          simp only [okRes, Bool.and_eq_true] at ok
          have e0 : ownIds (v :: vr) = v.parts1.flatMap own1 ++ ownIds vr := by simp [ownIds]
          have hT1 : fresh = true → (v.parts1.flatMap own1).Nodup ∧ ∀ id, id ∈ v.parts1.flatMap own1 → id ∉ T ∧ id ∉ Z ∧ R ≤ id := fun q => by
            obtain ⟨n1, n2⟩ := hT q
            rw [e0, List.nodup_append] at n1
            exact ⟨n1.1, fun id hid => n2 id (by rw [e0]; exact List.mem_append_left _ hid)⟩
          obtain ⟨D1, a1, m1, rr1, le1⟩ := takeVal_ok hC hlow hZs Fz0 t h1 ok.1 r1 (fun id hid => hZ id (by simp [hid])) hD (fun ⟨s, hs, q⟩ => hF ⟨t, by simp, s, hs, q⟩) hT1 acc (Nat.le_trans (takeVals_le fresh P ts os' _) htop)
          have hT2 : fresh = true → (ownIds vr).Nodup ∧ ∀ id, id ∈ ownIds vr → id ∉ (T ++ v.parts1.flatMap own1) ∧ id ∉ Z ∧ R ≤ id := fun q => by
            obtain ⟨n1, n2⟩ := hT q
            rw [e0, List.nodup_append] at n1
            refine ⟨n1.2.1, fun id hid => ⟨fun hm => ?_, (n2 id (by rw [e0]; exact List.mem_append_right _ hid)).2⟩⟩
            rcases List.mem_append.1 hm with hm | hm
            · exact (n2 id (by rw [e0]; exact List.mem_append_right _ hid)).1 hm
            · exact n1.2.2 id hm id hid rfl
          obtain ⟨D2, a2, m2, rr2, le2⟩ := takeVals_ok hC hlow hZs Fz0 ts vr os' j ur _ D1 _ _ h2 ok.2 r2 (fun id hid => hZ id (by simp [hid])) (m1.fz.trans hD) (fun ⟨t', ht', q⟩ => hF ⟨t', by simp [ht'], q⟩) hT2 a1 htop
          have e1 : upds G (takeVals fresh P b (t :: ts) (o :: os')).2.1 = upds (upds G (takeVal fresh P b t o).2.1) (takeVals fresh P (takeVal fresh P b t o).2.2 ts os').2.1 := upds_append G _ _
          refine ⟨D2, ?_, ?_, ⟨u, ur, rfl, rep_step m2.step _ _ rr1, rr2⟩, Nat.le_trans le1 le2⟩
          · rw [e1, e0, ← List.append_assoc]; exact a2
          · rw [e1]; exact m1.trans le1 m2
end Go.Proofs.Ytegchimmolpmeaa.EV
