/- A call's memory with trees in it. No conditions. -/
import Derived.Test.YtlcnpecejhcnfaaDoorEVtree
namespace Go.Proofs.YtlcnpecejhcnfaaDoor.EV
set_option linter.unusedVariables false
set_option linter.unusedSimpArgs false
open Go Go.RowKit

/-- The row of a tree that is in hand. -/
def Link (C : Ctx) (cid n : Nat) (v : Value) : Prop := (n = 0 ∧ ∃ a, v = .slice a 0 0) ∨ ∃ L' cap, C.φ cid = some L' ∧ v = .slice (some ⟨L'.b, L'.d, none⟩) n cap ∧ n ≤ cap ∧ 0 < cap ∧ L'.len = n * L'.s ∧ L'.d + cap * L'.s ≤ L'.top
def TRow (w : World) (L : Loc) (e : TypeId) (cs : List AV) : Prop := ∃ cells el fr, w.heap[L.b]? = some (.cells cells el fr) ∧ cells.size = L.top ∧ (∀ i, i < L.top → ¬ (fr.1 ≤ i ∧ i < fr.2)) ∧ (fr = (0, 0) ∨ (e = 0 ∧ cs.all plain1 = true))
def TBody (w : World) (L : Loc) (e : TypeId) (cs cs' : List AV) (vs : List Value) (T : List Nat) : Prop := L.len = cs.length ∧ L.d + L.len ≤ L.top ∧ TRow w L e cs ∧ CellsAt w L.b L.d vs ∧ TRV w cs' vs T
/-- A tree, and the rows below its first. -/
def TreeOk (P : Program) (w : World) (C : Ctx) (L : Loc) (k : Blk) (T : List Nat) : Prop :=
  k.arr = true ∧ (k.elem ≠ 0 → L.s = szOf P k.elem) ∧
  ((k.st = 3 ∧ ∃ vs, TBody w L k.elem k.cells k.cells vs T) ∨
   (k.st = 4 ∧ ∃ cs cid j n vs v, k.cells = [.tup cs, .own cid j n] ∧ (∃ x, cs[j]? = some x ∧ plain1 x = false) ∧ TBody w L k.elem cs (cs.set j .any) vs T ∧ vs[j]? = some v ∧ Link C cid n v))
theorem TBody.same {w w' : World} {L : Loc} {e : TypeId} {cs cs' : List AV} {vs : List Value} {T : List Nat} (h : Same w w' (L.b :: T)) (r : TBody w L e cs cs' vs T) : TBody w' L e cs cs' vs T := by
  obtain ⟨r1, r2, r3, r4, r5⟩ := r
  have hb : w'.heap[L.b]? = w.heap[L.b]? := h L.b (by simp)
  refine ⟨r1, r2, ?_, cellsAt_same hb r4, trv_same _ _ _ (h.mono fun b q => by simp [q]) r5⟩
  unfold TRow at r3 ⊢; rw [hb]; exact r3
theorem TBody.uniq {w : World} {L : Loc} {e e' : TypeId} {cs cs' ds ds' : List AV} {vs us : List Value} {T U : List Nat} (h : cs' = ds') (r : TBody w L e cs cs' vs T) (r' : TBody w L e' ds ds' us U) : T = U := by
  subst h
  obtain ⟨_, _, _, r4, r5⟩ := r
  obtain ⟨_, _, _, r4', r5'⟩ := r'
  have := cellsAt_uniq r4 r4' (by rw [trv_len r5, trv_len r5'])
  subst this
  exact trv_uniq _ _ _ _ r5 r5'
theorem Link.mono {C C' : Ctx} (h : ∀ id L, C.φ id = some L → C'.φ id = some L) {cid n : Nat} {v : Value} (l : Link C cid n v) : Link C' cid n v := by
  rcases l with l | ⟨L', cap, q1, q2⟩
  · exact .inl l
  · exact .inr ⟨L', cap, h _ _ q1, q2⟩
theorem TreeOk.same {P : Program} {w w' : World} {C C' : Ctx} {L : Loc} {k : Blk} {T : List Nat} (h : Same w w' (L.b :: T)) (hφ : ∀ id L, C.φ id = some L → C'.φ id = some L) (r : TreeOk P w C L k T) : TreeOk P w' C' L k T := by
  obtain ⟨r1, r2, r3⟩ := r
  refine ⟨r1, r2, ?_⟩
  rcases r3 with ⟨q1, vs, q2⟩ | ⟨q1, cs, cid, j, n, vs, v, q2, q3, q4, q5, q6⟩
  · exact .inl ⟨q1, vs, q2.same h⟩
  · exact .inr ⟨q1, cs, cid, j, n, vs, v, q2, q3, q4.same h, q5, q6.mono hφ⟩
theorem TreeOk.uniq {P : Program} {w : World} {C C' : Ctx} {L : Loc} {k : Blk} {T U : List Nat} (r : TreeOk P w C L k T) (r' : TreeOk P w C' L k U) : T = U := by
  obtain ⟨_, _, r3⟩ := r
  obtain ⟨_, _, r3'⟩ := r'
  rcases r3 with ⟨q1, vs, q2⟩ | ⟨q1, cs, cid, j, n, vs, v, q2, q3, q4, q5, q6⟩
  · rcases r3' with ⟨p1, us, p2⟩ | ⟨p1, _⟩
    · exact q2.uniq rfl p2
    · omega
  · rcases r3' with ⟨p1, _⟩ | ⟨p1, cs', cid', j', n', vs', v', p2, p3, p4, p5, p6⟩
    · omega
    · rw [q2] at p2
      simp only [List.cons.injEq, AV.tup.injEq, AV.own.injEq, and_true] at p2
      obtain ⟨rfl, rfl, rfl, rfl⟩ := p2
      exact q4.uniq rfl p4
theorem TreeOk.row {P : Program} {w : World} {C : Ctx} {L : Loc} {k : Blk} {T : List Nat} (r : TreeOk P w C L k T) : L.b < w.heap.size := by
  obtain ⟨_, _, r3⟩ := r
  have : ∀ {cs cs' vs}, TBody w L k.elem cs cs' vs T → L.b < w.heap.size := by
    intro cs cs' vs h
    obtain ⟨_, _, ⟨_, _, _, q, _⟩, _⟩ := h
    exact (Array.getElem?_eq_some_iff.1 q).1
  rcases r3 with ⟨_, vs, q2⟩ | ⟨_, cs, cid, j, n, vs, v, _, _, q4, _⟩
  · exact this q2
  · exact this q4
mutual
theorem tr_rows {w : World} : ∀ (x : AV) (v : Value) (T : List Nat), TR w x v T → ∀ b, b ∈ T → b < w.heap.size
  | .any, _, _, r, b, hb => by have r' : _ = _ := r; subst r'; simp at hb
  | .int _ _, _, _, r, b, hb => by have := r.2; subst this; simp at hb
  | .bool _, _, _, r, b, hb => by have := r.2; subst this; simp at hb
  | .str _, _, _, r, b, hb => by have := r.2; subst this; simp at hb
  | .fs n cs, v, T, r, b, hb => by
    obtain ⟨a, cap, e1, e2, e3⟩ := r
    rcases e3 with ⟨_, _, _, g4⟩ | ⟨b', o, s, vs, T', f1, f0, f2, f3, f4, f5, f6⟩
    · subst g4; simp at hb
    · subst f2
      rcases List.mem_cons.1 hb with rfl | hb
      · obtain ⟨_, _, _, q, _⟩ := f4
        exact (Array.getElem?_eq_some_iff.1 q).1
      · exact trv_rows cs vs T' f6 b hb
  | .nils, _, _, r, _, _ => r.elim
  | .nilp, _, _, r, _, _ => r.elim
  | .unk _ _, _, _, r, _, _ => r.elim
  | .own _ _ _, _, _, r, _, _ => r.elim
  | .agg _, _, _, r, _, _ => r.elim
  | .tup _, _, _, r, _, _ => r.elim
  | .ptr _ _, _, _, r, _, _ => r.elim
  | .fp _ _, _, _, r, _, _ => r.elim
  | .fn _, _, _, r, _, _ => r.elim
  | .ref _ _ _, _, _, r, _, _ => r.elim
  | .arr _ _, _, _, r, _, _ => r.elim
theorem trv_rows {w : World} : ∀ (xs : List AV) (vs : List Value) (T : List Nat), TRV w xs vs T → ∀ b, b ∈ T → b < w.heap.size
  | [], _, _, r, b, hb => by have := r.2; subst this; simp at hb
  | x :: xs, vs, T, r, b, hb => by
    obtain ⟨v, us, T1, T2, e1, e2, r1, r2⟩ := r
    subst e2
    rcases List.mem_append.1 hb with hb | hb
    · exact tr_rows x v T1 r1 b hb
    · exact trv_rows xs us T2 r2 b hb
end
theorem TreeOk.rows {P : Program} {w : World} {C : Ctx} {L : Loc} {k : Blk} {T : List Nat} (r : TreeOk P w C L k T) : ∀ b, b ∈ L.b :: T → b < w.heap.size := by
  intro b hb
  rcases List.mem_cons.1 hb with rfl | hb
  · exact r.row
  · obtain ⟨_, _, r3⟩ := r
    rcases r3 with ⟨_, vs, q2⟩ | ⟨_, cs, cid, j, n, vs, v, _, _, q4, _⟩
    · exact trv_rows _ _ _ q2.2.2.2.2 b hb
    · exact trv_rows _ _ _ q4.2.2.2.2 b hb

/-- The trees of a memory: each of its own, and off all else. -/
structure TreeH (P : Program) (w : World) (C : Ctx) (H : Nat → Option Blk) : Prop where
  ok : ∀ id L k, C.φ id = some L → H id = some k → 3 ≤ k.st → ∃ T, TreeOk P w C L k T ∧ (L.b :: T).Nodup ∧ ∀ b, b ∈ L.b :: T → ¬ C.Fz b
  off : ∀ id L k T, C.φ id = some L → H id = some k → TreeOk P w C L k T → ∀ b, b ∈ L.b :: T → ∀ id' L' k', id' ≠ id → C.φ id' = some L' → H id' = some k' → (k'.st ≤ 1 → L'.b ≠ b) ∧ ∀ T', TreeOk P w C L' k' T' → b ∉ L'.b :: T'
/-- A row of a tree. -/
def TW (P : Program) (w : World) (C : Ctx) (H : Nat → Option Blk) (b : Nat) : Prop := ∃ id L k T, C.φ id = some L ∧ H id = some k ∧ TreeOk P w C L k T ∧ b ∈ L.b :: T
theorem TreeOk.st {P : Program} {w : World} {C : Ctx} {L : Loc} {k : Blk} {T : List Nat} (r : TreeOk P w C L k T) : 3 ≤ k.st ∧ k.st ≤ 4 := by
  obtain ⟨_, _, r3⟩ := r
  rcases r3 with ⟨q, _⟩ | ⟨q, _⟩ <;> omega
structure RelT (P : Program) (w : World) (C : Ctx) (H : Nat → Option Blk) : Prop where
  h : RelH P w C H
  t : TreeH P w C H
/-- What a step leaves as it was. -/
structure KeptT (P : Program) (w : World) (C : Ctx) (H : Nat → Option Blk) (w' : World) (C' : Ctx) (H' : Nat → Option Blk) : Prop where
  step : Step w C w' C'
  os : w'.os = w.os
  tape : w'.tape = w.tape
  output : w'.output = w.output
  size : w.heap.size ≤ w'.heap.size
  blk : ∀ b, b < w.heap.size → ¬ RW C H b → ¬ TW P w C H b → w'.heap[b]? = w.heap[b]?
  rw : ∀ b, RW C' H' b ∨ TW P w' C' H' b → RW C H b ∨ TW P w C H b ∨ w.heap.size ≤ b
  rwa : ∀ b, RWa C' H' b ∨ TW P w' C' H' b → RWa C H b ∨ TW P w C H b ∨ w.heap.size ≤ b
  fz : ∀ b, C'.Fz b → C.Fz b ∨ RWa C H b ∨ TW P w C H b ∨ w.heap.size ≤ b
theorem KeptT.refl (P : Program) (w : World) (C : Ctx) (H : Nat → Option Blk) : KeptT P w C H w C H :=
  ⟨Step.refl _ _, rfl, rfl, rfl, Nat.le_refl _, fun _ _ _ _ => rfl, fun _ h => h.imp (fun x => x) .inl, fun _ h => h.imp (fun x => x) .inl, fun _ h => .inl h⟩
theorem KeptT.trans {P : Program} {w w1 w2 : World} {C C1 C2 : Ctx} {H H1 H2 : Nat → Option Blk} (h : KeptT P w C H w1 C1 H1) (k : KeptT P w1 C1 H1 w2 C2 H2) : KeptT P w C H w2 C2 H2 := by
  refine ⟨h.step.trans k.step, k.os.trans h.os, k.tape.trans h.tape, k.output.trans h.output, Nat.le_trans h.size k.size, fun b hb hn ht => ?_, fun b hb => ?_, fun b hb => ?_, fun b hb => ?_⟩
  · rw [← h.blk b hb hn ht]
    have no : ¬ (RW C H b ∨ TW P w C H b ∨ w.heap.size ≤ b) := by
      rintro (q | q | q)
      · exact hn q
      · exact ht q
      · omega
    exact k.blk b (Nat.lt_of_lt_of_le hb h.size) (fun q => no (h.rw b (.inl q))) (fun q => no (h.rw b (.inr q)))
  · rcases k.rw b hb with q | q | q
    · exact h.rw b (.inl q)
    · exact h.rw b (.inr q)
    · exact .inr (.inr (Nat.le_trans h.size q))
  · rcases k.rwa b hb with q | q | q
    · exact h.rwa b (.inl q)
    · exact h.rwa b (.inr q)
    · exact .inr (.inr (Nat.le_trans h.size q))
  · rcases k.fz b hb with q | q | q | q
    · exact h.fz b q
    · exact .inr (h.rwa b (.inl q))
    · exact .inr (h.rwa b (.inr q))
    · exact .inr (.inr (.inr (Nat.le_trans h.size q)))
theorem tw_off {P : Program} {w : World} {C : Ctx} {H : Nat → Option Blk} (r : RelT P w C H) {b : Nat} (h : TW P w C H b) : ¬ RW C H b ∧ ¬ C.Fz b ∧ b < w.heap.size := by
  obtain ⟨id, L, k, T, e, hk, ok, hb⟩ := h
  obtain ⟨T2, ok2, _, fz⟩ := r.t.ok id L k e hk ok.st.1
  have := ok.uniq ok2
  subst this
  refine ⟨?_, fz b hb, ok.rows b hb⟩
  rintro ⟨id', L', k', e', hk', hs, hb'⟩
  have hne : id' ≠ id := by
    rintro rfl
    rw [hk] at hk'; cases hk'
    have := ok.st; omega
  exact (r.t.off id L k T e hk ok b hb id' L' k' hne e' hk').1 (by omega) hb'
/-- A step that knows of no trees leaves them as they are. -/
theorem lift {P : Program} {w w' : World} {C C' : Ctx} {H H' : Nat → Option Blk} (r : RelT P w C H) (h' : RelH P w' C' H') (k : Kept w C H w' C' H')
    (e1 : ∀ id b, H' id = some b → 3 ≤ b.st → H id = some b) (n : ∀ id b, H' id = some b → 3 ≤ b.st → C.φ id = none → C'.φ id = none) : RelT P w' C' H' ∧ KeptT P w C H w' C' H' := by
  have stay : ∀ b, TW P w C H b → w'.heap[b]? = w.heap[b]? := fun b hb => by
    obtain ⟨q1, q2, q3⟩ := tw_off r hb
    exact k.blk b q3 q1
  have old : ∀ id L b T, C'.φ id = some L → H' id = some b → TreeOk P w' C' L b T → C.φ id = some L ∧ H id = some b ∧ TreeOk P w C L b T := by
    intro id L b T h1 h2 h3
    have hb := e1 id b h2 h3.st.1
    have hc : C.φ id = some L := by
      cases q : C.φ id with
      | none => rw [n id b h2 h3.st.1 q] at h1; cases h1
      | some M => rw [k.step.φ id M q] at h1; exact h1
    obtain ⟨T2, ok, _, _⟩ := r.t.ok id L b hc hb h3.st.1
    have ok' := ok.same (w' := w') (C' := C') (fun x hx => stay x ⟨id, L, b, T2, hc, hb, ok, hx⟩) k.step.φ
    have := ok'.uniq h3
    subst this
    exact ⟨hc, hb, ok⟩
  have tw' : ∀ b, TW P w' C' H' b → TW P w C H b := by
    rintro b ⟨id, L, kb, T, h1, h2, h3, h4⟩
    obtain ⟨q1, q2, q3⟩ := old id L kb T h1 h2 h3
    exact ⟨id, L, kb, T, q1, q2, q3, h4⟩
  have nfz : ∀ b, TW P w C H b → ¬ C'.Fz b := by
    intro b hb hf
    obtain ⟨q1, q2, q3⟩ := tw_off r hb
    rcases k.fz b hf with q | q | q
    · exact q2 q
    · exact q1 q.rw
    · omega
  refine ⟨⟨h', ⟨fun id L b h1 h2 h3 => ?_, fun id L b T h1 h2 h3 x hx id' L' b' ne h1' h2' => ?_⟩⟩, ⟨k.step, k.os, k.tape, k.output, k.size, fun b q1 q2 _ => k.blk b q1 q2, fun b q => ?_, fun b q => ?_, fun b q => ?_⟩⟩
  · have hb := e1 id b h2 h3
    have hc : C.φ id = some L := by
      cases q : C.φ id with
      | none => rw [n id b h2 h3 q] at h1; cases h1
      | some M => rw [k.step.φ id M q] at h1; exact h1
    obtain ⟨T, ok, nd, fz⟩ := r.t.ok id L b hc hb h3
    exact ⟨T, ok.same (fun x hx => stay x ⟨id, L, b, T, hc, hb, ok, hx⟩) k.step.φ, nd, fun x hx => nfz x ⟨id, L, b, T, hc, hb, ok, hx⟩⟩
  · obtain ⟨q1, q2, q3⟩ := old id L b T h1 h2 h3
    have htx : TW P w C H x := ⟨id, L, b, T, q1, q2, q3, hx⟩
    obtain ⟨nrw, nf, hsz⟩ := tw_off r htx
    refine ⟨fun hs => ?_, fun T' ok' => ?_⟩
    · intro hxe
      -- a live block of the new memory lies elsewhere
      obtain ⟨kb, z1, okb⟩ := h'.blk id' L' h1'
      rw [h2'] at z1; cases z1
      rcases okb with okb | ⟨e0, cells, el, fr, g1, g2, g3, g4, g5, g6, ga, g7, g8⟩
      · omega
      · by_cases hz : b'.st = 0
        · rcases k.rw L'.b ⟨id', L', b', h1', h2', hz, rfl⟩ with q | q
          · exact nrw (hxe ▸ q)
          · omega
        · exact nfz x htx (hxe ▸ g8 (by omega))
    · obtain ⟨p1, p2, p3⟩ := old id' L' b' T' h1' h2' ok'
      exact (r.t.off id L b T q1 q2 q3 x hx id' L' b' ne p1 p2).2 T' p3
  · rcases q with q | q
    · rcases k.rw b q with q | q
      · exact .inl q
      · exact .inr (.inr q)
    · exact .inr (.inl (tw' b q))
  · rcases q with q | q
    · rcases k.rwa b q with q | q
      · exact .inl q
      · exact .inr (.inr q)
    · exact .inr (.inl (tw' b q))
  · rcases k.fz b q with q | q | q
    · exact .inl q
    · exact .inr (.inl q)
    · exact .inr (.inr (.inr q))
/-- A memory without trees. -/
theorem bareT {P : Program} {w : World} {C : Ctx} {H : Nat → Option Blk} (h : RelH P w C H) (n : ∀ id k, H id = some k → k.st < 3) : RelT P w C H :=
  ⟨h, ⟨fun id L k _ q s => by have := n id k q; omega, fun id L k T _ q ok => by have := n id k q; have := ok.st; omega⟩⟩
theorem bareTW {P : Program} {w : World} {C : Ctx} {H : Nat → Option Blk} (n : ∀ id k, H id = some k → k.st < 3) : ∀ b, ¬ TW P w C H b := by
  rintro b ⟨id, L, k, T, _, q, ok, _⟩
  have := n id k q
  have := ok.st
  omega
/-- From a memory without trees, what is kept is kept as before. -/
theorem KeptT.plain {P : Program} {w w' : World} {C C' : Ctx} {H H' : Nat → Option Blk} (k : KeptT P w C H w' C' H') (n : ∀ b, ¬ TW P w C H b) : Kept w C H w' C' H' :=
  ⟨k.step, k.os, k.tape, k.output, k.size, fun b q1 q2 => k.blk b q1 q2 (n b), fun b q => by
    rcases k.rw b (.inl q) with q | q | q
    · exact .inl q
    · exact absurd q (n b)
    · exact .inr q, fun b q => by
    rcases k.rwa b (.inl q) with q | q | q
    · exact .inl q
    · exact absurd q (n b)
    · exact .inr q, fun b q => by
    rcases k.fz b q with q | q | q | q
    · exact .inl q
    · exact .inr (.inl q)
    · exact absurd q (n b)
    · exact .inr (.inr q)⟩
theorem Kept.lift0 {P : Program} {w w' : World} {C C' : Ctx} {H H' : Nat → Option Blk} (k : Kept w C H w' C' H') (n : ∀ b, ¬ TW P w' C' H' b) : KeptT P w C H w' C' H' :=
  ⟨k.step, k.os, k.tape, k.output, k.size, fun b q1 q2 _ => k.blk b q1 q2, fun b q => by
    rcases q with q | q
    · rcases k.rw b q with q | q
      · exact .inl q
      · exact .inr (.inr q)
    · exact absurd q (n b), fun b q => by
    rcases q with q | q
    · rcases k.rwa b q with q | q
      · exact .inl q
      · exact .inr (.inr q)
    · exact absurd q (n b), fun b q => by
    rcases k.fz b q with q | q | q
    · exact .inl q
    · exact .inr (.inl q)
    · exact .inr (.inr (.inr q))⟩
end Go.Proofs.YtlcnpecejhcnfaaDoor.EV
