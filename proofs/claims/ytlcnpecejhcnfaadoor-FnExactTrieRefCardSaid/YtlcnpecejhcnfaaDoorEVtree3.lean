/- A step that touches trees. No conditions. -/
import Derived.Test.YtlcnpecejhcnfaaDoorEVtree2
namespace Go.Proofs.YtlcnpecejhcnfaaDoor.EV
set_option linter.unusedVariables false
set_option linter.unusedSimpArgs false
open Go Go.RowKit

/-- A row of one of these blocks, that may be written. -/
def HasS (P : Program) (w : World) (C : Ctx) (H : Nat → Option Blk) (S : Nat → Prop) (b : Nat) : Prop :=
  ∃ id, S id ∧ ∃ L k, C.φ id = some L ∧ H id = some k ∧ ((k.st = 0 ∧ k.arr = true ∧ L.b = b) ∨ ∃ T, TreeOk P w C L k T ∧ b ∈ L.b :: T)
theorem HasS.own {P : Program} {w : World} {C : Ctx} {H : Nat → Option Blk} {S : Nat → Prop} {b : Nat} (h : HasS P w C H S b) : RW C H b ∨ TW P w C H b := by
  obtain ⟨id, _, L, k, h1, h2, h3⟩ := h
  rcases h3 with ⟨q1, _, q2⟩ | ⟨T, q1, q2⟩
  · exact .inl ⟨id, L, k, h1, h2, q1, q2⟩
  · exact .inr ⟨id, L, k, T, h1, h2, q1, q2⟩
theorem HasS.owna {P : Program} {w : World} {C : Ctx} {H : Nat → Option Blk} {S : Nat → Prop} {b : Nat} (h : HasS P w C H S b) : RWa C H b ∨ TW P w C H b := by
  obtain ⟨id, _, L, k, h1, h2, h3⟩ := h
  rcases h3 with ⟨q1, qa, q2⟩ | ⟨T, q1, q2⟩
  · exact .inl ⟨id, L, k, h1, h2, q1, qa, q2⟩
  · exact .inr ⟨id, L, k, T, h1, h2, q1, q2⟩
theorem rw_nfz {P : Program} {w : World} {C : Ctx} {H : Nat → Option Blk} (r : RelH P w C H) {b : Nat} (h : RW C H b) : ¬ C.Fz b := by
  obtain ⟨id, L, k, h1, h2, h3, h4⟩ := h
  obtain ⟨k2, q, ok⟩ := r.blk id L h1
  rw [h2] at q; cases q
  rcases ok with ok | ⟨_, _, _, _, _, _, _, _, _, _, _, e7, _⟩
  · omega
  · rw [← h4]; exact e7 h3
theorem own_nfz {P : Program} {w : World} {C : Ctx} {H : Nat → Option Blk} (r : RelT P w C H) {b : Nat} (h : RW C H b ∨ TW P w C H b) : ¬ C.Fz b := h.elim (rw_nfz r.h) fun q => (tw_off r q).2.1
/-- The rows of other blocks lie elsewhere. -/
theorem HasS.far {P : Program} {w : World} {C : Ctx} {H : Nat → Option Blk} (r : RelT P w C H) {S : Nat → Prop} {b : Nat} (h : HasS P w C H S b) {id : Nat} {L : Loc} {k : Blk} (ns : ¬ S id) (h1 : C.φ id = some L) (h2 : H id = some k) :
    (k.st ≤ 1 → L.b ≠ b) ∧ ∀ T, TreeOk P w C L k T → b ∉ L.b :: T := by
  obtain ⟨id', hs, L', k', p1, p2, p3⟩ := h
  have hne : id ≠ id' := fun q => ns (q ▸ hs)
  rcases p3 with ⟨q1, _, q2⟩ | ⟨T', q1, q2⟩
  · refine ⟨fun hk => ?_, fun T ok hb => ?_⟩
    · rw [← q2]; exact fun q => r.h.apart id' id L' L k' k p1 h1 p2 h2 q1 hk (Ne.symm hne) q.symm
    · exact (r.t.off id L k T h1 h2 ok b hb id' L' k' (Ne.symm hne) p1 p2).1 (by omega) q2
  · exact r.t.off id' L' k' T' p1 p2 q1 b q2 id L k hne h1 h2
theorem tree_step {P : Program} {w w' : World} {C C' : Ctx} {H H' : Nat → Option Blk} (r : RelT P w C H) (S : Nat → Prop) (hF : C'.Fz = C.Fz) (mono : ∀ id L, C.φ id = some L → C'.φ id = some L)
    (c1 : ∀ id, ¬ S id → C'.φ id = C.φ id ∧ H' id = H id)
    (c2 : ∀ id L, S id → C'.φ id = some L → ∃ k, H' id = some k ∧ 2 ≤ k.st ∧ (3 ≤ k.st → ∃ T, TreeOk P w' C' L k T ∧ (L.b :: T).Nodup ∧ ∀ b, b ∈ L.b :: T → w.heap.size ≤ b ∨ HasS P w C H S b))
    (c3 : ∀ id id' L L' k k' T T', S id → S id' → id ≠ id' → C'.φ id = some L → C'.φ id' = some L' → H' id = some k → H' id' = some k' → TreeOk P w' C' L k T → TreeOk P w' C' L' k' T' → ∀ b, b ∈ L.b :: T → b ∉ L'.b :: T')
    (hw : ∀ b, b < w.heap.size → ¬ HasS P w C H S b → w'.heap[b]? = w.heap[b]?) (hsz : w.heap.size ≤ w'.heap.size) (hos : w'.os = w.os) (htp : w'.tape = w.tape) (hout : w'.output = w.output) :
    RelT P w' C' H' ∧ KeptT P w C H w' C' H' := by
  have hfz : ∀ b, C.Fz b → w'.heap[b]? = w.heap[b]? := fun b hb => hw b (r.h.old b hb) fun q => own_nfz r q.own hb
  have st : Step w C w' C' := ⟨mono, fun b hb => by rw [hF]; exact hb, hfz⟩
  -- a block of before that was not touched
  have live : ∀ id L k, ¬ S id → C.φ id = some L → H id = some k → k.st ≤ 1 → w'.heap[L.b]? = w.heap[L.b]? := by
    intro id L k ns h1 h2 h3
    obtain ⟨k2, q, ok⟩ := r.h.blk id L h1
    rw [h2] at q; cases q
    rcases ok with ok | ⟨_, _, _, _, e1, _⟩
    · omega
    · exact hw L.b (Array.getElem?_eq_some_iff.1 e1).1 fun hs => (hs.far r ns h1 h2).1 h3 rfl
  have tr : ∀ id L k T, ¬ S id → C.φ id = some L → H id = some k → TreeOk P w C L k T → TreeOk P w' C' L k T := by
    intro id L k T ns h1 h2 ok
    exact ok.same (fun b hb => hw b (ok.rows b hb) fun hs => (hs.far r ns h1 h2).2 T ok hb) mono
  have tru : ∀ id L k T, ¬ S id → C'.φ id = some L → H' id = some k → TreeOk P w' C' L k T → C.φ id = some L ∧ H id = some k ∧ TreeOk P w C L k T := by
    intro id L k T ns h1 h2 ok
    obtain ⟨e1, e2⟩ := c1 id ns
    rw [e1] at h1; rw [e2] at h2
    obtain ⟨T2, ok2, _⟩ := r.t.ok id L k h1 h2 ok.st.1
    have := (tr id L k T2 ns h1 h2 ok2).uniq ok
    subst this
    exact ⟨h1, h2, ok2⟩
  have twn : ∀ b, TW P w' C' H' b → TW P w C H b ∨ w.heap.size ≤ b ∨ HasS P w C H S b := by
    rintro b ⟨id, L, k, T, h1, h2, ok, hb⟩
    by_cases hs : S id
    · obtain ⟨k2, q1, _, q3⟩ := c2 id L hs h1
      rw [h2] at q1; cases q1
      obtain ⟨T2, ok2, _, q4⟩ := q3 ok.st.1
      have := ok.uniq ok2
      subst this
      exact .inr (q4 b hb)
    · obtain ⟨q1, q2, q3⟩ := tru id L k T hs h1 h2 ok
      exact .inl ⟨id, L, k, T, q1, q2, q3, hb⟩
  have live1 : ∀ id L k, C'.φ id = some L → H' id = some k → k.st ≤ 1 → ¬ S id := by
    intro id L k h1 h2 h3 hs
    obtain ⟨k2, q1, q2, _⟩ := c2 id L hs h1
    rw [h2] at q1; cases q1; omega
  refine ⟨⟨⟨fun id L e => ?_, fun id id' L L' k k' e e' hk hk' hs hs' ne => ?_, fun b hb => ?_⟩, ⟨fun id L k h1 h2 h3 => ?_, fun id L k T h1 h2 ok b hb id' L' k' ne h1' h2' => ?_⟩⟩, ⟨st, hos, htp, hout, hsz, fun b hb q1 q2 => hw b hb fun hs => hs.own.elim q1 q2, fun b q => ?_, fun b q => ?_, fun b q => .inl (by rw [← hF]; exact q)⟩⟩
  · by_cases hs : S id
    · obtain ⟨k, q1, q2, _⟩ := c2 id L hs e
      exact ⟨k, q1, .inl q2⟩
    · obtain ⟨e1, e2⟩ := c1 id hs
      rw [e1] at e
      obtain ⟨k, hk, ok⟩ := r.h.blk id L e
      exact ⟨k, e2.trans hk, blkOk_step st (fun h => live id L k hs e hk h) (fun _ hf => by rw [hF] at hf; exact hf) ok⟩
  · have n1 := live1 id L k e hk (by omega)
    have n2 := live1 id' L' k' e' hk' hs'
    rw [(c1 id n1).1] at e; rw [(c1 id n1).2] at hk
    rw [(c1 id' n2).1] at e'; rw [(c1 id' n2).2] at hk'
    exact r.h.apart id id' L L' k k' e e' hk hk' hs hs' ne
  · rw [hF] at hb
    exact Nat.lt_of_lt_of_le (r.h.old b hb) hsz
  · by_cases hs : S id
    · obtain ⟨k2, q1, _, q3⟩ := c2 id L hs h1
      rw [h2] at q1; cases q1
      obtain ⟨T, ok, nd, q4⟩ := q3 h3
      refine ⟨T, ok, nd, fun b hb hf => ?_⟩
      rw [hF] at hf
      rcases q4 b hb with q | q
      · have := r.h.old b hf; omega
      · exact own_nfz r q.own hf
    · rw [(c1 id hs).1] at h1; rw [(c1 id hs).2] at h2
      obtain ⟨T, ok, nd, q4⟩ := r.t.ok id L k h1 h2 h3
      exact ⟨T, tr id L k T hs h1 h2 ok, nd, fun b hb hf => q4 b hb (by rw [hF] at hf; exact hf)⟩
  · -- apart
    have old_lt : ∀ id L k, ¬ S id → C.φ id = some L → H id = some k → k.st ≤ 1 → L.b < w.heap.size := by
      intro id L k ns h1 h2 h3
      obtain ⟨k2, q, ok⟩ := r.h.blk id L h1
      rw [h2] at q; cases q
      rcases ok with ok | ⟨_, _, _, _, e1, _⟩
      · omega
      · exact (Array.getElem?_eq_some_iff.1 e1).1
    by_cases hs : S id
    · obtain ⟨k2, q1, _, q3⟩ := c2 id L hs h1
      rw [h2] at q1; cases q1
      obtain ⟨T2, ok2, _, q4⟩ := q3 ok.st.1
      have := ok.uniq ok2
      subst this
      refine ⟨fun hl => ?_, fun T' ok' => ?_⟩
      · have n2 := live1 id' L' k' h1' h2' hl
        rw [(c1 id' n2).1] at h1'; rw [(c1 id' n2).2] at h2'
        rcases q4 b hb with q | q
        · have := old_lt id' L' k' n2 h1' h2' hl; omega
        · exact (q.far r n2 h1' h2').1 hl
      · by_cases hs' : S id'
        · exact c3 id id' L L' k k' T T' hs hs' (Ne.symm ne) h1 h1' h2 h2' ok ok' b hb
        · obtain ⟨p1, p2, p3⟩ := tru id' L' k' T' hs' h1' h2' ok'
          rcases q4 b hb with q | q
          · intro hm; have := p3.rows b hm; omega
          · exact (q.far r hs' p1 p2).2 T' p3
    · obtain ⟨p1, p2, p3⟩ := tru id L k T hs h1 h2 ok
      refine ⟨fun hl => ?_, fun T' ok' => ?_⟩
      · have n2 := live1 id' L' k' h1' h2' hl
        rw [(c1 id' n2).1] at h1'; rw [(c1 id' n2).2] at h2'
        exact (r.t.off id L k T p1 p2 p3 b hb id' L' k' ne h1' h2').1 hl
      · by_cases hs' : S id'
        · intro hm
          obtain ⟨k2, q1, _, q3⟩ := c2 id' L' hs' h1'
          rw [h2'] at q1; cases q1
          obtain ⟨T2, ok2, _, q4⟩ := q3 ok'.st.1
          have := ok'.uniq ok2
          subst this
          rcases q4 b hm with q | q
          · have := p3.rows b hb; omega
          · exact (q.far r hs p1 p2).2 T p3 hb
        · obtain ⟨g1, g2, g3⟩ := tru id' L' k' T' hs' h1' h2' ok'
          exact (r.t.off id L k T p1 p2 p3 b hb id' L' k' ne g1 g2).2 T' g3
  · rcases q with ⟨id, L, k, h1, h2, h3, h4⟩ | q
    · have n1 := live1 id L k h1 h2 (by omega)
      rw [(c1 id n1).1] at h1; rw [(c1 id n1).2] at h2
      exact .inl ⟨id, L, k, h1, h2, h3, h4⟩
    · rcases twn b q with q | q | q
      · exact .inr (.inl q)
      · exact .inr (.inr q)
      · exact q.own.elim .inl fun z => .inr (.inl z)
  · rcases q with ⟨id, L, k, h1, h2, h3, ha, h4⟩ | q
    · have n1 := live1 id L k h1 h2 (by omega)
      rw [(c1 id n1).1] at h1; rw [(c1 id n1).2] at h2
      exact .inl ⟨id, L, k, h1, h2, h3, ha, h4⟩
    · rcases twn b q with q | q | q
      · exact .inr (.inl q)
      · exact .inr (.inr q)
      · exact q.owna.elim .inl fun z => .inr (.inl z)
end Go.Proofs.YtlcnpecejhcnfaaDoor.EV
