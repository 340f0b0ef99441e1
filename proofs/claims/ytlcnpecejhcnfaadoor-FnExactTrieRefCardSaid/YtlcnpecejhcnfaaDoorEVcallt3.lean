/- Trees that come back, in the caller's hands. No conditions. -/
import Derived.Test.YtlcnpecejhcnfaaDoorEVcallt2
namespace Go.Proofs.YtlcnpecejhcnfaaDoor.EV
set_option linter.unusedVariables false
set_option linter.unusedSimpArgs false
open Go Go.RowKit

theorem ent_find {ls : List Ent} (inc : ls.Pairwise fun p q => p.id < q.id) {q q' : Ent} (h : q ∈ ls) (h' : q' ∈ ls) (e : q.id = q'.id) : q = q' := by
  induction ls with
  | nil => simp at h
  | cons a l ih =>
    rw [List.pairwise_cons] at inc
    rcases List.mem_cons.1 h with h1 | h1
    · rcases List.mem_cons.1 h' with h2 | h2
      · rw [h1, h2]
      · have := inc.1 q' h2; rw [h1] at e; omega
    · rcases List.mem_cons.1 h' with h2 | h2
      · have := inc.1 q h1; rw [h2] at e; omega
      · exact ih inc.2 h1 h2
theorem look_ent {α : Type} {ls : List Ent} (g : Ent → α) (inc : ls.Pairwise fun p q => p.id < q.id) {q : Ent} (h : q ∈ ls) : look (ls.map fun q => (q.id, g q)) q.id = some (g q) := by
  induction ls with
  | nil => simp at h
  | cons a l ih =>
    rw [List.pairwise_cons] at inc
    simp only [List.map_cons, look]
    rcases List.mem_cons.1 h with rfl | h
    · simp
    · have := inc.1 q h
      rw [nbeq_ne (by omega)]
      exact ih inc.2 h
theorem look_ent_none {α : Type} {ls : List Ent} (g : Ent → α) {i : Nat} (h : ∀ q ∈ ls, q.id ≠ i) : look (ls.map fun q => (q.id, g q)) i = none := by
  induction ls with
  | nil => rfl
  | cons a l ih =>
    simp only [List.map_cons, look]
    rw [nbeq_ne (fun q => h a (by simp) q.symm)]
    exact ih fun q hq => h q (by simp [hq])
theorem upds_ent1 : ∀ (l : List Ent) (f : Nat → Option Blk) (q : Ent), q ∈ l → (l.Pairwise fun p q => p.id < q.id) → upds f (l.map fun q => (q.id, q.blk)) q.id = some q.blk
  | [], _, _, h, _ => by simp at h
  | a :: l, f, q, h, inc => by
    rw [List.pairwise_cons] at inc
    simp only [List.map_cons, upds]
    rcases List.mem_cons.1 h with rfl | h
    · rcases upds_some (l := l.map fun q => (q.id, q.blk)) (f := upd f q.id (some q.blk)) (id := q.id) with z | ⟨p, p1, p2, p3⟩
      · rw [z]; exact upd_same _ _ _
      · obtain ⟨q', h1, rfl⟩ := List.mem_map.1 p1
        have := inc.1 q' h1
        have p2' : q'.id = q.id := p2
        omega
    · exact upds_ent1 l _ q h inc.2
theorem upds_ent2 {ls : List Ent} {H : Nat → Option Blk} {i : Nat} (hi : ∀ q ∈ ls, q.id ≠ i) : upds H (ls.map fun q => (q.id, q.blk)) i = H i := by
  rcases upds_some (l := ls.map fun q => (q.id, q.blk)) (f := H) (id := i) with z | ⟨p, p1, p2, p3⟩
  · exact z
  · obtain ⟨q', h1, rfl⟩ := List.mem_map.1 p1
    exact absurd p2 (hi q' h1)
theorem post_tree {cp : CP} {f : FuncId} (hnd : isDeep cp f = false) (hnt : treeF cp f = true) {w : World} {C : Ctx} {H : Nat → Option Blk} (rt : RelT cp.P w C H) {F : Nat → Prop} (hsub : ∀ x, C.Fz x → F x) {base top : Nat} (hb : ∀ id, base ≤ id → id < top → C.φ id = none) {fn : Func} {r : List AV} {w' : World} {e : Ending}
    (ran : Ran cp w ⟨fun _ => none, F⟩ (look []) fn f [] r e w') (htop : (takeTs cp.P base fn.resultTypes.toList r).2.2 ≤ top) :
    ∃ u D2, e = .returned u ∧ RelT cp.P w' D2 (upds H (takeTs cp.P base fn.resultTypes.toList r).2.1) ∧ KeptT cp.P w C H w' D2 (upds H (takeTs cp.P base fn.resultTypes.toList r).2.1) ∧
      Rep w' D2 (tupA (takeTs cp.P base fn.resultTypes.toList r).1) u ∧ (∀ id, (id < base ∨ top ≤ id) → D2.φ id = C.φ id) := by
  obtain ⟨C', H', vs, us, rfl, kept, hCT, rl, fin, _⟩ := ran
  obtain ⟨n1, n2⟩ := start_none (P := cp.P) (w := w) (F := F)
  have same : ∀ x, x < w.heap.size → w'.heap[x]? = w.heap[x]? := fun x q => kept.blk x q (n1 x) (n2 x)
  have hnew : ∀ b, TW cp.P w' C' H' b → w.heap.size ≤ b := by
    intro b hbt
    rcases kept.rw b (.inr hbt) with q | q | q
    · exact absurd q (n1 _)
    · exact absurd q (n2 _)
    · exact q
  unfold finishV at fin
  rw [hnd, hnt] at fin
  simp only [finishT] at fin
  cases ho : outTs cp.P H' fn.resultTypes.toList vs with
  | none => rw [ho] at fin; simp at fin
  | some p =>
    obtain ⟨os, ids⟩ := p
    rw [ho] at fin
    simp only at fin
    cases hok : (noBig cp.P fn.resultTypes.toList && (okRes cp.P fn.resultTypes.toList os && distinct ids)) with
    | false => rw [hok] at fin; simp at fin
    | true =>
      rw [hok] at fin
      simp only [Option.some.injEq] at fin
      subst fin
      rw [Bool.and_eq_true, Bool.and_eq_true] at hok
      obtain ⟨ls, E, K⟩ := outTs_ok hCT (b := base) ho hok.1 hok.2.1 rl
      have hn := E.news
      rw [hn]
      have hrng : ∀ q ∈ ls, base ≤ q.id ∧ q.id < top := fun q hq => by have := E.rng q hq; omega
      let D2 : Ctx := ⟨fun i => match (look (ls.map fun q => (q.id, q.loc)) i : Option (Option Loc)) with | some l => l | none => C.φ i, C.Fz⟩
      have d1 : ∀ q ∈ ls, D2.φ q.id = q.loc := fun q hq => by
        show (match (look _ _ : Option (Option Loc)) with | some l => l | none => _) = _
        rw [look_ent (fun q => q.loc) E.inc hq]
      have d2 : ∀ i, (∀ q ∈ ls, q.id ≠ i) → D2.φ i = C.φ i := fun i hi => by
        show (match (look _ _ : Option (Option Loc)) with | some l => l | none => _) = _
        rw [look_ent_none (fun q => q.loc) hi]
      have mono : ∀ id L, C.φ id = some L → D2.φ id = some L := fun id L h => by
        rw [d2 id fun q hq z => ?_]
        · exact h
        · obtain ⟨h1, h2⟩ := hrng q hq
          rw [z] at h1 h2
          rw [hb id h1 h2] at h; cases h
      have hnd2 : ids.Nodup := distinct_nodup hok.2.2
      have hci := E.cids.nodup hnd2
      have far : ∀ q ∈ ls, ∀ q' ∈ ls, q.id ≠ q'.id → q.loc.isSome = true → q'.loc.isSome = true → q.cid ≠ q'.cid := by
        intro q hq q' hq' hne hs hs' hc
        have key : ∀ (l : List Ent), (l.map (·.cid)).Nodup → ∀ q ∈ l, ∀ q' ∈ l, q.cid = q'.cid → q = q' := by
          intro l
          induction l with
          | nil => intro _ q h; simp at h
          | cons a l ih =>
            intro nd q h q' h' hc
            rw [List.map_cons, List.nodup_cons] at nd
            rcases List.mem_cons.1 h with h1 | h1
            · rcases List.mem_cons.1 h' with h2 | h2
              · rw [h1, h2]
              · exact absurd (List.mem_map.2 ⟨q', h2, by rw [← hc, h1]⟩) nd.1
            · rcases List.mem_cons.1 h' with h2 | h2
              · exact absurd (List.mem_map.2 ⟨q, h1, by rw [hc, h2]⟩) nd.1
              · exact ih nd.2 q h1 q' h2 hc
        have := key _ hci q (List.mem_filter.2 ⟨hq, hs⟩) q' (List.mem_filter.2 ⟨hq', hs'⟩) hc
        exact hne (by rw [this])
      obtain ⟨r1, r2⟩ := tree_step (w' := w') (C' := D2) (H' := upds H (ls.map fun q => (q.id, q.blk))) rt (fun i => ∃ q ∈ ls, q.id = i) rfl mono (fun i ns => ⟨d2 i fun q hq z => ns ⟨q, hq, z⟩, upds_ent2 fun q hq z => ns ⟨q, hq, z⟩⟩) (fun i L hs q0 => by
          obtain ⟨q, hq, rfl⟩ := hs
          rw [d1 q hq] at q0
          obtain ⟨b1, b2⟩ := E.ok q hq
          obtain ⟨b3, b4, L0, k0, T0, b5, b6, b7, b8⟩ := b2 L q0
          exact ⟨q.blk, upds_ent1 ls H q hq E.inc, by omega, fun _ => ⟨q.T, b3.ctx b1, b4, fun x hx => .inl (hnew x ⟨q.cid, L0, k0, T0, b5, b6, b7, b8 x hx⟩)⟩⟩)
        (fun i i' L L' k k' T T' hs hs' ne q1 q2 q3 q4 o1 o2 x hx hx' => by
          obtain ⟨q, hq, rfl⟩ := hs
          obtain ⟨q', hq', rfl⟩ := hs'
          rw [d1 q hq] at q1
          rw [d1 q' hq'] at q2
          rw [upds_ent1 ls H q hq E.inc] at q3; cases q3
          rw [upds_ent1 ls H q' hq' E.inc] at q4; cases q4
          obtain ⟨b1, b2⟩ := E.ok q hq
          obtain ⟨b3, b4, L0, k0, T0, b5, b6, b7, b8⟩ := b2 L q1
          obtain ⟨c1, c2⟩ := E.ok q' hq'
          obtain ⟨c3, c4, L1, k1, T1, c5, c6, c7, c8⟩ := c2 L' q2
          have := b3.uniq o1; subst this
          have := c3.uniq o2; subst this
          have hc := far q hq q' hq' ne (by rw [q1]; rfl) (by rw [q2]; rfl)
          exact (hCT.t.off q.cid L0 k0 T0 b5 b6 b7 x (b8 x hx) q'.cid L1 k1 (Ne.symm hc) c5 c6).2 T1 c7 (c8 x hx'))
        (fun b hb _ => same b hb) kept.size kept.os kept.tape kept.output
      refine ⟨oneOr us, D2, rfl, r1, r2, repL_tup (K D2 fun q hq L hL => by rw [d1 q hq]; exact hL), fun i hi => d2 i fun q hq z => ?_⟩
      have := hrng q hq
      omega
end Go.Proofs.YtlcnpecejhcnfaaDoor.EV
