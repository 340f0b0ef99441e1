/- Append, in every case. No conditions. -/
import Derived.Test.YtlcnpecejhcnfaaDoorEVmem5
namespace Go.Proofs.YtlcnpecejhcnfaaDoor.EV
set_option linter.unusedVariables false
set_option linter.unusedSimpArgs false
open Go Go.RowKit

theorem did_pre {P : Program} {w : World} {C : Ctx} {H H1 : Nat → Option Blk} {base : Nat} {s : Sem Next} {v : AV} {H' : Nat → Option Blk} (k : Kept w C H w C H1) (h : Did P w C H1 base s v H') : Did P w C H base s v H' := by
  obtain ⟨nx, u, w', C', e1, e2, e3, e4, e5, e6⟩ := h.out
  exact ⟨nx, u, w', C', e1, e2, e3, e4, k.trans e5, e6⟩
/-- A block that lies nowhere yet. -/
theorem rel_idle {P : Program} {w : World} {C : Ctx} {H : Nat → Option Blk} (h : RelH P w C H) {base : Nat} (hb : C.φ base = none) (k : Blk) : RelH P w C (upd H base (some k)) ∧ Kept w C H w C (upd H base (some k)) := by
  have ne : ∀ id L, C.φ id = some L → id ≠ base := fun id L e q => by rw [q, hb] at e; cases e
  refine ⟨⟨fun id L e => ?_, fun id id' L L' k k' e e' q q' => ?_, h.old⟩, ⟨Step.refl _ _, rfl, rfl, rfl, Nat.le_refl _, fun _ _ _ => rfl, fun b hb2 => .inl ?_, fun b hb2 => .inl ?_, fun _ q => .inl q⟩⟩
  · rw [upd_other _ _ (ne id L e)]; exact h.blk id L e
  · rw [upd_other _ _ (ne id L e)] at q
    rw [upd_other _ _ (ne id' L' e')] at q'
    exact h.apart id id' L L' k k' e e' q q'
  · obtain ⟨id, L, k2, e, q, r⟩ := hb2
    rw [upd_other _ _ (ne id L e)] at q
    exact ⟨id, L, k2, e, q, r⟩
  · obtain ⟨id, L, k2, e, q, r⟩ := hb2
    rw [upd_other _ _ (ne id L e)] at q
    exact ⟨id, L, k2, e, q, r⟩

/-- The row has room. -/
theorem inplace_run {P : Program} {w : World} {C : Ctx} {e : TypeId} (hz : okZ P e = true) {len n cap : Nat} {cs : List AV} {vx : Value} {news : List Value} {base_ : Option Addr}
    (src : Src P w C (szOf P e) n cs vx news) (hg : len + n ≤ cap) {t t' : TypeId} (ht : und P t = .slice e) (ht' : notInt P t' = true) (ty : TypeId) (w' : World)
    (hst : ∀ b o, base_ = some ⟨b, o, none⟩ → (storeCells ((⟨b, o, none⟩ : Addr).add (len * szOf P e)) news).run P w = .ok () w') (hno : (∀ b o, base_ ≠ some ⟨b, o, none⟩) → news = [] ∧ w' = w) :
    (Builtin.append_ #[t, t'] ty #[.slice base_ len cap, vx]).run P w = .ok (.slice base_ (len + n) cap) w' := by
  obtain ⟨i, z, ei, hzz, hc, hs, h1, ok, hzo, hby, hb1, hone⟩ := okZ_info hz
  have hn' : ∃ d, P.underlying t' = some d ∧ ((∃ q, d = .slice q) ∨ d = .string) := by
    unfold notInt at ht'
    cases hd : und P t' <;> rw [hd] at ht' <;> simp only [Bool.false_eq_true] at ht'
    · exact ⟨_, und_eq hd (by simp), .inr rfl⟩
    · exact ⟨_, und_eq hd (by simp), .inl ⟨_, rfl⟩⟩
  obtain ⟨d, hd, hdk⟩ := hn'
  have hl1 := src.len w
  have hc1 := src.cells w rfl
  rw [← hs] at hc1 hst
  rcases hdk with ⟨q, rfl⟩ | rfl
  all_goals
    unfold Builtin.append_
    simp only [List.getElem?_toArray, List.getElem?_cons_zero, List.getElem?_cons_succ, Sem.run_bind, run_und ht (by simp), run_underlying hd, Result.andThen_ok, Sem.run_pure, sizeOf, typeInfo, run_program, ei, hl1, if_pos hg, Bool.not_false, if_true, Bool.false_eq_true, if_false, hc1]
    cases base_ with
    | none =>
      obtain ⟨_, rfl⟩ := hno (fun _ _ => by simp)
      rfl
    | some a =>
      obtain ⟨b, o, sp⟩ := a
      cases sp with
      | none =>
        simp only [Sem.run_bind, hst b o rfl, Result.andThen_ok, Sem.run_pure]
      | some _ =>
        obtain ⟨rfl, rfl⟩ := hno (fun _ _ => by simp)
        rfl

theorem inplace_ok {P : Program} {w : World} {C : Ctx} {H : Nat → Option Blk} (hH : RelH P w C H) (base : Nat) (hb : C.φ base = none) {e : TypeId} (hz : okZ P e = true) {id off len n cap : Nat} {L : Loc} {k : Blk} {cs : List AV} {vx : Value} {news : List Value}
    (src : Src P w C (szOf P e) n cs vx news) (hL : C.φ id = some L) (hk : H id = some k) (hs0 : k.st = 0) (ha : k.arr = true) (hke : k.elem = e) (hse : L.s = szOf P e) (h1 : L.d + off + cap * L.s ≤ L.top) (h2 : off + len * L.s ≤ L.len) (hg : len + n ≤ cap)
    {t t' : TypeId} (ht : und P t = .slice e) (ht' : notInt P t' = true) (ty : TypeId) :
    Did P w C H base (do pure (.value (← Builtin.append_ #[t, t'] ty #[.slice (some ⟨L.b, L.d + off, none⟩) len cap, vx]))) (.own base 0 (len + n)) (upd (setSt H 2 [id]) base (some ⟨true, e, 0, catC (cutC k.cells off (mulN len (szOf P e))) cs⟩)) := by
  obtain ⟨i, z, ei, hzz, hc, hs, hs1, ok, hzo, hby, hb1, hone⟩ := okZ_info hz
  obtain ⟨k2, q, okk⟩ := hH.blk id L hL
  rw [hk] at q; cases q
  rcases okk with okk | ⟨e0, cells, el, fr, e1, e2, e3, e4, e5, e6, ea, e7, e8⟩
  · omega
  have hne : id ≠ base := fun q => by rw [q, hb] at hL; cases hL
  have hfz : ¬ C.Fz L.b := e7 hs0
  have hneb : ∀ b, C.Fz b → b ≠ L.b := fun b hb q => hfz (q ▸ hb)
  have hH2 : setSt H 2 [id] = upd H id (some { k with st := 2 }) := by simp [setSt, hk]
  have hnl : news.length = n * L.s := by rw [src.size, hse]
  have hmul : (len + n) * L.s ≤ cap * L.s := Nat.mul_le_mul_right _ hg
  rw [Nat.add_mul] at hmul
  obtain ⟨z1, z2, z3, z4⟩ := setCells_rest news (L.d + off + len * L.s) w L.b
  have hnew := setCells_heap news (L.d + off + len * L.s) w L.b cells el fr e1
  have st : Step w C (w.setCells L.b (L.d + off + len * L.s) news) C := ⟨fun _ _ x => x, fun _ x => x, fun b hb => setCells_other _ _ _ _ _ (hneb b hb)⟩
  have hw : RelH P (w.setCells L.b (L.d + off + len * L.s) news) C (setSt H 2 [id]) := by
    refine rel_world (rel_kill hH [id]) (by omega) (fun b hb => setCells_other _ _ _ _ _ (hneb b hb)) (fun j M k3 q1 q2 q3 => setCells_other _ _ _ _ _ ?_)
    by_cases hj : j = id
    · subst hj; rw [hH2, upd_same] at q2; cases q2; simp at q3
    · rw [hH2, upd_other _ _ hj] at q2
      exact fun x => hH.apart id j L M k k3 hL q1 hk q2 hs0 q3 (Ne.symm hj) x.symm
  have hcl : (cutC k.cells off (mulN len (szOf P e))).length = len * L.s := by
    unfold cutC mulN
    rw [List.length_take, List.length_drop, ← hse]
    have := e5.1
    omega
  have hrl := repL_length src.rep
  have mk : RepAt (w.setCells L.b (L.d + off + len * L.s) news) C.bare L.b (L.d + off) (catC (cutC k.cells off (mulN len (szOf P e))) cs) := by
    refine repAt_of fun j x hx => ?_
    unfold World.cell?
    rw [show (⟨L.b, L.d + off + j, none⟩ : Addr).block = L.b from rfl, hnew]
    simp only [Option.isSome_none, Bool.false_eq_true, if_false]
    rw [putsV_get _ _ _ _ (by omega)]
    unfold catC at hx
    by_cases hj : j < len * L.s
    · rw [List.getElem?_append_left (by omega)] at hx
      rw [if_neg (by omega)]
      obtain ⟨v, q1, qo, q2⟩ := repAt_get1 (repAt_cut (ea ha) off _) hx
      refine ⟨v, ?_, qo, rep_step st.bare _ _ q2⟩
      unfold World.cell? at q1
      rw [show (⟨L.b, L.d + off + j, none⟩ : Addr).block = L.b from rfl, e1] at q1
      simpa using q1
    · rw [List.getElem?_append_right (by omega), hcl] at hx
      have hj2 := (List.getElem?_eq_some_iff.1 hx).1
      rw [if_pos (by omega)]
      obtain ⟨v, q1, q2⟩ := repL_get src.rep hx
      exact ⟨v, by rw [show L.d + off + j - (L.d + off + len * L.s) = j - len * L.s by omega]; exact q1, src.one v (List.mem_of_getElem? q1), rep_step st.bare _ _ q2⟩
  have hbn : ∀ j M k3, j ≠ base → C.φ j = some M → setSt H 2 [id] j = some k3 → k3.st ≤ 1 → M.b ≠ L.b := by
    intro j M k3 hj q1 q2 q3
    by_cases hji : j = id
    · subst hji; rw [hH2, upd_same] at q2; cases q2; simp at q3
    · rw [hH2, upd_other _ _ hji] at q2
      exact fun x => hH.apart id j L M k k3 hL q1 hk q2 hs0 q3 (Ne.symm hji) x.symm
  have hcat : (catC (cutC k.cells off (mulN len (szOf P e))) cs).length = (len + n) * L.s := by
    unfold catC
    rw [List.length_append, hcl, hrl, hnl, Nat.add_mul]
  obtain ⟨r1, r2⟩ := rel_put hw base ⟨L.b, L.d + off, L.s, L.top, (catC (cutC k.cells off (mulN len (szOf P e))) cs).length⟩ ⟨true, e, 0, catC (cutC k.cells off (mulN len (szOf P e))) cs⟩ (.inl hb)
    (.inr ⟨by simp, _, el, fr, hnew, by rw [putsV_size]; exact e2, e3, ⟨fun _ => ⟨hse, okT_ne ok⟩, e4.2.1.trans hke, fun q => by cases q⟩, ⟨rfl, by show L.d + off + List.length _ ≤ L.top; rw [hcat, Nat.add_mul]; omega⟩,
      repAt_step' (Step.of_bare _ _) _ _ _ rfl mk, fun _ => mk, fun _ => hfz, fun q => by simp at q⟩) hbn
  have k1 : Kept w C H w C (setSt H 2 [id]) := kept_kill w C H [id]
  have k2 : Kept w C H (w.setCells L.b (L.d + off + len * L.s) news) ⟨upd C.φ base (some ⟨L.b, L.d + off, L.s, L.top, (catC (cutC k.cells off (mulN len (szOf P e))) cs).length⟩), C.Fz⟩ (upd (setSt H 2 [id]) base (some ⟨true, e, 0, catC (cutC k.cells off (mulN len (szOf P e))) cs⟩)) := by
    refine ⟨st.trans r2, z2, z3, z4, by omega, fun b hb hn => setCells_other _ _ _ _ _ (fun q => hn ⟨id, L, k, hL, hk, hs0, q.symm⟩), fun b hb2 => .inl ?_, fun b hb2 => .inl ?_, fun b q => .inl q⟩
    · obtain ⟨j, M, k3, q1, q2, q3, q4⟩ := hb2
      by_cases hj : j = base
      · subst hj
        change upd C.φ j _ j = _ at q1
        rw [upd_same] at q1; cases q1
        exact ⟨id, L, k, hL, hk, hs0, q4⟩
      · change upd C.φ base _ j = _ at q1
        rw [upd_other _ _ hj] at q1 q2
        exact (k1.rw b ⟨j, M, k3, q1, q2, q3, q4⟩).resolve_right (fun x => by
          by_cases hji : j = id
          · subst hji; rw [hH2, upd_same] at q2; cases q2; simp at q3
          · rw [hH2, upd_other _ _ hji] at q2
            obtain ⟨k4, q5, ok4⟩ := hH.blk j M q1
            rw [q2] at q5; cases q5
            rcases ok4 with ok4 | ⟨_, _, _, _, g1, _⟩
            · omega
            · have := (Array.getElem?_eq_some_iff.1 g1).1; omega)
    · obtain ⟨j, M, k3, q1, q2, q3, qa, q4⟩ := hb2
      by_cases hj : j = base
      · subst hj
        change upd C.φ j _ j = _ at q1
        rw [upd_same] at q1; cases q1
        exact ⟨id, L, k, hL, hk, hs0, ha, q4⟩
      · change upd C.φ base _ j = _ at q1
        rw [upd_other _ _ hj] at q1 q2
        exact (k1.rwa b ⟨j, M, k3, q1, q2, q3, qa, q4⟩).resolve_right (fun x => by
          by_cases hji : j = id
          · subst hji; rw [hH2, upd_same] at q2; cases q2; simp at q3
          · rw [hH2, upd_other _ _ hji] at q2
            obtain ⟨k4, q5, ok4⟩ := hH.blk j M q1
            rw [q2] at q5; cases q5
            rcases ok4 with ok4 | ⟨_, _, _, _, g1, _⟩
            · omega
            · have := (Array.getElem?_eq_some_iff.1 g1).1; omega)
  have hrun := inplace_run (P := P) (w := w) (base_ := some ⟨L.b, L.d + off, none⟩) hz src hg ht ht' ty (w.setCells L.b (L.d + off + len * L.s) news) (fun b o q => by
    cases q
    rw [Addr.add_mid, ← hse]
    have := run_storeCells_cells (P := P) L.b (L.d + off + len * L.s) news 0 w (fun j hj => by
        unfold World.cell?
        rw [show (⟨L.b, L.d + off + len * L.s + 0 + j, none⟩ : Addr).block = L.b from rfl, e1]
        simp; omega) (fun j hj => by
        unfold World.frozen?
        rw [show (⟨L.b, L.d + off + len * L.s + 0 + j, none⟩ : Addr).block = L.b from rfl, e1]
        have := e3 (L.d + off + len * L.s + 0 + j) (by omega)
        simp only [Nat.add_zero, not_and, Nat.not_lt] at this ⊢
        obtain ⟨lo, hi⟩ := fr
        simp only at this ⊢
        by_cases hlo : lo ≤ L.d + off + len * L.s + j
        · simp [hlo, this hlo]
        · simp [hlo]) src.one
    simpa using this) (fun q => absurd rfl (q _ _))
  refine ⟨.value _, _, _, _, by rw [Sem.run_bind, hrun]; rfl, .inl rfl, ⟨_, cap, rfl, hg, .inr ⟨_, upd_same _ _ _, rfl, ?_, ?_⟩⟩, r1, k2, fun j q1 q2 => ?_⟩
  · show L.d + off + 0 + cap * L.s ≤ L.top
    omega
  · show 0 + (len + n) * L.s ≤ List.length _
    rw [hcat]; omega
  · show upd C.φ base _ j = none
    rw [upd_other _ _ (by omega)]; exact q2
end Go.Proofs.YtlcnpecejhcnfaaDoor.EV
