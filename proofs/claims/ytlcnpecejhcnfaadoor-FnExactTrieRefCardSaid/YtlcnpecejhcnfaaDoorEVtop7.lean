/- What is read of a tree. No conditions. -/
import Derived.Test.YtlcnpecejhcnfaaDoorEVtop6
namespace Go.Proofs.YtlcnpecejhcnfaaDoor.EV
set_option linter.unusedVariables false
set_option linter.unusedSimpArgs false
open Go Go.RowKit

theorem window_cut {cs : List AV} {o n : Nat} (h : o + n ≤ cs.length) : window cs o n = cutC cs o n := by
  apply List.ext_getElem?
  intro j
  by_cases hj : j < n
  · rw [window_get _ _ _ _ hj]
    unfold cutC
    rw [List.getElem?_take, if_pos hj, List.getElem?_drop, List.getElem?_eq_getElem (by omega)]
    simp [cellAt, List.getD, List.getElem?_eq_getElem (show o + j < cs.length by omega)]
  · rw [List.getElem?_eq_none (by rw [window_length]; omega), List.getElem?_eq_none (by rw [cutC_len h]; omega)]
theorem scal_ctx {w : World} {C D : Ctx} {s : Sc} {x : AV} {v : Value} (h : scal s = true) (r : Rep w D (cast1 s x) v) : Rep w C (cast1 s x) v := by
  cases s <;> first | (simp [scal] at h; done) | exact r
theorem scals_ctx {w : World} {C D : Ctx} : ∀ {ss : List Sc} {xs : List AV} {vs : List Value}, ss.all scal = true → RepL w D (castAll ss xs) vs → RepL w C (castAll ss xs) vs
  | [], _, _, _, r => r
  | s :: ss, xs, vs, h, r => by
    rw [List.all_cons, Bool.and_eq_true] at h
    obtain ⟨v, us, e, r1, r2⟩ := r
    exact ⟨v, us, e, scal_ctx h.1 r1, scals_ctx h.2 r2⟩
theorem slPos_spec : ∀ {ss : List Sc} {i p : Nat}, slPos ss i = some p → i ≤ p ∧ ss[p - i]? = some .sl ∧ (∀ q s, ss[q]? = some s → q ≠ p - i → scal s = true) ∧ ∀ s ∈ ss, s = .sl ∨ scal s = true
  | [], _, _, h => by simp [slPos] at h
  | s :: ss, i, p, h => by
    unfold slPos at h
    cases h1 : isSl1 s with
    | true =>
      rw [h1] at h
      simp only at h
      have hs : s = .sl := by cases s <;> simp [isSl1] at h1 ⊢
      subst hs
      cases h2 : ss.all scal with
      | false => rw [h2] at h; simp at h
      | true =>
        rw [h2] at h
        simp only [Option.some.injEq] at h
        subst h
        rw [List.all_eq_true] at h2
        refine ⟨Nat.le_refl _, by simp, fun q s hq hne => ?_, fun s hs => ?_⟩
        · cases q with
          | zero => exact absurd (by omega) hne
          | succ q => exact h2 s (List.mem_of_getElem? (by simpa using hq))
        · rcases List.mem_cons.1 hs with rfl | hs
          · exact .inl rfl
          · exact .inr (h2 s hs)
    | false =>
      rw [h1] at h
      simp only at h
      cases h2 : scal s with
      | false => rw [h2] at h; simp at h
      | true =>
        rw [h2] at h
        obtain ⟨a1, a2, a3, a4⟩ := slPos_spec h
        refine ⟨by omega, by rw [show p - i = (p - (i + 1)) + 1 by omega]; simpa using a2, fun q s' hq hne => ?_, fun s' hs => ?_⟩
        · cases q with
          | zero => simp only [List.getElem?_cons_zero, Option.some.injEq] at hq; rw [← hq]; exact h2
          | succ q => exact a3 q s' (by simpa using hq) (by omega)
        · rcases List.mem_cons.1 hs with rfl | hs
          · exact .inr h2
          · exact a4 s' hs
theorem castU_rep {w : World} {C D : Ctx} {b n : Nat} : ∀ {ss : List Sc} {xs : List AV} {us : List Value}, ss.length = xs.length → okAll ss xs = true → RepL w D xs us → (∀ s ∈ ss, s = Sc.sl ∨ scal s = true) → (∀ (j : Nat) (u : Value), ss[j]? = some Sc.sl → us[j]? = some u → Rep w C (.own b 0 n) u) → RepL w C (castU b n ss xs) us
  | [], [], us, _, _, r, _, _ => r
  | [], _ :: _, _, h, _, _, _, _ => by simp at h
  | _ :: _, [], _, h, _, _, _, _ => by simp at h
  | s :: ss, x :: xs, us, h, ok, r, hs, ho => by
    obtain ⟨v, us, rfl, r1, r2⟩ := r
    simp only [okAll, List.headD_cons, List.tail_cons, Bool.and_eq_true] at ok
    refine ⟨v, us, rfl, ?_, castU_rep (by simpa using h) ok.2 r2 (fun s hm => hs s (by simp [hm])) fun j u q1 q2 => ho (j + 1) u (by simpa using q1) (by simpa using q2)⟩
    simp only [List.headD_cons]
    cases h1 : isSl1 s with
    | true =>
      have : s = .sl := by cases s <;> simp [isSl1] at h1 ⊢
      exact ho 0 v (by rw [this]; rfl) rfl
    | false =>
      rcases hs s (by simp) with rfl | h2
      · simp [isSl1] at h1
      · exact scal_ctx h2 (cast_rep ok.1 r1)
theorem treeLoad_ok {P : Program} {w : World} {C : Ctx} {H : Nat → Option Blk} (r : RelT P w C H) (base : Nat) (hb : C.φ base = none) {t : TypeId} {id off : Nat} {b : Blk} (hk : H id = some b) {va : Value} (ra : Rep w C (.ptr id off) va) {g : Bool} {v : AV} {nw : List (Nat × Blk)} {dd fz : List Nat}
    (h : treeLoad P H base t id off b = .val g v nw dd fz) (hg : g = true) : DidT P w C H base (do pure (.value (← Instr.loadAt t va))) v (after H nw dd fz) := by
  unfold treeLoad at h
  cases hf : foldB H b with
  | none => rw [hf] at h; simp at h
  | some p =>
    obtain ⟨b', d1⟩ := p
    rw [hf] at h
    simp only at h
    obtain ⟨L, hL, rfl⟩ := ra
    obtain ⟨f1, f2, f3, f4, f5, f6⟩ := fold_ok r hk hf
    have hidd : id ∉ d1 := f6 (by rw [hL]; simp)
    obtain ⟨T, ok, nd, _⟩ := f1.t.ok id L b' hL f3 (by omega)
    have ok' := ok
    obtain ⟨z1, z2, z3⟩ := ok
    obtain ⟨_, vs, y3, y4, y5, y6, y7⟩ := z3.resolve_right fun q => by have := q.1; omega
    have hvl := trv_len y7
    have core : (okT P t && partsOk P t (window b'.cells off (szOf P t))) = true → ∃ us Ta Tm Tb v0, us = (vs.drop off).take (szOf P t) ∧ T = Ta ++ (Tm ++ Tb) ∧ TRV w (window b'.cells off (szOf P t)) us Tm ∧ (flat P 8 t).length = (window b'.cells off (szOf P t)).length ∧ okAll (flat P 8 t) (window b'.cells off (szOf P t)) = true ∧ us.head? = some v0 ∧ (Instr.loadAt t (.pointer (some ⟨L.b, L.d + off, none⟩))).run P w = .ok (if isAggT P t then .agg us.toArray else v0) w ∧ off + szOf P t ≤ b'.cells.length := by
      intro hg
      rw [Bool.and_eq_true] at hg
      have hin := window_in hg.1 hg.2
      obtain ⟨Ta, Tm, Tb, p1, p2⟩ := trv_cut y7 off (szOf P t)
      have hpo := hg.2
      unfold partsOk at hpo
      rw [Bool.and_eq_true] at hpo
      have hul : ((vs.drop off).take (szOf P t)).length = szOf P t := by rw [List.length_take, List.length_drop]; omega
      obtain ⟨v0, q1, q2⟩ := run_loadVar hg.1 L.b (L.d + off) ((vs.drop off).take (szOf P t)) hul (fun j v hj => by
        rw [List.getElem?_take] at hj
        split at hj
        · rw [List.getElem?_drop] at hj
          have := (y6 (off + j) v hj).1
          rwa [← Nat.add_assoc] at this
        · cases hj)
      exact ⟨_, Ta, Tm, Tb, v0, rfl, p1, by rw [window_cut hin]; exact p2, nbeq_eq hpo.1, hpo.2, q1, q2, hin⟩
    cases hsc : (flat P 8 t).all scal with
    | true =>
      rw [hsc] at h
      simp only [Res.val.injEq] at h
      obtain ⟨rfl, rfl, rfl, rfl, rfl⟩ := h
      obtain ⟨us, Ta, Tm, Tb, v0, c1, c2, c3, c4, c5, c6, c7, c8⟩ := core hg
      have hD := trv_rep C.φ (· ∈ Tm) _ _ _ (fun _ q => q) c3
      have hcast := scals_ctx (C := C) hsc (castAll_rep c4 c5 hD)
      refine ⟨.value _, _, w, C, by rw [Sem.run_bind, c7]; rfl, .inl rfl, ?_, f1, f2, fun _ _ q => q⟩
      unfold partsAs
      cases ha : isAggT P t with
      | true => rw [if_pos rfl]; exact ⟨us, rfl, hcast⟩
      | false =>
        rw [if_neg (by simp)]
        cases hfl : flat P 8 t with
        | nil =>
          rw [hfl] at c4
          have : us = [] := by
            have := trv_len c3
            rw [← c4] at this
            exact List.length_eq_zero_iff.1 this
          rw [this] at c6; simp at c6
        | cons s ss =>
          rw [hfl] at hcast
          obtain ⟨u, ur, e, r1, _⟩ := hcast
          rw [e] at c6
          simp only [List.head?_cons, Option.some.injEq] at c6
          rw [← c6]
          exact r1
    | false =>
      rw [hsc] at h
      simp only at h
      cases hp : slPos (flat P 8 t) 0 with
      | none => rw [hp] at h; simp at h
      | some p =>
      rw [hp] at h
      simp only at h
      cases hag : (isAggT P t || Nat.beq p 0) with
      | false => rw [hag] at h; simp at h
      | true =>
      rw [hag] at h
      simp only [Res.val.injEq] at h
      obtain ⟨rfl, rfl, rfl, rfl, rfl⟩ := h
      obtain ⟨us, Ta, Tm, Tb, v0, c1, c2, c3, c4, c5, c6, c7, c8⟩ := core hg
      obtain ⟨_, sp1, sp2, sp3⟩ := slPos_spec hp
      rw [Nat.sub_zero] at sp1 sp2
      have hpl : p < szOf P t := by
        have := (List.getElem?_eq_some_iff.1 sp1).1
        rw [c4, window_length] at this; exact this
      have hx : b'.cells[off + p]? = some (cellAt b'.cells (addN off p)) := by
        unfold addN cellAt
        rw [List.getD_eq_getElem?_getD, List.getElem?_eq_getElem (by omega)]; rfl
      have hox : ok1 .sl (cellAt b'.cells (addN off p)) = true := by
        obtain ⟨x, q1, q2⟩ := okAll_get c5 sp1
        rw [window_get _ _ _ _ hpl] at q1
        cases q1
        exact q2
      generalize hcx : cellAt b'.cells (addN off p) = x at *
      obtain ⟨u, Ua, U1, Ub, t1, t2, t3, t4⟩ := trv_get y7 hx
      have hup : us[p]? = some u := by
        rw [c1, List.getElem?_take, if_pos hpl, List.getElem?_drop]; exact t1
      have hol : off + p < b'.cells.length := by omega
      -- the blocks behind
      let C1 : Ctx := C
      have hne : id ≠ base := fun q => by rw [q, hb] at hL; cases hL
      have hn1 : ∀ (k1 k2 : Blk), after H [(id, k1), (base, k2)] d1 [] id = some k1 := fun k1 k2 => by
        show upd (upd (setSt (setSt H 1 []) 2 d1) id (some k1)) base (some k2) id = some k1
        rw [upd_other _ _ hne, upd_same]
      have hn2 : ∀ (k1 k2 : Blk), after H [(id, k1), (base, k2)] d1 [] base = some k2 := fun k1 k2 => upd_same _ _ _
      have hn3 : ∀ (k1 k2 : Blk) (j : Nat), j ≠ id → j ≠ base → after H [(id, k1), (base, k2)] d1 [] j = upds (setSt H 2 d1) (newsF id b' d1) j := fun k1 k2 j h1 h2 => by
        show upd (upd (setSt (setSt H 1 []) 2 d1) id (some k1)) base (some k2) j = _
        rw [upd_other _ _ h2, upd_other _ _ h1]
        cases d1 with
        | nil => rfl
        | cons _ _ => exact (upd_other _ _ h1).symm
      have nonplain : ∀ n cs, x = .fs n cs → plain1 x = false := fun n cs q => by rw [q]; rfl
      -- what hangs there
      have fin : ∀ (n : Nat) (cs : List AV), x = .fs n cs → ∃ C', RelT P w C' (after H [(id, ⟨true, b.elem, 4, [.tup b'.cells, .own base (addN off p) n]⟩), (base, ⟨true, 0, 3, cs⟩)] d1 []) ∧
          KeptT P w C (upds (setSt H 2 d1) (newsF id b' d1)) w C' (after H [(id, ⟨true, b.elem, 4, [.tup b'.cells, .own base (addN off p) n]⟩), (base, ⟨true, 0, 3, cs⟩)] d1 []) ∧ (∀ i, i ≠ base → C.φ i = none → C'.φ i = none) ∧ Rep w C' (.own base 0 n) u := by
        intro n cs hxe
        rw [hxe] at t3
        obtain ⟨a, cap, rfl, hn, t3⟩ := t3
        have p5 := t4 .any [] rfl
        have tb4 : TBody w L b.elem b'.cells (b'.cells.set (off + p) .any) vs (Ua ++ ([] ++ Ub)) := ⟨y3, y4, by rw [← f5]; exact y5, y6, p5⟩
        have mk : ∀ C' : Ctx, Link C' base n (.slice a n cap) → TreeOk P w C' L ⟨true, b.elem, 4, [.tup b'.cells, .own base (addN off p) n]⟩ (Ua ++ ([] ++ Ub)) := fun C' lk =>
          ⟨rfl, by rw [← f5]; exact z2, .inr ⟨rfl, b'.cells, base, off + p, n, vs, _, rfl, ⟨x, hx, nonplain n cs hxe⟩, tb4, t1, lk⟩⟩
        have nd4 : (L.b :: (Ua ++ ([] ++ Ub))).Nodup := by
          rw [t2] at nd
          simp only [List.nil_append, List.nodup_cons, List.nodup_append, List.mem_append, not_or] at nd ⊢
          obtain ⟨⟨a1, a2, a3⟩, b1, ⟨b2, b3, b4⟩, b5⟩ := nd
          exact ⟨⟨a1, a3⟩, b1, b3, fun x hx y hy => b5 x hx y (.inr hy)⟩
        have sub4 : ∀ y, y ∈ L.b :: (Ua ++ ([] ++ Ub)) → y ∈ L.b :: T := by
          intro y hy
          rw [t2]
          simp only [List.nil_append, List.mem_cons, List.mem_append] at hy ⊢
          rcases hy with hy | hy | hy
          · exact .inl hy
          · exact .inr (.inl hy)
          · exact .inr (.inr (.inr hy))
        have hT : ∀ y, y ∈ L.b :: T → HasS P w C (upds (setSt H 2 d1) (newsF id b' d1)) (fun i => i = id ∨ i = base) y := fun y hy => ⟨id, .inl rfl, L, b', hL, f3, .inr ⟨T, ok', hy⟩⟩
        rcases t3 with ⟨rfl, rfl, rfl, rfl⟩ | ⟨rb, ro, s, ws, T', g1, g0, g2, g3, g4, g5, g6⟩
        · -- nothing hangs there
          have lk : Link C base 0 (.slice a 0 0) := .inl ⟨rfl, a, rfl⟩
          obtain ⟨r1, r2⟩ := tree_step (C' := C) (H' := after H [(id, ⟨true, b.elem, 4, [.tup b'.cells, .own base (addN off p) 0]⟩), (base, ⟨true, 0, 3, []⟩)] d1 []) f1 (fun i => i = id ∨ i = base) rfl (fun i M q => q) (fun i ns => ⟨rfl, hn3 _ _ i (fun q => ns (.inl q)) fun q => ns (.inr q)⟩) (fun i M hs q => by
              rcases hs with rfl | rfl
              · rw [hL] at q; cases q
                exact ⟨_, hn1 _ _, by simp, fun _ => ⟨_, mk C lk, nd4, fun y hy => .inr (hT y (sub4 y hy))⟩⟩
              · rw [hb] at q; cases q) (fun i i' M M' k1 k' T1 T2 hs1 hs2 ne q1 q2 q3 q4 o1 o2 y _ => by
              exfalso
              rcases hs1 with rfl | rfl
              · rcases hs2 with rfl | rfl
                · exact ne rfl
                · rw [hb] at q2; cases q2
              · rw [hb] at q1; cases q1) (fun _ _ _ => rfl) (Nat.le_refl _) rfl rfl rfl
          exact ⟨C, r1, r2, fun _ _ q => q, ⟨a, 0, rfl, Nat.le_refl _, .inl ⟨rfl, rfl⟩⟩⟩
        · subst g1
          obtain ⟨cells, el, fr, e1, e2, e3, e4⟩ := g4
          let L' : Loc := ⟨rb, ro, s, cells.size, cs.length⟩
          let C' : Ctx := ⟨upd C.φ base (some L'), C.Fz⟩
          have hC' : C'.φ base = some L' := upd_same _ _ _
          have hCi : ∀ i, i ≠ base → C'.φ i = C.φ i := fun i q => upd_other _ _ q
          have hcap : n * s ≤ cap * s := Nat.mul_le_mul_right _ hn
          have lk : Link C' base n (.slice (some ⟨rb, ro, none⟩) n cap) := .inr ⟨L', cap, hC', rfl, hn, g0, g3, e2⟩
          have okc : TreeOk P w C' L' ⟨true, 0, 3, cs⟩ T' := ⟨rfl, fun q => absurd rfl q, .inl ⟨rfl, ws, rfl, by show ro + cs.length ≤ cells.size; omega, ⟨cells, el, fr, e1, rfl, e3, e4.imp (fun q => q) fun q => ⟨rfl, q⟩⟩, g5, g6⟩⟩
          have hU1 : U1 = rb :: T' := g2
          have ndc : (rb :: T').Nodup := by
            rw [t2, hU1] at nd
            simp only [List.nodup_cons, List.nodup_append] at nd ⊢
            exact nd.2.2.1.1
          have subc : ∀ y, y ∈ rb :: T' → y ∈ L.b :: T := by
            intro y hy
            rw [t2, hU1]
            simp only [List.mem_cons, List.mem_append]
            rcases List.mem_cons.1 hy with hy | hy
            · exact .inr (.inr (.inl (.inl hy)))
            · exact .inr (.inr (.inl (.inr hy)))
          have dis : ∀ y, y ∈ L.b :: (Ua ++ ([] ++ Ub)) → y ∉ rb :: T' := by
            intro y hy hy2
            rw [← hU1] at hy2
            rw [t2] at nd
            simp only [List.nil_append, List.nodup_cons, List.nodup_append, List.mem_append, not_or, List.mem_cons] at nd hy
            obtain ⟨⟨a1, a2, a3⟩, b1, ⟨b2, b3, b4⟩, b5⟩ := nd
            rcases hy with hy | hy | hy
            · exact a2 (hy ▸ hy2)
            · exact b5 y hy y (.inl hy2) rfl
            · exact b4 y hy2 y hy rfl
          obtain ⟨r1, r2⟩ := tree_step (C' := C') (H' := after H [(id, ⟨true, b.elem, 4, [.tup b'.cells, .own base (addN off p) n]⟩), (base, ⟨true, 0, 3, cs⟩)] d1 []) f1 (fun i => i = id ∨ i = base) rfl (fun i M q => by rw [hCi i (fun z => by rw [z, hb] at q; cases q)]; exact q) (fun i ns => ⟨hCi i fun q => ns (.inr q), hn3 _ _ i (fun q => ns (.inl q)) fun q => ns (.inr q)⟩) (fun i M hs q => by
              rcases hs with rfl | rfl
              · rw [hCi i hne, hL] at q; cases q
                exact ⟨_, hn1 _ _, by simp, fun _ => ⟨_, mk C' lk, nd4, fun y hy => .inr (hT y (sub4 y hy))⟩⟩
              · rw [hC'] at q; cases q
                exact ⟨_, hn2 _ _, by simp, fun _ => ⟨_, okc, ndc, fun y hy => .inr (hT y (subc y hy))⟩⟩) (fun i i' M M' k1 k' T1 T2 hs1 hs2 ne q1 q2 q3 q4 o1 o2 y hy hy2 => by
              rcases hs1 with rfl | rfl
              · rcases hs2 with rfl | rfl
                · exact ne rfl
                · rw [hCi i hne, hL] at q1; cases q1
                  rw [hC'] at q2; cases q2
                  rw [hn1] at q3; cases q3
                  rw [hn2] at q4; cases q4
                  have := (mk C' lk).uniq o1; subst this
                  have := okc.uniq o2; subst this
                  exact dis y hy hy2
              · rcases hs2 with rfl | rfl
                · rw [hCi i' hne, hL] at q2; cases q2
                  rw [hC'] at q1; cases q1
                  rw [hn2] at q3; cases q3
                  rw [hn1] at q4; cases q4
                  have := (mk C' lk).uniq o2; subst this
                  have := okc.uniq o1; subst this
                  exact dis y hy2 hy
                · exact ne rfl) (fun _ _ _ => rfl) (Nat.le_refl _) rfl rfl rfl
          exact ⟨C', r1, r2, fun i q1 q2 => by rw [hCi i q1]; exact q2, ⟨_, cap, rfl, hn, .inr ⟨L', hC', rfl, by show ro + 0 + cap * s ≤ cells.size; omega, by show 0 + n * s ≤ cs.length; omega⟩⟩⟩
      have hxf : ∃ n cs, x = .fs n cs := by
        cases x <;> first | (simp [ok1] at hox; done) | exact ⟨_, _, rfl⟩ | exact t3.elim
      obtain ⟨n, cs, hxe⟩ := hxf
      obtain ⟨C', r1, r2, r3, r4⟩ := fin n cs hxe
      have hlen : x.asLen = n := by rw [hxe]; rfl
      have hcel : x.asCells = cs := by rw [hxe]; rfl
      rw [hlen, hcel]
      refine ⟨.value _, _, w, C', by rw [Sem.run_bind, c7]; rfl, .inl rfl, ?_, r1, f2.trans r2, r3⟩
      have hD := trv_rep C.φ (· ∈ Tm) _ _ _ (fun _ q => q) c3
      have hcu := castU_rep (C := C') (b := base) (n := n) c4 c5 hD sp3 (fun j u' q1 q2 => by
        have : j = p := by
          by_cases hj : j = p
          · exact hj
          · have := sp2 j .sl q1 hj
            simp [scal] at this
        subst this
        rw [hup] at q2; cases q2
        exact r4)
      cases ha : isAggT P t with
      | true => rw [if_pos rfl]; exact ⟨us, rfl, hcu⟩
      | false =>
        rw [if_neg (by simp)]
        rw [ha, Bool.false_or] at hag
        have hp0 := nbeq_eq hag
        subst hp0
        have : v0 = u := by
          cases us with
          | nil => simp at c6
          | cons z zs =>
            simp only [List.head?_cons, Option.some.injEq] at c6
            simp only [List.getElem?_cons_zero, Option.some.injEq] at hup
            rw [← c6, hup]
        rw [this]
        exact r4
end Go.Proofs.YtlcnpecejhcnfaaDoor.EV
