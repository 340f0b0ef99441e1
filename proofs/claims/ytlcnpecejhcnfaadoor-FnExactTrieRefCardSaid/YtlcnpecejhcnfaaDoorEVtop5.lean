/- A row of a tree in hand, and put back; what is written into a tree. No conditions. -/
import Derived.Test.YtlcnpecejhcnfaaDoorEVtop4
namespace Go.Proofs.YtlcnpecejhcnfaaDoor.EV
set_option linter.unusedVariables false
set_option linter.unusedSimpArgs false
open Go Go.RowKit

theorem setSt_at (H : Nat → Option Blk) (s : Nat) (l : List Nat) (j : Nat) : setSt H s l j = if j ∈ l then (match H j with | some b => some { b with st := s } | none => none) else H j := by
  by_cases h : j ∈ l
  · rw [if_pos h]
    cases e : H j with
    | none => exact setSt_none e
    | some k => exact setSt_mem e h
  · rw [if_neg h]; exact setSt_not h
theorem foldB_cases {H : Nat → Option Blk} {b b' : Blk} {dd : List Nat} (h : foldB H b = some (b', dd)) :
    (b.st = 3 ∧ b' = b ∧ dd = []) ∨ ∃ cs cid j n c, b.st = 4 ∧ b.cells = [.tup cs, .own cid j n] ∧ H cid = some c ∧ c.st = 3 ∧ b' = ⟨b.arr, b.elem, 3, setMany cs j [.fs n (cutN n c.cells)]⟩ ∧ dd = [cid] := by
  unfold foldB at h
  cases h3 : Nat.beq b.st 3 with
  | true =>
    rw [h3] at h
    simp only [Option.some.injEq, Prod.mk.injEq] at h
    exact .inl ⟨nbeq_eq h3, h.1.symm, h.2.symm⟩
  | false =>
    rw [h3] at h
    simp only at h
    split at h
    · rename_i cs cid j n h4 hc
      split at h
      · rename_i c hcid
        split at h
        · rename_i hc3
          simp only [Option.some.injEq, Prod.mk.injEq] at h
          exact .inr ⟨cs, cid, j, n, c, nbeq_eq h4, hc, hcid, nbeq_eq hc3, h.1.symm, h.2.symm⟩
        · simp at h
      · simp at h
    · simp at h
/-- The row in hand put back. -/
theorem fold_ok {P : Program} {w : World} {C : Ctx} {H : Nat → Option Blk} (r : RelT P w C H) {id : Nat} {b b' : Blk} {dd : List Nat} (hk : H id = some b) (h : foldB H b = some (b', dd)) :
    RelT P w C (upds (setSt H 2 dd) (newsF id b' dd)) ∧ KeptT P w C H w C (upds (setSt H 2 dd) (newsF id b' dd)) ∧ upds (setSt H 2 dd) (newsF id b' dd) id = some b' ∧ b'.st = 3 ∧ b'.elem = b.elem ∧ (C.φ id ≠ none → id ∉ dd) := by
  rcases foldB_cases h with ⟨h3, rfl, rfl⟩ | ⟨cs, cid, j, n, c, h4, hc, hcid, hc3, rfl, rfl⟩
  · exact ⟨r, KeptT.refl _ _ _ _, hk, h3, rfl, fun _ => by simp⟩
  · have hne : id ≠ cid := by
      rintro rfl
      rw [hk] at hcid; cases hcid
      omega
    have h1 : upds (setSt H 2 [cid]) (newsF id ⟨b.arr, b.elem, 3, setMany cs j [.fs n (cutN n c.cells)]⟩ [cid]) id = some ⟨b.arr, b.elem, 3, setMany cs j [.fs n (cutN n c.cells)]⟩ := upd_same _ _ _
    have h2 : ∀ i, i ≠ id → upds (setSt H 2 [cid]) (newsF id ⟨b.arr, b.elem, 3, setMany cs j [.fs n (cutN n c.cells)]⟩ [cid]) i = setSt H 2 [cid] i := fun i q => upd_other _ _ q
    have hcd : upds (setSt H 2 [cid]) (newsF id ⟨b.arr, b.elem, 3, setMany cs j [.fs n (cutN n c.cells)]⟩ [cid]) cid = some { c with st := 2 } := (h2 cid (Ne.symm hne)).trans (setSt_mem hcid (by simp))
    suffices hs : RelT P w C (upds (setSt H 2 [cid]) (newsF id ⟨b.arr, b.elem, 3, setMany cs j [.fs n (cutN n c.cells)]⟩ [cid])) ∧ KeptT P w C H w C (upds (setSt H 2 [cid]) (newsF id ⟨b.arr, b.elem, 3, setMany cs j [.fs n (cutN n c.cells)]⟩ [cid])) from ⟨hs.1, hs.2, h1, rfl, rfl, fun _ => by simpa using hne⟩
    have key : ∀ L, C.φ id = some L → ∃ T, TreeOk P w C L ⟨b.arr, b.elem, 3, setMany cs j [.fs n (cutN n c.cells)]⟩ T ∧ (L.b :: T).Nodup ∧ ∀ x, x ∈ L.b :: T → HasS P w C H (fun i => i = id ∨ i = cid) x := by
      intro L hL
      obtain ⟨T, ok, nd, _⟩ := r.t.ok id L b hL hk (by omega)
      have ok' := ok
      obtain ⟨z1, z2, z3⟩ := ok
      rcases z3 with ⟨z, _⟩ | ⟨_, cs', cid', j', n', vs, v, y1, y2, ⟨y3, y4, y5, y6, y7⟩, y8, y9⟩
      · omega
      rw [hc] at y1
      simp only [List.cons.injEq, AV.tup.injEq, AV.own.injEq, and_true] at y1
      obtain ⟨rfl, rfl, rfl, rfl⟩ := y1
      obtain ⟨x0, y2, yp⟩ := y2
      have y2' := (List.getElem?_eq_some_iff.1 y2).1
      obtain ⟨v', Ta, T1, Tb, p1, p2, p3, p4⟩ := trv_get (x := .any) y7 (by rw [List.getElem?_set_self y2'])
      have hT1 : T1 = [] := p3
      subst hT1
      rw [y8] at p1; cases p1
      have hset : ∀ y, (cs.set j .any).set j y = setMany cs j [y] := fun y => by simp [setMany, List.set_set]
      -- the row put back
      have back : ∃ Ty, TR w (.fs n (cutN n c.cells)) v Ty ∧ Ty.Nodup ∧ ∀ x, x ∈ Ty → HasS P w C H (· = cid) x := by
        rcases y9 with ⟨rfl, a, rfl⟩ | ⟨L', cap, l1, rfl, l2, l0, l3, l4⟩
        · exact ⟨[], ⟨a, 0, rfl, Nat.le_refl _, .inl ⟨rfl, rfl, rfl, rfl⟩⟩, List.nodup_nil, fun x hx => by simp at hx⟩
        · obtain ⟨Tc, okc, ndc, _⟩ := r.t.ok cid L' c l1 hcid (by omega)
          have okc' := okc
          obtain ⟨_, _, c3⟩ := okc
          rcases c3 with ⟨_, us, u1, u2, ⟨cells, el, fr, u3, u4, u5, u6⟩, u7, u8⟩ | ⟨z, _⟩
          · have hcut : cutN n c.cells = c.cells := by
              cases n with
              | zero =>
                have : c.cells.length = 0 := by rw [← u1, l3]; simp
                rw [List.length_eq_zero_iff.1 this]; rfl
              | succ n => rfl
            rw [hcut]
            refine ⟨L'.b :: Tc, ⟨_, cap, rfl, l2, .inr ⟨L'.b, L'.d, L'.s, us, Tc, rfl, l0, rfl, by rw [← u1, l3], ⟨cells, el, fr, u3, by omega, fun i hi => u5 i (by omega), u6.imp (fun q => q) fun q => q.2⟩, u7, u8⟩⟩, ndc, fun x hx => ⟨cid, rfl, L', c, l1, hcid, .inr ⟨Tc, okc', hx⟩⟩⟩
          · omega
      obtain ⟨Ty, b1, b2, b3⟩ := back
      have p5 := p4 _ _ b1
      rw [hset] at p5
      have hd : ∀ i, i = id → ¬ i = cid := fun i q q2 => hne (q.symm.trans q2)
      have hT : ∀ x, x ∈ L.b :: T → HasS P w C H (· = id) x := fun x hx => ⟨id, rfl, L, b, hL, hk, .inr ⟨T, ok', hx⟩⟩
      have sub : ∀ x, x ∈ L.b :: (Ta ++ Tb) → x ∈ L.b :: T := by
        intro x hx
        rw [p2]; simpa using hx
      refine ⟨Ta ++ (Ty ++ Tb), ⟨z1, z2, .inl ⟨rfl, vs, ?_, by exact y4, ?_, y6, p5⟩⟩, ?_, fun x hx => ?_⟩
      · show L.len = (setMany cs j _).length
        rw [setMany_length]; exact y3
      · obtain ⟨cells, el, fr, q1, q2, q3, q4⟩ := y5
        refine ⟨cells, el, fr, q1, q2, q3, q4.imp (fun q => q) fun q => ⟨q.1, ?_⟩⟩
        -- a row of scalars holds no row
        exfalso
        have := List.all_eq_true.1 q.2 x0 (List.mem_of_getElem? y2)
        rw [yp] at this; cases this
      · rw [p2] at nd
        have e1 : (L.b :: (Ta ++ ([] ++ Tb))).Nodup := nd
        simp only [List.nil_append, List.nodup_cons, List.nodup_append, List.mem_append, not_or] at e1 ⊢
        obtain ⟨⟨a1, a2⟩, a3, a4, a5⟩ := e1
        refine ⟨⟨a1, fun q => ?_, a2⟩, a3, ⟨b2, a4, fun x hx y hy => ?_⟩, fun x hx y hy => ?_⟩
        · exact HasS.ne r hd (hT L.b (by simp)) (b3 _ q) rfl
        · exact (HasS.ne r hd (hT y (sub y (by simp [hy]))) (b3 x hx)).symm
        · rcases hy with hy | hy
          · exact HasS.ne r hd (hT x (sub x (by simp [hx]))) (b3 y hy)
          · exact a5 x hx y hy
      · have : x ∈ L.b :: (Ta ++ Tb) ∨ x ∈ Ty := by
          rcases List.mem_cons.1 hx with rfl | hx
          · exact .inl (by simp)
          · rcases List.mem_append.1 hx with hx | hx
            · exact .inl (by simp [hx])
            · rcases List.mem_append.1 hx with hx | hx
              · exact .inr hx
              · exact .inl (by simp [hx])
        rcases this with hx | hx
        · exact (hT x (sub x hx)).mono fun i q => .inl q
        · exact (b3 x hx).mono fun i q => .inr q
    refine tree_step r (fun i => i = id ∨ i = cid) rfl (fun i L q => q) (fun i ns => ⟨rfl, (h2 i fun q => ns (.inl q)).trans (setSt_not (by simpa using fun q => ns (.inr q)))⟩) (fun i L hs q => ?_) (fun i i' L L' k k' T T' hs1 hs2 ne q1 q2 q3 q4 o1 o2 x _ => ?_) (fun x hx _ => rfl) (Nat.le_refl _) rfl rfl rfl
    · rcases hs with rfl | rfl
      · obtain ⟨T, t1, t2, t3⟩ := key L q
        exact ⟨_, h1, by simp, fun _ => ⟨T, t1, t2, fun x hx => .inr (t3 x hx)⟩⟩
      · exact ⟨_, hcd, by simp, fun z => by simp at z⟩
    · exfalso
      have t1 := o1.st
      have t2 := o2.st
      have dead : ∀ k, upds (setSt H 2 [cid]) (newsF id ⟨b.arr, b.elem, 3, setMany cs j [.fs n (cutN n c.cells)]⟩ [cid]) cid = some k → k.st = 2 := fun k q => by rw [hcd] at q; cases q; rfl
      rcases hs1 with rfl | rfl
      · rcases hs2 with rfl | rfl
        · exact ne rfl
        · have := dead k' q4; omega
      · have := dead k q3; omega
end Go.Proofs.YtlcnpecejhcnfaaDoor.EV
