/- Calls that share the caller's memory: what is behind them. No conditions. -/
import Derived.Test.YtlcnpecejhcnfaaDoorEVdeep
namespace Go.Proofs.YtlcnpecejhcnfaaDoor.EV
set_option linter.unusedVariables false
set_option linter.unusedSimpArgs false
open Go Go.RowKit

theorem distinct_of : ∀ {l : List Nat}, (∀ (i j a b : Nat), l[i]? = some a → l[j]? = some b → i ≠ j → a ≠ b) → distinct l = true
  | [], _ => rfl
  | x :: r, h => by
    simp only [distinct, Bool.and_eq_true, Bool.not_eq_true', List.contains_eq_mem, decide_eq_false_iff_not]
    refine ⟨fun hm => ?_, distinct_of fun i j a b h1 h2 ne => h (i + 1) (j + 1) a b (by simpa using h1) (by simpa using h2) (by omega)⟩
    obtain ⟨n, hn⟩ := List.getElem?_of_mem hm
    exact h 0 (n + 1) x x rfl (by simpa using hn) (by omega) rfl
theorem deepL_len (refs : List Nat) (base n : Nat) (h : refs.length ≤ n) : (deepL refs base n).length = n := by
  unfold deepL
  rw [List.length_append, upto_length]
  omega
theorem deepL_lo {refs : List Nat} {base n j : Nat} (h : j < refs.length) : (deepL refs base n)[j]? = refs[j]? := by
  unfold deepL
  rw [List.getElem?_append_left h]
theorem deepL_hi {refs : List Nat} {base n j : Nat} (h : refs.length ≤ j) (h2 : j < n) : (deepL refs base n)[j]? = some (base + (j - refs.length)) := by
  unfold deepL
  rw [List.getElem?_append_right h, upto_get _ _ _ (by omega)]
theorem deepL_cases {refs : List Nat} {base n j i : Nat} (h : (deepL refs base n)[j]? = some i) (hl : refs.length ≤ n) : (j < refs.length ∧ refs[j]? = some i) ∨ (refs.length ≤ j ∧ j < n ∧ i = base + (j - refs.length)) := by
  have hj : j < n := by rw [← deepL_len refs base n hl]; exact (List.getElem?_eq_some_iff.1 h).1
  rcases Nat.lt_or_ge j refs.length with q | q
  · rw [deepL_lo q] at h; exact .inl ⟨q, h⟩
  · rw [deepL_hi q hj] at h; cases h; exact .inr ⟨q, hj, rfl⟩
theorem deepL_distinct {refs : List Nat} {base n : Nat} (hd : distinct refs = true) (hb : ∀ id, id ∈ refs → id < base) (hl : refs.length ≤ n) : distinct (deepL refs base n) = true :=
  distinct_of fun i j a b h1 h2 ne => by
    rcases deepL_cases h1 hl with ⟨q1, q2⟩ | ⟨q1, q2, q3⟩
    · have := hb a (List.mem_of_getElem? q2)
      rcases deepL_cases h2 hl with ⟨p1, p2⟩ | ⟨p1, p2, p3⟩
      · exact distinct_ne hd q2 p2 ne
      · omega
    · rcases deepL_cases h2 hl with ⟨p1, p2⟩ | ⟨p1, p2, p3⟩
      · have := hb b (List.mem_of_getElem? p2)
        omega
      · omega

/-- What the caller's memory is behind a call that shares it. -/
def afterD (cp : CP) (base : Nat) (f : FuncId) (i refs : List Nat) (r : List AV) (H : Nat → Option Blk) : Nat → Option Blk :=
  upds (setSt H 2 (deepDead (deepL refs base (deepR cp f i r).1.length) (deepR cp f i r).1)) (deepNews (deepL refs base (deepR cp f i r).1.length) (deepL refs base (deepR cp f i r).1.length) (deepR cp f i r).1)
theorem post_deep {cp : CP} {f : FuncId} (hdp : isDeep cp f = true) {w : World} {C : Ctx} {H : Nat → Option Blk} (hT : RelT cp.P w C H) {xs as : List AV} {i refs : List Nat} (hca : deepArgs H xs = some (as, refs)) {cvs : List Value} (hxs : RepL w C xs cvs)
    {base : Nat} (hb : ∀ id, base ≤ id → id < base + stride → C.φ id = none) {fn : Func} {r : List AV} {w' : World} {e : Ending}
    (ran : Ran cp w (renφ C refs) (look (takeArgs 0 as).2) fn f (refTys as) r e w') (hfit : deepFits cp base f i refs r = true) :
    ∃ u D, e = .returned u ∧ RelT cp.P w' D (afterD cp base f i refs r H) ∧ KeptT cp.P w C H w' D (afterD cp base f i refs r H) ∧
      Rep w' D (tupA ((deepR cp f i r).2.map (mv (deepL refs base (deepR cp f i r).1.length)))) u ∧ (∀ id, (id < base ∨ base + stride ≤ id) → D.φ id = C.φ id) := by
  obtain ⟨C', H', vs, us, rfl, kept, hCT, rl, fin, hnn⟩ := ran
  obtain ⟨_, _, plen, hdis, pre⟩ := pre_deep hT hca hxs
  have hH := hT.h
  have hC := hCT.h
  have rtl : (refTys as).length = refs.length := by unfold refTys; rw [List.length_map, plen]
  unfold finishV at fin
  rw [hdp] at fin
  simp only at fin
  rw [rtl] at fin
  unfold finishDeep at fin
  generalize endIds H' refs.length vs = E at fin
  cases hg : endOk H' refs.length E with
  | false => rw [hg] at fin; simp at fin
  | true =>
  rw [hg] at fin
  simp only [Option.some.injEq] at fin
  unfold endOk at hg
  rw [Bool.and_eq_true, Bool.and_eq_true, decide_eq_true_eq] at hg
  obtain ⟨⟨hdE, htk⟩, hal⟩ := hg
  -- the callee's numbers
  have hEn : ∀ (j : Nat), j < refs.length → E[j]? = some j := by
    intro j hj
    have := congrArg (fun l => l[j]?) htk
    simp only [List.getElem?_take, if_pos hj] at this
    rw [this]; simp [hj]
  have hnE : refs.length ≤ E.length := by
    have := congrArg List.length htk
    rw [List.length_take, List.length_range] at this
    omega
  have live : ∀ (id : Nat), id ∈ E → ∃ b, H' id = some b ∧ ((b.st = 0 ∨ b.st = 3) ∨ (b.st = 2 ∧ id < refs.length)) := by
    intro id hid
    have := List.all_eq_true.1 hal id hid
    cases hk : H' id with
    | none => rw [hk] at this; simp at this
    | some b =>
      rw [hk] at this
      simp only [Bool.or_eq_true, Bool.and_eq_true] at this
      refine ⟨b, rfl, ?_⟩
      rcases this with q | q | ⟨q1, q2⟩
      · exact .inl (.inl (nbeq_eq q))
      · exact .inl (.inr (nbeq_eq q))
      · exact .inr ⟨nbeq_eq q1, Nat.le_of_ble_eq_true q2⟩
  -- the form
  unfold deepFits at hfit
  rw [Bool.and_eq_true, Bool.and_eq_true, Bool.and_eq_true, Bool.and_eq_true] at hfit
  obtain ⟨hlow0, _, hle1, hle2, hsh⟩ := hfit
  have hlow : ∀ id, id ∈ refs → id < base := fun id hid => Nat.le_of_ble_eq_true (List.all_eq_true.1 hlow0 id hid)
  subst fin
  simp only [shR, Bool.and_eq_true] at hsh
  obtain ⟨hshB, hshV⟩ := hsh
  have hR : deepR cp f i (.tup (E.map (blkAV H' E)) :: vs.map (ren E)) = (cBs (tmB cp f i) (E.map (blkAV H' E)), cVs (tmV cp f i) (vs.map (ren E))) := rfl
  unfold afterD
  rw [hR]
  simp only
  generalize tmB cp f i = tb at *
  generalize tmV cp f i = tv at *
  have htl : tb.length = E.length := by rw [shBs_len hshB, List.length_map]
  rw [cBs_len, htl]
  rw [htl] at hle1 hle2
  have hle2' := Nat.le_of_ble_eq_true hle2
  generalize hLdef : deepL refs base E.length = L
  have hLl : L.length = E.length := by rw [← hLdef]; exact deepL_len _ _ _ hnE
  have hLd : distinct L = true := by rw [← hLdef]; exact deepL_distinct hdis hlow hnE
  -- where the new blocks lie
  let Dφ : Nat → Option Loc := fun id => if base ≤ id ∧ id < base + (E.length - refs.length) then (renφ C' E).φ (refs.length + (id - base)) else C.φ id
  have hDin : ∀ j, refs.length ≤ j → j < E.length → Dφ (base + (j - refs.length)) = (renφ C' E).φ j := by
    intro j h1 h2
    show (if _ then _ else _) = _
    rw [if_pos ⟨by omega, by omega⟩]
    congr 1
    omega
  have hDout : ∀ id, (id < base ∨ base + (E.length - refs.length) ≤ id) → Dφ id = C.φ id := by
    intro id h
    show (if _ then _ else _) = _
    rw [if_neg (by omega)]
  have hlo : ∀ j, j < refs.length → (renφ C' E).φ j = C'.φ j := by
    intro j hj
    show (match E[j]? with | some id => C'.φ id | none => none) = _
    rw [hEn j hj]
  -- numbers of the callee's as the caller's
  have hLm : ∀ (j : Nat) (M : Loc), (renφ C' E).φ j = some M → ∃ id, L[j]? = some id ∧ Dφ id = some M := by
    intro j M hj
    have hjE : j < E.length := by
      rcases Nat.lt_or_ge j E.length with q | q
      · exact q
      · change (match E[j]? with | some id => C'.φ id | none => none) = some M at hj
        rw [List.getElem?_eq_none q] at hj; cases hj
    rcases Nat.lt_or_ge j refs.length with q | q
    · rw [hlo j q] at hj
      obtain ⟨id, hid⟩ : ∃ id, refs[j]? = some id := ⟨_, List.getElem?_eq_getElem q⟩
      obtain ⟨k, k1, k2, k3⟩ := pre j id hid
      have hc0 : (renφ C refs).φ j = C.φ id := by
        show (match refs[j]? with | some id => C.φ id | none => none) = _
        rw [hid]
      refine ⟨id, by rw [← hLdef, deepL_lo q]; exact hid, ?_⟩
      have hCid : C.φ id = some M := by
        cases hq : C.φ id with
        | none =>
          have := hnn j _ k3 (by rw [hc0, hq])
          rw [this] at hj; cases hj
        | some M2 =>
          have := kept.step.φ j M2 (by rw [hc0, hq])
          rw [this] at hj; rw [hj]
      have := hlow id (List.mem_of_getElem? hid)
      rw [hDout id (.inl this)]; exact hCid
    · refine ⟨base + (j - refs.length), by rw [← hLdef]; exact deepL_hi q hjE, ?_⟩
      rw [hDin j q hjE]; exact hj
  -- and back: either one of the callee's, or the caller's beside them
  have back : ∀ (id : Nat) (M : Loc), Dφ id = some M → (∃ (j jd : Nat) (b : Blk), L[j]? = some id ∧ E[j]? = some jd ∧ C'.φ jd = some M ∧ H' jd = some b ∧ ((b.st = 0 ∨ b.st = 3) ∨ (b.st = 2 ∧ j < refs.length ∧ C.φ id = some M))) ∨ (id ∉ L ∧ C.φ id = some M) := by
    intro id M hid
    by_cases hr : base ≤ id ∧ id < base + (E.length - refs.length)
    · left
      have hj : id = base + ((refs.length + (id - base)) - refs.length) := by omega
      have hjE : refs.length + (id - base) < E.length := by omega
      rw [hj, hDin _ (by omega) hjE] at hid
      obtain ⟨jd, hjd⟩ : ∃ jd, E[refs.length + (id - base)]? = some jd := ⟨_, List.getElem?_eq_getElem hjE⟩
      obtain ⟨b, hb1, hb2⟩ := live jd (List.mem_of_getElem? hjd)
      change (match E[refs.length + (id - base)]? with | some id => C'.φ id | none => none) = some M at hid
      rw [hjd] at hid
      refine ⟨refs.length + (id - base), jd, b, ?_, hjd, hid, hb1, .inl ?_⟩
      · rw [← hLdef, deepL_hi (by omega) hjE]
        rw [← hj]
      · rcases hb2 with q | ⟨_, q⟩
        · exact q
        · exact absurd rfl (distinct_ne hdE hjd (hEn jd q) (by omega))
    · rw [hDout id (by omega)] at hid
      by_cases hm : id ∈ refs
      · left
        obtain ⟨j, hj⟩ := List.getElem?_of_mem hm
        have hjl := (List.getElem?_eq_some_iff.1 hj).1
        have hc0 : (renφ C refs).φ j = some M := by
          show (match refs[j]? with | some id => C.φ id | none => none) = _
          rw [hj]; exact hid
        have hEj := hEn j hjl
        obtain ⟨b, hb1, hb2⟩ := live j (List.mem_of_getElem? hEj)
        refine ⟨j, j, b, by rw [← hLdef, deepL_lo hjl]; exact hj, hEj, kept.step.φ j M hc0, hb1, ?_⟩
        rcases hb2 with q | ⟨q, _⟩
        · exact .inl q
        · exact .inr ⟨q, hjl, hid⟩
      · right
        refine ⟨fun hL => ?_, hid⟩
        obtain ⟨j, hj⟩ := List.getElem?_of_mem hL
        rw [← hLdef] at hj
        rcases deepL_cases hj hnE with ⟨q1, q2⟩ | ⟨q1, q2, q3⟩
        · exact hm (List.mem_of_getElem? q2)
        · omega
  -- the blocks as they come back
  have hblk : ∀ (j jd : Nat) (b : Blk), E[j]? = some jd → H' jd = some b → b.st = 0 → ∃ (t : AV) (cs : List AV), shB t (.ref b.arr b.elem (renB E b).cells) = true ∧ (cBs tb (E.map (blkAV H' E)))[j]? = some (AV.ref b.arr b.elem cs) ∧ cB t (.ref b.arr b.elem (renB E b).cells) = AV.ref b.arr b.elem cs := by
    intro j jd b h1 h2 h3
    obtain ⟨t, t1, t2⟩ := shBs_at (j := j) hshB (by rw [List.getElem?_map, h1]; rfl)
    rw [blkAV_live E h2 h3] at t1 t2
    have t1' := t1
    cases ha : b.arr <;> rw [ha] at t1 t2
    · cases t <;> simp only [shB, reduceCtorEq, Bool.false_eq_true] at t1
      rename_i ar e ts
      cases ar <;> simp only [shB, Bool.false_eq_true, Bool.and_eq_true] at t1
      have := nbeq_eq t1.1
      subst this
      exact ⟨AV.ref false b.elem ts, _, by rw [ha] at t1'; exact t1', t2, rfl⟩
    · cases t <;> simp only [shB, reduceCtorEq, Bool.false_eq_true] at t1
      rename_i ar e ts
      cases ar <;> simp only [shB, Bool.false_eq_true] at t1
      have := nbeq_eq t1
      subst this
      exact ⟨AV.ref true b.elem ts, _, by rw [ha] at t1'; exact t1', t2, rfl⟩
  have hdead : ∀ (j jd : Nat) (b : Blk), E[j]? = some jd → H' jd = some b → b.st = 2 → (cBs tb (E.map (blkAV H' E)))[j]? = some AV.any := by
    intro j jd b h1 h2 h3
    obtain ⟨t, t1, t2⟩ := shBs_at (j := j) hshB (by rw [List.getElem?_map, h1]; rfl)
    rw [blkAV_dead E h2 h3] at t1 t2
    cases t <;> first | exact t2 | (simp [shB] at t1; done) | (rename_i ar e ts; cases ar <;> simp [shB] at t1)
  have hblk3 : ∀ (j jd : Nat) (b : Blk), E[j]? = some jd → H' jd = some b → b.st = 3 → (cBs tb (E.map (blkAV H' E)))[j]? = some (AV.fp b.cells b.elem) := by
    intro j jd b h1 h2 h3
    obtain ⟨t, t1, t2⟩ := shBs_at (j := j) hshB (by rw [List.getElem?_map, h1]; rfl)
    rw [blkAV_tree E h2 h3] at t1 t2
    cases t <;> first | (simp [shB] at t1; done) | (rename_i ar e ts; cases ar <;> simp [shB] at t1; done) | skip
    rename_i cs e
    have he : e = b.elem := nbeq_eq t1
    rw [t2, he]
    rfl
  generalize hBS : cBs tb (E.map (blkAV H' E)) = BS at *
  -- the caller's memory behind the call
  generalize hHn : upds (setSt H 2 (deepDead L BS)) (deepNews L L BS) = Hn
  have hin : ∀ (id j jd : Nat) (b : Blk), L[j]? = some id → E[j]? = some jd → H' jd = some b → b.st = 0 → ∃ (t : AV) (cs : List AV), shB t (.ref b.arr b.elem (renB E b).cells) = true ∧ cB t (.ref b.arr b.elem (renB E b).cells) = AV.ref b.arr b.elem cs ∧ Hn id = some ⟨b.arr, b.elem, 0, match b.arr with | true => cs | false => cs.map (mv1 L)⟩ := by
    intro id j jd b h1 h2 h3 h4
    obtain ⟨t, cs, q1, q2, q3⟩ := hblk j jd b h2 h3 h4
    exact ⟨t, cs, q1, q3, by rw [← hHn]; exact deepNews_at hLd h1 q2⟩
  have hin3 : ∀ (id j jd : Nat) (b : Blk), L[j]? = some id → E[j]? = some jd → H' jd = some b → b.st = 3 → Hn id = some ⟨true, b.elem, 3, b.cells⟩ := by
    intro id j jd b h1 h2 h3 h4
    rw [← hHn]
    exact deepNews_at3 hLd h1 (hblk3 j jd b h2 h3 h4)
  have hde : ∀ (id j jd : Nat) (b : Blk), L[j]? = some id → E[j]? = some jd → H' jd = some b → b.st = 2 → ∀ k, H id = some k → Hn id = some { k with st := 2 } := by
    intro id j jd b h1 h2 h3 h4 k hk
    have q := hdead j jd b h2 h3 h4
    rw [← hHn, deepNews_any hLd h1 q]
    exact setSt_mem hk (deepDead_mem h1 q)
  have hout : ∀ id, id ∉ L → Hn id = H id := by
    intro id h
    rw [← hHn, deepNews_not h]
    exact setSt_not fun q => h (deepDead_sub q)
  -- shared blocks
  have ownn : ∀ x, RW (renφ C refs) (look (takeArgs 0 as).2) x ∨ TW cp.P w (renφ C refs) (look (takeArgs 0 as).2) x → ∃ rid k M, rid ∈ refs ∧ H rid = some k ∧ C.φ rid = some M ∧ ((k.st = 0 ∧ M.b = x) ∨ ∃ T, TreeOk cp.P w C M k T ∧ x ∈ M.b :: T) := by
    intro x hx
    have look_ : ∀ n k', look (takeArgs 0 as).2 n = some k' → ∀ M, (renφ C refs).φ n = some M → ∃ rid k, rid ∈ refs ∧ H rid = some k ∧ C.φ rid = some M ∧ (k.st = 0 ∨ k.st = 3) ∧ k' = renB refs k := by
      intro n k' hk M q
      change (match refs[n]? with | some id => C.φ id | none => none) = some M at q
      cases hr : refs[n]? with
      | none => rw [hr] at q; cases q
      | some rid =>
        rw [hr] at q
        obtain ⟨k, q1, q2, q3⟩ := pre n rid hr
        rw [q3] at hk
        refine ⟨rid, k, List.mem_of_getElem? hr, q1, q, q2, ?_⟩
        rw [← Option.some.inj hk, deepB_ren fun hs => ?_]
        obtain ⟨T, ok, _⟩ := hT.t.ok rid M k q q1 (by omega)
        exact ok.1
    rcases hx with ⟨n, M, k', q, hk, hs, hx⟩ | ⟨n, M, k', T, q, hk, ok, hx⟩
    · obtain ⟨rid, k, m1, m2, m3, m4, m5⟩ := look_ n k' hk M q
      rw [m5, renB_st] at hs
      exact ⟨rid, k, M, m1, m2, m3, .inl ⟨hs, hx⟩⟩
    · obtain ⟨rid, k, m1, m2, m3, m4, m5⟩ := look_ n k' hk M q
      have hst := ok.st
      rw [m5, renB_st] at hst
      have hk3 : k.st = 3 := by omega
      obtain ⟨T2, ok2, _⟩ := hT.t.ok rid M k m3 m2 (by omega)
      rw [m5, renB_arr ok2.1] at ok
      exact ⟨rid, k, M, m1, m2, m3, .inr ⟨T, ok.ctx hk3, hx⟩⟩
  have ownC : ∀ x, RW (renφ C refs) (look (takeArgs 0 as).2) x ∨ TW cp.P w (renφ C refs) (look (takeArgs 0 as).2) x → RW C H x ∨ TW cp.P w C H x := fun x q => by
    obtain ⟨rid, k, M, _, q1, q2, q3⟩ := ownn x q
    rcases q3 with ⟨q3, q4⟩ | ⟨T, q3, q4⟩
    · exact .inl ⟨rid, M, k, q2, q1, q3, q4⟩
    · exact .inr ⟨rid, M, k, T, q2, q1, q3, q4⟩
  have rwaC : ∀ x, RWa (renφ C refs) (look (takeArgs 0 as).2) x ∨ TW cp.P w (renφ C refs) (look (takeArgs 0 as).2) x → RWa C H x ∨ TW cp.P w C H x := by
    rintro x (⟨n, M, k', q, hk, hs, ha, hx⟩ | q)
    · change (match refs[n]? with | some id => C.φ id | none => none) = some M at q
      cases hr : refs[n]? with
      | none => rw [hr] at q; cases q
      | some rid =>
        rw [hr] at q
        obtain ⟨k, q1, q2, q3⟩ := pre n rid hr
        rw [q3] at hk; cases hk
        rcases q2 with q2 | q2
        · obtain ⟨k2, z1, ok⟩ := hH.blk rid M q
          rw [q1] at z1; cases z1
          rw [deepB_ren (fun z => by omega)] at ha
          exact .inl ⟨rid, M, k, q, q1, q2, by rw [← (renB_ok refs ok).2.2]; exact ha, hx⟩
        · unfold deepB at hs
          rw [show Nat.beq k.st 3 = true by rw [q2]; rfl] at hs
          simp at hs
    · rcases ownC x (.inr q) with z | z
      · obtain ⟨rid, k, M, _, q1, q2, q3⟩ := ownn x (.inr q)
        rcases q3 with ⟨q3, q4⟩ | ⟨T, q3, q4⟩
        · exfalso
          obtain ⟨n, M', k', T', p1, p2, p3, p4⟩ := q
          have hoff := (tw_off (pre_deep hT hca hxs).1 ⟨n, M', k', T', p1, p2, p3, p4⟩).1
          obtain ⟨j, hj⟩ := List.getElem?_of_mem (by assumption : rid ∈ refs)
          obtain ⟨k2, y1, y2, y3⟩ := pre j rid hj
          rw [q1] at y1; cases y1
          refine hoff ⟨j, M, _, ?_, y3, ?_, q4⟩
          · show (match refs[j]? with | some id => C.φ id | none => none) = _
            rw [hj]; exact q2
          · rw [deepB_ren (fun z => by omega), renB_st]; exact q3
        · exact .inr ⟨rid, M, k, T, q2, q1, q3, q4⟩
      · exact .inr z
  have notL : ∀ id, id ∉ L → id ∉ refs := fun id h1 q0 => h1 (by
    obtain ⟨j, hj⟩ := List.getElem?_of_mem q0
    have hjl := (List.getElem?_eq_some_iff.1 hj).1
    exact List.mem_of_getElem? (i := j) (by rw [← hLdef, deepL_lo hjl]; exact hj))
  -- what lies beside the shared blocks stays
  have beside : ∀ (id : Nat) (M : Loc) (k : Blk), id ∉ L → C.φ id = some M → H id = some k → k.st ≤ 1 → M.b < w.heap.size ∧ ¬ (RW (renφ C refs) (look (takeArgs 0 as).2) M.b ∨ TW cp.P w (renφ C refs) (look (takeArgs 0 as).2) M.b) := by
    intro id M k h1 h2 h3 h4
    refine ⟨live_old hH h2 h3 h4, fun q => ?_⟩
    obtain ⟨rid, k2, M2, q0, q1, q3, q4⟩ := ownn M.b q
    have hne : rid ≠ id := fun x => notL id h1 (x ▸ q0)
    rcases q4 with ⟨q2, q4⟩ | ⟨T, q2, q4⟩
    · exact hH.apart rid id M2 M k2 k q3 h2 q1 h3 q2 h4 hne q4
    · exact (hT.t.off rid M2 k2 T q3 q1 q2 M.b q4 id M k (Ne.symm hne) h2 h3).1 h4 rfl
  have besideT : ∀ (id : Nat) (M : Loc) (k : Blk) (T : List Nat), id ∉ L → C.φ id = some M → H id = some k → TreeOk cp.P w C M k T → ∀ x, x ∈ M.b :: T → x < w.heap.size ∧ ¬ (RW (renφ C refs) (look (takeArgs 0 as).2) x ∨ TW cp.P w (renφ C refs) (look (takeArgs 0 as).2) x) := by
    intro id M k T h1 h2 h3 ok x hx
    refine ⟨ok.rows x hx, fun q => ?_⟩
    obtain ⟨rid, k2, M2, q0, q1, q3, q4⟩ := ownn x q
    have hne : rid ≠ id := fun z => notL id h1 (z ▸ q0)
    rcases q4 with ⟨q2, q4⟩ | ⟨T2, q2, q4⟩
    · exact (hT.t.off id M k T h2 h3 ok x hx rid M2 k2 hne q3 q1).1 (by omega) q4
    · exact (hT.t.off id M k T h2 h3 ok x hx rid M2 k2 hne q3 q1).2 T2 q2 q4
  let D : Ctx := ⟨Dφ, C'.Fz⟩
  have stp : Step w C w' D := by
    refine ⟨fun id M h => ?_, fun b h => kept.step.Fz b h, fun b h => kept.step.same b h⟩
    show Dφ id = some M
    rcases Nat.lt_or_ge id base with q | q
    · rw [hDout id (.inl q)]; exact h
    · rcases Nat.lt_or_ge id (base + (E.length - refs.length)) with q2 | q2
      · rw [hb id q (by omega)] at h; cases h
      · rw [hDout id (.inr q2)]; exact h
  have offF : ∀ (id : Nat) (M : Loc) (k : Blk), id ∉ L → C.φ id = some M → H id = some k → k.st = 0 → ¬ C'.Fz M.b := by
    intro id M k h1 h2 h3 h4 hf
    obtain ⟨q1, q2⟩ := beside id M k h1 h2 h3 (by omega)
    rcases kept.fz M.b hf with q | q | q | q
    · obtain ⟨k2, z1, ok⟩ := hH.blk id M h2
      rw [h3] at z1; cases z1
      rcases ok with ok | ⟨e0, cells, el, fr, e1, e2, e3, e4, e5, e6, ea, e7, e8⟩
      · omega
      · exact e7 h4 q
    · exact q2 (.inl q.rw)
    · exact q2 (.inr q)
    · omega
  have hF : D.Fz = (renφ C' E).Fz := rfl
  -- what lives behind the call
  have lives : ∀ (id : Nat) (M : Loc) (k : Blk), Dφ id = some M → Hn id = some k → k.st ≤ 1 → (∃ (j jd : Nat) (b : Blk), L[j]? = some id ∧ E[j]? = some jd ∧ C'.φ jd = some M ∧ H' jd = some b ∧ b.st = 0 ∧ k.arr = b.arr ∧ k.st = 0) ∨ (id ∉ L ∧ C.φ id = some M ∧ H id = some k) := by
    intro id M k h1 h2 h3
    rcases back id M h1 with ⟨j, jd, b, b1, b2, b3, b4, b5⟩ | ⟨q1, q2⟩
    · rcases b5 with (b5 | b5) | ⟨b5, b6, b7⟩
      · left
        obtain ⟨t, cs, _, _, z⟩ := hin id j jd b b1 b2 b4 b5
        rw [z] at h2
        cases h2
        exact ⟨j, jd, b, b1, b2, b3, b4, b5, rfl, rfl⟩
      · rw [hin3 id j jd b b1 b2 b4 b5] at h2
        cases h2
        simp at h3
      · obtain ⟨k2, z1, _⟩ := hH.blk id M b7
        rw [hde id j jd b b1 b2 b4 b5 k2 z1] at h2
        cases h2
        simp at h3
    · rw [hout id q1] at h2
      exact .inr ⟨q1, q2, h2⟩
  have newb : ∀ (jd : Nat) (M : Loc) (b : Blk), C'.φ jd = some M → H' jd = some b → b.st = 0 → RW C' H' M.b := fun jd M b q1 q2 q3 => ⟨jd, M, b, q1, q2, q3, rfl⟩
  -- the trees behind the call
  have livesT : ∀ (id : Nat) (M : Loc) (k : Blk), Dφ id = some M → Hn id = some k → 3 ≤ k.st → (∃ (j jd : Nat), L[j]? = some id ∧ E[j]? = some jd ∧ C'.φ jd = some M ∧ H' jd = some k ∧ k.st = 3) ∨ (id ∉ L ∧ C.φ id = some M ∧ H id = some k) := by
    intro id M k h1 h2 h3
    rcases back id M h1 with ⟨j, jd, b, b1, b2, b3, b4, b5⟩ | ⟨q1, q2⟩
    · rcases b5 with (b5 | b5) | ⟨b5, b6, b7⟩
      · obtain ⟨t, cs, _, _, z⟩ := hin id j jd b b1 b2 b4 b5
        rw [z] at h2
        cases h2
        simp at h3
      · left
        rw [hin3 id j jd b b1 b2 b4 b5] at h2
        have hb : (⟨true, b.elem, 3, b.cells⟩ : Blk) = b := by
          obtain ⟨T, ok, _⟩ := hCT.t.ok jd M b b3 b4 (by omega)
          have := ok.1
          obtain ⟨a, e, s, cs⟩ := b
          simp only at this b5
          subst this; subst b5
          rfl
        rw [hb] at h2
        cases h2
        exact ⟨j, jd, b1, b2, b3, b4, b5⟩
      · obtain ⟨k2, z1, _⟩ := hH.blk id M b7
        rw [hde id j jd b b1 b2 b4 b5 k2 z1] at h2
        cases h2
        simp at h3
    · rw [hout id q1] at h2
      exact .inr ⟨q1, q2, h2⟩
  have keptO : ∀ x, RW C' H' x ∨ TW cp.P w' C' H' x → (RW (renφ C refs) (look (takeArgs 0 as).2) x ∨ TW cp.P w (renφ C refs) (look (takeArgs 0 as).2) x) ∨ w.heap.size ≤ x := fun x q => by
    rcases kept.rw x q with z | z | z
    · exact .inl (.inl z)
    · exact .inl (.inr z)
    · exact .inr z
  have stayT : ∀ (id : Nat) (M : Loc) (k : Blk) (T : List Nat), id ∉ L → C.φ id = some M → H id = some k → TreeOk cp.P w C M k T → TreeOk cp.P w' D M k T := fun id M k T h1 h2 h3 ok =>
    ok.same (fun x hx => by
      obtain ⟨p1, p2⟩ := besideT id M k T h1 h2 h3 ok x hx
      exact kept.blk x p1 (fun q => p2 (.inl q)) (fun q => p2 (.inr q))) stp.φ
  -- a tree of this kind or of that
  have kinds : ∀ (id : Nat) (M : Loc) (k : Blk) (T : List Nat), Dφ id = some M → Hn id = some k → TreeOk cp.P w' D M k T → (∃ (j jd : Nat), L[j]? = some id ∧ E[j]? = some jd ∧ C'.φ jd = some M ∧ H' jd = some k ∧ TreeOk cp.P w' C' M k T) ∨ (id ∉ L ∧ C.φ id = some M ∧ H id = some k ∧ TreeOk cp.P w C M k T) := by
    intro id M k T h1 h2 ok
    rcases livesT id M k h1 h2 ok.st.1 with ⟨j, jd, b1, b2, b3, b4, b5⟩ | ⟨q1, q2, q3⟩
    · exact .inl ⟨j, jd, b1, b2, b3, b4, ok.ctx b5⟩
    · obtain ⟨T2, ok2, _⟩ := hT.t.ok id M k q2 q3 ok.st.1
      have := (stayT id M k T2 q1 q2 q3 ok2).uniq ok
      subst this
      exact .inr ⟨q1, q2, q3, ok2⟩
  have treesH : TreeH cp.P w' D Hn := by
    refine ⟨fun id M k h hk hs => ?_, fun id M k T h hk ok x hx id' M' k' ne h' hk' => ?_⟩
    · rcases livesT id M k h hk hs with ⟨j, jd, b1, b2, b3, b4, b5⟩ | ⟨q1, q2, q3⟩
      · obtain ⟨T, ok, nd, fz⟩ := hCT.t.ok jd M k b3 b4 hs
        exact ⟨T, ok.ctx b5, nd, fz⟩
      · obtain ⟨T, ok, nd, fz⟩ := hT.t.ok id M k q2 q3 hs
        refine ⟨T, stayT id M k T q1 q2 q3 ok, nd, fun x hx hf => ?_⟩
        obtain ⟨p1, p2⟩ := besideT id M k T q1 q2 q3 ok x hx
        rcases kept.fz x hf with z | z | z | z
        · exact fz x hx z
        · exact p2 (.inl z.rw)
        · exact p2 (.inr z)
        · omega
    · rcases kinds id M k T h hk ok with ⟨j, jd, b1, b2, b3, b4, b5⟩ | ⟨q1, q2, q3, q4⟩
      · refine ⟨fun hs => ?_, fun T' ok' => ?_⟩
        · rcases lives id' M' k' h' hk' hs with ⟨j', jd', b', c1, c2, c3, c4, c5, _⟩ | ⟨c1, c2, c3⟩
          · have hjj : j' ≠ j := fun q => by subst q; rw [b1] at c1; cases c1; exact ne rfl
            exact (hCT.t.off jd M k T b3 b4 b5 x hx jd' M' b' (distinct_ne hdE c2 b2 hjj) c3 c4).1 (by omega)
          · obtain ⟨p1, p2⟩ := beside id' M' k' c1 c2 c3 hs
            intro q
            rcases keptO x (.inr ⟨jd, M, k, T, b3, b4, b5, hx⟩) with z | z
            · exact p2 (q ▸ z)
            · omega
        · rcases kinds id' M' k' T' h' hk' ok' with ⟨j', jd', c1, c2, c3, c4, c5⟩ | ⟨c1, c2, c3, c4⟩
          · have hjj : j' ≠ j := fun q => by subst q; rw [b1] at c1; cases c1; exact ne rfl
            exact (hCT.t.off jd M k T b3 b4 b5 x hx jd' M' k' (distinct_ne hdE c2 b2 hjj) c3 c4).2 T' c5
          · intro hx'
            obtain ⟨p1, p2⟩ := besideT id' M' k' T' c1 c2 c3 c4 x hx'
            rcases keptO x (.inr ⟨jd, M, k, T, b3, b4, b5, hx⟩) with z | z
            · exact p2 z
            · omega
      · obtain ⟨p1, p2⟩ := besideT id M k T q1 q2 q3 q4 x hx
        refine ⟨fun hs => ?_, fun T' ok' => ?_⟩
        · rcases lives id' M' k' h' hk' hs with ⟨j', jd', b', c1, c2, c3, c4, c5, _⟩ | ⟨c1, c2, c3⟩
          · intro q
            rcases keptO M'.b (.inl ⟨jd', M', b', c3, c4, c5, rfl⟩) with z | z
            · exact p2 (q ▸ z)
            · omega
          · exact (hT.t.off id M k T q2 q3 q4 x hx id' M' k' ne c2 c3).1 hs
        · rcases kinds id' M' k' T' h' hk' ok' with ⟨j', jd', c1, c2, c3, c4, c5⟩ | ⟨c1, c2, c3, c4⟩
          · intro hx'
            rcases keptO x (.inr ⟨jd', M', k', T', c3, c4, c5, hx'⟩) with z | z
            · exact p2 z
            · omega
          · exact (hT.t.off id M k T q2 q3 q4 x hx id' M' k' ne c2 c3).2 T' c4
  have twn : ∀ x, TW cp.P w' D Hn x → TW cp.P w' C' H' x ∨ TW cp.P w C H x := by
    rintro x ⟨id, M, k, T, h1, h2, ok, hx⟩
    rcases kinds id M k T h1 h2 ok with ⟨j, jd, b1, b2, b3, b4, b5⟩ | ⟨q1, q2, q3, q4⟩
    · exact .inl ⟨jd, M, k, T, b3, b4, b5, hx⟩
    · exact .inr ⟨id, M, k, T, q2, q3, q4, hx⟩
  refine ⟨oneOr us, D, rfl, ⟨⟨fun id M h => ?_, fun id id' M M' k k' h h' hk hk' hs hs' ne => ?_, hC.old⟩, treesH⟩, ⟨stp, kept.os, kept.tape, kept.output, kept.size, fun x q1 q2 q3 => kept.blk x q1 (fun z => (ownC x (.inl z)).elim q2 q3) (fun z => (ownC x (.inr z)).elim q2 q3), fun x q => ?_, fun x q => ?_, fun x q => ?_⟩, ?_, fun id h => hDout id (by omega)⟩
  · change Dφ id = some M at h
    rcases back id M h with ⟨j, jd, b, b1, b2, b3, b4, b5⟩ | ⟨q1, q2⟩
    · rcases b5 with (b5 | b5) | ⟨b5, b6, b7⟩
      rotate_left
      · exact ⟨_, hin3 id j jd b b1 b2 b4 b5, .inl (by show 2 ≤ 3; omega)⟩
      rotate_left
      · obtain ⟨t, cs, z1, z2, z3⟩ := hin id j jd b b1 b2 b4 b5
        refine ⟨_, z3, ?_⟩
        obtain ⟨k2, y1, ok⟩ := hC.blk jd M b3
        rw [b4] at y1; cases y1
        rcases (renB_ok E ok).1 with ok' | ⟨e0, cells, el, fr, e1, e2, e3, e4, e5, e6, ea, e7, e8⟩
        · rw [(renB_ok E ok).2.1] at ok'; omega
        · have hra := (renB_ok E ok).2.2
          have hrs := (renB_ok E ok).2.1
          have hre : (renB E b).elem = b.elem := by unfold renB; cases b.arr <;> rfl
          cases ha : b.arr with
          | true =>
            rw [ha] at z1 z2
            cases t <;> simp only [shB, reduceCtorEq, Bool.false_eq_true] at z1
            rename_i ar te ts
            cases ar <;> simp only [shB, Bool.false_eq_true] at z1
            have he := nbeq_eq z1
            subst he
            simp only [cB, AV.refCells, AV.ref.injEq, true_and] at z2
            subst z2
            refine .inr ⟨Nat.zero_le _, cells, el, fr, e1, e2, e3, ⟨fun _ => ?_, e4.2.1.trans hre, fun q => by cases q⟩, e5, repAt_step' (Step.of_bare w' D) _ _ _ rfl (ea (by rw [hra]; exact ha)), fun _ => ea (by rw [hra]; exact ha), fun _ => e7 (by rw [hrs]; exact b5), fun q => by simp at q⟩
            have := e4.1 (by rw [hra]; exact ha)
            rw [hre] at this
            exact this
          | false =>
            rw [ha] at z1 z2
            cases t <;> simp only [shB, reduceCtorEq, Bool.false_eq_true] at z1
            rename_i ar te ts
            cases ar <;> simp only [shB, Bool.false_eq_true, Bool.and_eq_true] at z1
            have he := nbeq_eq z1.1
            subst he
            simp only [cB, AV.refCells, AV.ref.injEq, true_and] at z2
            subst z2
            have hln : ((cL ts (renB E b).cells).map (mv1 L)).length = (renB E b).cells.length := by rw [List.length_map, cL_len, shL_len z1.2]
            refine .inr ⟨Nat.zero_le _, cells, el, fr, e1, e2, e3, ⟨(fun q => Bool.noConfusion q), e4.2.1.trans hre, fun _ => by have := e4.2.2 (by rw [hra]; exact ha); rw [hre] at this; exact this⟩, ⟨by rw [e5.1]; exact hln.symm, by show M.d + ((cL ts (renB E b).cells).map (mv1 L)).length ≤ M.top; rw [hln]; exact e5.2⟩, mv1At_rep hF hLm (cL_at z1.2 e6), (fun q => Bool.noConfusion q), fun _ => e7 (by rw [hrs]; exact b5), fun q => by simp at q⟩
      · obtain ⟨k2, z1, _⟩ := hH.blk id M b7
        exact ⟨_, hde id j jd b b1 b2 b4 b5 k2 z1, .inl (Nat.le_refl _)⟩
    · obtain ⟨k, hk, ok⟩ := hH.blk id M q2
      refine ⟨k, by rw [hout id q1]; exact hk, ?_⟩
      exact blkOk_step stp (fun hs => by
        obtain ⟨p1, p2⟩ := beside id M k q1 q2 hk hs
        exact kept.blk M.b p1 (fun q => p2 (.inl q)) (fun q => p2 (.inr q))) (fun hz hf => absurd hf (offF id M k q1 q2 hk hz)) ok
  · change Dφ id = some M at h
    change Dφ id' = some M' at h'
    have cross : ∀ (id id' : Nat) (M M' : Loc) (k' : Blk) (jd : Nat) (b : Blk), C'.φ jd = some M → H' jd = some b → b.st = 0 → id' ∉ L → C.φ id' = some M' → H id' = some k' → k'.st ≤ 1 → M.b ≠ M'.b := by
      intro id id' M M' k' jd b b3 b4 b5 c1 c2 c3 c4 hq
      obtain ⟨p1, p2⟩ := beside id' M' k' c1 c2 c3 c4
      rcases keptO M.b (.inl (newb jd M b b3 b4 b5)) with q | q
      · rw [hq] at q; exact p2 q
      · omega
    rcases lives id M k h hk (by omega) with ⟨j, jd, b, b1, b2, b3, b4, b5, _⟩ | ⟨q1, q2, q3⟩
    · rcases lives id' M' k' h' hk' hs' with ⟨j', jd', b', c1, c2, c3, c4, c5, _⟩ | ⟨c1, c2, c3⟩
      · have hjj : j ≠ j' := fun q => by subst q; rw [b1] at c1; cases c1; exact ne rfl
        exact hC.apart jd jd' M M' b b' b3 c3 b4 c4 b5 (by omega) (distinct_ne hdE b2 c2 hjj)
      · exact cross id id' M M' k' jd b b3 b4 b5 c1 c2 c3 hs'
    · rcases lives id' M' k' h' hk' hs' with ⟨j', jd', b', c1, c2, c3, c4, c5, _⟩ | ⟨c1, c2, c3⟩
      · exact fun q => cross id' id M' M k jd' b' c3 c4 c5 q1 q2 q3 (by omega) q.symm
      · exact hH.apart id id' M M' k k' q2 c2 q3 c3 hs hs' ne
  · have up : ∀ x, RW C' H' x ∨ TW cp.P w' C' H' x → RW C H x ∨ TW cp.P w C H x ∨ w.heap.size ≤ x := fun x q => by
      rcases keptO x q with z | z
      · exact (ownC x z).imp (fun y => y) .inl
      · exact .inr (.inr z)
    rcases q with ⟨id, M, k, h1, h2, h3, h4⟩ | q
    · rcases lives id M k h1 h2 (by omega) with ⟨j, jd, b, b1, b2, b3, b4, b5, _⟩ | ⟨q1, q2, q3⟩
      · exact up x (.inl ⟨jd, M, b, b3, b4, b5, h4⟩)
      · exact .inl ⟨id, M, k, q2, q3, h3, h4⟩
    · rcases twn x q with q | q
      · exact up x (.inr q)
      · exact .inr (.inl q)
  · have up : ∀ x, RWa C' H' x ∨ TW cp.P w' C' H' x → RWa C H x ∨ TW cp.P w C H x ∨ w.heap.size ≤ x := fun x q => by
      rcases kept.rwa x q with z | z | z
      · exact (rwaC x (.inl z)).imp (fun y => y) .inl
      · exact (rwaC x (.inr z)).imp (fun y => y) .inl
      · exact .inr (.inr z)
    rcases q with ⟨id, M, k, h1, h2, h3, ha, h4⟩ | q
    · rcases lives id M k h1 h2 (by omega) with ⟨j, jd, b, b1, b2, b3, b4, b5, b6, _⟩ | ⟨q1, q2, q3⟩
      · exact up x (.inl ⟨jd, M, b, b3, b4, b5, by rw [← b6]; exact ha, h4⟩)
      · exact .inl ⟨id, M, k, q2, q3, h3, ha, h4⟩
    · rcases twn x q with q | q
      · exact up x (.inr q)
      · exact .inr (.inl q)
  · rcases kept.fz x q with q | q | q | q
    · exact .inl q
    · exact .inr ((rwaC x (.inl q)).imp (fun y => y) .inl)
    · exact .inr ((rwaC x (.inr q)).imp (fun y => y) .inl)
    · exact .inr (.inr (.inr q))
  · exact repL_tup (mvL_rep hF hLm (cVs_rep hshV (renL_rep E rl)))
end Go.Proofs.YtlcnpecejhcnfaaDoor.EV
