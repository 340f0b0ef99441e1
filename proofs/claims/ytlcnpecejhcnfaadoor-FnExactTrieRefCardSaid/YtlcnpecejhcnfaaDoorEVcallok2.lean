/- A call of the program's own: the law. No conditions. -/
import Derived.Test.YtlcnpecejhcnfaaDoorEVcallok
namespace Go.Proofs.YtlcnpecejhcnfaaDoor.EV
set_option linter.unusedVariables false
set_option linter.unusedSimpArgs false
open Go Go.RowKit

theorem repL_tup {w : World} {D : Ctx} {xs : List AV} {us : List Value} (r : RepL w D xs us) : Rep w D (tupA xs) (oneOr us) := by
  match xs, us, r with
  | [], us, r => cases r; exact ⟨[], rfl, rfl⟩
  | [x], us, r =>
    obtain ⟨v, s, rfl, r1, r2⟩ := r
    cases r2
    exact r1
  | x :: y :: zs, us, r =>
    have r' := r
    obtain ⟨v, s, rfl, r1, r2⟩ := r
    obtain ⟨v2, s2, rfl, r3, r4⟩ := r2
    exact ⟨_, rfl, r'⟩

theorem closed1_noids {P : Program} {H : Nat → Option Blk} {x y : AV} {l : List Nat} (h : closed1 P H x = some (y, l)) (hx : ∀ id off n, x ≠ .own id off n) : l = [] := by
  cases l with
  | nil => rfl
  | cons a r =>
    obtain ⟨_, _, _, _, off, n, q⟩ := closed1_ids h a (by simp)
    exact absurd q (hx _ _ _)
/-- Behind the call: what the caller holds, and what came back. -/
theorem refsOut_at {P : Program} {H : Nat → Option Blk} : ∀ {ts : List TypeId} {n0 : Nat} {qs : List AV} {j : List Nat}, refsOut P H n0 ts = some (qs, j) → ∀ n t, ts[n]? = some t →
    ∃ b ys l, H (n0 + n) = some b ∧ b.st = 0 ∧ closedAll P H b.cells = some (ys, l) ∧ (∀ x, x ∈ l → x ∈ j) ∧ ys.length = (flat P 8 t).length ∧ okAll (flat P 8 t) ys = true ∧ hdV (qs.drop n) = .agg ys ∧ b.elem = t
  | [], _, _, _, _, n, t, e => by simp at e
  | t0 :: ts, n0, qs, j, h, n, t, e => by
    unfold refsOut at h
    cases hb : H n0 with
    | none => rw [hb] at h; simp at h
    | some b =>
      rw [hb] at h
      simp only at h
      cases h1 : (Nat.beq b.st 0 && Nat.beq b.elem t0) with
      | false => rw [h1] at h; simp at h
      | true =>
      cases h2 : closedAll P H b.cells with
      | none => rw [h1, h2] at h; simp at h
      | some p =>
        cases h3 : refsOut P H (n0 + 1) ts with
        | none => rw [h1, h2, h3] at h; simp at h
        | some q =>
          obtain ⟨ys, i⟩ := p
          obtain ⟨l, j'⟩ := q
          rw [h1, h2, h3] at h
          simp only at h
          cases h4 : (Nat.beq ys.length (flat P 8 t0).length && okAll (flat P 8 t0) ys) with
          | false => rw [h4] at h; simp at h
          | true =>
            rw [h4] at h
            simp only [Option.some.injEq, Prod.mk.injEq] at h
            obtain ⟨rfl, rfl⟩ := h
            rw [Bool.and_eq_true] at h4
            cases n with
            | zero =>
              simp only [List.getElem?_cons_zero, Option.some.injEq] at e
              subst e
              rw [Bool.and_eq_true] at h1
              exact ⟨b, ys, i, hb, nbeq_eq h1.1, h2, fun x hx => by simp [hx], nbeq_eq h4.1, h4.2, rfl, nbeq_eq h1.2⟩
            | succ n =>
              obtain ⟨b', ys', l', a1, a2, a3, a4, a5, a6, a7, a8⟩ := refsOut_at h3 n t (by simpa using e)
              exact ⟨b', ys', l', by rw [show n0 + (n + 1) = n0 + 1 + n by omega]; exact a1, a2, a3, fun x hx => by simp [a4 x hx], a5, a6, by simpa using a7, a8⟩
theorem refsOut_ids {P : Program} {H : Nat → Option Blk} : ∀ {ts : List TypeId} {n0 : Nat} {qs : List AV} {j : List Nat}, refsOut P H n0 ts = some (qs, j) → ∀ id, id ∈ j → ∃ k, H id = some k ∧ k.st ≤ 1 ∧ k.arr = true
  | [], _, _, _, h, id, hid => by
    simp only [refsOut, Option.some.injEq, Prod.mk.injEq] at h
    rw [← h.2] at hid; simp at hid
  | t0 :: ts, n0, qs, j, h, id, hid => by
    unfold refsOut at h
    cases hb : H n0 with
    | none => rw [hb] at h; simp at h
    | some b =>
      rw [hb] at h
      simp only at h
      cases h1 : (Nat.beq b.st 0 && Nat.beq b.elem t0) with
      | false => rw [h1] at h; simp at h
      | true =>
      cases h2 : closedAll P H b.cells with
      | none => rw [h1, h2] at h; simp at h
      | some p =>
        cases h3 : refsOut P H (n0 + 1) ts with
        | none => rw [h1, h2, h3] at h; simp at h
        | some q =>
          obtain ⟨ys, i⟩ := p
          obtain ⟨l, j'⟩ := q
          rw [h1, h2, h3] at h
          simp only at h
          cases h4 : (Nat.beq ys.length (flat P 8 t0).length && okAll (flat P 8 t0) ys) with
          | false => rw [h4] at h; simp at h
          | true =>
            rw [h4] at h
            simp only [Option.some.injEq, Prod.mk.injEq] at h
            obtain ⟨rfl, rfl⟩ := h
            rcases List.mem_append.1 hid with hid | hid
            · obtain ⟨k, q1, q2, q3, _⟩ := closedAll_ids h2 id hid; exact ⟨k, q1, q2, q3⟩
            · exact refsOut_ids h3 id hid
theorem okRes_drop {P : Program} : ∀ {ts : List TypeId} {os qs : List AV}, okRes P ts os = true → dropV ts (os ++ qs) = qs ∧ ∀ fresh b, takeVals fresh P b ts (os ++ qs) = takeVals fresh P b ts os
  | [], [], qs, _ => ⟨rfl, fun _ _ => rfl⟩
  | [], _ :: _, _, h => by simp [okRes] at h
  | _ :: _, [], _, h => by simp [okRes] at h
  | t :: ts, v :: vs, qs, h => by
    simp only [okRes, Bool.and_eq_true] at h
    obtain ⟨h1, h2⟩ := okRes_drop (qs := qs) h.2
    refine ⟨h1, fun fresh b => ?_⟩
    show (let x := takeVal fresh P b t v; let r := takeVals fresh P x.2.2 ts (vs ++ qs); (x.1 :: r.1, x.2.1 ++ r.2.1, r.2.2)) = _
    simp only [h2]
    rfl
theorem takeRefs_ids {P : Program} {id : Nat} : ∀ {l : List Nat} {vs : List AV} {h : Nat → Option Blk}, id ∉ l → ∀ f, upds f (takeRefs P h l vs) id = f id
  | [], _, _, _, _ => rfl
  | j :: r, vs, h, hn, f => by
    rw [takeRefs]
    cases h j with
    | none => exact takeRefs_ids (fun q => hn (by simp [q])) f
    | some b =>
      simp only [upds]
      rw [takeRefs_ids (fun q => hn (by simp [q]))]
      exact upd_other _ _ fun q => hn (by simp [q])
theorem takeRefs_get {P : Program} {id : Nat} {k : Blk} : ∀ {l : List Nat} {vs : List AV} {h : Nat → Option Blk} {n : Nat}, distinct l = true → l[n]? = some id → h id = some k → ∀ f, upds f (takeRefs P h l vs) id = some { k with cells := castAll (flat P 8 k.elem) (hdV (vs.drop n)).parts1 }
  | [], _, _, _, _, e, _, _ => by simp at e
  | j :: r, vs, h, n, hd, e, hk, f => by
    have hd' := hd
    simp only [distinct, Bool.and_eq_true, Bool.not_eq_true', List.contains_eq_mem, decide_eq_false_iff_not] at hd
    rw [takeRefs]
    cases n with
    | zero =>
      simp only [List.getElem?_cons_zero, Option.some.injEq] at e
      subst e
      rw [hk]
      simp only [upds]
      rw [takeRefs_ids hd.1]
      exact upd_same _ _ _
    | succ n =>
      have e' : r[n]? = some id := by simpa using e
      have hdr : vs.tail.drop n = vs.drop (n + 1) := by cases vs <;> simp
      cases h j with
      | none =>
        have := takeRefs_get (P := P) (vs := tlV vs) hd.2 e' hk f
        unfold tlV at this
        rw [hdr] at this
        exact this
      | some b =>
        simp only [upds]
        have := takeRefs_get (P := P) (vs := tlV vs) hd.2 e' hk (upd f j (some { b with cells := castAll (flat P 8 b.elem) (hdV vs).parts1 }))
        unfold tlV at this
        rw [hdr] at this
        exact this
theorem blkNum_len : ∀ (bs : List AV) (b : Nat), (blkNum b bs).length = bs.length
  | [], _ => rfl
  | x :: r, b => by simp [blkNum, blkNum_len r (b + 1)]
theorem blkNum_keys : ∀ (bs : List AV) (b n : Nat) (p : Nat × Blk), (blkNum b bs)[n]? = some p → p.1 = b + n
  | [], _, _, _, h => by simp [blkNum] at h
  | x :: r, b, 0, p, h => by
    simp only [blkNum, List.getElem?_cons_zero, Option.some.injEq] at h
    rw [← h]; rfl
  | x :: r, b, n + 1, p, h => by
    have := blkNum_keys r (b + 1) n p (by simpa [blkNum] using h)
    omega
theorem takeArgs_keys : ∀ (as : List AV) (b n : Nat) (p : Nat × Blk), (takeArgs b as).2[n]? = some p → p.1 = b + n
  | [], _, _, _, h => by simp [takeArgs] at h
  | v :: r, b, n, p, h => by
    cases v
    case ref a e cs =>
      simp only [takeArgs] at h
      cases n with
      | zero => simp only [List.getElem?_cons_zero, Option.some.injEq] at h; subst h; rfl
      | succ n =>
        have := takeArgs_keys r (b + 1) n p (by simpa using h)
        omega
    case tup bs =>
      simp only [takeArgs] at h
      have hl : (blkNum b bs).length = bs.length := blkNum_len bs b
      rcases Nat.lt_or_ge n bs.length with q | q
      · rw [List.getElem?_append_left (by omega)] at h
        exact blkNum_keys bs b n p h
      · rw [List.getElem?_append_right (by omega), hl] at h
        have := takeArgs_keys r (b + bs.length) (n - bs.length) p h
        omega
    all_goals exact takeArgs_keys r b n p h
theorem look_at {α : Type} : ∀ {l : List (Nat × α)} {b n : Nat} {p : Nat × α}, (∀ n p, l[n]? = some p → p.1 = b + n) → l[n]? = some p → look l (b + n) = some p.2
  | [], _, _, _, _, h => by simp at h
  | (d, v) :: r, b, n, p, hk, h => by
    have hd : d = b := by have := hk 0 (d, v) rfl; simpa using this
    subst hd
    cases n with
    | zero =>
      simp only [List.getElem?_cons_zero, Option.some.injEq] at h
      subst h
      simp [look]
    | succ n =>
      unfold look
      rw [nbeq_ne (by omega), show d + (n + 1) = d + 1 + n by omega]
      exact look_at (b := d + 1) (fun n p h => by have := hk (n + 1) p (by simpa using h); omega) (by simpa using h)
theorem takeArgs_look {as : List AV} {id : Nat} {b : Blk} (h : look (takeArgs 0 as).2 id = some b) : id < (takeArgs 0 as).2.length := by
  obtain ⟨p, hp, h1, _⟩ := look_lt h
  obtain ⟨n, hn⟩ := List.getElem?_of_mem hp
  have := takeArgs_keys as 0 n p hn
  have := (List.getElem?_eq_some_iff.1 hn).1
  omega
theorem refTys_at {as : List AV} {n : Nat} {k : Blk} (h : look (takeArgs 0 as).2 n = some k) {t : TypeId} (ht : k.elem = t) : (refTys as)[n]? = some t := by
  subst ht
  have hlt : n < (takeArgs 0 as).2.length := by
    obtain ⟨p, hp, h1, h2⟩ := look_lt h
    obtain ⟨i, hi⟩ := List.getElem?_of_mem hp
    have := takeArgs_keys as 0 i p hi
    have := (List.getElem?_eq_some_iff.1 hi).1
    omega
  have h1 : (takeArgs 0 as).2[n]? = some ((takeArgs 0 as).2[n]) := List.getElem?_eq_getElem hlt
  have := look_at (b := 0) (takeArgs_keys as 0) h1
  rw [Nat.zero_add, h] at this
  unfold refTys
  rw [List.getElem?_map, h1]
  simp only [Option.map_some]
  rw [Option.some.inj this]

theorem closedArg_st {P : Program} {H : Nat → Option Blk} {x y : AV} {l q : List Nat} (h : closedArg P H x = some (y, l, q)) : ∀ b, (takeArgs b [y]).2 = [] ∨ ∃ k : Blk, k.st = 0 ∧ (takeArgs b [y]).2 = [(b, k)] := by
  intro b
  rcases closedArg_cases h with ⟨_, hc⟩ | ⟨id, k, ys, _, _, _, _, _, rfl⟩
  · left
    have hnr : ∀ a e cs, y ≠ .ref a e cs := by
      rcases hc with hc | ⟨_, ys, _, rfl, _⟩
      · exact closed1_noref hc
      · intro a e cs q; cases q
    have hnt : ∀ bs, y ≠ .tup bs := by
      rcases hc with hc | ⟨_, ys, _, rfl, _⟩
      · exact closed1_notup hc
      · intro bs q; cases q
    rw [takeArgs_plain hnr hnt]; rfl
  · exact .inr ⟨⟨k.arr, k.elem, 0, ys⟩, rfl, rfl⟩
theorem closedArgs_st {P : Program} {H : Nat → Option Blk} : ∀ {xs as : List AV} {fz rs : List Nat} {b : Nat}, closedArgs P H xs = some (as, fz, rs) → ∀ p ∈ (takeArgs b as).2, p.2.st = 0
  | [], as, fz, rs, b, h, p, hp => by
    simp only [closedArgs, Option.some.injEq, Prod.mk.injEq] at h
    obtain ⟨rfl, _⟩ := h
    simp [takeArgs] at hp
  | x :: xs, as, fz, rs, b, h, p, hp => by
    simp only [closedArgs] at h
    cases h1 : closedArg P H x with
    | none => rw [h1] at h; simp at h
    | some q1 =>
      cases h2 : closedArgs P H xs with
      | none => rw [h1, h2] at h; simp at h
      | some q2 =>
        obtain ⟨y, i, q⟩ := q1
        obtain ⟨bs, j, q'⟩ := q2
        rw [h1, h2] at h
        simp only [Option.some.injEq, Prod.mk.injEq] at h
        obtain ⟨rfl, rfl, rfl⟩ := h
        rcases closedArg_cases h1 with ⟨_, hc⟩ | ⟨id, k, ys, _, _, _, _, _, rfl⟩
        · have hnr : ∀ a e cs, y ≠ .ref a e cs := by
            rcases hc with hc | ⟨_, ys, _, rfl, _⟩
            · exact closed1_noref hc
            · intro a e cs q; cases q
          have hnt : ∀ bs, y ≠ .tup bs := by
            rcases hc with hc | ⟨_, ys, _, rfl, _⟩
            · exact closed1_notup hc
            · intro bs q; cases q
          rw [takeArgs_plain hnr hnt] at hp
          exact closedArgs_st h2 p hp
        · simp only [takeArgs, List.mem_cons] at hp
          rcases hp with rfl | hp
          · rfl
          · exact closedArgs_st h2 p hp
theorem argsNoT {P : Program} {H : Nat → Option Blk} {xs as : List AV} {fz rs : List Nat} (h : closedArgs P H xs = some (as, fz, rs)) : ∀ id k, look (takeArgs 0 as).2 id = some k → k.st < 3 := by
  intro id k hk
  obtain ⟨p, hp, _, h2⟩ := look_lt hk
  have := closedArgs_st h p hp
  rw [h2] at this
  omega
theorem take1_st (fresh : Bool) (b : Nat) (s : Sc) (e : TypeId) (v : AV) : ∀ p ∈ (take1 fresh b s e v).2.1, p.2.st = 0 ∧ b ≤ p.1 := by
  intro p hp
  cases s <;> cases fresh <;> simp [take1] at hp
  subst hp; exact ⟨rfl, Nat.le_refl _⟩
theorem takeIn_st (fresh : Bool) : ∀ (ss : List Sc) (b : Nat) (es : List TypeId) (vs : List AV), ∀ p ∈ (takeIn fresh b ss es vs).2.1, p.2.st = 0
  | [], b, es, vs, p, hp => by simp [takeIn] at hp
  | s :: ss, b, es, vs, p, hp => by
    simp only [takeIn, List.mem_append] at hp
    rcases hp with hp | hp
    · exact (take1_st _ _ _ _ _ p hp).1
    · exact takeIn_st fresh ss _ _ _ p hp
theorem takeVals_st (fresh : Bool) (P : Program) : ∀ (ts : List TypeId) (b : Nat) (vs : List AV), ∀ p ∈ (takeVals fresh P b ts vs).2.1, p.2.st = 0
  | [], b, vs, p, hp => by simp [takeVals] at hp
  | t :: ts, b, vs, p, hp => by
    simp only [takeVals, List.mem_append] at hp
    rcases hp with hp | hp
    · unfold takeVal at hp
      split at hp
      · simp at hp
      · split at hp
        · exact takeIn_st _ _ _ _ _ p hp
        · unfold takeV at hp
          split at hp
          · simp only [List.mem_singleton] at hp
            subst hp; rfl
          · exact (take1_st _ _ _ _ _ p hp).1
    · exact takeVals_st fresh P ts _ _ p hp
/-- What the caller's memory is behind a call. -/
def afterC (cp : CP) (f : FuncId) (fn : Func) (H : Nat → Option Blk) (fz refs : List Nat) (r : List AV) : Nat → Option Blk := setSt (upds H (takeRefs cp.P H refs (dropV fn.resultTypes.toList r))) 1 (coldC cp f fn fz refs)
theorem post_rel {cp : CP} {f : FuncId} (hnd : isDeep cp f = false) (hnt : treeF cp f = false) {w : World} {C : Ctx} {H : Nat → Option Blk} (hH : RelH cp.P w C H) {xs as : List AV} {fz refs : List Nat} (hca : closedArgs cp.P H xs = some (as, fz, refs)) (hdis : distinct refs = true) (hsep : ∀ r, r ∈ refs → r ∉ fz) {cvs : List Value} (hxs : RepL w C xs cvs)
    {base top : Nat} (hb : ∀ id, base ≤ id → id < top → C.φ id = none) {fn : Func} {r : List AV} {w' : World} {e : Ending}
    (ran : Ran cp w ⟨refφ C refs, (C.ice fz).Fz⟩ (look (takeArgs 0 as).2) fn f (refTys as) r e w') (htop : (takeVals (cp.fresh.contains f) cp.P base fn.resultTypes.toList r).2.2 ≤ top) (hpl : needPl cp f fn fz refs = true → plainRes r = true) :
    ∃ u D2, e = .returned u ∧ RelH cp.P w' D2 (upds (afterC cp f fn H fz refs r) (takeVals (cp.fresh.contains f) cp.P base fn.resultTypes.toList r).2.1) ∧
      Kept w C H w' D2 (upds (afterC cp f fn H fz refs r) (takeVals (cp.fresh.contains f) cp.P base fn.resultTypes.toList r).2.1) ∧
      Rep w' D2 (tupA (takeVals (cp.fresh.contains f) cp.P base fn.resultTypes.toList r).1) u ∧ (∀ id, (takeVals (cp.fresh.contains f) cp.P base fn.resultTypes.toList r).2.2 ≤ id → id < top → D2.φ id = none) ∧ (∀ id, (id < base ∨ top ≤ id) → D2.φ id = C.φ id) := by
  obtain ⟨C', H', vs, us, rfl, keptT, hCT, rl, fin, _⟩ := ran
  obtain ⟨_, _, plen, pre⟩ := pre_rel hH hca hdis hsep hxs
  have hC := hCT.h
  have kept := keptT.plain (bareTW (argsNoT hca))
  have hz := closedArgs_ids hca
  have rtl : (refTys as).length = refs.length := by unfold refTys; rw [List.length_map, plen]
  -- the blocks handed by reference
  have rwn : ∀ x, RW ⟨refφ C refs, (C.ice fz).Fz⟩ (look (takeArgs 0 as).2) x → ∃ n rid k L, refs[n]? = some rid ∧ H rid = some k ∧ k.st = 0 ∧ C.φ rid = some L ∧ L.b = x ∧ (∀ k', look (takeArgs 0 as).2 n = some k' → k'.arr = k.arr) := by
    rintro x ⟨n, L, k', q, hk, hs, hx⟩
    change refφ C refs n = some L at q
    unfold refφ at q
    cases hr : refs[n]? with
    | none => rw [hr] at q; cases q
    | some rid =>
      rw [hr] at q
      obtain ⟨k, ys, l, L2, q1, q2, q3, q4, q5⟩ := pre n rid hr
      have q' : C.φ rid = some L := q
      rw [q3] at q'; cases q'
      exact ⟨n, rid, k, L, hr, q1, q2, q3, hx, fun k' e => by rw [q5] at e; cases e; rfl⟩
  have rwC : ∀ x, RW ⟨refφ C refs, (C.ice fz).Fz⟩ (look (takeArgs 0 as).2) x → RW C H x := fun x q => by
    obtain ⟨n, rid, k, L, _, q1, q2, q3, q4, _⟩ := rwn x q
    exact ⟨rid, L, k, q3, q1, q2, q4⟩
  unfold finishV at fin
  rw [hnd, hnt] at fin
  simp only at fin
  cases ho : handOut cp.P H' (cp.fresh.contains f) fn.resultTypes.toList vs with
  | none => rw [ho] at fin; simp at fin
  | some p =>
  cases hro : refsOut cp.P H' 0 (refTys as) with
  | none => rw [ho, hro] at fin; simp at fin
  | some p2 =>
    obtain ⟨rs, i⟩ := p
    obtain ⟨qs, j⟩ := p2
    rw [ho, hro] at fin
    simp only at fin
    cases hok : (okRes cp.P fn.resultTypes.toList rs && ((i ++ j).all fun x => Nat.ble (refTys as).length x) && (!cp.fresh.contains f || (distinct (ownIds vs) && (ownIds vs).all fun x => !(i ++ j).contains x && Nat.ble (refTys as).length x))) with
    | false => rw [hok] at fin; simp at fin
    | true =>
      rw [hok] at fin
      simp only [Option.some.injEq] at fin
      subst fin
      rw [Bool.and_eq_true, Bool.and_eq_true] at hok
      obtain ⟨⟨hok1, hok2⟩, hok3⟩ := hok
      obtain ⟨hdrop, htake⟩ := okRes_drop (qs := qs) hok1
      rw [htake] at htop ⊢
      have hZlo : ∀ id, id ∈ i ++ j → refs.length ≤ id := fun id hid => by
        have := Nat.le_of_ble_eq_true (List.all_eq_true.1 hok2 id hid)
        omega
      have hi := handOut_ids ho
      have hj := refsOut_ids hro
      have hZ : ∀ id, id ∈ i ++ j → ∃ k, H' id = some k ∧ k.st ≤ 1 ∧ k.arr = true := fun id hid => (List.mem_append.1 hid).elim (hi id) (hj id)
      -- what stands where a block was handed on
      have atn : ∀ n rid, refs[n]? = some rid → ∃ k L b ys l, H rid = some k ∧ k.st = 0 ∧ C.φ rid = some L ∧ C'.φ n = some L ∧ H' n = some b ∧ b.st = 0 ∧ closedAll cp.P H' b.cells = some (ys, l) ∧ (∀ x, x ∈ l → x ∈ i ++ j) ∧ ys.length = (flat cp.P 8 k.elem).length ∧ okAll (flat cp.P 8 k.elem) ys = true ∧ hdV (qs.drop n) = .agg ys ∧ b.elem = k.elem := by
        intro n rid hr
        obtain ⟨k, ys0, l0, L, q1, q2, q3, q4, q5⟩ := pre n rid hr
        obtain ⟨b, ys, l, a1, a2, a3, a4, a5, a6, a7, a8⟩ := refsOut_at hro n k.elem (refTys_at q5 rfl)
        rw [Nat.zero_add] at a1
        refine ⟨k, L, b, ys, l, q1, q2, q3, kept.step.φ n L ?_, a1, a2, a3, fun x hx => List.mem_append_right _ (a4 x hx), a5, a6, a7, a8⟩
        show refφ C refs n = some L
        unfold refφ
        rw [hr]; exact q3
      have rwa0 : ∀ x, RWa ⟨refφ C refs, (C.ice fz).Fz⟩ (look (takeArgs 0 as).2) x → ∃ n L b, n < refs.length ∧ C'.φ n = some L ∧ H' n = some b ∧ b.st = 0 ∧ L.b = x := by
        intro x q
        obtain ⟨n, rid, k, L, q1, q2, q3, q4, q5, _⟩ := rwn x q.rw
        obtain ⟨k2, L2, b, ys, l, b1, b2, b3, b4, b5, b6, _⟩ := atn n rid q1
        rw [q4] at b3; cases b3
        exact ⟨n, L, b, (List.getElem?_eq_some_iff.1 q1).1, b4, b5, b6, q5⟩
      have hlow : ∀ id L k, C'.φ id = some L → H' id = some k → k.st = 0 → refs.length ≤ id → w.heap.size ≤ L.b := by
        intro id L k q1 q2 q3 q5
        rcases kept.rw L.b ⟨id, L, k, q1, q2, q3, rfl⟩ with q | q
        · obtain ⟨n, rid, k', L', p1, p2, p3, p4, p5, _⟩ := rwn L.b q
          obtain ⟨k2, L2, b, ys, l, b1, b2, b3, b4, b5, b6, _⟩ := atn n rid p1
          rw [p4] at b3; cases b3
          have hn : n < refs.length := (List.getElem?_eq_some_iff.1 p1).1
          exact absurd p5 (hC.apart n id L' L b k b4 q1 b5 q2 b6 (by omega) (by omega))
        · exact q
      have same : ∀ x, x < w.heap.size → ¬ RW ⟨refφ C refs, (C.ice fz).Fz⟩ (look (takeArgs 0 as).2) x → w'.heap[x]? = w.heap[x]? := fun x q q2 => kept.blk x q q2
      have nofz : ∀ n L b, C'.φ n = some L → H' n = some b → b.st = 0 → ¬ C'.Fz L.b := by
        intro n L b n1 n2 n3
        obtain ⟨k2, z1, ok⟩ := hC.blk n L n1
        rw [n2] at z1; cases z1
        rcases ok with ok | ⟨e0, cells, el, fr, e1, e2, e3, e4, e5, e6, ea, e7, e8⟩
        · omega
        · exact e7 n3
      have fz1 : ∀ x, C'.Fz x → (C.ice fz).Fz x ∨ w.heap.size ≤ x := by
        intro x q
        rcases kept.fz x q with q' | q' | q'
        · exact .inl q'
        · obtain ⟨n, L2, b, n1, n2, n3, n4, rfl⟩ := rwa0 x q'
          exact absurd q (nofz n L2 b n2 n3 n4)
        · exact .inr q'
      have fzlow : ∀ x, (C'.ice (i ++ j)).Fz x → (C.ice fz).Fz x ∨ w.heap.size ≤ x := by
        rintro x (q | ⟨jj, M, hjj, y1, rfl⟩)
        · exact fz1 x q
        · obtain ⟨k, q1, q2, q3⟩ := hZ jj hjj
          by_cases hs : k.st = 0
          · exact .inr (hlow jj M k y1 q1 hs (hZlo jj hjj))
          · obtain ⟨k2, z1, ok⟩ := hC.blk jj M y1
            rw [q1] at z1; cases z1
            rcases ok with ok | ⟨e0, cells, el, fr, e1, e2, e3, e4, e5, e6, ea, e7, e8⟩
            · omega
            · exact fz1 M.b (e8 (by omega))
      have fzsub : ∀ x, (C.ice fz).Fz x → (C'.ice (i ++ j)).Fz x := fun x q => .inl (kept.step.Fz x q)
      have hTi : cp.fresh.contains f = true → (ownIds vs).Nodup ∧ ∀ id, id ∈ ownIds vs → id ∉ ([] : List Nat) ∧ id ∉ i ++ j ∧ refs.length ≤ id := by
        intro hfr
        rw [hfr] at hok3
        simp only [Bool.not_true, Bool.false_or, Bool.and_eq_true, List.all_eq_true] at hok3
        refine ⟨distinct_nodup hok3.1, fun id hid => ⟨by simp, fun hm => ?_, ?_⟩⟩
        · have := (hok3.2 id hid).1
          rw [Bool.not_eq_true', List.contains_eq_mem, decide_eq_false_iff_not] at this
          exact this hm
        · have := Nat.le_of_ble_eq_true (hok3.2 id hid).2; omega
      have finish_ : ∀ (D0 : Ctx) (G0 : Nat → Option Blk), RelH cp.P w' D0 G0 → Kept w C H w' D0 G0 → (∀ id, base ≤ id → id < top → D0.φ id = none) → (∀ j M k, D0.φ j = some M → G0 j = some k → k.st ≤ 1 → M.b < w.heap.size) →
          ((∃ t ∈ fn.resultTypes.toList, ∃ s ∈ flat cp.P 8 t, isSl s = true) → (∀ x, D0.Fz x → (C'.ice (i ++ j)).Fz x) ∧ ((cp.fresh.contains f = true ∧ (rs.all fun v => v.parts1.all plainV) = true) ∨ ∀ x, (C'.ice (i ++ j)).Fz x → D0.Fz x)) → D0.φ = C.φ →
          ∃ u D2, Ending.returned (oneOr us) = .returned u ∧ RelH cp.P w' D2 (upds G0 (takeVals (cp.fresh.contains f) cp.P base fn.resultTypes.toList rs).2.1) ∧ Kept w C H w' D2 (upds G0 (takeVals (cp.fresh.contains f) cp.P base fn.resultTypes.toList rs).2.1) ∧
            Rep w' D2 (tupA (takeVals (cp.fresh.contains f) cp.P base fn.resultTypes.toList rs).1) u ∧ (∀ id, (takeVals (cp.fresh.contains f) cp.P base fn.resultTypes.toList rs).2.2 ≤ id → id < top → D2.φ id = none) ∧ (∀ id, (id < base ∨ top ≤ id) → D2.φ id = C.φ id) := by
        intro D0 G0 g1 g2 g3 g4 g5 g6
        obtain ⟨D2, a1, m1, rr, _⟩ := takeVals_ok hC hlow (Z := i ++ j) (fun j hj => by obtain ⟨k, q1, q2, _⟩ := hZ j hj; exact ⟨k, q1, q2⟩) (fresh := cp.fresh.contains f) D0.Fz fn.resultTypes.toList vs rs i us base D0 G0 [] ho hok1 rl (fun _ q => List.mem_append_left _ q) rfl g5 hTi
          ⟨g1, g3, fun j M k q1 q2 q3 => .inl (g4 j M k q1 q2 q3)⟩ htop
        refine ⟨oneOr us, D2, rfl, a1.mem, ⟨g2.step.trans m1.step, g2.os, g2.tape, g2.output, g2.size, g2.blk, fun x q => ?_, fun x q => ?_, fun x q => ?_⟩, repL_tup rr, a1.fresh, fun id hid => by rw [m1.lo id hid, g6]⟩
        · rcases m1.rw x q with q | q
          · exact g2.rw x q
          · exact .inr q
        · rcases m1.rwa x q with q | q
          · exact g2.rwa x q
          · exact .inr q
        · rw [m1.fz] at q; exact g2.fz x q
      -- with the rows that are read frozen
      have frozen : ∃ u D2, Ending.returned (oneOr us) = .returned u ∧ RelH cp.P w' D2 (upds (setSt (upds H (takeRefs cp.P H refs qs)) 1 fz) (takeVals (cp.fresh.contains f) cp.P base fn.resultTypes.toList rs).2.1) ∧ Kept w C H w' D2 (upds (setSt (upds H (takeRefs cp.P H refs qs)) 1 fz) (takeVals (cp.fresh.contains f) cp.P base fn.resultTypes.toList rs).2.1) ∧
            Rep w' D2 (tupA (takeVals (cp.fresh.contains f) cp.P base fn.resultTypes.toList rs).1) u ∧ (∀ id, (takeVals (cp.fresh.contains f) cp.P base fn.resultTypes.toList rs).2.2 ≤ id → id < top → D2.φ id = none) ∧ (∀ id, (id < base ∨ top ≤ id) → D2.φ id = C.φ id) := by
        have i1 := rel_ice hH fz (fun id hid => by obtain ⟨k, q1, q2, _⟩ := hz id hid; exact ⟨k, q1, q2⟩)
        have i2 := kept_ice hH fz (fun id hid => hz id hid)
        have gin : ∀ n rid k, refs[n]? = some rid → H rid = some k → setSt (upds H (takeRefs cp.P H refs qs)) 1 fz rid = some { k with cells := castAll (flat cp.P 8 k.elem) (hdV (qs.drop n)).parts1 } := by
          intro n rid k hn hk
          rw [setSt_not (hsep rid (List.mem_of_getElem? hn))]
          exact takeRefs_get hdis hn hk H
        have gout : ∀ id, id ∉ refs → setSt (upds H (takeRefs cp.P H refs qs)) 1 fz id = setSt H 1 fz id := fun id hid => by
          have key : ∀ (l : List Nat) (h h' : Nat → Option Blk), h id = h' id → setSt h 1 l id = setSt h' 1 l id := by
            intro l
            induction l with
            | nil => exact fun h h' e => e
            | cons x l ih =>
              intro h h' e
              unfold setSt
              refine ih _ _ ?_
              by_cases q : id = x
              · subst q; rw [upd_same, upd_same, e]
              · rw [upd_other _ _ q, upd_other _ _ q, e]
          exact key fz _ _ (takeRefs_ids hid H)
        have back : ∀ id k, setSt (upds H (takeRefs cp.P H refs qs)) 1 fz id = some k → (∃ L, C.φ id = some L) → ∃ k0, setSt H 1 fz id = some k0 ∧ k0.st = k.st ∧ k0.arr = k.arr := by
          intro id k hk ⟨L, hL⟩
          by_cases hm : id ∈ refs
          · obtain ⟨n, hn⟩ := List.getElem?_of_mem hm
            obtain ⟨k0, L0, _, _, _, b1, b2, _⟩ := atn n id hn
            rw [gin n id k0 hn b1] at hk
            cases hk
            exact ⟨k0, by rw [setSt_not (hsep id hm)]; exact b1, rfl, rfl⟩
          · rw [gout id hm] at hk
            exact ⟨k, hk, rfl, rfl⟩
        have offF : ∀ id L k, (C.ice fz).φ id = some L → setSt H 1 fz id = some k → k.st = 0 → ¬ (C'.ice (i ++ j)).Fz L.b := by
          intro id L k q1 q2 q3 q
          rcases fzlow L.b q with q | q
          · obtain ⟨k2, z1, ok⟩ := i1.blk id L q1
            rw [q2] at z1; cases z1
            rcases ok with ok | ⟨e0, cells, el, fr, e1, e2, e3, e4, e5, e6, ea, e7, e8⟩
            · omega
            · exact e7 q3 q
          · have := live_old i1 q1 q2 (by omega)
            omega
        have iC := rel_ice hC (i ++ j) (fun id hid => by obtain ⟨k, q1, q2, _⟩ := hZ id hid; exact ⟨k, q1, q2⟩)
        have oldF : ∀ x, (C'.ice (i ++ j)).Fz x → x < w'.heap.size := iC.old
        have stp : Step w (C.ice fz) w' ⟨C.φ, (C'.ice (i ++ j)).Fz⟩ := ⟨fun _ _ q => q, fzsub, fun x q => kept.step.same x q⟩
        have f1 : RelH cp.P w' ⟨C.φ, (C'.ice (i ++ j)).Fz⟩ (setSt (upds H (takeRefs cp.P H refs qs)) 1 fz) := by
          refine ⟨fun id L e => ?_, fun id id' L L' k k' e e' hk hk' hs hs' ne => ?_, oldF⟩
          · by_cases hm : id ∈ refs
            · obtain ⟨n, hn⟩ := List.getElem?_of_mem hm
              obtain ⟨k, L2, b, ys, l, b1, b2, b3, b4, b5, b6, b7, b8, b9, b10, b11, b12⟩ := atn n id hn
              have e' : C.φ id = some L := e
              rw [b3] at e'; cases e'
              refine ⟨_, gin n id k hn b1, ?_⟩
              obtain ⟨k2, z1, ok⟩ := hC.blk n L b4
              rw [b5] at z1; cases z1
              obtain ⟨k3, z3, ok3⟩ := hH.blk id L b3
              rw [b1] at z3; cases z3
              rcases ok with ok | ⟨e0, cells, el, fr, e1, e2, e3, e4, e5, e6, ea, e7, e8⟩
              · omega
              rcases ok3 with ok3 | ⟨g0, _, _, _, _, _, _, g4, _⟩
              · omega
              obtain ⟨c1, c2⟩ := closedRow hC (i ++ j) e6 b7 b8
              have hp : (hdV (qs.drop n)).parts1 = ys := by rw [b11]; rfl
              have hcl : (castAll (flat cp.P 8 k.elem) (hdV (qs.drop n)).parts1).length = b.cells.length := by rw [castAll_len, ← b9, c2]
              have c3 : RepAt w' (C'.ice (i ++ j)).bare L.b L.d (castAll (flat cp.P 8 k.elem) (hdV (qs.drop n)).parts1) := by rw [hp]; exact castAll_at b9.symm b10 c1
              refine .inr ⟨by omega, cells, el, fr, e1, e2, e3, ⟨g4.1, e4.2.1.trans b12, g4.2.2⟩, ⟨by rw [e5.1]; exact hcl.symm, by show L.d + (castAll (flat cp.P 8 k.elem) (hdV (qs.drop n)).parts1).length ≤ L.top; rw [hcl]; exact e5.2⟩, repAt_step' (Step.of_bare w' ⟨C.φ, (C'.ice (i ++ j)).Fz⟩) _ _ _ rfl c3, fun _ => c3, fun _ => offF id L k b3 (by rw [setSt_not (hsep id hm)]; exact b1) b2, fun q => by have q' : k.st = 1 := q; omega⟩
            · obtain ⟨k, hk, ok⟩ := i1.blk id L e
              refine ⟨k, by rw [gout id hm]; exact hk, ?_⟩
              refine blkOk_step stp (fun hs => same L.b (live_old i1 e hk hs) fun q => ?_) (fun hz' hf => absurd hf (offF id L k e hk hz')) ok
              obtain ⟨n, rid, k2, L2, q1, q2, q3, q4, q5, _⟩ := rwn L.b q
              have hne : rid ≠ id := fun x => hm (x ▸ List.mem_of_getElem? q1)
              exact absurd q5 (i1.apart rid id L2 L k2 k q4 e (by rw [setSt_not (hsep rid (List.mem_of_getElem? q1))]; exact q2) hk q3 hs hne)
          · obtain ⟨k0, q1, q2, _⟩ := back id k hk ⟨L, e⟩
            obtain ⟨k0', q1', q2', _⟩ := back id' k' hk' ⟨L', e'⟩
            exact i1.apart id id' L L' k0 k0' e e' q1 q1' (by omega) (by omega) ne
        refine finish_ ⟨C.φ, (C'.ice (i ++ j)).Fz⟩ (setSt (upds H (takeRefs cp.P H refs qs)) 1 fz) f1 ⟨⟨fun _ _ q => q, fun x q => fzsub x (.inl q), fun x q => kept.step.same x (.inl q)⟩, kept.os, kept.tape, kept.output, kept.size, fun x q q2 => same x q (fun z => q2 (rwC x z)), fun x q => ?_, fun x q => ?_, fun x q => ?_⟩ hb
          (fun j M k q1 q2 q3 => ?_) (fun _ => ⟨fun _ q => q, .inr fun _ q => q⟩) rfl
        · obtain ⟨id, L, k, e1, e2, e3, e4⟩ := q
          obtain ⟨k0, z1, z2, _⟩ := back id k e2 ⟨L, e1⟩
          exact i2.rw x ⟨id, L, k0, e1, z1, by omega, e4⟩
        · obtain ⟨id, L, k, e1, e2, e3, ea, e4⟩ := q
          obtain ⟨k0, z1, z2, z3⟩ := back id k e2 ⟨L, e1⟩
          exact i2.rwa x ⟨id, L, k0, e1, z1, by omega, by rw [z3]; exact ea, e4⟩
        · rcases fzlow x q with q | q
          · exact i2.fz x q
          · exact .inr (.inr q)
        · obtain ⟨k0, z1, z2, _⟩ := back j k q2 ⟨M, q1⟩
          exact live_old i1 q1 z1 (by omega)
      unfold afterC
      rw [hdrop]
      by_cases hcold : coldC cp f fn fz refs = fz
      · rw [hcold]; exact frozen
      have hrefs : refs = [] := by
        cases refs with
        | nil => rfl
        | cons x y => exact absurd (by unfold coldC; split <;> simp_all) hcold
      subst hrefs
      have hth : (scalarRes cp.P fn || thaw cp f fn) = true := by
        cases hq : (scalarRes cp.P fn || thaw cp f fn) with
        | true => rfl
        | false => exact absurd (by unfold coldC; rw [hnt, Bool.false_or, hq]) hcold
      have hc0 : coldC cp f fn fz [] = [] := by unfold coldC; rw [hnt, Bool.false_or, hth]
      rw [hc0] at hcold ⊢
      have nRW : ∀ x, ¬ RW ⟨refφ C [], (C.ice fz).Fz⟩ (look (takeArgs 0 as).2) x := fun x q => by
        obtain ⟨n, rid, _, _, q1, _⟩ := rwn x q
        simp at q1
      have hw : RelH cp.P w' C H := rel_world hH kept.size (fun x q => same x (hH.old x q) (nRW x)) (fun id L k q1 q2 q3 => same _ (live_old hH q1 q2 q3) (nRW _))
      refine finish_ C H hw ⟨⟨fun _ _ q => q, fun _ q => q, fun x q => same x (hH.old x q) (nRW x)⟩, kept.os, kept.tape, kept.output, kept.size, fun x q _ => same x q (nRW x), fun x q => .inl q, fun x q => .inl q, fun x q => .inl q⟩ hb (fun j M k q1 q2 q3 => live_old hH q1 q2 q3) ?_ rfl
      rintro ⟨t, ht, s, hs, q⟩
      refine ⟨fun x q => fzsub x (.inl q), .inl ?_⟩
      have hns : scalarRes cp.P fn = false := by
        cases hsc : scalarRes cp.P fn with
        | false => rfl
        | true =>
          unfold scalarRes at hsc
          have := List.all_eq_true.1 (List.all_eq_true.1 hsc t ht) s hs
          rw [q] at this; simp at this
      rw [hns, Bool.false_or] at hth
      have hthf := hth
      unfold thaw at hth
      rw [Bool.and_eq_true] at hth
      refine ⟨hth.1, ?_⟩
      have hneed : needPl cp f fn fz [] = true := by
        cases fz with
        | nil => exact absurd rfl hcold
        | cons x y => unfold needPl; rw [hns, hthf, hnt]; rfl
      have := hpl hneed
      unfold plainRes at this
      rw [List.all_append, Bool.and_eq_true] at this
      exact this.1
end Go.Proofs.YtlcnpecejhcnfaaDoor.EV
