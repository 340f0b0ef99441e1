/- Calls that share the caller's memory. No conditions. -/
import Derived.Test.YtlcnpecejhcnfaaDoorEVcallok2
import Derived.Test.YtlcnpecejhcnfaaDoorEVgc
namespace Go.Proofs.YtlcnpecejhcnfaaDoor.EV
set_option linter.unusedVariables false
set_option linter.unusedSimpArgs false
open Go Go.RowKit

theorem ren1_notup (ids : List Nat) (x : AV) : (∀ a e cs, ren1 ids x ≠ .ref a e cs) ∧ ∀ bs, ren1 ids x ≠ .tup bs := by
  cases x
  case own id o n =>
    simp only [ren1]
    cases ids.contains id <;> exact ⟨(fun _ _ _ q => by cases q), (fun _ q => by cases q)⟩
  case ptr id o =>
    simp only [ren1]
    cases ids.contains id <;> exact ⟨(fun _ _ _ q => by cases q), (fun _ q => by cases q)⟩
  all_goals exact ⟨(fun _ _ _ q => by cases q), (fun _ q => by cases q)⟩
theorem ren_notup (ids : List Nat) : ∀ x : AV, (∀ a e cs, ren ids x ≠ .ref a e cs) ∧ ∀ bs, ren ids x ≠ .tup bs
  | .agg xs => ⟨(fun _ _ _ q => by cases q), (fun _ q => by cases q)⟩
  | .any => ren1_notup ids .any
  | .int k n => ren1_notup ids (.int k n)
  | .bool b => ren1_notup ids (.bool b)
  | .str b => ren1_notup ids (.str b)
  | .nils => ren1_notup ids .nils
  | .nilp => ren1_notup ids .nilp
  | .unk d n => ren1_notup ids (.unk d n)
  | .fs n cs => ren1_notup ids (.fs n cs)
  | .own i o n => ren1_notup ids (.own i o n)
  | .tup xs => ren1_notup ids (.tup xs)
  | .ptr i o => ren1_notup ids (.ptr i o)
  | .fp cs o => ren1_notup ids (.fp cs o)
  | .fn f => ren1_notup ids (.fn f)
  | .ref a e cs => ren1_notup ids (.ref a e cs)
  | .arr k ns => ren1_notup ids (.arr k ns)
theorem take_ren (ids : List Nat) : ∀ (vs : List AV) (b : Nat), takeArgs b (vs.map (ren ids)) = (vs.map (ren ids), [])
  | [], _ => rfl
  | v :: r, b => by
    rw [List.map_cons, takeArgs_plain (ren_notup ids v).1 (ren_notup ids v).2, take_ren ids r b]
theorem renL_rep {w : World} {C : Ctx} (ids : List Nat) : ∀ {xs : List AV} {vs : List Value}, RepL w C xs vs → RepL w (renφ C ids) (xs.map (ren ids)) vs
  | [], _, r => r
  | x :: xs, vs, r => by
    obtain ⟨v, us, rfl, r1, r2⟩ := r
    exact ⟨v, us, rfl, ren_rep ids r1, renL_rep ids r2⟩
theorem renB_eta (ids : List Nat) {k : Blk} (h : k.st = 0) : (⟨k.arr, k.elem, 0, (renB ids k).cells⟩ : Blk) = renB ids k := by
  obtain ⟨a, e, s, cs⟩ := k
  simp only at h
  subst h
  cases a <;> rfl
theorem blkAV_live {h : Nat → Option Blk} (ids : List Nat) {id : Nat} {k : Blk} (hk : h id = some k) (hs : k.st = 0) : blkAV h ids id = .ref k.arr k.elem (renB ids k).cells := by
  unfold blkAV
  rw [hk]
  simp only
  rw [show Nat.beq k.st 0 = true by rw [hs]; rfl]
theorem blkAV_dead {h : Nat → Option Blk} (ids : List Nat) {id : Nat} {k : Blk} (hk : h id = some k) (hs : k.st = 2) : blkAV h ids id = .any := by
  unfold blkAV
  rw [hk]
  simp only
  rw [show Nat.beq k.st 0 = false by rw [hs]; rfl, show Nat.beq k.st 3 = false by rw [hs]; rfl]
theorem blkAV_tree {h : Nat → Option Blk} (ids : List Nat) {id : Nat} {k : Blk} (hk : h id = some k) (hs : k.st = 3) : blkAV h ids id = .fp k.cells k.elem := by
  unfold blkAV
  rw [hk]
  simp only
  rw [show Nat.beq k.st 0 = false by rw [hs]; rfl, show Nat.beq k.st 3 = true by rw [hs]; rfl]
/-- A block as it is handed on. -/
def deepB (ids : List Nat) (k : Blk) : Blk := match Nat.beq k.st 3 with | true => ⟨true, k.elem, 3, k.cells⟩ | false => renB ids k
theorem deepB_ren {ids : List Nat} {k : Blk} (h : k.st = 3 → k.arr = true) : deepB ids k = renB ids k := by
  unfold deepB
  cases h3 : Nat.beq k.st 3 with
  | false => rfl
  | true =>
    have hs := nbeq_eq h3
    rw [renB_arr (h hs)]
    obtain ⟨a, e, s, cs⟩ := k
    simp only at hs h
    subst hs
    rw [h rfl]
theorem pre_deep {P : Program} {w : World} {C : Ctx} {H : Nat → Option Blk} (hH : RelT P w C H) {xs as : List AV} {ids : List Nat} {vs : List Value} (h : deepArgs H xs = some (as, ids)) (r : RepL w C xs vs) :
    RelT P w (renφ C ids) (look (takeArgs 0 as).2) ∧ RepL w (renφ C ids) (takeArgs 0 as).1 vs ∧ (takeArgs 0 as).2.length = ids.length ∧ distinct ids = true ∧
    (∀ j id, ids[j]? = some id → ∃ k, H id = some k ∧ (k.st = 0 ∨ k.st = 3) ∧ look (takeArgs 0 as).2 j = some (deepB ids k)) := by
  unfold deepArgs at h
  generalize deepIds H (xs.flatMap idsOf) = ids0 at h
  cases hd : (distinct ids0 && liveAll H ids0) with
  | false => rw [hd] at h; simp at h
  | true =>
    rw [hd] at h
    simp only [Option.some.injEq, Prod.mk.injEq] at h
    obtain ⟨rfl, rfl⟩ := h
    rw [Bool.and_eq_true] at hd
    obtain ⟨hd, hl⟩ := hd
    have ht : takeArgs 0 (.tup (ids0.map (blkAV H ids0)) :: xs.map (ren ids0)) = (xs.map (ren ids0), blkNum 0 (ids0.map (blkAV H ids0))) := by
      simp only [takeArgs, take_ren, List.append_nil]
    rw [ht]
    have live : ∀ id, id ∈ ids0 → ∃ k, H id = some k ∧ (k.st = 0 ∨ k.st = 3) := by
      intro id hid
      have := List.all_eq_true.1 hl id hid
      cases hk : H id with
      | none => rw [hk] at this; simp at this
      | some k =>
        rw [hk] at this
        rw [Bool.or_eq_true] at this
        exact ⟨k, rfl, this.imp nbeq_eq nbeq_eq⟩
    have at_ : ∀ j id, ids0[j]? = some id → ∃ k, H id = some k ∧ (k.st = 0 ∨ k.st = 3) ∧ look (blkNum 0 (ids0.map (blkAV H ids0))) j = some (deepB ids0 k) := by
      intro j id hj
      obtain ⟨k, hk, hs⟩ := live id (List.mem_of_getElem? hj)
      refine ⟨k, hk, hs, ?_⟩
      have hlt : j < (blkNum 0 (ids0.map (blkAV H ids0))).length := by
        rw [blkNum_len, List.length_map]
        exact (List.getElem?_eq_some_iff.1 hj).1
      have := look_at (b := 0) (blkNum_keys (ids0.map (blkAV H ids0)) 0) (List.getElem?_eq_getElem hlt)
      rw [Nat.zero_add] at this
      rw [this]
      have hb : ∀ (l : List AV) (b n : Nat) (x : AV) (p : Nat × Blk), l[n]? = some x → (blkNum b l)[n]? = some p → p.2 = (match x with | .ref a e cs => ⟨a, e, 0, cs⟩ | .fp cs e => ⟨true, e, 3, cs⟩ | _ => ⟨false, 0, 2, []⟩) := by
        intro l
        induction l with
        | nil => intro b n x p h; simp at h
        | cons y l ih =>
          intro b n x p h1 h2
          cases n with
          | zero =>
            simp only [List.getElem?_cons_zero, Option.some.injEq] at h1
            simp only [blkNum, List.getElem?_cons_zero, Option.some.injEq] at h2
            subst h1
            subst h2
            rfl
          | succ n => exact ih (b + 1) n x p (by simpa using h1) (by simpa [blkNum] using h2)
      have := hb _ 0 j (blkAV H ids0 id) _ (by rw [List.getElem?_map, hj]; rfl) (List.getElem?_eq_getElem hlt)
      rw [this]
      unfold deepB
      rcases hs with hs | hs
      · rw [blkAV_live ids0 hk hs]
        simp only
        rw [show Nat.beq k.st 3 = false by rw [hs]; rfl]
        simp only
        rw [renB_eta ids0 hs]
      · rw [blkAV_tree ids0 hk hs]
        simp only
        rw [show Nat.beq k.st 3 = true by rw [hs]; rfl]
    have hG : ∀ j id L, ids0[j]? = some id → C.φ id = some L → ∀ k, H id = some k → look (blkNum 0 (ids0.map (blkAV H ids0))) j = some (renB ids0 k) := by
      intro j id L hj hL k hk
      obtain ⟨k2, q1, q2, q3⟩ := at_ j id hj
      rw [hk] at q1; cases q1
      rw [q3, deepB_ren fun hs => ?_]
      obtain ⟨T, ok, _⟩ := hH.t.ok id L k hL hk (by omega)
      exact ok.1
    refine ⟨(packT hH hd hG fun id hid k hk => ?_).1, renL_rep ids0 r, by rw [blkNum_len, List.length_map], hd, at_⟩
    obtain ⟨k2, q1, q2⟩ := live id hid
    rw [hk] at q1; cases q1
    omega

/-! The forms of what comes back. -/
theorem c1_rep {w : World} {C : Ctx} {t x : AV} {v : Value} (h : sh1 t x = true) (r : Rep w C x v) : Rep w C (c1 t x) v := by
  cases t <;> cases x <;> simp only [sh1, reduceCtorEq, Bool.false_eq_true] at h <;> first | trivial | exact r | skip
  case int.int k n k' n' => simp only [decide_eq_true_eq] at h; subst h; exact r
  case own.own j o n j' o' n' =>
    rw [Bool.and_eq_true] at h
    have h1 := nbeq_eq h.1
    have h2 := nbeq_eq h.2
    subst h1; subst h2; exact r
  case ptr.ptr j o j' o' =>
    rw [Bool.and_eq_true] at h
    have h1 := nbeq_eq h.1
    have h2 := nbeq_eq h.2
    subst h1; subst h2; exact r
theorem shL_len : ∀ {ts vs : List AV}, shL ts vs = true → ts.length = vs.length
  | [], [], _ => rfl
  | [], _ :: _, h => by simp [shL] at h
  | _ :: _, [], h => by simp [shL] at h
  | t :: ts, v :: vs, h => by
    simp only [shL, Bool.and_eq_true] at h
    simp [shL_len h.2]
theorem cL_len : ∀ (ts vs : List AV), (cL ts vs).length = ts.length
  | [], _ => rfl
  | t :: ts, vs => by simp [cL, cL_len ts vs.tail]
theorem cL_at {w : World} {C : Ctx} {b : Nat} : ∀ {ts vs : List AV} {o : Nat}, shL ts vs = true → RepAt w C b o vs → RepAt w C b o (cL ts vs)
  | [], [], _, _, r => r
  | [], _ :: _, _, h, _ => by simp [shL] at h
  | _ :: _, [], _, h, _ => by simp [shL] at h
  | t :: ts, v :: vs, o, h, r => by
    simp only [shL, Bool.and_eq_true] at h
    obtain ⟨⟨u, e1, eo, e2⟩, e3⟩ := r
    exact ⟨⟨u, e1, eo, c1_rep h.1 e2⟩, cL_at h.2 e3⟩
theorem cL_rep {w : World} {C : Ctx} : ∀ {ts xs : List AV} {vs : List Value}, shL ts xs = true → RepL w C xs vs → RepL w C (cL ts xs) vs
  | [], [], _, _, r => r
  | [], _ :: _, _, h, _ => by simp [shL] at h
  | _ :: _, [], _, h, _ => by simp [shL] at h
  | t :: ts, x :: xs, vs, h, r => by
    simp only [shL, Bool.and_eq_true] at h
    obtain ⟨v, us, rfl, r1, r2⟩ := r
    exact ⟨v, us, rfl, c1_rep h.1 r1, cL_rep h.2 r2⟩
theorem notagg (t x : AV) (h : ∀ ts, t ≠ .agg ts) : shV t x = sh1 t x ∧ cV t x = c1 t x := by
  cases t <;> first | exact absurd rfl (h _) | (cases x <;> exact ⟨rfl, rfl⟩)
theorem cV_rep {w : World} {C : Ctx} {t x : AV} {v : Value} (h : shV t x = true) (r : Rep w C x v) : Rep w C (cV t x) v := by
  by_cases q : ∃ ts, t = .agg ts
  · obtain ⟨ts, rfl⟩ := q
    cases x <;> simp only [shV, reduceCtorEq, Bool.false_eq_true] at h
    obtain ⟨vs, rfl, rl⟩ := r
    exact ⟨vs, rfl, cL_rep h rl⟩
  · obtain ⟨q1, q2⟩ := notagg t x (fun ts e => q ⟨ts, e⟩)
    rw [q2]
    rw [q1] at h
    exact c1_rep h r
theorem cVs_rep {w : World} {C : Ctx} : ∀ {ts xs : List AV} {vs : List Value}, shVs ts xs = true → RepL w C xs vs → RepL w C (cVs ts xs) vs
  | [], [], _, _, r => r
  | [], _ :: _, _, h, _ => by simp [shVs] at h
  | _ :: _, [], _, h, _ => by simp [shVs] at h
  | t :: ts, x :: xs, vs, h, r => by
    simp only [shVs, Bool.and_eq_true] at h
    obtain ⟨v, us, rfl, r1, r2⟩ := r
    exact ⟨v, us, rfl, cV_rep h.1 r1, cVs_rep h.2 r2⟩
theorem cBs_len : ∀ (ts vs : List AV), (cBs ts vs).length = ts.length
  | [], _ => rfl
  | t :: ts, vs => by simp [cBs, cBs_len ts vs.tail]
theorem shBs_len : ∀ {ts vs : List AV}, shBs ts vs = true → ts.length = vs.length
  | [], [], _ => rfl
  | [], _ :: _, h => by simp [shBs] at h
  | _ :: _, [], h => by simp [shBs] at h
  | t :: ts, v :: vs, h => by
    simp only [shBs, Bool.and_eq_true] at h
    simp [shBs_len h.2]
theorem shBs_at : ∀ {ts vs : List AV} {j : Nat} {v : AV}, shBs ts vs = true → vs[j]? = some v → ∃ t, shB t v = true ∧ (cBs ts vs)[j]? = some (cB t v)
  | _, [], _, _, _, h => by simp at h
  | [], _ :: _, _, _, h, _ => by simp [shBs] at h
  | t :: ts, v :: vs, 0, u, h, e => by
    simp only [shBs, Bool.and_eq_true] at h
    simp only [List.getElem?_cons_zero, Option.some.injEq] at e
    subst e
    exact ⟨t, h.1, rfl⟩
  | t :: ts, v :: vs, j + 1, u, h, e => by
    simp only [shBs, Bool.and_eq_true] at h
    obtain ⟨t', q1, q2⟩ := shBs_at h.2 (by simpa using e)
    exact ⟨t', q1, by simpa [cBs] using q2⟩

/-! Numbered as the caller has them. -/
theorem mv1_rep {w : World} {C D : Ctx} {L : List Nat} (hF : D.Fz = C.Fz) (hL : ∀ j M, C.φ j = some M → ∃ i, L[j]? = some i ∧ D.φ i = some M) {x : AV} {v : Value} (r : Rep w C x v) : Rep w D (mv1 L x) v := by
  have hb : D.bare = C.bare := by unfold Ctx.bare; rw [hF]
  cases x
  case own id o n =>
    obtain ⟨a, cap, rfl, hc, r⟩ := r
    simp only [mv1]
    rcases r with r | ⟨M, q1, q2⟩
    · cases L[id]? with
      | none => trivial
      | some i => exact ⟨a, cap, rfl, hc, .inl r⟩
    · obtain ⟨i, h1, h2⟩ := hL id M q1
      rw [h1]
      exact ⟨a, cap, rfl, hc, .inr ⟨M, h2, q2⟩⟩
  case ptr id o =>
    obtain ⟨M, q1, rfl⟩ := r
    simp only [mv1]
    obtain ⟨i, h1, h2⟩ := hL id M q1
    rw [h1]
    exact ⟨M, h2, rfl⟩
  case fs n cs =>
    obtain ⟨a, cap, e1, e2, e3⟩ := r
    refine ⟨a, cap, e1, e2, ?_⟩
    rcases e3 with e3 | ⟨b, o, f1, f2, f3⟩
    · exact .inl e3
    · exact .inr ⟨b, o, f1, by rw [hF]; exact f2, by rw [hb]; exact f3⟩
  case fp cs off =>
    obtain ⟨b, o, e1, e2, e3⟩ := r
    exact ⟨b, o, e1, by rw [hF]; exact e2, by rw [hb]; exact e3⟩
  case agg => trivial
  case tup => trivial
  case ref => exact r.elim
  all_goals exact r
theorem mv1L_rep {w : World} {C D : Ctx} {L : List Nat} (hF : D.Fz = C.Fz) (hL : ∀ j M, C.φ j = some M → ∃ i, L[j]? = some i ∧ D.φ i = some M) : ∀ {xs : List AV} {vs : List Value}, RepL w C xs vs → RepL w D (xs.map (mv1 L)) vs
  | [], _, r => r
  | x :: xs, vs, r => by
    obtain ⟨v, us, rfl, r1, r2⟩ := r
    exact ⟨v, us, rfl, mv1_rep hF hL r1, mv1L_rep hF hL r2⟩
theorem mv_rep {w : World} {C D : Ctx} {L : List Nat} (hF : D.Fz = C.Fz) (hL : ∀ j M, C.φ j = some M → ∃ i, L[j]? = some i ∧ D.φ i = some M) {x : AV} {v : Value} (r : Rep w C x v) : Rep w D (mv L x) v := by
  cases x
  case agg xs =>
    obtain ⟨vs, rfl, rl⟩ := r
    exact ⟨vs, rfl, mv1L_rep hF hL rl⟩
  all_goals exact mv1_rep hF hL r
theorem mvL_rep {w : World} {C D : Ctx} {L : List Nat} (hF : D.Fz = C.Fz) (hL : ∀ j M, C.φ j = some M → ∃ i, L[j]? = some i ∧ D.φ i = some M) : ∀ {xs : List AV} {vs : List Value}, RepL w C xs vs → RepL w D (xs.map (mv L)) vs
  | [], _, r => r
  | x :: xs, vs, r => by
    obtain ⟨v, us, rfl, r1, r2⟩ := r
    exact ⟨v, us, rfl, mv_rep hF hL r1, mvL_rep hF hL r2⟩
theorem mv1At_rep {w : World} {C D : Ctx} {L : List Nat} (hF : D.Fz = C.Fz) (hL : ∀ j M, C.φ j = some M → ∃ i, L[j]? = some i ∧ D.φ i = some M) {b : Nat} : ∀ {xs : List AV} {o : Nat}, RepAt w C b o xs → RepAt w D b o (xs.map (mv1 L))
  | [], _, r => r
  | x :: xs, o, r => by
    obtain ⟨⟨u, e1, eo, e2⟩, e3⟩ := r
    exact ⟨⟨u, e1, eo, mv1_rep hF hL e2⟩, mv1At_rep hF hL e3⟩

theorem deepNews_not {L : List Nat} {i : Nat} : ∀ {l : List Nat} {bs : List AV} {f : Nat → Option Blk}, i ∉ l → upds f (deepNews L l bs) i = f i
  | [], bs, _, _ => by cases bs <;> rfl
  | id :: r, [], _, _ => rfl
  | id :: r, b :: bs, f, h => by
    have h1 : i ≠ id := fun q => h (by simp [q])
    have h2 : i ∉ r := fun q => h (by simp [q])
    cases b
    case ref a e cs =>
      simp only [deepNews, upds]
      rw [deepNews_not h2]
      exact upd_other _ _ h1
    case fp cs e =>
      simp only [deepNews, upds]
      rw [deepNews_not h2]
      exact upd_other _ _ h1
    all_goals exact deepNews_not (l := r) (bs := bs) h2
theorem deepNews_at {L : List Nat} {i : Nat} {a : Bool} {e : TypeId} {cs : List AV} : ∀ {l : List Nat} {bs : List AV} {j : Nat} {f : Nat → Option Blk}, distinct l = true → l[j]? = some i → bs[j]? = some (.ref a e cs) → upds f (deepNews L l bs) i = some ⟨a, e, 0, match a with | true => cs | false => cs.map (mv1 L)⟩
  | [], _, _, _, _, h, _ => by simp at h
  | _ :: _, [], _, _, _, _, h => by simp at h
  | id :: r, b :: bs, j, f, hd, h1, h2 => by
    have hd' := hd
    simp only [distinct, Bool.and_eq_true, Bool.not_eq_true', List.contains_eq_mem, decide_eq_false_iff_not] at hd
    cases j with
    | zero =>
      simp only [List.getElem?_cons_zero, Option.some.injEq] at h1 h2
      subst h1; subst h2
      simp only [deepNews, upds]
      rw [deepNews_not hd.1]
      exact upd_same _ _ _
    | succ j =>
      have e1 : r[j]? = some i := by simpa using h1
      have e2 : bs[j]? = some (.ref a e cs) := by simpa using h2
      cases b
      case ref a' e' cs' => exact deepNews_at (l := r) (bs := bs) (f := upd f id (some _)) hd.2 e1 e2
      case fp cs' e' => exact deepNews_at (l := r) (bs := bs) (f := upd f id (some _)) hd.2 e1 e2
      all_goals exact deepNews_at (l := r) (bs := bs) (f := f) hd.2 e1 e2
theorem deepNews_at3 {L : List Nat} {i : Nat} {e : TypeId} {cs : List AV} : ∀ {l : List Nat} {bs : List AV} {j : Nat} {f : Nat → Option Blk}, distinct l = true → l[j]? = some i → bs[j]? = some (.fp cs e) → upds f (deepNews L l bs) i = some ⟨true, e, 3, cs⟩
  | [], _, _, _, _, h, _ => by simp at h
  | _ :: _, [], _, _, _, _, h => by simp at h
  | id :: r, b :: bs, j, f, hd, h1, h2 => by
    simp only [distinct, Bool.and_eq_true, Bool.not_eq_true', List.contains_eq_mem, decide_eq_false_iff_not] at hd
    cases j with
    | zero =>
      simp only [List.getElem?_cons_zero, Option.some.injEq] at h1 h2
      subst h1; subst h2
      simp only [deepNews, upds]
      rw [deepNews_not hd.1]
      exact upd_same _ _ _
    | succ j =>
      have e1 : r[j]? = some i := by simpa using h1
      have e2 : bs[j]? = some (.fp cs e) := by simpa using h2
      cases b
      case ref a' e' cs' => exact deepNews_at3 (l := r) (bs := bs) (f := upd f id (some _)) hd.2 e1 e2
      case fp cs' e' => exact deepNews_at3 (l := r) (bs := bs) (f := upd f id (some _)) hd.2 e1 e2
      all_goals exact deepNews_at3 (l := r) (bs := bs) (f := f) hd.2 e1 e2
theorem deepNews_any {L : List Nat} {i : Nat} : ∀ {l : List Nat} {bs : List AV} {j : Nat} {f : Nat → Option Blk}, distinct l = true → l[j]? = some i → bs[j]? = some .any → upds f (deepNews L l bs) i = f i
  | [], _, _, _, _, h, _ => by simp at h
  | _ :: _, [], _, _, _, _, h => by simp at h
  | id :: r, b :: bs, j, f, hd, h1, h2 => by
    have hd' := hd
    simp only [distinct, Bool.and_eq_true, Bool.not_eq_true', List.contains_eq_mem, decide_eq_false_iff_not] at hd
    cases j with
    | zero =>
      simp only [List.getElem?_cons_zero, Option.some.injEq] at h1 h2
      subst h1; subst h2
      exact deepNews_not (l := r) (bs := bs) hd.1
    | succ j =>
      have e1 : r[j]? = some i := by simpa using h1
      have e2 : bs[j]? = some .any := by simpa using h2
      have hne : i ≠ id := fun q => hd.1 (q ▸ List.mem_of_getElem? e1)
      cases b
      case ref a' e' cs' =>
        simp only [deepNews, upds]
        rw [deepNews_any hd.2 e1 e2]
        exact upd_other _ _ hne
      case fp cs' e' =>
        simp only [deepNews, upds]
        rw [deepNews_any hd.2 e1 e2]
        exact upd_other _ _ hne
      all_goals exact deepNews_any (l := r) (bs := bs) (f := f) hd.2 e1 e2
theorem deepDead_mem {i : Nat} : ∀ {l : List Nat} {bs : List AV} {j : Nat}, l[j]? = some i → bs[j]? = some .any → i ∈ deepDead l bs
  | [], _, _, h, _ => by simp at h
  | _ :: _, [], _, _, h => by simp at h
  | id :: r, b :: bs, j, h1, h2 => by
    cases j with
    | zero =>
      simp only [List.getElem?_cons_zero, Option.some.injEq] at h1 h2
      subst h1; subst h2
      exact List.mem_cons_self
    | succ j =>
      have e1 : r[j]? = some i := by simpa using h1
      have e2 : bs[j]? = some .any := by simpa using h2
      cases b
      case ref a' e' cs' => exact deepDead_mem (l := r) (bs := bs) e1 e2
      case fp cs' e' => exact deepDead_mem (l := r) (bs := bs) e1 e2
      all_goals exact List.mem_cons_of_mem _ (deepDead_mem (l := r) (bs := bs) e1 e2)
theorem deepDead_sub {i : Nat} : ∀ {l : List Nat} {bs : List AV}, i ∈ deepDead l bs → i ∈ l
  | [], bs, h => by cases bs <;> simp [deepDead] at h
  | _ :: _, [], h => by simp [deepDead] at h
  | id :: r, b :: bs, h => by
    cases b
    case ref a' e' cs' => exact List.mem_cons_of_mem _ (deepDead_sub (l := r) (bs := bs) h)
    case fp cs' e' => exact List.mem_cons_of_mem _ (deepDead_sub (l := r) (bs := bs) h)
    all_goals
      rcases List.mem_cons.1 h with q | q
      · exact q ▸ List.mem_cons_self
      · exact List.mem_cons_of_mem _ (deepDead_sub (l := r) (bs := bs) q)
theorem deepNews_keys {L : List Nat} {i : Nat} : ∀ {l : List Nat} {bs : List AV}, i ∈ (deepNews L l bs).map (·.1) → i ∈ l
  | [], bs, h => by cases bs <;> simp [deepNews] at h
  | id :: r, [], h => by simp [deepNews] at h
  | id :: r, b :: bs, h => by
    cases b
    case ref a e cs =>
      simp only [deepNews, List.map_cons, List.mem_cons] at h
      rcases h with h | h
      · exact h ▸ List.mem_cons_self
      · exact List.mem_cons_of_mem _ (deepNews_keys h)
    case fp cs e =>
      simp only [deepNews, List.map_cons, List.mem_cons] at h
      rcases h with h | h
      · exact h ▸ List.mem_cons_self
      · exact List.mem_cons_of_mem _ (deepNews_keys h)
    all_goals exact List.mem_cons_of_mem _ (deepNews_keys (L := L) (l := r) (bs := bs) h)
theorem deepNews_key {L : List Nat} {i : Nat} {v : AV} (hv : isRef v = true) : ∀ {l : List Nat} {bs : List AV} {j : Nat}, l[j]? = some i → bs[j]? = some v → i ∈ (deepNews L l bs).map (·.1)
  | [], _, _, h, _ => by simp at h
  | _ :: _, [], _, _, h => by simp at h
  | id :: r, b :: bs, j, h1, h2 => by
    cases j with
    | zero =>
      simp only [List.getElem?_cons_zero, Option.some.injEq] at h1 h2
      subst h1; subst h2
      cases b <;> first | (simp [isRef] at hv; done) | exact List.mem_cons_self
    | succ j =>
      have e1 : r[j]? = some i := by simpa using h1
      have e2 : bs[j]? = some v := by simpa using h2
      have := deepNews_key (L := L) hv e1 e2
      cases b
      case ref a' e' cs' => exact List.mem_cons_of_mem _ this
      case fp cs' e' => exact List.mem_cons_of_mem _ this
      all_goals exact this
theorem deepDead_at {i : Nat} : ∀ {l : List Nat} {bs : List AV}, i ∈ deepDead l bs → ∃ (j : Nat) (v : AV), l[j]? = some i ∧ bs[j]? = some v ∧ isRef v = false
  | [], bs, h => by cases bs <;> simp [deepDead] at h
  | _ :: _, [], h => by simp [deepDead] at h
  | id :: r, b :: bs, h => by
    by_cases hb : isRef b = true
    · have h' : i ∈ deepDead r bs := by cases b <;> first | (simp [isRef] at hb; done) | exact h
      obtain ⟨j, v, q1, q2, q3⟩ := deepDead_at h'
      exact ⟨j + 1, v, by simpa using q1, by simpa using q2, q3⟩
    · have hb' : isRef b = false := by simpa using hb
      have h' : i ∈ id :: deepDead r bs := by cases b <;> first | (simp [isRef] at hb; done) | exact h
      rcases List.mem_cons.1 h' with q | q
      · subst q
        exact ⟨0, b, rfl, rfl, hb'⟩
      · obtain ⟨j, v, q1, q2, q3⟩ := deepDead_at q
        exact ⟨j + 1, v, by simpa using q1, by simpa using q2, q3⟩
theorem cBs_ref : ∀ {ts vs : List AV} {j : Nat} {t : AV}, ts[j]? = some t → isRef t = true → ∃ v, (cBs ts vs)[j]? = some v ∧ isRef v = true
  | [], _, _, _, h, _ => by simp at h
  | t :: ts, vs, 0, u, h, e => by
    simp only [List.getElem?_cons_zero, Option.some.injEq] at h
    subst h
    refine ⟨_, rfl, ?_⟩
    cases t <;> first | (simp [isRef] at e; done) | rfl | skip
    rename_i a _ _
    cases a <;> rfl
  | t :: ts, vs, j + 1, u, h, e => by
    obtain ⟨v, q1, q2⟩ := cBs_ref (ts := ts) (vs := vs.tail) (j := j) (by simpa using h) e
    exact ⟨v, by simpa [cBs] using q1, q2⟩
end Go.Proofs.YtlcnpecejhcnfaaDoor.EV
