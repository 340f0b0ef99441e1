/- What a callee hands out where trees are about. No conditions. -/
import Derived.Test.YtlcnpecejhcnfaaDoorEVcallt
namespace Go.Proofs.YtlcnpecejhcnfaaDoor.EV
set_option linter.unusedVariables false
set_option linter.unusedSimpArgs false
open Go Go.RowKit

theorem relT_world {P : Program} {w w' : World} {C : Ctx} {H : Nat → Option Blk} (r : RelT P w C H) (hw : ∀ b, b < w.heap.size → w'.heap[b]? = w.heap[b]?) (hsz : w.heap.size ≤ w'.heap.size) (hos : w'.os = w.os) (htp : w'.tape = w.tape) (hout : w'.output = w.output) : RelT P w' C H ∧ KeptT P w C H w' C H :=
  tree_step r (fun _ => False) rfl (fun _ _ q => q) (fun _ _ => ⟨rfl, rfl⟩) (fun _ _ q => q.elim) (fun _ _ _ _ _ _ _ _ q => q.elim) (fun b hb _ => hw b hb) hsz hos htp hout
/-- A frame that begins with no blocks: what its rows are. -/
theorem start_none {P : Program} {w : World} {F : Nat → Prop} : (∀ b, ¬ RW ⟨fun _ => none, F⟩ (look ([] : List (Nat × Blk))) b) ∧ ∀ b, ¬ TW P w ⟨fun _ => none, F⟩ (look ([] : List (Nat × Blk))) b :=
  ⟨(by rintro b ⟨_, _, _, q, _⟩; cases q), (by rintro b ⟨_, _, _, _, q, _⟩; cases q)⟩
theorem post_thaw {cp : CP} {f : FuncId} (hnd : isDeep cp f = false) (hnt : treeF cp f = false) {w : World} {C : Ctx} {H : Nat → Option Blk} (rt : RelT cp.P w C H) {F : Nat → Prop} (hsub : ∀ x, C.Fz x → F x) {base top : Nat} (hb : ∀ id, base ≤ id → id < top → C.φ id = none) (hno : ∀ id k, base ≤ id → id < top → H id = some k → k.st < 3) {fn : Func} {r : List AV} {w' : World} {e : Ending}
    (ran : Ran cp w ⟨fun _ => none, F⟩ (look []) fn f [] r e w') (htop : (takeVals (cp.fresh.contains f) cp.P base fn.resultTypes.toList r).2.2 ≤ top) (hth : (scalarRes cp.P fn || thaw cp f fn) = true) (hpl : scalarRes cp.P fn = false → plainRes r = true) :
    ∃ u D2, e = .returned u ∧ RelT cp.P w' D2 (upds H (takeVals (cp.fresh.contains f) cp.P base fn.resultTypes.toList r).2.1) ∧
      KeptT cp.P w C H w' D2 (upds H (takeVals (cp.fresh.contains f) cp.P base fn.resultTypes.toList r).2.1) ∧
      Rep w' D2 (tupA (takeVals (cp.fresh.contains f) cp.P base fn.resultTypes.toList r).1) u ∧ (∀ id, (id < base ∨ top ≤ id) → D2.φ id = C.φ id) := by
  obtain ⟨C', H', vs, us, rfl, kept, hCT, rl, fin, _⟩ := ran
  obtain ⟨n1, n2⟩ := start_none (P := cp.P) (w := w) (F := F)
  have hC := hCT.h
  have same : ∀ x, x < w.heap.size → w'.heap[x]? = w.heap[x]? := fun x q => kept.blk x q (n1 x) (n2 x)
  have hlow : ∀ id L k, C'.φ id = some L → H' id = some k → k.st = 0 → 0 ≤ id → w.heap.size ≤ L.b := by
    intro id L k q1 q2 q3 _
    rcases kept.rw L.b (.inl ⟨id, L, k, q1, q2, q3, rfl⟩) with q | q | q
    · exact absurd q (n1 _)
    · exact absurd q (n2 _)
    · exact q
  unfold finishV at fin
  rw [hnd, hnt] at fin
  simp only at fin
  cases ho : handOut cp.P H' (cp.fresh.contains f) fn.resultTypes.toList vs with
  | none => rw [ho] at fin; simp at fin
  | some p =>
    obtain ⟨os, i⟩ := p
    rw [ho] at fin
    simp only [refsOut, List.append_nil] at fin
    cases hok : (okRes cp.P fn.resultTypes.toList os && (i.all fun x => Nat.ble ([] : List TypeId).length x) && (!cp.fresh.contains f || (distinct (ownIds vs) && (ownIds vs).all fun x => !i.contains x && Nat.ble ([] : List TypeId).length x))) with
    | false => rw [hok] at fin; simp at fin
    | true =>
      rw [hok] at fin
      simp only [Option.some.injEq] at fin
      subst fin
      rw [Bool.and_eq_true, Bool.and_eq_true] at hok
      obtain ⟨⟨hok1, _⟩, hok3⟩ := hok
      have hi := handOut_ids ho
      have hTi : cp.fresh.contains f = true → (ownIds vs).Nodup ∧ ∀ id, id ∈ ownIds vs → id ∉ ([] : List Nat) ∧ id ∉ i ∧ 0 ≤ id := by
        intro hfr
        rw [hfr] at hok3
        simp only [Bool.not_true, Bool.false_or, Bool.and_eq_true, List.all_eq_true] at hok3
        refine ⟨distinct_nodup hok3.1, fun id hid => ⟨by simp, fun hm => ?_, Nat.zero_le _⟩⟩
        have := (hok3.2 id hid).1
        rw [Bool.not_eq_true', List.contains_eq_mem, decide_eq_false_iff_not] at this
        exact this hm
      obtain ⟨g1, g2⟩ := relT_world rt same kept.size kept.os kept.tape kept.output
      have hF : (∃ t ∈ fn.resultTypes.toList, ∃ s ∈ flat cp.P 8 t, isSl s = true) → (∀ x, C.Fz x → (C'.ice i).Fz x) ∧ ((cp.fresh.contains f = true ∧ (os.all fun v => v.parts1.all plainV) = true) ∨ ∀ x, (C'.ice i).Fz x → C.Fz x) := by
        rintro ⟨t, ht, s, hs, q⟩
        refine ⟨fun x q => .inl (kept.step.Fz x (hsub x q)), .inl ?_⟩
        have hns : scalarRes cp.P fn = false := by
          cases hsc : scalarRes cp.P fn with
          | false => rfl
          | true =>
            unfold scalarRes at hsc
            have := List.all_eq_true.1 (List.all_eq_true.1 hsc t ht) s hs
            rw [q] at this; simp at this
        rw [hns, Bool.false_or] at hth
        unfold thaw at hth
        rw [Bool.and_eq_true] at hth
        exact ⟨hth.1, hpl hns⟩
      obtain ⟨D2, a1, m1, rr, _⟩ := takeVals_ok (R := 0) hC hlow (Z := i) (fun j hj => by obtain ⟨k, q1, q2, _⟩ := hi j hj; exact ⟨k, q1, q2⟩) (fresh := cp.fresh.contains f) C.Fz fn.resultTypes.toList vs os i us base C H [] ho hok1 rl (fun _ q => q) rfl hF hTi
        ⟨g1.h, hb, fun j M k q1 q2 q3 => .inl (live_old rt.h q1 q2 q3)⟩ htop
      have kk : Kept w C H w' D2 (upds H (takeVals (cp.fresh.contains f) cp.P base fn.resultTypes.toList os).2.1) := by
        refine ⟨g2.step.trans m1.step, g2.os, g2.tape, g2.output, g2.size, fun b hb _ => same b hb, fun x q => m1.rw x q, fun x q => m1.rwa x q, fun x q => .inl (by rw [← m1.fz]; exact q)⟩
      have e1 : ∀ id b, upds H (takeVals (cp.fresh.contains f) cp.P base fn.resultTypes.toList os).2.1 id = some b → 3 ≤ b.st → H id = some b := by
        intro id b h1 h2
        rcases upds_some (l := (takeVals (cp.fresh.contains f) cp.P base fn.resultTypes.toList os).2.1) (f := H) (id := id) with z | ⟨p, p1, p2, p3⟩
        · rw [z] at h1; exact h1
        · rw [p3] at h1; cases h1
          have := takeVals_st _ _ _ _ _ p p1
          omega
      obtain ⟨l1, l2⟩ := lift rt a1.mem kk e1 (fun id b h1 h2 h3 => by
        have hb' := e1 id b h1 h2
        have : id < base ∨ top ≤ id := by
          rcases Nat.lt_or_ge id base with z | z
          · exact .inl z
          · rcases Nat.lt_or_ge id top with z2 | z2
            · have := hno id b z z2 hb'; omega
            · exact .inr z2
        rw [m1.lo id this]; exact h3)
      exact ⟨oneOr us, D2, rfl, l1, l2, repL_tup rr, fun id hid => m1.lo id hid⟩

/-! Trees that come back. -/
structure Ent where
  id : Nat
  loc : Option Loc
  blk : Blk
  cid : Nat
  T : List Nat
def EntOk (P : Program) (w : World) (C : Ctx) (H : Nat → Option Blk) (q : Ent) : Prop := q.blk.st = 3 ∧ ∀ L, q.loc = some L → TreeOk P w C L q.blk q.T ∧ (L.b :: q.T).Nodup ∧ ∃ L0 k0 T0, C.φ q.cid = some L0 ∧ H q.cid = some k0 ∧ TreeOk P w C L0 k0 T0 ∧ ∀ x, x ∈ L.b :: q.T → x ∈ L0.b :: T0
/-- What came back, from number b up to b2, out of these of the callee's blocks. -/
structure Ents (P : Program) (w : World) (C : Ctx) (H : Nat → Option Blk) (b b2 : Nat) (ids : List Nat) (news : List (Nat × Blk)) (ls : List Ent) : Prop where
  le : b ≤ b2
  ok : ∀ q ∈ ls, EntOk P w C H q
  news : news = ls.map fun q => (q.id, q.blk)
  rng : ∀ q ∈ ls, b ≤ q.id ∧ q.id < b2
  inc : ls.Pairwise fun p q => p.id < q.id
  cids : ((ls.filter fun q => q.loc.isSome).map (·.cid)).Sublist ids
theorem Ents.nil (P : Program) (w : World) (C : Ctx) (H : Nat → Option Blk) (b : Nat) : Ents P w C H b b [] [] [] := ⟨Nat.le_refl _, by simp, rfl, by simp, List.Pairwise.nil, by simp⟩
theorem Ents.app {P : Program} {w : World} {C : Ctx} {H : Nat → Option Blk} {b b2 b3 : Nat} {i j : List Nat} {n m : List (Nat × Blk)} {l k : List Ent} (h : Ents P w C H b b2 i n l) (g : Ents P w C H b2 b3 j m k) : Ents P w C H b b3 (i ++ j) (n ++ m) (l ++ k) := by
  refine ⟨Nat.le_trans h.le g.le, fun q hq => ?_, by rw [h.news, g.news, List.map_append], fun q hq => ?_, List.pairwise_append.2 ⟨h.inc, g.inc, fun p hp q hq => ?_⟩, by rw [List.filter_append, List.map_append]; exact h.cids.append g.cids⟩
  · exact (List.mem_append.1 hq).elim (h.ok q) (g.ok q)
  · have := h.le
    have := g.le
    rcases List.mem_append.1 hq with hq | hq
    · have := h.rng q hq; omega
    · have := g.rng q hq; omega
  · have := h.rng p hp
    have := g.rng q hq
    omega
/-- A context that knows them. -/
def Knows (D : Ctx) (ls : List Ent) : Prop := ∀ q ∈ ls, ∀ L, q.loc = some L → D.φ q.id = some L
theorem outT1_ok {P : Program} {w : World} {C : Ctx} {H : Nat → Option Blk} (r : RelT P w C H) {x y : AV} {i : List Nat} {u : Value} {e : TypeId} (h : outT1 P H x = some (y, i)) (he : i.all (elemB H e) = true) {s : Sc} (hok : ok1 s y = true) (rx : Rep w C x u) (b : Nat) :
    ∃ ls, Ents P w C H b (takeT1 b s e y).2.2 i (takeT1 b s e y).2.1 ls ∧ ∀ D, Knows D ls → Rep w D (takeT1 b s e y).1 u := by
  cases x <;> simp only [outT1, reduceCtorEq, Option.some.injEq, Prod.mk.injEq] at h
  case int k n =>
    obtain ⟨rfl, rfl⟩ := h
    cases s <;> simp only [ok1, Bool.false_eq_true, decide_eq_true_eq] at hok
    subst hok
    exact ⟨[], Ents.nil _ _ _ _ _, fun D _ => rx⟩
  case bool v =>
    obtain ⟨rfl, rfl⟩ := h
    cases s <;> simp only [ok1, Bool.false_eq_true] at hok
    exact ⟨[], Ents.nil _ _ _ _ _, fun D _ => rx⟩
  case str v =>
    obtain ⟨rfl, rfl⟩ := h
    cases s <;> simp only [ok1, Bool.false_eq_true] at hok
    exact ⟨[], Ents.nil _ _ _ _ _, fun D _ => rx⟩
  case nils =>
    obtain ⟨rfl, rfl⟩ := h
    cases s <;> simp only [ok1, Bool.false_eq_true] at hok
    obtain ⟨_, rfl⟩ := rx
    refine ⟨[⟨b, none, ⟨true, e, 3, []⟩, 0, []⟩], ⟨Nat.le_succ b, fun q hq => ?_, rfl, fun q hq => ?_, List.pairwise_singleton _ _, by simp⟩, fun D _ => ⟨none, 0, rfl, Nat.le_refl _, .inl ⟨rfl, rfl⟩⟩⟩
    · rw [List.mem_singleton.1 hq]; exact ⟨rfl, fun L q => by cases q⟩
    · rw [List.mem_singleton.1 hq]; exact ⟨Nat.le_refl _, Nat.lt_succ_self _⟩
  case own id off n =>
    cases hk : H id with
    | none => rw [hk] at h; simp at h
    | some k =>
      rw [hk] at h
      simp only at h
      cases h1 : (Nat.beq k.st 3 && !Nat.beq k.elem 0) <;> rw [h1] at h <;> simp only [reduceCtorEq, Option.some.injEq, Prod.mk.injEq] at h
      obtain ⟨rfl, rfl⟩ := h
      cases s <;> simp only [ok1, Bool.false_eq_true] at hok
      rw [Bool.and_eq_true, Bool.not_eq_true'] at h1
      have he0 : k.elem ≠ 0 := fun q => by rw [q] at h1; simp at h1
      have hke : k.elem = e := by
        simp only [List.all_cons, List.all_nil, Bool.and_true, elemB, hk] at he
        exact nbeq_eq he
      obtain ⟨a, cap, us, Tm, rfl, hn, hul, _, tr, _, alt⟩ := own_seg r hk (nbeq_eq h1.1) he0 rx
      rcases alt with ⟨rfl, rfl, _, _⟩ | ⟨L, T, q1, q2, q3, q4, q5, q6, q7, q8, q9, q10⟩
      · refine ⟨[⟨b, none, ⟨true, e, 3, cutC k.cells off (mulN 0 (szOf P k.elem))⟩, 0, []⟩], ⟨Nat.le_succ b, fun q hq => ?_, rfl, fun q hq => ?_, List.pairwise_singleton _ _, by simp⟩, fun D _ => ⟨a, 0, rfl, Nat.le_refl _, .inl ⟨rfl, rfl⟩⟩⟩
        · rw [List.mem_singleton.1 hq]; exact ⟨rfl, fun L q => by cases q⟩
        · rw [List.mem_singleton.1 hq]; exact ⟨Nat.le_refl _, Nat.lt_succ_self _⟩
      · have hmul : n * L.s ≤ cap * L.s := Nat.mul_le_mul_right _ hn
        have hcl := trv_len tr
        refine ⟨[⟨b, some ⟨L.b, L.d + off, L.s, L.top, n * L.s⟩, ⟨true, e, 3, cutC k.cells off (mulN n (szOf P k.elem))⟩, id, Tm⟩], ⟨Nat.le_succ b, fun q hq => ?_, rfl, fun q hq => ?_, List.pairwise_singleton _ _, by simp⟩, fun D hD => ⟨a, cap, rfl, hn, .inr ⟨⟨L.b, L.d + off, L.s, L.top, n * L.s⟩, hD _ (List.mem_singleton.2 rfl) _ rfl, q2, ?_, ?_⟩⟩⟩
        · rw [List.mem_singleton.1 hq]
          refine ⟨rfl, fun L2 z => ?_⟩
          cases z
          refine ⟨⟨rfl, fun _ => by rw [← hke]; exact q4, .inl ⟨rfl, us, ?_, ?_, ?_, q9, tr⟩⟩, q7, L, k, T, q1, hk, q3, q8⟩
          · show n * L.s = List.length _
            rw [← hcl, hul, q4]
          · show L.d + off + n * L.s ≤ L.top
            omega
          · obtain ⟨cells, el, fr, g1, g2, g3, g4⟩ := q10
            exact ⟨cells, el, fr, g1, g2, g3, .inl (g4.resolve_right fun z => he0 z.1)⟩
        · rw [List.mem_singleton.1 hq]; exact ⟨Nat.le_refl _, Nat.lt_succ_self _⟩
        · show L.d + off + 0 + cap * L.s ≤ L.top
          omega
        · show 0 + n * L.s ≤ n * L.s
          omega
theorem Knows.app {D : Ctx} {l k : List Ent} (h : Knows D (l ++ k)) : Knows D l ∧ Knows D k := ⟨fun q hq => h q (List.mem_append_left _ hq), fun q hq => h q (List.mem_append_right _ hq)⟩
theorem outTL_ok {P : Program} {w : World} {C : Ctx} {H : Nat → Option Blk} (r : RelT P w C H) : ∀ {ss : List Sc} {es : List TypeId} {xs ys : List AV} {i : List Nat} {us : List Value} {b : Nat}, outTL P H es xs = some (ys, i) → ss.length = ys.length → okAll ss ys = true → RepL w C xs us →
    ∃ ls, Ents P w C H b (takeTL b ss es ys).2.2 i (takeTL b ss es ys).2.1 ls ∧ ∀ D, Knows D ls → RepL w D (takeTL b ss es ys).1 us
  | ss, es, [], ys, i, us, b, h, hl, ok, rx => by
    simp only [outTL, Option.some.injEq, Prod.mk.injEq] at h
    obtain ⟨rfl, rfl⟩ := h
    cases ss with
    | cons _ _ => simp at hl
    | nil => exact ⟨[], Ents.nil _ _ _ _ _, fun D _ => rx⟩
  | ss, es, x :: xs, ys, i, us, b, h, hl, ok, rx => by
    simp only [outTL] at h
    cases h1 : outT1 P H x with
    | none => rw [h1] at h; simp at h
    | some p =>
      cases h2 : outTL P H es.tail xs with
      | none => rw [h1, h2] at h; simp at h
      | some q =>
        obtain ⟨y, i1⟩ := p
        obtain ⟨zs, i2⟩ := q
        rw [h1, h2] at h
        simp only at h
        cases he : i1.all (elemB H (es.headD 0)) with
        | false => rw [he] at h; simp at h
        | true =>
          rw [he] at h
          simp only [Option.some.injEq, Prod.mk.injEq] at h
          obtain ⟨rfl, rfl⟩ := h
          cases ss with
          | nil => simp at hl
          | cons s ss =>
            simp only [okAll, List.headD_cons, List.tail_cons, Bool.and_eq_true] at ok
            obtain ⟨u, ur, rfl, r1, r2⟩ := rx
            obtain ⟨l1, e1, k1⟩ := outT1_ok r h1 he ok.1 r1 b
            obtain ⟨l2, e2, k2⟩ := outTL_ok r (b := (takeT1 b s (es.headD 0) y).2.2) h2 (by simpa using hl) ok.2 r2
            refine ⟨l1 ++ l2, e1.app e2, fun D hD => ⟨u, ur, rfl, k1 D hD.app.1, k2 D hD.app.2⟩⟩
theorem outTV_ok {P : Program} {w : World} {C : Ctx} {H : Nat → Option Blk} (r : RelT P w C H) {t : TypeId} {x y : AV} {i : List Nat} {u : Value} {b : Nat} (h : outTV P H t x = some (y, i)) (hbig : bigA P t = none) (ok : okRes1 P t y = true) (rx : Rep w C x u) :
    ∃ ls, Ents P w C H b (takeTV P b t y).2.2 i (takeTV P b t y).2.1 ls ∧ ∀ D, Knows D ls → Rep w D (takeTV P b t y).1 u := by
  unfold outTV at h
  unfold okRes1 at ok
  unfold takeTV
  rw [hbig] at ok
  simp only at ok
  cases ha : isAggT P t with
  | true =>
    rw [ha] at h ok
    simp only at h ok
    cases x <;> simp only [reduceCtorEq] at h
    rename_i xs
    cases h2 : outTL P H (elemsOf P 8 t) xs with
    | none => rw [h2] at h; simp at h
    | some q =>
      obtain ⟨ys, i2⟩ := q
      rw [h2] at h
      simp only [Option.some.injEq, Prod.mk.injEq] at h
      obtain ⟨rfl, rfl⟩ := h
      simp only [Bool.and_eq_true] at ok
      obtain ⟨vs, rfl, rl⟩ := rx
      obtain ⟨ls, e1, k1⟩ := outTL_ok r (b := b) h2 (nbeq_eq ok.1).symm ok.2 rl
      exact ⟨ls, e1, fun D hD => ⟨vs, rfl, k1 D hD⟩⟩
  | false =>
    rw [ha] at h ok
    simp only at h ok
    have hnref : ∀ a e zs, y ≠ .ref a e zs := by
      intro a e zs q
      subst q
      simp only [outTL] at h
      cases h1 : outT1 P H x with
      | none => rw [h1] at h; simp at h
      | some p =>
        obtain ⟨y1, i1⟩ := p
        rw [h1] at h
        simp only at h
        split at h
        · rename_i y2 i2 hq
          split at hq
          · simp only [Option.some.injEq, Prod.mk.injEq, List.cons.injEq, and_true] at hq
            simp only [Option.some.injEq, Prod.mk.injEq] at h
            rw [← hq.1, ] at h
            have hy := h.1
            subst hy
            cases x <;> simp only [outT1, reduceCtorEq, Option.some.injEq, Prod.mk.injEq, false_and] at h1
            split at h1
            · split at h1 <;> simp at h1
            · simp at h1
          · simp at hq
        · simp at h
    have hok : ok1 ((flat P 8 t).headD .bad) y = true := by
      revert ok
      generalize (flat P 8 t).headD .bad = s
      intro ok
      split at ok
      · exact absurd rfl (hnref _ _ _)
      · exact ok
    split at h
    · rename_i y2 i2 hq
      simp only [Option.some.injEq, Prod.mk.injEq] at h
      obtain ⟨rfl, rfl⟩ := h
      simp only [outTL] at hq
      cases h1 : outT1 P H x with
      | none => rw [h1] at hq; simp at hq
      | some p =>
        obtain ⟨y1, i1⟩ := p
        rw [h1] at hq
        simp only at hq
        split at hq
        · rename_i he
          simp only [Option.some.injEq, Prod.mk.injEq, List.cons.injEq, and_true, List.append_nil] at hq
          obtain ⟨rfl, rfl⟩ := hq
          exact outT1_ok r h1 he hok rx b
        · simp at hq
    · simp at h
theorem outTs_ok {P : Program} {w : World} {C : Ctx} {H : Nat → Option Blk} (r : RelT P w C H) : ∀ {ts : List TypeId} {xs ys : List AV} {i : List Nat} {us : List Value} {b : Nat}, outTs P H ts xs = some (ys, i) → noBig P ts = true → okRes P ts ys = true → RepL w C xs us →
    ∃ ls, Ents P w C H b (takeTs P b ts ys).2.2 i (takeTs P b ts ys).2.1 ls ∧ ∀ D, Knows D ls → RepL w D (takeTs P b ts ys).1 us
  | [], xs, ys, i, us, b, h, _, _, rx => by
    cases xs with
    | cons _ _ => simp [outTs] at h
    | nil =>
      simp only [outTs, Option.some.injEq, Prod.mk.injEq] at h
      obtain ⟨rfl, rfl⟩ := h
      exact ⟨[], Ents.nil _ _ _ _ _, fun D _ => rx⟩
  | t :: ts, xs, ys, i, us, b, h, nb, ok, rx => by
    cases xs with
    | nil => simp [outTs] at h
    | cons x xs =>
      simp only [outTs] at h
      cases h1 : outTV P H t x with
      | none => rw [h1] at h; simp at h
      | some p =>
        cases h2 : outTs P H ts xs with
        | none => rw [h1, h2] at h; simp at h
        | some q =>
          obtain ⟨y, i1⟩ := p
          obtain ⟨zs, i2⟩ := q
          rw [h1, h2] at h
          simp only [Option.some.injEq, Prod.mk.injEq] at h
          obtain ⟨rfl, rfl⟩ := h
          obtain ⟨u, ur, rfl, r1, r2⟩ := rx
          simp only [okRes, Bool.and_eq_true] at ok
          unfold noBig at nb
          rw [List.all_cons, Bool.and_eq_true] at nb
          have hbig : bigA P t = none := by
            have := nb.1
            cases hq : bigA P t with
            | none => rfl
            | some _ => rw [hq] at this; simp at this
          obtain ⟨l1, e1, k1⟩ := outTV_ok r (b := b) h1 hbig ok.1 r1
          obtain ⟨l2, e2, k2⟩ := outTs_ok r (b := (takeTV P b t y).2.2) h2 nb.2 ok.2 r2
          exact ⟨l1 ++ l2, e1.app e2, fun D hD => ⟨u, ur, rfl, k1 D hD.app.1, k2 D hD.app.2⟩⟩
end Go.Proofs.YtlcnpecejhcnfaaDoor.EV
