/- Every operation, where trees are about. No conditions. -/
import Derived.Test.YtlcnpecejhcnfaaDoorEVtop7
import Derived.LaidEqlPtr
namespace Go.Proofs.YtlcnpecejhcnfaaDoor.EV
set_option linter.unusedVariables false
set_option linter.unusedSimpArgs false
open Go Go.RowKit

theorem natG_row {P : Program} {w : World} {C : Ctx} {H : Nat → Option Blk} (r : RelT P w C H) {id : Nat} {g : Bool} (h : natG H id = some g) (hg : g = true) {L : Loc} (hL : C.φ id = some L) :
    ∃ cells el, w.heap[L.b]? = some (.cells cells el (0, 0)) ∧ ∃ k T, H id = some k ∧ TreeOk P w C L k T := by
  unfold natG at h
  cases hk : H id with
  | none => rw [hk] at h; simp at h
  | some k =>
    rw [hk] at h
    simp only at h
    cases h3 : Nat.beq k.st 3 with
    | false => rw [h3] at h; simp at h
    | true =>
      rw [h3] at h
      simp only at h
      have hs := nbeq_eq h3
      obtain ⟨T, ok, _⟩ := r.t.ok id L k hL hk (by omega)
      have ok' := ok
      obtain ⟨z1, z2, z3⟩ := ok
      obtain ⟨_, vs, y3, y4, ⟨cells, el, fr, q1, q2, q3, q4⟩, y6, y7⟩ := z3.resolve_right fun q => by have := q.1; omega
      refine ⟨cells, el, ?_, k, T, rfl, ok'⟩
      rcases q4 with rfl | ⟨e0, pl⟩
      · exact q1
      · rw [e0] at h
        simp only [show Nat.beq 0 0 = true from rfl, Option.some.injEq] at h
        rw [pl] at h
        rw [← h] at hg
        simp [notB] at hg
theorem twoTrees_ok {P : Program} {w : World} {C : Ctx} {H : Nat → Option Blk} (r : RelT P w C H) (base : Nat) {t e : TypeId} (ht : und P t = .pointer e) (he : okT P e = true) (xo yo : Operand) {x y : AV} {vx vy : Value} (rx : Rep w C x vx) (ry : Rep w C y vy) {g : Bool} (h : twoTrees H x y = some g) (hg : g = true) :
    DidT P w C H base (do pure (.value (← (do eqGuard .eql t xo yo vx vy; binOp .eql t vx vy : Sem Value)))) (.bool false) (after H [] [] []) := by
  cases x <;> cases y <;> simp only [twoTrees, reduceCtorEq] at h
  case ptr.ptr i o j o' =>
    cases hij : Nat.beq i j with
    | true => rw [hij] at h; simp at h
    | false =>
    cases h1 : natG H i with
    | none => rw [hij, h1] at h; simp at h
    | some a =>
    cases h2 : natG H j with
    | none => rw [hij, h1, h2] at h; simp at h
    | some b =>
    rw [hij, h1, h2] at h
    simp only [Option.some.injEq] at h
    subst h
    rw [Bool.and_eq_true] at hg
    obtain ⟨L, hL, rfl⟩ := rx
    obtain ⟨M, hM, rfl⟩ := ry
    obtain ⟨c1, e1, q1, k1, T1, p1, o1⟩ := natG_row r h1 hg.1 hL
    obtain ⟨c2, e2, q2, k2, T2, p2, o2⟩ := natG_row r h2 hg.2 hM
    have hne : j ≠ i := fun q => by rw [q] at hij; simp at hij
    have hb : L.b ≠ M.b := fun q => (r.t.off i L k1 T1 hL p1 o1 L.b (by simp) j M k2 hne hM p2).2 T2 o2 (by rw [q]; simp)
    obtain ⟨ti, d, ei, hsz, h1s, _⟩ := okT_info he
    have hnn : (⟨L.b, L.d + o, none⟩ : Addr) ≠ ⟨M.b, M.d + o', none⟩ := fun q => hb (by injection q)
    have hrun := run_eql_ptr_other w (und_eq ht (by simp)) ei (by omega) hnn q1 q2
    refine ⟨.value _, .bool false, w, C, ?_, .inl rfl, rfl, r, KeptT.refl _ _ _ _, fun _ _ q => q⟩
    rw [Sem.run_bind, Sem.run_bind, show ∀ a b, (eqGuard .eql t xo yo (.pointer (some a)) (.pointer (some b))).run P w = .ok () w from fun _ _ => rfl, Result.andThen_ok, hrun]
    rfl
theorem didT_eq {P : Program} {w : World} {C : Ctx} {H : Nat → Option Blk} {base : Nat} {s s' : Sem Next} {v : AV} {H' : Nat → Option Blk} (e : s.run P w = s'.run P w) (h : DidT P w C H base s' v H') : DidT P w C H base s v H' := by
  obtain ⟨nx, u, w', C', q1, q⟩ := h.out
  exact ⟨nx, u, w', C', e.trans q1, q⟩
theorem op_okT {cp : CP} {w : World} {C : Ctx} {H : Nat → Option Blk} (r : RelT cp.P w C H) (base : Nat) (hb : C.φ base = none) {a : Act} {ρ : Operand → AV} (hρ : ∀ x, Rep w C (ρ x) (a.eval x)) (o : Oper)
    {g : Bool} {v : AV} {nw : List (Nat × Blk)} {dd fz : List Nat} (h : evT cp ρ H base o = some (.val g v nw dd fz)) (hg : g = true) : DidT cp.P w C H base (execOp a.eval o) v (after H nw dd fz) := by
  obtain ⟨dst, op, ty, pos, aft, gu⟩ := o
  cases op <;> first | (simp only [evT, reduceCtorEq] at h; done) | skip
  case load t x =>
    simp only [evT] at h
    have rx := hρ x
    cases hgx : isG x <;> rw [hgx] at h <;> cases hx : ρ x <;> rw [hx] at h rx <;> simp only [reduceCtorEq] at h
    rename_i id off
    cases hk : H id with
    | none => rw [hk] at h; simp at h
    | some b =>
      rw [hk] at h
      simp only at h
      cases h3 : Nat.ble 3 b.st <;> rw [h3] at h <;> simp only [reduceCtorEq, Option.some.injEq] at h
      exact didT_eq rfl (treeLoad_ok r base hb hk rx h hg)
  case store t x y =>
    simp only [evT] at h
    have rx := hρ x
    cases hx : ρ x <;> rw [hx] at h rx <;> simp only [reduceCtorEq] at h
    rename_i id off
    cases hk : H id with
    | none => rw [hk] at h; simp at h
    | some b =>
      rw [hk] at h
      simp only at h
      cases h3 : Nat.ble 3 b.st <;> rw [h3] at h <;> simp only [reduceCtorEq, Option.some.injEq] at h
      exact didT_eq rfl (treeStore_ok r base hk rx (hρ y) h hg)
  case indexAddr t x ix =>
    simp only [evT] at h
    have rx := hρ x
    have ri := hρ ix
    cases hgx : isG x <;> rw [hgx] at h <;> cases hx : ρ x <;> rw [hx] at h rx <;> simp only [reduceCtorEq] at h
    rename_i id off n
    cases hk : H id with
    | none => rw [hk] at h; simp at h
    | some b =>
    rw [hk] at h
    simp only at h
    cases h3 : Nat.ble 3 b.st <;> rw [h3] at h <;> simp only [reduceCtorEq] at h
    cases ht : und cp.P t <;> rw [ht] at h <;> try simp only [reduceCtorEq, Option.some.injEq] at h
    cases hix : ρ ix <;> rw [hix] at h ri <;> simp only [reduceCtorEq, Res.gpure, Option.some.injEq, Res.val.injEq] at h
    rename_i e k1 i1
    obtain ⟨rfl, rfl, rfl, rfl, rfl⟩ := h
    simp only [Rep] at ri
    obtain ⟨u, q1, q2⟩ := index_own (k := k1) ht rx hg
    refine didT_eq (s' := do pure (.value (← Instr.indexAt t (a.eval x) (.int k1 i1)))) (by simp only [execOp, ri]) ⟨.value u, u, w, C, by rw [Sem.run_bind, q1]; rfl, .inl rfl, q2, r, KeptT.refl _ _ _ _, fun _ _ q => q⟩
  case makeSlice t l c =>
    simp only [evT] at h
    have rl := hρ l
    have rc := hρ c
    cases hm : cp.tm <;> rw [hm] at h <;> simp only [reduceCtorEq] at h
    cases ht : und cp.P t <;> rw [ht] at h <;> try simp only [reduceCtorEq] at h
    rename_i e
    cases hte : treeT cp.P e <;> rw [hte] at h <;> try simp only [reduceCtorEq] at h
    cases hl : ρ l <;> rw [hl] at h rl <;> try simp only [reduceCtorEq] at h
    cases hc : ρ c <;> rw [hc] at h rc <;> try simp only [reduceCtorEq, Option.some.injEq] at h
    rename_i k1 n1 k2 n2
    simp only [Rep] at rl rc
    exact didT_eq (by simp only [execOp, rl, rc]) (treeMake_ok (k := k1) (k' := k2) r base hb ht h hg)
  case buildSlice t len parts =>
    simp only [evT] at h
    cases hm : cp.tm <;> rw [hm] at h <;> simp only [reduceCtorEq] at h
    cases ht : und cp.P t <;> rw [ht] at h <;> try simp only [reduceCtorEq] at h
    rename_i e
    cases hte : treeT cp.P e <;> rw [hte] at h <;> try simp only [reduceCtorEq, Option.some.injEq] at h
    exact didT_eq rfl (treeBuild_ok r base hb ht hρ h hg)
  case binOp op t x y z =>
    simp only [evT] at h
    cases op <;> try simp only [reduceCtorEq] at h
    cases ht : und cp.P t <;> rw [ht] at h <;> try simp only [reduceCtorEq] at h
    rename_i e
    cases hny : nilPC y <;> rw [hny] at h <;> simp only [reduceCtorEq] at h
    cases h2 : twoTrees H (ρ x) (ρ y) with
    | none => rw [h2] at h; simp at h
    | some g2 =>
      cases he : okT cp.P e <;> rw [h2, he] at h <;> simp only [reduceCtorEq, Res.gpure, Option.some.injEq, Res.val.injEq] at h
      obtain ⟨rfl, rfl, rfl, rfl, rfl⟩ := h
      exact didT_eq rfl (twoTrees_ok r base ht he x y (hρ x) (hρ y) h2 hg)
  case call c =>
    obtain ⟨callee, args, ats⟩ := c
    cases callee with
    | value f => simp only [evT, reduceCtorEq] at h
    | invoke _ _ => simp only [evT, reduceCtorEq] at h
    | builtin b =>
      cases b <;> try (simp only [evT, reduceCtorEq] at h; done)
      simp only [evT] at h
      cases hm : cp.tm <;> rw [hm] at h <;> try simp only [reduceCtorEq] at h
      cases hat : ats.toList with
      | nil => rw [hat] at h; simp at h
      | cons t at2 =>
      cases at2 with
      | nil => rw [hat] at h; simp at h
      | cons t' at3 =>
      cases at3 with
      | cons _ _ => rw [hat] at h; simp at h
      | nil =>
      cases hal : args.toList.map ρ with
      | nil => rw [hat, hal] at h; simp at h
      | cons s al2 =>
      cases al2 with
      | nil => rw [hat, hal] at h; simp at h
      | cons x al3 =>
      cases al3 with
      | cons _ _ => rw [hat, hal] at h; simp at h
      | nil =>
      rw [hat, hal] at h
      simp only at h
      cases ht : und cp.P t <;> rw [ht] at h <;> try simp only [reduceCtorEq] at h
      rename_i e
      cases hc : (treeT cp.P e && (okZ cp.P e && notInt cp.P t')) <;> rw [hc] at h <;> simp only [reduceCtorEq, Option.some.injEq] at h
      rw [Bool.and_eq_true, Bool.and_eq_true] at hc
      have hatA : ats = #[t, t'] := by apply Array.ext'; rw [hat]
      subst hatA
      have ra : RepL w C (args.toList.map ρ) (args.map a.eval).toList := by
        rw [args_get]
        exact repL_of (by simp) fun j x v hx hv => by
          rw [List.getElem?_map] at hx hv
          cases hz : args.toList[j]? with
          | none => rw [hz] at hx; simp at hx
          | some z =>
            rw [hz] at hx hv
            simp only [Option.map_some, Option.some.injEq] at hx hv
            subst hx; subst hv
            exact hρ z
      rw [hal] at ra
      obtain ⟨vs, r1, e1, q1, vx, r2, e2, q2, e3⟩ := ra
      cases e3
      subst e2
      have hargs : args.map a.eval = #[vs, vx] := by apply Array.ext'; rw [e1]
      obtain ⟨cons, he⟩ := run_builtin_call cp.P w a.eval dst .append args _ ty pos aft gu
      rw [hargs] at he
      exact didT_eq he (treeApp_ok r base hb hc.2.1 q1 q2 ht hc.2.2 ty h hg)
/-- Every operation but a call of the program's own. -/
theorem op_ok {cp : CP} {w : World} {C : Ctx} {H : Nat → Option Blk} (r : RelT cp.P w C H) (hG : GlobOk cp w C) (base : Nat) (hb : C.φ base = none) (htb : ∀ k, H base = some k → k.st < 3) {a : Act} {ρ : Operand → AV} (hρ : ∀ x, Rep w C (ρ x) (a.eval x)) (o : Oper)
    {g : Bool} {v : AV} {nw : List (Nat × Blk)} {dd fz : List Nat} (h : evR cp ρ H base o = .val g v nw dd fz) (hg : g = true) : DidT cp.P w C H base (execOp a.eval o) v (after H nw dd fz) := by
  unfold evR at h
  cases hT : evT cp ρ H base o with
  | some x =>
    rw [hT] at h
    cases x with
    | no => simp [tame] at h
    | call f as z rs => simp [tame] at h
    | val g1 v1 n1 d1 z1 =>
      simp only [tame] at h
      cases ht : (n1.all fun p => Nat.ble p.1 base) with
      | false => rw [ht] at h; simp at h
      | true =>
        rw [ht] at h
        simp only [Res.val.injEq] at h
        obtain ⟨rfl, rfl, rfl, rfl, rfl⟩ := h
        exact op_okT r base hb hρ o hT hg
  | none =>
    rw [hT] at h
    simp only at h
    cases h1 : evR1 cp ρ H base o with
    | no => rw [h1] at h; simp [sane] at h
    | call f as z rs => rw [h1] at h; simp [sane] at h
    | val g1 v1 n1 d1 z1 =>
      rw [h1] at h
      simp only [sane] at h
      cases hs : (stOk H (touchV base n1 d1 z1) && n1.all (fun p => Nat.ble p.2.st 1)) with
      | false => rw [hs] at h; simp at h
      | true =>
        rw [hs] at h
        simp only [Res.val.injEq] at h
        obtain ⟨rfl, rfl, rfl, rfl, rfl⟩ := h
        rw [Bool.and_eq_true] at hs
        refine did_lift r hb htb (op_okG1 r.h hG base hb hρ o h1 hg) fun p hp => ?_
        exact Nat.le_of_ble_eq_true (List.all_eq_true.1 hs.2 p hp)
theorem evR_news {cp : CP} {ρ : Operand → AV} {H : Nat → Option Blk} {base : Nat} {o : Oper} {g : Bool} {v : AV} {nw : List (Nat × Blk)} {dd fz : List Nat} (h : evR cp ρ H base o = .val g v nw dd fz) : ∀ p ∈ nw, p.1 ≤ base ∨ p.2.st ≤ 1 := by
  unfold evR at h
  cases hT : evT cp ρ H base o with
  | some x =>
    rw [hT] at h
    cases x with
    | no => simp [tame] at h
    | call f as z rs => simp [tame] at h
    | val g1 v1 n1 d1 z1 =>
      simp only [tame] at h
      cases ht : (n1.all fun p => Nat.ble p.1 base) with
      | false => rw [ht] at h; simp at h
      | true =>
        rw [ht] at h
        simp only [Res.val.injEq] at h
        obtain ⟨rfl, rfl, rfl, rfl, rfl⟩ := h
        exact fun p hp => .inl (Nat.le_of_ble_eq_true (List.all_eq_true.1 ht p hp))
  | none =>
    rw [hT] at h
    simp only at h
    cases h1 : evR1 cp ρ H base o with
    | no => rw [h1] at h; simp [sane] at h
    | call f as z rs => rw [h1] at h; simp [sane] at h
    | val g1 v1 n1 d1 z1 =>
      rw [h1] at h
      simp only [sane] at h
      cases hs : (stOk H (touchV base n1 d1 z1) && n1.all (fun p => Nat.ble p.2.st 1)) with
      | false => rw [hs] at h; simp at h
      | true =>
        rw [hs] at h
        simp only [Res.val.injEq] at h
        obtain ⟨rfl, rfl, rfl, rfl, rfl⟩ := h
        rw [Bool.and_eq_true] at hs
        exact fun p hp => .inr (Nat.le_of_ble_eq_true (List.all_eq_true.1 hs.2 p hp))
/-- No trees from here on. -/
def NoT (H : Nat → Option Blk) (base : Nat) : Prop := ∀ id k, base ≤ id → H id = some k → k.st < 3
theorem noT_after {cp : CP} {ρ : Operand → AV} {H : Nat → Option Blk} {base : Nat} {o : Oper} {g : Bool} {v : AV} {nw : List (Nat × Blk)} {dd fz : List Nat} (h : evR cp ρ H base o = .val g v nw dd fz) {B : Nat} (hn : NoT H B) (hb : base < B) : NoT (after H nw dd fz) B := by
  intro id k hid hk
  rcases after_mem hk with ⟨p, p1, p2, p3⟩ | ⟨k0, k1, k2 | k2 | k2⟩
  · rcases evR_news h p p1 with q | q
    · omega
    · rw [← p3]; omega
  · rw [k2]; exact hn id k0 hid k1
  · rw [k2]; show 1 < 3; omega
  · rw [k2]; show 2 < 3; omega
end Go.Proofs.YtlcnpecejhcnfaaDoor.EV
