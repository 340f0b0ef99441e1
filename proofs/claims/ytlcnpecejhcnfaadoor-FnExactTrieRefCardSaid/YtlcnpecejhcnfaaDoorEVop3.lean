/- Every operation but a call of the program's own. No conditions. -/
import Derived.Test.YtlcnpecejhcnfaaDoorEVptr
namespace Go.Proofs.YtlcnpecejhcnfaaDoor.EV
set_option linter.unusedVariables false
set_option linter.unusedSimpArgs false
open Go Go.RowKit

theorem run_builtin_call (P : Program) (w : World) (ev : Operand → Value) (dst : Option Tmp) (b : Builtin) (args : Array Operand) (ats : Array TypeId) (ty : TypeId) (pos : String) (aft : Array Edge) (gu : Option (Nat × Bool)) :
    ∃ cons, (execOp ev ⟨dst, .call ⟨.builtin b, args, ats⟩, ty, pos, aft, gu⟩).run P w = (builtin b ats ty cons (args.map ev)).run P w := by
  refine ⟨args.map fun | .const _ => true | _ => false, ?_⟩
  show (Sem.run P (resolve ev ⟨.builtin b, args, ats⟩ ty >>= fun d => invoke d.target d.args) w) = _
  rw [Sem.run_bind]
  show ((Sem.run P (pure _) w).andThen _) = _
  rw [Sem.run_pure, Result.andThen_ok]
  rfl
theorem op_ok0 {cp : CP} {w : World} {C : Ctx} {H : Nat → Option Blk} (hH : RelH cp.P w C H) (base : Nat) (hb : C.φ base = none) {a : Act} {ρ : Operand → AV} (hρ : ∀ x, Rep w C (ρ x) (a.eval x)) (o : Oper)
    {g : Bool} {v : AV} {nw : List (Nat × Blk)} {dd fz : List Nat} (h : evR0 cp ρ H base o = .val g v nw dd fz) (hg : g = true) : Did cp.P w C H base (execOp a.eval o) v (after H nw dd fz) := by
  obtain ⟨dst, op, ty, pos, aft, gu⟩ := o
  cases op <;> first | (simp [evR0] at h; done) | skip
  case move x =>
    simp only [evR0, Res.pure, Res.val.injEq] at h
    obtain ⟨rfl, rfl, rfl, rfl, rfl⟩ := h
    exact did_eq rfl (did_now hH (hρ x))
  case assign x =>
    simp only [evR0, Res.pure, Res.val.injEq] at h
    obtain ⟨rfl, rfl, rfl, rfl, rfl⟩ := h
    exact did_eq rfl (did_now hH (hρ x))
  case pick c x y =>
    have rc := hρ c
    simp only [evR0] at h
    cases hc : ρ c <;> rw [hc] at h rc <;> first | (simp at h; done) | skip
    rename_i b
    simp only [Rep] at rc
    cases b
    · simp only [Res.pure, Res.val.injEq] at h
      obtain ⟨rfl, rfl, rfl, rfl, rfl⟩ := h
      exact did_eq (by simp [execOp, rc, asBool]) (did_now hH (hρ y))
    · simp only [Res.pure, Res.val.injEq] at h
      obtain ⟨rfl, rfl, rfl, rfl, rfl⟩ := h
      exact did_eq (by simp [execOp, rc, asBool]) (did_now hH (hρ x))
  case alloc t =>
    simp only [evR0, Res.val.injEq] at h
    obtain ⟨rfl, rfl, rfl, rfl, rfl⟩ := h
    exact did_eq rfl (alloc_ok hH base hb hg)
  case box t x =>
    simp only [evR0, Res.val.injEq] at h
    obtain ⟨rfl, rfl, rfl, rfl, rfl⟩ := h
    exact did_eq rfl (box_ok hH base hb (hρ x) hg)
  case build t parts =>
    simp only [evR0] at h
    split at h
    · rename_i cs hc
      simp only [Res.pure, Res.val.injEq] at h
      obtain ⟨rfl, rfl, rfl, rfl, rfl⟩ := h
      obtain ⟨u, q1, q2⟩ := build_ok hρ hc
      exact did_eq rfl (did_val hH q1 q2)
    · simp at h
  case buildSlice t len parts =>
    simp only [evR0] at h
    cases ht : und cp.P t <;> rw [ht] at h <;> first | (simp at h; done) | skip
    rename_i e
    simp only at h
    split at h
    · rename_i hl hp
      have hl0 := nbeq_eq hl
      subst hl0
      simp only [Res.val.injEq] at h
      obtain ⟨rfl, rfl, rfl, rfl, rfl⟩ := h
      have hpe : parts = #[] := by cases parts; simpa using hp
      subst hpe
      exact did_eq (by simp [execOp]) (buildSlice0_ok hH base hb ht hg)
    cases hz : (okZ cp.P e && Nat.ble 1 len && Nat.ble (len * szOf cp.P e) 16777216) <;> rw [hz] at h <;> simp only [reduceCtorEq] at h
    split at h
    · rename_i cs hc
      split at h
      · rename_i ys fz' hc2
        simp only [Res.val.injEq] at h
        obtain ⟨rfl, rfl, rfl, rfl, rfl⟩ := h
        exact did_eq rfl (buildSlice_ok hH base hb ht hz hρ hc hc2 hg)
      · simp at h
    · simp at h
  case load t x =>
    obtain ⟨rfl, rfl, rfl, u, q1, q2⟩ := load_ok hH (hρ x) h hg
    exact did_eq rfl (did_val hH q1 q2)
  case store t x y => exact did_eq rfl (store_ok hH (hρ x) (hρ y) base h hg)
  case nilCheck x =>
    have rx := hρ x
    simp only [evR0] at h
    cases hx : ρ x <;> rw [hx] at h rx <;> simp only [Res.pure, reduceCtorEq, Res.val.injEq] at h
    · obtain ⟨rfl, rfl, rfl, rfl, rfl⟩ := h
      obtain ⟨L, q1, q2⟩ := rx
      exact did_eq (s' := pure (.value (.pointer (some ⟨L.b, L.d + _, none⟩)))) (by simp [execOp, q2]) (did_now hH ⟨L, q1, rfl⟩)
    · obtain ⟨rfl, rfl, rfl, rfl, rfl⟩ := h
      obtain ⟨b, o, q1, q2⟩ := rx
      exact did_eq (s' := pure (.value (.pointer (some ⟨b, o + _, none⟩)))) (by simp [execOp, q1]) (did_now hH ⟨b, o, rfl, q2⟩)
  case binOp op t x y yt =>
    have h' : binN cp.P op t y (ρ x) (ρ y) = .val g v nw dd fz := h
    rcases binN_cases h' with h' | ⟨e, ho, ht, hy, hx⟩
    · obtain ⟨rfl, rfl, rfl, u, q1, q2⟩ := sc_bin op t x y (hρ x) (hρ y) h' hg
      exact did_eq rfl (did_val hH q1 q2)
    · obtain ⟨rfl, rfl, rfl, u, q1, q2⟩ := sc_nil op t x y ho ht (vy := a.eval y) (by rw [hy]; rfl) (hρ x) hx
      exact did_eq rfl (did_val hH q1 q2)
  case unOp op t x =>
    have rx := hρ x
    simp only [evR0] at h
    cases op <;> cases hx : ρ x <;> rw [hx] at h rx <;> simp only [Res.pure, reduceCtorEq, Res.val.injEq] at h
    all_goals
      obtain ⟨rfl, rfl, rfl, rfl, rfl⟩ := h
      simp only [Rep] at rx
    · exact did_eq (s' := do pure (.value (← (pure (.int _ (wr _ (subI 0 _))) : Sem Value)))) (by simp only [execOp, rx, Op.unary, Op.intArith]; rfl) (did_val hH rfl rfl)
    · exact did_eq (s' := do pure (.value (← (pure (.int _ (bitsOp .xor _ _ _)) : Sem Value)))) (by simp only [execOp, rx, Op.unary, Op.intBits]; rfl) (did_val hH rfl rfl)
    · exact did_eq (s' := do pure (.value (← (pure (.bool (notB _)) : Sem Value)))) (by simp only [execOp, rx, Op.unary]; rfl) (did_val hH rfl rfl)
  case convert s d x => exact did_eq rfl (conv_ok hH base hb (hρ x) h hg)
  case makeSlice t l c =>
    have rl := hρ l
    have rc := hρ c
    simp only [evR0] at h
    cases ht : und cp.P t <;> rw [ht] at h <;> first | (simp at h; done) | skip
    cases hl : ρ l <;> rw [hl] at h rl <;> first | (simp at h; done) | skip
    rename_i k1 n1
    cases hc : ρ c <;> rw [hc] at h rc <;> first | (simp at h; done) | skip
    rename_i k2 n2
    simp only [Res.val.injEq] at h
    obtain ⟨rfl, rfl, rfl, rfl, rfl⟩ := h
    simp only [Rep] at rl rc
    exact did_eq (by simp only [execOp, rl, rc]) (make_ok (k := k1) (k' := k2) hH base hb ht hg)
  case fieldAddr t x i =>
    have rx := hρ x
    simp only [evR0] at h
    cases hf : fieldOff cp.P t i with
    | none => rw [hf] at h; simp at h
    | some f =>
      rw [hf] at h
      cases hx : ρ x <;> rw [hx] at h rx <;> first | (simp at h; done) | skip
      all_goals
        simp only at h
        cases hk : okT cp.P f.2 <;> rw [hk] at h <;> simp only [Res.pure, reduceCtorEq, Res.val.injEq] at h
        obtain ⟨rfl, rfl, rfl, rfl, rfl⟩ := h
      · rename_i off
        obtain ⟨L, q1, q2⟩ := rx
        refine did_eq (s' := do pure (.value (← Instr.fieldAt t (.pointer (some ⟨L.b, L.d + off, none⟩)) i))) (by simp only [execOp, q2]) (did_val hH (run_fieldAt hf hk _ _) ⟨L, q1, ?_⟩)
        rw [Nat.add_assoc]; rfl
      · rename_i off
        obtain ⟨b, o, q1, q2, q3⟩ := rx
        refine did_eq (s' := do pure (.value (← Instr.fieldAt t (.pointer (some ⟨b, o + off, none⟩)) i))) (by simp only [execOp, q1]) (did_val hH (run_fieldAt hf hk _ _) ⟨b, o, ?_, q2, q3⟩)
        rw [Nat.add_assoc]; rfl
  case field t x i =>
    have rx := hρ x
    simp only [evR0] at h
    cases hf : fieldOff cp.P t i with
    | none => rw [hf] at h; simp at h
    | some f =>
      rw [hf] at h
      cases hx : ρ x <;> rw [hx] at h rx <;> first | (simp at h; done) | skip
      simp only [Res.gpure, Res.val.injEq] at h
      obtain ⟨rfl, rfl, rfl, rfl, rfl⟩ := h
      exact did_eq rfl (field_ok hH base hf rx hg)
  case indexAddr t x ix =>
    have rx := hρ x
    have ri := hρ ix
    simp only [evR0] at h
    cases ht : und cp.P t <;> rw [ht] at h <;> first | (simp at h; done) | skip
    all_goals
      cases hx : ρ x <;> rw [hx] at h rx <;> first | (simp at h; done) | skip
    all_goals
      cases hi : ρ ix <;> rw [hi] at h ri <;> first | (simp at h; done) | skip
    all_goals
      simp only [Rep] at ri
    · rename_i k1 i1
      simp only [Res.gpure, Res.val.injEq] at h
      obtain ⟨rfl, rfl, rfl, rfl, rfl⟩ := h
      obtain ⟨u, q1, q2⟩ := index_fs (k := k1) ht rx hg
      exact did_eq (by simp only [execOp, ri]) (did_val hH q1 q2)
    · rename_i k1 i1
      simp only at h
      split at h
      · split at h
        · simp only [Res.gpure, Res.val.injEq] at h
          obtain ⟨rfl, rfl, rfl, rfl, rfl⟩ := h
          obtain ⟨u, q1, q2⟩ := index_own (k := k1) ht rx hg
          exact did_eq (by simp only [execOp, ri]) (did_val hH q1 q2)
        · simp at h
      · simp at h
    · rename_i k1 i1
      simp only [Res.gpure, Res.val.injEq] at h
      obtain ⟨rfl, rfl, rfl, rfl, rfl⟩ := h
      obtain ⟨u, q1, q2⟩ := index_ptr (k := k1) ht rx hg
      exact did_eq (by simp only [execOp, ri]) (did_val hH q1 q2)
    · rename_i k1 i1
      simp only [Res.gpure, Res.val.injEq] at h
      obtain ⟨rfl, rfl, rfl, rfl, rfl⟩ := h
      obtain ⟨u, q1, q2⟩ := index_fp (k := k1) ht rx hg
      exact did_eq (by simp only [execOp, ri]) (did_val hH q1 q2)
  case extract x i =>
    have rx := hρ x
    simp only [evR0] at h
    cases hx : ρ x <;> rw [hx] at h rx <;> first | (simp at h; done) | skip
    rename_i vs
    simp only at h
    cases hv : vs[i]? with
    | none => rw [hv] at h; simp at h
    | some y =>
      rw [hv] at h
      simp only [Res.pure, Res.val.injEq] at h
      obtain ⟨rfl, rfl, rfl, rfl, rfl⟩ := h
      obtain ⟨us, q1, q2⟩ := rx
      obtain ⟨u, q3, q4⟩ := repL_get q2 hv
      refine did_eq rfl (did_val hH (u := u) ?_ q4)
      rw [q1]
      unfold Instr.extract
      simp [q3]
  case index t x ix =>
    have rx := hρ x
    have ri := hρ ix
    simp only [evR0] at h
    cases ht : und cp.P t <;> rw [ht] at h <;> first | (simp at h; done) | skip
    cases hx : ρ x <;> rw [hx] at h rx <;> first | (simp at h; done) | skip
    cases hi : ρ ix <;> rw [hi] at h ri <;> first | (simp at h; done) | skip
    rename_i s k i
    simp only [Res.gpure, Res.val.injEq] at h
    obtain ⟨rfl, rfl, rfl, rfl, rfl⟩ := h
    simp only [Rep] at rx ri
    obtain ⟨h0, h1⟩ := inR_of hg
    unfold lenS at h1
    refine did_eq rfl (did_val hH (u := .int .u8 (getS s i)) ?_ rfl)
    unfold Instr.index
    have hlt : i.toNat < s.size := by omega
    simp only [rx, ri, asIntOf, Sem.run_bind, Sem.run_pure, Result.andThen_ok, run_und ht (by simp), if_pos h0]
    unfold getS
    rw [getElem?_pos s i.toNat hlt]
    rfl
  case slice t x lo hi mx =>
    have rx := hρ x
    have rl := bound_at hρ lo
    have rh := bound_at hρ hi
    simp only [evR0] at h
    cases mx with
    | some _ => simp at h
    | none =>
      simp only at h
      cases hx : ρ x <;> rw [hx] at h rx <;> first | (simp at h; done) | skip
      all_goals
        cases ht : und cp.P t <;> rw [ht] at h <;> first | (simp at h; done) | skip
      · simp only at h
        split at h
        · rename_i g' l r eb
          simp only [Res.gpure, Res.val.injEq] at h
          obtain ⟨rfl, rfl, rfl, rfl, rfl⟩ := h
          simp only [Rep] at rx
          obtain ⟨u, q1, q2⟩ := slice_str (P := cp.P) (w := w) (C := C) ht rl rh eb hg
          exact did_eq (by simp only [execOp, rx, Option.map_none]) (did_val hH q1 q2)
        · simp at h
      · simp only at h
        split at h
        · rename_i g' l r eb
          simp only [Res.gpure, Res.val.injEq] at h
          obtain ⟨rfl, rfl, rfl, rfl, rfl⟩ := h
          rw [Bool.and_eq_true] at hg
          obtain ⟨u, q1, q2⟩ := slice_nils (P := cp.P) ht hg.1 rx rl rh eb hg.2
          exact did_eq rfl (did_val hH q1 q2)
        · simp at h
      · simp only at h
        split at h
        · rename_i g' l r eb
          simp only [Res.gpure, Res.val.injEq] at h
          obtain ⟨rfl, rfl, rfl, rfl, rfl⟩ := h
          obtain ⟨u, q1, q2⟩ := slice_fs (P := cp.P) ht rx rl rh eb hg
          exact did_eq rfl (did_val hH q1 q2)
        · simp at h
      · simp only at h
        split at h
        · rename_i k hk
          split at h
          · rename_i q1 q2
            rw [Bool.and_eq_true] at q1
            split at h
            · rename_i g' l r eb
              simp only [Res.gpure, Res.val.injEq] at h
              obtain ⟨rfl, rfl, rfl, rfl, rfl⟩ := h
              obtain ⟨u, z1, z2⟩ := slice_own hH ht rx hk q1.2 q2 (Nat.le_of_ble_eq_true q1.1) rl rh eb hg
              exact did_eq rfl (did_val hH z1 z2)
            · simp at h
          · simp at h
        · simp at h
  case call c =>
    simp only [evR0] at h
    obtain ⟨callee, args, argTypes⟩ := c
    cases callee with
    | invoke _ _ => simp at h
    | value f =>
      simp only at h
      split at h
      · split at h <;> simp at h
      · simp at h
    | builtin b =>
      obtain ⟨cons, he⟩ := run_builtin_call cp.P w a.eval dst b args argTypes ty pos aft gu
      refine did_eq he (builtin_ok hH base hb b argTypes ty cons (vs := args.map a.eval) ?_ h hg)
      rw [args_get]
      exact repL_of (by simp) fun j x v hx hv => by
        rw [List.getElem?_map] at hx hv
        cases hz : args.toList[j]? with
        | none => rw [hz] at hx; simp at hx
        | some z =>
          rw [hz] at hx hv
          simp only [Option.map_some, Option.some.injEq] at hx hv
          subst hx; subst hv
          exact hρ z
theorem op_okP {cp : CP} {w : World} {C : Ctx} {H : Nat → Option Blk} (hH : RelH cp.P w C H) (base : Nat) {a : Act} {ρ : Operand → AV} (hρ : ∀ x, Rep w C (ρ x) (a.eval x)) (o : Oper) (q : isP cp o = true)
    {g : Bool} {v : AV} {nw : List (Nat × Blk)} {dd fz : List Nat} (h : evP cp ρ H o = .val g v nw dd fz) (hg : g = true) : Did cp.P w C H base (execOp a.eval o) v (after H nw dd fz) := by
    obtain ⟨dst, op, ty, pos, aft, gu⟩ := o
    have args : ∀ as : Array Operand, RepL w C (as.toList.map ρ) (as.map a.eval).toList := fun as => by
      rw [args_get]
      exact repL_of (by simp) fun j x v hx hv => by
        rw [List.getElem?_map] at hx hv
        cases hz : as.toList[j]? with
        | none => rw [hz] at hx; simp at hx
        | some z =>
          rw [hz] at hx hv
          simp only [Option.map_some, Option.some.injEq] at hx hv
          subst hx; subst hv
          exact hρ z
    cases op <;> first | (simp only [evP, reduceCtorEq] at h; done) | skip
    case convert s d x => exact did_eq rfl (ptrConv_ok hH base (hρ x) h)
    case binOp op t x y z => exact did_eq rfl (ptrBin_ok hH base op t x y (hρ x) (hρ y) (fun hn => by rw [nilPC_eq hn]; rfl) h)
    case call c =>
      obtain ⟨callee, as, ats⟩ := c
      cases callee with
      | invoke r m => simp only [evP, reduceCtorEq] at h
      | builtin b =>
        cases b <;> first | (simp only [evP, reduceCtorEq] at h; done) | skip
        · obtain ⟨cons, he⟩ := run_builtin_call cp.P w a.eval dst .unsafeSliceData as ats ty pos aft gu
          exact did_eq he (sliceData_ok hH base ats ty cons (args as) h hg)
        · obtain ⟨cons, he⟩ := run_builtin_call cp.P w a.eval dst .unsafeString as ats ty pos aft gu
          exact did_eq he (unsafeStr_ok hH base ats ty cons (args as) h hg)
      | value f =>
        simp only [evP] at h
        have hx : isExt cp f = true := q
        cases hl : as.toList.map ρ with
        | nil => rw [hl] at h; simp at h
        | cons x r =>
          cases r with
          | cons _ _ => rw [hl] at h; simp at h
          | nil =>
            rw [hl] at h
            simp only [Res.pure, Res.val.injEq] at h
            obtain ⟨rfl, rfl, rfl, rfl, rfl⟩ := h
            have ra := args as
            rw [hl] at ra
            obtain ⟨u, r2, e1, rx, e2⟩ := ra
            cases e2
            have harr : as.map a.eval = #[u] := by apply Array.ext'; rw [e1]
            exact did_eq (s' := pure (.value u)) (run_ext_call hx a.eval (fun _ => rfl) dst harr ats ty pos aft gu w) (did_now hH rx)
end Go.Proofs.YtlcnpecejhcnfaaDoor.EV
