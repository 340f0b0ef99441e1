/- Append: the operation; conversions between bytes and text. No conditions. -/
import Derived.Test.YtlcnpecejhcnfaaDoorEVmem6
import Derived.Laws.BytesString
namespace Go.Proofs.YtlcnpecejhcnfaaDoor.EV
set_option linter.unusedVariables false
set_option linter.unusedSimpArgs false
open Go Go.RowKit

theorem append_none {P : Program} {w : World} {C : Ctx} {H : Nat → Option Blk} (hH : RelH P w C H) (base : Nat) (hb : C.φ base = none) {e : TypeId} (hz : okZ P e = true) {n : Nat} {cs : List AV} {vx : Value} {news : List Value} {a : Option Addr}
    (src : Src P w C (szOf P e) n cs vx news) (hf : fitN n (byOf P e) = true) {t t' : TypeId} (ht : und P t = .slice e) (ht' : notInt P t' = true) (ty : TypeId) :
    Did P w C H base (do pure (.value (← Builtin.append_ #[t, t'] ty #[.slice a 0 0, vx]))) (.own base 0 n) (upd H base (some ⟨true, e, 0, cs⟩)) := by
  by_cases hn : n = 0
  · subst hn
    have hnil : news = [] := by have := src.size; simp at this; exact this
    subst hnil
    have hrun := inplace_run (P := P) (w := w) (base_ := a) (len := 0) (cap := 0) hz src (Nat.le_refl _) ht ht' ty w (fun _ _ _ => rfl) (fun _ => ⟨rfl, rfl⟩)
    obtain ⟨r1, r2⟩ := rel_idle hH hb ⟨true, e, 0, cs⟩
    exact ⟨.value _, _, w, C, by rw [Sem.run_bind, hrun]; rfl, .inl rfl, ⟨a, 0, rfl, Nat.le_refl _, .inl ⟨rfl, rfl⟩⟩, r1, r2, fun _ _ q => q⟩
  · have h := grow_ok (ocs := []) (olds := []) (len := 0) (cap := 0) (base_ := a) hH base hb hz src (by simp) (by simp) rfl (fun w' _ => by
      cases a with
      | none => rfl
      | some a => simp [Builtin.firstCells, loadCells, loadCellsFrom]) (by omega) (by simpa using hf) ht ht' ty
    simpa using h

theorem append_ok {P : Program} {w : World} {C : Ctx} {H : Nat → Option Blk} (hH : RelH P w C H) (base : Nat) (hb : C.φ base = none) {e : TypeId} (hz : okZ P e = true) {n : Nat} {s : AV} {vs : Value} (rs : Rep w C s vs) {cs : List AV} {vx : Value} {ex : Bool}
    (src : ex = true → ∃ news, Src P w C (szOf P e) n cs vx news) {t t' : TypeId} (ht : und P t = .slice e) (ht' : notInt P t' = true) (ty : TypeId) {g : Bool} {v : AV} {nw : List (Nat × Blk)} {dd fz : List Nat}
    (h : appendA P H base e s n cs ex = .val g v nw dd fz) (hg : g = true) :
    Did P w C H base (do pure (.value (← Builtin.append_ #[t, t'] ty #[vs, vx]))) v (after H nw dd fz) := by
  cases s <;> simp only [appendA, reduceCtorEq] at h
  case nils =>
    simp only [Res.val.injEq] at h
    obtain ⟨rfl, rfl, rfl, rfl, rfl⟩ := h
    rw [Bool.and_eq_true] at hg
    obtain ⟨news, src⟩ := src hg.2
    obtain ⟨a, rfl⟩ := rs
    exact append_none hH base hb hz src hg.1 ht ht' ty
  case own id off len =>
    cases hk : H id with
    | none => rw [hk] at h; simp at h
    | some k =>
      rw [hk] at h
      simp only at h
      cases h1 : (Nat.beq k.st 0 && (Nat.beq k.elem 0 || Nat.beq k.elem e)) <;> cases h2 : k.arr <;> rw [h1, h2] at h <;> simp only [reduceCtorEq, Res.val.injEq] at h
      obtain ⟨rfl, rfl, rfl, rfl, rfl⟩ := h
      rw [Bool.and_eq_true] at hg h1
      obtain ⟨news, src⟩ := src hg.2
      have hs0 := nbeq_eq h1.1
      have hkill := rel_kill hH [id]
      obtain ⟨a, cap, rfl, hc, r⟩ := rs
      rcases r with ⟨rfl, rfl⟩ | ⟨L, q1, q2, q3, q4⟩
      · have hcut : catC (cutC k.cells off (mulN 0 (szOf P e))) cs = cs := by simp [catC, cutC, mulN]
        rw [hcut]
        have := did_pre (kept_kill w C H [id]) (append_none hkill base hb hz src (a := a) (by simpa [addN] using hg.1) ht ht' ty)
        simpa [addN, after, upds, setSt] using this
      · obtain ⟨k2, q5, ok⟩ := hH.blk id L q1
        rw [hk] at q5; cases q5
        rcases ok with ok | ⟨e0, cells, el, fr, e1, e2, e3, e4, e5, e6, ea, e7, e8⟩
        · omega
        have hs := e4.1 h2
        have hke : k.elem = e := by
          rcases Bool.or_eq_true _ _ ▸ h1.2 with g | g
          · exact absurd (nbeq_eq g) hs.2
          · exact nbeq_eq g
        have hse : L.s = szOf P e := by rw [hs.1, hke]
        subst q2
        by_cases hroom : len + n ≤ cap
        · exact inplace_ok hH base hb hz src q1 hk hs0 h2 hke hse q3 q4 hroom ht ht' ty
        · have hcl : (cutC k.cells off (mulN len (szOf P e))).length = len * szOf P e := by
            unfold cutC mulN
            rw [List.length_take, List.length_drop, ← hse]
            have := e5.1
            omega
          obtain ⟨olds, so⟩ := src_cells (P := P) (cap := cap) (repAt_cut (ea h2) off (mulN len (szOf P e))) hcl
          exact did_pre (kept_kill w C H [id]) (grow_ok hkill base hb hz src so.size so.one so.rep so.cells (by omega) (by simpa [addN] using hg.1) ht ht' ty)

/-! Bytes and text. -/
theorem isBytes_get {cs : List AV} (h : isBytes cs = true) {w : World} {C : Ctx} : ∀ {vs : List Value}, RepL w C cs vs → ∃ l : List Int, vs = l.map (fun n => Value.int .u8 n) ∧ cs = l.map (fun n => AV.int .u8 n) := by
  induction cs with
  | nil => intro vs r; cases r; exact ⟨[], rfl, rfl⟩
  | cons c r ih =>
    intro vs rl
    obtain ⟨v, us, rfl, r1, r2⟩ := rl
    unfold isBytes at h
    rw [List.all_cons, Bool.and_eq_true] at h
    obtain ⟨l, e1, e2⟩ := ih h.2 r2
    cases c <;> simp only [ok1, reduceCtorEq, Bool.false_eq_true, decide_eq_true_eq, false_and] at h
    rename_i k n
    have hk : IntKind.u8 = k := h.1
    subst hk
    simp only [Rep] at r1
    subst r1
    exact ⟨n :: l, by simp [e1], by simp [e2]⟩
theorem foldl_push (f : Int → UInt8) : ∀ (l : List Int) (acc : ByteArray), (l.foldl (fun r n => r.push (f n)) acc).data = acc.data ++ (l.map f).toArray
  | [], acc => by simp
  | n :: l, acc => by
    rw [List.foldl_cons, foldl_push f l]
    simp [ByteArray.push]
theorem strOf_eq (l : List Int) : strOf (l.map fun n => AV.int .u8 n) = l.foldl (fun r n => r.push (UInt8.ofNat n.toNat)) ByteArray.empty := by
  apply ByteArray.ext
  rw [foldl_push]
  show ((l.map fun n => AV.int .u8 n).map fun v => UInt8.ofNat v.asInt.toNat).toArray = #[] ++ (l.map fun n => UInt8.ofNat n.toNat).toArray
  rw [List.map_map, Array.empty_append]
  rfl
theorem okU_some {P : Program} {t : TypeId} (h : okU P t = true) : ∃ d, P.underlying t = some d := by
  unfold okU und at h
  cases e : P.underlying t with
  | none => rw [e] at h; simp at h
  | some d => exact ⟨d, rfl⟩
theorem bytesOf_len (s : ByteArray) : (bytesOf s).length = s.size := by
  unfold bytesOf
  rw [List.length_map, Array.length_toList]
  rfl
theorem freeze_new (w : World) (vs : Array Value) (e : TypeId) : ((w.drew.alloc (.cells vs e)).freeze ⟨w.heap.size, vs.size, none⟩ 1).heap = w.heap.push (.cells vs e (vs.size, vs.size + 1)) := by
  unfold World.freeze
  rw [if_neg (by simp)]
  apply Array.ext_getElem?
  intro j
  show (Array.modify (w.heap.push (.cells vs e)) w.heap.size _)[j]? = _
  rw [Array.getElem?_modify, Array.getElem?_push, Array.getElem?_push]
  by_cases hj : j = w.heap.size
  · subst hj; simp
  · rw [if_neg (fun q => hj q.symm), if_neg hj, if_neg hj]
theorem conv_ok {P : Program} {w : World} {C : Ctx} {H : Nat → Option Blk} (hH : RelH P w C H) (base : Nat) (hb : C.φ base = none) {src dst : TypeId} {x : AV} {vx : Value} (rx : Rep w C x vx) {g : Bool} {v : AV} {nw : List (Nat × Blk)} {dd fz : List Nat}
    (h : convA P H base src dst x = .val g v nw dd fz) (hg : g = true) :
    Did P w C H base (do pure (.value (← convert src dst vx))) v (after H nw dd fz) := by
  have plain : ∀ u, (convert src dst vx).run P w = .ok u w → Rep w C v u → nw = [] → dd = [] → fz = [] → Did P w C H base (do pure (.value (← convert src dst vx))) v (after H nw dd fz) := by
    rintro u e1 e2 rfl rfl rfl
    exact ⟨.value u, u, w, C, by rw [Sem.run_bind, e1]; rfl, .inl rfl, e2, hH, Kept.refl _ _ _, fun _ _ q => q⟩
  have bytes : ∀ n cs e, und P src = .slice e → und P dst = .string → und P e = .int .u8 → sliceOf P e H x = some (n, cs) → (Nat.beq (szOf P e) 1 && exactly x cs n && isBytes cs) = true → v = .str (strOf cs) → nw = [] → dd = [] → fz = [] → Did P w C H base (do pure (.value (← convert src dst vx))) v (after H nw dd fz) := by
    rintro n cs e hs hd he hsl hgg rfl hn1 hn2 hn3
    rw [Bool.and_eq_true, Bool.and_eq_true] at hgg
    have hsz := nbeq_eq hgg.1.1
    obtain ⟨news, so⟩ := src_slice (e := e) hH rx hsl (by rw [hsz]; simpa [mulN] using hgg.1.2)
    obtain ⟨l, l1, l2⟩ := isBytes_get hgg.2 so.rep
    have hsl2 : ∃ a cap, vx = .slice a n cap := by
      cases x <;> simp only [sliceOf, reduceCtorEq, Option.some.injEq, Prod.mk.injEq] at hsl
      · obtain ⟨rfl, rfl⟩ := hsl
        obtain ⟨_, rfl⟩ := rx
        exact ⟨none, 0, rfl⟩
      · obtain ⟨rfl, rfl⟩ := hsl
        obtain ⟨a, cap, rfl, _⟩ := rx
        exact ⟨a, cap, rfl⟩
      · rename_i id off len
        cases hk : H id with
        | none => rw [hk] at hsl; simp at hsl
        | some k =>
          rw [hk] at hsl
          simp only at hsl
          split at hsl <;> simp only [reduceCtorEq, Option.some.injEq, Prod.mk.injEq] at hsl
          obtain ⟨rfl, rfl⟩ := hsl
          obtain ⟨a, cap, rfl, _⟩ := rx
          exact ⟨a, cap, rfl⟩
    obtain ⟨a, cap, rfl⟩ := hsl2
    refine plain (.string (strOf cs)) ?_ rfl hn1 hn2 hn3
    have hc : (convert src dst (.slice a n cap)).run P w = (Conv.bytesToString (.slice a n cap)).run P w := by
      unfold convert
      simp only [Sem.run_bind, run_und hs (by simp), run_und hd (by simp), Result.andThen_ok, run_und he (by simp)]
    rw [hc, l2, strOf_eq]
    cases a with
    | none =>
      have := so.cells w rfl
      simp only [Builtin.firstCells, Sem.run_pure] at this
      have hnil : news = [] := by
        have := congrArg (fun r => match r with | Result.ok (x : Array Value) _ => x.toList | _ => []) this
        simpa using this.symm
      rw [hnil] at l1
      have : l = [] := by simpa using l1.symm
      subst this
      rfl
    | some a =>
      have := so.cells w rfl
      rw [hsz] at this
      simp only [Builtin.firstCells, Nat.mul_one] at this
      rw [l1] at this
      exact run_bytesToString w a n cap l this
  cases x
  case int k n =>
    simp only [convA] at h
    cases h1 : okU P src <;> cases h2 : und P dst <;> rw [h1, h2] at h <;> simp only [Res.pure, reduceCtorEq, Res.val.injEq] at h
    obtain ⟨rfl, rfl, rfl, rfl, rfl⟩ := h
    simp only [Rep] at rx
    subst rx
    obtain ⟨d, hd⟩ := okU_some h1
    refine plain _ ?_ rfl rfl rfl rfl
    unfold convert
    simp only [Sem.run_bind, run_underlying hd, run_und h2 (by simp), Result.andThen_ok]
    rfl
  case str s =>
    simp only [convA] at h
    simp only [Rep] at rx
    subst rx
    cases h1 : okU P src <;> rw [h1] at h
    · simp at h
    obtain ⟨d, hd⟩ := okU_some h1
    cases h2 : und P dst <;> rw [h2] at h <;> simp only [reduceCtorEq] at h
    · simp only [Res.pure, Res.val.injEq] at h
      obtain ⟨rfl, rfl, rfl, rfl, rfl⟩ := h
      refine plain _ ?_ rfl rfl rfl rfl
      unfold convert
      simp only [Sem.run_bind, run_underlying hd, run_und h2 (by simp), Result.andThen_ok]
      rfl
    · rename_i e
      cases h3 : (okZ P e && Nat.beq (szOf P e) 1) <;> rw [h3] at h
      · cases h4 : und P e <;> rw [h4] at h <;> first | (simp at h; done) | skip
      cases h4 : und P e <;> rw [h4] at h <;> first | (simp at h; done) | skip
      rename_i k
      cases k <;> first | (simp at h; done) | skip
      simp only [Res.val.injEq] at h
      obtain ⟨rfl, rfl, rfl, rfl, rfl⟩ := h
      rw [Bool.and_eq_true] at h3
      obtain ⟨i, z, ei, hzz, hc, hs, hs1, ok, hzo, hby, hb1, hone⟩ := okZ_info h3.1
      have h1s := nbeq_eq h3.2
      let q := grownCap w s.size 0 e
      let vs : Array Value := s.data.map (fun b => Value.int .u8 b.toNat) ++ Array.replicate (q - s.size) (.int .u8 0)
      have hvs : vs.size = s.size + (q - s.size) := by
        simp only [vs, Array.size_append, Array.size_map, Array.size_replicate]
        rfl
      have hq : s.size ≤ q := Nat.le_add_right _ _
      have hrun : (convert src dst (.string s)).run P w = .ok (.slice (some ⟨w.heap.size, 0, none⟩) s.size q) ((w.drew.alloc (.cells vs e)).freeze ⟨w.heap.size, vs.size, none⟩ 1) := by
        unfold convert
        simp only [Sem.run_bind, run_underlying hd, run_und h2 (by simp), Result.andThen_ok, run_und h4 (by simp), Conv.stringToBytes, run_choose, Question.forced, Bool.false_eq_true, if_false, newRow, run_newObj, Sem.run_pure, markStringish, run_shape]
        have hsh : (w.drew.alloc (.cells vs e)).shape? w.heap.size = some (e, vs.size) := by
          unfold World.shape?
          rw [show (w.drew.alloc (.cells vs e)).heap = w.heap.push (.cells vs e) from rfl, Array.getElem?_push, if_pos rfl]
        show ((Sem.run P (match (w.drew.alloc (.cells vs e)).shape? w.heap.size with | some (_, n) => freeze { block := w.heap.size, off := n } 1 | _ => pure ()) (w.drew.alloc (.cells vs e))).andThen _) = _
        rw [hsh]
        simp only [run_freeze, Result.andThen_ok]
        rfl
      have hr := rel_new (P := P) hH base hb ⟨true, e, 0, bytesOf s⟩ rfl vs e (szOf P e) (vs.size, vs.size + 1) (fun _ => ⟨rfl, okT_ne ok⟩) rfl (fun q => by cases q)
        (fun v hv => by
          simp only [vs, Array.toList_append, List.mem_append, Array.toList_map, List.mem_map, Array.toList_replicate, List.mem_replicate] at hv
          rcases hv with ⟨b, _, rfl⟩ | ⟨_, rfl⟩ <;> rfl)
        (by show (bytesOf s).length ≤ _; rw [hvs, bytesOf_len]; omega)
        (fun j x v hx hv => by
          have rb := bytesOf_get (w := w) (C := C.bare) s
          obtain ⟨u, q1, q2⟩ := repL_get rb hx
          have hj := (List.getElem?_eq_some_iff.1 q1).1
          have : u = v := by
            simp only [vs] at hv
            rw [Array.getElem?_append_left (by simpa using hj)] at hv
            have hv' : (s.data.toList.map fun b => Value.int .u8 b.toNat)[j]? = some v := by simpa using hv
            rw [q1] at hv'
            exact Option.some.inj hv'
          subst this
          exact ⟨rep_step (Step.of_bare w C) _ _ q2, fun _ => q2⟩)
        (fun i hi q => by omega) ((w.drew.alloc (.cells vs e)).freeze ⟨w.heap.size, vs.size, none⟩ 1) (freeze_new w vs e)
        (by unfold World.freeze; rw [if_neg (by simp)]; rfl) (by unfold World.freeze; rw [if_neg (by simp)]; rfl) (by unfold World.freeze; rw [if_neg (by simp)]; rfl)
      refine ⟨.value _, _, _, _, by rw [Sem.run_bind, hrun]; rfl, .inl rfl, ⟨_, q, rfl, hq, .inr ⟨_, upd_same _ _ _, rfl, ?_, ?_⟩⟩, hr.1, hr.2, fun id q1 q2 => ?_⟩
      · show 0 + 0 + q * szOf P e ≤ vs.size
        rw [hvs, h1s]; omega
      · show 0 + lenS s * szOf P e ≤ (bytesOf s).length
        rw [h1s, bytesOf_len]; unfold lenS; omega
      · show upd C.φ base _ id = none
        rw [upd_other _ _ (by omega)]; exact q2
  all_goals
    simp only [convA] at h
    cases h1 : und P src <;> rw [h1] at h <;> first | (simp at h; done) | skip
    rename_i e
    cases h2 : und P dst <;> rw [h2] at h <;> first | (simp at h; done) | skip
    dsimp only at h
    cases h3 : und P e <;> rw [h3] at h <;> first | (simp at h; done) | skip
    rename_i k
    cases k <;> first | (simp at h; done) | skip
    split at h
    · rename_i hsl
      simp only [Res.gpure, Res.val.injEq] at h
      obtain ⟨rfl, rfl, rfl, rfl, rfl⟩ := h
      exact bytes _ _ e h1 h2 h3 (by first | assumption | exact hsl) hg rfl rfl rfl rfl
    · simp at h
end Go.Proofs.YtlcnpecejhcnfaaDoor.EV
