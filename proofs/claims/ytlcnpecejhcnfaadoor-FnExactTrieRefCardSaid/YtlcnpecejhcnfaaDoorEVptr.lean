/- Pointers, and the bytes of strings.Builder. No conditions. -/
import Derived.Test.YtlcnpecejhcnfaaDoorEVop2
import Derived.Lib.Builder
import Derived.Lib.UnsafeStr
import Derived.Laws.Externs
import Derived.KernelRfl
namespace Go.Proofs.YtlcnpecejhcnfaaDoor.EV
set_option linter.unusedVariables false
set_option linter.unusedSimpArgs false
open Go Go.RowKit

theorem liveS_ok {P : Program} {w : World} {C : Ctx} {H : Nat → Option Blk} (hH : RelH P w C H) {t : TypeId} {x : AV} {vx : Value} (rx : Rep w C x vx) (h : liveS P H t x = true) :
    ∃ b, vx = .pointer (some ⟨b, 0, none⟩) ∧ w.shape? b = some (t, szOf P t) ∧ okT P t = true := by
  cases x <;> simp only [liveS, Bool.false_eq_true] at h
  rename_i id off
  obtain ⟨L, q1, rfl⟩ := rx
  cases hk : H id with
  | none => rw [hk] at h; simp at h
  | some k =>
    rw [hk] at h
    simp only [Bool.and_eq_true] at h
    obtain ⟨⟨⟨⟨h1, h2⟩, h3⟩, h4⟩, h5⟩ := h
    have ho := nbeq_eq h1
    subst ho
    have ha : k.arr = false := by cases ha : k.arr <;> rw [ha] at h3 <;> simp at h3 <;> rfl
    obtain ⟨k2, q2, ok⟩ := hH.blk id L q1
    rw [hk] at q2; cases q2
    have hst := Nat.le_of_ble_eq_true h2
    rcases ok with ok | ⟨e0, cells, el, fr, e1, e2, e3, e4, _⟩
    · omega
    · obtain ⟨_, t1, t2⟩ := e4
      obtain ⟨t3, t4⟩ := t2 ha
      refine ⟨L.b, by rw [t3], ?_, h5⟩
      have he := nbeq_eq h4
      simp [World.shape?, e1, e2, t4, t1, he]
theorem ptrConv_ok {P : Program} {w : World} {C : Ctx} {H : Nat → Option Blk} (hH : RelH P w C H) (base : Nat) {s d : TypeId} {x : AV} {vx : Value} (rx : Rep w C x vx) {g : Bool} {v : AV} {nw : List (Nat × Blk)} {dd fz : List Nat}
    (h : ptrConv P H s d x = .val g v nw dd fz) : Did P w C H base (do pure (.value (← convert s d vx))) v (after H nw dd fz) := by
  unfold ptrConv at h
  cases hs : und P s <;> cases hd : und P d <;> rw [hs, hd] at h <;> simp only [reduceCtorEq] at h
  · rename_i u
    cases hl : (liveS P H u x && liesAt P P.depth u (szOf P u / P.cellsOf u) 0 u 1) with
    | false => rw [hl] at h; simp at h
    | true =>
      rw [hl] at h
      simp only [Res.pure, Res.val.injEq] at h
      obtain ⟨rfl, rfl, rfl, rfl, rfl⟩ := h
      rw [Bool.and_eq_true] at hl
      obtain ⟨b, rfl, q2, q3⟩ := liveS_ok hH rx hl.1
      obtain ⟨i, dd, ei, es, e1, _⟩ := okT_info q3
      exact did_val hH (Lib.run_from_unsafe w ⟨b, 0, none⟩ (und_eq hs (by simp)) (und_eq hd (by simp)) ei q2 hl.2) rx
  · rename_i u
    cases hl : liveS P H u x with
    | false => rw [hl] at h; simp at h
    | true =>
      rw [hl] at h
      simp only [Res.pure, Res.val.injEq] at h
      obtain ⟨rfl, rfl, rfl, rfl, rfl⟩ := h
      obtain ⟨b, rfl, q2, q3⟩ := liveS_ok hH rx hl
      obtain ⟨i, dd, ei, es, e1, _⟩ := okT_info q3
      exact did_val hH (Lib.run_to_unsafe w ⟨b, 0, none⟩ (und_eq hs (by simp)) (und_eq hd (by simp)) ei (by omega) q2 (by show 0 < szOf P u; omega)) rx

theorem run_equal_pnil {P : Program} {w : World} {t e : TypeId} (ht : und P t = .pointer e) (a : Option Addr) : (Op.equal t (.pointer a) (.pointer none)).run P w = .ok a.isNone w := by
  unfold Op.equal
  rw [show Op.maxDepth = 9999 + 1 from rfl, Op.equalIn]
  rw [Sem.run_bind, run_und ht (by simp), Result.andThen_ok]
  cases a <;> rfl
theorem nilPC_eq {y : Operand} (h : nilPC y = true) : y = .const (.pointer none) := by
  unfold nilPC at h
  split at h
  · rfl
  · cases h
theorem ptrNil_ok {w : World} {C : Ctx} {x : AV} {vx : Value} (rx : Rep w C x vx) {d g : Bool} {v : AV} {nw : List (Nat × Blk)} {dd fz : List Nat} (h : ptrNil d x = .val g v nw dd fz) :
    nw = [] ∧ dd = [] ∧ fz = [] ∧ ∃ a, vx = .pointer a ∧ v = .bool (match a.isNone with | true => d | false => flipB d) := by
  cases x <;> simp only [ptrNil, Res.pure, reduceCtorEq, Res.val.injEq] at h
  · obtain ⟨rfl, rfl, rfl, rfl, rfl⟩ := h
    simp only [Rep] at rx
    exact ⟨rfl, rfl, rfl, none, rx, rfl⟩
  · obtain ⟨rfl, rfl, rfl, rfl, rfl⟩ := h
    obtain ⟨L, _, rfl⟩ := rx
    exact ⟨rfl, rfl, rfl, _, rfl, rfl⟩
  · obtain ⟨rfl, rfl, rfl, rfl, rfl⟩ := h
    obtain ⟨b, o, rfl, _⟩ := rx
    exact ⟨rfl, rfl, rfl, _, rfl, rfl⟩
theorem ptrBin_ok {P : Program} {w : World} {C : Ctx} {H : Nat → Option Blk} (hH : RelH P w C H) (base : Nat) (op : BinOp) (t : TypeId) (xo yo : Operand) {x y : AV} {vx vy : Value} (rx : Rep w C x vx) (ry : Rep w C y vy) (hy : nilPC yo = true → vy = .pointer none) {g : Bool} {v : AV} {nw : List (Nat × Blk)} {dd fz : List Nat}
    (h : ptrBin P op t yo x y = .val g v nw dd fz) : Did P w C H base (do pure (.value (← (do eqGuard op t xo yo vx vy; binOp op t vx vy : Sem Value)))) v (after H nw dd fz) := by
  unfold ptrBin at h
  cases ht : und P t <;> rw [ht] at h <;> try (simp only [reduceCtorEq] at h; done)
  rename_i e
  cases op <;> first | (simp only [reduceCtorEq] at h; done) | skip
  · cases hn : nilPC yo with
    | false => rw [hn] at h; simp at h
    | true =>
      rw [hn] at h
      obtain ⟨rfl, rfl, rfl, a, rfl, rfl⟩ := ptrNil_ok rx h
      have hv := hy hn
      subst hv
      refine did_val hH (u := .bool a.isNone) ?_ (by cases a <;> rfl)
      rw [Sem.run_bind, show (eqGuard .eql t xo yo (.pointer a) (.pointer none)).run P w = .ok () w from rfl, Result.andThen_ok]
      simp only [binOp, Sem.run_bind, run_equal_pnil ht, Result.andThen_ok, Sem.run_pure]
  · cases hn : nilPC yo with
    | true =>
      rw [hn] at h
      obtain ⟨rfl, rfl, rfl, a, rfl, rfl⟩ := ptrNil_ok rx h
      have hv := hy hn
      subst hv
      refine did_val hH (u := .bool (!a.isNone)) ?_ (by cases a <;> rfl)
      rw [Sem.run_bind, show (eqGuard .neq t xo yo (.pointer a) (.pointer none)).run P w = .ok () w from rfl, Result.andThen_ok]
      simp only [binOp, Sem.run_bind, run_equal_pnil ht, Result.andThen_ok, Sem.run_pure]
    | false =>
      rw [hn] at h
      simp only at h
      cases hs : (samePtr x y && okT P e) with
      | false => rw [hs] at h; simp at h
      | true =>
        rw [hs] at h
        simp only [Res.pure, Res.val.injEq] at h
        obtain ⟨rfl, rfl, rfl, rfl, rfl⟩ := h
        rw [Bool.and_eq_true] at hs
        obtain ⟨i, d, ei, _⟩ := okT_info hs.2
        have h1 := hs.1
        cases x <;> cases y <;> simp only [samePtr, Bool.false_eq_true, Bool.and_eq_true] at h1
        have z1 := nbeq_eq h1.1
        have z2 := nbeq_eq h1.2
        subst z1; subst z2
        obtain ⟨L, q1, rfl⟩ := rx
        obtain ⟨L2, q2, rfl⟩ := ry
        rw [q1] at q2; cases q2
        refine did_val hH (u := .bool false) ?_ rfl
        rw [Sem.run_bind, show ∀ a b, (eqGuard .neq t xo yo (.pointer (some a)) (.pointer (some b))).run P w = .ok () w from fun _ _ => rfl, Result.andThen_ok]
        exact Lib.run_neq_ptr_same w _ (und_eq ht (by simp)) ei

theorem sliceData_ok {P : Program} {w : World} {C : Ctx} {H : Nat → Option Blk} (hH : RelH P w C H) (base : Nat) (ts : Array TypeId) (ty : TypeId) (cons : Array Bool) {xs : List AV} {vs : Array Value} (r : RepL w C xs vs.toList)
    {g : Bool} {v : AV} {nw : List (Nat × Blk)} {dd fz : List Nat} (h : sliceData P ts.toList xs = .val g v nw dd fz) (hg : g = true) : Did P w C H base (builtin .unsafeSliceData ts ty cons vs) v (after H nw dd fz) := by
  obtain ⟨vl⟩ := vs
  obtain ⟨tl⟩ := ts
  simp only at r h
  match xs, r, h with
  | [.nils], r, h =>
    obtain ⟨vx, r1, rfl, rx, r2⟩ := r
    cases r2
    match tl, h with
    | [t], h =>
      simp only [sliceData] at h
      cases ht : und P t <;> rw [ht] at h <;> simp only [Res.pure, reduceCtorEq, Res.val.injEq] at h
      obtain ⟨rfl, rfl, rfl, rfl, rfl⟩ := h
      obtain ⟨_, rfl⟩ := rx
      refine did_eq (s' := do pure (.value (← Builtin.unsafeSliceData_ #[t] ty #[.slice none 0 0]))) rfl ?_
      exact did_val hH (Lib.run_unsafeSliceData_nil w _ _ _ _) rfl
  | [.own id off n], r, h =>
    obtain ⟨vx, r1, rfl, rx, r2⟩ := r
    cases r2
    match tl, h with
    | [t], h =>
      simp only [sliceData] at h
      cases ht : und P t <;> rw [ht] at h <;> simp only [Res.gpure, reduceCtorEq, Res.val.injEq] at h
      obtain ⟨rfl, rfl, rfl, rfl, rfl⟩ := h
      obtain ⟨a, cap, rfl, hc, rr⟩ := rx
      have hn : n ≠ 0 := fun q => by subst q; simp [notB] at hg
      rcases rr with ⟨q, _⟩ | ⟨L, q1, rfl, _⟩
      · exact absurd q hn
      · refine did_eq (s' := do pure (.value (← Builtin.unsafeSliceData_ #[t] ty #[.slice (some ⟨L.b, L.d + off, none⟩) n cap]))) rfl ?_
        exact did_val hH (Lib.run_unsafeSliceData_row w _ _ _ _ _ (by omega)) ⟨L, q1, rfl⟩

theorem liesAt_off {P : Program} {e : TypeId} (hc : P.cellsOf e = 1) (count off n : Nat) (hn : off + n ≤ count) : liesAt P P.depth e count off e n = true := by
  have hd : P.depth = (2 * (P.types.size + Made.depth) + 1) + 1 := rfl
  rw [hd]
  simp only [liesAt, Bool.or_eq_true]
  left
  rw [hd]
  simp [rowAt, hc, hn, sameLayout, Nat.mod_one]
theorem run_loadInts {P : Program} (w : World) : ∀ (l : List Int) (a : Addr) (acc : ByteArray), (∀ j x, l[j]? = some x → w.cell? (a.add j) = some (.int .u8 x)) →
    (loadBytes a acc l.length).run P w = .ok ⟨acc.data ++ (l.map fun n => UInt8.ofNat n.toNat).toArray⟩ w
  | [], a, acc, _ => by simp [loadBytes]
  | x :: l, a, acc, h => by
    have h0 : w.cell? a = some (.int .u8 x) := by
      have := h 0 x rfl
      simpa [Addr.add] using this
    have ih := run_loadInts (P := P) w l (a.add 1) (acc.push (UInt8.ofNat x.toNat)) (fun j y hy => by
      have := h (j + 1) y (by simpa using hy)
      have e : (a.add 1).add j = a.add (j + 1) := by
        unfold Addr.add
        by_cases hj : j = 0
        · subst hj; simp
        · simp [hj]; omega
      rw [e]; exact this)
    simp only [List.length_cons, loadBytes, Sem.run_bind, run_load, h0, Result.andThen]
    show (loadBytes (a.add 1) (acc.push (UInt8.ofNat x.toNat)) l.length).run P w = _
    rw [ih]
    congr 1
    apply ByteArray.ext
    simp [ByteArray.push]
theorem freeze_other (w : World) (a : Addr) (n j : Nat) (h : j ≠ a.block) : (w.freeze a n).heap[j]? = w.heap[j]? := by
  unfold World.freeze
  split
  · rfl
  · show (Array.modify w.heap a.block _)[j]? = _
    rw [Array.getElem?_modify, if_neg (fun q => h q.symm)]
theorem freeze_size (w : World) (a : Addr) (n : Nat) : (w.freeze a n).heap.size = w.heap.size ∧ (w.freeze a n).os = w.os ∧ (w.freeze a n).tape = w.tape ∧ (w.freeze a n).output = w.output := by
  unfold World.freeze
  split
  · exact ⟨rfl, rfl, rfl, rfl⟩
  · exact ⟨by simp, rfl, rfl, rfl⟩
theorem unsafeStr_ok {P : Program} {w : World} {C : Ctx} {H : Nat → Option Blk} (hH : RelH P w C H) (base : Nat) (ts : Array TypeId) (ty : TypeId) (cons : Array Bool) {xs : List AV} {vs : Array Value} (r : RepL w C xs vs.toList)
    {g : Bool} {v : AV} {nw : List (Nat × Blk)} {dd fz : List Nat} (h : unsafeStr P H ts.toList xs = .val g v nw dd fz) (hg : g = true) : Did P w C H base (builtin .unsafeString ts ty cons vs) v (after H nw dd fz) := by
  obtain ⟨vl⟩ := vs
  obtain ⟨tl⟩ := ts
  simp only at r h
  match xs, r, h with
  | [.nilp, .int ik n], r, h =>
    obtain ⟨vx, r1, rfl, rx, r2⟩ := r
    obtain ⟨vn, r3, rfl, rn, r4⟩ := r2
    cases r4
    match tl, h with
    | [t, t'], h =>
      simp only [unsafeStr, Res.gpure, Res.val.injEq] at h
      obtain ⟨rfl, rfl, rfl, rfl, rfl⟩ := h
      have hn : n = 0 := by unfold eqI at hg; simpa using hg
      subst hn
      simp only [Rep] at rx rn
      subst rx; subst rn
      refine did_eq (s' := do pure (.value (← Builtin.unsafeString_ #[t, t'] ty #[.pointer none, .int ik 0]))) rfl ?_
      refine did_val hH (u := .string .empty) ?_ rfl
      have hdef : Builtin.unsafeString_ #[t, t'] ty #[.pointer none, .int ik 0] =
          (do
            let n ← asInt (.int ik 0)
            if n < 0 then runtimePanic (.error "unsafe.String: len out of range")
            if n > IntKind.i64.max then unsupported (.unsafePointer "String: a length above the largest int")
            if n = 0 then pure (.string .empty)
            else runtimePanic (.error "unsafe.String: ptr is nil and len is not zero")) := rfl
      have hmax : IntKind.i64.max = 9223372036854775807 := rfl
      rw [hdef]
      simp [asInt, asIntOf, hmax]
  | [.ptr id off, .int ik n], r, h =>
    obtain ⟨vx, r1, rfl, rx, r2⟩ := r
    obtain ⟨vn, r3, rfl, rn, r4⟩ := r2
    cases r4
    match tl, h with
    | [t, t'], h =>
      simp only [unsafeStr] at h
      cases ht : und P t <;> rw [ht] at h <;> try (simp only [reduceCtorEq] at h; done)
      rename_i e
      cases hk : H id with
      | none => rw [hk] at h; simp at h
      | some k =>
        rw [hk] at h
        simp only at h
        cases h1 : (Nat.beq k.st 0 && Nat.beq k.elem e && Nat.beq (szOf P e) 1) <;> cases ha : k.arr <;> rw [h1, ha] at h <;> simp only [reduceCtorEq, Res.val.injEq] at h
        obtain ⟨rfl, rfl, rfl, rfl, rfl⟩ := h
        rw [Bool.and_eq_true, Bool.and_eq_true] at h1 hg
        obtain ⟨⟨h1a, h1b⟩, h1c⟩ := h1
        have hs0 := nbeq_eq h1a
        have hke := nbeq_eq h1b
        have hsz := nbeq_eq h1c
        obtain ⟨hpos, hg2, hg3⟩ := hg
        rw [Bool.and_eq_true] at hg3
        obtain ⟨hlen, hby⟩ := hg3
        have hp : 0 < n := of_decide_eq_true hpos
        have hm : n ≤ 9223372036854775807 := of_decide_eq_true hg2
        have hlen' := Nat.le_of_ble_eq_true hlen
        unfold addN natI at hlen'
        obtain ⟨L, q1, rfl⟩ := rx
        simp only [Rep] at rn
        subst rn
        obtain ⟨k2, q2, ok⟩ := hH.blk id L q1
        rw [hk] at q2; cases q2
        rcases ok with ok | ⟨e0, cells, el, fr, e1, e2, e3, e4, e5, e6, ea, e7, e8⟩
        · omega
        have hel : el = e := e4.2.1.trans hke
        subst hel
        have hcz : P.cellsOf el = 1 := by
          unfold Program.cellsOf
          unfold szOf at hsz
          cases hi : P.info? el with
          | none => rw [hi] at hsz; simp at hsz
          | some i => rw [hi] at hsz; simp [hsz]
        -- the bytes
        obtain ⟨us, u1, u2, u3⟩ := cells_at (repAt_cut e6 off n.toNat) (Nat.le_refl _)
        rw [List.take_length] at u3
        obtain ⟨l, l1, l2⟩ := isBytes_get (w := w) (C := C) (by unfold natI at hby; exact hby) u3
        have hcl : (cutC k.cells off n.toNat).length = n.toNat := by
          unfold cutC
          rw [List.length_take, List.length_drop]; omega
        have hll : l.length = n.toNat := by
          have := congrArg List.length l2
          rw [List.length_map] at this
          unfold natI at *
          omega
        have hne : n.toNat ≠ 0 := by omega
        have hloads := run_loadInts (P := P) w l ⟨L.b, L.d + off, none⟩ .empty (fun j x hx => by
          have hv : us[j]? = some (.int .u8 x) := by rw [l1, List.getElem?_map, hx]; rfl
          rw [Addr.add_mid]
          exact (u2 j _ hv).1)
        rw [hll] at hloads
        have hlies := liesAt_off (P := P) hcz (cells.size / P.cellsOf el) (L.d + off) n.toNat (by rw [hcz, Nat.div_one, e2]; omega)
        have hsh : w.shape? L.b = some (el, cells.size) := by simp [World.shape?, e1]
        have hneg : ¬ n < 0 := by omega
        have hmax : ¬ n > IntKind.i64.max := by
          have : IntKind.i64.max = 9223372036854775807 := rfl
          omega
        have hn0 : ¬ n = 0 := by omega
        have hrun : (Builtin.unsafeString_ #[t, t'] ty #[.pointer (some ⟨L.b, L.d + off, none⟩), .int ik n]).run P w = .ok (.string (strOf (cutC k.cells off n.toNat))) (w.freeze ⟨L.b, L.d + off, none⟩ n.toNat) := by
          have hdef : Builtin.unsafeString_ #[t, t'] ty #[.pointer (some ⟨L.b, L.d + off, none⟩), .int ik n] =
              (do
                let n ← asInt (.int ik n)
                if n < 0 then runtimePanic (.error "unsafe.String: len out of range")
                if n > IntKind.i64.max then unsupported (.unsafePointer "String: a length above the largest int")
                if n = 0 then pure (.string .empty)
                else if ← variablesAt ⟨L.b, L.d + off, none⟩ (← elemOf t) n.toNat then do
                  let s ← loadBytes ⟨L.b, L.d + off, none⟩ .empty n.toNat
                  freeze ⟨L.b, L.d + off, none⟩ n.toNat
                  pure (.string s)
                else unsupported (.unsafePointer "String: not so many bytes at ptr")) := rfl
          rw [hdef]
          have hstr : strOf (cutC k.cells off n.toNat) = ⟨ByteArray.empty.data ++ (l.map fun n => UInt8.ofNat n.toNat).toArray⟩ := by
            rw [l2, strOf_eq]
            apply ByteArray.ext
            rw [foldl_push]
          rw [hstr]
          simp [asInt, asIntOf, hneg, hmax, hn0, variablesAt, hsh, elemOf, run_underlying (und_eq ht (by simp)), hlies, hloads]
          exact hm
        obtain ⟨z1, z2, z3, z4⟩ := freeze_size w ⟨L.b, L.d + off, none⟩ n.toNat
        have hfz : ¬ C.Fz L.b := e7 hs0
        have hneb : ∀ b, C.Fz b → b ≠ L.b := fun b hb q => hfz (q ▸ hb)
        have st : Step w C (w.freeze ⟨L.b, L.d + off, none⟩ n.toNat) C := ⟨fun _ _ x => x, fun _ x => x, fun b hb => freeze_other _ _ _ _ (hneb b hb)⟩
        have hH2 : setSt H 2 [id] = upd H id (some { k with st := 2 }) := by simp [setSt, hk]
        have hw : RelH P (w.freeze ⟨L.b, L.d + off, none⟩ n.toNat) C (setSt H 2 [id]) := by
          refine rel_world (rel_kill hH [id]) (by omega) (fun b hb => freeze_other _ _ _ _ (hneb b hb)) (fun j M k3 q1' q2 q3 => freeze_other _ _ _ _ ?_)
          by_cases hj : j = id
          · subst hj; rw [hH2, upd_same] at q2; cases q2; simp at q3
          · rw [hH2, upd_other _ _ hj] at q2
            exact fun x => hH.apart id j L M k k3 q1 q1' hk q2 hs0 q3 (Ne.symm hj) x.symm
        have k1 : Kept w C H w C (setSt H 2 [id]) := kept_kill w C H [id]
        refine did_eq (s' := do pure (.value (← Builtin.unsafeString_ #[t, t'] ty #[.pointer (some ⟨L.b, L.d + off, none⟩), .int ik n]))) rfl ?_
        refine ⟨_, _, _, C, by rw [Sem.run_bind, hrun]; rfl, .inl rfl, rfl, hw, ⟨st, z2, z3, z4, by omega, fun b hb hn => freeze_other _ _ _ _ (fun q => hn ⟨id, L, k, q1, hk, hs0, q.symm⟩), k1.rw, k1.rwa, fun b q => .inl q⟩, fun _ _ q => q⟩

theorem find_noEsc {fn : Func} (h : fn.name = "internal/abi.NoEscape") : Extern.find fn = some Extern.AbiNoEscape.same := by
  unfold Extern.find
  rw [h]
  have a1 : Extern.allGenericRows.lookup "internal/abi.NoEscape" = none := by kernel_rfl
  have a2 : Extern.allTypedRows.lookup "internal/abi.NoEscape" = none := by kernel_rfl
  have a3 : Extern.allRows.lookup "internal/abi.NoEscape" = some Extern.AbiNoEscape.same := by kernel_rfl
  simp only [a1, a2, a3]
  rfl
theorem run_ext_call {cp : CP} {x : Operand} (hx : isExt cp x = true) (ev : Operand → Value) (hev : ∀ f, ev (.func f) = .func (.func f) #[] #[]) (dst : Option Tmp) {args : Array Operand} {v : Value} (ha : args.map ev = #[v]) (ats : Array TypeId) (ty : TypeId) (pos : String) (aft : Array Edge) (gu : Option (Nat × Bool)) (w : World) :
    (execOp ev ⟨dst, .call ⟨.value x, args, ats⟩, ty, pos, aft, gu⟩).run cp.P w = .ok (.value v) w := by
  cases x <;> simp only [isExt, Bool.false_eq_true] at hx
  rename_i f
  cases hl : look cp.fns f with
  | some _ => rw [hl] at hx; simp at hx
  | none =>
    rw [hl] at hx
    simp only at hx
    cases hf : cp.P.funcs[f]? with
    | none => rw [hf] at hx; simp at hx
    | some fn =>
      rw [hf] at hx
      simp only [noEscB, Bool.and_eq_true] at hx
      obtain ⟨h1, h2, h3⟩ := hx
      have hname : fn.name = "internal/abi.NoEscape" := by simpa using h2
      show (Sem.run cp.P (resolve ev ⟨.value (.func f), args, ats⟩ ty >>= fun d => invoke d.target d.args) w) = _
      rw [Sem.run_bind]
      show ((Sem.run cp.P (Deferred.ofValue (ev (.func f)) (args.map ev)) w).andThen _) = _
      rw [hev f]
      show (Sem.run cp.P (callFunc f ((#[] ++ args.map ev) ++ #[])) w) = _
      rw [Array.empty_append, Array.append_empty, ha]
      rw [run_callFunc_extern hf (by rw [hname]; rfl) h1 (by simpa using h3) (find_noEsc hname)]
      rfl
end Go.Proofs.YtlcnpecejhcnfaaDoor.EV
