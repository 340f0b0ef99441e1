/- One operation of the evaluator is the program's. No conditions. -/
import Derived.Test.YtlcnpecejhcnfaaDoorEVmem9
import Derived.Laws.StructEq
namespace Go.Proofs.YtlcnpecejhcnfaaDoor.EV
set_option linter.unusedVariables false
set_option linter.unusedSimpArgs false
open Go Go.RowKit

theorem placesOf_some {P : Program} : ∀ {fs : List Field} {pl : List (Nat × Nat)}, placesOf P fs = some pl → fs.mapM (fun f => (P.info? f.type).map fun i => (f.offset, i.size)) = some pl
  | [], pl, h => by simp only [placesOf, Option.some.injEq] at h; subst h; rfl
  | f :: r, pl, h => by
    simp only [placesOf] at h
    cases h1 : okT P f.type <;> cases h2 : placesOf P r <;> rw [h1, h2] at h <;> simp only [reduceCtorEq, Option.some.injEq] at h
    obtain ⟨i, d, e, hs, _⟩ := okT_info h1
    subst h
    simp [List.mapM_cons, e, hs, placesOf_some h2]
theorem parts_at {w : World} {C : Ctx} {ρ : Operand → AV} {ev : Operand → Value} (hρ : ∀ x, Rep w C (ρ x) (ev x)) (parts : Array (Nat × Operand)) :
    (parts.toList.map fun p => (p.1, ρ p.2)).length = (parts.map fun p => (p.1, ev p.2)).toList.length ∧
    ∀ (j : Nat) (p : Nat × AV) (q : Nat × Value), (parts.toList.map fun p => (p.1, ρ p.2))[j]? = some p → (parts.map fun p => (p.1, ev p.2)).toList[j]? = some q → p.1 = q.1 ∧ Rep w C p.2 q.2 := by
  constructor
  · simp
  · intro j p q hp hq
    simp only [Array.toList_map, List.getElem?_map] at hp hq
    cases hx : parts.toList[j]? with
    | none => rw [hx] at hp; simp at hp
    | some z =>
      rw [hx] at hp hq
      simp only [Option.map_some, Option.some.injEq] at hp hq
      subst hp; subst hq
      exact ⟨rfl, hρ _⟩
theorem zero_repL {P : Program} {w : World} {C : Ctx} {t : TypeId} (h : okZ P t = true) : ∃ i z, P.info? t = some i ∧ i.zero = some z ∧ RepL w C (zeroOf P t) z.cells.toList := by
  obtain ⟨i, z, e, hz, _, _, _, _, hzo, _⟩ := okZ_info h
  exact ⟨i, z, e, hz, by rw [hzo]; exact scalars_rep w C _⟩
theorem build_ok {P : Program} {w : World} {C : Ctx} {t : TypeId} {ρ : Operand → AV} {ev : Operand → Value} (hρ : ∀ x, Rep w C (ρ x) (ev x)) {parts : Array (Nat × Operand)} {cs : List AV} (h : buildA P t (parts.toList.map fun p => (p.1, ρ p.2)) = some cs) :
    ∃ u, (Instr.build t (parts.map fun p => (p.1, ev p.2))).run P w = .ok u w ∧ Rep w C (.agg cs) u := by
  unfold buildA at h
  cases hz : okZ P t <;> rw [hz] at h <;> simp only [reduceCtorEq] at h
  obtain ⟨i, z, e1, e2, rz⟩ := zero_repL (w := w) (C := C) hz
  obtain ⟨p1, p2⟩ := parts_at hρ parts
  cases hd : und P t <;> rw [hd] at h <;> first | (simp at h; done) | skip
  · rename_i n e
    simp only at h
    cases he : okT P e <;> rw [he] at h <;> simp only [reduceCtorEq] at h
    obtain ⟨ie, d, f1, f2, _⟩ := okT_info he
    obtain ⟨vout, g1, g2⟩ := fill_ok _ _ _ _ _ _ h rz p1 p2
    refine ⟨_, run_build w t _ vout ?_, vout.toList, by simp, g2⟩
    unfold Program.built
    rw [e1, und_eq hd (by simp)]
    simp only [e2, f1, f2]
    exact g1
  · rename_i fs
    simp only at h
    cases hp : placesOf P fs.toList with
    | none => rw [hp] at h; simp at h
    | some pl =>
      rw [hp] at h
      simp only at h
      obtain ⟨vout, g1, g2⟩ := fill_ok _ _ _ _ _ _ h rz p1 p2
      refine ⟨_, run_build w t _ vout ?_, vout.toList, by simp, g2⟩
      unfold Program.built
      rw [e1, und_eq hd (by simp)]
      simp only [e2, placesOf_some hp]
      rw [← g1]
      congr 1
      funext j
      simp
theorem repL_replicate {w : World} {C : Ctx} {xs : List AV} {vs : List Value} (r : RepL w C xs vs) : ∀ n, RepL w C (List.replicate n xs).flatten (List.replicate n vs).flatten
  | 0 => rfl
  | n + 1 => by
    rw [List.replicate_succ, List.replicate_succ, List.flatten_cons, List.flatten_cons]
    exact repL_append r (repL_replicate r n)
theorem buildSlice_ok {P : Program} {w : World} {C : Ctx} {H : Nat → Option Blk} (hH : RelH P w C H) (base : Nat) (hb : C.φ base = none) {t e : TypeId} (ht : und P t = .slice e) {len : Nat} (hz : (okZ P e && Nat.ble 1 len && Nat.ble (len * szOf P e) 16777216) = true)
    {ρ : Operand → AV} {ev : Operand → Value} (hρ : ∀ x, Rep w C (ρ x) (ev x)) {parts : Array (Nat × Operand)} {cs ys : List AV} {fz : List Nat} (h : fillA (fun i => some (i * szOf P e, szOf P e)) (repC len (zeroOf P e)) (parts.toList.map fun p => (p.1, ρ p.2)) = some cs)
    (hc : closedAll P H cs = some (ys, fz)) (h1 : cs.all one = true) :
    Did P w C H base (do pure (.value (← Instr.buildSlice t len (parts.map fun p => (p.1, ev p.2))))) (.own base 0 len) (after H [(base, ⟨true, e, 0, ys⟩)] [] fz) := by
  rw [Bool.and_eq_true, Bool.and_eq_true] at hz
  obtain ⟨i, z, ei, hzz, hcs, hs, hs1, ok, hzo, hby, hb1, hone⟩ := okZ_info hz.1.1
  have hlen := Nat.le_of_ble_eq_true hz.1.2
  have hsm := Nat.le_of_ble_eq_true hz.2
  obtain ⟨p1, p2⟩ := parts_at hρ parts
  have hpos : 0 < len * i.size := Nat.mul_pos (by omega) (by omega)
  have r0 : RepL w C (repC len (zeroOf P e)) ((Array.range (len * i.size)).map (z.cells[· % z.cells.size]!)).toList := by
    refine repL_of (by unfold repC; rw [rep_flat_len, hzo]; simp [hcs]) fun j x v hx hv => ?_
    have hj : j < len * z.cells.size := by
      have := (List.getElem?_eq_some_iff.1 hv).1
      simp at this
      rw [hcs]; exact this
    rw [Array.getElem?_toList, ← hcs, zeros_get _ _ _ (by omega) hj] at hv
    unfold repC at hx
    rw [rep_flat_get _ _ _ (by rw [hzo]; simp; omega) (by rw [hzo]; simpa using hj), hzo, List.getElem?_map] at hx
    simp only [List.length_map, Array.length_toList, Array.getElem?_toList] at hx
    rw [hv] at hx
    cases hx
    exact scalar_rep _ _ _
  obtain ⟨vout, g1, g2⟩ := fill_ok _ _ _ _ _ _ h r0 p1 p2
  have hrun := run_buildSlice (P := P) w t e len (parts.map fun p => (p.1, ev p.2)) vout i z (elem_eq ht) ei hzz (by rw [hs]; omega) (by omega) (by rw [hs] at *; exact g1)
  have hl := closedAll_ids hc
  have i1 := rel_ice hH fz (fun id hid => by obtain ⟨k, q1, q2, _⟩ := hl id hid; exact ⟨k, q1, q2⟩)
  have i2 := kept_ice hH fz (fun id hid => by obtain ⟨k, q1, q2, q3, _⟩ := hl id hid; exact ⟨k, q1, q2, q3⟩)
  have ry := closedAll_rep hH fz hc g2 (fun _ q => q)
  have hly := repL_length ry
  have hcl : vout.size = len * i.size := by
    have := repL_length g2
    have hfl : cs.length = (repC len (zeroOf P e)).length := by
      clear this g1 g2 hc hl ry hly p1 p2 r0
      revert h
      generalize (parts.toList.map fun p => (p.1, ρ p.2)) = pl
      generalize repC len (zeroOf P e) = c0
      intro h
      induction pl generalizing c0 with
      | nil => simp only [fillA, Option.some.injEq] at h; rw [h]
      | cons p r ih =>
        obtain ⟨a, b⟩ := p
        simp only [fillA] at h
        split at h
        · rw [ih _ h, setMany_length]
        · simp at h
    have h2 : (repC len (zeroOf P e)).length = len * i.size := by unfold repC; rw [rep_flat_len, hzo]; simp [hcs]
    have h3 : vout.toList.length = vout.size := by simp
    omega
  have hr := rel_new (P := P) i1 base hb ⟨true, e, 0, ys⟩ rfl vout e (szOf P e) (0, 0) (fun _ => ⟨rfl, okT_ne ok⟩) rfl (fun q => by cases q) (repL_one g2 h1) (by show ys.length ≤ _; rw [hly]; simp)
    (fun j x v hx hv => by
      obtain ⟨u, q1, q2⟩ := repL_get ry hx
      rw [Array.getElem?_toList, hv] at q1
      cases q1
      exact ⟨rep_step (Step.of_bare _ _) _ _ q2, fun _ => q2⟩)
    (fun i _ q => by omega) (w.alloc (.cells vout e)) rfl rfl rfl rfl
  refine ⟨.value _, _, _, _, by rw [Sem.run_bind, hrun]; rfl, .inl rfl, ⟨_, len, rfl, Nat.le_refl _, .inr ⟨_, upd_same _ _ _, rfl, ?_, ?_⟩⟩, hr.1, i2.trans hr.2, fun id q1 q2 => ?_⟩
  · show 0 + 0 + len * szOf P e ≤ vout.size
    rw [hcl, hs]; omega
  · show 0 + len * szOf P e ≤ ys.length
    have h3 : vout.toList.length = vout.size := by simp
    rw [hly, h3, hcl, hs]; omega
  · show upd C.φ base _ id = none
    rw [upd_other _ _ (by omega)]; exact q2

theorem buildSlice0_ok {P : Program} {w : World} {C : Ctx} {H : Nat → Option Blk} (hH : RelH P w C H) (base : Nat) (hb : C.φ base = none) {t e : TypeId} (ht : und P t = .slice e) (hz : okZ P e = true) :
    Did P w C H base (do pure (.value (← Instr.buildSlice t 0 #[]))) (.own base 0 0) (after H [(base, ⟨true, e, 0, []⟩)] [] []) := by
  obtain ⟨i, z, ei, hzz, hcs, hs, hs1, ok, hzo, hby, hb1, hone⟩ := okZ_info hz
  have hrun : (Instr.buildSlice t 0 #[]).run P w = .ok (.slice (some ⟨w.heap.size, 0, none⟩) 0 0) (w.alloc (.cells #[] e)) := by
    unfold Instr.buildSlice
    rw [Sem.run_bind, run_und ht (by simp), Result.andThen_ok]
    simp only [Sem.run_bind, run_sizeOf ok, Result.andThen_ok, Nat.zero_mul]
    rw [if_neg (by omega), if_pos trivial]
    have h0 : (Array.map (fun x => (#[] : Array Value)[x % (#[] : Array Value).size]!) (Array.range 0)) = #[] := by simp
    simp only [pure_bind, h0, Instr.fill]
    rfl
  have hr := rel_new (P := P) hH base hb ⟨true, e, 0, []⟩ rfl #[] e (szOf P e) (0, 0) (fun _ => ⟨rfl, okT_ne ok⟩) rfl (fun q => by cases q) (by simp) (by simp) (by simp) (by simp) (w.alloc (.cells #[] e)) rfl rfl rfl rfl
  refine ⟨.value _, _, _, _, by rw [Sem.run_bind, hrun]; rfl, .inl rfl, ⟨_, 0, rfl, Nat.le_refl _, .inl ⟨rfl, rfl⟩⟩, hr.1, hr.2, fun id q1 q2 => ?_⟩
  show upd C.φ base _ id = none
  rw [upd_other _ _ q1]; exact q2
theorem run_equal_bool {P : Program} {w : World} {t : TypeId} (ht : und P t = .bool) (a b : Bool) : (Op.equal t (.bool a) (.bool b)).run P w = .ok (a == b) w := by
  unfold Op.equal
  rw [show Op.maxDepth = 9999 + 1 from rfl, Op.equalIn]
  rw [Sem.run_bind, run_und ht (by simp), Result.andThen_ok]
  rfl
theorem eqFs_ok {P : Program} {w : World} {C : Ctx} {r : TypeId → AV → AV → Option Bool} {d : Nat} (hr : ∀ t x y b vx vy, r t x y = some b → Rep w C x vx → Rep w C y vy → (Op.equalIn d t vx vy).run P w = .ok b w) {xs ys : List AV} {vs us : List Value} (rx : RepL w C xs vs) (ry : RepL w C ys us) :
    ∀ (fs : List Field) (b : Bool), eqFs r P xs ys fs = some b → (Op.eqFields d vs.toArray us.toArray fs).run P w = .ok b w
  | [], b, h => by
    simp only [eqFs, Option.some.injEq] at h
    subst h; rfl
  | f :: fs, b, h => by
    unfold eqFs at h
    unfold Op.eqFields
    cases hn : (f.name == "_") with
    | true =>
      rw [hn] at h
      rw [if_neg (by simpa using hn)]
      exact eqFs_ok hr rx ry fs b h
    | false =>
      rw [hn] at h
      simp only at h
      rw [if_pos (by simpa using hn)]
      cases h1 : (okT P f.type && Nat.ble (f.offset + szOf P f.type) xs.length && Nat.ble (f.offset + szOf P f.type) ys.length) with
      | false => rw [h1] at h; simp at h
      | true =>
        cases h2 : r f.type (plainAs P f.type (window xs f.offset (szOf P f.type))) (plainAs P f.type (window ys f.offset (szOf P f.type))) with
        | none => rw [h1, h2] at h; simp at h
        | some a =>
          cases h3 : eqFs r P xs ys fs with
          | none => rw [h1, h2, h3] at h; simp at h
          | some c =>
            rw [h1, h2, h3] at h
            simp only [Option.some.injEq] at h
            subst h
            rw [Bool.and_eq_true, Bool.and_eq_true] at h1
            obtain ⟨u1, e1, r1⟩ := run_part h1.1.1 rx (Nat.le_of_ble_eq_true h1.1.2)
            obtain ⟨u2, e2, r2⟩ := run_part h1.1.1 ry (Nat.le_of_ble_eq_true h1.2)
            simp only [Sem.run_bind, e1, e2, Result.andThen_ok, hr _ _ _ _ _ _ h2 r1 r2]
            cases a with
            | false => simp [andB]
            | true =>
              simp only [Bool.not_true, Bool.false_eq_true, if_false]
              rw [eqFs_ok hr rx ry fs c h3]
              simp [andB]
theorem eqV_0 {P : Program} {t : TypeId} {x y : AV} : eqV P 0 t x y = none := by unfold eqV; rfl
theorem eqV_ok {P : Program} {w : World} {C : Ctx} : ∀ (d : Nat) (e : Nat) (t : TypeId) (x y : AV) (b : Bool) (vx vy : Value), eqV P d t x y = some b → Rep w C x vx → Rep w C y vy → (Op.equalIn (e + d) t vx vy).run P w = .ok b w
  | 0, _, _, _, _, _, _, _, h, _, _ => by simp [eqV] at h
  | d + 1, e, t, x, y, b, vx, vy, h, rx, ry => by
    rw [show e + (d + 1) = e + d + 1 by omega]
    unfold eqV at h
    cases ht : und P t <;> rw [ht] at h <;> first | (simp at h; done) | skip
    case int kk =>
      cases x <;> first | (simp at h; done) | skip
      cases y <;> first | (simp at h; done) | skip
      rename_i k a k' c
      by_cases hk : k = k'
      · subst hk
        simp only [decide_true, Option.some.injEq] at h
        simp only [Rep] at rx ry
        subst rx; subst ry; subst h
        exact run_equalIn_int w (e + d) t k kk a c (und_eq ht (by simp))
      · simp [hk] at h
    case bool =>
      cases x <;> first | (simp at h; done) | skip
      cases y <;> first | (simp at h; done) | skip
      simp only [Option.some.injEq] at h
      simp only [Rep] at rx ry
      subst rx; subst ry; subst h
      exact run_equalIn_bool' w (e + d) t _ _ (und_eq ht (by simp))
    case string =>
      cases x <;> first | (simp at h; done) | skip
      cases y <;> first | (simp at h; done) | skip
      simp only [Option.some.injEq] at h
      simp only [Rep] at rx ry
      subst rx; subst ry; subst h
      exact run_equalIn_string w (e + d) t _ _ (und_eq ht (by simp))
    case struct fs =>
      cases x <;> first | (simp at h; done) | skip
      cases y <;> first | (simp at h; done) | skip
      rename_i xs ys
      cases hs : P.stoodInHeld t with
      | true => rw [hs] at h; simp at h
      | false =>
        rw [hs] at h
        simp only at h
        obtain ⟨vs, rfl, rl⟩ := rx
        obtain ⟨us, rfl, rm⟩ := ry
        have hu := und_eq ht (by simp)
        have hf : P.fieldsOf t = fs := by unfold Program.fieldsOf; rw [hu]
        rw [run_equalIn_struct w (e + d) t _ _ (by rw [hf]; exact hu) hs, hf]
        exact eqFs_ok (fun t x y b vx vy => eqV_ok d e t x y b vx vy) rl rm _ _ h
theorem sc_bin {P : Program} {w : World} {C : Ctx} (op : BinOp) (t : TypeId) (xo yo : Operand) {x y : AV} {vx vy : Value} (rx : Rep w C x vx) (ry : Rep w C y vy) {g : Bool} {v : AV} {nw : List (Nat × Blk)} {dd fz : List Nat}
    (h : binA P op t x y = .val g v nw dd fz) (hg : g = true) : nw = [] ∧ dd = [] ∧ fz = [] ∧ ∃ u, (do eqGuard op t xo yo vx vy; binOp op t vx vy : Sem Value).run P w = .ok u w ∧ Rep w C v u := by
  have fin : ∀ s : Sem Value, (eqGuard op t xo yo vx vy).run P w = .ok () w → ScalarOk P (binA P op t x y) s → s = binOp op t vx vy → nw = [] ∧ dd = [] ∧ fz = [] ∧ ∃ u, (do eqGuard op t xo yo vx vy; binOp op t vx vy : Sem Value).run P w = .ok u w ∧ Rep w C v u := by
    intro s e1 sc e2
    obtain ⟨q1, q2, q3, u, q4, q5⟩ := sc g v nw dd fz h hg
    refine ⟨q1, q2, q3, u, ?_, q5 w C⟩
    rw [Sem.run_bind, e1, Result.andThen_ok, ← e2]
    exact q4 w
  cases x <;> cases y <;> simp only [binA, reduceCtorEq] at h
  case int.int k a k' b =>
    simp only [Rep] at rx ry
    subst rx; subst ry
    by_cases hs : op = .shl ∨ op = .shr
    · refine fin _ run_eqGuard_int ?_ rfl
      have : binA P op t (.int k a) (.int k' b) = intOp op k a b := by rcases hs with rfl | rfl <;> rfl
      rw [this]
      exact sc_shift op k k' a b hs t
    · have hk : k = k' := by
        by_cases hk : k = k'
        · exact hk
        · exfalso
          revert h
          cases op <;> first | (exact absurd (.inl rfl) hs) | (exact absurd (.inr rfl) hs) | (simp [hk])
      subst hk
      refine fin _ run_eqGuard_int ?_ rfl
      have : binA P op t (.int k a) (.int k b) = intOp op k a b := by
        cases op <;> first | (exact absurd (.inl rfl) hs) | (exact absurd (.inr rfl) hs) | simp [binA]
      rw [this]
      exact sc_int op k a b (fun q => hs (.inl q)) (fun q => hs (.inr q)) t
  case str.str a b =>
    simp only [Rep] at rx ry
    subst rx; subst ry
    exact fin _ run_eqGuard_str (sc_str op a b t) rfl
  case bool.bool a b =>
    simp only [Rep] at rx ry
    subst rx; subst ry
    cases ht : und P t <;> rw [ht] at h <;> first | (simp at h; done) | skip
    cases op <;> simp only [Res.pure, reduceCtorEq, Res.val.injEq] at h
    · obtain ⟨rfl, rfl, rfl, rfl, rfl⟩ := h
      refine ⟨rfl, rfl, rfl, .bool (a == b), ?_, rfl⟩
      rw [Sem.run_bind, run_eqGuard_bool, Result.andThen_ok]
      simp only [binOp, Sem.run_bind, run_equal_bool ht, Result.andThen_ok, Sem.run_pure]
    · obtain ⟨rfl, rfl, rfl, rfl, rfl⟩ := h
      refine ⟨rfl, rfl, rfl, .bool (!(a == b)), ?_, rfl⟩
      rw [Sem.run_bind, run_eqGuard_bool, Result.andThen_ok]
      simp only [binOp, Sem.run_bind, run_equal_bool ht, Result.andThen_ok, Sem.run_pure]
  case agg.agg xs ys =>
    cases op <;> first | (simp at h; done) | skip
    all_goals
      cases he : P.eqGuardType P.depth t <;> rw [he] at h <;> first | (simp at h; done) | skip
      cases hv : eqV P 8 t (.agg xs) (.agg ys) <;> rw [hv] at h <;> first | (simp at h; done) | skip
      rename_i b
      simp only [Res.pure, Res.val.injEq] at h
      obtain ⟨rfl, rfl, rfl, rfl, rfl⟩ := h
      have hq := eqV_ok 8 9992 t _ _ b vx vy hv rx ry
      obtain ⟨vs, rfl, rl⟩ := rx
      obtain ⟨us, rfl, rm⟩ := ry
    · refine ⟨rfl, rfl, rfl, .bool b, ?_, rfl⟩
      rw [Sem.run_bind, run_eqGuard_agg w .eql t xo yo _ _ he, Result.andThen_ok, run_eql_struct]
      rw [show (10000 : Nat) = 9992 + 8 from rfl, hq]; rfl
    · refine ⟨rfl, rfl, rfl, .bool (!b), ?_, rfl⟩
      rw [Sem.run_bind, run_eqGuard_agg w .neq t xo yo _ _ he, Result.andThen_ok, run_neq_struct]
      rw [show (10000 : Nat) = 9992 + 8 from rfl, hq]; rfl
/-! a slice compared with nil -/
theorem nilC_eq {y : Operand} (h : nilC y = true) : y = .const (.slice none 0 0) := by
  unfold nilC at h
  split at h
  · rfl
  · cases h
theorem binN_cases {P : Program} {op : BinOp} {t : TypeId} {y : Operand} {vx vy : AV} {g : Bool} {v : AV} {nw : List (Nat × Blk)} {dd fz : List Nat} (h : binN P op t y vx vy = .val g v nw dd fz) :
    binA P op t vx vy = .val g v nw dd fz ∨ ∃ e, (op = .eql ∨ op = .neq) ∧ und P t = .slice e ∧ y = .const (.slice none 0 0) ∧ nilCmp (nilD op) vx = .val g v nw dd fz := by
  unfold binN at h
  cases hn : nilC y with
  | false => rw [hn] at h; exact .inl h
  | true =>
    rw [hn] at h
    cases op <;> first | exact .inl h | skip
    all_goals
      cases ht : und P t <;> rw [ht] at h <;> first | exact .inl h | skip
    · exact .inr ⟨_, .inl rfl, rfl, nilC_eq hn, h⟩
    · exact .inr ⟨_, .inr rfl, rfl, nilC_eq hn, h⟩
theorem run_equal_nil {P : Program} {w : World} {t e : TypeId} (ht : und P t = .slice e) (a : Option Addr) (n c : Nat) : (Op.equal t (.slice a n c) (.slice none 0 0)).run P w = .ok a.isNone w := by
  unfold Op.equal
  rw [show Op.maxDepth = 9999 + 1 from rfl, Op.equalIn]
  rw [Sem.run_bind, run_und ht (by simp), Result.andThen_ok]
  cases a <;> rfl
theorem sc_nil {P : Program} {w : World} {C : Ctx} (op : BinOp) (t : TypeId) (xo yo : Operand) {e : TypeId} {x : AV} {vx vy : Value} (ho : op = .eql ∨ op = .neq) (ht : und P t = .slice e) (hy : vy = .slice none 0 0) (rx : Rep w C x vx) {g : Bool} {v : AV} {nw : List (Nat × Blk)} {dd fz : List Nat}
    (h : nilCmp (nilD op) x = .val g v nw dd fz) : nw = [] ∧ dd = [] ∧ fz = [] ∧ ∃ u, (do eqGuard op t xo yo vx vy; binOp op t vx vy : Sem Value).run P w = .ok u w ∧ Rep w C v u := by
  generalize hdd : nilD op = d at h
  have hv : ∃ a n c l, vx = .slice a n c ∧ (l ≠ 0 → a.isNone = false) ∧ g = true ∧ v = .unk d l ∧ nw = [] ∧ dd = [] ∧ fz = [] := by
    cases x <;> simp only [nilCmp, Res.pure, reduceCtorEq, Res.val.injEq] at h
    · obtain ⟨_, e⟩ := rx
      obtain ⟨rfl, rfl, rfl, rfl, rfl⟩ := h
      exact ⟨none, 0, 0, 0, e, (fun q => absurd rfl q), rfl, rfl, rfl, rfl, rfl⟩
    · obtain ⟨a, c, e, _, e2⟩ := rx
      obtain ⟨rfl, rfl, rfl, rfl, rfl⟩ := h
      refine ⟨a, _, c, _, e, fun q => ?_, rfl, rfl, rfl, rfl, rfl⟩
      rcases e2 with ⟨e2, _⟩ | ⟨b, o, e2, _⟩
      · exact absurd e2 q
      · rw [e2]; rfl
    · obtain ⟨a, c, e, _, e2⟩ := rx
      obtain ⟨rfl, rfl, rfl, rfl, rfl⟩ := h
      refine ⟨a, _, c, _, e, fun q => ?_, rfl, rfl, rfl, rfl, rfl⟩
      rcases e2 with ⟨e2, _⟩ | ⟨L, _, e2, _⟩
      · exact absurd e2 q
      · rw [e2]; rfl
  obtain ⟨a, n, c, l, rfl, hl, rfl, rfl, rfl, rfl, rfl⟩ := hv
  subst hy
  rcases ho with rfl | rfl
  · subst hdd
    refine ⟨rfl, rfl, rfl, .bool a.isNone, ?_, ⟨_, rfl, hl⟩⟩
    rw [Sem.run_bind, show (eqGuard .eql t xo yo (.slice a n c) (.slice none 0 0)).run P w = .ok () w from rfl, Result.andThen_ok]
    simp only [binOp, Sem.run_bind, run_equal_nil ht, Result.andThen_ok, Sem.run_pure]
  · subst hdd
    refine ⟨rfl, rfl, rfl, .bool (!a.isNone), ?_, ⟨_, rfl, fun q => by rw [hl q]; rfl⟩⟩
    rw [Sem.run_bind, show (eqGuard .neq t xo yo (.slice a n c) (.slice none 0 0)).run P w = .ok () w from rfl, Result.andThen_ok]
    simp only [binOp, Sem.run_bind, run_equal_nil ht, Result.andThen_ok, Sem.run_pure]
end Go.Proofs.YtlcnpecejhcnfaaDoor.EV
