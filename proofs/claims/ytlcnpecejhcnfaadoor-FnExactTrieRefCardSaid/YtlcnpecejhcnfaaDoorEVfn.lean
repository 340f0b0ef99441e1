/- Functions. No conditions. -/
import Derived.Test.YtlcnpecejhcnfaaDoorEVcallok3
namespace Go.Proofs.YtlcnpecejhcnfaaDoor.EV
set_option linter.unusedVariables false
set_option linter.unusedSimpArgs false
open Go Go.RowKit

/-- One result of a frame. -/
def oneRes (a : Act) : ResultVar → Sem Value
  | .tmp t => pure (a.tmps.getD t undef)
  | .cell b t => do loadVar t (← asAddr (a.tmps.getD b undef))
theorem results_ok {P : Program} {w : World} {C : Ctx} {a : Act} {σ : St} (hm : RelH P w C σ.heap) (he : ∀ t, Rep w C (σ.env t) (a.tmps.getD t undef)) : ∀ (rv : List ResultVar) (g : Bool) (vs : List AV), resultsOf P σ rv = some (g, vs) → g = true →
    ∃ us : List Value, Sem.run P (rv.mapM (oneRes a)) w = Result.ok us w ∧ RepL w C vs us
  | [], g, vs, h, hg => by
    simp only [resultsOf, Option.some.injEq, Prod.mk.injEq] at h
    obtain ⟨_, rfl⟩ := h
    exact ⟨[], rfl, rfl⟩
  | .tmp t :: r, g, vs, h, hg => by
    simp only [resultsOf] at h
    cases h1 : resultsOf P σ r with
    | none => rw [h1] at h; simp at h
    | some p =>
      obtain ⟨g', vr⟩ := p
      rw [h1] at h
      simp only [Option.some.injEq, Prod.mk.injEq] at h
      obtain ⟨rfl, rfl⟩ := h
      obtain ⟨us, e1, e2⟩ := results_ok hm he r g' vr h1 hg
      refine ⟨a.tmps.getD t undef :: us, ?_, _, us, rfl, he t, e2⟩
      rw [List.mapM_cons, Sem.run_bind]
      show ((Sem.run P (pure (a.tmps.getD t undef)) w).andThen _) = _
      rw [Sem.run_pure, Result.andThen_ok, Sem.run_bind, e1]
      rfl
  | .cell b t :: r, g, vs, h, hg => by
    simp only [resultsOf] at h
    split at h
    · rename_i g1 v nw dd fz g2 vr h1 h2
      simp only [Option.some.injEq, Prod.mk.injEq] at h
      obtain ⟨rfl, rfl⟩ := h
      rw [Bool.and_eq_true] at hg
      obtain ⟨us, e1, e2⟩ := results_ok hm he r g2 vr h2 hg.2
      obtain ⟨_, _, _, u, q1, q2⟩ := loadR_ok hm (he b) h1 hg.1
      have q3 : (oneRes a (.cell b t)).run P w = .ok u w := by
        unfold oneRes
        rw [Sem.run_bind]
        unfold Instr.loadAt at q1
        rw [Sem.run_bind] at q1
        cases hv : a.tmps.getD b undef <;> rw [hv] at q1 <;> first | (simp [Instr.sureAddr, stuck] at q1; done) | skip
        rename_i p
        cases p with
        | none => simp [Instr.sureAddr, stuck] at q1
        | some p => exact q1
      refine ⟨u :: us, ?_, _, us, rfl, q2, e2⟩
      rw [List.mapM_cons, Sem.run_bind, q3, Result.andThen_ok, Sem.run_bind, e1]
      rfl
    · simp at h
theorem run_results {P : Program} {w : World} {C : Ctx} {a : Act} {σ : St} {fn : Func} (hm : RelH P w C σ.heap) (he : ∀ t, Rep w C (σ.env t) (a.tmps.getD t undef)) {vs : List AV} (h : resultsOf P σ fn.results.toList = some (true, vs)) :
    ∃ us : List Value, (results fn a.tmps).run P w = .ok (oneOr us) w ∧ RepL w C vs us := by
  obtain ⟨us, e1, e2⟩ := results_ok hm he _ _ _ h rfl
  refine ⟨us, ?_, e2⟩
  have e3 : (fn.results.mapM (oneRes a)).run P w = .ok us.toArray w := by
    have : fn.results.mapM (oneRes a) = List.toArray <$> fn.results.toList.mapM (oneRes a) := by
      rw [← List.mapM_toArray]
    rw [this, Sem.run_map, e1]
    rfl
  show (Sem.run P (fn.results.mapM (oneRes a) >>= _) w) = _
  rw [Sem.run_bind, e3, Result.andThen_ok]
  match us with
  | [] => rfl
  | [u] => rfl
  | u :: v :: r => rfl

theorem look_numbered : ∀ (l : List AV) (j t : Nat), look (numbered j l) t = if j ≤ t then l[t - j]? else none
  | [], j, t => by simp [numbered, look]
  | x :: r, j, t => by
    unfold numbered look
    cases h : Nat.beq t j with
    | true =>
      have := nbeq_eq h
      subst this
      simp
    | false =>
      have hne : t ≠ j := fun q => by subst q; simp at h
      simp only
      rw [look_numbered r (j + 1) t]
      by_cases h1 : j + 1 ≤ t
      · rw [if_pos h1, if_pos (by omega), show t - j = (t - (j + 1)) + 1 by omega]; rfl
      · rw [if_neg h1, if_neg (by omega)]
theorem takeArgs_len : ∀ (as : List AV) (b : Nat), (takeArgs b as).1.length ≤ as.length
  | [], _ => Nat.le_refl _
  | v :: r, b => by
    cases v
    case ref e cs => exact Nat.succ_le_succ (takeArgs_len r (b + 1))
    case tup bs => exact Nat.le_succ_of_le (takeArgs_len r (b + bs.length))
    all_goals exact Nat.succ_le_succ (takeArgs_len r b)

/-- A function whose contract is proved elsewhere. -/
def ExtOk (cp : CP) : Prop := ∀ f g, look cp.ext f = some g → ∀ (fn : Func) (as r : List AV), look cp.fns f = some fn → g as = some r → ∀ (w : World) (C0 : Ctx) (cargs : List Value),
  RelT cp.P w C0 (look (takeArgs 0 as).2) → RepL w C0 (takeArgs 0 as).1 cargs → (∀ id, (takeArgs 0 as).2.length ≤ id → C0.φ id = none) →
  Calls cp.P f cargs.toArray w (Ran cp w C0 (look (takeArgs 0 as).2) fn f (refTys as) r)
theorem ext_none {cp : CP} (h : cp.ext = []) : ExtOk cp := by
  intro f g hf
  rw [h] at hf
  cases hf
theorem kept_below {w w' : World} {C : Ctx} {H : Nat → Option Blk} {P : Program} (hH : RelH P w C H) (h : Below w.heap.size w w') : Kept w C H w' C H ∧ RelH P w' C H := by
  have old : ∀ id L k, C.φ id = some L → H id = some k → k.st ≤ 1 → L.b < w.heap.size := fun id L k e hk hs => live_old hH e hk hs
  refine ⟨⟨⟨fun _ _ q => q, fun _ q => q, fun b hb => h.block b (hH.old b hb)⟩, h.os, h.tape, h.output, h.size, fun b hb _ => h.block b hb, fun _ q => .inl q, fun _ q => .inl q, fun _ q => .inl q⟩,
    rel_world hH h.size (fun b hb => h.block b (hH.old b hb)) (fun id L k e hk hs => h.block _ (old id L k e hk hs))⟩
theorem kept_belowT {w w' : World} {C : Ctx} {H : Nat → Option Blk} {P : Program} (hH : RelT P w C H) (h : Below w.heap.size w w') : KeptT P w C H w' C H ∧ RelT P w' C H := by
  obtain ⟨k, r⟩ := kept_below hH.h h
  obtain ⟨a, b⟩ := lift hH r k (fun _ _ q _ => q) (fun _ _ _ _ q => q)
  exact ⟨b, a⟩
/-- A function of a text and a number that gives back a text. -/
def extSI (k : IntKind) (ok : ByteArray → Int → Bool) (F : ByteArray → Int → ByteArray) : List AV → Option (List AV)
  | [.str s, .int k' n] => (match decide (k' = k) with | true => gd (ok s n) (some [.str (F s n)]) | false => none)
  | _ => none
theorem ext_one {cp : CP} {f : FuncId} {k : IntKind} {ok : ByteArray → Int → Bool} {F : ByteArray → Int → ByteArray} {fn : Func} {t : TypeId} (he : cp.ext = [(f, extSI k ok F)]) (hd : isDeep cp f = false) (hnt : treeF cp f = false) (hfn : look cp.fns f = some fn) (ht : fn.resultTypes.toList = [t]) (hfr : cp.fresh.contains f = false) (hb : bigA cp.P t = none) (ha : isAggT cp.P t = false) (hfl : (flat cp.P 8 t).headD .bad = .str)
    (h : ∀ s n w, ok s n = true → Calls cp.P f #[.string s, .int k n] w fun e w' => e = .returned (.string (F s n)) ∧ Below w.heap.size w w') : ExtOk cp := by
  intro f' g hg fn' as r hf' hr w C0 cargs hH hL _
  rw [he] at hg
  unfold look at hg
  cases hq : Nat.beq f' f with
  | false => rw [hq] at hg; cases hg
  | true =>
  rw [hq] at hg
  have := nbeq_eq hq
  subst this
  simp only [Option.some.injEq] at hg
  subst hg
  rw [hfn] at hf'
  cases hf'
  unfold extSI at hr
  split at hr
  · rename_i s k' n _
    cases hk : decide (k' = k) with
    | false => rw [hk] at hr; simp at hr
    | true =>
    rw [hk] at hr
    have := of_decide_eq_true hk
    subst this
    simp only at hr
    unfold gd at hr
    cases hok : ok s n with
    | false => rw [hok] at hr; simp at hr
    | true =>
    rw [hok] at hr
    simp only [Option.some.injEq] at hr
    subst hr
    obtain ⟨v1, r1, rfl, e1, v2, r2, rfl, e2, e3⟩ := hL
    cases e3
    have e1' : v1 = .string s := e1
    have e2' : v2 = .int k' n := e2
    subst e1'; subst e2'
    refine (h s n w hok).mono fun e w' hw => ?_
    obtain ⟨rfl, hw⟩ := hw
    obtain ⟨kk, rr⟩ := kept_belowT hH hw
    refine ⟨C0, _, [.str (F s n)], [.string (F s n)], rfl, kk, rr, ⟨_, _, rfl, rfl, rfl⟩, ?_, fun _ _ _ q => q⟩
    unfold finishV
    rw [hd, hnt, ht]
    have hok : okRes cp.P [t] [.str (F s n)] = true := by simp only [okRes, okRes1, hb, ha, hfl]; rfl
    have hrs : refTys [AV.str s, AV.int k' n] = [] := rfl
    have ho : handOut cp.P (look (takeArgs 0 [AV.str s, AV.int k' n]).2) (cp.fresh.contains f') [t] [.str (F s n)] = some ([.str (F s n)], []) := by
      simp only [handOut, resultVal, hb, ha, hfr]
      rfl
    rw [hrs]
    simp only [ho, refsOut, List.append_nil, List.all_nil, hok]
    rw [hfr]
    rfl
  · cases hr
/-- Every function of the table does what the evaluator says. -/
theorem nilVs_next (P : Program) : ∀ (b : Nat) (ts : List TypeId) (l : List AV), b ≤ (nilVs P b ts l).2.2 ∧ ∀ p ∈ (nilVs P b ts l).2.1, b ≤ p.1
  | b, _, [] => ⟨Nat.le_refl b, by simp [nilVs]⟩
  | b, ts, v :: r => by
    have h1 := nilV_next (fun _ => 0) P b (ts.headD 0) v
    have h2 := nilVs_next P (nilV (fun _ => 0) P b (ts.headD 0) v).2.2 ts.tail r
    refine ⟨Nat.le_trans h1.1 h2.1, fun p hp => ?_⟩
    simp only [nilVs, List.mem_append] at hp
    rcases hp with hp | hp
    · exact h1.2 p hp
    · exact Nat.le_trans h1.1 (h2.2 p hp)
theorem nilVs_rep {P : Program} {w : World} {C : Ctx} : ∀ (b : Nat) (ts : List TypeId) (l : List AV) (us : List Value), RepL w C l us → RepL w C (nilVs P b ts l).1 us
  | _, _, [], _, r => r
  | b, ts, x :: xs, us, r => by
    obtain ⟨v, us, rfl, r1, r2⟩ := r
    exact ⟨v, us, rfl, nilV_rep r1, nilVs_rep _ ts.tail xs us r2⟩
theorem upds_keep {α : Type} {l : List (Nat × α)} {f : Nat → Option α} {id : Nat} (h : ∀ p ∈ l, p.1 ≠ id) : upds f l id = f id := by
  rcases upds_some (l := l) (f := f) (id := id) with q | ⟨p, h1, h2, _⟩
  · exact q
  · exact absurd h2 (h p h1)
theorem rel_ext {P : Program} {w : World} {C : Ctx} {H H' : Nat → Option Blk} (h : RelH P w C H) (e : ∀ id L, C.φ id = some L → H' id = H id) : RelH P w C H' ∧ Kept w C H w C H' :=
  ⟨⟨fun id L q => by
      obtain ⟨k, hk, ok⟩ := h.blk id L q
      exact ⟨k, (e id L q).trans hk, ok⟩, fun id id' L L' k k' q q' hk hk' => h.apart id id' L L' k k' q q' ((e id L q).symm.trans hk) ((e id' L' q').symm.trans hk'), h.old⟩,
    ⟨Step.refl _ _, rfl, rfl, rfl, Nat.le_refl _, fun _ _ _ => rfl, fun b hb => .inl (by
      obtain ⟨id, L, k, q, hk, hs, hb⟩ := hb
      exact ⟨id, L, k, q, (e id L q).symm.trans hk, hs, hb⟩), fun b hb => .inl (by
      obtain ⟨id, L, k, q, hk, hs, ha, hb⟩ := hb
      exact ⟨id, L, k, q, (e id L q).symm.trans hk, hs, ha, hb⟩), fun _ q => .inl q⟩⟩
theorem relT_ext {P : Program} {w : World} {C : Ctx} {H H' : Nat → Option Blk} (r : RelT P w C H) (e : ∀ id L, C.φ id = some L → H' id = H id) : RelT P w C H' ∧ KeptT P w C H w C H' := by
  obtain ⟨a, k⟩ := rel_ext r.h e
  have tw : ∀ b, TW P w C H' b → TW P w C H b := fun b hb => by
    obtain ⟨id, L, q, T, h1, h2, h3, h4⟩ := hb
    exact ⟨id, L, q, T, h1, (e id L h1) ▸ h2, h3, h4⟩
  refine ⟨⟨a, ⟨fun id L q h1 h2 h3 => r.t.ok id L q h1 ((e id L h1) ▸ h2) h3, fun id L q T h1 h2 h3 b hb id' L' k' hne h1' h2' => r.t.off id L q T h1 ((e id L h1) ▸ h2) h3 b hb id' L' k' hne h1' ((e id' L' h1') ▸ h2')⟩⟩,
    ⟨k.step, rfl, rfl, rfl, Nat.le_refl _, fun _ _ _ _ => rfl, fun b hb => ?_, fun b hb => ?_, fun _ q => .inl q⟩⟩
  · rcases hb with hb | hb
    · rcases k.rw b hb with q | q
      · exact .inl q
      · exact .inr (.inr q)
    · exact .inr (.inl (tw b hb))
  · rcases hb with hb | hb
    · rcases k.rwa b hb with q | q
      · exact .inl q
      · exact .inr (.inr q)
    · exact .inr (.inl (tw b hb))
theorem movT_ok {P : Program} {w : World} {C : Ctx} {H : Nat → Option Blk} (h : RelT P w C H) {n nx : Nat} (hn : n ≤ nx) (hnx : ∀ id, nx ≤ id → C.φ id = none) (hno : noTB H n = true) :
    ∃ C2, RelT P w C2 (movH H n nx) ∧ KeptT P w C H w C2 (movH H n nx) ∧ (∀ {xs : List AV} {vs : List Value}, RepL w C xs vs → RepL w C2 (xs.map (mov n nx)) vs) ∧ (∀ id, id < nx → C2.φ id = C.φ id) ∧ ∀ id L, C2.φ id = some L → id < nx + n := by
  obtain ⟨C2, a1, a2, a3, a4, a5⟩ := mov_ok h.h hn hnx
  have low : ∀ id b, id < n → H id = some b → b.st < 3 := fun id b hid hb => by
    have := List.all_eq_true.1 hno id (List.mem_range.2 hid)
    rw [hb] at this
    exact Nat.le_of_ble_eq_true this
  have mid : ∀ id b, movH H n nx id = some b → 3 ≤ b.st → n ≤ id ∧ ¬ (nx ≤ id ∧ id < nx + n) ∧ H id = some b := by
    intro id b hb hs
    unfold movH at hb
    cases q : Nat.blt id n with
    | true =>
      rw [q] at hb
      simp only at hb
      cases hk : H id with
      | none => rw [hk] at hb; cases hb
      | some k => rw [hk] at hb; cases hb; simp at hs
    | false =>
      rw [q] at hb
      simp only at hb
      have hge : n ≤ id := by
        rcases Nat.lt_or_ge id n with z | z
        · rw [show Nat.blt id n = true from Nat.ble_eq_true_of_le z] at q; cases q
        · exact z
      cases q2 : (Nat.ble nx id && Nat.blt id (nx + n)) with
      | true =>
        rw [q2] at hb
        rw [Bool.and_eq_true] at q2
        have z1 := Nat.le_of_ble_eq_true q2.1
        have z2 := blt_lt q2.2
        have := low (id - nx) b (by omega) hb
        omega
      | false =>
        rw [q2] at hb
        refine ⟨hge, fun z => ?_, hb⟩
        rw [show Nat.ble nx id = true from Nat.ble_eq_true_of_le z.1, show Nat.blt id (nx + n) = true from Nat.ble_eq_true_of_le z.2] at q2
        cases q2
  obtain ⟨b1, b2⟩ := lift h a1 a2 (fun id b hb hs => (mid id b hb hs).2.2) (fun id b hb hs hq => by
    obtain ⟨m1, m2, m3⟩ := mid id b hb hs
    rcases Nat.lt_or_ge id nx with z | z
    · rw [a4 id z]; exact hq
    · cases hc : C2.φ id with
      | none => rfl
      | some L => have := a5 id L hc; omega)
  exact ⟨C2, b1, b2, a3, a4, a5⟩
theorem evF_ok {cp : CP} (hcp : CpOk cp) (hext : ExtOk cp) (hdr : ∀ f orc, OrcOk (cpM cp f) orc → DrawOk (cpM cp f) orc) : ∀ k, OrcOk cp (evF cp k)
  | 0 => by
    intro f fn as r _ h
    rw [evF_zero] at h
    cases h
  | k + 1 => by
    intro f fn as r hf h w C0 cargs hG h1 h2 h3
    have ih := evF_ok hcp hext hdr k
    rw [evF_succ] at h
    cases hx : look cp.ext f with
    | some g => rw [hx] at h; exact hext f g hx fn as r hf h w C0 cargs h1 h2 h3
    | none =>
    rw [hx] at h
    simp only at h
    unfold evBody at h
    rw [hf] at h
    simp only at h
    cases hb : fn.body with
    | none => rw [hb] at h; simp at h
    | some c =>
      rw [hb] at h
      simp only at h
      cases hl : Nat.ble as.length fn.ntmps with
      | false => rw [hl] at h; simp at h
      | true =>
        rw [hl] at h
        simp only at h
        have hle := Nat.le_of_ble_eq_true hl
        have hcl : cargs.length ≤ as.length := by rw [← repL_length h2]; exact takeArgs_len as 0
        refine calls_of_wp (hcp f fn hf).1 hb ?_
        have hcp' : CpOk (cpM cp f) := hcp
        have ih' : OrcOk (cpM cp f) (evF cp k) := ih
        have hG' : GlobOk (cpM cp f) w C0 := hG
        refine evC_ok (call_ok hcp' ih') (hdr f _ ih') k (fiOf fn) c _ _ _ _ r h w C0 (look (takeArgs 0 as).2) w C0 _ hG' ⟨h1, fun t => ?_, h3, ?_, rfl, KeptT.refl _ _ _ _, ⟨fun id L e => ?_, fun id b hb => ⟨takeArgs_look hb, fun q => q⟩⟩, Nat.le_refl _, fun id k hid hk => absurd (takeArgs_look hk) (Nat.not_lt.2 hid)⟩ _ fun e σ' w' C' a' hr' hk => ?_
        · show Rep w C0 (ofList (numbered 0 (takeArgs 0 as).1) .any t) _
          unfold ofList
          rw [look_numbered]
          simp only [Nat.zero_le, if_true, Nat.sub_zero]
          cases hx : (takeArgs 0 as).1[t]? with
          | none => trivial
          | some x =>
            obtain ⟨v, q1, q2⟩ := repL_get h2 hx
            have hlt := (List.getElem?_eq_some_iff.1 q1).1
            have : (cargs.toArray ++ Array.replicate (fn.ntmps - cargs.toArray.size) undef).getD t undef = v := by
              rw [Array.getD_eq_getD_getElem?, Array.getElem?_append_left (by simpa using hlt)]
              simp [q1]
            rw [this]
            exact q2
        · show (cargs.toArray ++ Array.replicate (fn.ntmps - cargs.toArray.size) undef).size = fn.ntmps
          simp; omega
        · show id < (takeArgs 0 as).2.length
          rcases Nat.lt_or_ge id (takeArgs 0 as).2.length with q | q
          · exact q
          · rw [h3 id q] at e; cases e
        · have fin : ∀ e', e = e' → e' ≠ .exit 0 ∨ True → finish cp fn f (refTys as) σ' = some r → a'.defers = [] ∧ ∃ v, (results fn a'.tmps).run cp.P w' = .ok v w' ∧ Ran cp w C0 (look (takeArgs 0 as).2) fn f (refTys as) r (.returned v) w' := by
            intro e' _ _ hfin
            unfold finish at hfin
            obtain ⟨f1, f2, _⟩ := folds_ok (List.range σ'.nr) hr'.mem
            cases hres : resultsOf cp.P (endSt σ') fn.results.toList with
            | none => rw [hres] at hfin; simp at hfin
            | some p =>
              obtain ⟨gg, vs⟩ := p
              rw [hres] at hfin
              simp only at hfin
              unfold gd at hfin
              cases gg with
              | false => simp at hfin
              | true =>
              simp only at hfin
              obtain ⟨us, q1, q2⟩ := run_results (σ := endSt σ') f1.h hr'.env hres
              unfold finishW at hfin
              cases hm : moves cp f with
              | false =>
                rw [hm] at hfin
                exact ⟨hr'.defers, _, q1, C', (endSt σ').heap, vs, us, rfl, hr'.kept.trans f2, f1, q2, hfin, fun id b hb => (hr'.nr.2 id b hb).2⟩
              | true =>
                rw [hm] at hfin
                simp only at hfin
                cases hle : (Nat.ble (refTys as).length (endSt σ').next && noTB (endSt σ').heap (refTys as).length) with
                | false => rw [hle] at hfin; simp at hfin
                | true =>
                rw [hle] at hfin
                simp only at hfin
                rw [Bool.and_eq_true] at hle
                obtain ⟨C2, m1, m2, m3, m4, m5⟩ := movT_ok (nx := σ'.next) f1 (Nat.le_of_ble_eq_true hle.1) hr'.fresh hle.2
                have hn := nilVs_next cp.P (σ'.next + (refTys as).length) fn.resultTypes.toList (vs.map (mov (refTys as).length σ'.next))
                have hr3 := nilVs_rep (P := cp.P) (σ'.next + (refTys as).length) fn.resultTypes.toList _ _ (m3 q2)
                unfold finishN at hfin
                obtain ⟨e1, e2⟩ := relT_ext m1 (H' := upds (movH (endSt σ').heap (refTys as).length σ'.next) (nilVs cp.P (σ'.next + (refTys as).length) fn.resultTypes.toList (vs.map (mov (refTys as).length σ'.next))).2.1) fun id L e => upds_keep fun p hp q => by
                  have := hn.2 p hp
                  have := m5 id L e
                  omega
                exact ⟨hr'.defers, _, q1, C2, _, _, us, rfl, ((hr'.kept.trans f2).trans m2).trans e2, e1, hr3, hfin, fun id b hb h0 => by rw [m4 id (Nat.lt_of_lt_of_le (hr'.nr.2 id b hb).1 hr'.nb)]; exact (hr'.nr.2 id b hb).2 h0⟩
          cases e with
          | normal => exact fin .normal rfl (.inr trivial) hk
          | exit id => exact absurd hk (by unfold lastK; simp)
          | ret => exact fin .ret rfl (.inr trivial) hk
end Go.Proofs.YtlcnpecejhcnfaaDoor.EV
