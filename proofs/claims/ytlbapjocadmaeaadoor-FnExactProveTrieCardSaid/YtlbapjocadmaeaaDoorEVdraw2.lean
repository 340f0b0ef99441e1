/- Regions that draw their order, 2: one operation, from a memory that holds more. No conditions. -/
import Derived.Test.YtlbapjocadmaeaaDoorEVdraw
namespace Go.Proofs.YtlbapjocadmaeaaDoor.EV
set_option linter.unusedVariables false
set_option linter.unusedSimpArgs false
open Go Go.RowKit

theorem soft_set {id : Nat} : ∀ {l : List Nat} {h : Nat → Option Blk}, stOk h l = true → Soft (h id) (setSt h 1 l id)
  | [], _, _ => .inl rfl
  | j :: r, h, e => by
    unfold stOk at e
    rw [List.all_cons, Bool.and_eq_true] at e
    obtain ⟨e1, e2⟩ := e
    unfold setSt
    have one : Soft (h id) ((upd h j (match h j with | some b => some { b with st := 1 } | none => none)) id) := by
      by_cases q : id = j
      · subst q
        rw [upd_same]
        cases hk : h id with
        | none => exact .inl rfl
        | some b =>
          rw [hk] at e1
          exact .inr ⟨b, _, rfl, rfl, rfl, rfl, rfl, .inr ⟨Nat.le_of_ble_eq_true e1, Nat.le_refl _⟩⟩
      · rw [upd_other _ _ q]; exact .inl rfl
    refine one.trans (soft_set (l := r) ?_)
    unfold stOk
    rw [List.all_eq_true] at e2 ⊢
    intro x hx
    have := e2 x hx
    by_cases q : x = j
    · subst q
      rw [upd_same]
      cases hk : h x with
      | none => rw [hk] at this; simp at this
      | some b => rfl
    · rw [upd_other _ _ q]; exact this
def envOf (o : Oper) (e : Nat → AV) (v : AV) : Nat → AV := match o.dst with | some d => upd e d v | none => e
/-- What is done to the memory. -/
structure Eff (cp : CP) (ops : Array Oper) (A : List Nat) (base0 i : Nat) (o : Oper) (σ σ' : St) (ids : List Nat) (sf : Bool) (E : (Nat → Option Blk) → Nat → Option Blk) (v : AV) (ks : List Nat) : Prop where
  heap : σ'.heap = E σ.heap
  env : σ'.env = envOf o σ.env v
  nt : σ'.nt = σ.nt
  nr : σ'.nr = σ.nr
  pt : ∀ h h' id, h id = h' id → E h id = E h' id
  keep : ∀ h id, id ∉ ids → id ∉ ks → E h id = h id
  new : ∀ h h' id, id ∈ ks → E h id = E h' id
  rng : ∀ id, id ∈ ks → base0 + stride * i ≤ id ∧ id < base0 + stride * i + stride
  chg : ids = [] ∨ chgOk cp ops A base0 i o sf ids = true
  soft : sf = true → ∀ id, id ∉ ks → Soft (σ.heap id) (E σ.heap id)

theorem quiet_nil {l : List Nat} (h : quiet l = true) : l = [] := by cases l <;> simp [quiet] at h ⊢
theorem quiet_or {l : List Nat} {b : Bool} (h : (quiet l || b) = true) : l = [] ∨ b = true := by
  rw [Bool.or_eq_true] at h
  exact h.imp quiet_nil id
theorem flag_wanted {P : Program} {w0 : World} {C0 : Ctx} {H0 : Nat → Option Blk} {w : World} {C : Ctx} {a : Act} {σ : St} {B : Nat} (h : RelB P w0 C0 H0 w C a σ B) {ops : Array Oper} {o : Oper} {f : Bool → Bool} {j : Nat} {b : Bool} {d : Nat}
    (h1 : o.guard = some (j, b)) (h2 : dstAt ops j = some d) (h3 : σ.env d = .bool (f b)) : Region.wanted o (yielded ops a.tmps) = (f b == b) := by
  have hrd := h.env d
  rw [h3] at hrd
  simp only [Rep] at hrd
  have hy : yielded ops a.tmps j = some (f b) := by
    unfold yielded
    unfold dstAt at h2
    rw [h2]
    have : a.tmps[d]? = some (.bool (f b)) := by
      rw [Array.getD_eq_getD_getElem?] at hrd
      cases hq : a.tmps[d]? with
      | none => rw [hq] at hrd; simp [undef] at hrd
      | some x => rw [hq] at hrd; simp at hrd; rw [hrd]
    simp [this]
  simp only [Region.wanted, h1, hy]
  rfl

theorem putVal_eff {cp : CP} {ops : Array Oper} {A : List Nat} {base0 i : Nat} {o : Oper} {σ : St} {v : AV} {news : List (Nat × Blk)} {dead froz : List Nat}
    (h : (quiet (touchV (base0 + stride * i) news dead froz) || chgOk cp ops A base0 i o (softV σ.heap (base0 + stride * i) news dead froz) (touchV (base0 + stride * i) news dead froz)) = true) :
    Eff cp ops A base0 i o σ (putVal σ o v news dead froz) (touchV (base0 + stride * i) news dead froz) (softV σ.heap (base0 + stride * i) news dead froz) (fun h => upds (setSt (setSt h 1 froz) 2 dead) news) v ((keys news).filter fun id => Nat.beq id (base0 + stride * i)) := by
  refine ⟨rfl, rfl, rfl, rfl, fun h h' id e => upds_pt (setSt_pt (setSt_pt e)), fun h id h1 h2 => ?_, fun h h' id h1 => upds_in (List.mem_filter.1 h1).1, fun id h1 => ?_, quiet_or h, fun hs id hk => ?_⟩
  · have hn : id ∉ keys news := fun q => by
      cases hb : Nat.beq id (base0 + stride * i) with
      | true => exact h2 (List.mem_filter.2 ⟨q, hb⟩)
      | false =>
        unfold touchV at h1
        exact h1 (List.mem_append_right _ (List.mem_filter.2 ⟨q, by rw [hb]; rfl⟩))
    rw [upds_not hn, setSt_not (fun q => h1 (by unfold touchV; simp [q])), setSt_not (fun q => h1 (by unfold touchV; simp [q]))]
  · have := nbeq_eq (List.mem_filter.1 h1).2
    have : 0 < stride := by decide
    omega
  · unfold softV at hs
    rw [Bool.and_eq_true, Bool.and_eq_true] at hs
    obtain ⟨⟨a1, a2⟩, a3⟩ := hs
    have hd := quiet_nil a1
    have hn := quiet_nil a2
    subst hd
    have hn' : id ∉ keys news := fun q => by
      cases hb : Nat.beq id (base0 + stride * i) with
      | true => exact hk (List.mem_filter.2 ⟨q, hb⟩)
      | false =>
        have : id ∈ (news.map (·.1)).filter fun id => !Nat.beq id (base0 + stride * i) := List.mem_filter.2 ⟨q, by rw [hb]; rfl⟩
        rw [hn] at this; simp at this
    show Soft (σ.heap id) (upds (setSt (setSt σ.heap 1 froz) 2 []) news id)
    rw [upds_not hn']
    exact soft_set a3
theorem putCall_eff {cp : CP} {ops : Array Oper} {A : List Nat} {base0 i : Nat} {o : Oper} {σ : St} {f : FuncId} {froz refs : List Nat} {r : List AV}
    (h : (quiet (touchC cp f froz refs) || chgOk cp ops A base0 i o (softC cp σ.heap f froz refs) (touchC cp f froz refs)) = true) (hf : callFits cp (base0 + stride * i) f froz refs r = true) :
    ∃ E v ks, Eff cp ops A base0 i o σ (putCall cp σ (base0 + stride * i) o f froz refs r) (touchC cp f froz refs) (softC cp σ.heap f froz refs) E v ks ∧ ∀ σ2 : St, (putCall cp σ2 (base0 + stride * i) o f froz refs r).heap = E σ2.heap ∧ (putCall cp σ2 (base0 + stride * i) o f froz refs r).env = envOf o σ2.env v ∧
      (putCall cp σ2 (base0 + stride * i) o f froz refs r).nt = σ2.nt ∧ (putCall cp σ2 (base0 + stride * i) o f froz refs r).nr = σ2.nr := by
  cases hdp : isDeep cp f with
  | true =>
    unfold callFits at hf
    rw [hdp] at hf
    simp only at hf
    cases hfn : look cp.fns f with
    | none => rw [hfn] at hf; simp at hf
    | some fn =>
    rw [hfn] at hf
    simp only at hf
    have hfz : frozC cp f froz refs = [] := by unfold frozC; rw [hdp]
    have htc : touchC cp f froz refs = refs := by unfold touchC; rw [hfz]; rfl
    unfold deepFits at hf
    rw [Bool.and_eq_true, Bool.and_eq_true, Bool.and_eq_true, Bool.and_eq_true] at hf
    obtain ⟨_, href, hle1, hle2, hsh⟩ := hf
    have hq1 : (deepR cp f froz r).1.length = (tmB cp f froz).length := cBs_len _ _
    have h1 := Nat.le_of_ble_eq_true hle1
    have h2 := Nat.le_of_ble_eq_true hle2
    rw [← hq1] at h1 h2
    let L := deepL refs (base0 + stride * i) (deepR cp f froz r).1.length
    have hkL : ∀ id, id ∈ L → id ∈ refs ∨ (base0 + stride * i ≤ id ∧ id < base0 + stride * i + stride) := by
      intro id hid
      obtain ⟨j, hj⟩ := List.getElem?_of_mem hid
      rcases deepL_cases hj h1 with ⟨_, q⟩ | ⟨q1, q2, q3⟩
      · exact .inl (List.mem_of_getElem? q)
      · exact .inr (by omega)
    have hks : ∀ id, id ∈ keys (deepNews L L (deepR cp f froz r).1) → id ∈ L := fun id hid => deepNews_keys hid
    have keepE : ∀ (hh : Nat → Option Blk) (id : Nat), id ∉ refs → id ∉ keys (deepNews L L (deepR cp f froz r).1) → upds (setSt hh 2 (deepDead L (deepR cp f froz r).1)) (deepNews L L (deepR cp f froz r).1) id = hh id := by
      intro hh id n1 hnk
      rw [upds_not hnk]
      refine setSt_not fun hm => ?_
      obtain ⟨j, v, q1, q2, q3⟩ := deepDead_at hm
      rcases deepL_cases q1 h1 with ⟨_, q⟩ | ⟨p1, p2, _⟩
      · exact n1 (List.mem_of_getElem? q)
      · obtain ⟨t, ht⟩ : ∃ t, (tmB cp f froz)[j]? = some t := ⟨_, List.getElem?_eq_getElem (by omega)⟩
        have htr : isRef t = true := by
          refine List.all_eq_true.1 href t ?_
          refine List.mem_of_getElem? (i := j - refs.length) ?_
          rw [List.getElem?_drop, show refs.length + (j - refs.length) = j by omega]
          exact ht
        obtain ⟨v', z1, z2⟩ := cBs_ref (vs := (r.headD .any).tupL) ht htr
        have q2' : (cBs (tmB cp f froz) (r.headD .any).tupL)[j]? = some v := q2
        rw [z1] at q2'
        cases q2'
        rw [z2] at q3; cases q3
    refine ⟨fun h => upds (setSt h 2 (deepDead L (deepR cp f froz r).1)) (deepNews L L (deepR cp f froz r).1), tupA ((deepR cp f froz r).2.map (mv L)),
      (keys (deepNews L L (deepR cp f froz r).1)).filter fun id => !refs.contains id, ⟨?_, ?_, ?_, ?_, ?_, ?_, ?_, ?_, quiet_or h, ?_⟩, fun σ2 => ?_⟩
    · unfold putCall; rw [hdp]; rfl
    · unfold putCall; rw [hdp]; rfl
    · unfold putCall; rw [hdp]; rfl
    · unfold putCall; rw [hdp]; rfl
    · exact fun h h' id e => upds_pt (setSt_pt e)
    · intro hh id n1 n2
      rw [htc] at n1
      have hnk : id ∉ keys (deepNews L L (deepR cp f froz r).1) := fun q => n2 (List.mem_filter.2 ⟨q, by simpa using n1⟩)
      exact keepE hh id n1 hnk
    · exact fun h h' id h1 => upds_in (List.mem_filter.1 h1).1
    · intro id hid
      obtain ⟨q1, q2⟩ := List.mem_filter.1 hid
      rcases hkL id (hks id q1) with q | q
      · simp [q] at q2
      · exact q
    · intro hs id hk
      unfold softC at hs
      rw [Bool.and_eq_true] at hs
      have hr := quiet_nil hs.1
      refine .inl ?_
      refine (keepE σ.heap id (by rw [hr]; simp) (fun q => hk (List.mem_filter.2 ⟨q, by rw [hr]; simp⟩))).symm
    · unfold putCall; rw [hdp]; exact ⟨rfl, rfl, rfl, rfl⟩
  | false =>
    unfold callFits at hf
    rw [hdp] at hf
    simp only at hf
    cases hfn : look cp.fns f with
    | none => rw [hfn] at hf; simp at hf
    | some fn =>
      rw [hfn] at hf
      have hle : (takeVals (cp.fresh.contains f) cp.P (base0 + stride * i) fn.resultTypes.toList r).2.2 ≤ base0 + stride * i + stride := by
        exact Nat.le_of_ble_eq_true (Bool.and_eq_true _ _ ▸ hf).1
      refine ⟨fun h => upds (setSt (upds h (takeRefs cp.P h refs (dropV fn.resultTypes.toList r))) 1 (frozC cp f froz refs)) (takeVals (cp.fresh.contains f) cp.P (base0 + stride * i) fn.resultTypes.toList r).2.1,
        tupA (takeVals (cp.fresh.contains f) cp.P (base0 + stride * i) fn.resultTypes.toList r).1, keys (takeVals (cp.fresh.contains f) cp.P (base0 + stride * i) fn.resultTypes.toList r).2.1, ⟨?_, ?_, ?_, ?_, ?_, ?_, ?_, ?_, quiet_or h, ?_⟩, fun σ2 => ?_⟩
      · unfold putCall frozC; rw [hdp, hfn]
      · unfold putCall envOf; rw [hdp, hfn]; rfl
      · unfold putCall; rw [hdp, hfn]
      · unfold putCall; rw [hdp, hfn]
      · exact fun h h' id e => upds_pt (setSt_pt (takeRefs_pt e e))
      · intro h id h1 h2
        rw [upds_not h2, setSt_not (fun q => h1 (by unfold touchC; simp [q])), upds_not (fun q => h1 (by unfold touchC; simp [takeRefs_keys q]))]
      · exact fun h h' id h1 => upds_in h1
      · intro id h1
        have := takeVals_keys h1
        omega
      · intro hs id hk
        unfold softC at hs
        rw [Bool.and_eq_true] at hs
        have hr := quiet_nil hs.1
        subst hr
        rw [upds_not hk]
        exact soft_set hs.2
      · unfold putCall frozC envOf; rw [hdp, hfn]; exact ⟨rfl, rfl, rfl, rfl⟩

/-- The operation from a memory that holds more, with what else is done. -/
theorem op_any {cp : CP} {orc : Orc} (hc : CallOk cp orc) {ops : Array Oper} {A : List Nat} {base0 i : Nat} {o : Oper} (ho : ops[i]? = some o) {σ σ' : St} {ids : List Nat} {sf : Bool} (st : OpStep cp orc ops A base0 i o σ σ' ids sf) :
    ∃ E v ks, Eff cp ops A base0 i o σ σ' ids sf E v ks ∧ ∀ {w0 : World} {C0 : Ctx} {H0 : Nat → Option Blk} {w : World} {C : Ctx} {a : Act} {σS : St} {B : Nat} {Q : Exit → Act → World → Prop} {K : Act → World → Prop},
      GlobOk cp w0 C0 → RelB cp.P w0 C0 H0 w C a σS B → σS.nr ≤ base0 → σS.nt = σ.nt → (∀ x ∈ o.op.operands, evOperand σS.env x = evOperand σ.env x) → (∀ g b d, o.guard = some (g, b) → dstAt ops g = some d → σS.env d = σ.env d) → (Ext σ.heap σS.heap ∨ (readB o = true ∧ SoftExt σ.heap σS.heap) ∨ tchB cp o = false) →
      (∀ id, base0 + stride * i ≤ id → id < base0 + stride * i + stride → C.φ id = none) → base0 + stride * i + stride ≤ B →
      (∀ u w' C' σ1, RelB cp.P w0 C0 H0 w' C' (a.put o.dst u) σ1 B → σ1.heap = E σS.heap → σ1.env = envOf o σS.env v → σ1.nt = σS.nt → σ1.nr = σS.nr → (∀ id, (id < base0 + stride * i ∨ base0 + stride * i + stride ≤ id) → C.φ id = none → C'.φ id = none) → K (a.put o.dst u) w') →
      wpOp cp.P ops Q i K a w := by
  have same : ∀ {σS : St}, (∀ x ∈ o.op.operands, evOperand σS.env x = evOperand σ.env x) → (Ext σ.heap σS.heap ∨ (readB o = true ∧ SoftExt σ.heap σS.heap) ∨ tchB cp o = false) → evR cp (evOperand σ.env) σ.heap (base0 + stride * i) o ≠ .no →
      evR cp (evOperand σS.env) σS.heap (base0 + stride * i) o = evR cp (evOperand σ.env) σ.heap (base0 + stride * i) o := by
    intro σS h1 h2 h3
    rw [evR_local h1]
    rcases h2 with h2 | h2 | h2
    · exact evR_mono h2 rfl h3
    · exact evR_soft h2.2 h2.1 h3
    · exact evR_blind h2
  have want : ∀ {w0 : World} {C0 : Ctx} {H0 : Nat → Option Blk} {w : World} {C : Ctx} {a : Act} {σS : St} {B : Nat}, RelB cp.P w0 C0 H0 w C a σS B → (∀ g b d, o.guard = some (g, b) → dstAt ops g = some d → σS.env d = σ.env d) → (o.guard = none ∨ Flag ops o σ id) → Region.wanted o (yielded ops a.tmps) = true := by
    intro w0 C0 H0 w C a σS B hr hg h
    rcases h with h | ⟨j, b, d, h1, h2, h3⟩
    · simp [Region.wanted, h]
    · rw [flag_wanted hr (f := id) h1 h2 (by rw [hg j b d h1 h2, h3])]; simp
  cases st with
  | skip h0 h1 =>
    refine ⟨fun h => h, .tup [], [], ⟨rfl, rfl, rfl, rfl, fun _ _ _ e => e, fun _ _ _ _ => rfl, fun _ _ _ q => by simp at q, fun _ q => by simp at q, .inl rfl, fun q => by cases q⟩, ?_⟩
    intro w0 C0 H0 w C a σS B Q K hG hr hnb hnt _ hg _ _ _ hK
    have hnw : ¬ Region.wanted o (yielded ops a.tmps) = true := by
      rcases h1 with ⟨j, b, d, g1, g2, g3⟩ | ⟨j, b, d, g1, g2, g3⟩
      · rw [flag_wanted hr (f := (!·)) g1 g2 (by rw [hg j b d g1 g2, g3])]; cases b <;> simp
      · have := hr.env d
        rw [hg j b d g1 g2, g3] at this
        rw [off_wanted g1 g2 this]; simp
    unfold wpOp
    rw [ho]
    simp only
    rw [if_neg hnw]
    have hd : dstOk σS o = true := by unfold dstOk at h0 ⊢; rw [hnt]; exact h0
    refine hK undef w C (setAny σS o) ⟨hr.mem, ?_, hr.fresh, by rw [(put_size _ _ _).1]; exact hr.size, by rw [(put_size _ _ _).2]; exact hr.defers, hr.kept, hr.nr, hr.nb⟩ rfl rfl rfl rfl (fun _ _ q => q)
    exact put_env (Step.refl w C) hr.env hr.size hd (v := .tup []) ⟨[], rfl, rfl⟩
  | @val v news dead froz h0 h1 h2 h3 =>
    refine ⟨_, v, _, putVal_eff h3, ?_⟩
    intro w0 C0 H0 w C a σS B Q K hG hr hnb hnt hop hg hx hfr hB hK
    have hev := same hop hx (by rw [h2]; simp)
    rw [h2] at hev
    have hd : dstOk σS o = true := by unfold dstOk at h0 ⊢; rw [hnt]; exact h0
    have hs : 0 < stride := by decide
    unfold wpOp
    rw [ho]
    simp only
    rw [if_pos (want hr hg h1)]
    left
    obtain ⟨nx, u, w', C', q1, q2, q3, q4, q5, q6⟩ := (op_okG hr.mem (hG.step hr.kept.step) _ (hfr _ (Nat.le_refl _) (by omega)) (operand_rep hr.env) o hev rfl).out
    have hrel : RelB cp.P w0 C0 H0 w' C' (a.put o.dst u) (putVal σS o v news dead froz) B :=
      ⟨q4, put_env q5.step hr.env hr.size hd q3, fun id hid => q6 id (by omega) (hr.fresh id hid), by rw [(put_size a o.dst u).1]; exact hr.size, by rw [(put_size a o.dst u).2]; exact hr.defers, hr.kept.trans q5, ⟨hr.nr.1, fun id b hb => by
          obtain ⟨q1, q2⟩ := hr.nr.2 id b hb
          exact ⟨q1, fun q3 => q6 id (by omega) (q2 q3)⟩⟩, hr.nb⟩
    have hn := hK u w' C' _ hrel rfl rfl rfl rfl (fun id hid q => q6 id (by omega) q)
    unfold Oper.wp
    rw [q1]
    rcases q2 with rfl | ⟨rfl, rfl⟩
    · rw [Oper.upon_value]; exact hn
    · rw [Oper.upon_skip]; exact hn
  | @call f args froz refs r h0 h1 h2 h3 h4 h5 =>
    obtain ⟨E, v, ks, eff, all⟩ := putCall_eff (σ := σ) (o := o) (A := A) (ops := ops) h3 h5
    refine ⟨E, v, ks, eff, ?_⟩
    intro w0 C0 H0 w C a σS B Q K hG hr hnb hnt hop hg hx hfr hB hK
    have hev := same hop hx (by rw [h2]; simp)
    rw [h2] at hev
    have hd : dstOk σS o = true := by unfold dstOk at h0 ⊢; rw [hnt]; exact h0
    unfold wpOp
    rw [ho]
    simp only
    rw [if_pos (want hr hg h1)]
    left
    obtain ⟨e1, e2, e3, e4⟩ := all σS
    exact hc w0 C0 H0 w C a σS B B _ o f args froz refs r hG hr (by omega) hfr (Nat.le_refl _) hB hd hev h4 h5 _ _ fun u w' C' hrel hφ => hK u w' C' _ hrel e1 e2 e3 e4 (fun id hid q => by rw [hφ id hid]; exact q)
end Go.Proofs.YtlbapjocadmaeaaDoor.EV
