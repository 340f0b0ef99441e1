/- Regions that draw their order, 4: whatever order is drawn. No conditions. -/
import Derived.Test.YtlbapjocadmaeaaDoorEVdraw3
namespace Go.Proofs.YtlbapjocadmaeaaDoor.EV
set_option linter.unusedVariables false
set_option linter.unusedSimpArgs false
open Go Go.RowKit
open Classical

/-- In whose range a number lies, from 1 on. -/
def own (base0 id : Nat) : Nat := if id < base0 then 0 else (id - base0) / stride + 1
theorem own_le {base0 id k : Nat} (h : id < base0 + stride * k) : own base0 id ≤ k := by
  unfold own
  split
  · omega
  · unfold stride at *; omega
theorem own_lt {base0 id k : Nat} (h : own base0 id ≤ k) : id < base0 + stride * k := by
  unfold own at h
  split at h
  · omega
  · unfold stride at *; omega
theorem own_in {base0 id k : Nat} (h1 : base0 + stride * k ≤ id) (h2 : id < base0 + stride * k + stride) : own base0 id = k + 1 := by
  unfold own
  rw [if_neg (by omega)]
  unfold stride at *; omega
theorem own_off {base0 id j : Nat} (h : own base0 id ≤ j) : id < base0 + stride * j ∨ base0 + stride * j + stride ≤ id := .inl (own_lt h)

noncomputable def envS (ops : Array Oper) (s : Nat → St) (S : Nat → Prop) (t : Nat) : AV := if ∃ j, S j ∧ dstAt ops j = some t then (s ops.size).env t else (s 0).env t
def HS (s : Nat → St) (base0 m id : Nat) : Option Blk := (s (max m (own base0 id))).heap id
noncomputable def stS (ops : Array Oper) (s : Nat → St) (base0 : Nat) (S : Nat → Prop) (m : Nat) : St := { nt := (s 0).nt, nr := (s 0).nr, next := 0, env := envS ops s S, heap := HS s base0 m }
def Did1 (listed : Array Bool) (j : Nat) : Prop := listed.getD j false = true

structure Inv (cp : CP) (ops : Array Oper) (base0 : Nat) (s : Nat → St) (T : Nat → List Nat) (w0 : World) (C0 : Ctx) (H0 : Nat → Option Blk) (listed : Array Bool) (m : Nat) (w : World) (C : Ctx) (a : Act) : Prop where
  rel : RelB cp.P w0 C0 H0 w C a (stS ops s base0 (Did1 listed) m) (base0 + stride * ops.size)
  fr : ∀ id L, C.φ id = some L → id < base0 ∨ ∃ j, j < ops.size ∧ Did1 listed j ∧ base0 + stride * j ≤ id ∧ id < base0 + stride * j + stride
  sz : listed.size = ops.size
  lo : ∀ c, c < ops.size → T c ≠ [] → Did1 listed c → c < m
  hi : ∀ c, c < m → T c ≠ [] → Did1 listed c
  le : m ≤ ops.size
  cl : ∀ j o i, ops[j]? = some o → Did1 listed j → i ∈ edgesTo o → Did1 listed i

theorem cl_far {ops : Array Oper} {S : Nat → Prop} (cl : ∀ j o i, ops[j]? = some o → S j → i ∈ edgesTo o → S i) {j i : Nat} (w : Waits ops j i) (h : S j) : S i := by
  induction w with
  | edge h1 h2 => exact cl _ _ _ h1 h h2
  | far h1 h2 _ ih => exact ih (cl _ _ _ h1 h h2)
theorem did1_set {listed : Array Bool} {i j : Nat} (hi : i < listed.size) : Did1 (listed.setIfInBounds i true) j ↔ (j = i ∨ Did1 listed j) := by
  unfold Did1
  by_cases h : i = j
  · subst h; simp [hi]
  · rw [getD_set_ne false h]; simp [show j ≠ i from fun q => h q.symm]
theorem look_dst {ops : Array Oper} {o : Oper} {d : Nat} (h : d ∉ o.looksAt ops) : (∀ x ∈ o.op.operands, x ≠ .tmp d) ∧ ∀ g b, o.guard = some (g, b) → dstAt ops g ≠ some d := by
  refine ⟨fun x hx q => h ?_, fun g b hg q => h ?_⟩
  · subst q
    exact List.mem_append_left _ (List.mem_filterMap.2 ⟨.tmp d, by simpa using hx, rfl⟩)
  · unfold Oper.looksAt
    rw [hg]
    unfold dstAt at q
    refine List.mem_append_right _ ?_
    simp [q]

/-- What a ready operation looks at is as in the listed run. -/
theorem env_ready {cp : CP} {orc : Orc} {ops : Array Oper} {base0 : Nat} {s : Nat → St} {T : Nat → List Nat} {Sf : Nat → Bool} (tr : Tr cp orc ops base0 s T Sf)   {w0 : World} {C0 : Ctx} {H0 : Nat → Option Blk} {listed : Array Bool} {m : Nat} {w : World} {C : Ctx} {a : Act} (inv : Inv cp ops base0 s T w0 C0 H0 listed m w C a) {i : Nat} {o : Oper} (ho : ops[i]? = some o) (hu : ¬ Did1 listed i) (hr : ∀ j, j ∈ edgesTo o → Did1 listed j) {t : Nat} (ht : t ∈ o.looksAt ops) : envS ops s (Did1 listed) t = (s i).env t := by
  have hi : i < ops.size := (Array.getElem?_eq_some_iff.1 ho).1
  unfold envS
  by_cases h : ∃ j, Did1 listed j ∧ dstAt ops j = some t
  · rw [if_pos h]
    obtain ⟨j, h1, h2⟩ := h
    have hj : j < ops.size := by
      rcases Nat.lt_or_ge j ops.size with q | q
      · exact q
      · unfold dstAt at h2; rw [Array.getElem?_eq_none q] at h2; simp at h2
    obtain ⟨oj, hoj⟩ := at_lt tr hj
    rcases Nat.lt_trichotomy j i with q | q | q
    · exact env_same tr (by omega) (Nat.le_refl _) fun k k1 k2 k3 => by have := dst_one tr h2 k3; omega
    · subst q; exact absurd h1 hu
    · exfalso
      rcases ((drawB_at tr.d hoj).2 i o q ho).1 with e | e
      · exact hu (inv.cl j oj i hoj h1 e)
      · obtain ⟨_, _, e3⟩ := Oper.apart_spec e
        refine e3 t ?_ ht
        unfold dstAt at h2; rw [hoj] at h2; exact h2
  · rw [if_neg h]
    refine (env_same tr (Nat.zero_le _) (by omega) fun j _ j2 j3 => ?_).symm
    obtain ⟨oj, hoj⟩ := at_lt tr (k := j) (by omega)
    rcases ((drawB_at tr.d ho).2 j oj j2 hoj).1 with e | e
    · exact h ⟨j, hr j e, j3⟩
    · obtain ⟨e1, _, _⟩ := Oper.apart_spec e
      refine e1 t ?_ ht
      unfold dstAt at j3; rw [hoj] at j3; exact j3

/-- What changed the memory is ahead of a ready one that looks at it, or not yet done. -/
theorem chg_side {cp : CP} {orc : Orc} {ops : Array Oper} {base0 : Nat} {s : Nat → St} {T : Nat → List Nat} {Sf : Nat → Bool} (tr : Tr cp orc ops base0 s T Sf)   {w0 : World} {C0 : Ctx} {H0 : Nat → Option Blk} {listed : Array Bool} {m : Nat} {w : World} {C : Ctx} {a : Act} (inv : Inv cp ops base0 s T w0 C0 H0 listed m w C a) {i : Nat} {o : Oper} (ho : ops[i]? = some o) (hu : ¬ Did1 listed i) (hr : ∀ j, j ∈ edgesTo o → Did1 listed j) (ht : tchB cp o = true) {c : Nat} (hc : c < ops.size) (hT : T c ≠ []) (hsr : ¬ (Sf c = true ∧ readB o = true)) : (c < i → Did1 listed c) ∧ (i < c → ¬ Did1 listed c) := by
  obtain ⟨oc, hoc⟩ := at_lt tr hc
  have far : Waits ops i c → Did1 listed c := by
    intro w
    cases w with
    | edge h1 h2 => rw [ho] at h1; cases h1; exact hr _ h2
    | far h1 h2 h3 => rw [ho] at h1; cases h1; exact cl_far inv.cl h3 (hr _ h2)
  refine ⟨fun q => ?_, fun q hd => ?_⟩
  · rcases (chg_ok tr hoc hT).2 i o ho (by omega) ht hsr with e | e
    · have := waits_lt tr.d e; omega
    · exact far e
  · rcases (chg_ok tr hoc hT).2 i o ho (by omega) ht hsr with e | e
    · exact hu (cl_far inv.cl e hd)
    · have := waits_lt tr.d e; omega
theorem heap_ready {cp : CP} {orc : Orc} {ops : Array Oper} {base0 : Nat} {s : Nat → St} {T : Nat → List Nat} {Sf : Nat → Bool} (tr : Tr cp orc ops base0 s T Sf)   {w0 : World} {C0 : Ctx} {H0 : Nat → Option Blk} {listed : Array Bool} {m : Nat} {w : World} {C : Ctx} {a : Act} (inv : Inv cp ops base0 s T w0 C0 H0 listed m w C a) {i : Nat} {o : Oper} (ho : ops[i]? = some o) (hu : ¬ Did1 listed i) (hr : ∀ j, j ∈ edgesTo o → Did1 listed j) (ht : tchB cp o = true) (hrd : readB o = false) {id : Nat} (hid : id < base0 + stride * i) : HS s base0 m id = (s i).heap id := by
  have hi : i < ops.size := (Array.getElem?_eq_some_iff.1 ho).1
  have hle := inv.le
  have how := own_le hid
  unfold HS
  by_cases q : max m (own base0 id) ≤ i
  · refine (heap_same tr q (by omega) fun j j1 j2 => ⟨own_off (by omega), fun hT => ?_⟩).symm
    have hne : T j ≠ [] := fun e => by rw [e] at hT; simp at hT
    have := inv.lo j (by omega) hne ((chg_side tr inv ho hu hr ht (by omega) hne (by rw [hrd]; simp)).1 j2)
    omega
  · have hm : max m (own base0 id) = m := by omega
    rw [hm]
    refine heap_same tr (by omega) hle fun j j1 j2 => ⟨own_off (by omega), fun hT => ?_⟩
    have hne : T j ≠ [] := fun e => by rw [e] at hT; simp at hT
    have hd := inv.hi j j2 hne
    rcases Nat.eq_or_lt_of_le j1 with e | e
    · subst e; exact hu hd
    · exact (chg_side tr inv ho hu hr ht (by omega) hne (by rw [hrd]; simp)).2 e hd

theorem heap_ready_soft {cp : CP} {orc : Orc} {ops : Array Oper} {base0 : Nat} {s : Nat → St} {T : Nat → List Nat} {Sf : Nat → Bool} (tr : Tr cp orc ops base0 s T Sf)   {w0 : World} {C0 : Ctx} {H0 : Nat → Option Blk} {listed : Array Bool} {m : Nat} {w : World} {C : Ctx} {a : Act} (inv : Inv cp ops base0 s T w0 C0 H0 listed m w C a) {i : Nat} {o : Oper} (ho : ops[i]? = some o) (hu : ¬ Did1 listed i) (hr : ∀ j, j ∈ edgesTo o → Did1 listed j) (ht : tchB cp o = true) {id : Nat} (hid : id < base0 + stride * i) : Soft ((s i).heap id) (HS s base0 m id) := by
  have hi : i < ops.size := (Array.getElem?_eq_some_iff.1 ho).1
  have hle := inv.le
  have how := own_le hid
  have hard : ∀ {c : Nat}, Sf c = false → ¬ (Sf c = true ∧ readB o = true) := fun q z => by rw [q] at z; cases z.1
  unfold HS
  by_cases q : max m (own base0 id) ≤ i
  · refine (heap_softly tr q (by omega) fun j j1 j2 => ⟨own_off (by omega), fun hT => ?_⟩).symm
    have hne : T j ≠ [] := fun e => by rw [e] at hT; simp at hT
    cases hs : Sf j with
    | true => rfl
    | false =>
      have := inv.lo j (by omega) hne ((chg_side tr inv ho hu hr ht (by omega) hne (hard hs)).1 j2)
      omega
  · have hm : max m (own base0 id) = m := by omega
    rw [hm]
    refine heap_softly tr (by omega) hle fun j j1 j2 => ⟨own_off (by omega), fun hT => ?_⟩
    have hne : T j ≠ [] := fun e => by rw [e] at hT; simp at hT
    have hd := inv.hi j j2 hne
    cases hs : Sf j with
    | true => rfl
    | false =>
      rcases Nat.eq_or_lt_of_le j1 with e | e
      · subst e; exact absurd hd hu
      · exact absurd hd ((chg_side tr inv ho hu hr ht (by omega) hne (hard hs)).2 e)

theorem inv_step {cp : CP} {orc : Orc} {ops : Array Oper} {base0 : Nat} {s : Nat → St} {T : Nat → List Nat} {Sf : Nat → Bool} (tr : Tr cp orc ops base0 s T Sf)   {w0 : World} {C0 : Ctx} {H0 : Nat → Option Blk} {listed : Array Bool} {m : Nat} {w : World} {C : Ctx} {a : Act} (hG : GlobOk cp w0 C0) (inv : Inv cp ops base0 s T w0 C0 H0 listed m w C a) {i : Nat} (hi : i ∈ Region.ready .any ops listed) {Q : Exit → Act → World → Prop} {K : Act → World → Prop}
    (hK : ∀ m' w' C' a', Inv cp ops base0 s T w0 C0 H0 (listed.setIfInBounds i true) m' w' C' a' → K a' w') : wpOp cp.P ops Q i K a w := by
  obtain ⟨hun, o, ho, hall⟩ := mem_ready.1 hi
  have hilt : i < ops.size := (Array.getElem?_eq_some_iff.1 ho).1
  have hsz := inv.sz
  have hu : ¬ Did1 listed i := by
    unfold Did1
    intro q
    simp [hsz, hilt] at hun q
    rw [hun] at q; cases q
  have hr : ∀ j, j ∈ edgesTo o → Did1 listed j := by
    intro j hj
    unfold edgesTo at hj
    rw [List.mem_map] at hj
    obtain ⟨e, h1, rfl⟩ := hj
    rw [List.mem_filter] at h1
    exact hall e (by simpa using h1.1) h1.2
  have hset : ∀ j, Did1 (listed.setIfInBounds i true) j ↔ (j = i ∨ Did1 listed j) := fun j => did1_set (by omega)
  have hbs : base0 + stride * i + stride ≤ base0 + stride * ops.size := by
    have : stride * (i + 1) ≤ stride * ops.size := Nat.mul_le_mul_left _ (by omega)
    rw [Nat.mul_succ] at this; omega
  obtain ⟨E, v, ks, eff, run⟩ := op_any tr.hc ho (tr.step i o ho)
  have hntc := nt_const tr i (by omega)
  refine run hG inv.rel tr.nb hntc.1.symm (fun x hx => ?_) (fun g b d g1 g2 => ?_) ?_ (fun id h1 h2 => ?_) hbs (fun u w' C' σ1 hrel e1 e2 e3 e4 hφ => ?_)
  · cases x with
    | tmp t => exact env_ready tr inv ho hu hr (List.mem_append_left _ (List.mem_filterMap.2 ⟨.tmp t, by simpa using hx, rfl⟩))
    | _ => rfl
  · refine env_ready tr inv ho hu hr ?_
    unfold Oper.looksAt
    rw [g1]
    unfold dstAt at g2
    exact List.mem_append_right _ (by simp [g2])
  · cases ht : tchB cp o with
    | false => exact .inr (.inr rfl)
    | true =>
      have low : ∀ id b, (s i).heap id = some b → id < base0 + stride * i := fun id b hb => by
        rcases Nat.lt_or_ge id (base0 + stride * i) with q | q
        · exact q
        · rw [none_hi tr i (by omega) id q] at hb; cases hb
      cases hrd : readB o with
      | true =>
        right; left
        exact ⟨rfl, fun id b hb => (heap_ready_soft tr inv ho hu hr ht (low id b hb)).ext (h' := HS s base0 m) hb⟩
      | false =>
        left
        intro id b hb
        show HS s base0 m id = some b
        rw [heap_ready tr inv ho hu hr ht hrd (low id b hb)]; exact hb
  · cases hq : C.φ id with
    | none => rfl
    | some L =>
      rcases inv.fr id L hq with q | ⟨j, j0, j1, j2, j3⟩
      · omega
      · have a1 := own_in h1 h2
        have a2 := own_in j2 j3
        have : j = i := by omega
        subst this; exact absurd j1 hu
  · have fr' : ∀ id L, C'.φ id = some L → id < base0 ∨ ∃ j, j < ops.size ∧ Did1 (listed.setIfInBounds i true) j ∧ base0 + stride * j ≤ id ∧ id < base0 + stride * j + stride := by
      intro id L hL
      by_cases q : base0 + stride * i ≤ id ∧ id < base0 + stride * i + stride
      · exact .inr ⟨i, hilt, (hset i).2 (.inl rfl), q.1, q.2⟩
      · cases hq : C.φ id with
        | none => rw [hφ id (by omega) hq] at hL; cases hL
        | some L2 =>
          rcases inv.fr id L2 hq with q | ⟨j, j0, j1, j2, j3⟩
          · exact .inl q
          · exact .inr ⟨j, j0, (hset j).2 (.inr j1), j2, j3⟩
    have cl' : ∀ j oj k, ops[j]? = some oj → Did1 (listed.setIfInBounds i true) j → k ∈ edgesTo oj → Did1 (listed.setIfInBounds i true) k := by
      intro j oj k hoj hd hk
      rcases (hset j).1 hd with q | q
      · subst q
        rw [ho] at hoj; cases hoj
        exact (hset k).2 (.inr (hr k hk))
      · exact (hset k).2 (.inr (inv.cl j oj k hoj q hk))
    have env' : ∀ t, envS ops s (Did1 (listed.setIfInBounds i true)) t = σ1.env t := by
      intro t
      rw [e2]
      unfold envOf
      have other : dstAt ops i ≠ some t → envS ops s (Did1 (listed.setIfInBounds i true)) t = envS ops s (Did1 listed) t := by
        intro hne
        unfold envS
        by_cases h : ∃ j, Did1 listed j ∧ dstAt ops j = some t
        · rw [if_pos h, if_pos]
          obtain ⟨j, j1, j2⟩ := h
          exact ⟨j, (hset j).2 (.inr j1), j2⟩
        · rw [if_neg h, if_neg]
          rintro ⟨j, j1, j2⟩
          rcases (hset j).1 j1 with q | q
          · subst q; exact hne j2
          · exact h ⟨j, q, j2⟩
      cases hd : o.dst with
      | none => exact other (by unfold dstAt; rw [ho]; simp [hd])
      | some d =>
        by_cases q : t = d
        · subst q
          show _ = upd _ t v t
          rw [upd_same]
          have hdi : dstAt ops i = some t := by unfold dstAt; rw [ho]; exact hd
          have h1 : (s ops.size).env t = (s (i + 1)).env t := env_same tr (by omega) (Nat.le_refl _) fun k k1 k2 k3 => by have := dst_one tr hdi k3; omega
          have h2 : (s (i + 1)).env t = v := by rw [eff.env]; unfold envOf; rw [hd]; exact upd_same _ _ _
          unfold envS
          rw [if_pos ⟨i, (hset i).2 (.inl rfl), hdi⟩, h1, h2]
        · show _ = upd _ d v t
          rw [upd_other _ _ q]
          exact other (by unfold dstAt; rw [ho]; simp [hd, show ¬ d = t from fun x => q x.symm])
    have fin : ∀ m', (∀ id L, C'.φ id = some L → HS s base0 m' id = σ1.heap id) → (∀ c, c < ops.size → T c ≠ [] → Did1 (listed.setIfInBounds i true) c → c < m') → (∀ c, c < m' → T c ≠ [] → Did1 (listed.setIfInBounds i true) c) → m' ≤ ops.size → K (a.put o.dst u) w' := by
      intro m' hh lo hi' le
      exact hK m' w' C' _ ⟨relB_congr hrel env' hh e3.symm e4.symm hrel.fresh hrel.nb, fr', by simp [hsz], lo, hi', le, cl'⟩
    have e1' : σ1.heap = E (HS s base0 m) := e1
    by_cases hT : T i = []
    · refine fin m (fun id L hL => ?_) (fun c c1 c2 c3 => ?_) (fun c c1 c2 => (hset c).2 (.inr (inv.hi c c1 c2))) inv.le
      · rw [e1']
        by_cases hk : id ∈ ks
        · have hrg := eff.rng id hk
          have how := own_in hrg.1 hrg.2
          have h1 : E (HS s base0 m) id = (s (i + 1)).heap id := by rw [eff.heap]; exact eff.new _ _ id hk
          rw [h1]
          have hle := inv.le
          unfold HS
          rw [how]
          refine heap_same tr (by omega) (by omega) fun j j1 j2 => ⟨own_off (by omega), fun hTj => ?_⟩
          have hne : T j ≠ [] := fun e => by rw [e] at hTj; simp at hTj
          obtain ⟨oj, hoj⟩ := at_lt tr (k := j) (by omega)
          have hd := inv.hi j (by omega) hne
          rcases (eff_touch tr hoj hTj).2 with q | q
          · omega
          · have : (id - base0) / stride = i := by
              unfold own at how
              rw [if_neg (by omega)] at how
              omega
            rw [this] at q
            exact hu (cl_far inv.cl q hd)
        · rw [eff.keep _ id (by rw [hT]; simp) hk]
      · rcases (hset c).1 c3 with q | q
        · subst q; exact absurd hT c2
        · exact inv.lo c c1 c2 q
    · obtain ⟨⟨ht, hrd⟩, _⟩ := chg_ok tr ho hT
      have hmi : m ≤ i := by
        rcases Nat.lt_or_ge i m with q | q
        · exact absurd (inv.hi i q hT) hu
        · exact q
      refine fin (i + 1) (fun id L hL => ?_) (fun c c1 c2 c3 => ?_) (fun c c1 c2 => ?_) (by omega)
      · rw [e1']
        have hnt : own base0 id ≤ i ∨ own base0 id = i + 1 ∨ i + 1 < own base0 id := by omega
        rcases hnt with q | q | q
        · have hid := own_lt q
          have h1 : E (HS s base0 m) id = (s (i + 1)).heap id := by rw [eff.heap]; exact eff.pt _ _ id (heap_ready tr inv ho hu hr ht hrd hid)
          rw [h1]
          unfold HS
          rw [show max (i + 1) (own base0 id) = i + 1 by omega]
        · have h0 : HS s base0 (i + 1) id = (s (i + 1)).heap id := by unfold HS; rw [show max (i + 1) (own base0 id) = i + 1 by omega]
          have h0' : HS s base0 m id = (s (i + 1)).heap id := by unfold HS; rw [show max m (own base0 id) = i + 1 by omega]
          rw [h0]
          by_cases hk : id ∈ ks
          · rw [eff.heap]; exact eff.new _ _ id hk
          · rw [eff.keep _ id (fun x => by have := own_le (eff_touch tr ho x).1; omega) hk, h0']
        · rw [eff.keep _ id (fun x => by have := own_le (eff_touch tr ho x).1; omega) (fun x => by have := eff.rng id x; have := own_in this.1 this.2; omega)]
          unfold HS
          rw [show max (i + 1) (own base0 id) = own base0 id by omega, show max m (own base0 id) = own base0 id by omega]
      · rcases (hset c).1 c3 with q | q
        · omega
        · have := inv.lo c c1 c2 q; omega
      · rcases Nat.lt_or_ge c i with q | q
        · exact (hset c).2 (.inr ((chg_side tr inv ho hu hr ht (by omega) c2 (by rw [hrd]; simp)).1 q))
        · exact (hset c).2 (.inl (by omega))

theorem inv_full {cp : CP} {orc : Orc} {ops : Array Oper} {base0 : Nat} {s : Nat → St} {T : Nat → List Nat} {Sf : Nat → Bool} (tr : Tr cp orc ops base0 s T Sf)   {w0 : World} {C0 : Ctx} {H0 : Nat → Option Blk} {listed : Array Bool} {m : Nat} {w : World} {C : Ctx} {a : Act} (inv : Inv cp ops base0 s T w0 C0 H0 listed m w C a) (h : ∀ j, j < ops.size → Did1 listed j) : RelB cp.P w0 C0 H0 w C a (s ops.size) (base0 + stride * ops.size) := by
  have hn := nt_const tr ops.size (Nat.le_refl _)
  refine relB_congr inv.rel (fun t => ?_) (fun id L hL => ?_) hn.1 hn.2 inv.rel.fresh inv.rel.nb
  · show _ = envS ops s (Did1 listed) t
    unfold envS
    by_cases q : ∃ j, Did1 listed j ∧ dstAt ops j = some t
    · rw [if_pos q]
    · rw [if_neg q]
      exact env_same tr (Nat.zero_le _) (Nat.le_refl _) fun j _ j2 j3 => q ⟨j, h j j2, j3⟩
  · show _ = HS s base0 m id
    have how : own base0 id ≤ ops.size := by
      rcases inv.fr id L hL with q | ⟨j, j0, _, j2, j3⟩
      · exact own_le (by omega)
      · rw [own_in j2 j3]; omega
    have hle := inv.le
    unfold HS
    refine heap_same tr (by omega) (Nat.le_refl _) fun j j1 j2 => ⟨own_off (by omega), fun hT => ?_⟩
    have hne : T j ≠ [] := fun e => by rw [e] at hT; simp at hT
    have := inv.lo j j2 hne (h j j2)
    omega
theorem full_of_nil {cp : CP} {orc : Orc} {ops : Array Oper} {base0 : Nat} {s : Nat → St} {T : Nat → List Nat} {Sf : Nat → Bool} (tr : Tr cp orc ops base0 s T Sf)   {w0 : World} {C0 : Ctx} {H0 : Nat → Option Blk} {listed : Array Bool} {m : Nat} {w : World} {C : Ctx} {a : Act} (inv : Inv cp ops base0 s T w0 C0 H0 listed m w C a) (h : Region.ready .any ops listed = []) : ∀ j, j < ops.size → Did1 listed j := by
  intro j
  induction j using Nat.strongRecOn with
  | ind j ih =>
    intro hj
    apply Classical.byContradiction
    intro hn
    obtain ⟨o, ho⟩ := at_lt tr hj
    have : j ∈ Region.ready .any ops listed := by
      refine mem_ready.2 ⟨?_, o, ho, fun e he hb => ?_⟩
      · unfold Did1 at hn
        have hsz := inv.sz
        simp [hsz, hj] at hn ⊢
        exact hn
      · have hlt := (drawB_at tr.d ho).1 e.on (by
          unfold edgesTo
          rw [List.mem_map]
          exact ⟨e, List.mem_filter.2 ⟨by simpa using he, hb⟩, rfl⟩)
        exact ih e.on hlt (by omega)
    rw [h] at this
    cases this

theorem any_ok {cp : CP} {orc : Orc} {ops : Array Oper} {base0 : Nat} {s : Nat → St} {T : Nat → List Nat} {Sf : Nat → Bool} (tr : Tr cp orc ops base0 s T Sf) {w0 : World} {C0 : Ctx} {H0 : Nat → Option Blk} (hG : GlobOk cp w0 C0) {Q : Exit → Act → World → Prop}
    (hQ : ∀ w C a, RelB cp.P w0 C0 H0 w C a (s ops.size) (base0 + stride * ops.size) → Q .normal a w) :
    ∀ (fuel : Nat) (listed : Array Bool) (m : Nat) (w : World) (C : Ctx) (a : Act), Inv cp ops base0 s T w0 C0 H0 listed m w C a → listed.toList.count false ≤ fuel → wpAny cp.P .any ops Q fuel listed a w
  | 0, listed, m, w, C, a, inv, hf => by
    have hall : ∀ j, j < ops.size → Did1 listed j := by
      intro j hj
      unfold Did1
      have hsz := inv.sz
      have h0 : listed.toList.count false = 0 := by omega
      have := List.count_eq_zero.1 h0
      have hjl : j < listed.size := by omega
      simp only [Array.getD, hjl, dif_pos]
      cases hv : listed[j] with
      | true => exact hv
      | false => exact absurd (by rw [← hv]; exact Array.getElem_mem_toList hjl) this
    refine ⟨?_, hQ w C a (inv_full tr inv hall)⟩
    rw [List.eq_nil_iff_forall_not_mem]
    intro j hj
    obtain ⟨h0, o, ho, _⟩ := mem_ready.1 hj
    have hlt := (Array.getElem?_eq_some_iff.1 ho).1
    have := hall j hlt
    unfold Did1 at this
    have hsz := inv.sz
    simp [hsz, hlt] at h0 this
    rw [h0] at this; cases this
  | fuel + 1, listed, m, w, C, a, inv, hf => by
    refine ⟨fun h => hQ w C a (inv_full tr inv (full_of_nil tr inv h)), fun i hi => ?_⟩
    refine inv_step tr hG inv hi fun m' w' C' a' inv' => any_ok tr hG hQ fuel _ m' w' C' a' inv' ?_
    obtain ⟨h0, o, ho, _⟩ := mem_ready.1 hi
    have hlt := (Array.getElem?_eq_some_iff.1 ho).1
    have hsz := inv.sz
    have hil : i < listed.size := by omega
    have hv : listed.toList[i]'(by simpa using hil) = false := by
      simp [hil] at h0
      simpa using h0
    have : (listed.setIfInBounds i true).toList = listed.toList.set i true := by simp
    rw [this, List.count_set (by simpa using hil)]
    rw [hv]
    show listed.toList.count false - 1 + 0 ≤ fuel
    omega

theorem draw_ok {cp : CP} {orc : Orc} (hm : cp.P.follows .mixedOrders = true) (hc : CallOk cp orc) : DrawOk cp orc := by
  intro id ops σ K r w0 C0 H0 w C a Q h hG hr hK
  unfold evReg at h
  simp only at h
  cases hd : drawB ops with
  | false => rw [hd] at h; simp at h
  | true =>
    rw [hd] at h
    simp only at h
    obtain ⟨s, T, Sf, h1, h2, h3⟩ := trace (base0 := σ.next) ops.toList 0 (cutH σ) (by simp) (Nat.zero_le _) h
    have tr : Tr cp orc ops σ.next s T Sf := ⟨hd, hc, fun k o => h2 k o (Nat.zero_le _), fun id hid => by
      rw [h1]
      unfold cutH
      simp only
      have : Nat.blt id σ.next = false := by
        cases e : Nat.blt id σ.next with
        | false => rfl
        | true => have : id < σ.next := Nat.le_of_ble_eq_true e; omega
      rw [this], by rw [h1]; exact hr.nb⟩
    refine wp_region_any hm (any_ok tr hG (fun w C a hrel => hK w C a _ _ hrel h3) ops.size _ 0 _ C a ⟨?_, fun id L hL => ?_, by simp, fun c c1 _ c3 => ?_, fun c c1 => by omega, Nat.zero_le _, fun j o i ho hj => ?_⟩ ?_)
    · have hlt : ∀ id L, C.φ id = some L → id < σ.next := fun id L hL => by
        rcases Nat.lt_or_ge id σ.next with q | q
        · exact q
        · rw [hr.fresh id q] at hL; cases hL
      refine relB_congr (relB_drawn hr _) (fun t => ?_) (fun id L hL => ?_) (by show (s 0).nt = _; rw [h1]; rfl) (by show (s 0).nr = _; rw [h1]; rfl) (fun id hid => hr.fresh id (by omega)) (by have := hr.nb; omega)
      · show envS ops s _ t = _
        unfold envS
        rw [if_neg (by
          rintro ⟨j, j1, j2⟩
          unfold Did1 at j1
          simp [Array.getD] at j1), h1]
        rfl
      · show HS s σ.next 0 id = _
        unfold HS own
        rw [if_pos (hlt id L hL), show max 0 0 = 0 from rfl, h1]
        unfold cutH
        have : Nat.blt id σ.next = true := Nat.ble_eq_true_of_le (hlt id L hL)
        simp only [this]
    · rcases Nat.lt_or_ge id σ.next with q | q
      · exact .inl q
      · rw [hr.fresh id q] at hL; cases hL
    · unfold Did1 at c3
      simp [Array.getD] at c3
    · unfold Did1 at hj
      simp [Array.getD] at hj
    · simp
end Go.Proofs.YtlbapjocadmaeaaDoor.EV
