/- Regions that draw their order, 3: who waits; the listed run. No conditions. -/
import Derived.Test.YtlbapjocadmaeaaDoorEVdraw2
namespace Go.Proofs.YtlbapjocadmaeaaDoor.EV
set_option linter.unusedVariables false
set_option linter.unusedSimpArgs false
open Go Go.RowKit

inductive Waits (ops : Array Oper) : Nat → Nat → Prop where
  | edge {j i : Nat} {o : Oper} (h : ops[j]? = some o) (e : i ∈ edgesTo o) : Waits ops j i
  | far {j k i : Nat} {o : Oper} (h : ops[j]? = some o) (e : k ∈ edgesTo o) (r : Waits ops k i) : Waits ops j i

theorem bit_one {j y : Nat} (h : Nat.testBit (1 <<< j) y = true) : y = j := by
  rw [Nat.one_shiftLeft, Nat.testBit_two_pow] at h
  simpa using Eq.symm (of_decide_eq_true h)
theorem mask_mem_ {y : Nat} : ∀ {l : List Nat} {m : Nat}, Nat.testBit (l.foldl (fun m j => m ||| (1 <<< j)) m) y = true → Nat.testBit m y = true ∨ y ∈ l
  | [], _, h => .inl h
  | x :: r, m, h => by
    rcases mask_mem_ (l := r) h with h | h
    · rw [Nat.testBit_or, Bool.or_eq_true] at h
      rcases h with h | h
      · exact .inl h
      · exact .inr (by rw [bit_one h]; simp)
    · exact .inr (by simp [h])
theorem mask_mem {l : List Nat} {y : Nat} (h : Nat.testBit (maskOf l) y = true) : y ∈ l := by
  rcases mask_mem_ (l := l) h with h | h
  · simp at h
  · exact h
theorem mem_step {prev : List Nat} {y : Nat} : ∀ {es : List Nat} {m : Nat}, Nat.testBit (es.foldl (fun m j => m ||| ((1 <<< j) ||| prev.getD j 0)) m) y = true → Nat.testBit m y = true ∨ ∃ j ∈ es, y = j ∨ Nat.testBit (prev.getD j 0) y = true
  | [], _, h => .inl h
  | x :: r, m, h => by
    rcases mem_step (es := r) h with h | ⟨j, h1, h2⟩
    · rw [Nat.testBit_or, Nat.testBit_or, Bool.or_eq_true, Bool.or_eq_true] at h
      rcases h with h | h | h
      · exact .inl h
      · exact .inr ⟨x, by simp, .inl (bit_one h)⟩
      · exact .inr ⟨x, by simp, .inr h⟩
    · exact .inr ⟨j, by simp [h1], h2⟩
theorem ancsFrom_ok {ops : Array Oper} : ∀ (rest : List Oper) (prev : List Nat), rest = ops.toList.drop prev.length → (∀ j i, Nat.testBit (prev.getD j 0) i = true → Waits ops j i) → ∀ j i, Nat.testBit ((ancsFrom prev rest).getD j 0) i = true → Waits ops j i
  | [], _, _, h, j, i, e => h j i e
  | o :: rest, prev, hr, h, j, i, e => by
    unfold ancsFrom at e
    have ho : ops[prev.length]? = some o := by
      have := congrArg (fun l => l[0]?) hr
      simp only [List.getElem?_cons_zero, List.getElem?_drop, Nat.add_zero] at this
      simpa using this.symm
    refine ancsFrom_ok rest _ ?_ (fun j i e => ?_) j i e
    · have := congrArg List.tail hr
      simpa [List.tail_drop] using this
    · rw [List.getD_eq_getElem?_getD, List.getElem?_append] at e
      by_cases q : j < prev.length
      · rw [if_pos q] at e
        exact h j i (by rw [List.getD_eq_getElem?_getD]; exact e)
      · rw [if_neg q] at e
        by_cases q2 : j = prev.length
        · subst q2
          simp only [Nat.sub_self, List.getElem?_cons_zero, Option.getD_some] at e
          rcases mem_step e with e | ⟨k, e1, e2⟩
          · simp at e
          · rcases e2 with rfl | e2
            · exact .edge ho e1
            · exact .far ho e1 (h k i e2)
        · rw [List.getElem?_eq_none (by simp; omega)] at e
          simp at e
theorem waits_of {ops : Array Oper} {j i : Nat} (h : waitsB (ancs ops) j i = true) : Waits ops j i :=
  ancsFrom_ok ops.toList [] rfl (fun j i e => by simp at e) j i h

theorem drawB_at {ops : Array Oper} (h : drawB ops = true) {k : Nat} {o : Oper} (ho : ops[k]? = some o) :
    (∀ j, j ∈ edgesTo o → j < k) ∧ ∀ i oi, i < k → ops[i]? = some oi → (i ∈ edgesTo o ∨ oi.apart ops o = true) ∧ dstNe oi o = true := by
  unfold drawB at h
  rw [List.all_eq_true] at h
  have hk := h k (by simpa using (Array.getElem?_eq_some_iff.1 ho).1)
  rw [ho] at hk
  unfold drawRow at hk
  simp only [Bool.and_eq_true, List.all_eq_true, List.mem_range] at hk
  refine ⟨fun j hj => Nat.le_of_ble_eq_true (hk.1 j hj), fun i oi hi hoi => ?_⟩
  have := hk.2 i hi
  rw [hoi] at this
  simp only [Bool.and_eq_true, Bool.or_eq_true] at this
  exact ⟨this.1.imp (fun q => mask_mem q) id, this.2⟩
theorem waits_lt {ops : Array Oper} (h : drawB ops = true) {j i : Nat} (w : Waits ops j i) : i < j := by
  induction w with
  | edge h1 h2 => exact (drawB_at h h1).1 _ h2
  | far h1 h2 _ ih => exact Nat.lt_trans ih ((drawB_at h h1).1 _ h2)

/-- The listed run. -/
structure Tr (cp : CP) (orc : Orc) (ops : Array Oper) (base0 : Nat) (s : Nat → St) (T : Nat → List Nat) (Sf : Nat → Bool) : Prop where
  d : drawB ops = true
  hc : CallOk cp orc
  step : ∀ k o, ops[k]? = some o → OpStep cp orc ops (ancs ops) base0 k o (s k) (s (k + 1)) (T k) (Sf k)
  zero : ∀ id, base0 ≤ id → (s 0).heap id = none
  nb : (s 0).nr ≤ base0

theorem at_lt {cp : CP} {orc : Orc} {ops : Array Oper} {base0 : Nat} {s : Nat → St} {T : Nat → List Nat} {Sf : Nat → Bool} (tr : Tr cp orc ops base0 s T Sf) {k : Nat} (h : k < ops.size) : ∃ o, ops[k]? = some o := ⟨_, Array.getElem?_eq_getElem h⟩
theorem tr_eff {cp : CP} {orc : Orc} {ops : Array Oper} {base0 : Nat} {s : Nat → St} {T : Nat → List Nat} {Sf : Nat → Bool} (tr : Tr cp orc ops base0 s T Sf) {k : Nat} {o : Oper} (ho : ops[k]? = some o) : ∃ E v ks, Eff cp ops (ancs ops) base0 k o (s k) (s (k + 1)) (T k) (Sf k) E v ks := by
  obtain ⟨E, v, ks, h, _⟩ := op_any tr.hc ho (tr.step k o ho)
  exact ⟨E, v, ks, h⟩
theorem eff_touch {cp : CP} {orc : Orc} {ops : Array Oper} {base0 : Nat} {s : Nat → St} {T : Nat → List Nat} {Sf : Nat → Bool} (tr : Tr cp orc ops base0 s T Sf) {k : Nat} {o : Oper} (ho : ops[k]? = some o) {id : Nat} (h : id ∈ T k) : id < base0 + stride * k ∧ (id < base0 ∨ Waits ops k ((id - base0) / stride)) := by
  obtain ⟨E, v, ks, e⟩ := tr_eff tr ho
  rcases e.chg with q | q
  · rw [q] at h; simp at h
  · unfold chgOk touchOk at q
    simp only [Bool.and_eq_true, List.all_eq_true, Bool.or_eq_true] at q
    rcases q.1.1.2 id h with q | q
    · have : id < base0 := Nat.le_of_ble_eq_true q
      exact ⟨by omega, .inl this⟩
    · have hw := waits_of q
      have := waits_lt tr.d hw
      refine ⟨?_, .inr hw⟩
      unfold stride at this ⊢
      omega
theorem chg_ok {cp : CP} {orc : Orc} {ops : Array Oper} {base0 : Nat} {s : Nat → St} {T : Nat → List Nat} {Sf : Nat → Bool} (tr : Tr cp orc ops base0 s T Sf) {k : Nat} {o : Oper} (ho : ops[k]? = some o) (h : T k ≠ []) : (tchB cp o = true ∧ readB o = false) ∧ ∀ j o', ops[j]? = some o' → j ≠ k → tchB cp o' = true → ¬ (Sf k = true ∧ readB o' = true) → Waits ops k j ∨ Waits ops j k := by
  obtain ⟨E, v, ks, e⟩ := tr_eff tr ho
  rcases e.chg with q | q
  · exact absurd q h
  · unfold chgOk at q
    simp only [Bool.and_eq_true, List.all_eq_true] at q
    refine ⟨⟨q.1.1.1, by simpa using q.1.2⟩, fun j o' hj hne ht hsr => ?_⟩
    have := q.2 j (by simpa using (Array.getElem?_eq_some_iff.1 hj).1)
    rw [hj, nbeq_ne hne] at this
    simp only [Bool.false_or, ht, Bool.not_true, Bool.or_eq_true, Bool.and_eq_true] at this
    rcases this with (q | q) | q
    · exact absurd q hsr
    · exact .inl (waits_of q)
    · exact .inr (waits_of q)

theorem none_hi {cp : CP} {orc : Orc} {ops : Array Oper} {base0 : Nat} {s : Nat → St} {T : Nat → List Nat} {Sf : Nat → Bool} (tr : Tr cp orc ops base0 s T Sf) : ∀ k, k ≤ ops.size → ∀ id, base0 + stride * k ≤ id → (s k).heap id = none
  | 0, _, id, h => tr.zero id (by omega)
  | k + 1, hk, id, h => by
    obtain ⟨o, ho⟩ := at_lt tr (k := k) (by omega)
    obtain ⟨E, v, ks, e⟩ := tr_eff tr ho
    have hb : base0 + stride * (k + 1) = base0 + stride * k + stride := by rw [Nat.mul_succ]; omega
    rw [e.heap, e.keep _ id (fun q => by have := (eff_touch tr ho q).1; omega) (fun q => by have := e.rng id q; omega)]
    exact none_hi tr k (by omega) id (by omega)
theorem heap_const {cp : CP} {orc : Orc} {ops : Array Oper} {base0 : Nat} {s : Nat → St} {T : Nat → List Nat} {Sf : Nat → Bool} (tr : Tr cp orc ops base0 s T Sf) {id k : Nat} : ∀ d, k + d ≤ ops.size → (∀ j, k ≤ j → j < k + d → (id < base0 + stride * j ∨ base0 + stride * j + stride ≤ id) ∧ id ∉ T j) → (s (k + d)).heap id = (s k).heap id
  | 0, _, _ => rfl
  | d + 1, hk, h => by
    obtain ⟨o, ho⟩ := at_lt tr (k := k + d) (by omega)
    obtain ⟨E, v, ks, e⟩ := tr_eff tr ho
    obtain ⟨h1, h2⟩ := h (k + d) (by omega) (by omega)
    rw [show k + (d + 1) = (k + d) + 1 by omega, e.heap, e.keep _ id h2 (fun q => by have := e.rng id q; omega)]
    exact heap_const tr d (by omega) fun j q1 q2 => h j q1 (by omega)
theorem heap_same {cp : CP} {orc : Orc} {ops : Array Oper} {base0 : Nat} {s : Nat → St} {T : Nat → List Nat} {Sf : Nat → Bool} (tr : Tr cp orc ops base0 s T Sf) {id k l : Nat} (hkl : k ≤ l) (hl : l ≤ ops.size) (h : ∀ j, k ≤ j → j < l → (id < base0 + stride * j ∨ base0 + stride * j + stride ≤ id) ∧ id ∉ T j) : (s l).heap id = (s k).heap id := by
  have := heap_const tr (k := k) (id := id) (l - k) (by omega) fun j q1 q2 => h j q1 (by omega)
  rwa [show k + (l - k) = l by omega] at this
theorem heap_soft {cp : CP} {orc : Orc} {ops : Array Oper} {base0 : Nat} {s : Nat → St} {T : Nat → List Nat} {Sf : Nat → Bool} (tr : Tr cp orc ops base0 s T Sf) {id k : Nat} : ∀ d, k + d ≤ ops.size → (∀ j, k ≤ j → j < k + d → (id < base0 + stride * j ∨ base0 + stride * j + stride ≤ id) ∧ (id ∈ T j → Sf j = true)) → Soft ((s k).heap id) ((s (k + d)).heap id)
  | 0, _, _ => .inl rfl
  | d + 1, hk, h => by
    obtain ⟨o, ho⟩ := at_lt tr (k := k + d) (by omega)
    obtain ⟨E, v, ks, e⟩ := tr_eff tr ho
    obtain ⟨h1, h2⟩ := h (k + d) (by omega) (by omega)
    refine (heap_soft tr d (by omega) fun j q1 q2 => h j q1 (by omega)).trans ?_
    have hks : id ∉ ks := fun q => by have := e.rng id q; omega
    rw [show k + (d + 1) = (k + d) + 1 by omega, e.heap]
    by_cases hT : id ∈ T (k + d)
    · exact e.soft (h2 hT) id hks
    · rw [e.keep _ id hT hks]; exact .inl rfl
theorem heap_softly {cp : CP} {orc : Orc} {ops : Array Oper} {base0 : Nat} {s : Nat → St} {T : Nat → List Nat} {Sf : Nat → Bool} (tr : Tr cp orc ops base0 s T Sf) {id k l : Nat} (hkl : k ≤ l) (hl : l ≤ ops.size) (h : ∀ j, k ≤ j → j < l → (id < base0 + stride * j ∨ base0 + stride * j + stride ≤ id) ∧ (id ∈ T j → Sf j = true)) : Soft ((s k).heap id) ((s l).heap id) := by
  have := heap_soft tr (k := k) (id := id) (l - k) (by omega) fun j q1 q2 => h j q1 (by omega)
  rwa [show k + (l - k) = l by omega] at this
theorem env_const {cp : CP} {orc : Orc} {ops : Array Oper} {base0 : Nat} {s : Nat → St} {T : Nat → List Nat} {Sf : Nat → Bool} (tr : Tr cp orc ops base0 s T Sf) {t k : Nat} : ∀ d, k + d ≤ ops.size → (∀ j, k ≤ j → j < k + d → dstAt ops j ≠ some t) → (s (k + d)).env t = (s k).env t
  | 0, _, _ => rfl
  | d + 1, hk, h => by
    obtain ⟨o, ho⟩ := at_lt tr (k := k + d) (by omega)
    obtain ⟨E, v, ks, e⟩ := tr_eff tr ho
    have h1 := h (k + d) (by omega) (by omega)
    unfold dstAt at h1
    rw [ho] at h1
    rw [show k + (d + 1) = (k + d) + 1 by omega, e.env]
    have : envOf o (s (k + d)).env v t = (s (k + d)).env t := by
      unfold envOf
      cases hd : o.dst with
      | none => rfl
      | some x => exact upd_other _ _ fun q => h1 (by simp [hd, q])
    rw [this]
    exact env_const tr d (by omega) fun j q1 q2 => h j q1 (by omega)
theorem env_same {cp : CP} {orc : Orc} {ops : Array Oper} {base0 : Nat} {s : Nat → St} {T : Nat → List Nat} {Sf : Nat → Bool} (tr : Tr cp orc ops base0 s T Sf) {t k l : Nat} (hkl : k ≤ l) (hl : l ≤ ops.size) (h : ∀ j, k ≤ j → j < l → dstAt ops j ≠ some t) : (s l).env t = (s k).env t := by
  have := env_const tr (k := k) (t := t) (l - k) (by omega) fun j q1 q2 => h j q1 (by omega)
  rwa [show k + (l - k) = l by omega] at this
theorem nt_const {cp : CP} {orc : Orc} {ops : Array Oper} {base0 : Nat} {s : Nat → St} {T : Nat → List Nat} {Sf : Nat → Bool} (tr : Tr cp orc ops base0 s T Sf) : ∀ k, k ≤ ops.size → (s k).nt = (s 0).nt ∧ (s k).nr = (s 0).nr
  | 0, _ => ⟨rfl, rfl⟩
  | k + 1, hk => by
    obtain ⟨o, ho⟩ := at_lt tr (k := k) (by omega)
    obtain ⟨E, v, ks, e⟩ := tr_eff tr ho
    rw [e.nt, e.nr]
    exact nt_const tr k (by omega)
/-- Each result has a place of its own. -/
theorem dst_one {cp : CP} {orc : Orc} {ops : Array Oper} {base0 : Nat} {s : Nat → St} {T : Nat → List Nat} {Sf : Nat → Bool} (tr : Tr cp orc ops base0 s T Sf) {i j t : Nat} (h1 : dstAt ops i = some t) (h2 : dstAt ops j = some t) : i = j := by
  have lt : ∀ {i j : Nat}, i < j → dstAt ops i = some t → dstAt ops j = some t → False := by
    intro i j hij h1 h2
    unfold dstAt at h1 h2
    cases hi : ops[i]? with
    | none => rw [hi] at h1; simp at h1
    | some oi =>
      cases hj : ops[j]? with
      | none => rw [hj] at h2; simp at h2
      | some oj =>
        rw [hi] at h1; rw [hj] at h2
        simp only [Option.bind_some] at h1 h2
        have := ((drawB_at tr.d hj).2 i oi hij hi).2
        unfold dstNe at this
        rw [h1, h2] at this
        simp at this
  rcases Nat.lt_trichotomy i j with q | q | q
  · exact (lt q h1 h2).elim
  · exact q
  · exact (lt q h2 h1).elim
end Go.Proofs.YtlbapjocadmaeaaDoor.EV
