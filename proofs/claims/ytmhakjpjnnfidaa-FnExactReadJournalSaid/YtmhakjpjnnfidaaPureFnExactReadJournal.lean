/- FnExactReadJournal, the pure part: both read the same records of every text; what is made is no other's memory. No conditions. -/
import Derived.Test.YtmhakjpjnnfidaaPFnExactReadJournalx6
import Derived.Test.YtmhakjpjnnfidaaPLbase
namespace Go.Proofs.Ytmhakjpjnnfidaa.Pure
open Go Go.RowKit Go.Proofs.Ytmhakjpjnnfidaa.PFnExactReadJournal Go.Proofs.YtmhakjpjnnfidaaW.PrintWords Go.Proofs.YtmhakjpjnnfidaaW.PrintLast Go.Proofs.YtmhakjpjnnfidaaW.PrintMore Go.Proofs.Ytmhakjpjnnfidaa.PL
set_option linter.unusedVariables false
set_option linter.unusedSimpArgs false

theorem eqStringS_l (x0 x1 : List ByteArray) (hb : x0.length ≤ 281474976710656) (hl : x0.length = x1.length) (n : Nat) : ∀ (i : Nat), i + n = x0.length →
    Ev (fun k => laws_eqStringS.l0 k x0 x1 (i : Int)) (decide (x0.drop i = x1.drop i)) := by
  induction n with
  | zero =>
    intro i hi
    refine Ev.step (fun k => by rw [laws_eqStringS.l0, if_neg (by omega)]) (Ev.some_ ?_)
    rw [List.drop_eq_nil_of_le (by omega), List.drop_eq_nil_of_le (by omega)]
    rfl
  | succ n ih =>
    intro i hi
    rw [drop_cons x0 i (by omega), drop_cons x1 i (by omega)]
    by_cases hc : x0[i]'(by omega) = x1[i]'(by omega)
    · refine Ev.step (fun k => by rw [laws_eqStringS.l0, if_pos (by omega), if_pos (by omega), if_pos (by omega), if_pos (by rw [rdOf_get _ x0 i (by omega), rdOf_get _ x1 i (by omega), hc])]) ?_
      rw [wNat (by omega)]
      exact (ih (i + 1) (by omega)).eq (dec_cons hc _ _)
    · refine Ev.step (fun k => by rw [laws_eqStringS.l0, if_pos (by omega), if_pos (by omega), if_pos (by omega), if_neg (by rw [rdOf_get _ x0 i (by omega), rdOf_get _ x1 i (by omega), ba_eq]; exact hc)]) (Ev.some_ (dec_ne hc _ _))
theorem eqStringS_ev (x0 x1 : List ByteArray) (hb : x0.length ≤ 281474976710656) : Ev (fun k => laws_eqStringS.f k x0 x1) (decide (x0 = x1)) := by
  unfold laws_eqStringS.f
  by_cases hl : x0.length = x1.length
  · refine Ev.pos (by omega) ?_
    exact eqStringS_l x0 x1 hb hl x0.length 0 (by omega)
  · refine Ev.neg (by omega) (Ev.some_ ?_)
    rw [eq_comm, decide_eq_false_iff_not]
    intro h
    rw [h] at hl
    exact hl rfl
theorem eqStringS_same (x0 : List ByteArray) (hb : x0.length ≤ 281474976710656) : Ev (fun k => laws_eqStringS.f k x0 x0) true := (eqStringS_ev x0 x0 hb).eq (by simp)

theorem markText_l (j : Nat) : ∀ (n : Nat) (x : ByteArray), n < 10 ^ j → n ≤ 9223372036854775807 → x.size + j ≤ 1000 → ∃ s, Ev (fun k => laws_markText.l0 k (n : Int) x) s := by
  induction j with
  | zero =>
    intro n x h hn hs
    obtain rfl : n = 0 := by simpa using h
    exact ⟨_, Ev.step (fun k => by rw [laws_markText.l0, if_neg (by omega), if_pos (by omega)]) (Ev.now _)⟩
  | succ j ih =>
    intro n x h hn hs
    by_cases h0 : n = 0
    · subst h0
      exact ⟨_, Ev.step (fun k => by rw [laws_markText.l0, if_neg (by omega), if_pos (by omega)]) (Ev.now _)⟩
    · have e2 : wrap64 (Int.tdiv (n : Int) 10) = ((n / 10 : Nat) : Int) := by rw [tdiv_pos (by omega), w64 (by omega)]; omega
      have hsz : ∀ y : Int, (strOfNums [y]).size = 1 := fun y => by rw [strOfNums_size]; rfl
      obtain ⟨s, hs'⟩ := ih (n / 10) (strOfNums [wrap64 (48 + Int.tmod (n : Int) 10) % 256] ++ x) (by rw [Nat.pow_succ] at h; omega) (by omega) (by rw [size_append, hsz]; omega)
      exact ⟨s, Ev.step (fun k => by rw [laws_markText.l0, if_pos (by omega), Option.bind_some, if_pos (by rw [hsz]; omega), e2]) hs'⟩
theorem markText_ev (m : Int) (hm : m ≤ 281474976710656) : ∃ s, Ev (fun k => laws_markText.f k m) s := by
  unfold laws_markText.f
  by_cases h : m ≤ 0
  · exact ⟨_, Ev.pos h (Ev.now _)⟩
  · obtain ⟨n, rfl⟩ := Int.eq_ofNat_of_zero_le (show 0 ≤ m by omega)
    obtain ⟨s, hs⟩ := markText_l 15 n (⟨#[]⟩ : ByteArray) (by omega) (by omega) (by show 0 + 15 ≤ 1000; omega)
    exact ⟨s, Ev.neg h hs⟩

theorem markStringS_l (m : Int) (hm : 0 ≤ m) (n : Nat) : ∀ (i : Nat) (x0 : List ByteArray), i + n = x0.length → m + x0.length ≤ 281474976710656 →
    (∀ j : Nat, j < i → Ev (fun k => laws_markText.f k (m + j)) (rdOf ByteArray.empty x0 j)) →
    ∃ x' : List ByteArray, Ev (fun k => laws_markStringS.l0 k x0 (m + i) (i : Int)) (m + x0.length, x') ∧ x'.length = x0.length ∧ ∀ j : Nat, j < x0.length → Ev (fun k => laws_markText.f k (m + j)) (rdOf ByteArray.empty x' j) := by
  induction n with
  | zero =>
    intro i x0 hi hb h
    refine ⟨x0, Ev.step (fun k => by rw [laws_markStringS.l0, if_neg (by omega)]) (Ev.some_ (by rw [show i = x0.length by omega])), rfl, fun j hj => h j (by omega)⟩
  | succ n ih =>
    intro i x0 hi hb h
    obtain ⟨s, hs⟩ := markText_ev (m + i) (by omega)
    obtain ⟨x', he, hl, hx⟩ := ih (i + 1) (x0.set i s) (by simp; omega) (by simp; omega) (by
      intro j hj
      by_cases hji : j = i
      · subst hji
        rw [rdOf_get _ _ _ (by simp; omega), List.getElem_set_self]
        exact hs
      · rw [rdOf_get _ _ _ (by simp; omega), List.getElem_set_ne (by omega), ← rdOf_get ByteArray.empty x0 j (by omega)]
        exact h j (by omega))
    refine ⟨x', ?_, by simpa using hl, by simpa using hx⟩
    refine Ev.step (fun k => by rw [laws_markStringS.l0, if_pos (by omega)]) ?_
    refine Ev.bind hs (Ev.pos (by omega) ?_)
    rw [wNat (by omega), w64 (by omega), Int.toNat_natCast]
    rw [List.length_set] at he
    have e : m + (i : Int) + 1 = m + ((i + 1 : Nat) : Int) := by omega
    rw [e]
    exact he
theorem heldStringS_l (m : Int) (hm : 0 ≤ m) (x : List ByteArray) (hb : m + x.length ≤ 281474976710656) (h : ∀ j : Nat, j < x.length → Ev (fun k => laws_markText.f k (m + j)) (rdOf ByteArray.empty x j)) (n : Nat) : ∀ (i : Nat), i + n = x.length →
    Ev (fun k => laws_heldStringS.l0 k x (m + i) (i : Int)) (m + x.length) := by
  induction n with
  | zero =>
    intro i hi
    exact Ev.step (fun k => by rw [laws_heldStringS.l0, if_neg (by omega)]) (Ev.some_ (by rw [show i = x.length by omega]))
  | succ n ih =>
    intro i hi
    refine Ev.step (fun k => by rw [laws_heldStringS.l0, if_pos (by omega), if_pos (by omega)]) ?_
    refine Ev.bind (h i (by omega)) (Ev.pos rfl ?_)
    rw [wNat (by omega), w64 (by omega)]
    have e : m + (i : Int) + 1 = m + ((i + 1 : Nat) : Int) := by omega
    rw [e]
    exact ih (i + 1) (by omega)
theorem markStringS_ev (x0 : List ByteArray) (m : Int) (hm : 0 ≤ m) (hb : m + x0.length ≤ 281474976710656) :
    ∃ (x' : List ByteArray) (q : Int), Ev (fun k => laws_markStringS.f k x0 m) (q, x') ∧ Ev (fun k => laws_heldStringS.f k x' m) q ∧ m ≤ q ∧ q ≤ m + x0.length := by
  obtain ⟨x', he, hl, hx⟩ := markStringS_l m hm x0.length 0 x0 (by omega) hb (fun j hj => by omega)
  refine ⟨x', m + x0.length, ?_, ?_, by omega, by omega⟩
  · simpa [laws_markStringS.f] using he
  · have := heldStringS_l m hm x' (by omega) (by rw [hl]; exact hx) x'.length 0 (by omega)
    rw [hl] at this
    simpa [laws_heldStringS.f] using this

def varNums (n : Nat) : List Int := if h : n ≤ 127 then [(n : Int)] else ((n % 128 + 128 : Nat) : Int) :: varNums (n / 128)
theorem varNums_small {n : Nat} (h : n ≤ 127) : varNums n = [(n : Int)] := by rw [varNums]; simp [h]
theorem varNums_big {n : Nat} (h : 127 < n) : varNums n = ((n % 128 + 128 : Nat) : Int) :: varNums (n / 128) := by rw [varNums]; simp [show ¬ n ≤ 127 by omega]
theorem varNums_range (n : Nat) : ∀ x ∈ varNums n, 0 ≤ x ∧ x < 256 := by
  induction n using Nat.strongRecOn with
  | _ n ih =>
    intro x hx
    by_cases h : n ≤ 127
    · rw [varNums_small h] at hx
      rw [List.mem_singleton.1 hx]; omega
    · rw [varNums_big (by omega)] at hx
      rcases List.mem_cons.1 hx with rfl | hx
      · omega
      · exact ih (n / 128) (by omega) x hx
theorem varNums_length (j : Nat) : ∀ n : Nat, n < 128 ^ (j + 1) → (varNums n).length ≤ j + 1 := by
  induction j with
  | zero =>
    intro n h
    rw [varNums_small (by omega)]; simp
  | succ j ih =>
    intro n h
    by_cases h0 : n ≤ 127
    · rw [varNums_small h0]; simp
    · rw [varNums_big (by omega), List.length_cons]
      have := ih (n / 128) (by rw [Nat.pow_succ] at h; omega)
      omega
def varText (n : Int) : ByteArray := strOfNums (varNums n.toNat)
theorem varText_size {n : Int} (h : n ≤ 34359738367) : (varText n).size ≤ 5 := by
  rw [varText, strOfNums_size]
  exact varNums_length 4 _ (by omega)
theorem varText_size9 {n : Int} (h : n ≤ 9223372036854775807) : (varText n).size ≤ 9 := by
  rw [varText, strOfNums_size]
  exact varNums_length 8 _ (by omega)

def goV : List Int → Nat → Int → Int → Option (Int × Nat)
  | [], _, _, _ => none
  | b :: r, i, n, u => if 5 ≤ i then none else if 128 ≤ b then goV r (i + 1) (n + b % 128 * u) (u * 128) else if (b = 0 ∧ 0 < i) ∨ n + b % 128 * u > 1000000000 then none else some (n + b % 128 * u, i + 1)
theorem goV_nil (i : Nat) (n u : Int) : goV [] i n u = none := by rw [goV]
theorem goV_cons (b : Int) (r : List Int) (i : Nat) (n u : Int) : goV (b :: r) i n u = if 5 ≤ i then none else if 128 ≤ b then goV r (i + 1) (n + b % 128 * u) (u * 128) else if (b = 0 ∧ 0 < i) ∨ n + b % 128 * u > 1000000000 then none else some (n + b % 128 * u, i + 1) := by rw [goV]
theorem goV_five (l : List Int) (i : Nat) (n u : Int) (h : 5 ≤ i) : goV l i n u = none := by
  cases l with
  | nil => exact goV_nil _ _ _
  | cons b r => rw [goV_cons, if_pos h]
def resV (at_ : Int) : Option (Int × Nat) → Int × Int × Bool
  | none => (0, 0, false)
  | some (n, c) => (n, at_ + c, true)
def readVar (t : ByteArray) (at_ : Int) : Int × Int × Bool := if 0 ≤ at_ ∧ at_ ≤ t.size then resV at_ (goV ((bytesOf t).drop at_.toNat) 0 0 1) else (0, 0, false)
/-- What bytes of a number tell. -/
def valV : List Int → Int
  | [] => 0
  | b :: r => b % 128 + 128 * valV r
theorem valV_nonneg (l : List Int) : 0 ≤ valV l := by
  induction l with
  | nil => exact Int.le_refl 0
  | cons b r ih => rw [valV]; omega
theorem valV_zero (c : List Int) (b : Int) (hb : 0 ≤ b ∧ b < 128) : valV (c ++ [b]) = 0 → b = 0 := by
  induction c with
  | nil => intro h; simp only [List.nil_append, valV] at h; omega
  | cons y c ih =>
    intro h
    rw [List.cons_append, valV] at h
    have h5 := valV_nonneg (c ++ [b])
    exact ih (by omega)
/-- The bytes are the number's own form just when none is needless. -/
theorem varNums_val (c : List Int) (b : Int) (hc : ∀ x ∈ c, 128 ≤ x ∧ x < 256) (hb : 0 ≤ b ∧ b < 128) : varNums (valV (c ++ [b])).toNat = c ++ [b] ↔ (c = [] ∨ b ≠ 0) := by
  induction c with
  | nil =>
    simp only [List.nil_append, true_or, iff_true]
    have : valV [b] = b := by rw [valV, valV]; omega
    rw [this, varNums_small (by omega)]
    rw [Int.toNat_of_nonneg hb.1]
  | cons x c ih =>
    have hx := hc x List.mem_cons_self
    have ih := ih (fun y hy => hc y (List.mem_cons_of_mem _ hy))
    have hv := valV_nonneg (c ++ [b])
    simp only [List.cons_append, reduceCtorEq, false_or]
    rw [valV]
    by_cases h0 : valV (c ++ [b]) = 0
    · rw [h0]
      have hb0 : b = 0 := valV_zero c b hb h0
      rw [varNums_small (by omega)]
      constructor
      · intro h
        have := congrArg List.length h
        simp at this
      · intro h
        exact absurd hb0 h
    · rw [varNums_big (by omega)]
      have e1 : (((x % 128 + 128 * valV (c ++ [b])).toNat % 128 + 128 : Nat) : Int) = x := by omega
      have e2 : (x % 128 + 128 * valV (c ++ [b])).toNat / 128 = (valV (c ++ [b])).toNat := by omega
      rw [e1, e2]
      constructor
      · intro h
        injection h with _ h
        rcases ih.1 h with rfl | h
        · intro hb0
          rw [hb0] at h0
          exact h0 (by rw [List.nil_append, valV, valV]; decide)
        · exact h
      · intro h
        rw [ih.2 (Or.inr h)]
theorem valV_append (c : List Int) (b : Int) : valV (c ++ [b]) = valV c + b % 128 * 128 ^ c.length := by
  induction c with
  | nil => rw [List.nil_append, valV, valV]; simp [valV]
  | cons x c ih =>
    rw [List.cons_append, valV, ih, valV, List.length_cons, Int.pow_succ]
    rw [Int.mul_add, Int.mul_comm (128 ^ c.length) 128, ← Int.mul_assoc, ← Int.mul_assoc, Int.mul_comm 128 (b % 128)]
    omega

theorem goV_spec (l : List Int) (hl : ∀ x ∈ l, 0 ≤ x ∧ x < 256) : ∀ (p : List Int) (v : Int) (c : Nat), goV l p.length (valV p) (128 ^ p.length) = some (v, c) →
    ∃ (q : List Int) (b : Int) (r : List Int), l = q ++ b :: r ∧ (∀ x ∈ q, 128 ≤ x ∧ x < 256) ∧ (0 ≤ b ∧ b < 128) ∧ v = valV (p ++ q ++ [b]) ∧ c = p.length + q.length + 1 ∧ (p ++ q = [] ∨ b ≠ 0) ∧ v ≤ 1000000000 ∧ c ≤ 5 := by
  induction l with
  | nil => intro p v c h; rw [goV_nil] at h; exact absurd h (by simp)
  | cons b r ih =>
    intro p v c h
    have hb := hl b List.mem_cons_self
    rw [goV_cons] at h
    by_cases h5 : 5 ≤ p.length
    · rw [if_pos h5] at h; exact absurd h (by simp)
    rw [if_neg h5] at h
    by_cases h128 : 128 ≤ b
    · rw [if_pos h128] at h
      have e : goV r (p ++ [b]).length (valV (p ++ [b])) (128 ^ (p ++ [b]).length) = some (v, c) := by
        rw [valV_append, List.length_append, List.length_singleton, Int.pow_succ]
        exact h
      obtain ⟨q, b', r', h1, h2, h3, h4, h5', h6, h7, h8⟩ := ih (fun x hx => hl x (List.mem_cons_of_mem _ hx)) _ _ _ e
      refine ⟨b :: q, b', r', by rw [h1]; rfl, ?_, h3, ?_, ?_, ?_, h7, h8⟩
      · intro x hx
        rcases List.mem_cons.1 hx with rfl | hx
        · omega
        · exact h2 x hx
      · rw [h4]; simp
      · rw [h5', List.length_append, List.length_singleton, List.length_cons]; omega
      · rcases h6 with h6 | h6
        · simp at h6
        · exact Or.inr h6
    · rw [if_neg h128] at h
      split at h
      · exact absurd h (by simp)
      · rename_i hn
        simp only [Option.some.injEq, Prod.mk.injEq] at h
        obtain ⟨rfl, rfl⟩ := h
        refine ⟨[], b, r, rfl, by simp, by omega, ?_, by simp, ?_, ?_, by omega⟩
        · rw [List.append_nil, valV_append]
        · by_cases hb0 : b = 0
          · refine Or.inl ?_
            rw [List.append_nil]
            exact List.eq_nil_of_length_eq_zero (by
              rcases Nat.eq_zero_or_pos p.length with h | h
              · exact h
              · exact absurd (Or.inl ⟨hb0, h⟩) hn)
          · exact Or.inr hb0
        · have : ¬ (valV p + b % 128 * 128 ^ p.length > 1000000000) := fun h => hn (Or.inr h)
          omega
theorem readVar_spec {t : ByteArray} {a n next : Int} (h : readVar t a = (n, next, true)) :
    0 ≤ a ∧ a < next ∧ next ≤ t.size ∧ 0 ≤ n ∧ n ≤ 1000000000 ∧ next ≤ a + 5 ∧ t.extract a.toNat next.toNat = varText n := by
  have hl := bytesOf_length t
  unfold readVar at h
  by_cases ha : 0 ≤ a ∧ a ≤ t.size
  · rw [if_pos ha] at h
    cases hg : goV ((bytesOf t).drop a.toNat) 0 0 1 with
    | none => rw [hg] at h; simp [resV] at h
    | some x =>
      obtain ⟨v, c⟩ := x
      rw [hg] at h
      simp only [resV, Prod.mk.injEq, and_true] at h
      obtain ⟨rfl, rfl⟩ := h
      obtain ⟨q, b, r, h1, h2, h3, h4, h5, h6, h7, h8⟩ := goV_spec ((bytesOf t).drop a.toNat) (fun x hx => bytesOf_range (List.mem_of_mem_drop hx)) [] v c (by simpa [valV] using hg)
      simp only [List.nil_append, List.length_nil] at h4 h5 h6
      have hlen := congrArg List.length h1
      rw [List.length_drop, List.length_append, List.length_cons] at hlen
      have hv := valV_nonneg (q ++ [b])
      refine ⟨ha.1, by omega, by omega, by omega, h7, by omega, ?_⟩
      rw [← bytesOf_eq, bytesOf_extract, varText, bytesOf_strOf (varNums_range _), h4, (varNums_val q b h2 h3).2 h6]
      rw [show (a + (c : Int)).toNat - a.toNat = q.length + 1 by omega, h1]
      rw [show q ++ b :: r = (q ++ [b]) ++ r by simp]
      exact List.take_left' (by simp)
  · rw [if_neg ha] at h
    simp at h
theorem readVar_false {t : ByteArray} {a : Int} (h : (readVar t a).2.2 = false) : readVar t a = (0, 0, false) := by
  unfold readVar at h ⊢
  split at h
  · rename_i ha
    rw [if_pos ha]
    cases hg : goV ((bytesOf t).drop a.toNat) 0 0 1 with
    | none => rfl
    | some x => rw [hg] at h; simp [resV] at h
  · rename_i ha
    rw [if_neg ha]

def readShort (t : ByteArray) (a : Int) : ByteArray × Int × Bool :=
  if (readVar t a).2.2 = true ∧ (readVar t a).1 ≤ 20000 ∧ (readVar t a).2.1 + (readVar t a).1 ≤ t.size then
    (t.extract (readVar t a).2.1.toNat ((readVar t a).2.1 + (readVar t a).1).toNat, (readVar t a).2.1 + (readVar t a).1, true) else ((⟨#[]⟩ : ByteArray), 0, false)
theorem readShort_spec {t s : ByteArray} {a next : Int} (h : readShort t a = (s, next, true)) :
    0 ≤ a ∧ a < next ∧ next ≤ t.size ∧ s.size ≤ 20000 ∧ t.extract a.toNat next.toNat = varText s.size ++ s ∧ next ≤ a + 5 + s.size := by
  have hl := bytesOf_length t
  unfold readShort at h
  split at h
  · rename_i hc
    obtain ⟨h1, h2, h3⟩ := hc
    have hv : readVar t a = ((readVar t a).1, (readVar t a).2.1, true) := by rw [← h1]
    obtain ⟨g1, g2, g3, g4, g5, g6, g7⟩ := readVar_spec hv
    simp only [Prod.mk.injEq, and_true] at h
    obtain ⟨rfl, rfl⟩ := h
    generalize (readVar t a).1 = n at *
    generalize (readVar t a).2.1 = m at *
    have hs : (t.extract m.toNat (m + n).toNat).size = n.toNat := by
      rw [size_eq, bytesOf_extract, List.length_take, List.length_drop]
      omega
    refine ⟨g1, by omega, h3, by omega, ?_, by omega⟩
    rw [hs, Int.toNat_of_nonneg g4, ← g7, ← bytesOf_eq, bytesOf_append, bytesOf_extract, bytesOf_extract, bytesOf_extract]
    rw [show (m + n).toNat - a.toNat = (m.toNat - a.toNat) + ((m + n).toNat - m.toNat) by omega, List.take_add, List.drop_drop]
    rw [show a.toNat + (m.toNat - a.toNat) = m.toNat by omega]
  · simp at h
theorem readShort_false {t : ByteArray} {a : Int} (h : (readShort t a).2.2 = false) : readShort t a = ((⟨#[]⟩ : ByteArray), 0, false) := by
  unfold readShort at h ⊢
  split at h
  · simp at h
  · rename_i hc
    rw [if_neg hc]

theorem u32_range (n : Int) : 0 ≤ IntKind.u32.wrap n ∧ IntKind.u32.wrap n < 4294967296 := by rw [IntKind.wrap_u32]; omega
theorem xor32_range (x y : Int) : 0 ≤ Go.bits .xor .u32 x y ∧ Go.bits .xor .u32 x y < 4294967296 := u32_range _
def half (x : Int) : Int := if x % 2 = 1 then Go.bits .xor .u32 (x / 2) 3558460437 else x / 2
def halves (n : Nat) (x : Int) : Int := Nat.rec (motive := fun _ => Int → Int) (fun x => x) (fun _ f x => f (half x)) n x
theorem halves_zero (x : Int) : halves 0 x = x := rfl
theorem halves_succ (n : Nat) (x : Int) : halves (n + 1) x = halves n (half x) := rfl
def sumByte (s b : Int) : Int := (fun n => halves n (Go.bits .xor .u32 s b)) 8
def sumMore (s : Int) (l : List Int) : Int := l.foldl sumByte s
theorem sumMore_nil (s : Int) : sumMore s [] = s := by rw [sumMore, List.foldl_nil]
theorem sumMore_cons (s b : Int) (l : List Int) : sumMore s (b :: l) = sumMore (sumByte s b) l := by rw [sumMore, List.foldl_cons, sumMore]
theorem half_range {x : Int} (h : 0 ≤ x ∧ x < 4294967296) : 0 ≤ half x ∧ half x < 4294967296 := by
  unfold half
  split
  · exact xor32_range _ _
  · omega
theorem halves_range (n : Nat) : ∀ {x : Int}, 0 ≤ x ∧ x < 4294967296 → 0 ≤ halves n x ∧ halves n x < 4294967296 := by
  induction n with
  | zero => intro x h; exact h
  | succ n ih => intro x h; exact ih (half_range h)
theorem sumMore_range (l : List Int) : ∀ {s : Int}, 0 ≤ s ∧ s < 4294967296 → 0 ≤ sumMore s l ∧ sumMore s l < 4294967296 := by
  induction l with
  | nil => intro s h; exact h
  | cons b l ih => intro s h; rw [sumMore_cons]; exact ih (halves_range 8 (xor32_range _ _))
def sumOf (t : ByteArray) : Int := sumMore 4294967295 (bytesOf t)
theorem sumOf_range (t : ByteArray) : 0 ≤ sumOf t ∧ sumOf t < 4294967296 := sumMore_range _ (by decide)
def four (x : Int) : ByteArray := strOfNums [(x / 16777216) % 256, (x / 65536) % 256, (x / 256) % 256, x % 256]
theorem four_size (x : Int) : (four x).size = 4 := by rw [four, strOfNums_size]; rfl
def sealed (t : ByteArray) : ByteArray × Bool := if t.size > 20000 then ((⟨#[]⟩ : ByteArray), false) else (t ++ four (sumOf t), true)

def recordText (t : ByteArray) : ByteArray × Bool := if 1 ≤ t.size ∧ t.size ≤ 700 then sealed (varText (t.size : Int) ++ t) else ((⟨#[]⟩ : ByteArray), false)
theorem sealed_size (t : ByteArray) : (sealed t).1.size ≤ 20004 := by
  unfold sealed
  split
  · show 0 ≤ 20004; omega
  · show (t ++ four (sumOf t)).size ≤ 20004
    rw [size_append, four_size]; omega
theorem recordText_size (t : ByteArray) : (recordText t).1.size ≤ 20004 := by
  unfold recordText
  split
  · exact sealed_size _
  · show 0 ≤ 20004; omega

theorem extract_split {j : ByteArray} {a b c : Nat} (h1 : a ≤ b) (h2 : b ≤ c) (h3 : c ≤ j.size) : j.extract a c = j.extract a b ++ j.extract b c := by
  rw [← bytesOf_eq, bytesOf_append, bytesOf_extract, bytesOf_extract, bytesOf_extract, show c - a = (b - a) + (c - b) by omega, List.take_add, List.drop_drop, show a + (b - a) = b by omega]
theorem extract_size {j : ByteArray} {a b : Nat} (h2 : b ≤ j.size) : (j.extract a b).size = b - a := by
  rw [size_eq, bytesOf_extract, List.length_take, List.length_drop, bytesOf_length]
  omega
theorem extract_extract {j : ByteArray} {a b c d : Nat} (h : a + d ≤ b) : (j.extract a b).extract c d = j.extract (a + c) (a + d) := by
  rw [← bytesOf_eq, bytesOf_extract, bytesOf_extract, bytesOf_extract, List.drop_take, List.take_take, List.drop_drop]
  congr 1
  omega
def recAt (j : ByteArray) (a : Int) : ByteArray × Int × Bool :=
  if (readShort j a).2.2 = true ∧ 1 ≤ (readShort j a).1.size ∧ (readShort j a).1.size ≤ 700 ∧ (readShort j a).2.1 + 4 ≤ j.size ∧
      j.extract (readShort j a).2.1.toNat ((readShort j a).2.1 + 4).toNat = four (sumOf (j.extract a.toNat (readShort j a).2.1.toNat)) then
    ((readShort j a).1, (readShort j a).2.1 + 4, true) else ((⟨#[]⟩ : ByteArray), 0, false)
theorem recAt_spec {j s : ByteArray} {a next : Int} (h : recAt j a = (s, next, true)) : 0 ≤ a ∧ a + 5 < next ∧ next ≤ j.size ∧ 1 ≤ s.size ∧ s.size ≤ 700 := by
  unfold recAt at h
  split at h
  · rename_i hc
    obtain ⟨h1, h2, h3, h4, h5⟩ := hc
    have hv : readShort j a = ((readShort j a).1, (readShort j a).2.1, true) := by rw [← h1]
    obtain ⟨g1, g2, g3, g4, g5, g6⟩ := readShort_spec hv
    simp only [Prod.mk.injEq, and_true] at h
    obtain ⟨rfl, rfl⟩ := h
    have hs := congrArg ByteArray.size g5
    rw [size_append, extract_size (by omega), varText, strOfNums_size] at hs
    have hp : 0 < (varNums ((readShort j a).1.size : Int).toNat).length := by
      rw [varNums]
      split <;> simp
    exact ⟨g1, by omega, h4, h2, h3⟩
  · simp at h
theorem recAt_false {j : ByteArray} {a : Int} (h : (recAt j a).2.2 = false) : recAt j a = ((⟨#[]⟩ : ByteArray), 0, false) := by
  unfold recAt at h ⊢
  split at h
  · simp at h
  · rename_i hc
    rw [if_neg hc]
def unsealed (x : ByteArray) : ByteArray × Bool :=
  if 4 ≤ x.size ∧ x.size ≤ 20004 ∧ four (sumOf (x.extract 0 (x.size - 4))) = x.extract (x.size - 4) x.size then (x.extract 0 (x.size - 4), true) else ((⟨#[]⟩ : ByteArray), false)

def readJ : Nat → ByteArray → Int → List ByteArray × Int
  | 0, _, a => ([], a)
  | f + 1, j, a => if (recAt j a).2.2 = true then ((recAt j a).1 :: (readJ f j (recAt j a).2.1).1, (readJ f j (recAt j a).2.1).2) else ([], a)
def readJournal (j : ByteArray) : List ByteArray × Int := readJ (j.size + 1) j 0
theorem readJ_length (f : Nat) : ∀ (j : ByteArray) (a : Int), 0 ≤ a → a ≤ j.size → ((readJ f j a).1.length : Int) + a ≤ j.size ∧ 0 ≤ (readJ f j a).2 ∧ (readJ f j a).2 ≤ j.size := by
  induction f with
  | zero => intro j a h0 h1; simp [readJ]; omega
  | succ f ih =>
    intro j a h0 h1
    rw [readJ]
    by_cases hc : (recAt j a).2.2 = true
    · rw [if_pos hc]
      have hv : recAt j a = ((recAt j a).1, (recAt j a).2.1, true) := by rw [← hc]
      obtain ⟨g1, g2, g3, _⟩ := recAt_spec hv
      have := ih j (recAt j a).2.1 (by omega) g3
      simp only [List.length_cons]
      omega
    · rw [if_neg hc]
      simp only [List.length_nil]
      omega

theorem spec_SumMore_l1 (t : ByteArray) (i : Nat) (hi : i ≤ 281474976710655) (r : Int) (n : Nat) : ∀ (j : Nat) (x : Int), j + n = 8 → 0 ≤ x ∧ x < 4294967296 →
    Ev (fun k => spec_SumMore.l0 k (halves n x) t ((i + 1 : Nat) : Int)) r → Ev (fun k => spec_SumMore.l1 k x t (i : Int) (j : Int)) r := by
  induction n with
  | zero =>
    intro j x hj hx he
    have he' : Ev (fun k => spec_SumMore.l0 k x t ((i + 1 : Nat) : Int)) r := he
    exact Ev.step (fun k => by rw [spec_SumMore.l1, if_neg (by omega), wNat (by omega)]) he'
  | succ n ih =>
    intro j x hj hx he
    by_cases h : x % 2 = 1
    · refine Ev.step (fun k => by rw [spec_SumMore.l1, if_pos (by omega), if_pos (show Int.tmod x 2 = 1 by rw [tmod_pos hx.1]; exact h), tdiv_pos hx.1, Int.emod_eq_of_lt (a := x / 2) (by omega) (by omega), wNat (by omega)]) ?_
      refine ih (j + 1) _ (by omega) (xor32_range _ _) ?_
      rw [halves_succ, half, if_pos h] at he
      exact he
    · refine Ev.step (fun k => by rw [spec_SumMore.l1, if_pos (by omega), if_neg (show ¬ Int.tmod x 2 = 1 by rw [tmod_pos hx.1]; exact h), tdiv_pos hx.1, Int.emod_eq_of_lt (a := x / 2) (by omega) (by omega), wNat (by omega)]) ?_
      refine ih (j + 1) _ (by omega) (by omega) ?_
      rw [halves_succ, half, if_neg h] at he
      exact he
theorem spec_SumMore_l (t : ByteArray) (hb : t.size ≤ 281474976710655) (n : Nat) : ∀ (i : Nat) (x : Int), i + n = t.size → 0 ≤ x ∧ x < 4294967296 →
    Ev (fun k => spec_SumMore.l0 k x t (i : Int)) (sumMore x ((bytesOf t).drop i)) := by
  have hl := bytesOf_length t
  induction n with
  | zero =>
    intro i x hi hx
    refine Ev.step (fun k => by rw [spec_SumMore.l0, if_neg (by omega)]) (Ev.some_ ?_)
    rw [List.drop_eq_nil_of_le (by omega), sumMore_nil]
  | succ n ih =>
    intro i x hi hx
    have hg := bt_range t (i : Int)
    refine Ev.step (fun k => by rw [spec_SumMore.l0, if_pos (by omega), if_pos (by omega), Int.emod_eq_of_lt (by omega) (by omega), bt_eq, rd_get (bytesOf t) i (by omega)]) ?_
    rw [drop_cons (bytesOf t) i (by omega), sumMore_cons, sumByte]
    refine spec_SumMore_l1 t i (by omega) _ 8 0 _ (by omega) (xor32_range _ _) ?_
    exact ih (i + 1) _ (by omega) (halves_range 8 (xor32_range _ _))
theorem spec_SumOf_ev (t : ByteArray) (hb : t.size ≤ 281474976710655) : Ev (fun k => spec_SumOf.f k t) (sumOf t) := by
  unfold spec_SumOf.f spec_SumMore.f
  exact Ev.bind (spec_SumMore_l t hb t.size 0 4294967295 (by omega) (by decide)) (Ev.now _)

theorem spec_Sealed_ev (t : ByteArray) (hb : t.size ≤ 281474976710655) : Ev (fun k => spec_Sealed.f k t) (sealed t) := by
  unfold spec_Sealed.f sealed
  by_cases h : t.size > 20000
  · rw [if_pos h]; exact Ev.pos (by omega) (Ev.now _)
  · rw [if_neg h]
    refine Ev.neg (by omega) (Ev.bind (spec_SumOf_ev t hb) ?_)
    exact Ev.bindc (a := four (sumOf t)) rfl (Ev.pos (by rw [four_size]; omega) (Ev.now _))

theorem spec_l01Var_l (j : Nat) : ∀ (n : Nat) (x3 : List Int), n < 128 ^ (j + 1) → n ≤ 9223372036854775807 → x3.length + j ≤ 1000 →
    Ev (fun k => spec_l01Var.l0 k (n : Int) x3) (strOfNums (x3 ++ varNums n)) := by
  induction j with
  | zero =>
    intro n x3 h hn hs
    refine Ev.step (fun k => by rw [spec_l01Var.l0, if_neg (by omega), if_pos (by omega), Int.emod_eq_of_lt (by omega) (by omega)]) (Ev.some_ ?_)
    rw [varNums_small (by omega)]
  | succ j ih =>
    intro n x3 h hn hs
    by_cases h0 : n ≤ 127
    · refine Ev.step (fun k => by rw [spec_l01Var.l0, if_neg (by omega), if_pos (by omega), Int.emod_eq_of_lt (by omega) (by omega)]) (Ev.some_ ?_)
      rw [varNums_small (by omega)]
    · have e1 : wrap64 ((Int.tmod (n : Int) 128) + 128) % 256 = ((n % 128 + 128 : Nat) : Int) := by rw [tmod_pos (by omega), w64 (by omega)]; omega
      have e2 : wrap64 (Int.tdiv (n : Int) 128) = ((n / 128 : Nat) : Int) := by rw [tdiv_pos (by omega), w64 (by omega)]; omega
      refine Ev.step (fun k => by rw [spec_l01Var.l0, if_pos (by omega), if_pos (by omega), e1, e2]) ?_
      refine (ih (n / 128) _ (by rw [Nat.pow_succ] at h; omega) (by omega) (by rw [List.length_append]; show x3.length + 1 + j ≤ 1000; omega)).eq ?_
      rw [varNums_big (show 127 < n by omega), List.append_assoc]
      rfl
theorem spec_l01Var_ev (n : Int) (h0 : 0 ≤ n) (h : n ≤ 9223372036854775807) : Ev (fun k => spec_l01Var.f k n) (varText n) := by
  unfold spec_l01Var.f
  obtain ⟨m, rfl⟩ := Int.eq_ofNat_of_zero_le h0
  exact spec_l01Var_l 8 m [] (by omega) (by omega) (by show 0 + 8 ≤ 1000; omega)

theorem spec_l01In_eq (a b c : Int) : spec_l01In.f a b c = some (decide (b ≤ a ∧ a ≤ c)) := by
  unfold spec_l01In.f
  by_cases h : a ≥ b
  · rw [if_pos h]; congr 1; simp [show b ≤ a from h]
  · rw [if_neg h]; congr 1; rw [eq_comm, decide_eq_false_iff_not]; omega

theorem spec_RecordText_ev (t : ByteArray) (hb : t.size ≤ 281474976710655) : Ev (fun k => spec_RecordText.f k t) (recordText t) := by
  unfold spec_RecordText.f recordText
  refine Ev.bindc (spec_l01In_eq _ _ _) ?_
  by_cases h : 1 ≤ t.size ∧ t.size ≤ 700
  · rw [if_pos h]
    have hv := varText_size (n := (t.size : Int)) (by omega)
    refine Ev.pos (decide_eq_true (by omega)) (Ev.bind (spec_l01Var_ev _ (by omega) (by omega)) (Ev.pos (by omega) ?_))
    exact Ev.bind (spec_Sealed_ev _ (by rw [size_append]; omega)) (Ev.now _)
  · rw [if_neg h]
    exact Ev.neg (by rw [decide_eq_true_eq]; omega) (Ev.now _)

theorem spec_ReadVar_l (t : ByteArray) (hb : t.size ≤ 281474976710655) (a : Nat) (ha : a ≤ t.size) (m : Nat) : ∀ (i : Nat) (c : List Int), i + m = 5 → a + i ≤ t.size → c.length = i → c = ((bytesOf t).drop a).take i →
    (∀ x ∈ c, 128 ≤ x ∧ x < 256) → valV c < ((128 ^ i : Nat) : Int) →
    Ev (fun k => spec_ReadVar.l0 k t (a : Int) (valV c) ((128 ^ i : Nat) : Int) ((a + i : Nat) : Int)) (resV a (goV ((bytesOf t).drop (a + i)) i (valV c) ((128 ^ i : Nat) : Int))) := by
  have hl := bytesOf_length t
  induction m with
  | zero =>
    intro i c hi hs hc1 hc2 hc3 h1
    have f0 : wrap64 ((a : Int) + 5) = ((a + 5 : Nat) : Int) := by rw [w64 (by omega)]; omega
    rw [goV_five _ _ _ _ (by omega)]
    by_cases hlt : a + i < t.size
    · refine Ev.step (fun k => by rw [spec_ReadVar.l0, if_pos (by omega), f0, decide_eq_false (by omega)]) ?_
      refine Ev.step (fun k => by rw [spec_ReadVar.j1, if_neg (by simp)]) ?_
      exact Ev.some_ rfl
    · refine Ev.step (fun k => by rw [spec_ReadVar.l0, if_neg (by omega)]) ?_
      refine Ev.step (fun k => by rw [spec_ReadVar.j1, if_neg (by simp)]) ?_
      exact Ev.some_ rfl
  | succ m ih =>
    intro i c hi hs hc1 hc2 hc3 h1
    have h0 := valV_nonneg c
    have f3 : wrap64 ((a : Int) + 5) = ((a + 5 : Nat) : Int) := by rw [w64 (by omega)]; omega
    have hu4 : ((128 ^ i : Nat) : Int) ≤ 268435456 := Int.ofNat_le.2 (Nat.le_trans (Nat.pow_le_pow_right (by decide) (show i ≤ 4 by omega)) (by decide))
    have hu0 : 0 < ((128 ^ i : Nat) : Int) := Int.ofNat_lt.2 (Nat.pow_pos (by decide))
    have e4 : ((128 ^ i : Nat) : Int) * 128 = ((128 ^ (i + 1) : Nat) : Int) := by rw [Nat.pow_succ]; push_cast; rfl
    have ep : (128 : Int) ^ c.length = ((128 ^ i : Nat) : Int) := by rw [hc1]; push_cast; rfl
    have hvv : ∀ b, valV (c ++ [b]) = valV c + b % 128 * ((128 ^ i : Nat) : Int) := fun b => by rw [valV_append c b, ep]
    have hih := ih (i + 1)
    rw [← e4] at hih
    clear ih e4 ep
    generalize ((128 ^ i : Nat) : Int) = u at *
    by_cases hlt : a + i < t.size
    · have f0 : 0 ≤ ((a + i : Nat) : Int) := by omega
      have f1 : ((a + i : Nat) : Int) < (t.size : Int) := by omega
      have f2 : ((a + i : Nat) : Int) < ((a + 5 : Nat) : Int) := by omega
      have e6 : wrap64 (((a + i : Nat) : Int) + 1) = ((a + (i + 1) : Nat) : Int) := by rw [w64 (by omega)]; omega
      have f4 : (a : Int) ≤ ((a + (i + 1) : Nat) : Int) := by omega
      have f5 : ((a + (i + 1) : Nat) : Int) ≤ (t.size : Int) := by omega
      have hx : (bytesOf t).drop a ≠ [] := by
        intro h
        have := congrArg List.length h
        rw [List.length_drop] at this
        simp at this
        omega
      have htake : ((bytesOf t).drop a).take (i + 1) = c ++ [(bytesOf t)[a + i]'(by omega)] := by
        rw [List.take_add_one, ← hc2]
        congr 1
        rw [List.getElem?_drop, List.getElem?_eq_getElem (by omega)]
        rfl
      rw [drop_cons (bytesOf t) (a + i) (by omega), goV_cons, if_neg (by omega)]
      have hg := bt_range t ((a + i : Nat) : Int)
      have hbt : bt t ((a + i : Nat) : Int) = (bytesOf t)[a + i]'(by omega) := by rw [bt_eq, rd_get _ _ (by omega)]
      rw [hbt] at hg
      generalize (bytesOf t)[a + i]'(by omega) = b at hg hbt htake ⊢
      have hval := hvv b
      have eb : wrap64 b = b := w64 (by omega)
      have hp0 : 0 ≤ b % 128 * u := Int.mul_nonneg (by omega) (by omega)
      have hp1 : b % 128 * u ≤ 127 * u := Int.mul_le_mul_of_nonneg_right (by omega) (by omega)
      obtain ⟨pr, hpr⟩ : ∃ pr, b % 128 * u = pr := ⟨_, rfl⟩
      rw [hpr] at hp0 hp1 hval ⊢
      have e1 : wrap64 pr = pr := w64 (by omega)
      have e2 : wrap64 (valV c + pr) = valV c + pr := w64 (by omega)
      have e3 : wrap64 (u * 128) = u * 128 := w64 (by omega)
      have g1 : valV c + pr < u * 128 := by omega
      have g0 : 0 ≤ valV c + pr := by omega
      have g2 : valV c + pr ≤ 9223372036854775807 := by omega
      have em : Int.tmod b 128 = b % 128 := tmod_pos hg.1
      refine Ev.step (fun k => by rw [spec_ReadVar.l0, if_pos f1, f3, decide_eq_true f2]) ?_
      refine Ev.step (fun k => by rw [spec_ReadVar.j1, if_pos rfl, if_pos f0, if_pos f1, hbt, eb, em, hpr, e1, e2, e3, e6]) ?_
      clear em
      by_cases h128 : 128 ≤ b
      · rw [if_pos h128]
        refine Ev.neg (by omega) ?_
        have := hih (c ++ [b]) (by omega) (by omega) (by simp [hc1]) htake.symm (fun x hx' => by
          rcases List.mem_append.1 hx' with hx' | hx'
          · exact hc3 x hx'
          · rw [List.mem_singleton.1 hx']; omega) (by rw [hval]; exact g1)
        rw [hval, show a + (i + 1) = a + i + 1 by omega] at this
        exact this
      · rw [if_neg h128]
        refine Ev.pos (by omega) ?_
        by_cases hm : valV c + pr > 1000000000
        · rw [if_pos (Or.inr hm)]
          exact Ev.pos hm (Ev.some_ rfl)
        · refine Ev.neg hm (Ev.bind (spec_l01Var_ev _ g0 g2) ?_)
          refine Ev.pos (by omega) (Ev.pos f4 (Ev.pos f5 ?_))
          have hext : bytesOf (t.extract (a : Int).toNat ((a + (i + 1) : Nat) : Int).toNat) = c ++ [b] := by
            rw [bytesOf_extract, Int.toNat_natCast, Int.toNat_natCast, show a + (i + 1) - a = i + 1 by omega, htake]
          have hiff : (varText (valV c + pr)).toList = (t.extract (a : Int).toNat ((a + (i + 1) : Nat) : Int).toNat).toList ↔ (c = [] ∨ b ≠ 0) := by
            rw [ba_eq, ← bytesOf_eq, hext, varText, bytesOf_strOf (varNums_range _), ← hval]
            exact varNums_val c b hc3 (by omega)
          by_cases hz : c = [] ∨ b ≠ 0
          · refine Ev.pos (hiff.2 hz) (Ev.some_ ?_)
            rw [if_neg (by
              rintro (⟨h2, h3⟩ | h2)
              · rcases hz with rfl | hz
                · simp at hc1; omega
                · exact hz h2
              · exact hm h2)]
            show _ = (_, (a : Int) + ((i + 1 : Nat) : Int), true)
            rw [show ((a + (i + 1) : Nat) : Int) = (a : Int) + ((i + 1 : Nat) : Int) by omega]
          · refine Ev.neg (fun h => hz (hiff.1 h)) (Ev.some_ ?_)
            rw [if_pos (Or.inl ⟨Classical.byContradiction fun h => hz (Or.inr h), by
              rcases Nat.eq_zero_or_pos i with h | h
              · exact absurd (Or.inl (List.eq_nil_of_length_eq_zero (by omega))) hz
              · exact h⟩)]
            rfl
    · have : (bytesOf t).drop (a + i) = [] := List.drop_eq_nil_of_le (by omega)
      rw [this, goV_nil]
      refine Ev.step (fun k => by rw [spec_ReadVar.l0, if_neg (by omega)]) ?_
      refine Ev.step (fun k => by rw [spec_ReadVar.j1, if_neg (by simp)]) ?_
      exact Ev.some_ rfl
theorem spec_ReadVar_ev (t : ByteArray) (hb : t.size ≤ 281474976710655) (a : Int) : Ev (fun k => spec_ReadVar.f k t a) (readVar t a) := by
  unfold spec_ReadVar.f readVar
  refine Ev.bindc (spec_l01In_eq _ _ _) ?_
  by_cases h : 0 ≤ a ∧ a ≤ (t.size : Int)
  · rw [if_pos h]
    refine Ev.pos (decide_eq_true h) ?_
    obtain ⟨n, rfl⟩ := Int.eq_ofNat_of_zero_le h.1
    have := spec_ReadVar_l t hb n (by omega) 5 0 [] (by omega) (by omega) rfl (by simp) (by simp) (by decide)
    simpa [valV] using this
  · rw [if_neg h]
    exact Ev.neg (by simpa using h) (Ev.now _)

theorem spec_ReadShort_ev (t : ByteArray) (hb : t.size ≤ 281474976710655) (a : Int) : Ev (fun k => spec_ReadShort.f k t a) (readShort t a) := by
  unfold spec_ReadShort.f readShort
  refine Ev.bind (spec_ReadVar_ev t hb a) ?_
  cases hc : (readVar t a).2.2 with
  | false => exact Ev.neg (by simp) (Ev.some_ (by rw [if_neg (by simp)]))
  | true =>
    have hv : readVar t a = ((readVar t a).1, (readVar t a).2.1, true) := by rw [← hc]
    obtain ⟨g1, g2, g3, g4, g5, g6, g7⟩ := readVar_spec hv
    generalize (readVar t a).1 = n at *
    generalize (readVar t a).2.1 = m at *
    clear g7
    have e1 : wrap64 ((t.size : Int) - m) = (t.size : Int) - m := w64 (by omega)
    have e2 : wrap64 (m + n) = m + n := w64 (by omega)
    refine Ev.pos rfl ?_
    rw [e1, e2]
    by_cases h1 : n > 20000
    · exact Ev.pos h1 (Ev.some_ (by rw [if_neg (by rintro ⟨_, h, _⟩; omega)]))
    refine Ev.neg h1 ?_
    by_cases h2 : n > (t.size : Int) - m
    · exact Ev.pos h2 (Ev.some_ (by rw [if_neg (by rintro ⟨_, _, h⟩; omega)]))
    refine Ev.neg h2 (Ev.pos (by omega) (Ev.pos (by omega) (Ev.pos (by omega) (Ev.some_ ?_))))
    rw [if_pos ⟨rfl, by omega, by omega⟩]

theorem spec_l23Read_ev (j : ByteArray) (hb : j.size ≤ 281474976710650) (a : Int) : Ev (fun k => spec_l23Read.f k j a) (recAt j a) := by
  unfold spec_l23Read.f recAt
  refine Ev.bind (spec_ReadShort_ev j (by omega) a) ?_
  have hj : ∀ (s : ByteArray) (n : Int), Ev (fun k => spec_l23Read.j0 k j a s n true) ((⟨#[]⟩ : ByteArray), 0, false) := fun s n => Ev.step (fun k => by rw [spec_l23Read.j0, if_pos rfl]) (Ev.now _)
  cases hc : (readShort j a).2.2 with
  | false =>
    refine Ev.neg (by simp) ((hj _ _).eq (by rw [if_neg (by simp)]))
  | true =>
    have hv : readShort j a = ((readShort j a).1, (readShort j a).2.1, true) := by rw [← hc]
    obtain ⟨g1, g2, g3, g4, g5, g6⟩ := readShort_spec hv
    generalize (readShort j a).1 = s at *
    generalize (readShort j a).2.1 = n at *
    refine Ev.pos rfl ?_
    have e1 : wrap64 ((j.size : Int) - 4) = (j.size : Int) - 4 := w64 (by omega)
    have e2 : wrap64 (n + 4) = n + 4 := w64 (by omega)
    rw [e1]
    by_cases h4 : n > (j.size : Int) - 4
    · rw [decide_eq_true h4]
      exact (hj _ _).eq (by rw [if_neg (by rintro ⟨_, _, _, h, _⟩; omega)])
    rw [decide_eq_false h4]
    refine Ev.step (fun k => by rw [spec_l23Read.j0, if_neg (by simp), e2]) ?_
    refine Ev.bind (spec_RecordText_ev s (by omega)) ?_
    by_cases h7 : 1 ≤ s.size ∧ s.size ≤ 700
    · have hvs := varText_size (n := (s.size : Int)) (by omega)
      have hsl : recordText s = ((varText (s.size : Int) ++ s) ++ four (sumOf (varText (s.size : Int) ++ s)), true) := by
        unfold recordText sealed
        rw [if_pos h7, if_neg (by rw [size_append]; omega)]
      rw [hsl]
      refine Ev.pos rfl (Ev.pos (by omega) (Ev.pos (by omega) (Ev.pos (by omega) ?_)))
      have hsp : j.extract a.toNat (n + 4).toNat = (varText (s.size : Int) ++ s) ++ j.extract n.toNat (n + 4).toNat := by
        rw [extract_split (show a.toNat ≤ n.toNat by omega) (show n.toNat ≤ (n + 4).toNat by omega) (by omega), g5]
      by_cases h5 : j.extract n.toNat (n + 4).toNat = four (sumOf (j.extract a.toNat n.toNat))
      · refine Ev.pos ?_ (Ev.some_ (by rw [if_pos ⟨rfl, h7.1, h7.2, by omega, h5⟩]))
        rw [ba_eq, hsp, h5, g5]
      · refine Ev.neg ?_ (Ev.some_ (by rw [if_neg (by rintro ⟨_, _, _, _, h⟩; exact h5 h)]))
        rw [ba_eq, hsp]
        intro h
        apply h5
        rw [g5]
        obtain ⟨p, hp⟩ : ∃ p, varText (s.size : Int) ++ s = p := ⟨_, rfl⟩
        rw [hp] at h ⊢
        rw [← bytesOf_eq, bytesOf_append, bytesOf_append] at h
        exact (bytesOf_inj (List.append_cancel_left h)).symm
    · have hsl : (recordText s).2 = false := by unfold recordText; rw [if_neg h7]
      rw [hsl]
      exact Ev.neg (by simp) (Ev.some_ (by rw [if_neg (by rintro ⟨_, h1, h2, _⟩; exact h7 ⟨h1, h2⟩)]))

theorem spec_ReadJournal_l (j : ByteArray) (hb : j.size ≤ 1048576) (f : Nat) : ∀ (a : Int) (acc : List ByteArray), 0 ≤ a → a ≤ j.size → (j.size : Int) - a < f → acc.length ≤ a.toNat →
    Ev (fun k => spec_ReadJournal.l0 k j acc a) (acc ++ (readJ f j a).1, (readJ f j a).2) := by
  induction f with
  | zero => intro a acc h0 h1 h2; omega
  | succ f ih =>
    intro a acc h0 h1 h2 h3
    refine Ev.step (fun k => by rw [spec_ReadJournal.l0]) (Ev.bind (spec_l23Read_ev j (by omega) a) ?_)
    rw [readJ]
    by_cases hc : (recAt j a).2.2 = true
    · have hv : recAt j a = ((recAt j a).1, (recAt j a).2.1, true) := by rw [← hc]
      obtain ⟨g1, g2, g3, _⟩ := recAt_spec hv
      refine Ev.pos hc (Ev.pos (by omega) ?_)
      have := ih (recAt j a).2.1 (acc ++ [(recAt j a).1]) (by omega) g3 (by omega) (by rw [List.length_append, List.length_singleton]; omega)
      rw [if_pos hc]
      refine this.eq ?_
      rw [List.append_assoc]
      rfl
    · exact Ev.neg hc (Ev.some_ (by rw [if_neg hc, List.append_nil]))
theorem spec_ReadJournal_ev (j : ByteArray) (hb : j.size ≤ 1048576) : Ev (fun k => spec_ReadJournal.f k j) (readJournal j) := by
  unfold spec_ReadJournal.f readJournal
  exact spec_ReadJournal_l j hb (j.size + 1) 0 [] (by omega) (by omega) (by omega) (by simp)

theorem wraps_u32' (n : Int) (h₀ : 0 ≤ n) (h₁ : n < 2 ^ 32) : IntKind.u32.wrap n = n := by rw [IntKind.wrap_u32]; omega
theorem u32_and1 {x : Int} (h : 0 ≤ x ∧ x < 4294967296) : Go.bits .and .u32 x 1 = x % 2 := bits_mask .u32 32 (by decide) wraps_u32' 1 (by decide) x h.1 h.2
theorem impl_SumMore_l1 (t : ByteArray) (i : Nat) (hi : i ≤ 281474976710655) (r : Int) (n : Nat) : ∀ (j : Nat) (x : Int), j + n = 8 → 0 ≤ x ∧ x < 4294967296 →
    Ev (fun k => impl_SumMore.l0 k (halves n x) t ((i + 1 : Nat) : Int)) r → Ev (fun k => impl_SumMore.l1 k x t (i : Int) (j : Int)) r := by
  induction n with
  | zero =>
    intro j x hj hx he
    have he' : Ev (fun k => impl_SumMore.l0 k x t ((i + 1 : Nat) : Int)) r := he
    exact Ev.step (fun k => by rw [impl_SumMore.l1, if_neg (by omega), wNat (by omega)]) he'
  | succ n ih =>
    intro j x hj hx he
    by_cases h : x % 2 = 1
    · refine Ev.step (fun k => by rw [impl_SumMore.l1, if_pos (by omega), if_pos (show Go.bits .and .u32 x 1 = 1 by rw [u32_and1 hx]; exact h), wNat (by omega)]) ?_
      refine ih (j + 1) _ (by omega) (xor32_range _ _) ?_
      rw [halves_succ, half, if_pos h] at he
      exact he
    · refine Ev.step (fun k => by rw [impl_SumMore.l1, if_pos (by omega), if_neg (show ¬ Go.bits .and .u32 x 1 = 1 by rw [u32_and1 hx]; exact h), wNat (by omega)]) ?_
      refine ih (j + 1) _ (by omega) (by omega) ?_
      rw [halves_succ, half, if_neg h] at he
      exact he
theorem impl_SumMore_l (t : ByteArray) (hb : t.size ≤ 281474976710655) (n : Nat) : ∀ (i : Nat) (x : Int), i + n = t.size → 0 ≤ x ∧ x < 4294967296 →
    Ev (fun k => impl_SumMore.l0 k x t (i : Int)) (sumMore x ((bytesOf t).drop i)) := by
  have hl := bytesOf_length t
  induction n with
  | zero =>
    intro i x hi hx
    refine Ev.step (fun k => by rw [impl_SumMore.l0, if_neg (by omega)]) (Ev.some_ ?_)
    rw [List.drop_eq_nil_of_le (by omega), sumMore_nil]
  | succ n ih =>
    intro i x hi hx
    have hg := bt_range t (i : Int)
    refine Ev.step (fun k => by rw [impl_SumMore.l0, if_pos (by omega), if_pos (by omega), Int.emod_eq_of_lt (by omega) (by omega), bt_eq, rd_get (bytesOf t) i (by omega)]) ?_
    rw [drop_cons (bytesOf t) i (by omega), sumMore_cons, sumByte]
    refine impl_SumMore_l1 t i (by omega) _ 8 0 _ (by omega) (xor32_range _ _) ?_
    exact ih (i + 1) _ (by omega) (halves_range 8 (xor32_range _ _))
theorem impl_SumOf_ev (t : ByteArray) (hb : t.size ≤ 281474976710655) : Ev (fun k => impl_SumOf.f k t) (sumOf t) := by
  unfold impl_SumOf.f impl_SumMore.f
  exact Ev.bind (impl_SumMore_l t hb t.size 0 4294967295 (by omega) (by decide)) (Ev.now _)

theorem impl_sumText_ev (t : ByteArray) (hb : t.size ≤ 281474976710655) : Ev (fun k => impl_sumText.f k t) (four (sumOf t)) := by
  unfold impl_sumText.f
  exact Ev.bind (impl_SumOf_ev t hb) (Ev.now _)

theorem impl_Unsealed_ev (x : ByteArray) (hb : x.size ≤ 281474976710655) : Ev (fun k => impl_Unsealed.f k x) (unsealed x) := by
  unfold impl_Unsealed.f unsealed
  have e1 : wrap64 ((x.size : Int) - 4) = (x.size : Int) - 4 := w64 (by omega)
  rw [e1]
  by_cases h1 : (x.size : Int) - 4 < 0
  · exact Ev.pos h1 (Ev.some_ (by rw [if_neg (by rintro ⟨h, _⟩; omega)]))
  refine Ev.neg h1 ?_
  by_cases h2 : (x.size : Int) - 4 > 20000
  · exact Ev.pos h2 (Ev.some_ (by rw [if_neg (by rintro ⟨_, h, _⟩; omega)]))
  refine Ev.neg h2 (Ev.pos (by omega) (Ev.pos (by omega) ?_))
  rw [show ((x.size : Int) - 4).toNat = x.size - 4 by omega]
  refine Ev.bind (impl_sumText_ev _ (by rw [extract_size (by omega)]; omega)) ?_
  by_cases h3 : four (sumOf (x.extract 0 (x.size - 4))) = x.extract (x.size - 4) x.size
  · exact Ev.pos (ba_eq.2 h3) (Ev.some_ (by rw [if_pos ⟨by omega, by omega, h3⟩]))
  · exact Ev.neg (fun h => h3 (ba_eq.1 h)) (Ev.some_ (by rw [if_neg (by rintro ⟨_, _, h⟩; exact h3 h)]))

theorem impl_ReadVar_l (t : ByteArray) (hb : t.size ≤ 281474976710655) (a : Nat) (ha : a ≤ t.size) (m : Nat) : ∀ (i : Nat) (n : Int), i + m = 5 → a + i ≤ t.size → 0 ≤ n → n < ((128 ^ i : Nat) : Int) →
    Ev (fun k => impl_ReadVar.l0 k t (a : Int) n ((128 ^ i : Nat) : Int) (i : Int)) (resV a (goV ((bytesOf t).drop (a + i)) i n ((128 ^ i : Nat) : Int))) := by
  have hl := bytesOf_length t
  induction m with
  | zero =>
    intro i n hi hs h0 h1
    rw [goV_five _ _ _ _ (by omega)]
    refine Ev.step (fun k => by rw [impl_ReadVar.l0, if_neg (by omega)]) ?_
    refine Ev.step (fun k => by rw [impl_ReadVar.j2, if_neg (by simp)]) ?_
    exact Ev.some_ rfl
  | succ m ih =>
    intro i n hi hs h0 h1
    have hu4 : ((128 ^ i : Nat) : Int) ≤ 268435456 := Int.ofNat_le.2 (Nat.le_trans (Nat.pow_le_pow_right (by decide) (show i ≤ 4 by omega)) (by decide))
    have hu0 : 0 < ((128 ^ i : Nat) : Int) := Int.ofNat_lt.2 (Nat.pow_pos (by decide))
    have e4 : ((128 ^ i : Nat) : Int) * 128 = ((128 ^ (i + 1) : Nat) : Int) := by rw [Nat.pow_succ]; push_cast; rfl
    have hih := ih (i + 1)
    rw [← e4] at hih
    clear ih e4
    generalize ((128 ^ i : Nat) : Int) = u at *
    have e0 : wrap64 ((a : Int) + (i : Int)) = ((a + i : Nat) : Int) := by rw [w64 (by omega)]; omega
    by_cases hlt : a + i < t.size
    · have f0 : 0 ≤ ((a + i : Nat) : Int) := by omega
      have f1 : ((a + i : Nat) : Int) < (t.size : Int) := by omega
      have f2 : (i : Int) < 5 := by omega
      have e6 : wrap64 ((i : Int) + 1) = ((i + 1 : Nat) : Int) := wNat (by omega)
      have e5 : wrap64 (((a + i : Nat) : Int) + 1) = (a : Int) + ((i + 1 : Nat) : Int) := by rw [w64 (by omega)]; omega
      rw [drop_cons (bytesOf t) (a + i) (by omega), goV_cons, if_neg (by omega)]
      have hg := bt_range t ((a + i : Nat) : Int)
      have hbt : bt t ((a + i : Nat) : Int) = (bytesOf t)[a + i]'(by omega) := by rw [bt_eq, rd_get _ _ (by omega)]
      rw [hbt] at hg
      generalize (bytesOf t)[a + i]'(by omega) = b at hg hbt ⊢
      have eb : wrap64 b = b := w64 (by omega)
      have hp0 : 0 ≤ b % 128 * u := Int.mul_nonneg (by omega) (by omega)
      have hp1 : b % 128 * u ≤ 127 * u := Int.mul_le_mul_of_nonneg_right (by omega) (by omega)
      obtain ⟨pr, hpr⟩ : ∃ pr, b % 128 * u = pr := ⟨_, rfl⟩
      rw [hpr] at hp0 hp1 ⊢
      have e1 : wrap64 pr = pr := w64 (by omega)
      have e2 : wrap64 (n + pr) = n + pr := w64 (by omega)
      have e3 : wrap64 (u * 128) = u * 128 := w64 (by omega)
      have g1 : n + pr < u * 128 := by omega
      have g0 : 0 ≤ n + pr := by omega
      have em : Int.tmod b 128 = b % 128 := tmod_pos hg.1
      refine Ev.step (fun k => by rw [impl_ReadVar.l0, if_pos f2, e0]) ?_
      refine Ev.step (fun k => by rw [impl_ReadVar.j2, if_pos (decide_eq_true f1), e0, if_pos f0, if_pos f1, hbt, eb, em, hpr, e1, e2, e3, e5, e6]) ?_
      by_cases h128 : 128 ≤ b
      · rw [if_pos h128]
        refine Ev.pos h128 ?_
        have := hih (n + pr) (by clear em; omega) (by clear em; omega) g0 g1
        rw [show a + (i + 1) = a + i + 1 by omega] at this
        exact this
      · rw [if_neg h128]
        refine Ev.neg h128 ?_
        by_cases hz : b = 0
        · refine Ev.pos hz ?_
          by_cases hi0 : 0 < i
          · rw [if_pos (Or.inl ⟨hz, hi0⟩)]
            exact Ev.pos (by omega) (Ev.some_ rfl)
          · refine Ev.neg (by omega) ?_
            by_cases hm : n + pr > 1000000000
            · rw [if_pos (Or.inr hm)]; exact Ev.pos hm (Ev.some_ rfl)
            · exact Ev.neg hm (Ev.some_ (by rw [if_neg (by rintro (h | h); exact hi0 h.2; exact hm h)]; rfl))
        · refine Ev.neg hz ?_
          by_cases hm : n + pr > 1000000000
          · rw [if_pos (Or.inr hm)]; exact Ev.pos hm (Ev.some_ rfl)
          · exact Ev.neg hm (Ev.some_ (by rw [if_neg (by rintro (h | h); exact hz h.1; exact hm h)]; rfl))
    · have : (bytesOf t).drop (a + i) = [] := List.drop_eq_nil_of_le (by omega)
      rw [this, goV_nil]
      refine Ev.step (fun k => by rw [impl_ReadVar.l0, if_pos (by omega), e0]) ?_
      refine Ev.step (fun k => by rw [impl_ReadVar.j2, if_neg (by rw [decide_eq_true_eq]; omega)]) ?_
      exact Ev.some_ rfl
theorem impl_ReadVar_ev (t : ByteArray) (hb : t.size ≤ 281474976710655) (a : Int) : Ev (fun k => impl_ReadVar.f k t a) (readVar t a) := by
  unfold impl_ReadVar.f readVar
  by_cases h0 : a < 0
  · rw [if_neg (by omega)]
    exact Ev.pos h0 (Ev.step (fun k => by rw [impl_ReadVar.j0, if_pos rfl]) (Ev.now _))
  · refine Ev.neg h0 ?_
    by_cases h1 : a > (t.size : Int)
    · rw [if_neg (by omega)]
      exact Ev.step (fun k => by rw [impl_ReadVar.j0, if_pos (decide_eq_true h1)]) (Ev.now _)
    · rw [if_pos (by omega)]
      refine Ev.step (fun k => by rw [impl_ReadVar.j0, if_neg (by rw [decide_eq_true_eq]; exact h1)]) ?_
      obtain ⟨n, rfl⟩ := Int.eq_ofNat_of_zero_le (show 0 ≤ a by omega)
      have := impl_ReadVar_l t hb n (by omega) 5 0 0 (by omega) (by omega) (by omega) (by decide)
      simpa using this

theorem impl_ReadShort_ev (t : ByteArray) (hb : t.size ≤ 281474976710655) (a : Int) : Ev (fun k => impl_ReadShort.f k t a) (readShort t a) := by
  unfold impl_ReadShort.f readShort
  refine Ev.bind (impl_ReadVar_ev t hb a) ?_
  cases hc : (readVar t a).2.2 with
  | false => exact Ev.neg (by simp) (Ev.some_ (by rw [if_neg (by simp)]))
  | true =>
    have hv : readVar t a = ((readVar t a).1, (readVar t a).2.1, true) := by rw [← hc]
    obtain ⟨g1, g2, g3, g4, g5, g6, g7⟩ := readVar_spec hv
    generalize (readVar t a).1 = n at *
    generalize (readVar t a).2.1 = m at *
    clear g7
    have e1 : wrap64 ((t.size : Int) - m) = (t.size : Int) - m := w64 (by omega)
    have e2 : wrap64 (m + n) = m + n := w64 (by omega)
    refine Ev.pos rfl ?_
    rw [e1, e2]
    by_cases h1 : n > 20000
    · exact Ev.pos h1 (Ev.some_ (by rw [if_neg (by rintro ⟨_, h, _⟩; omega)]))
    refine Ev.neg h1 ?_
    by_cases h2 : n > (t.size : Int) - m
    · exact Ev.pos h2 (Ev.some_ (by rw [if_neg (by rintro ⟨_, _, h⟩; omega)]))
    refine Ev.neg h2 (Ev.pos (by omega) (Ev.pos (by omega) (Ev.pos (by omega) (Ev.some_ ?_))))
    rw [if_pos ⟨rfl, by omega, by omega⟩]

theorem impl_recordAt_ev (j : ByteArray) (hb : j.size ≤ 281474976710650) (a : Int) : Ev (fun k => impl_recordAt.f k j a) (recAt j a) := by
  unfold impl_recordAt.f recAt
  refine Ev.bind (impl_ReadShort_ev j (by omega) a) ?_
  have hj : ∀ (s : ByteArray) (n : Int), Ev (fun k => impl_recordAt.j0 k j a s n true) ((⟨#[]⟩ : ByteArray), 0, false) := fun s n => Ev.step (fun k => by rw [impl_recordAt.j0, if_pos rfl]) (Ev.now _)
  cases hc : (readShort j a).2.2 with
  | false =>
    refine Ev.neg (by simp) ((hj _ _).eq (by rw [if_neg (by simp)]))
  | true =>
    have hv : readShort j a = ((readShort j a).1, (readShort j a).2.1, true) := by rw [← hc]
    obtain ⟨g1, g2, g3, g4, g5, g6⟩ := readShort_spec hv
    clear g5
    generalize (readShort j a).1 = s at *
    generalize (readShort j a).2.1 = n at *
    refine Ev.pos rfl ?_
    by_cases h0 : s.size = 0
    · exact Ev.pos (toList_nil.2 h0) ((hj _ _).eq (by rw [if_neg (by rintro ⟨_, h, _⟩; omega)]))
    refine Ev.neg (fun h => h0 (toList_nil.1 h)) ?_
    by_cases h7 : (s.size : Int) > 700
    · exact Ev.pos h7 ((hj _ _).eq (by rw [if_neg (by rintro ⟨_, _, h, _⟩; omega)]))
    refine Ev.neg h7 ?_
    have e1 : wrap64 ((j.size : Int) - n) = (j.size : Int) - n := w64 (by omega)
    have e2 : wrap64 (n + 4) = n + 4 := w64 (by omega)
    rw [e1]
    by_cases h4 : (j.size : Int) - n < 4
    · rw [decide_eq_true h4]
      exact (hj _ _).eq (by rw [if_neg (by rintro ⟨_, _, _, h, _⟩; omega)])
    rw [decide_eq_false h4]
    refine Ev.step (fun k => by rw [impl_recordAt.j0, if_neg (by simp), e2, if_pos (by omega), if_pos (by omega), if_pos (by omega)]) ?_
    have hsz : (j.extract a.toNat (n + 4).toNat).size = (n + 4).toNat - a.toNat := extract_size (by omega)
    refine Ev.bind (impl_Unsealed_ev _ (by omega)) ?_
    have hu : unsealed (j.extract a.toNat (n + 4).toNat) = if 4 ≤ (n + 4).toNat - a.toNat ∧ (n + 4).toNat - a.toNat ≤ 20004 ∧ four (sumOf (j.extract a.toNat n.toNat)) = j.extract n.toNat (n + 4).toNat then (j.extract a.toNat n.toNat, true) else ((⟨#[]⟩ : ByteArray), false) := by
      unfold unsealed
      rw [hsz, extract_extract (by omega), extract_extract (by omega), show a.toNat + ((n + 4).toNat - a.toNat - 4) = n.toNat by omega, show a.toNat + ((n + 4).toNat - a.toNat) = (n + 4).toNat by omega, Nat.add_zero]
    by_cases h5 : four (sumOf (j.extract a.toNat n.toNat)) = j.extract n.toNat (n + 4).toNat
    · rw [if_pos ⟨by omega, by omega, h5⟩] at hu
      rw [hu]
      exact Ev.pos rfl (Ev.some_ (by rw [if_pos ⟨rfl, by omega, by omega, by omega, h5.symm⟩]))
    · rw [if_neg (by rintro ⟨_, _, h⟩; exact h5 h)] at hu
      rw [hu]
      exact Ev.neg (by simp) (Ev.some_ (by rw [if_neg (by rintro ⟨_, _, _, _, h⟩; exact h5 h.symm)]))

theorem impl_ReadJournal_l (j : ByteArray) (hb : j.size ≤ 1048576) (f : Nat) : ∀ (a : Int) (acc : List ByteArray), 0 ≤ a → a ≤ j.size → (j.size : Int) - a < f → acc.length ≤ a.toNat →
    Ev (fun k => impl_ReadJournal.l0 k j acc a) (acc ++ (readJ f j a).1, (readJ f j a).2) := by
  induction f with
  | zero => intro a acc h0 h1 h2; omega
  | succ f ih =>
    intro a acc h0 h1 h2 h3
    refine Ev.step (fun k => by rw [impl_ReadJournal.l0]) (Ev.bind (impl_recordAt_ev j (by omega) a) ?_)
    rw [readJ]
    by_cases hc : (recAt j a).2.2 = true
    · have hv : recAt j a = ((recAt j a).1, (recAt j a).2.1, true) := by rw [← hc]
      obtain ⟨g1, g2, g3, _⟩ := recAt_spec hv
      refine Ev.pos hc (Ev.pos (by omega) ?_)
      have := ih (recAt j a).2.1 (acc ++ [(recAt j a).1]) (by omega) g3 (by omega) (by rw [List.length_append, List.length_singleton]; omega)
      rw [if_pos hc]
      refine this.eq ?_
      rw [List.append_assoc]
      rfl
    · exact Ev.neg hc (Ev.some_ (by rw [if_neg hc, List.append_nil]))
theorem impl_ReadJournal_ev (j : ByteArray) (hb : j.size ≤ 1048576) : Ev (fun k => impl_ReadJournal.f k j) (readJournal j) := by
  unfold impl_ReadJournal.f readJournal
  exact impl_ReadJournal_l j hb (j.size + 1) 0 [] (by omega) (by omega) (by omega) (by simp)

theorem FnExactReadJournal : laws_FnExactReadJournal.Pure := by
  intro a0 hs
  apply Ev.rounds
  unfold laws_FnExactReadJournal.f
  by_cases h0 : (a0.size : Int) > 1048576
  · exact Ev.pos h0 (Ev.now _)
  refine Ev.neg h0 ?_
  have es := spec_ReadJournal_ev a0 (by omega)
  have ei := impl_ReadJournal_ev a0 (by omega)
  have hlen := (readJ_length (a0.size + 1) a0 0 (by omega) (by omega)).1
  have hl : (readJournal a0).1.length ≤ 1048576 := by unfold readJournal; omega
  have eq := eqStringS_same (readJournal a0).1 (by omega)
  obtain ⟨x', q, em, eh, hq, hq'⟩ := markStringS_ev (readJournal a0).1 1 (by omega) (by omega)
  refine Ev.bind es (Ev.bind ei (Ev.bind eq (Ev.pos rfl ?_)))
  refine Ev.step (fun k => by rw [laws_FnExactReadJournal.j0, if_neg (by simp)]) ?_
  refine Ev.bind em (Ev.bind eh (Ev.neg (by omega) (Ev.pos rfl (Ev.bind ei (Ev.bind eq (Ev.pos rfl ?_))))))
  refine Ev.step (fun k => by rw [laws_FnExactReadJournal.j1, if_neg (by simp)]) ?_
  exact Ev.bind eh (Ev.neg (by omega) (Ev.pos rfl (Ev.now _)))

end Go.Proofs.Ytmhakjpjnnfidaa.Pure
