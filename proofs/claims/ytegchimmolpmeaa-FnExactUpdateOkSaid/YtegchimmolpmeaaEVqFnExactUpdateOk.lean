/- FnExactUpdateOk, the plain part: for every argument the law answers true. No conditions. -/
import Derived.Test.YtegchimmolpmeaaEVcFnExactUpdateOk
namespace Go.Proofs.Ytegchimmolpmeaa.FnExactUpdateOk
open Go Go.Proofs Go.Proofs.Ytegchimmolpmeaa.EV
set_option linter.unusedVariables false
set_option linter.unusedSimpArgs false
set_option maxRecDepth 100000
/-! Numbers modulo 12107 (a prime), and the curve y^2 = x^3 + x over them. -/
def chkFermat (e : Nat) : Nat → Bool
  | 0 => true
  | n + 1 => (n == 0 || n ^ e % 12107 == 1) && chkFermat e n
theorem chkFermat_spec (e : Nat) : ∀ {m n : Nat}, chkFermat e m = true → n < m → n ≠ 0 → n ^ e % 12107 = 1 := by
  intro m
  induction m with
  | zero => intro n _ h; omega
  | succ m ih =>
    intro n h hn h0
    rw [chkFermat, Bool.and_eq_true, Bool.or_eq_true] at h
    rcases Nat.lt_succ_iff_lt_or_eq.1 hn with h1 | h1
    · exact ih h.2 h1 h0
    · subst h1
      rcases h.1 with h2 | h2
      · exact absurd (by simpa using h2) h0
      · simpa using h2
theorem chkFermat_true : chkFermat 12106 12107 = true := by decide +kernel
theorem emod2 (a b : Int) : a * (b % 12107) % 12107 = a * b % 12107 := by
  rw [Int.mul_emod, Int.emod_emod_of_dvd _ (Int.dvd_refl _), ← Int.mul_emod]
theorem pow_emod (x : Int) (n : Nat) : x ^ n % 12107 = (x % 12107) ^ n % 12107 := by
  induction n with
  | zero => rw [Int.pow_zero, Int.pow_zero]
  | succ n ih => rw [Int.pow_succ, Int.pow_succ, Int.mul_emod, ih, ← Int.mul_emod, emod2]
theorem pow_inv (x : Int) (e : Nat) (h : (x % 12107).toNat ^ (e + 1) % 12107 = 1) : x * (x ^ e % 12107) % 12107 = 1 := by
  have h3 : (((x % 12107).toNat : Nat) : Int) = x % 12107 := by omega
  have h4 := congrArg (fun (n : Nat) => (n : Int)) h
  simp only [Int.natCast_emod, Int.natCast_pow, h3] at h4
  rw [emod2, Int.mul_comm, ← Int.pow_succ, pow_emod]
  exact h4
theorem pow_inv_of (e : Nat) (hc : chkFermat (e + 1) 12107 = true) {x : Int} (h : x % 12107 ≠ 0) : x * (x ^ e % 12107) % 12107 = 1 :=
  pow_inv x e (chkFermat_spec (e + 1) hc (by omega) (by omega))

abbrev F := Fin 12107
def ph (x : Int) : F := @Int.cast F Lean.Grind.Ring.intCast x
theorem ph_iff {x y : Int} : ph x = ph y ↔ x % 12107 = y % 12107 := Lean.Grind.IsCharP.intCast_ext_iff 12107
theorem ph_add (x y : Int) : ph (x + y) = ph x + ph y := Lean.Grind.Ring.intCast_add x y
theorem ph_sub (x y : Int) : ph (x - y) = ph x - ph y := Lean.Grind.Ring.intCast_sub x y
theorem ph_mul (x y : Int) : ph (x * y) = ph x * ph y := Lean.Grind.Ring.intCast_mul x y
theorem ph_neg (x : Int) : ph (-x) = - ph x := Lean.Grind.Ring.intCast_neg x
theorem ph_mod (x : Int) : ph (x % 12107) = ph x := ph_iff.2 (Int.emod_emod_of_dvd x (Int.dvd_refl _))
theorem ph_zero : ph 0 = 0 := Lean.Grind.Ring.intCast_zero
theorem ph_one : ph 1 = 1 := Lean.Grind.Ring.intCast_one
theorem ph_two : ph 2 = 2 := Lean.Grind.Ring.intCast_ofNat 2
theorem ph_three : ph 3 = 3 := Lean.Grind.Ring.intCast_ofNat 3
theorem ph_eq0 {x : Int} : ph x = 0 ↔ x % 12107 = 0 := by rw [← ph_zero, ph_iff]; rfl
theorem ph_inj {x y : Int} (hx : 0 ≤ x ∧ x < 12107) (hy : 0 ≤ y ∧ y < 12107) (h : ph x = ph y) : x = y := by
  have := ph_iff.1 h
  omega

@[irreducible] def fpow (x : Int) (n : Nat) : Int := x ^ n % 12107
theorem fpow_range (x : Int) (n : Nat) : 0 ≤ fpow x n ∧ fpow x n < 12107 := by unfold fpow; omega
def finv (x : Int) : Int := fpow x 12105
theorem finv_range (x : Int) : 0 ≤ finv x ∧ finv x < 12107 := fpow_range x _
theorem finv_mod {x : Int} (h : x % 12107 ≠ 0) : x * finv x % 12107 = 1 := by
  unfold finv fpow
  exact pow_inv_of 12105 chkFermat_true h
theorem finv_ph {x : Int} (h : ph x ≠ 0) : ph x * ph (finv x) = 1 := by
  rw [← ph_mul, ← ph_one, ph_iff]
  exact finv_mod (fun h1 => h (ph_eq0.2 h1))
theorem F_mul0 {a b : Int} (h : ph a * ph b = 0) (ha : ph a ≠ 0) : ph b = 0 := by
  have h1 := finv_ph ha
  have h2 : ph (finv a) * (ph a * ph b) = 0 := by rw [h]; grind
  grind

/-- a point: x, y, and whether it is the point at infinity. -/
abbrev Pt := Int × Int × Bool
def pRight (p : Pt) : Prop := (p.2.2 = true ∧ p.1 = 0 ∧ p.2.1 = 0) ∨
  (p.2.2 = false ∧ (0 ≤ p.1 ∧ p.1 ≤ 12106) ∧ (0 ≤ p.2.1 ∧ p.2.1 ≤ 12106) ∧ ph p.2.1 * ph p.2.1 = ph p.1 * ph p.1 * ph p.1 + ph p.1)
def slope (p r : Pt) : Int × Bool :=
  if p.1 = r.1 then
    if (p.2.1 + r.2.1) % 12107 = 0 then (0, false) else ((3 * (p.1 * p.1 % 12107) % 12107 + 1) % 12107 * finv (2 * p.2.1 % 12107) % 12107, true)
  else ((r.2.1 - p.2.1) % 12107 * finv ((r.1 - p.1) % 12107) % 12107, true)
def pAdd (p r : Pt) : Pt :=
  if p.2.2 = true then r else if r.2.2 = true then p else
  if (slope p r).2 = true then
    (((slope p r).1 * (slope p r).1 % 12107 - p.1) % 12107 - r.1) % 12107 |> fun x => (x, ((slope p r).1 * ((p.1 - x) % 12107) % 12107 - p.2.1) % 12107, false)
  else (0, 0, true)
theorem curve_chord {R : Type} [Lean.Grind.CommRing R] (x1 y1 x2 y2 i : R) (h1 : y1*y1 = x1*x1*x1 + x1) (h2 : y2*y2 = x2*x2*x2+x2) (hi : (x2-x1)*i = 1) (l x3 y3 : R) (hl : l*(x2-x1) = (y2-y1)) (hx : x3 = l*l - x1 - x2) (hy : y3 = l*(x1-x3)-y1) : y3*y3 = x3*x3*x3+x3 := by
  have e2 : y2 = y1 + l*(x2-x1) := by clear h1 h2 hx hy hi; grind
  have ea : (x2 - x1) * (x2*x2+x1*x2+x1*x1 + 1 - l*(y1+y2)) = 0 := by clear hx hy hi e2; grind
  have eb : (x2*x2+x1*x2+x1*x1 + 1 - l*(y1+y2)) = 0 := by
    have : i * ((x2 - x1) * (x2*x2+x1*x2+x1*x1 + 1 - l*(y1+y2))) = 0 := by rw [ea]; clear hx hy hi e2 ea h1 h2 hl; grind
    clear hx hy e2 ea h1 h2 hl; grind
  subst hx hy e2
  clear ea h2 hi hl
  grind
theorem chord_slope {R : Type} [Lean.Grind.CommRing R] (a d i : R) (h : d * i = 1) : a * i * d = a := by grind
theorem curve_tangent {R : Type} [Lean.Grind.CommRing R] (x1 y1 i : R) (h1 : y1*y1 = x1*x1*x1 + x1) (hi : (2*y1)*i = 1) (l x3 y3 : R) (hl : l = (3*(x1*x1)+1)*i) (hx : x3 = l*l - x1 - x1) (hy : y3 = l*(x1-x3)-y1) : y3*y3 = x3*x3*x3+x3 := by
  grind
/-- right points of one x: the y are the same, or their sum is zero. -/
theorem right_y {x y1 y2 : Int} (h1 : ph y1 * ph y1 = ph x * ph x * ph x + ph x) (h2 : ph y2 * ph y2 = ph x * ph x * ph x + ph x) (h : ¬ (y1 + y2) % 12107 = 0) : ph y1 = ph y2 := by
  have h3 : ph (y1 + y2) * ph (y1 - y2) = 0 := by rw [ph_add, ph_sub]; grind
  have h4 := F_mul0 h3 (fun h5 => h (ph_eq0.1 h5))
  rw [ph_sub] at h4
  grind
theorem pAdd_right {p r : Pt} (hp : pRight p) (hr : pRight r) : pRight (pAdd p r) := by
  rcases hp with hp | hp
  · unfold pAdd; rw [if_pos hp.1]; exact hr
  rcases hr with hr | hr
  · unfold pAdd; rw [if_neg (by rw [hp.1]; simp), if_pos hr.1]; exact Or.inr hp
  unfold pAdd
  rw [if_neg (by rw [hp.1]; simp), if_neg (by rw [hr.1]; simp)]
  obtain ⟨x1, y1, b1⟩ := p
  obtain ⟨x2, y2, b2⟩ := r
  obtain ⟨_, hx1, hy1, h1⟩ := hp
  obtain ⟨_, hx2, hy2, h2⟩ := hr
  simp only at hx1 hy1 h1 hx2 hy2 h2
  unfold slope
  simp only
  by_cases hx : x1 = x2
  · subst hx
    rw [if_pos rfl]
    by_cases hs : (y1 + y2) % 12107 = 0
    · rw [if_pos hs, if_neg (by simp)]
      exact Or.inl ⟨rfl, rfl, rfl⟩
    · rw [if_neg hs, if_pos rfl]
      have he := right_y h1 h2 hs
      have hi : (2 * ph y1) * ph (finv (2 * y1 % 12107)) = 1 := by
        have h3 : ph (2 * y1 % 12107) ≠ 0 := by
          intro h4
          apply hs
          rw [← ph_eq0, ph_add, ← he]
          rw [ph_mod, ph_mul, ph_two] at h4
          grind
        have := finv_ph h3
        rw [ph_mod, ph_mul, ph_two] at this
        exact this
      refine Or.inr ⟨rfl, by simp only; omega, by simp only; omega, ?_⟩
      simp only [ph_mod, ph_mul, ph_add, ph_sub, ph_three, ph_one]
      exact curve_tangent _ _ _ h1 hi _ _ _ rfl rfl rfl
  · rw [if_neg hx, if_pos rfl]
    have hi : (ph x2 - ph x1) * ph (finv ((x2 - x1) % 12107)) = 1 := by
      have h3 : ph ((x2 - x1) % 12107) ≠ 0 := by
        intro h4
        rw [ph_mod, ph_eq0] at h4
        omega
      have := finv_ph h3
      rw [ph_mod, ph_sub] at this
      exact this
    refine Or.inr ⟨rfl, by simp only; omega, by simp only; omega, ?_⟩
    simp only [ph_mod, ph_mul, ph_add, ph_sub]
    refine curve_chord (ph x1) (ph y1) (ph x2) (ph y2) _ h1 h2 hi _ _ _ (chord_slope _ _ _ hi) rfl rfl

/-! Point arithmetic: multiples, membership, texts. -/
theorem sq_pow (x : Int) : x * x = x ^ 2 := by rw [Int.pow_succ, Int.pow_succ, Int.pow_zero, Int.one_mul]
theorem fpow_loop1 (r x : Int) (m : Nat) : (r * x % 12107) * (x * x % 12107) ^ m % 12107 = r * x ^ (2 * m + 1) % 12107 := by
  rw [Int.mul_emod, ← pow_emod, ← Int.mul_emod, Int.mul_emod, Int.emod_emod_of_dvd _ (Int.dvd_refl _), ← Int.mul_emod, sq_pow x, ← Int.pow_mul, Int.pow_succ, Int.mul_assoc, Int.mul_comm x]
theorem fpow_loop0 (r x : Int) (m : Nat) : r * (x * x % 12107) ^ m % 12107 = r * x ^ (2 * m) % 12107 := by
  rw [Int.mul_emod, ← pow_emod, ← Int.mul_emod, sq_pow x, ← Int.pow_mul]
theorem fpow_one (a : Int) (n : Nat) : 1 * (a % 12107) ^ n % 12107 = fpow a n := by
  unfold fpow
  rw [Int.one_mul, ← pow_emod]
theorem sq_range {a b : Int} (ha : 0 ≤ a ∧ a < 12107) (hb : 0 ≤ b ∧ b < 12107) : 0 ≤ a * b ∧ a * b ≤ 146555236 :=
  ⟨Int.mul_nonneg ha.1 hb.1, Int.le_trans (Int.mul_le_mul_of_nonneg_right (show a ≤ 12106 by omega) hb.1) (by omega)⟩
def pOk (p : Pt) : Bool :=
  if p.2.2 = true then (if p.1 = 0 then p.2.1 == 0 else false)
  else if (0 ≤ p.1 ∧ p.1 ≤ 12106) ∧ (0 ≤ p.2.1 ∧ p.2.1 ≤ 12106) then (p.2.1 * p.2.1 % 12107 == (p.1 * p.1 % 12107 * p.1 % 12107 + p.1) % 12107) else false
theorem pOk_iff (p : Pt) : pOk p = true ↔ pRight p := by
  unfold pOk pRight
  cases h : p.2.2 with
  | true =>
    rw [if_pos rfl]
    by_cases h1 : p.1 = 0
    · rw [if_pos h1]; simp [h1]
    · rw [if_neg h1]; simp [h1]
  | false =>
    rw [if_neg (by simp)]
    by_cases h1 : (0 ≤ p.1 ∧ p.1 ≤ 12106) ∧ (0 ≤ p.2.1 ∧ p.2.1 ≤ 12106)
    · rw [if_pos h1, beq_iff_eq, ← Int.emod_emod_of_dvd (p.2.1 * p.2.1) (Int.dvd_refl 12107), ← Int.emod_emod_of_dvd (p.1 * p.1 % 12107 * p.1 % 12107 + p.1) (Int.dvd_refl 12107), ← ph_iff]
      simp only [ph_mod, ph_mul, ph_add]
      simp [h1]
    · rw [if_neg h1]
      simp only [Bool.false_eq_true, false_iff, true_and, false_and, false_or]
      intro h2
      exact h1 ⟨h2.1, h2.2.1⟩
theorem pRight_zero : pRight (0, 0, true) := Or.inl ⟨rfl, rfl, rfl⟩
def pLoop : Nat → Nat → Pt → Pt → Pt
  | 0, _, _, acc => acc
  | f + 1, n, b, acc => if n = 0 then acc else if n % 2 = 1 then pLoop f (n / 2) (pAdd b b) (pAdd acc b) else pLoop f (n / 2) (pAdd b b) acc
theorem pLoop_right (f : Nat) : ∀ (n : Nat) (b acc : Pt), pRight b → pRight acc → pRight (pLoop f n b acc) := by
  induction f with
  | zero => intro n b acc _ h; exact h
  | succ f ih =>
    intro n b acc hb ha
    rw [pLoop]
    split
    · exact ha
    · split
      · exact ih _ _ _ (pAdd_right hb hb) (pAdd_right ha hb)
      · exact ih _ _ _ (pAdd_right hb hb) ha
/-- n times p, for a right point. -/
def pMul (n : Nat) (p : Pt) : Pt := pLoop 64 n p (0, 0, true)
theorem pMul_right {n : Nat} {p : Pt} (h : pRight p) : pRight (pMul n p) := pLoop_right _ _ _ _ h pRight_zero
def pTimes (n : Nat) (p : Pt) : Pt := if pOk p = true then pMul n p else (0, 0, true)
theorem pTimes_right (n : Nat) (p : Pt) : pRight (pTimes n p) := by
  unfold pTimes
  split
  · rename_i h; exact pMul_right ((pOk_iff p).1 h)
  · exact pRight_zero
def pNeg (p : Pt) : Pt := if p.2.2 = true then (0, 0, true) else (p.1, (0 - p.2.1) % 12107, false)
theorem pNeg_right {p : Pt} (h : pRight p) : pRight (pNeg p) := by
  unfold pNeg
  split
  · exact pRight_zero
  · rename_i hb
    rcases h with h | h
    · exact absurd h.1 hb
    · refine Or.inr ⟨rfl, h.2.1, by simp only; omega, ?_⟩
      simp only [ph_mod, ph_sub, ph_zero]
      have := h.2.2.2
      grind
def pIn (p : Pt) : Bool := if pOk p = true then (pTimes 1009 p).2.2 else false
def pText (p : Pt) : ByteArray :=
  if pOk p = true then
    if p.2.2 = true then (⟨#[0, 0, 0]⟩ : ByteArray) else strOfNums ([((wrap64 (p.1 + 1)) / 256) % 256, (wrap64 (p.1 + 1)) % 256, (Int.tmod p.2.1 2) % 256] : List Int)
  else (⟨#[]⟩ : ByteArray)
theorem pText_size (p : Pt) : (pText p).size ≤ 3 := by
  unfold pText
  split
  · split
    · exact Nat.le_refl _
    · rw [strOfNums_size]; exact Nat.le_refl _
  · exact Nat.zero_le _

theorem tmod_fix {a m : Int} (hm : 0 < m) : (if Int.tmod a m < 0 then Int.tmod a m + m else Int.tmod a m) = a % m := by
  have h0 := Int.emod_nonneg a (Int.ne_of_gt hm)
  have h1 := Int.emod_lt_of_pos a hm
  rw [Int.tmod_eq_emod]
  have h2 : (m.natAbs : Int) = m := Int.natAbs_of_nonneg (Int.le_of_lt hm)
  by_cases h : 0 ≤ a ∨ m ∣ a
  · rw [if_pos h]
    show (if a % m - 0 < 0 then a % m - 0 + m else a % m - 0) = a % m
    rw [Int.sub_zero, if_neg (by omega)]
  · rw [if_neg h, h2, if_pos (by omega)]
    omega
theorem tmod_wrap {a m : Int} (hm : 0 < m) (hb : m < 9223372036854775807) : (if Int.tmod a m < 0 then (some (wrap64 (Int.tmod a m + m))) else (some (Int.tmod a m))) = some (a % m) := by
  have h := tmod_fix (a := a) hm
  have h0 := Int.emod_nonneg a (Int.ne_of_gt hm)
  have h1 := Int.emod_lt_of_pos a hm
  split at h
  · rename_i hl
    rw [if_pos hl, w64 (by omega), h]
  · rename_i hl
    rw [if_neg hl, h]
theorem F_half {x : F} (h : x + x = 0) : x = 0 := by
  have h1 : (12107 : F) = 0 := rfl
  have h2 : x = 6054 * (x + x) - 12107 * x := by clear h h1; grind
  rw [h, h1] at h2
  clear h h1
  grind
theorem y2_ne {a b : Int} (h : a = b) (h0 : ¬ a = 0) (r : 0 ≤ a ∧ a ≤ 12106) : ¬ (a + b) % 12107 = 0 := by
  intro hz
  rw [← ph_eq0, ph_add, ← h] at hz
  have := ph_eq0.1 (F_half hz)
  clear hz h
  omega
theorem fmod_range (a : Int) : 0 ≤ a % 12107 ∧ a % 12107 < 12107 := by omega
theorem fmod_mul (a b : Int) : wrap64 (a % 12107 * (b % 12107)) % 12107 = a * b % 12107 := by
  have := sq_range (fmod_range a) (fmod_range b)
  rw [w64 (by omega), ← Int.mul_emod]
theorem fmod_add (a b : Int) : wrap64 (a % 12107 + b % 12107) % 12107 = (a + b) % 12107 := by
  rw [w64 (by omega)]; omega
theorem fmod_sub (a b : Int) : wrap64 (a % 12107 - b % 12107) % 12107 = (a - b) % 12107 := by
  rw [w64 (by omega)]; omega

theorem rem_neg {a m : Int} (hm : 0 < m) (hb : m < 9223372036854775807) (h : Int.tmod a m < 0) : wr .i64 (Int.tmod a m + m) = a % m := by
  have h1 := tmod_fix (a := a) hm
  have h0 := Int.emod_nonneg a (Int.ne_of_gt hm)
  have h2 := Int.emod_lt_of_pos a hm
  rw [if_pos h] at h1
  rw [h1, wr64 (by omega)]
theorem rem_pos {a m : Int} (hm : 0 < m) (h : ¬ Int.tmod a m < 0) : Int.tmod a m = a % m := by
  have h1 := tmod_fix (a := a) hm
  rwa [if_neg h] at h1
theorem spec_FpOf_ev (a : Int) : Does cp n_spec_FpOf [.int .i64 a] [.int .i64 (a % 12107)] := by
  refine Ev.fn (fun k => F_spec_FpOf k a) (Ev.b (fun h => Ev.some_ ?_) (fun h => Ev.some_ ?_))
  · rw [addI_d, remI_d, rem_neg (by omega) (by omega) (ltI_to h)]
  · rw [remI_d, rem_pos (by omega) (ltI_fo h)]
theorem impl_remainder_ev (a m : Int) (hm : 0 < m) (hb : m < 9223372036854775807) : Does cp n_impl_remainder [.int .i64 a, .int .i64 m] [.int .i64 (a % m)] := by
  refine Ev.fn (fun k => F_impl_remainder k a m) (Ev.g (by rw [eqI_f (by omega)]; rfl) (Ev.b (fun h => Ev.some_ ?_) (fun h => Ev.some_ ?_)))
  · rw [addI_d, remI_d, rem_neg hm hb (ltI_to h)]
  · rw [remI_d, rem_pos hm (ltI_fo h)]
theorem impl_FpOf_ev (a : Int) : Does cp n_impl_FpOf [.int .i64 a] [.int .i64 (a % 12107)] :=
  Ev.fn (fun k => F_impl_FpOf k a) (Ev.c (impl_remainder_ev a 12107 (by omega) (by omega)) (Ev.now _))
theorem fw_mul (a b : Int) : wr .i64 (mulI (a % 12107) (b % 12107)) % 12107 = a * b % 12107 := by rw [mulI_d, wr_64, fmod_mul]
theorem fw_add (a b : Int) : wr .i64 (addI (a % 12107) (b % 12107)) % 12107 = (a + b) % 12107 := by rw [addI_d, wr_64, fmod_add]
theorem fw_sub (a b : Int) : wr .i64 (subI (a % 12107) (b % 12107)) % 12107 = (a - b) % 12107 := by rw [subI_d, wr_64, fmod_sub]
theorem spec_FpMul_ev (a b : Int) : Does cp n_spec_FpMul [.int .i64 a, .int .i64 b] [.int .i64 (a * b % 12107)] :=
  Ev.fn (fun k => F_spec_FpMul k a b) (Ev.c (spec_FpOf_ev a) (Ev.c (spec_FpOf_ev b) (Ev.c (spec_FpOf_ev _) (Ev.some_ (by simp only [hdV_c, tlV_c, parts1_a, asInt_i, asBool_b, asStr_s, asLen_f, asCells_f, fw_mul])))))
theorem spec_FpAdd_ev (a b : Int) : Does cp n_spec_FpAdd [.int .i64 a, .int .i64 b] [.int .i64 ((a + b) % 12107)] :=
  Ev.fn (fun k => F_spec_FpAdd k a b) (Ev.c (spec_FpOf_ev a) (Ev.c (spec_FpOf_ev b) (Ev.c (spec_FpOf_ev _) (Ev.some_ (by simp only [hdV_c, tlV_c, parts1_a, asInt_i, asBool_b, asStr_s, asLen_f, asCells_f, fw_add])))))
theorem spec_FpSub_ev (a b : Int) : Does cp n_spec_FpSub [.int .i64 a, .int .i64 b] [.int .i64 ((a - b) % 12107)] :=
  Ev.fn (fun k => F_spec_FpSub k a b) (Ev.c (spec_FpOf_ev a) (Ev.c (spec_FpOf_ev b) (Ev.c (spec_FpOf_ev _) (Ev.some_ (by simp only [hdV_c, tlV_c, parts1_a, asInt_i, asBool_b, asStr_s, asLen_f, asCells_f, fw_sub])))))
theorem impl_FpMul_ev (a b : Int) : Does cp n_impl_FpMul [.int .i64 a, .int .i64 b] [.int .i64 (a * b % 12107)] :=
  Ev.fn (fun k => F_impl_FpMul k a b) (Ev.c (impl_FpOf_ev a) (Ev.c (impl_FpOf_ev b) (Ev.c (impl_FpOf_ev _) (Ev.some_ (by simp only [hdV_c, tlV_c, parts1_a, asInt_i, asBool_b, asStr_s, asLen_f, asCells_f, fw_mul])))))
theorem impl_FpAdd_ev (a b : Int) : Does cp n_impl_FpAdd [.int .i64 a, .int .i64 b] [.int .i64 ((a + b) % 12107)] :=
  Ev.fn (fun k => F_impl_FpAdd k a b) (Ev.c (impl_FpOf_ev a) (Ev.c (impl_FpOf_ev b) (Ev.c (impl_FpOf_ev _) (Ev.some_ (by simp only [hdV_c, tlV_c, parts1_a, asInt_i, asBool_b, asStr_s, asLen_f, asCells_f, fw_add])))))
theorem impl_FpSub_ev (a b : Int) : Does cp n_impl_FpSub [.int .i64 a, .int .i64 b] [.int .i64 ((a - b) % 12107)] :=
  Ev.fn (fun k => F_impl_FpSub k a b) (Ev.c (impl_FpOf_ev a) (Ev.c (impl_FpOf_ev b) (Ev.c (impl_FpOf_ev _) (Ev.some_ (by simp only [hdV_c, tlV_c, parts1_a, asInt_i, asBool_b, asStr_s, asLen_f, asCells_f, fw_sub])))))
theorem spec_l01In_ev (a l h : Int) : Does cp n_spec_l01In [.int .i64 a, .int .i64 l, .int .i64 h] [.bool (decide (l ≤ a ∧ a ≤ h))] := by
  refine Ev.fn (fun k => F_spec_l01In k a l h) (Ev.b (fun h0 => Ev.some_ ?_) (fun h0 => Ev.some_ ?_))
  · have := leI_to h0
    rw [leI_d]; simp [this]
  · have := leI_fo h0
    rw [decide_eq_false (by omega)]
theorem spec_FpOk_ev (a : Int) : Does cp n_spec_FpOk [.int .i64 a] [.bool (decide (0 ≤ a ∧ a ≤ 12106))] :=
  Ev.fn (fun k => F_spec_FpOk k a) (Ev.c (spec_l01In_ev _ _ _) (Ev.now _))
theorem impl_FpOk_ev (a : Int) : Does cp n_impl_FpOk [.int .i64 a] [.bool (decide (0 ≤ a ∧ a ≤ 12106))] := by
  refine Ev.fn (fun k => F_impl_FpOk k a) (Ev.b (fun h0 => Ev.some_ ?_) (fun h0 => Ev.some_ ?_))
  · have := leI_to h0
    rw [ltI_d]; congr 2; rw [decide_eq_decide]; omega
  · have := leI_fo h0
    rw [decide_eq_false (by omega)]
theorem spec_l07Right_ev (a : Int) : Does cp n_spec_l07Right [.int .i64 a] [.int .i64 ((a * a % 12107 * a % 12107 + a) % 12107)] :=
  Ev.fn (fun k => F_spec_l07Right k a) (Ev.c (spec_FpMul_ev _ _) (Ev.c (spec_FpMul_ev _ _) (Ev.c (spec_FpAdd_ev _ _) (Ev.now _))))
theorem impl_curveAt_ev (a : Int) : Does cp n_impl_curveAt [.int .i64 a] [.int .i64 ((a * a % 12107 * a % 12107 + a) % 12107)] :=
  Ev.fn (fun k => F_impl_curveAt k a) (Ev.c (impl_FpMul_ev _ _) (Ev.c (impl_FpMul_ev _ _) (Ev.c (impl_FpAdd_ev _ _) (Ev.now _))))
/-- A point's cells. -/
def eP (p : Pt) : List AV := [.int .i64 p.1, .int .i64 p.2.1, .bool p.2.2]
theorem eP_len (p : Pt) : (eP p).length = 3 := rfl
theorem spec_PointOk_ev (p : Pt) : Does cp n_spec_PointOk [.agg (eP p)] [.bool (pOk p)] := by
  refine Ev.fn (fun k => F_spec_PointOk k p.1 p.2.1 p.2.2) ?_
  unfold pOk
  refine Ev.b (fun h => ?_) (fun h => ?_)
  · rw [if_pos h]
    refine Ev.b (fun h1 => Ev.some_ ?_) (fun h1 => Ev.some_ ?_)
    · rw [if_pos (eqI_to h1)]; rfl
    · rw [if_neg (eqI_fo h1)]
  · rw [if_neg (by rw [h]; simp)]
    refine Ev.c (spec_FpOk_ev _) (Ev.b (fun h1 => ?_) (fun h1 => Ev.some_ ?_))
    · have h1' := of_decide_eq_true h1
      refine Ev.c (spec_FpOk_ev _) (Ev.b (fun h2 => ?_) (fun h2 => Ev.some_ ?_))
      · have h2' := of_decide_eq_true h2
        rw [if_pos ⟨h1', h2'⟩]
        exact Ev.c (spec_FpMul_ev _ _) (Ev.c (spec_l07Right_ev _) (Ev.now _))
      · rw [if_neg (fun q => of_decide_eq_false h2 q.2)]
    · rw [if_neg (fun q => of_decide_eq_false h1 q.1)]
theorem impl_PointOk_ev (p : Pt) : Does cp n_impl_PointOk [.agg (eP p)] [.bool (pOk p)] := by
  refine Ev.fn (fun k => F_impl_PointOk k p.1 p.2.1 p.2.2) ?_
  unfold pOk
  refine Ev.b (fun h => ?_) (fun h => ?_)
  · rw [if_pos h]
    refine Ev.b (fun h1 => Ev.some_ ?_) (fun h1 => Ev.some_ ?_)
    · rw [if_pos (eqI_to h1)]; rfl
    · rw [if_neg (eqI_fo h1)]
  · rw [if_neg (by rw [h]; simp)]
    refine Ev.c (impl_FpOk_ev _) (Ev.b (fun h1 => ?_) (fun h1 => Ev.some_ ?_))
    · have h1' := of_decide_eq_true h1
      refine Ev.c (impl_FpOk_ev _) (Ev.b (fun h2 => ?_) (fun h2 => Ev.some_ ?_))
      · have h2' := of_decide_eq_true h2
        rw [if_pos ⟨h1', h2'⟩]
        exact Ev.c (impl_FpMul_ev _ _) (Ev.c (impl_curveAt_ev _) (Ev.now _))
      · rw [if_neg (fun q => of_decide_eq_false h2 q.2)]
    · rw [if_neg (fun q => of_decide_eq_false h1 q.1)]

def eI (n : Int) : List AV := [.int .i64 n]
theorem eI_len (n : Int) : (eI n).length = 1 := rfl
def eS (s : ByteArray) : List AV := [.str s]
theorem eS_len (s : ByteArray) : (eS s).length = 1 := rfl
theorem notB_to {b : Bool} (h : notB b = true) : b = false := by cases b <;> first | rfl | cases h
theorem notB_fo {b : Bool} (h : notB b = false) : b = true := by cases b <;> first | rfl | cases h
theorem Ev.an {a b : Bool} {X : Nat → Nat → Nat → Nat → Option (List AV)} (h : a = true → Ev X [.bool b]) : Ev (fun k m p q => br (notB a) (some [.bool false]) (X k m p q)) [.bool (a && b)] := by
  cases a with
  | true => exact Ev.f rfl (h rfl)
  | false => exact Ev.t rfl (Ev.now _)
theorem Ev.ap {a b : Bool} {X : Nat → Nat → Nat → Nat → Option (List AV)} (h : a = true → Ev X [.bool b]) : Ev (fun k m p q => br a (X k m p q) (some [.bool false])) [.bool (a && b)] := by
  cases a with
  | true => exact Ev.t rfl (h rfl)
  | false => exact Ev.f rfl (Ev.now _)
theorem Ev.na {a b : Bool} {X : Nat → Nat → Nat → Nat → Option (List AV)} (h : a = false → Ev X [.bool b]) : Ev (fun k m p q => br a (some [.bool false]) (X k m p q)) [.bool (!a && b)] := by
  cases a with
  | false => exact Ev.f rfl (h rfl)
  | true => exact Ev.t rfl (Ev.now _)

theorem quo2 {n : Nat} (h : n < 1000000) : wr .i64 (quoI (n : Int) 2) = ((n / 2 : Nat) : Int) := by rw [quoI_d, tdiv_pos (by omega), wr64 (by omega)]; omega
theorem rem2 (n : Nat) : remI (n : Int) 2 = ((n % 2 : Nat) : Int) := by rw [remI_d, tmod_pos (by omega)]; omega
theorem spec_FpPow_l (f : Nat) : ∀ (n : Nat) (r x : Int), n < 2 ^ f → n < 1000000 → (0 ≤ r ∧ r < 12107) → Ev (fun k m _ _ => L_spec_FpPow_0 k m (n : Int) x r) [.int .i64 (r * x ^ n % 12107)] := by
  have base : ∀ r x : Int, (0 ≤ r ∧ r < 12107) → Ev (fun k m _ _ => L_spec_FpPow_0 k m ((0 : Nat) : Int) x r) [.int .i64 (r * x ^ 0 % 12107)] := fun r x hr => by
    refine Ev.step (fun k m _ _ => L_spec_FpPow_0_s k m _ _ _) (Ev.f (ltI_f (by omega)) (Ev.some_ ?_))
    rw [Int.pow_zero, Int.mul_one, Int.emod_eq_of_lt hr.1 hr.2]
  induction f with
  | zero =>
    intro n r x hn _ hr
    obtain rfl : n = 0 := by omega
    exact base r x hr
  | succ f ih =>
    intro n r x hn hn2 hr
    by_cases h0 : n = 0
    · subst h0
      exact base r x hr
    have hf : n / 2 < 2 ^ f := by rw [Nat.pow_succ] at hn; omega
    refine Ev.step (fun k m _ _ => L_spec_FpPow_0_s k m _ _ _) (Ev.t (ltI_t (by omega)) ?_)
    simp only [quo2 hn2, rem2]
    by_cases h1 : n % 2 = 1
    · refine Ev.t (eqI_t (by omega)) (Ev.c (spec_FpMul_ev _ _) (Ev.c (spec_FpMul_ev _ _) ?_))
      refine (ih (n / 2) _ _ hf (by omega) (fmod_range _)).to ?_
      simp only [hdV_c, tlV_c, parts1_a, asInt_i, asBool_b, asStr_s, asLen_f, asCells_f]
      rw [fpow_loop1, show 2 * (n / 2) + 1 = n by omega]
    · refine Ev.f (eqI_f (by omega)) (Ev.c (spec_FpMul_ev _ _) ?_)
      refine (ih (n / 2) _ _ hf (by omega) hr).to ?_
      simp only [hdV_c, tlV_c, parts1_a, asInt_i, asBool_b, asStr_s, asLen_f, asCells_f]
      rw [fpow_loop0, show 2 * (n / 2) = n by omega]
theorem spec_FpPow_ev (a : Int) (n : Nat) (hn : n < 1000000) : Does cp n_spec_FpPow [.int .i64 a, .int .i64 (n : Int)] [.int .i64 (fpow a n)] := by
  refine Ev.fn (fun k => F_spec_FpPow k a n) (Ev.f (ltI_f (by omega)) (Ev.c (spec_FpOf_ev a) ?_))
  exact ((spec_FpPow_l 20 n 1 (a % 12107) (by omega) hn (by omega)).to (by rw [fpow_one])).l0
theorem impl_powerMod_l (f : Nat) : ∀ (n : Nat) (r x : Int), n < 2 ^ f → n < 1000000 → (0 ≤ r ∧ r < 12107) → (0 ≤ x ∧ x < 12107) → Ev (fun k m _ _ => L_impl_powerMod_0 k m 12107 (n : Int) x r) [.int .i64 (r * x ^ n % 12107)] := by
  have base : ∀ r x : Int, (0 ≤ r ∧ r < 12107) → Ev (fun k m _ _ => L_impl_powerMod_0 k m 12107 ((0 : Nat) : Int) x r) [.int .i64 (r * x ^ 0 % 12107)] := fun r x hr => by
    refine Ev.step (fun k m _ _ => L_impl_powerMod_0_s k m _ _ _ _) (Ev.f (ltI_f (by omega)) (Ev.some_ ?_))
    rw [Int.pow_zero, Int.mul_one, Int.emod_eq_of_lt hr.1 hr.2]
  induction f with
  | zero =>
    intro n r x hn _ hr _
    obtain rfl : n = 0 := by omega
    exact base r x hr
  | succ f ih =>
    intro n r x hn hn2 hr hx
    by_cases h0 : n = 0
    · subst h0
      exact base r x hr
    have hf : n / 2 < 2 ^ f := by rw [Nat.pow_succ] at hn; omega
    have s1 := sq_range hx hx
    have s2 := sq_range hr hx
    have e3 : remI (wr .i64 (mulI x x)) 12107 = x * x % 12107 := by rw [mulI_d, wr64 (by omega), remI_d, tmod_pos (by omega)]
    have e4 : remI (wr .i64 (mulI r x)) 12107 = r * x % 12107 := by rw [mulI_d, wr64 (by omega), remI_d, tmod_pos (by omega)]
    refine Ev.step (fun k m _ _ => L_impl_powerMod_0_s k m _ _ _ _) (Ev.t (ltI_t (by omega)) ?_)
    simp only [quo2 hn2, rem2, e3, e4]
    by_cases h1 : n % 2 = 1
    · refine Ev.t (eqI_t (by omega)) (Ev.g rfl (Ev.g rfl ?_))
      refine (ih (n / 2) _ _ hf (by omega) (fmod_range _) (fmod_range _)).to ?_
      rw [fpow_loop1, show 2 * (n / 2) + 1 = n by omega]
    · refine Ev.f (eqI_f (by omega)) (Ev.g rfl ?_)
      refine (ih (n / 2) _ _ hf (by omega) hr (fmod_range _)).to ?_
      rw [fpow_loop0, show 2 * (n / 2) = n by omega]
theorem impl_powerMod_ev (a : Int) (n : Nat) (hn : n < 1000000) : Does cp n_impl_powerMod [.int .i64 a, .int .i64 (n : Int), .int .i64 12107] [.int .i64 (fpow a n)] := by
  refine Ev.fn (fun k => F_impl_powerMod k a n 12107) (Ev.c (impl_remainder_ev a 12107 (by omega) (by omega)) ?_)
  exact ((impl_powerMod_l 20 n 1 (a % 12107) (by omega) hn (by omega) (fmod_range a)).to (by rw [fpow_one])).l0
theorem spec_FpInv_ev (a : Int) : Does cp n_spec_FpInv [.int .i64 a] [.int .i64 (finv a)] :=
  Ev.fn (fun k => F_spec_FpInv k a) (Ev.c (spec_FpPow_ev a 12105 (by omega)) (Ev.now _))
theorem impl_FpInv_ev (a : Int) : Does cp n_impl_FpInv [.int .i64 a] [.int .i64 (finv a)] :=
  Ev.fn (fun k => F_impl_FpInv k a) (Ev.c (impl_powerMod_ev a 12105 (by omega)) (Ev.now _))

theorem spec_l07Slope_ev (p r : Pt) : Does cp n_spec_l07Slope [.agg (eP p), .agg (eP r)] [.int .i64 (slope p r).1, .bool (slope p r).2] := by
  refine Ev.fn (fun k => F_spec_l07Slope k p.1 p.2.1 p.2.2 r.1 r.2.1 r.2.2) ?_
  unfold slope
  by_cases h : p.1 = r.1
  · rw [if_pos h]
    refine Ev.f (by rw [eqI_t h]; rfl) (Ev.c (spec_FpAdd_ev _ _) ?_)
    by_cases h2 : (p.2.1 + r.2.1) % 12107 = 0
    · rw [if_pos h2]; exact Ev.t (eqI_t h2) (Ev.now _)
    · rw [if_neg h2]
      exact Ev.f (eqI_f h2) (Ev.c (spec_FpMul_ev _ _) (Ev.c (spec_FpMul_ev _ _) (Ev.c (spec_FpAdd_ev _ _) (Ev.c (spec_FpMul_ev _ _) (Ev.c (spec_FpInv_ev _) (Ev.c (spec_FpMul_ev _ _) (Ev.now _)))))))
  · rw [if_neg h]
    exact Ev.t (by rw [eqI_f h]; rfl) (Ev.c (spec_FpSub_ev _ _) (Ev.c (spec_FpSub_ev _ _) (Ev.c (spec_FpInv_ev _) (Ev.c (spec_FpMul_ev _ _) (Ev.now _)))))
theorem impl_slopeOf_ev (p r : Pt) (hp : pRight p) (hr : pRight r) (h1 : ¬ p.2.2 = true) (h2 : ¬ r.2.2 = true) : Does cp n_impl_slopeOf [.agg (eP p), .agg (eP r)] [.int .i64 (slope p r).1, .bool (slope p r).2] := by
  refine Ev.fn (fun k => F_impl_slopeOf k p.1 p.2.1 p.2.2 r.1 r.2.1 r.2.2) ?_
  unfold slope
  have hp' := hp.resolve_left (fun h => h1 h.1)
  have hr' := hr.resolve_left (fun h => h2 h.1)
  by_cases h : p.1 = r.1
  · rw [if_pos h]
    refine Ev.f (by rw [eqI_t h]; rfl) ?_
    by_cases hy : p.2.1 = r.2.1
    · refine Ev.f (by rw [eqI_t hy]; rfl) ?_
      by_cases h0 : p.2.1 = 0
      · have hz : (p.2.1 + r.2.1) % 12107 = 0 := by rw [← hy, h0]; rfl
        rw [if_pos hz]
        exact Ev.t (eqI_t h0) (Ev.now _)
      · have hz : ¬ (p.2.1 + r.2.1) % 12107 = 0 := y2_ne hy h0 hp'.2.2.1
        rw [if_neg hz]
        exact Ev.f (eqI_f h0) (Ev.c (impl_FpMul_ev _ _) (Ev.c (impl_FpMul_ev _ _) (Ev.c (impl_FpAdd_ev _ _) (Ev.c (impl_FpMul_ev _ _) (Ev.c (impl_FpInv_ev _) (Ev.c (impl_FpMul_ev _ _) (Ev.now _)))))))
    · refine Ev.t (by rw [eqI_f hy]; rfl) ?_
      have hz : (p.2.1 + r.2.1) % 12107 = 0 := by
        have hp2 : 0 ≤ p.2.1 ∧ p.2.1 < 12107 := ⟨hp'.2.2.1.1, Int.lt_of_le_of_lt hp'.2.2.1.2 (by decide)⟩
        have hr2 : 0 ≤ r.2.1 ∧ r.2.1 < 12107 := ⟨hr'.2.2.1.1, Int.lt_of_le_of_lt hr'.2.2.1.2 (by decide)⟩
        exact Classical.byContradiction fun hs => hy (ph_inj hp2 hr2 (right_y hp'.2.2.2 (by rw [h]; exact hr'.2.2.2) hs))
      rw [if_pos hz]
      exact Ev.now _
  · rw [if_neg h]
    exact Ev.t (by rw [eqI_f h]; rfl) (Ev.c (impl_FpSub_ev _ _) (Ev.c (impl_FpSub_ev _ _) (Ev.c (impl_FpInv_ev _) (Ev.c (impl_FpMul_ev _ _) (Ev.now _)))))
theorem spec_l07Zero_ev : Does cp n_spec_l07Zero [] [.agg (eP (0, 0, true))] := Ev.fn (fun k => F_spec_l07Zero k) (Ev.now _)
theorem spec_l07Add_ev (p r : Pt) : Does cp n_spec_l07Add [.agg (eP p), .agg (eP r)] [.agg (eP (pAdd p r))] := by
  refine Ev.fn (fun k => F_spec_l07Add k p.1 p.2.1 p.2.2 r.1 r.2.1 r.2.2) ?_
  unfold pAdd
  refine Ev.b (fun h1 => ?_) (fun h1 => ?_)
  · rw [if_pos h1]; exact Ev.now _
  rw [if_neg (by rw [h1]; simp)]
  refine Ev.b (fun h2 => ?_) (fun h2 => ?_)
  · rw [if_pos h2]; exact Ev.now _
  rw [if_neg (by rw [h2]; simp)]
  refine Ev.c (spec_l07Slope_ev p r) ?_
  by_cases h3 : (slope p r).2 = true
  · rw [if_pos h3]
    exact Ev.f (by show notB (slope p r).2 = false; rw [h3]; rfl) (Ev.c (spec_FpMul_ev _ _) (Ev.c (spec_FpSub_ev _ _) (Ev.c (spec_FpSub_ev _ _) (Ev.c (spec_FpSub_ev _ _) (Ev.c (spec_FpMul_ev _ _) (Ev.c (spec_FpSub_ev _ _) (Ev.now _)))))))
  · rw [if_neg h3]
    exact Ev.t (by show notB (slope p r).2 = true; rw [Bool.not_eq_true] at h3; rw [h3]; rfl) (Ev.c spec_l07Zero_ev (Ev.now _))
theorem impl_add_ev (p r : Pt) (hp : pRight p) (hr : pRight r) : Does cp n_impl_add [.agg (eP p), .agg (eP r)] [.agg (eP (pAdd p r))] := by
  refine Ev.fn (fun k => F_impl_add k p.1 p.2.1 p.2.2 r.1 r.2.1 r.2.2) ?_
  unfold pAdd
  refine Ev.b (fun h1 => ?_) (fun h1 => ?_)
  · rw [if_pos h1]; exact Ev.now _
  rw [if_neg (by rw [h1]; simp)]
  refine Ev.b (fun h2 => ?_) (fun h2 => ?_)
  · rw [if_pos h2]; exact Ev.now _
  rw [if_neg (by rw [h2]; simp)]
  refine Ev.c (impl_slopeOf_ev p r hp hr (by rw [h1]; simp) (by rw [h2]; simp)) ?_
  by_cases h3 : (slope p r).2 = true
  · rw [if_pos h3]
    exact Ev.f (by show notB (slope p r).2 = false; rw [h3]; rfl) (Ev.c (impl_FpMul_ev _ _) (Ev.c (impl_FpSub_ev _ _) (Ev.c (impl_FpSub_ev _ _) (Ev.c (impl_FpSub_ev _ _) (Ev.c (impl_FpMul_ev _ _) (Ev.c (impl_FpSub_ev _ _) (Ev.now _)))))))
  · rw [if_neg h3]
    exact Ev.t (by show notB (slope p r).2 = true; rw [Bool.not_eq_true] at h3; rw [h3]; rfl) (Ev.now _)
theorem spec_PointNeg_ev (p : Pt) : Does cp n_spec_PointNeg [.agg (eP p)] [.agg (eP (pNeg p))] := by
  refine Ev.fn (fun k => F_spec_PointNeg k p.1 p.2.1 p.2.2) ?_
  unfold pNeg
  refine Ev.b (fun h1 => ?_) (fun h1 => ?_)
  · rw [if_pos h1]; exact Ev.c spec_l07Zero_ev (Ev.now _)
  · rw [if_neg (by rw [h1]; simp)]
    exact Ev.c (spec_FpSub_ev _ _) (Ev.now _)

theorem spec_PointTimes_l (f : Nat) (z : Pt) : ∀ (n : Nat) (b acc : Pt), n < 2 ^ f → n < 1000000 → pRight b → pRight acc →
    Ev (fun k m _ _ => L_spec_PointTimes_0 k m (n : Int) b.1 b.2.1 b.2.2 acc.1 acc.2.1 acc.2.2 z.1 z.2.1 z.2.2) [.agg (eP (pLoop f n b acc))] := by
  induction f with
  | zero =>
    intro n b acc hn _ _ _
    rw [pLoop]
    exact Ev.step (fun k m _ _ => L_spec_PointTimes_0_s k m _ _ _ _ _ _ _ _ _ _) (Ev.f (ltI_f (by omega)) (Ev.now _))
  | succ f ih =>
    intro n b acc hn hn2 hb ha
    rw [pLoop]
    by_cases h0 : n = 0
    · rw [if_pos h0]
      exact Ev.step (fun k m _ _ => L_spec_PointTimes_0_s k m _ _ _ _ _ _ _ _ _ _) (Ev.f (ltI_f (by omega)) (Ev.now _))
    rw [if_neg h0]
    have hf : n / 2 < 2 ^ f := by rw [Nat.pow_succ] at hn; omega
    refine Ev.step (fun k m _ _ => L_spec_PointTimes_0_s k m _ _ _ _ _ _ _ _ _ _) (Ev.t (ltI_t (by omega)) ?_)
    simp only [quo2 hn2, rem2]
    by_cases h1 : n % 2 = 1
    · rw [if_pos h1]
      exact Ev.t (eqI_t (by omega)) (Ev.c (spec_l07Add_ev acc b) (Ev.c (spec_l07Add_ev b b) (ih _ _ _ hf (by omega) (pAdd_right hb hb) (pAdd_right ha hb))))
    · rw [if_neg h1]
      exact Ev.f (eqI_f (by omega)) (Ev.c (spec_l07Add_ev b b) (ih _ _ _ hf (by omega) (pAdd_right hb hb) ha))
theorem spec_PointTimes_ev (n : Nat) (p : Pt) (hn : n < 12108) : Does cp n_spec_PointTimes [.int .i64 (n : Int), .agg (eP p)] [.agg (eP (pTimes n p))] := by
  refine Ev.fn (fun k => F_spec_PointTimes k n p.1 p.2.1 p.2.2) (Ev.c (spec_PointOk_ev p) ?_)
  unfold pTimes
  have e : remI (n : Int) 12108 = n := by rw [remI_d, tmod_pos (by omega)]; omega
  simp only [e]
  by_cases h : pOk p = true
  · rw [if_pos h]
    refine Ev.f (by show notB (pOk p) = false; rw [h]; rfl) (Ev.f (ltI_f (by omega)) (Ev.c spec_l07Zero_ev ?_))
    exact (spec_PointTimes_l 64 (0, 0, false) n p (0, 0, true) (by omega) (by omega) ((pOk_iff p).1 h) pRight_zero).l0
  · rw [if_neg h]
    exact Ev.t (by show notB (pOk p) = true; rw [Bool.not_eq_true] at h; rw [h]; rfl) (Ev.c spec_l07Zero_ev (Ev.now _))
theorem impl_PointTimes_l (f : Nat) (z : Pt) : ∀ (n : Nat) (b acc : Pt), n < 2 ^ f → n < 1000000 → pRight b → pRight acc →
    Ev (fun k m _ _ => L_impl_PointTimes_0 k m (n : Int) b.1 b.2.1 b.2.2 acc.1 acc.2.1 acc.2.2 z.1 z.2.1 z.2.2) [.agg (eP (pLoop f n b acc))] := by
  induction f with
  | zero =>
    intro n b acc hn _ _ _
    rw [pLoop]
    exact Ev.step (fun k m _ _ => L_impl_PointTimes_0_s k m _ _ _ _ _ _ _ _ _ _) (Ev.f (ltI_f (by omega)) (Ev.now _))
  | succ f ih =>
    intro n b acc hn hn2 hb ha
    rw [pLoop]
    by_cases h0 : n = 0
    · rw [if_pos h0]
      exact Ev.step (fun k m _ _ => L_impl_PointTimes_0_s k m _ _ _ _ _ _ _ _ _ _) (Ev.f (ltI_f (by omega)) (Ev.now _))
    rw [if_neg h0]
    have hf : n / 2 < 2 ^ f := by rw [Nat.pow_succ] at hn; omega
    refine Ev.step (fun k m _ _ => L_impl_PointTimes_0_s k m _ _ _ _ _ _ _ _ _ _) (Ev.t (ltI_t (by omega)) ?_)
    simp only [quo2 hn2, rem2]
    by_cases h1 : n % 2 = 1
    · rw [if_pos h1]
      exact Ev.t (eqI_t (by omega)) (Ev.c (impl_add_ev acc b ha hb) (Ev.c (impl_add_ev b b hb hb) (ih _ _ _ hf (by omega) (pAdd_right hb hb) (pAdd_right ha hb))))
    · rw [if_neg h1]
      exact Ev.f (eqI_f (by omega)) (Ev.c (impl_add_ev b b hb hb) (ih _ _ _ hf (by omega) (pAdd_right hb hb) ha))
theorem impl_PointTimes_ev (n : Nat) (p : Pt) (hn : n < 12108) : Does cp n_impl_PointTimes [.int .i64 (n : Int), .agg (eP p)] [.agg (eP (pTimes n p))] := by
  refine Ev.fn (fun k => F_impl_PointTimes k n p.1 p.2.1 p.2.2) (Ev.c (impl_PointOk_ev p) ?_)
  unfold pTimes
  by_cases h : pOk p = true
  · rw [if_pos h]
    refine Ev.f (by show notB (pOk p) = false; rw [h]; rfl) (Ev.c (impl_remainder_ev _ _ (by omega) (by omega)) ?_)
    have e : (n : Int) % 12108 = n := by omega
    simp only [hdV_c, tlV_c, parts1_a, asInt_i, asBool_b, asStr_s, asLen_f, asCells_f, e]
    exact (impl_PointTimes_l 64 (0, 0, false) n p (0, 0, true) (by omega) (by omega) ((pOk_iff p).1 h) pRight_zero).l0
  · rw [if_neg h]
    exact Ev.t (by show notB (pOk p) = true; rw [Bool.not_eq_true] at h; rw [h]; rfl) (Ev.now _)
theorem spec_InGroup_ev (p : Pt) : Does cp n_spec_InGroup [.agg (eP p)] [.bool (pIn p)] := by
  refine Ev.fn (fun k => F_spec_InGroup k p.1 p.2.1 p.2.2) (Ev.c (spec_PointOk_ev p) ?_)
  unfold pIn
  refine Ev.b (fun h => ?_) (fun h => ?_)
  · rw [if_pos (show pOk p = true from h)]; exact Ev.c (spec_PointTimes_ev 1009 p (by omega)) (Ev.now _)
  · rw [if_neg (by rw [show pOk p = false from h]; simp)]; exact Ev.now _
theorem impl_InGroup_ev (p : Pt) : Does cp n_impl_InGroup [.agg (eP p)] [.bool (pIn p)] := by
  refine Ev.fn (fun k => F_impl_InGroup k p.1 p.2.1 p.2.2) (Ev.c (impl_PointOk_ev p) ?_)
  unfold pIn
  refine Ev.b (fun h => ?_) (fun h => ?_)
  · rw [if_pos (show pOk p = true from h)]; exact Ev.c (impl_PointTimes_ev 1009 p (by omega)) (Ev.now _)
  · rw [if_neg (by rw [show pOk p = false from h]; simp)]; exact Ev.now _

def headOk (s : Int) (p t b : ByteArray) : Bool := decide (0 ≤ s ∧ s ≤ 10000) && (decide (p.size = 32) && (decide (t.size = 32) && decide (b.size = 32)))
theorem eq32 (b : ByteArray) : eqI (lenI (lenS b)) 32 = decide (b.size = 32) := by
  rw [eqI_d, lenI_c, lenS_d]; exact decide_eq_decide.2 (by omega)
theorem spec_HeadOk_ev (s : Int) (p t b : ByteArray) : Does cp n_spec_HeadOk [.agg [.int .i64 s, .str p, .str t, .str b]] [.bool (headOk s p t b)] := by
  refine Ev.fn (fun k => F_spec_HeadOk k s p t b) (Ev.c (spec_l01In_ev _ _ _) ?_)
  simp only [eq32]
  exact Ev.ap fun _ => Ev.ap fun _ => Ev.ap fun _ => Ev.now _
theorem impl_isSlot_ev (s : Int) : Does cp n_impl_isSlot [.int .i64 s] [.bool (decide (0 ≤ s ∧ s ≤ 10000))] := by
  refine Ev.fn (fun k => F_impl_isSlot k s) (Ev.b (fun h0 => Ev.some_ ?_) (fun h0 => Ev.some_ ?_))
  · have := leI_to h0
    rw [leI_d]; congr 2; rw [decide_eq_decide]; omega
  · have := leI_fo h0
    rw [decide_eq_false (by omega)]
theorem impl_isBits_ev (s : Int) : Does cp n_impl_isBits [.int .i64 s] [.bool (decide (0 ≤ s ∧ s ≤ 255))] := by
  refine Ev.fn (fun k => F_impl_isBits k s) (Ev.b (fun h0 => Ev.some_ ?_) (fun h0 => Ev.some_ ?_))
  · have := leI_to h0
    rw [leI_d]; congr 2; rw [decide_eq_decide]; omega
  · have := leI_fo h0
    rw [decide_eq_false (by omega)]
theorem impl_isDigest_ev (b : ByteArray) : Does cp n_impl_isDigest [.str b] [.bool (decide (b.size = 32))] :=
  Ev.fn (fun k => F_impl_isDigest k b) (Ev.some_ (by rw [eq32]))
theorem impl_HeadOk_ev (s : Int) (p t b : ByteArray) : Does cp n_impl_HeadOk [.agg [.int .i64 s, .str p, .str t, .str b]] [.bool (headOk s p t b)] :=
  Ev.fn (fun k => F_impl_HeadOk k s p t b) (Ev.c (impl_isSlot_ev _) (Ev.ap fun _ => Ev.c (impl_isDigest_ev _) (Ev.ap fun _ => Ev.c (impl_isDigest_ev _) (Ev.ap fun _ => Ev.c (impl_isDigest_ev _) (Ev.now _)))))
def branchOk (l : List ByteArray) : Bool := l.all (fun s => decide (s.size = 32)) && decide (l.length = 2)
theorem spec_BranchOk_l (l : List ByteArray) (hl : l.length ≤ 1048576) (d : Nat) : ∀ i : Nat, i + d = l.length →
    Ev (fun k m _ _ => L_spec_BranchOk_0 k m l.length (l.flatMap eS) (i : Int)) [.bool ((l.drop i).all (fun s => decide (s.size = 32)) && decide (l.length = 2))] := by
  induction d with
  | zero =>
    intro i hi
    refine Ev.step (fun k m _ _ => L_spec_BranchOk_0_s k m _ _ _) (Ev.f (ltI_f (by rw [lenI_c]; omega)) (Ev.some_ ?_))
    rw [List.drop_eq_nil_of_le (by omega), List.all_nil, Bool.true_and, eqI_d, lenI_c]
    congr 2; rw [decide_eq_decide]; omega
  | succ d ih =>
    intro i hi
    have c0 : cellAt (l.flatMap eS) (mulN (natI (i : Int)) 1) = .str (l[i]'(by omega)) := cell_enc0 eS_len (by omega) (by decide)
    refine Ev.step (fun k m _ _ => L_spec_BranchOk_0_s k m _ _ _) (Ev.t (ltI_t (by rw [lenI_c]; omega)) (Ev.g (inR_n (by omega)) ?_))
    simp only [c0, hdV_c, tlV_c, parts1_a, asInt_i, asBool_b, asStr_s, asLen_f, asCells_f, eq32, wrS (show i < 9223372036854775807 by omega)]
    rw [List.drop_eq_getElem_cons (show i < l.length by omega), List.all_cons, Bool.and_assoc]
    exact Ev.g rfl (Ev.an fun _ => ih (i + 1) (by omega))
theorem spec_BranchOk_ev (l : List ByteArray) (hl : l.length ≤ 1048576) : Does cp n_spec_BranchOk [.fs l.length (l.flatMap eS)] [.bool (branchOk l)] :=
  Ev.fn (fun k => F_spec_BranchOk k _ _) (spec_BranchOk_l l hl l.length 0 (by omega)).l0
theorem impl_BranchOk_ev (l : List ByteArray) : Does cp n_impl_BranchOk [.fs l.length (l.flatMap eS)] [.bool (branchOk l)] := by
  refine Ev.fn (fun k => F_impl_BranchOk k _ _) ?_
  by_cases h : l.length = 2
  · obtain ⟨a, b, rfl⟩ : ∃ a b, l = [a, b] := by
      match l, h with
      | [a, b], _ => exact ⟨a, b, rfl⟩
    rw [show branchOk [a, b] = (decide (a.size = 32) && decide (b.size = 32)) by simp [branchOk]]
    refine Ev.t (eqI_t rfl) ?_
    have c0 : cellAt ([a, b].flatMap eS) 0 = .str a := rfl
    have c1 : cellAt ([a, b].flatMap eS) 1 = .str b := rfl
    simp only [c0, c1]
    exact Ev.g rfl (Ev.g rfl (Ev.c (impl_isDigest_ev a) (Ev.ap fun _ => Ev.g rfl (Ev.g rfl (Ev.c (impl_isDigest_ev b) (Ev.now _))))))
  · refine Ev.f (eqI_f (by rw [lenI_c]; omega)) (Ev.some_ ?_)
    rw [branchOk, decide_eq_false h, Bool.and_false]
def keyOk (p : Pt) : Bool := pIn p && !p.2.2
def comOk (ks : List Pt) : Bool := decide (ks.length = 8) && ks.all keyOk
theorem spec_CommitteeOk_l (ks : List Pt) (hl : ks.length ≤ 1048576) (d : Nat) : ∀ i : Nat, i + d = ks.length →
    Ev (fun k m _ _ => L_spec_CommitteeOk_0 k m (i : Int) ks.length (ks.flatMap eP)) [.bool ((ks.drop i).all keyOk && decide (ks.length = 8))] := by
  induction d with
  | zero =>
    intro i hi
    refine Ev.step (fun k m _ _ => L_spec_CommitteeOk_0_s k m _ _ _) (Ev.f (ltI_f (by rw [lenI_c]; omega)) (Ev.some_ ?_))
    rw [List.drop_eq_nil_of_le (by omega), List.all_nil, Bool.true_and, eqI_d, lenI_c]
    congr 2; rw [decide_eq_decide]; omega
  | succ d ih =>
    intro i hi
    have c0 : cellAt (ks.flatMap eP) (mulN (natI (i : Int)) 3) = .int .i64 (ks[i]'(by omega)).1 := cell_enc0 eP_len (by omega) (by decide)
    have c1 : cellAt (ks.flatMap eP) (addN (mulN (natI (i : Int)) 3) 1) = .int .i64 (ks[i]'(by omega)).2.1 := cell_enc eP_len (by omega) 1 (by decide)
    have c2 : cellAt (ks.flatMap eP) (addN (mulN (natI (i : Int)) 3) 2) = .bool (ks[i]'(by omega)).2.2 := cell_enc eP_len (by omega) 2 (by decide)
    refine Ev.step (fun k m _ _ => L_spec_CommitteeOk_0_s k m _ _ _) (Ev.t (ltI_t (by rw [lenI_c]; omega)) (Ev.g (inR_n (by omega)) ?_))
    simp only [c0, c1, c2, hdV_c, tlV_c, parts1_a, asInt_i, asBool_b, asStr_s, asLen_f, asCells_f, wrS (show i < 9223372036854775807 by omega)]
    rw [List.drop_eq_getElem_cons (show i < ks.length by omega), List.all_cons, keyOk, Bool.and_assoc, Bool.and_assoc]
    exact Ev.g rfl (Ev.c (spec_InGroup_ev (ks[i]'(by omega))) (Ev.an fun _ => Ev.g (inR_n (by omega)) (Ev.g rfl (Ev.na fun _ => ih (i + 1) (by omega)))))
theorem spec_CommitteeOk_ev (ks : List Pt) (hl : ks.length ≤ 1048576) : Does cp n_spec_CommitteeOk [.agg [.fs ks.length (ks.flatMap eP)]] [.bool (comOk ks)] :=
  Ev.fn (fun k => F_spec_CommitteeOk k _ _) ((spec_CommitteeOk_l ks hl ks.length 0 (by omega)).to (by rw [comOk, Bool.and_comm]; rfl)).l0
theorem impl_CommitteeOk_l (ks : List Pt) (hl : ks.length ≤ 1048576) (d : Nat) : ∀ i : Nat, i + d = ks.length →
    Ev (fun k m _ _ => L_impl_CommitteeOk_0 k m ks.length (ks.flatMap eP) (lenI ks.length) (i : Int)) [.bool ((ks.drop i).all keyOk)] := by
  induction d with
  | zero =>
    intro i hi
    refine Ev.step (fun k m _ _ => L_impl_CommitteeOk_0_s k m _ _ _ _) (Ev.f (ltI_f (by rw [lenI_c]; omega)) (Ev.some_ ?_))
    rw [List.drop_eq_nil_of_le (by omega), List.all_nil]
  | succ d ih =>
    intro i hi
    have c0 : cellAt (ks.flatMap eP) (mulN (natI (i : Int)) 3) = .int .i64 (ks[i]'(by omega)).1 := cell_enc0 eP_len (by omega) (by decide)
    have c1 : cellAt (ks.flatMap eP) (addN (mulN (natI (i : Int)) 3) 1) = .int .i64 (ks[i]'(by omega)).2.1 := cell_enc eP_len (by omega) 1 (by decide)
    have c2 : cellAt (ks.flatMap eP) (addN (mulN (natI (i : Int)) 3) 2) = .bool (ks[i]'(by omega)).2.2 := cell_enc eP_len (by omega) 2 (by decide)
    refine Ev.step (fun k m _ _ => L_impl_CommitteeOk_0_s k m _ _ _ _) (Ev.t (ltI_t (by rw [lenI_c]; omega)) (Ev.g (inR_n (by omega)) ?_))
    simp only [c0, c1, c2, hdV_c, tlV_c, parts1_a, asInt_i, asBool_b, asStr_s, asLen_f, asCells_f, wrS (show i < 9223372036854775807 by omega)]
    rw [List.drop_eq_getElem_cons (show i < ks.length by omega), List.all_cons, keyOk, Bool.and_comm (pIn _), Bool.and_assoc]
    exact Ev.g rfl (Ev.na fun _ => Ev.c (impl_InGroup_ev (ks[i]'(by omega))) (Ev.an fun _ => ih (i + 1) (by omega)))
theorem impl_CommitteeOk_ev (ks : List Pt) (hl : ks.length ≤ 1048576) : Does cp n_impl_CommitteeOk [.agg [.fs ks.length (ks.flatMap eP)]] [.bool (comOk ks)] := by
  refine Ev.fn (fun k => F_impl_CommitteeOk k _ _) ?_
  have e : eqI (lenI ks.length) 8 = decide (ks.length = 8) := by rw [eqI_d, lenI_c, decide_eq_decide]; omega
  simp only [e]
  exact Ev.an fun _ => (impl_CommitteeOk_l ks hl ks.length 0 (by omega)).l0

theorem wr_u8 (n : Int) : wr .u8 n = n % 256 := by unfold wr; rw [IntKind.wrap_u8]
theorem shr8 (a : Int) : shrI .i64 a 8 = a / 256 := by
  show a.fdiv (2 ^ 8) = a / 256
  rw [Int.fdiv_eq_ediv_of_nonneg _ (by omega)]
  rfl
theorem strOf_nums (l : List Int) : strOf (l.map fun n => .int .u8 n) = strOfNums l := by
  unfold strOf strOfNums
  rw [List.map_map]; rfl
theorem pbytes (p : Pt) : strOf (cutC [AV.int .u8 (wr .u8 (shrI .i64 (wr .i64 (addI p.1 1)) 8)), AV.int .u8 (wr .u8 (wr .i64 (addI p.1 1))), AV.int .u8 (wr .u8 (remI p.2.1 2))] 0 3) = strOfNums [((wrap64 (p.1 + 1)) / 256) % 256, (wrap64 (p.1 + 1)) % 256, (Int.tmod p.2.1 2) % 256] := by
  simp only [wr_u8, shr8, wr_64, addI_d, remI_d]
  exact strOf_nums [_, _, _]
theorem impl_PointText_ev (p : Pt) : Does cp n_impl_PointText [.agg (eP p)] [.str (pText p)] := by
  refine Ev.fn (fun k => F_impl_PointText k p.1 p.2.1 p.2.2) (Ev.c (impl_PointOk_ev p) ?_)
  unfold pText
  by_cases h : pOk p = true
  · rw [if_pos h]
    refine Ev.f (by show notB (pOk p) = false; rw [h]; rfl) (Ev.b (fun h1 => ?_) (fun h1 => ?_))
    · rw [if_pos h1]; exact Ev.now _
    · rw [if_neg (by rw [h1]; simp), ← pbytes]
      exact Ev.g rfl (Ev.now _)
  · rw [if_neg h]
    exact Ev.t (by show notB (pOk p) = true; rw [Bool.not_eq_true] at h; rw [h]; rfl) (Ev.now _)
def proofText (a b c : Pt) : ByteArray × Bool :=
  if pIn a = true ∧ pIn b = true ∧ pIn c = true then (pText a ++ pText b ++ pText c, true) else ((⟨#[]⟩ : ByteArray), false)
theorem proofText_snd (a b c : Pt) : (proofText a b c).2 = (pIn a && (pIn b && pIn c)) := by
  unfold proofText
  by_cases h : pIn a = true ∧ pIn b = true ∧ pIn c = true
  · rw [if_pos h, h.1, h.2.1, h.2.2]; rfl
  · rw [if_neg h]
    cases ha : pIn a <;> cases hb : pIn b <;> cases hc : pIn c <;> simp_all
theorem fitS_small {a b : ByteArray} (h : a.size + b.size ≤ 4294967296) : fitS a b = true := by
  unfold fitS
  exact decide_eq_true (by show ((a.size + b.size : Nat) : Int) ≤ 9223372036854775807; omega)
theorem impl_ProofText_ev (a b c : Pt) : Does cp n_impl_ProofText [.agg [.int .i64 a.1, .int .i64 a.2.1, .bool a.2.2, .int .i64 b.1, .int .i64 b.2.1, .bool b.2.2, .int .i64 c.1, .int .i64 c.2.1, .bool c.2.2]] [.str (proofText a b c).1, .bool (proofText a b c).2] := by
  refine Ev.fn (fun k => F_impl_ProofText k _ _ _ _ _ _ _ _ _) ?_
  unfold proofText
  have sa := pText_size a
  have sb := pText_size b
  have sc := pText_size c
  refine Ev.c (impl_InGroup_ev a) ?_
  by_cases ha : pIn a = true
  · refine Ev.f (by show notB (pIn a) = false; rw [ha]; rfl) (Ev.c (impl_InGroup_ev b) ?_)
    by_cases hb : pIn b = true
    · refine Ev.f (by show notB (pIn b) = false; rw [hb]; rfl) (Ev.c (impl_InGroup_ev c) ?_)
      by_cases hc : pIn c = true
      · rw [if_pos ⟨ha, hb, hc⟩]
        refine Ev.f (by show notB (pIn c) = false; rw [hc]; rfl) (Ev.c (impl_PointText_ev a) (Ev.c (impl_PointText_ev b) (Ev.g ?_ (Ev.c (impl_PointText_ev c) (Ev.g ?_ (Ev.now _))))))
        · exact fitS_small (by simp only [hdV_c, tlV_c, parts1_a, asInt_i, asBool_b, asStr_s, asLen_f, asCells_f]; omega)
        · exact fitS_small (by simp only [hdV_c, tlV_c, parts1_a, asInt_i, asBool_b, asStr_s, asLen_f, asCells_f, catS, ByteArray.size_append]; omega)
      · rw [if_neg (fun q => hc q.2.2)]
        exact Ev.t (by show notB (pIn c) = true; rw [Bool.not_eq_true] at hc; rw [hc]; rfl) (Ev.now _)
    · rw [if_neg (fun q => hb q.2.1)]
      exact Ev.t (by show notB (pIn b) = true; rw [Bool.not_eq_true] at hb; rw [hb]; rfl) (Ev.now _)
  · rw [if_neg (fun q => ha q.1)]
    exact Ev.t (by show notB (pIn a) = true; rw [Bool.not_eq_true] at ha; rw [ha]; rfl) (Ev.now _)

def updateOk (s1 : Int) (p1 t1 b1 : ByteArray) (ks : List Pt) (nb : List ByteArray) (s2 : Int) (p2 t2 b2 : ByteArray) (fb : List ByteArray) (bits : Int) (sg a b c : Pt) (sn : Int) : Bool :=
  headOk s1 p1 t1 b1 && (headOk s2 p2 t2 b2 && (comOk ks && (branchOk nb && (branchOk fb && (decide (0 ≤ bits ∧ bits ≤ 255) && (pIn sg && (pIn a && (pIn b && (pIn c && decide (0 ≤ sn ∧ sn ≤ 10000))))))))))
def aUpd (s1 : Int) (p1 t1 b1 : ByteArray) (ks : List Pt) (nb : List ByteArray) (s2 : Int) (p2 t2 b2 : ByteArray) (fb : List ByteArray) (bits : Int) (sg a b c : Pt) (sn : Int) : AV :=
  .agg [.int .i64 s1, .str p1, .str t1, .str b1, .fs ks.length (ks.flatMap eP), .fs nb.length (nb.flatMap eS), .int .i64 s2, .str p2, .str t2, .str b2, .fs fb.length (fb.flatMap eS), .int .i64 bits, .int .i64 sg.1, .int .i64 sg.2.1, .bool sg.2.2, .int .i64 a.1, .int .i64 a.2.1, .bool a.2.2, .int .i64 b.1, .int .i64 b.2.1, .bool b.2.2, .int .i64 c.1, .int .i64 c.2.1, .bool c.2.2, .int .i64 sn]
theorem spec_UpdateOk_ev (s1 : Int) (p1 t1 b1 : ByteArray) (ks : List Pt) (nb : List ByteArray) (s2 : Int) (p2 t2 b2 : ByteArray) (fb : List ByteArray) (bits : Int) (sg a b c : Pt) (sn : Int) (h1 : ks.length ≤ 1048576) (h2 : nb.length ≤ 1048576) (h3 : fb.length ≤ 1048576) :
    Does cp n_spec_UpdateOk [aUpd s1 p1 t1 b1 ks nb s2 p2 t2 b2 fb bits sg a b c sn] [.bool (updateOk s1 p1 t1 b1 ks nb s2 p2 t2 b2 fb bits sg a b c sn)] :=
  Ev.fn (fun k => F_spec_UpdateOk k _ _ _ _ _ _ _ _ _ _ _ _ _ _ _ _ _ _ _ _ _ _ _ _ _ _ _ _)
    (Ev.c (spec_HeadOk_ev _ _ _ _) (Ev.an fun _ => Ev.c (spec_HeadOk_ev _ _ _ _) (Ev.an fun _ => Ev.c (spec_CommitteeOk_ev ks h1) (Ev.an fun _ => Ev.c (spec_BranchOk_ev nb h2) (Ev.an fun _ => Ev.c (spec_BranchOk_ev fb h3) (Ev.an fun _ => Ev.c (spec_l01In_ev _ _ _) (Ev.ap fun _ =>
      Ev.c (spec_InGroup_ev sg) (Ev.ap fun _ => Ev.c (spec_InGroup_ev a) (Ev.ap fun _ => Ev.c (spec_InGroup_ev b) (Ev.ap fun _ => Ev.c (spec_InGroup_ev c) (Ev.ap fun _ => Ev.c (spec_l01In_ev _ _ _) (Ev.now _)))))))))))) 
theorem impl_UpdateOk_ev (s1 : Int) (p1 t1 b1 : ByteArray) (ks : List Pt) (nb : List ByteArray) (s2 : Int) (p2 t2 b2 : ByteArray) (fb : List ByteArray) (bits : Int) (sg a b c : Pt) (sn : Int) (h1 : ks.length ≤ 1048576) :
    Does cp n_impl_UpdateOk [aUpd s1 p1 t1 b1 ks nb s2 p2 t2 b2 fb bits sg a b c sn] [.bool (updateOk s1 p1 t1 b1 ks nb s2 p2 t2 b2 fb bits sg a b c sn)] := by
  refine Ev.fn (fun k => F_impl_UpdateOk k _ _ _ _ _ _ _ _ _ _ _ _ _ _ _ _ _ _ _ _ _ _ _ _ _ _ _ _) (Ev.to (Ev.c (impl_HeadOk_ev _ _ _ _) (Ev.an fun _ => Ev.c (impl_HeadOk_ev _ _ _ _) (Ev.an fun _ => Ev.c (impl_BranchOk_ev nb) (Ev.an fun _ => Ev.c (impl_BranchOk_ev fb) (Ev.an fun _ => Ev.c (impl_isBits_ev _) (Ev.an fun _ => Ev.c (impl_isSlot_ev _) (Ev.an fun _ =>
      Ev.c (impl_InGroup_ev sg) (Ev.an fun _ => Ev.c (impl_CommitteeOk_ev ks h1) (Ev.an fun _ => Ev.c (impl_ProofText_ev a b c) (Ev.now _)))))))))) ?_)
  show [AV.bool (headOk s1 p1 t1 b1 && (headOk s2 p2 t2 b2 && (branchOk nb && (branchOk fb && (decide (0 ≤ bits ∧ bits ≤ 255) && (decide (0 ≤ sn ∧ sn ≤ 10000) && (pIn sg && (comOk ks && (proofText a b c).2))))))))] = _
  rw [proofText_snd]
  unfold updateOk
  generalize headOk s1 p1 t1 b1 = q1
  generalize headOk s2 p2 t2 b2 = q2
  generalize branchOk nb = q3
  generalize branchOk fb = q4
  generalize decide (0 ≤ bits ∧ bits ≤ 255) = q5
  generalize decide (0 ≤ sn ∧ sn ≤ 10000) = q6
  generalize pIn sg = q7
  generalize comOk ks = q8
  generalize pIn a = q9
  generalize pIn b = q10
  generalize pIn c = q11
  congr 2
  cases q1 <;> cases q2 <;> cases q3 <;> cases q4 <;> cases q5 <;> cases q6 <;> cases q7 <;> cases q8 <;> simp [Bool.and_comm, Bool.and_assoc]

theorem laws_toHead_ev (x0 : Int) (x1 : ByteArray) (x2 : ByteArray) (x3 : ByteArray) : Does cp n_laws_toHead [.agg [.int .i64 x0, .str x1, .str x2, .str x3]] [.agg [.int .i64 x0, .str x1, .str x2, .str x3]] :=
  Ev.fn (fun k => F_laws_toHead k (x0) (x1) (x2) (x3) ) (Ev.now _)

theorem laws_toPoint_ev (x0 : Int) (x1 : Int) (x2 : Bool) : Does cp n_laws_toPoint [.agg [.int .i64 x0, .int .i64 x1, .bool x2]] [.agg [.int .i64 x0, .int .i64 x1, .bool x2]] :=
  Ev.fn (fun k => F_laws_toPoint k (x0) (x1) (x2) ) (Ev.now _)

theorem laws_toPointS_l (xs : List Pt) (hl : xs.length ≤ 1048576) (d : Nat) : ∀ i : Nat, i + d = xs.length →
    Ev (fun k m _ _ => L_laws_toPointS_0 k m xs.length (xs.flatMap eP) xs.length (i : Int) ((xs.take i).flatMap eP ++ (List.replicate d ([.int .i64 0, .int .i64 0, .bool false] : List AV)).flatten)) [.fs xs.length (xs.flatMap eP)] := by
  induction d with
  | zero =>
    intro i hi
    refine Ev.step (fun k m _ _ => L_laws_toPointS_0_s k m _ _ _ _ _) (Ev.f (ltI_f (by rw [lenI_c]; omega)) (Ev.some_ ?_))
    rw [List.replicate_zero, List.flatten_nil, List.append_nil, List.take_of_length_le (by omega), cut_all eP_len]
  | succ d ih =>
    intro i hi
    have c0 : cellAt (xs.flatMap eP) (mulN (natI (i : Int)) 3) = .int .i64 (xs[i]'(by omega)).1 := cell_enc0 eP_len (by omega) (by decide)
    have c1 : cellAt (xs.flatMap eP) (addN (mulN (natI (i : Int)) 3) 1) = .int .i64 (xs[i]'(by omega)).2.1 := cell_enc eP_len (by omega) 1 (by decide)
    have c2 : cellAt (xs.flatMap eP) (addN (mulN (natI (i : Int)) 3) 2) = .bool (xs[i]'(by omega)).2.2 := cell_enc eP_len (by omega) 2 (by decide)
    have hset : setMany ((xs.take i).flatMap eP ++ (List.replicate (d + 1) ([.int .i64 0, .int .i64 0, .bool false] : List AV)).flatten) (addN 0 (mulN (natI (i : Int)) 3)) ([.int .i64 (xs[i]'(by omega)).1, .int .i64 (xs[i]'(by omega)).2.1, .bool (xs[i]'(by omega)).2.2] : List AV) = (xs.take (i + 1)).flatMap eP ++ (List.replicate d ([.int .i64 0, .int .i64 0, .bool false] : List AV)).flatten := by
      rw [addN_d, Nat.zero_add, natI_c, mulN_d, ← take_next xs i (by omega)]
      have hp : (xs.take i).length = i := by rw [List.length_take]; omega
      have := fill_at eP_len (z := ([.int .i64 0, .int .i64 0, .bool false] : List AV)) rfl (xs.take i) (xs[i]'(by omega)) d
      rw [hp] at this
      exact this
    have hb : Nat.ble (Nat.succ (Nat.succ (Nat.succ (addN 0 (mulN (natI (i : Int)) 3))))) (List.length ((xs.take i).flatMap eP ++ (List.replicate (d + 1) ([.int .i64 0, .int .i64 0, .bool false] : List AV)).flatten)) = true := by
      rw [fill_len eP_len rfl, List.length_take]
      exact Nat.ble_eq_true_of_le (by rw [addN_d, natI_c, mulN_d, Nat.min_eq_left (by omega)]; omega)
    refine Ev.step (fun k m _ _ => L_laws_toPointS_0_s k m _ _ _ _ _) (Ev.t (ltI_t (by rw [lenI_c]; omega)) (Ev.g (inR_n (by omega)) ?_))
    simp only [c0, c1, c2, hdV_c, tlV_c, parts1_a, asInt_i, asBool_b, asStr_s, asLen_f, asCells_f]
    refine Ev.g rfl (Ev.c (laws_toPoint_ev (xs[i]'(by omega)).1 (xs[i]'(by omega)).2.1 (xs[i]'(by omega)).2.2) (Ev.g (inR_n (by omega)) (Ev.g hb ?_)))
    simp only [hdV_c, tlV_c, parts1_a, asInt_i, asBool_b, asStr_s, asLen_f, asCells_f, wrS (show i < 9223372036854775807 by omega), hset]
    exact ih (i + 1) (by omega)
theorem laws_toPointS_ev (xs : List Pt) (hl : xs.length ≤ 1048576) : Does cp n_laws_toPointS [.fs xs.length (xs.flatMap eP)] [.fs xs.length (xs.flatMap eP)] :=
  Ev.fn (fun k => F_laws_toPointS k _ _) (Ev.g (fit_small hl (by decide)) (laws_toPointS_l xs hl xs.length 0 (by omega)).l0)

theorem laws_toCommittee_ev (x0 : List Pt) (h_x0 : (x0.length ≤ 1048576)) : Does cp n_laws_toCommittee [.agg [.fs x0.length (x0.flatMap eP)]] [.agg [.fs x0.length (x0.flatMap eP)]] :=
  Ev.fn (fun k => F_laws_toCommittee k (x0).length ((x0).flatMap eP) ) (Ev.c (laws_toPointS_ev x0 h_x0) (Ev.now _))

theorem laws_toStringS_l (xs : List ByteArray) (hl : xs.length ≤ 1048576) (d : Nat) : ∀ i : Nat, i + d = xs.length →
    Ev (fun k m _ _ => L_laws_toStringS_0 k m xs.length (xs.flatMap eS) xs.length (i : Int) ((xs.take i).flatMap eS ++ (List.replicate d ([.str (ByteArray.mk (Array.mk []))] : List AV)).flatten)) [.fs xs.length (xs.flatMap eS)] := by
  induction d with
  | zero =>
    intro i hi
    refine Ev.step (fun k m _ _ => L_laws_toStringS_0_s k m _ _ _ _ _) (Ev.f (ltI_f (by rw [lenI_c]; omega)) (Ev.some_ ?_))
    rw [List.replicate_zero, List.flatten_nil, List.append_nil, List.take_of_length_le (by omega), cut_all eS_len]
  | succ d ih =>
    intro i hi
    have c0 : cellAt (xs.flatMap eS) (mulN (natI (i : Int)) 1) = .str (xs[i]'(by omega)) := cell_enc0 eS_len (by omega) (by decide)
    have hset : setMany ((xs.take i).flatMap eS ++ (List.replicate (d + 1) ([.str (ByteArray.mk (Array.mk []))] : List AV)).flatten) (addN 0 (mulN (natI (i : Int)) 1)) ([.str (xs[i]'(by omega))] : List AV) = (xs.take (i + 1)).flatMap eS ++ (List.replicate d ([.str (ByteArray.mk (Array.mk []))] : List AV)).flatten := by
      rw [addN_d, Nat.zero_add, natI_c, mulN_d, ← take_next xs i (by omega)]
      have hp : (xs.take i).length = i := by rw [List.length_take]; omega
      have := fill_at eS_len (z := ([.str (ByteArray.mk (Array.mk []))] : List AV)) rfl (xs.take i) (xs[i]'(by omega)) d
      rw [hp] at this
      exact this
    have hb : Nat.ble (Nat.succ (addN 0 (mulN (natI (i : Int)) 1))) (List.length ((xs.take i).flatMap eS ++ (List.replicate (d + 1) ([.str (ByteArray.mk (Array.mk []))] : List AV)).flatten)) = true := by
      rw [fill_len eS_len rfl, List.length_take]
      exact Nat.ble_eq_true_of_le (by rw [addN_d, natI_c, mulN_d, Nat.min_eq_left (by omega)]; omega)
    refine Ev.step (fun k m _ _ => L_laws_toStringS_0_s k m _ _ _ _ _) (Ev.t (ltI_t (by rw [lenI_c]; omega)) (Ev.g (inR_n (by omega)) ?_))
    simp only [c0, hdV_c, tlV_c, parts1_a, asInt_i, asBool_b, asStr_s, asLen_f, asCells_f]
    refine Ev.g rfl ((Ev.g (inR_n (by omega)) (Ev.g hb ?_)))
    simp only [hdV_c, tlV_c, parts1_a, asInt_i, asBool_b, asStr_s, asLen_f, asCells_f, wrS (show i < 9223372036854775807 by omega), hset]
    exact ih (i + 1) (by omega)
theorem laws_toStringS_ev (xs : List ByteArray) (hl : xs.length ≤ 1048576) : Does cp n_laws_toStringS [.fs xs.length (xs.flatMap eS)] [.fs xs.length (xs.flatMap eS)] :=
  Ev.fn (fun k => F_laws_toStringS k _ _) (Ev.g (fit_small hl (by decide)) (laws_toStringS_l xs hl xs.length 0 (by omega)).l0)

theorem laws_toProof_ev (x0 : Int) (x1 : Int) (x2 : Bool) (x3 : Int) (x4 : Int) (x5 : Bool) (x6 : Int) (x7 : Int) (x8 : Bool) : Does cp n_laws_toProof [.agg [.int .i64 x0, .int .i64 x1, .bool x2, .int .i64 x3, .int .i64 x4, .bool x5, .int .i64 x6, .int .i64 x7, .bool x8]] [.agg [.int .i64 x0, .int .i64 x1, .bool x2, .int .i64 x3, .int .i64 x4, .bool x5, .int .i64 x6, .int .i64 x7, .bool x8]] :=
  Ev.fn (fun k => F_laws_toProof k (x0) (x1) (x2) (x3) (x4) (x5) (x6) (x7) (x8) ) (Ev.c (laws_toPoint_ev x0 x1 x2) (Ev.c (laws_toPoint_ev x3 x4 x5) (Ev.c (laws_toPoint_ev x6 x7 x8) (Ev.now _))))

theorem laws_toUpdate_ev (x0 : Int) (x1 : ByteArray) (x2 : ByteArray) (x3 : ByteArray) (x4 : List Pt) (x5 : List ByteArray) (x6 : Int) (x7 : ByteArray) (x8 : ByteArray) (x9 : ByteArray) (x10 : List ByteArray) (x11 : Int) (x12 : Int) (x13 : Int) (x14 : Bool) (x15 : Int) (x16 : Int) (x17 : Bool) (x18 : Int) (x19 : Int) (x20 : Bool) (x21 : Int) (x22 : Int) (x23 : Bool) (x24 : Int) (h_x4 : (x4.length ≤ 1048576)) (h_x5 : (x5.length ≤ 1048576)) (h_x10 : (x10.length ≤ 1048576)) : Does cp n_laws_toUpdate [.agg [.int .i64 x0, .str x1, .str x2, .str x3, .fs x4.length (x4.flatMap eP), .fs x5.length (x5.flatMap eS), .int .i64 x6, .str x7, .str x8, .str x9, .fs x10.length (x10.flatMap eS), .int .i64 x11, .int .i64 x12, .int .i64 x13, .bool x14, .int .i64 x15, .int .i64 x16, .bool x17, .int .i64 x18, .int .i64 x19, .bool x20, .int .i64 x21, .int .i64 x22, .bool x23, .int .i64 x24]] [.agg [.int .i64 x0, .str x1, .str x2, .str x3, .fs x4.length (x4.flatMap eP), .fs x5.length (x5.flatMap eS), .int .i64 x6, .str x7, .str x8, .str x9, .fs x10.length (x10.flatMap eS), .int .i64 x11, .int .i64 x12, .int .i64 x13, .bool x14, .int .i64 x15, .int .i64 x16, .bool x17, .int .i64 x18, .int .i64 x19, .bool x20, .int .i64 x21, .int .i64 x22, .bool x23, .int .i64 x24]] :=
  Ev.fn (fun k => F_laws_toUpdate k (x0) (x1) (x2) (x3) (x4).length ((x4).flatMap eP) (x5).length ((x5).flatMap eS) (x6) (x7) (x8) (x9) (x10).length ((x10).flatMap eS) (x11) (x12) (x13) (x14) (x15) (x16) (x17) (x18) (x19) (x20) (x21) (x22) (x23) (x24) ) (Ev.c (laws_toHead_ev x0 x1 x2 x3) (Ev.c (laws_toCommittee_ev x4 h_x4) (Ev.c (laws_toStringS_ev x5 h_x5) (Ev.c (laws_toHead_ev x6 x7 x8 x9) (Ev.c (laws_toStringS_ev x10 h_x10) (Ev.c (laws_toPoint_ev x12 x13 x14) (Ev.c (laws_toProof_ev x15 x16 x17 x18 x19 x20 x21 x22 x23) (Ev.now _))))))))

theorem laws_eqHead_same (x0 : Int) (x1 : ByteArray) (x2 : ByteArray) (x3 : ByteArray) : Does cp n_laws_eqHead [.agg [.int .i64 x0, .str x1, .str x2, .str x3], .agg [.int .i64 x0, .str x1, .str x2, .str x3]] [.bool true] :=
  Ev.fn (fun k => F_laws_eqHead k (x0) (x1) (x2) (x3) (x0) (x1) (x2) (x3) ) (Ev.f (by rw [eqI_t rfl]; rfl) (Ev.f (by rw [eqS_t rfl]; rfl) (Ev.f (by rw [eqS_t rfl]; rfl) (Ev.f (by rw [eqS_t rfl]; rfl) (Ev.now _)))))

theorem laws_eqPoint_same (x0 : Int) (x1 : Int) (x2 : Bool) : Does cp n_laws_eqPoint [.agg [.int .i64 x0, .int .i64 x1, .bool x2], .agg [.int .i64 x0, .int .i64 x1, .bool x2]] [.bool true] :=
  Ev.fn (fun k => F_laws_eqPoint k (x0) (x1) (x2) (x0) (x1) (x2) ) (Ev.f (by rw [eqI_t rfl]; rfl) (Ev.f (by rw [eqI_t rfl]; rfl) (Ev.f (by rw [eqB_d]; simp [notB]) (Ev.now _))))

theorem laws_eqPointS_l (xs : List Pt) (hl : xs.length ≤ 1048576) (d : Nat) : ∀ i : Nat, i + d = xs.length →
    Ev (fun k m _ _ => L_laws_eqPointS_0 k m xs.length (xs.flatMap eP) xs.length (xs.flatMap eP) (i : Int)) [.bool true] := by
  induction d with
  | zero =>
    intro i hi
    exact Ev.step (fun k m _ _ => L_laws_eqPointS_0_s k m _ _ _ _ _) (Ev.f (ltI_f (by rw [lenI_c]; omega)) (Ev.now _))
  | succ d ih =>
    intro i hi
    have c0 : cellAt (xs.flatMap eP) (mulN (natI (i : Int)) 3) = .int .i64 (xs[i]'(by omega)).1 := cell_enc0 eP_len (by omega) (by decide)
    have c1 : cellAt (xs.flatMap eP) (addN (mulN (natI (i : Int)) 3) 1) = .int .i64 (xs[i]'(by omega)).2.1 := cell_enc eP_len (by omega) 1 (by decide)
    have c2 : cellAt (xs.flatMap eP) (addN (mulN (natI (i : Int)) 3) 2) = .bool (xs[i]'(by omega)).2.2 := cell_enc eP_len (by omega) 2 (by decide)
    refine Ev.step (fun k m _ _ => L_laws_eqPointS_0_s k m _ _ _ _ _) (Ev.t (ltI_t (by rw [lenI_c]; omega)) (Ev.g (inR_n (by omega)) ?_))
    simp only [c0, c1, c2, hdV_c, tlV_c, parts1_a, asInt_i, asBool_b, asStr_s, asLen_f, asCells_f]
    refine Ev.g rfl (Ev.g (inR_n (by omega)) (Ev.g rfl (Ev.c (laws_eqPoint_same (xs[i]'(by omega)).1 (xs[i]'(by omega)).2.1 (xs[i]'(by omega)).2.2) (Ev.f rfl ?_))))
    simp only [wrS (show i < 9223372036854775807 by omega)]
    exact ih (i + 1) (by omega)
theorem laws_eqPointS_same (xs : List Pt) (hl : xs.length ≤ 1048576) : Does cp n_laws_eqPointS [.fs xs.length (xs.flatMap eP), .fs xs.length (xs.flatMap eP)] [.bool true] :=
  Ev.fn (fun k => F_laws_eqPointS k _ _ _ _) (Ev.f (by rw [eqI_t rfl]; rfl) (laws_eqPointS_l xs hl xs.length 0 (by omega)).l0)

theorem laws_eqCommittee_same (x0 : List Pt) (h_x0 : (x0.length ≤ 1048576)) : Does cp n_laws_eqCommittee [.agg [.fs x0.length (x0.flatMap eP)], .agg [.fs x0.length (x0.flatMap eP)]] [.bool true] :=
  Ev.fn (fun k => F_laws_eqCommittee k (x0).length ((x0).flatMap eP) (x0).length ((x0).flatMap eP) ) (Ev.c (laws_eqPointS_same x0 h_x0) (Ev.f rfl (Ev.now _)))

theorem laws_eqStringS_l (xs : List ByteArray) (hl : xs.length ≤ 1048576) (d : Nat) : ∀ i : Nat, i + d = xs.length →
    Ev (fun k m _ _ => L_laws_eqStringS_0 k m xs.length (xs.flatMap eS) xs.length (xs.flatMap eS) (i : Int)) [.bool true] := by
  induction d with
  | zero =>
    intro i hi
    exact Ev.step (fun k m _ _ => L_laws_eqStringS_0_s k m _ _ _ _ _) (Ev.f (ltI_f (by rw [lenI_c]; omega)) (Ev.now _))
  | succ d ih =>
    intro i hi
    have c0 : cellAt (xs.flatMap eS) (mulN (natI (i : Int)) 1) = .str (xs[i]'(by omega)) := cell_enc0 eS_len (by omega) (by decide)
    refine Ev.step (fun k m _ _ => L_laws_eqStringS_0_s k m _ _ _ _ _) (Ev.t (ltI_t (by rw [lenI_c]; omega)) (Ev.g (inR_n (by omega)) ?_))
    simp only [c0, hdV_c, tlV_c, parts1_a, asInt_i, asBool_b, asStr_s, asLen_f, asCells_f]
    refine Ev.g rfl (Ev.g (inR_n (by omega)) (Ev.g rfl (Ev.f (by rw [eqS_t rfl]; rfl) ?_)))
    simp only [wrS (show i < 9223372036854775807 by omega)]
    exact ih (i + 1) (by omega)
theorem laws_eqStringS_same (xs : List ByteArray) (hl : xs.length ≤ 1048576) : Does cp n_laws_eqStringS [.fs xs.length (xs.flatMap eS), .fs xs.length (xs.flatMap eS)] [.bool true] :=
  Ev.fn (fun k => F_laws_eqStringS k _ _ _ _) (Ev.f (by rw [eqI_t rfl]; rfl) (laws_eqStringS_l xs hl xs.length 0 (by omega)).l0)

theorem laws_eqProof_same (x0 : Int) (x1 : Int) (x2 : Bool) (x3 : Int) (x4 : Int) (x5 : Bool) (x6 : Int) (x7 : Int) (x8 : Bool) : Does cp n_laws_eqProof [.agg [.int .i64 x0, .int .i64 x1, .bool x2, .int .i64 x3, .int .i64 x4, .bool x5, .int .i64 x6, .int .i64 x7, .bool x8], .agg [.int .i64 x0, .int .i64 x1, .bool x2, .int .i64 x3, .int .i64 x4, .bool x5, .int .i64 x6, .int .i64 x7, .bool x8]] [.bool true] :=
  Ev.fn (fun k => F_laws_eqProof k (x0) (x1) (x2) (x3) (x4) (x5) (x6) (x7) (x8) (x0) (x1) (x2) (x3) (x4) (x5) (x6) (x7) (x8) ) (Ev.c (laws_eqPoint_same x0 x1 x2) (Ev.f rfl (Ev.c (laws_eqPoint_same x3 x4 x5) (Ev.f rfl (Ev.c (laws_eqPoint_same x6 x7 x8) (Ev.f rfl (Ev.now _)))))))

theorem laws_eqUpdate_same (x0 : Int) (x1 : ByteArray) (x2 : ByteArray) (x3 : ByteArray) (x4 : List Pt) (x5 : List ByteArray) (x6 : Int) (x7 : ByteArray) (x8 : ByteArray) (x9 : ByteArray) (x10 : List ByteArray) (x11 : Int) (x12 : Int) (x13 : Int) (x14 : Bool) (x15 : Int) (x16 : Int) (x17 : Bool) (x18 : Int) (x19 : Int) (x20 : Bool) (x21 : Int) (x22 : Int) (x23 : Bool) (x24 : Int) (h_x4 : (x4.length ≤ 1048576)) (h_x5 : (x5.length ≤ 1048576)) (h_x10 : (x10.length ≤ 1048576)) : Does cp n_laws_eqUpdate [.agg [.int .i64 x0, .str x1, .str x2, .str x3, .fs x4.length (x4.flatMap eP), .fs x5.length (x5.flatMap eS), .int .i64 x6, .str x7, .str x8, .str x9, .fs x10.length (x10.flatMap eS), .int .i64 x11, .int .i64 x12, .int .i64 x13, .bool x14, .int .i64 x15, .int .i64 x16, .bool x17, .int .i64 x18, .int .i64 x19, .bool x20, .int .i64 x21, .int .i64 x22, .bool x23, .int .i64 x24], .agg [.int .i64 x0, .str x1, .str x2, .str x3, .fs x4.length (x4.flatMap eP), .fs x5.length (x5.flatMap eS), .int .i64 x6, .str x7, .str x8, .str x9, .fs x10.length (x10.flatMap eS), .int .i64 x11, .int .i64 x12, .int .i64 x13, .bool x14, .int .i64 x15, .int .i64 x16, .bool x17, .int .i64 x18, .int .i64 x19, .bool x20, .int .i64 x21, .int .i64 x22, .bool x23, .int .i64 x24]] [.bool true] :=
  Ev.fn (fun k => F_laws_eqUpdate k (x0) (x1) (x2) (x3) (x4).length ((x4).flatMap eP) (x5).length ((x5).flatMap eS) (x6) (x7) (x8) (x9) (x10).length ((x10).flatMap eS) (x11) (x12) (x13) (x14) (x15) (x16) (x17) (x18) (x19) (x20) (x21) (x22) (x23) (x24) (x0) (x1) (x2) (x3) (x4).length ((x4).flatMap eP) (x5).length ((x5).flatMap eS) (x6) (x7) (x8) (x9) (x10).length ((x10).flatMap eS) (x11) (x12) (x13) (x14) (x15) (x16) (x17) (x18) (x19) (x20) (x21) (x22) (x23) (x24) ) (Ev.c (laws_eqHead_same x0 x1 x2 x3) (Ev.f rfl (Ev.c (laws_eqCommittee_same x4 h_x4) (Ev.f rfl (Ev.c (laws_eqStringS_same x5 h_x5) (Ev.f rfl (Ev.c (laws_eqHead_same x6 x7 x8 x9) (Ev.f rfl (Ev.c (laws_eqStringS_same x10 h_x10) (Ev.f rfl (Ev.f (by rw [eqI_t rfl]; rfl) (Ev.c (laws_eqPoint_same x12 x13 x14) (Ev.f rfl (Ev.c (laws_eqProof_same x15 x16 x17 x18 x19 x20 x21 x22 x23) (Ev.f rfl (Ev.f (by rw [eqI_t rfl]; rfl) (Ev.now _)))))))))))))))))

theorem laws_szHead_ev (x0 : Int) (x1 : ByteArray) (x2 : ByteArray) (x3 : ByteArray) (h_x1 : x1.size ≤ 9223372036854775807) (h_x2 : x2.size ≤ 9223372036854775807) (h_x3 : x3.size ≤ 9223372036854775807) (v : Int) (h0 : 0 ≤ v) (h1 : v ≤ 1048576) :
    ∃ r, Does cp n_laws_szHead [.agg [.int .i64 x0, .str x1, .str x2, .str x3], .int .i64 v] [.int .i64 r] ∧ (0 ≤ r → r ≤ v ∧ x1.size ≤ 1048576 ∧ x2.size ≤ 1048576 ∧ x3.size ≤ 1048576) := by
  suffices h : ∃ r, Ev (fun k _ _ _ => evF cp (k + 1) n_laws_szHead [.agg [.int .i64 x0, .str x1, .str x2, .str x3], .int .i64 v]) [.int .i64 r] ∧ (0 ≤ r → r ≤ v ∧ x1.size ≤ 1048576 ∧ x2.size ≤ 1048576 ∧ x3.size ≤ 1048576) by
    obtain ⟨r, h, p⟩ := h; exact ⟨r, Ev.fn (fun _ => rfl) h, p⟩
  simp only [F_laws_szHead]
  have e2 : wr .i64 (subI v (lenI (lenS x1))) = v - (x1.size : Int) := by rw [subI_d, lenI_c, lenS_d, wr64 (by omega)]
  simp only [e2]
  by_cases c2 : v - (x1.size : Int) < 0
  · exact ⟨-1, Ev.t (ltI_t c2) (Ev.now _), fun h => by omega⟩
  have e3 : wr .i64 (subI (v - (x1.size : Int)) (lenI (lenS x2))) = (v - (x1.size : Int)) - (x2.size : Int) := by rw [subI_d, lenI_c, lenS_d, wr64 (by omega)]
  simp only [e3]
  by_cases c3 : (v - (x1.size : Int)) - (x2.size : Int) < 0
  · exact ⟨-1, Ev.f (ltI_f c2) (Ev.t (ltI_t c3) (Ev.now _)), fun h => by omega⟩
  have e4 : wr .i64 (subI ((v - (x1.size : Int)) - (x2.size : Int)) (lenI (lenS x3))) = ((v - (x1.size : Int)) - (x2.size : Int)) - (x3.size : Int) := by rw [subI_d, lenI_c, lenS_d, wr64 (by omega)]
  simp only [e4]
  by_cases c4 : ((v - (x1.size : Int)) - (x2.size : Int)) - (x3.size : Int) < 0
  · exact ⟨-1, Ev.f (ltI_f c2) (Ev.f (ltI_f c3) (Ev.t (ltI_t c4) (Ev.now _))), fun h => by omega⟩
  exact ⟨(((v - (x1.size : Int)) - (x2.size : Int)) - (x3.size : Int)), Ev.f (ltI_f c2) (Ev.f (ltI_f c3) (Ev.f (ltI_f c4) (Ev.now _))), fun h => ⟨by omega, (by omega), (by omega), (by omega)⟩⟩

theorem laws_szPointS_ev (xs : List Pt) (hl : xs.length ≤ 9223372036854775807) (v : Int) (h0 : 0 ≤ v) (h1 : v ≤ 1048576) : ∃ r, Does cp n_laws_szPointS [.fs xs.length (xs.flatMap eP), .int .i64 v] [.int .i64 r] ∧ (0 ≤ r → r ≤ v ∧ xs.length ≤ 1048576) := by
  have e : wr .i64 (subI v (lenI xs.length)) = v - (xs.length : Int) := by rw [subI_d, lenI_c, wr64 (by omega)]
  by_cases c : v - (xs.length : Int) < 0
  · exact ⟨-1, Ev.fn (fun k => F_laws_szPointS k _ _ _) (Ev.t (ltI_t (by rw [e]; exact c)) (Ev.now _)), fun h => by omega⟩
  · exact ⟨v - (xs.length : Int), Ev.fn (fun k => F_laws_szPointS k _ _ _) (Ev.f (ltI_f (by rw [e]; exact c)) (Ev.some_ (by rw [e]))), fun h => ⟨by omega, by omega⟩⟩

theorem laws_szCommittee_ev (x0 : List Pt) (h_x0 : (x0.length ≤ 9223372036854775807)) (v : Int) (h0 : 0 ≤ v) (h1 : v ≤ 1048576) :
    ∃ r, Does cp n_laws_szCommittee [.agg [.fs x0.length (x0.flatMap eP)], .int .i64 v] [.int .i64 r] ∧ (0 ≤ r → r ≤ v ∧ (x0.length ≤ 1048576)) := by
  suffices h : ∃ r, Ev (fun k _ _ _ => evF cp (k + 1) n_laws_szCommittee [.agg [.fs x0.length (x0.flatMap eP)], .int .i64 v]) [.int .i64 r] ∧ (0 ≤ r → r ≤ v ∧ (x0.length ≤ 1048576)) by
    obtain ⟨r, h, p⟩ := h; exact ⟨r, Ev.fn (fun _ => rfl) h, p⟩
  simp only [F_laws_szCommittee]
  obtain ⟨r1, e1, p1⟩ := laws_szPointS_ev x0 h_x0 v (by omega) (by omega)
  by_cases c1 : r1 < 0
  · exact ⟨-1, Ev.c e1 (Ev.t (ltI_t c1) (Ev.now _)), fun h => by omega⟩
  obtain ⟨g1, s1⟩ := p1 (by omega)
  exact ⟨r1, Ev.c e1 (Ev.f (ltI_f c1) (Ev.now _)), fun h => ⟨by omega, s1⟩⟩

theorem laws_szStringS_l (xs : List ByteArray) (hl : xs.length ≤ 1048576) (hs : ∀ y ∈ xs, y.size ≤ 9223372036854775807) (d : Nat) : ∀ (i : Nat) (v : Int), i + d = xs.length → 0 ≤ v → v ≤ 1048576 →
    ∃ r, Ev (fun k m _ _ => L_laws_szStringS_0 k m xs.length (xs.flatMap eS) (i : Int) v) [.int .i64 r] ∧ (0 ≤ r → r ≤ v ∧ ∀ y ∈ xs.drop i, y.size ≤ 1048576) := by
  induction d with
  | zero =>
    intro i v hi h0 h1
    refine ⟨v, Ev.step (fun k m _ _ => L_laws_szStringS_0_s k m _ _ _ _) (Ev.f (ltI_f (by rw [lenI_c]; omega)) (Ev.now _)), fun _ => ⟨by omega, ?_⟩⟩
    rw [List.drop_eq_nil_of_le (by omega)]
    simp
  | succ d ih =>
    intro i v hi h0 h1
    have c0 : cellAt (xs.flatMap eS) (mulN (natI (i : Int)) 1) = .str (xs[i]'(by omega)) := cell_enc0 eS_len (by omega) (by decide)
    have hm := hs _ (List.getElem_mem (show i < xs.length by omega))
    have e : wr .i64 (subI v (lenI (lenS (xs[i]'(by omega))))) = v - ((xs[i]'(by omega)).size : Int) := by rw [subI_d, lenI_c, lenS_d, wr64 (by omega)]
    by_cases hc : v - ((xs[i]'(by omega)).size : Int) < 0
    · refine ⟨-1, Ev.step (fun k m _ _ => L_laws_szStringS_0_s k m _ _ _ _) (Ev.t (ltI_t (by rw [lenI_c]; omega)) (Ev.g (inR_n (by omega)) ?_)), fun h => by omega⟩
      simp only [c0, hdV_c, tlV_c, parts1_a, asInt_i, asBool_b, asStr_s, asLen_f, asCells_f, e]
      exact Ev.g rfl (Ev.t (ltI_t hc) (Ev.now _))
    · obtain ⟨r, hr, hp⟩ := ih (i + 1) (v - ((xs[i]'(by omega)).size : Int)) (by omega) (by omega) (by omega)
      refine ⟨r, Ev.step (fun k m _ _ => L_laws_szStringS_0_s k m _ _ _ _) (Ev.t (ltI_t (by rw [lenI_c]; omega)) (Ev.g (inR_n (by omega)) ?_)), fun h => ?_⟩
      · simp only [c0, hdV_c, tlV_c, parts1_a, asInt_i, asBool_b, asStr_s, asLen_f, asCells_f, e, wrS (show i < 9223372036854775807 by omega)]
        exact Ev.g rfl (Ev.f (ltI_f hc) hr)
      obtain ⟨h2, h3⟩ := hp h
      refine ⟨by omega, ?_⟩
      rw [List.drop_eq_getElem_cons (show i < xs.length by omega)]
      intro s hs'
      rcases List.mem_cons.1 hs' with rfl | hs'
      · omega
      · exact h3 s hs'
theorem laws_szStringS_ev (xs : List ByteArray) (hl : xs.length ≤ 9223372036854775807) (hs : ∀ y ∈ xs, y.size ≤ 9223372036854775807) (v : Int) (h0 : 0 ≤ v) (h1 : v ≤ 1048576) :
    ∃ r, Does cp n_laws_szStringS [.fs xs.length (xs.flatMap eS), .int .i64 v] [.int .i64 r] ∧ (0 ≤ r → r ≤ v ∧ xs.length ≤ 1048576 ∧ ∀ y ∈ xs, y.size ≤ 1048576) := by
  have e : wr .i64 (subI v (lenI xs.length)) = v - (xs.length : Int) := by rw [subI_d, lenI_c, wr64 (by omega)]
  by_cases c : v - (xs.length : Int) < 0
  · exact ⟨-1, Ev.fn (fun k => F_laws_szStringS k _ _ _) (Ev.t (ltI_t (by rw [e]; exact c)) (Ev.now _)), fun h => by omega⟩
  · obtain ⟨r, hr, hp⟩ := laws_szStringS_l xs (by omega) hs xs.length 0 (v - (xs.length : Int)) (by omega) (by omega) (by omega)
    refine ⟨r, Ev.fn (fun k => F_laws_szStringS k _ _ _) (Ev.f (ltI_f (by rw [e]; exact c)) ?_), fun h => ?_⟩
    · simp only [e]
      exact hr.l0
    obtain ⟨h2, h3⟩ := hp h
    exact ⟨by omega, by omega, by simpa using h3⟩

theorem laws_szUpdate_ev (x0 : Int) (x1 : ByteArray) (x2 : ByteArray) (x3 : ByteArray) (x4 : List Pt) (x5 : List ByteArray) (x6 : Int) (x7 : ByteArray) (x8 : ByteArray) (x9 : ByteArray) (x10 : List ByteArray) (x11 : Int) (x12 : Int) (x13 : Int) (x14 : Bool) (x15 : Int) (x16 : Int) (x17 : Bool) (x18 : Int) (x19 : Int) (x20 : Bool) (x21 : Int) (x22 : Int) (x23 : Bool) (x24 : Int) (h_x1 : x1.size ≤ 9223372036854775807) (h_x2 : x2.size ≤ 9223372036854775807) (h_x3 : x3.size ≤ 9223372036854775807) (h_x4 : (x4.length ≤ 9223372036854775807)) (h_x5 : (x5.length ≤ 9223372036854775807 ∧ ∀ y ∈ x5, y.size ≤ 9223372036854775807)) (h_x7 : x7.size ≤ 9223372036854775807) (h_x8 : x8.size ≤ 9223372036854775807) (h_x9 : x9.size ≤ 9223372036854775807) (h_x10 : (x10.length ≤ 9223372036854775807 ∧ ∀ y ∈ x10, y.size ≤ 9223372036854775807)) (v : Int) (h0 : 0 ≤ v) (h1 : v ≤ 1048576) :
    ∃ r, Does cp n_laws_szUpdate [.agg [.int .i64 x0, .str x1, .str x2, .str x3, .fs x4.length (x4.flatMap eP), .fs x5.length (x5.flatMap eS), .int .i64 x6, .str x7, .str x8, .str x9, .fs x10.length (x10.flatMap eS), .int .i64 x11, .int .i64 x12, .int .i64 x13, .bool x14, .int .i64 x15, .int .i64 x16, .bool x17, .int .i64 x18, .int .i64 x19, .bool x20, .int .i64 x21, .int .i64 x22, .bool x23, .int .i64 x24], .int .i64 v] [.int .i64 r] ∧ (0 ≤ r → r ≤ v ∧ x1.size ≤ 1048576 ∧ x2.size ≤ 1048576 ∧ x3.size ≤ 1048576 ∧ (x4.length ≤ 1048576) ∧ (x5.length ≤ 1048576 ∧ ∀ y ∈ x5, y.size ≤ 1048576) ∧ x7.size ≤ 1048576 ∧ x8.size ≤ 1048576 ∧ x9.size ≤ 1048576 ∧ (x10.length ≤ 1048576 ∧ ∀ y ∈ x10, y.size ≤ 1048576)) := by
  suffices h : ∃ r, Ev (fun k _ _ _ => evF cp (k + 1) n_laws_szUpdate [.agg [.int .i64 x0, .str x1, .str x2, .str x3, .fs x4.length (x4.flatMap eP), .fs x5.length (x5.flatMap eS), .int .i64 x6, .str x7, .str x8, .str x9, .fs x10.length (x10.flatMap eS), .int .i64 x11, .int .i64 x12, .int .i64 x13, .bool x14, .int .i64 x15, .int .i64 x16, .bool x17, .int .i64 x18, .int .i64 x19, .bool x20, .int .i64 x21, .int .i64 x22, .bool x23, .int .i64 x24], .int .i64 v]) [.int .i64 r] ∧ (0 ≤ r → r ≤ v ∧ x1.size ≤ 1048576 ∧ x2.size ≤ 1048576 ∧ x3.size ≤ 1048576 ∧ (x4.length ≤ 1048576) ∧ (x5.length ≤ 1048576 ∧ ∀ y ∈ x5, y.size ≤ 1048576) ∧ x7.size ≤ 1048576 ∧ x8.size ≤ 1048576 ∧ x9.size ≤ 1048576 ∧ (x10.length ≤ 1048576 ∧ ∀ y ∈ x10, y.size ≤ 1048576)) by
    obtain ⟨r, h, p⟩ := h; exact ⟨r, Ev.fn (fun _ => rfl) h, p⟩
  simp only [F_laws_szUpdate]
  obtain ⟨r1, e1, p1⟩ := laws_szHead_ev x0 x1 x2 x3 h_x1 h_x2 h_x3 v (by omega) (by omega)
  by_cases c1 : r1 < 0
  · exact ⟨-1, Ev.c e1 (Ev.t (ltI_t c1) (Ev.now _)), fun h => by omega⟩
  obtain ⟨g1, ⟨s1_1, s1_2, s1_3⟩⟩ := p1 (by omega)
  obtain ⟨r2, e2, p2⟩ := laws_szCommittee_ev x4 h_x4 r1 (by omega) (by omega)
  by_cases c2 : r2 < 0
  · exact ⟨-1, Ev.c e1 (Ev.f (ltI_f c1) (Ev.c e2 (Ev.t (ltI_t c2) (Ev.now _)))), fun h => by omega⟩
  obtain ⟨g2, s2_0⟩ := p2 (by omega)
  obtain ⟨r3, e3, p3⟩ := laws_szStringS_ev x5 h_x5.1 h_x5.2 r2 (by omega) (by omega)
  by_cases c3 : r3 < 0
  · exact ⟨-1, Ev.c e1 (Ev.f (ltI_f c1) (Ev.c e2 (Ev.f (ltI_f c2) (Ev.c e3 (Ev.t (ltI_t c3) (Ev.now _)))))), fun h => by omega⟩
  obtain ⟨g3, s3⟩ := p3 (by omega)
  obtain ⟨r4, e4, p4⟩ := laws_szHead_ev x6 x7 x8 x9 h_x7 h_x8 h_x9 r3 (by omega) (by omega)
  by_cases c4 : r4 < 0
  · exact ⟨-1, Ev.c e1 (Ev.f (ltI_f c1) (Ev.c e2 (Ev.f (ltI_f c2) (Ev.c e3 (Ev.f (ltI_f c3) (Ev.c e4 (Ev.t (ltI_t c4) (Ev.now _)))))))), fun h => by omega⟩
  obtain ⟨g4, ⟨s4_1, s4_2, s4_3⟩⟩ := p4 (by omega)
  obtain ⟨r5, e5, p5⟩ := laws_szStringS_ev x10 h_x10.1 h_x10.2 r4 (by omega) (by omega)
  by_cases c5 : r5 < 0
  · exact ⟨-1, Ev.c e1 (Ev.f (ltI_f c1) (Ev.c e2 (Ev.f (ltI_f c2) (Ev.c e3 (Ev.f (ltI_f c3) (Ev.c e4 (Ev.f (ltI_f c4) (Ev.c e5 (Ev.t (ltI_t c5) (Ev.now _)))))))))), fun h => by omega⟩
  obtain ⟨g5, s5⟩ := p5 (by omega)
  exact ⟨r5, Ev.c e1 (Ev.f (ltI_f c1) (Ev.c e2 (Ev.f (ltI_f c2) (Ev.c e3 (Ev.f (ltI_f c3) (Ev.c e4 (Ev.f (ltI_f c4) (Ev.c e5 (Ev.f (ltI_f c5) (Ev.now _)))))))))), fun h => ⟨by omega, s1_1, s1_2, s1_3, s2_0, s3, s4_1, s4_2, s4_3, s5⟩⟩

theorem law_UpdateOk (s1 : Int) (p1 t1 b1 : ByteArray) (ks : List Pt) (nb : List ByteArray) (s2 : Int) (p2 t2 b2 : ByteArray) (fb : List ByteArray) (bits : Int) (sg a b c : Pt) (sn : Int)
    (z1 : p1.size ≤ 9223372036854775807) (z2 : t1.size ≤ 9223372036854775807) (z3 : b1.size ≤ 9223372036854775807) (z4 : ks.length ≤ 9223372036854775807) (z5 : nb.length ≤ 9223372036854775807 ∧ ∀ y ∈ nb, y.size ≤ 9223372036854775807)
    (z7 : p2.size ≤ 9223372036854775807) (z8 : t2.size ≤ 9223372036854775807) (z9 : b2.size ≤ 9223372036854775807) (z10 : fb.length ≤ 9223372036854775807 ∧ ∀ y ∈ fb, y.size ≤ 9223372036854775807) :
    ∃ k, evF cp k n_laws_FnExactUpdateOk [aUpd s1 p1 t1 b1 ks nb s2 p2 t2 b2 fb bits sg a b c sn] = some [.bool true] := by
  apply Ev.rounds
  obtain ⟨r, e, p⟩ := laws_szUpdate_ev s1 p1 t1 b1 ks nb s2 p2 t2 b2 fb bits sg.1 sg.2.1 sg.2.2 a.1 a.2.1 a.2.2 b.1 b.2.1 b.2.2 c.1 c.2.1 c.2.2 sn z1 z2 z3 z4 z5 z7 z8 z9 z10 1048576 (by omega) (by omega)
  refine Ev.fn (fun k => F_laws_FnExactUpdateOk k _ _ _ _ _ _ _ _ _ _ _ _ _ _ _ _ _ _ _ _ _ _ _ _ _ _ _ _) (Ev.c e ?_)
  by_cases h0 : r < 0
  · exact Ev.t (ltI_t h0) (Ev.now _)
  refine Ev.f (ltI_f h0) ?_
  obtain ⟨_, _, _, _, l4, l5, _, _, _, l10⟩ := p (by omega)
  have et := laws_toUpdate_ev s1 p1 t1 b1 ks nb s2 p2 t2 b2 fb bits sg.1 sg.2.1 sg.2.2 a.1 a.2.1 a.2.2 b.1 b.2.1 b.2.2 c.1 c.2.1 c.2.2 sn l4 l5.1 l10.1
  refine Ev.c et (Ev.c (spec_UpdateOk_ev s1 p1 t1 b1 ks nb s2 p2 t2 b2 fb bits sg a b c sn l4 l5.1 l10.1) (Ev.c et (Ev.c (impl_UpdateOk_ev s1 p1 t1 b1 ks nb s2 p2 t2 b2 fb bits sg a b c sn l4) (Ev.f ?_ (Ev.c et (Ev.c (laws_eqUpdate_same s1 p1 t1 b1 ks nb s2 p2 t2 b2 fb bits sg.1 sg.2.1 sg.2.2 a.1 a.2.1 a.2.2 b.1 b.2.1 b.2.2 c.1 c.2.1 c.2.2 sn l4 l5.1 l10.1) (Ev.f rfl (Ev.now _))))))))
  simp only [hdV_c, tlV_c, parts1_a, asInt_i, asBool_b, asStr_s, asLen_f, asCells_f, eqB_d]
  simp [notB]

end Go.Proofs.Ytegchimmolpmeaa.FnExactUpdateOk
