/- FnExactSameClient, the plain part: for every argument the law answers true. No conditions. -/
import Derived.Test.YtiemmlldjjldkaaDoorEVcFnExactSameClient
namespace Go.Proofs.YtiemmlldjjldkaaDoor.FnExactSameClient
open Go Go.Proofs Go.Proofs.YtiemmlldjjldkaaDoor.EV
set_option linter.unusedVariables false
set_option linter.unusedSimpArgs false
set_option maxRecDepth 100000
/-! Numbers modulo 12107 (a prime), and the curve y^2 = x^3 + x over them. -/
def chkFermat (e : Nat) : Nat → Bool
  | 0 => true
  | n + 1 => (n == 0 || n ^ e % 12107 == 1) && chkFermat e n
theorem chkFermat_spec (e : Nat) : ∀ {m n : Nat}, chkFermat e m = true → n < m → n ≠ 0 → n ^ e % 12107 = 1 := by
  intro m
  induction m with
  | zero => intro n _ h; omega
  | succ m ih =>
    intro n h hn h0
    rw [chkFermat, Bool.and_eq_true, Bool.or_eq_true] at h
    rcases Nat.lt_succ_iff_lt_or_eq.1 hn with h1 | h1
    · exact ih h.2 h1 h0
    · subst h1
      rcases h.1 with h2 | h2
      · exact absurd (by simpa using h2) h0
      · simpa using h2
theorem chkFermat_true : chkFermat 12106 12107 = true := by decide +kernel
theorem emod2 (a b : Int) : a * (b % 12107) % 12107 = a * b % 12107 := by
  rw [Int.mul_emod, Int.emod_emod_of_dvd _ (Int.dvd_refl _), ← Int.mul_emod]
theorem pow_emod (x : Int) (n : Nat) : x ^ n % 12107 = (x % 12107) ^ n % 12107 := by
  induction n with
  | zero => rw [Int.pow_zero, Int.pow_zero]
  | succ n ih => rw [Int.pow_succ, Int.pow_succ, Int.mul_emod, ih, ← Int.mul_emod, emod2]
theorem pow_inv (x : Int) (e : Nat) (h : (x % 12107).toNat ^ (e + 1) % 12107 = 1) : x * (x ^ e % 12107) % 12107 = 1 := by
  have h3 : (((x % 12107).toNat : Nat) : Int) = x % 12107 := by omega
  have h4 := congrArg (fun (n : Nat) => (n : Int)) h
  simp only [Int.natCast_emod, Int.natCast_pow, h3] at h4
  rw [emod2, Int.mul_comm, ← Int.pow_succ, pow_emod]
  exact h4
theorem pow_inv_of (e : Nat) (hc : chkFermat (e + 1) 12107 = true) {x : Int} (h : x % 12107 ≠ 0) : x * (x ^ e % 12107) % 12107 = 1 :=
  pow_inv x e (chkFermat_spec (e + 1) hc (by omega) (by omega))

abbrev F := Fin 12107
def ph (x : Int) : F := @Int.cast F Lean.Grind.Ring.intCast x
theorem ph_iff {x y : Int} : ph x = ph y ↔ x % 12107 = y % 12107 := Lean.Grind.IsCharP.intCast_ext_iff 12107
theorem ph_add (x y : Int) : ph (x + y) = ph x + ph y := Lean.Grind.Ring.intCast_add x y
theorem ph_sub (x y : Int) : ph (x - y) = ph x - ph y := Lean.Grind.Ring.intCast_sub x y
theorem ph_mul (x y : Int) : ph (x * y) = ph x * ph y := Lean.Grind.Ring.intCast_mul x y
theorem ph_mod (x : Int) : ph (x % 12107) = ph x := ph_iff.2 (Int.emod_emod_of_dvd x (Int.dvd_refl _))
theorem ph_zero : ph 0 = 0 := Lean.Grind.Ring.intCast_zero
theorem ph_one : ph 1 = 1 := Lean.Grind.Ring.intCast_one
theorem ph_two : ph 2 = 2 := Lean.Grind.Ring.intCast_ofNat 2
theorem ph_three : ph 3 = 3 := Lean.Grind.Ring.intCast_ofNat 3
theorem ph_eq0 {x : Int} : ph x = 0 ↔ x % 12107 = 0 := by rw [← ph_zero, ph_iff]; rfl
theorem ph_inj {x y : Int} (hx : 0 ≤ x ∧ x < 12107) (hy : 0 ≤ y ∧ y < 12107) (h : ph x = ph y) : x = y := by
  have := ph_iff.1 h
  omega

@[irreducible] def fpow (x : Int) (n : Nat) : Int := x ^ n % 12107
def finv (x : Int) : Int := fpow x 12105
theorem finv_mod {x : Int} (h : x % 12107 ≠ 0) : x * finv x % 12107 = 1 := by
  unfold finv fpow
  exact pow_inv_of 12105 chkFermat_true h
theorem finv_ph {x : Int} (h : ph x ≠ 0) : ph x * ph (finv x) = 1 := by
  rw [← ph_mul, ← ph_one, ph_iff]
  exact finv_mod (fun h1 => h (ph_eq0.2 h1))
theorem F_mul0 {a b : Int} (h : ph a * ph b = 0) (ha : ph a ≠ 0) : ph b = 0 := by
  have h1 := finv_ph ha
  have h2 : ph (finv a) * (ph a * ph b) = 0 := by rw [h]; grind
  grind

/-- a point: x, y, and whether it is the point at infinity. -/
abbrev Pt := Int × Int × Bool
def pRight (p : Pt) : Prop := (p.2.2 = true ∧ p.1 = 0 ∧ p.2.1 = 0) ∨
  (p.2.2 = false ∧ (0 ≤ p.1 ∧ p.1 ≤ 12106) ∧ (0 ≤ p.2.1 ∧ p.2.1 ≤ 12106) ∧ ph p.2.1 * ph p.2.1 = ph p.1 * ph p.1 * ph p.1 + ph p.1)
def slope (p r : Pt) : Int × Bool :=
  if p.1 = r.1 then
    if (p.2.1 + r.2.1) % 12107 = 0 then (0, false) else ((3 * (p.1 * p.1 % 12107) % 12107 + 1) % 12107 * finv (2 * p.2.1 % 12107) % 12107, true)
  else ((r.2.1 - p.2.1) % 12107 * finv ((r.1 - p.1) % 12107) % 12107, true)
def pAdd (p r : Pt) : Pt :=
  if p.2.2 = true then r else if r.2.2 = true then p else
  if (slope p r).2 = true then
    (((slope p r).1 * (slope p r).1 % 12107 - p.1) % 12107 - r.1) % 12107 |> fun x => (x, ((slope p r).1 * ((p.1 - x) % 12107) % 12107 - p.2.1) % 12107, false)
  else (0, 0, true)
theorem curve_chord {R : Type} [Lean.Grind.CommRing R] (x1 y1 x2 y2 i : R) (h1 : y1*y1 = x1*x1*x1 + x1) (h2 : y2*y2 = x2*x2*x2+x2) (hi : (x2-x1)*i = 1) (l x3 y3 : R) (hl : l*(x2-x1) = (y2-y1)) (hx : x3 = l*l - x1 - x2) (hy : y3 = l*(x1-x3)-y1) : y3*y3 = x3*x3*x3+x3 := by
  have e2 : y2 = y1 + l*(x2-x1) := by clear h1 h2 hx hy hi; grind
  have ea : (x2 - x1) * (x2*x2+x1*x2+x1*x1 + 1 - l*(y1+y2)) = 0 := by clear hx hy hi e2; grind
  have eb : (x2*x2+x1*x2+x1*x1 + 1 - l*(y1+y2)) = 0 := by
    have : i * ((x2 - x1) * (x2*x2+x1*x2+x1*x1 + 1 - l*(y1+y2))) = 0 := by rw [ea]; clear hx hy hi e2 ea h1 h2 hl; grind
    clear hx hy e2 ea h1 h2 hl; grind
  subst hx hy e2
  clear ea h2 hi hl
  grind
theorem chord_slope {R : Type} [Lean.Grind.CommRing R] (a d i : R) (h : d * i = 1) : a * i * d = a := by grind
theorem curve_tangent {R : Type} [Lean.Grind.CommRing R] (x1 y1 i : R) (h1 : y1*y1 = x1*x1*x1 + x1) (hi : (2*y1)*i = 1) (l x3 y3 : R) (hl : l = (3*(x1*x1)+1)*i) (hx : x3 = l*l - x1 - x1) (hy : y3 = l*(x1-x3)-y1) : y3*y3 = x3*x3*x3+x3 := by
  grind
/-- right points of one x: the y are the same, or their sum is zero. -/
theorem right_y {x y1 y2 : Int} (h1 : ph y1 * ph y1 = ph x * ph x * ph x + ph x) (h2 : ph y2 * ph y2 = ph x * ph x * ph x + ph x) (h : ¬ (y1 + y2) % 12107 = 0) : ph y1 = ph y2 := by
  have h3 : ph (y1 + y2) * ph (y1 - y2) = 0 := by rw [ph_add, ph_sub]; grind
  have h4 := F_mul0 h3 (fun h5 => h (ph_eq0.1 h5))
  rw [ph_sub] at h4
  grind
theorem pAdd_right {p r : Pt} (hp : pRight p) (hr : pRight r) : pRight (pAdd p r) := by
  rcases hp with hp | hp
  · unfold pAdd; rw [if_pos hp.1]; exact hr
  rcases hr with hr | hr
  · unfold pAdd; rw [if_neg (by rw [hp.1]; simp), if_pos hr.1]; exact Or.inr hp
  unfold pAdd
  rw [if_neg (by rw [hp.1]; simp), if_neg (by rw [hr.1]; simp)]
  obtain ⟨x1, y1, b1⟩ := p
  obtain ⟨x2, y2, b2⟩ := r
  obtain ⟨_, hx1, hy1, h1⟩ := hp
  obtain ⟨_, hx2, hy2, h2⟩ := hr
  simp only at hx1 hy1 h1 hx2 hy2 h2
  unfold slope
  simp only
  by_cases hx : x1 = x2
  · subst hx
    rw [if_pos rfl]
    by_cases hs : (y1 + y2) % 12107 = 0
    · rw [if_pos hs, if_neg (by simp)]
      exact Or.inl ⟨rfl, rfl, rfl⟩
    · rw [if_neg hs, if_pos rfl]
      have he := right_y h1 h2 hs
      have hi : (2 * ph y1) * ph (finv (2 * y1 % 12107)) = 1 := by
        have h3 : ph (2 * y1 % 12107) ≠ 0 := by
          intro h4
          apply hs
          rw [← ph_eq0, ph_add, ← he]
          rw [ph_mod, ph_mul, ph_two] at h4
          grind
        have := finv_ph h3
        rw [ph_mod, ph_mul, ph_two] at this
        exact this
      refine Or.inr ⟨rfl, by simp only; omega, by simp only; omega, ?_⟩
      simp only [ph_mod, ph_mul, ph_add, ph_sub, ph_three, ph_one]
      exact curve_tangent _ _ _ h1 hi _ _ _ rfl rfl rfl
  · rw [if_neg hx, if_pos rfl]
    have hi : (ph x2 - ph x1) * ph (finv ((x2 - x1) % 12107)) = 1 := by
      have h3 : ph ((x2 - x1) % 12107) ≠ 0 := by
        intro h4
        rw [ph_mod, ph_eq0] at h4
        omega
      have := finv_ph h3
      rw [ph_mod, ph_sub] at this
      exact this
    refine Or.inr ⟨rfl, by simp only; omega, by simp only; omega, ?_⟩
    simp only [ph_mod, ph_mul, ph_add, ph_sub]
    refine curve_chord (ph x1) (ph y1) (ph x2) (ph y2) _ h1 h2 hi _ _ _ (chord_slope _ _ _ hi) rfl rfl


/-! Point arithmetic: multiples, membership, texts. -/
theorem sq_pow (x : Int) : x * x = x ^ 2 := by rw [Int.pow_succ, Int.pow_succ, Int.pow_zero, Int.one_mul]
theorem fpow_loop1 (r x : Int) (m : Nat) : (r * x % 12107) * (x * x % 12107) ^ m % 12107 = r * x ^ (2 * m + 1) % 12107 := by
  rw [Int.mul_emod, ← pow_emod, ← Int.mul_emod, Int.mul_emod, Int.emod_emod_of_dvd _ (Int.dvd_refl _), ← Int.mul_emod, sq_pow x, ← Int.pow_mul, Int.pow_succ, Int.mul_assoc, Int.mul_comm x]
theorem fpow_loop0 (r x : Int) (m : Nat) : r * (x * x % 12107) ^ m % 12107 = r * x ^ (2 * m) % 12107 := by
  rw [Int.mul_emod, ← pow_emod, ← Int.mul_emod, sq_pow x, ← Int.pow_mul]
theorem fpow_one (a : Int) (n : Nat) : 1 * (a % 12107) ^ n % 12107 = fpow a n := by
  unfold fpow
  rw [Int.one_mul, ← pow_emod]
theorem sq_range {a b : Int} (ha : 0 ≤ a ∧ a < 12107) (hb : 0 ≤ b ∧ b < 12107) : 0 ≤ a * b ∧ a * b ≤ 146555236 :=
  ⟨Int.mul_nonneg ha.1 hb.1, Int.le_trans (Int.mul_le_mul_of_nonneg_right (show a ≤ 12106 by omega) hb.1) (by omega)⟩
def pOk (p : Pt) : Bool :=
  if p.2.2 = true then (if p.1 = 0 then p.2.1 == 0 else false)
  else if (0 ≤ p.1 ∧ p.1 ≤ 12106) ∧ (0 ≤ p.2.1 ∧ p.2.1 ≤ 12106) then (p.2.1 * p.2.1 % 12107 == (p.1 * p.1 % 12107 * p.1 % 12107 + p.1) % 12107) else false
theorem pOk_iff (p : Pt) : pOk p = true ↔ pRight p := by
  unfold pOk pRight
  cases h : p.2.2 with
  | true =>
    rw [if_pos rfl]
    by_cases h1 : p.1 = 0
    · rw [if_pos h1]; simp [h1]
    · rw [if_neg h1]; simp [h1]
  | false =>
    rw [if_neg (by simp)]
    by_cases h1 : (0 ≤ p.1 ∧ p.1 ≤ 12106) ∧ (0 ≤ p.2.1 ∧ p.2.1 ≤ 12106)
    · rw [if_pos h1, beq_iff_eq, ← Int.emod_emod_of_dvd (p.2.1 * p.2.1) (Int.dvd_refl 12107), ← Int.emod_emod_of_dvd (p.1 * p.1 % 12107 * p.1 % 12107 + p.1) (Int.dvd_refl 12107), ← ph_iff]
      simp only [ph_mod, ph_mul, ph_add]
      simp [h1]
    · rw [if_neg h1]
      simp only [Bool.false_eq_true, false_iff, true_and, false_and, false_or]
      intro h2
      exact h1 ⟨h2.1, h2.2.1⟩
theorem pRight_zero : pRight (0, 0, true) := Or.inl ⟨rfl, rfl, rfl⟩
def pLoop : Nat → Nat → Pt → Pt → Pt
  | 0, _, _, acc => acc
  | f + 1, n, b, acc => if n = 0 then acc else if n % 2 = 1 then pLoop f (n / 2) (pAdd b b) (pAdd acc b) else pLoop f (n / 2) (pAdd b b) acc
/-- n times p, for a right point. -/
def pMul (n : Nat) (p : Pt) : Pt := pLoop 64 n p (0, 0, true)
def pTimes (n : Nat) (p : Pt) : Pt := if pOk p = true then pMul n p else (0, 0, true)
def pIn (p : Pt) : Bool := if pOk p = true then (pTimes 1009 p).2.2 else false
def pText (p : Pt) : ByteArray :=
  if pOk p = true then
    if p.2.2 = true then (⟨#[0, 0, 0]⟩ : ByteArray) else EV.strOfNums ([((wrap64 (p.1 + 1)) / 256) % 256, (wrap64 (p.1 + 1)) % 256, (Int.tmod p.2.1 2) % 256] : List Int)
  else (⟨#[]⟩ : ByteArray)
theorem pText_size (p : Pt) : (pText p).size ≤ 3 := by
  unfold pText
  split
  · split
    · exact Nat.le_refl _
    · rw [EV.strOfNums_size]; exact Nat.le_refl _
  · exact Nat.zero_le _


theorem tmod_fix {a m : Int} (hm : 0 < m) : (if Int.tmod a m < 0 then Int.tmod a m + m else Int.tmod a m) = a % m := by
  have h0 := Int.emod_nonneg a (Int.ne_of_gt hm)
  have h1 := Int.emod_lt_of_pos a hm
  rw [Int.tmod_eq_emod]
  have h2 : (m.natAbs : Int) = m := Int.natAbs_of_nonneg (Int.le_of_lt hm)
  by_cases h : 0 ≤ a ∨ m ∣ a
  · rw [if_pos h]
    show (if a % m - 0 < 0 then a % m - 0 + m else a % m - 0) = a % m
    rw [Int.sub_zero, if_neg (by omega)]
  · rw [if_neg h, h2, if_pos (by omega)]
    omega
theorem F_half {x : F} (h : x + x = 0) : x = 0 := by
  have h1 : (12107 : F) = 0 := rfl
  have h2 : x = 6054 * (x + x) - 12107 * x := by clear h h1; grind
  rw [h, h1] at h2
  clear h h1
  grind
theorem y2_ne {a b : Int} (h : a = b) (h0 : ¬ a = 0) (r : 0 ≤ a ∧ a ≤ 12106) : ¬ (a + b) % 12107 = 0 := by
  intro hz
  rw [← ph_eq0, ph_add, ← h] at hz
  have := ph_eq0.1 (F_half hz)
  clear hz h
  omega
theorem fmod_range (a : Int) : 0 ≤ a % 12107 ∧ a % 12107 < 12107 := by omega
theorem fmod_mul (a b : Int) : wrap64 (a % 12107 * (b % 12107)) % 12107 = a * b % 12107 := by
  have := sq_range (fmod_range a) (fmod_range b)
  rw [w64 (by omega), ← Int.mul_emod]
theorem fmod_add (a b : Int) : wrap64 (a % 12107 + b % 12107) % 12107 = (a + b) % 12107 := by
  rw [w64 (by omega)]; omega
theorem fmod_sub (a b : Int) : wrap64 (a % 12107 - b % 12107) % 12107 = (a - b) % 12107 := by
  rw [w64 (by omega)]; omega


theorem rem_neg {a m : Int} (hm : 0 < m) (hb : m < 9223372036854775807) (h : Int.tmod a m < 0) : wr .i64 (Int.tmod a m + m) = a % m := by
  have h1 := tmod_fix (a := a) hm
  have h0 := Int.emod_nonneg a (Int.ne_of_gt hm)
  have h2 := Int.emod_lt_of_pos a hm
  rw [if_pos h] at h1
  rw [h1, wr64 (by omega)]
theorem rem_pos {a m : Int} (hm : 0 < m) (h : ¬ Int.tmod a m < 0) : Int.tmod a m = a % m := by
  have h1 := tmod_fix (a := a) hm
  rwa [if_neg h] at h1


def eS (s : ByteArray) : List AV := [.str s]
theorem eS_len (s : ByteArray) : (eS s).length = 1 := rfl
theorem Ev.an {a b : Bool} {X : Nat → Nat → Nat → Nat → Option (List AV)} (h : a = true → Ev X [.bool b]) : Ev (fun k m p q => br (notB a) (some [.bool false]) (X k m p q)) [.bool (a && b)] := by
  cases a with
  | true => exact Ev.f rfl (h rfl)
  | false => exact Ev.t rfl (Ev.now _)
theorem Ev.ap {a b : Bool} {X : Nat → Nat → Nat → Nat → Option (List AV)} (h : a = true → Ev X [.bool b]) : Ev (fun k m p q => br a (X k m p q) (some [.bool false])) [.bool (a && b)] := by
  cases a with
  | true => exact Ev.t rfl (h rfl)
  | false => exact Ev.f rfl (Ev.now _)
theorem Ev.na {a b : Bool} {X : Nat → Nat → Nat → Nat → Option (List AV)} (h : a = false → Ev X [.bool b]) : Ev (fun k m p q => br a (some [.bool false]) (X k m p q)) [.bool (!a && b)] := by
  cases a with
  | false => exact Ev.f rfl (h rfl)
  | true => exact Ev.t rfl (Ev.now _)


theorem spec_l01In_ev (a b c : Int) : Does cp n_spec_l01In [.int .i64 a, .int .i64 b, .int .i64 c] [.bool (decide (b ≤ a ∧ a ≤ c))] := by
  refine Ev.fn (fun k => F_spec_l01In k _ _ _) (Ev.b (fun h => Ev.some_ ?_) (fun h => Ev.some_ ?_))
  · have := leI_to h
    rw [leI_d]
    congr 2
    exact decide_eq_decide.2 ⟨fun q => ⟨this, q⟩, fun q => q.2⟩
  · have := leI_fo h
    rw [decide_eq_false (by omega)]


theorem spec_FpOf_ev (a : Int) : Does cp n_spec_FpOf [.int .i64 a] [.int .i64 (a % 12107)] := by
  refine Ev.fn (fun k => F_spec_FpOf k a) (Ev.b (fun h => Ev.some_ ?_) (fun h => Ev.some_ ?_))
  · rw [addI_d, remI_d, rem_neg (by omega) (by omega) (ltI_to h)]
  · rw [remI_d, rem_pos (by omega) (ltI_fo h)]
theorem impl_remainder_ev (a m : Int) (hm : 0 < m) (hb : m < 9223372036854775807) : Does cp n_impl_remainder [.int .i64 a, .int .i64 m] [.int .i64 (a % m)] := by
  refine Ev.fn (fun k => F_impl_remainder k a m) (Ev.g (by rw [eqI_f (by omega)]; rfl) (Ev.b (fun h => Ev.some_ ?_) (fun h => Ev.some_ ?_)))
  · rw [addI_d, remI_d, rem_neg hm hb (ltI_to h)]
  · rw [remI_d, rem_pos hm (ltI_fo h)]
theorem impl_FpOf_ev (a : Int) : Does cp n_impl_FpOf [.int .i64 a] [.int .i64 (a % 12107)] :=
  Ev.fn (fun k => F_impl_FpOf k a) (Ev.c (impl_remainder_ev a 12107 (by omega) (by omega)) (Ev.now _))
theorem fw_mul (a b : Int) : wr .i64 (mulI (a % 12107) (b % 12107)) % 12107 = a * b % 12107 := by rw [mulI_d, wr_64, fmod_mul]
theorem fw_add (a b : Int) : wr .i64 (addI (a % 12107) (b % 12107)) % 12107 = (a + b) % 12107 := by rw [addI_d, wr_64, fmod_add]
theorem fw_sub (a b : Int) : wr .i64 (subI (a % 12107) (b % 12107)) % 12107 = (a - b) % 12107 := by rw [subI_d, wr_64, fmod_sub]
theorem spec_FpMul_ev (a b : Int) : Does cp n_spec_FpMul [.int .i64 a, .int .i64 b] [.int .i64 (a * b % 12107)] :=
  Ev.fn (fun k => F_spec_FpMul k a b) (Ev.c (spec_FpOf_ev a) (Ev.c (spec_FpOf_ev b) (Ev.c (spec_FpOf_ev _) (Ev.some_ (by simp only [hdV_c, tlV_c, parts1_a, asInt_i, asBool_b, asStr_s, asLen_f, asCells_f, tupL_t, refCells_r, ownLen_o, fw_mul])))))
theorem spec_FpAdd_ev (a b : Int) : Does cp n_spec_FpAdd [.int .i64 a, .int .i64 b] [.int .i64 ((a + b) % 12107)] :=
  Ev.fn (fun k => F_spec_FpAdd k a b) (Ev.c (spec_FpOf_ev a) (Ev.c (spec_FpOf_ev b) (Ev.c (spec_FpOf_ev _) (Ev.some_ (by simp only [hdV_c, tlV_c, parts1_a, asInt_i, asBool_b, asStr_s, asLen_f, asCells_f, tupL_t, refCells_r, ownLen_o, fw_add])))))
theorem spec_FpSub_ev (a b : Int) : Does cp n_spec_FpSub [.int .i64 a, .int .i64 b] [.int .i64 ((a - b) % 12107)] :=
  Ev.fn (fun k => F_spec_FpSub k a b) (Ev.c (spec_FpOf_ev a) (Ev.c (spec_FpOf_ev b) (Ev.c (spec_FpOf_ev _) (Ev.some_ (by simp only [hdV_c, tlV_c, parts1_a, asInt_i, asBool_b, asStr_s, asLen_f, asCells_f, tupL_t, refCells_r, ownLen_o, fw_sub])))))
theorem impl_FpMul_ev (a b : Int) : Does cp n_impl_FpMul [.int .i64 a, .int .i64 b] [.int .i64 (a * b % 12107)] :=
  Ev.fn (fun k => F_impl_FpMul k a b) (Ev.c (impl_FpOf_ev a) (Ev.c (impl_FpOf_ev b) (Ev.c (impl_FpOf_ev _) (Ev.some_ (by simp only [hdV_c, tlV_c, parts1_a, asInt_i, asBool_b, asStr_s, asLen_f, asCells_f, tupL_t, refCells_r, ownLen_o, fw_mul])))))
theorem impl_FpAdd_ev (a b : Int) : Does cp n_impl_FpAdd [.int .i64 a, .int .i64 b] [.int .i64 ((a + b) % 12107)] :=
  Ev.fn (fun k => F_impl_FpAdd k a b) (Ev.c (impl_FpOf_ev a) (Ev.c (impl_FpOf_ev b) (Ev.c (impl_FpOf_ev _) (Ev.some_ (by simp only [hdV_c, tlV_c, parts1_a, asInt_i, asBool_b, asStr_s, asLen_f, asCells_f, tupL_t, refCells_r, ownLen_o, fw_add])))))
theorem impl_FpSub_ev (a b : Int) : Does cp n_impl_FpSub [.int .i64 a, .int .i64 b] [.int .i64 ((a - b) % 12107)] :=
  Ev.fn (fun k => F_impl_FpSub k a b) (Ev.c (impl_FpOf_ev a) (Ev.c (impl_FpOf_ev b) (Ev.c (impl_FpOf_ev _) (Ev.some_ (by simp only [hdV_c, tlV_c, parts1_a, asInt_i, asBool_b, asStr_s, asLen_f, asCells_f, tupL_t, refCells_r, ownLen_o, fw_sub])))))
theorem spec_FpOk_ev (a : Int) : Does cp n_spec_FpOk [.int .i64 a] [.bool (decide (0 ≤ a ∧ a ≤ 12106))] :=
  Ev.fn (fun k => F_spec_FpOk k a) (Ev.c (spec_l01In_ev _ _ _) (Ev.now _))
theorem impl_FpOk_ev (a : Int) : Does cp n_impl_FpOk [.int .i64 a] [.bool (decide (0 ≤ a ∧ a ≤ 12106))] := by
  refine Ev.fn (fun k => F_impl_FpOk k a) (Ev.b (fun h0 => Ev.some_ ?_) (fun h0 => Ev.some_ ?_))
  · have := leI_to h0
    rw [ltI_d]; congr 2; rw [decide_eq_decide]; omega
  · have := leI_fo h0
    rw [decide_eq_false (by omega)]
theorem spec_l07Right_ev (a : Int) : Does cp n_spec_l07Right [.int .i64 a] [.int .i64 ((a * a % 12107 * a % 12107 + a) % 12107)] :=
  Ev.fn (fun k => F_spec_l07Right k a) (Ev.c (spec_FpMul_ev _ _) (Ev.c (spec_FpMul_ev _ _) (Ev.c (spec_FpAdd_ev _ _) (Ev.now _))))
theorem impl_curveAt_ev (a : Int) : Does cp n_impl_curveAt [.int .i64 a] [.int .i64 ((a * a % 12107 * a % 12107 + a) % 12107)] :=
  Ev.fn (fun k => F_impl_curveAt k a) (Ev.c (impl_FpMul_ev _ _) (Ev.c (impl_FpMul_ev _ _) (Ev.c (impl_FpAdd_ev _ _) (Ev.now _))))
/-- A point's cells. -/
def eP (p : Pt) : List AV := [.int .i64 p.1, .int .i64 p.2.1, .bool p.2.2]
theorem eP_len (p : Pt) : (eP p).length = 3 := rfl
theorem spec_PointOk_ev (p : Pt) : Does cp n_spec_PointOk [.agg (eP p)] [.bool (pOk p)] := by
  refine Ev.fn (fun k => F_spec_PointOk k p.1 p.2.1 p.2.2) ?_
  unfold pOk
  refine Ev.b (fun h => ?_) (fun h => ?_)
  · rw [if_pos h]
    refine Ev.b (fun h1 => Ev.some_ ?_) (fun h1 => Ev.some_ ?_)
    · rw [if_pos (eqI_to h1)]; rfl
    · rw [if_neg (eqI_fo h1)]
  · rw [if_neg (by rw [h]; simp)]
    refine Ev.c (spec_FpOk_ev _) (Ev.b (fun h1 => ?_) (fun h1 => Ev.some_ ?_))
    · have h1' := of_decide_eq_true h1
      refine Ev.c (spec_FpOk_ev _) (Ev.b (fun h2 => ?_) (fun h2 => Ev.some_ ?_))
      · have h2' := of_decide_eq_true h2
        rw [if_pos ⟨h1', h2'⟩]
        exact Ev.c (spec_FpMul_ev _ _) (Ev.c (spec_l07Right_ev _) (Ev.now _))
      · rw [if_neg (fun q => of_decide_eq_false h2 q.2)]
    · rw [if_neg (fun q => of_decide_eq_false h1 q.1)]
theorem impl_PointOk_ev (p : Pt) : Does cp n_impl_PointOk [.agg (eP p)] [.bool (pOk p)] := by
  refine Ev.fn (fun k => F_impl_PointOk k p.1 p.2.1 p.2.2) ?_
  unfold pOk
  refine Ev.b (fun h => ?_) (fun h => ?_)
  · rw [if_pos h]
    refine Ev.b (fun h1 => Ev.some_ ?_) (fun h1 => Ev.some_ ?_)
    · rw [if_pos (eqI_to h1)]; rfl
    · rw [if_neg (eqI_fo h1)]
  · rw [if_neg (by rw [h]; simp)]
    refine Ev.c (impl_FpOk_ev _) (Ev.b (fun h1 => ?_) (fun h1 => Ev.some_ ?_))
    · have h1' := of_decide_eq_true h1
      refine Ev.c (impl_FpOk_ev _) (Ev.b (fun h2 => ?_) (fun h2 => Ev.some_ ?_))
      · have h2' := of_decide_eq_true h2
        rw [if_pos ⟨h1', h2'⟩]
        exact Ev.c (impl_FpMul_ev _ _) (Ev.c (impl_curveAt_ev _) (Ev.now _))
      · rw [if_neg (fun q => of_decide_eq_false h2 q.2)]
    · rw [if_neg (fun q => of_decide_eq_false h1 q.1)]




def eB (n : Int) : List AV := [.int .u8 n]
theorem fitN_small {n b : Nat} (h : n ≤ 1048576) (hb : b ≤ 4096) : Bool.and (fitN n b) Bool.true = true := by
  have : n * b ≤ 1048576 * 4096 := Nat.mul_le_mul h hb
  rw [Bool.and_true]
  exact Nat.ble_eq_true_of_le (by omega)
theorem isBytes_e (xs : List Int) : isBytes (xs.flatMap eB) = true := by
  unfold isBytes
  rw [List.all_eq_true]
  intro v hv
  obtain ⟨n, _, hn⟩ := List.mem_flatMap.1 hv
  rw [eB, List.mem_singleton] at hn
  subst hn; rfl
theorem strOf_e (xs : List Int) : strOf (xs.flatMap eB) = EV.strOfNums xs := by
  unfold strOf EV.strOfNums
  congr 2
  induction xs with
  | nil => rfl
  | cons x r ih => rw [List.flatMap_cons, List.map_append, ih]; rfl
theorem quo2 {n : Nat} (h : n < 1000000) : wr .i64 (quoI (n : Int) 2) = ((n / 2 : Nat) : Int) := by rw [quoI_d, tdiv_pos (by omega), wr64 (by omega)]; omega
theorem rem2 (n : Nat) : remI (n : Int) 2 = ((n % 2 : Nat) : Int) := by rw [remI_d, tmod_pos (by omega)]; omega
theorem spec_FpPow_l (f : Nat) : ∀ (n : Nat) (r x : Int), n < 2 ^ f → n < 1000000 → (0 ≤ r ∧ r < 12107) → Ev (fun k m _ _ => L_spec_FpPow_0 k m (n : Int) x r) [.int .i64 (r * x ^ n % 12107)] := by
  have base : ∀ r x : Int, (0 ≤ r ∧ r < 12107) → Ev (fun k m _ _ => L_spec_FpPow_0 k m ((0 : Nat) : Int) x r) [.int .i64 (r * x ^ 0 % 12107)] := fun r x hr => by
    refine Ev.step (fun k m _ _ => L_spec_FpPow_0_s k m _ _ _) (Ev.f (ltI_f (by omega)) (Ev.some_ ?_))
    rw [Int.pow_zero, Int.mul_one, Int.emod_eq_of_lt hr.1 hr.2]
  induction f with
  | zero =>
    intro n r x hn _ hr
    obtain rfl : n = 0 := by omega
    exact base r x hr
  | succ f ih =>
    intro n r x hn hn2 hr
    by_cases h0 : n = 0
    · subst h0
      exact base r x hr
    have hf : n / 2 < 2 ^ f := by rw [Nat.pow_succ] at hn; omega
    refine Ev.step (fun k m _ _ => L_spec_FpPow_0_s k m _ _ _) (Ev.t (ltI_t (by omega)) ?_)
    simp only [quo2 hn2, rem2]
    by_cases h1 : n % 2 = 1
    · refine Ev.t (eqI_t (by omega)) (Ev.c (spec_FpMul_ev _ _) (Ev.c (spec_FpMul_ev _ _) ?_))
      refine (ih (n / 2) _ _ hf (by omega) (fmod_range _)).to ?_
      simp only [hdV_c, tlV_c, parts1_a, asInt_i, asBool_b, asStr_s, asLen_f, asCells_f, tupL_t, refCells_r, ownLen_o]
      rw [fpow_loop1, show 2 * (n / 2) + 1 = n by omega]
    · refine Ev.f (eqI_f (by omega)) (Ev.c (spec_FpMul_ev _ _) ?_)
      refine (ih (n / 2) _ _ hf (by omega) hr).to ?_
      simp only [hdV_c, tlV_c, parts1_a, asInt_i, asBool_b, asStr_s, asLen_f, asCells_f, tupL_t, refCells_r, ownLen_o]
      rw [fpow_loop0, show 2 * (n / 2) = n by omega]
theorem spec_FpPow_ev (a : Int) (n : Nat) (hn : n < 1000000) : Does cp n_spec_FpPow [.int .i64 a, .int .i64 (n : Int)] [.int .i64 (fpow a n)] := by
  refine Ev.fn (fun k => F_spec_FpPow k a n) (Ev.f (ltI_f (by omega)) (Ev.c (spec_FpOf_ev a) ?_))
  exact ((spec_FpPow_l 20 n 1 (a % 12107) (by omega) hn (by omega)).to (by rw [fpow_one])).l0
theorem impl_powerMod_l (f : Nat) : ∀ (n : Nat) (r x : Int), n < 2 ^ f → n < 1000000 → (0 ≤ r ∧ r < 12107) → (0 ≤ x ∧ x < 12107) → Ev (fun k m _ _ => L_impl_powerMod_0 k m 12107 (n : Int) x r) [.int .i64 (r * x ^ n % 12107)] := by
  have base : ∀ r x : Int, (0 ≤ r ∧ r < 12107) → Ev (fun k m _ _ => L_impl_powerMod_0 k m 12107 ((0 : Nat) : Int) x r) [.int .i64 (r * x ^ 0 % 12107)] := fun r x hr => by
    refine Ev.step (fun k m _ _ => L_impl_powerMod_0_s k m _ _ _ _) (Ev.f (ltI_f (by omega)) (Ev.some_ ?_))
    rw [Int.pow_zero, Int.mul_one, Int.emod_eq_of_lt hr.1 hr.2]
  induction f with
  | zero =>
    intro n r x hn _ hr _
    obtain rfl : n = 0 := by omega
    exact base r x hr
  | succ f ih =>
    intro n r x hn hn2 hr hx
    by_cases h0 : n = 0
    · subst h0
      exact base r x hr
    have hf : n / 2 < 2 ^ f := by rw [Nat.pow_succ] at hn; omega
    have s1 := sq_range hx hx
    have s2 := sq_range hr hx
    have e3 : remI (wr .i64 (mulI x x)) 12107 = x * x % 12107 := by rw [mulI_d, wr64 (by omega), remI_d, tmod_pos (by omega)]
    have e4 : remI (wr .i64 (mulI r x)) 12107 = r * x % 12107 := by rw [mulI_d, wr64 (by omega), remI_d, tmod_pos (by omega)]
    refine Ev.step (fun k m _ _ => L_impl_powerMod_0_s k m _ _ _ _) (Ev.t (ltI_t (by omega)) ?_)
    simp only [quo2 hn2, rem2, e3, e4]
    by_cases h1 : n % 2 = 1
    · refine Ev.t (eqI_t (by omega)) (Ev.g rfl (Ev.g rfl ?_))
      refine (ih (n / 2) _ _ hf (by omega) (fmod_range _) (fmod_range _)).to ?_
      rw [fpow_loop1, show 2 * (n / 2) + 1 = n by omega]
    · refine Ev.f (eqI_f (by omega)) (Ev.g rfl ?_)
      refine (ih (n / 2) _ _ hf (by omega) hr (fmod_range _)).to ?_
      rw [fpow_loop0, show 2 * (n / 2) = n by omega]
theorem impl_powerMod_ev (a : Int) (n : Nat) (hn : n < 1000000) : Does cp n_impl_powerMod [.int .i64 a, .int .i64 (n : Int), .int .i64 12107] [.int .i64 (fpow a n)] := by
  refine Ev.fn (fun k => F_impl_powerMod k a n 12107) (Ev.c (impl_remainder_ev a 12107 (by omega) (by omega)) ?_)
  exact ((impl_powerMod_l 20 n 1 (a % 12107) (by omega) hn (by omega) (fmod_range a)).to (by rw [fpow_one])).l0
theorem spec_FpInv_ev (a : Int) : Does cp n_spec_FpInv [.int .i64 a] [.int .i64 (finv a)] :=
  Ev.fn (fun k => F_spec_FpInv k a) (Ev.c (spec_FpPow_ev a 12105 (by omega)) (Ev.now _))
theorem impl_FpInv_ev (a : Int) : Does cp n_impl_FpInv [.int .i64 a] [.int .i64 (finv a)] :=
  Ev.fn (fun k => F_impl_FpInv k a) (Ev.c (impl_powerMod_ev a 12105 (by omega)) (Ev.now _))


theorem spec_l07Slope_ev (p r : Pt) : Does cp n_spec_l07Slope [.agg (eP p), .agg (eP r)] [.int .i64 (slope p r).1, .bool (slope p r).2] := by
  refine Ev.fn (fun k => F_spec_l07Slope k p.1 p.2.1 p.2.2 r.1 r.2.1 r.2.2) ?_
  unfold slope
  by_cases h : p.1 = r.1
  · rw [if_pos h]
    refine Ev.f (by rw [eqI_t h]; rfl) (Ev.c (spec_FpAdd_ev _ _) ?_)
    by_cases h2 : (p.2.1 + r.2.1) % 12107 = 0
    · rw [if_pos h2]; exact Ev.t (eqI_t h2) (Ev.now _)
    · rw [if_neg h2]
      exact Ev.f (eqI_f h2) (Ev.c (spec_FpMul_ev _ _) (Ev.c (spec_FpMul_ev _ _) (Ev.c (spec_FpAdd_ev _ _) (Ev.c (spec_FpMul_ev _ _) (Ev.c (spec_FpInv_ev _) (Ev.c (spec_FpMul_ev _ _) (Ev.now _)))))))
  · rw [if_neg h]
    exact Ev.t (by rw [eqI_f h]; rfl) (Ev.c (spec_FpSub_ev _ _) (Ev.c (spec_FpSub_ev _ _) (Ev.c (spec_FpInv_ev _) (Ev.c (spec_FpMul_ev _ _) (Ev.now _)))))
theorem impl_slopeOf_ev (p r : Pt) (hp : pRight p) (hr : pRight r) (h1 : ¬ p.2.2 = true) (h2 : ¬ r.2.2 = true) : Does cp n_impl_slopeOf [.agg (eP p), .agg (eP r)] [.int .i64 (slope p r).1, .bool (slope p r).2] := by
  refine Ev.fn (fun k => F_impl_slopeOf k p.1 p.2.1 p.2.2 r.1 r.2.1 r.2.2) ?_
  unfold slope
  have hp' := hp.resolve_left (fun h => h1 h.1)
  have hr' := hr.resolve_left (fun h => h2 h.1)
  by_cases h : p.1 = r.1
  · rw [if_pos h]
    refine Ev.f (by rw [eqI_t h]; rfl) ?_
    by_cases hy : p.2.1 = r.2.1
    · refine Ev.f (by rw [eqI_t hy]; rfl) ?_
      by_cases h0 : p.2.1 = 0
      · have hz : (p.2.1 + r.2.1) % 12107 = 0 := by rw [← hy, h0]; rfl
        rw [if_pos hz]
        exact Ev.t (eqI_t h0) (Ev.now _)
      · have hz : ¬ (p.2.1 + r.2.1) % 12107 = 0 := y2_ne hy h0 hp'.2.2.1
        rw [if_neg hz]
        exact Ev.f (eqI_f h0) (Ev.c (impl_FpMul_ev _ _) (Ev.c (impl_FpMul_ev _ _) (Ev.c (impl_FpAdd_ev _ _) (Ev.c (impl_FpMul_ev _ _) (Ev.c (impl_FpInv_ev _) (Ev.c (impl_FpMul_ev _ _) (Ev.now _)))))))
    · refine Ev.t (by rw [eqI_f hy]; rfl) ?_
      have hz : (p.2.1 + r.2.1) % 12107 = 0 := by
        have hp2 : 0 ≤ p.2.1 ∧ p.2.1 < 12107 := ⟨hp'.2.2.1.1, Int.lt_of_le_of_lt hp'.2.2.1.2 (by decide)⟩
        have hr2 : 0 ≤ r.2.1 ∧ r.2.1 < 12107 := ⟨hr'.2.2.1.1, Int.lt_of_le_of_lt hr'.2.2.1.2 (by decide)⟩
        exact Classical.byContradiction fun hs => hy (ph_inj hp2 hr2 (right_y hp'.2.2.2 (by rw [h]; exact hr'.2.2.2) hs))
      rw [if_pos hz]
      exact Ev.now _
  · rw [if_neg h]
    exact Ev.t (by rw [eqI_f h]; rfl) (Ev.c (impl_FpSub_ev _ _) (Ev.c (impl_FpSub_ev _ _) (Ev.c (impl_FpInv_ev _) (Ev.c (impl_FpMul_ev _ _) (Ev.now _)))))
theorem spec_l07Zero_ev : Does cp n_spec_l07Zero [] [.agg (eP (0, 0, true))] := Ev.fn (fun k => F_spec_l07Zero k) (Ev.now _)
theorem spec_l07Add_ev (p r : Pt) : Does cp n_spec_l07Add [.agg (eP p), .agg (eP r)] [.agg (eP (pAdd p r))] := by
  refine Ev.fn (fun k => F_spec_l07Add k p.1 p.2.1 p.2.2 r.1 r.2.1 r.2.2) ?_
  unfold pAdd
  refine Ev.b (fun h1 => ?_) (fun h1 => ?_)
  · rw [if_pos h1]; exact Ev.now _
  rw [if_neg (by rw [h1]; simp)]
  refine Ev.b (fun h2 => ?_) (fun h2 => ?_)
  · rw [if_pos h2]; exact Ev.now _
  rw [if_neg (by rw [h2]; simp)]
  refine Ev.c (spec_l07Slope_ev p r) ?_
  by_cases h3 : (slope p r).2 = true
  · rw [if_pos h3]
    exact Ev.f (by show notB (slope p r).2 = false; rw [h3]; rfl) (Ev.c (spec_FpMul_ev _ _) (Ev.c (spec_FpSub_ev _ _) (Ev.c (spec_FpSub_ev _ _) (Ev.c (spec_FpSub_ev _ _) (Ev.c (spec_FpMul_ev _ _) (Ev.c (spec_FpSub_ev _ _) (Ev.now _)))))))
  · rw [if_neg h3]
    exact Ev.t (by show notB (slope p r).2 = true; rw [Bool.not_eq_true] at h3; rw [h3]; rfl) (Ev.c spec_l07Zero_ev (Ev.now _))
theorem impl_add_ev (p r : Pt) (hp : pRight p) (hr : pRight r) : Does cp n_impl_add [.agg (eP p), .agg (eP r)] [.agg (eP (pAdd p r))] := by
  refine Ev.fn (fun k => F_impl_add k p.1 p.2.1 p.2.2 r.1 r.2.1 r.2.2) ?_
  unfold pAdd
  refine Ev.b (fun h1 => ?_) (fun h1 => ?_)
  · rw [if_pos h1]; exact Ev.now _
  rw [if_neg (by rw [h1]; simp)]
  refine Ev.b (fun h2 => ?_) (fun h2 => ?_)
  · rw [if_pos h2]; exact Ev.now _
  rw [if_neg (by rw [h2]; simp)]
  refine Ev.c (impl_slopeOf_ev p r hp hr (by rw [h1]; simp) (by rw [h2]; simp)) ?_
  by_cases h3 : (slope p r).2 = true
  · rw [if_pos h3]
    exact Ev.f (by show notB (slope p r).2 = false; rw [h3]; rfl) (Ev.c (impl_FpMul_ev _ _) (Ev.c (impl_FpSub_ev _ _) (Ev.c (impl_FpSub_ev _ _) (Ev.c (impl_FpSub_ev _ _) (Ev.c (impl_FpMul_ev _ _) (Ev.c (impl_FpSub_ev _ _) (Ev.now _)))))))
  · rw [if_neg h3]
    exact Ev.t (by show notB (slope p r).2 = true; rw [Bool.not_eq_true] at h3; rw [h3]; rfl) (Ev.now _)
theorem spec_PointTimes_l (f : Nat) (z : Pt) : ∀ (n : Nat) (b acc : Pt), n < 2 ^ f → n < 1000000 → pRight b → pRight acc →
    Ev (fun k m _ _ => L_spec_PointTimes_0 k m (n : Int) b.1 b.2.1 b.2.2 acc.1 acc.2.1 acc.2.2 z.1 z.2.1 z.2.2) [.agg (eP (pLoop f n b acc))] := by
  induction f with
  | zero =>
    intro n b acc hn _ _ _
    rw [pLoop]
    exact Ev.step (fun k m _ _ => L_spec_PointTimes_0_s k m _ _ _ _ _ _ _ _ _ _) (Ev.f (ltI_f (by omega)) (Ev.now _))
  | succ f ih =>
    intro n b acc hn hn2 hb ha
    rw [pLoop]
    by_cases h0 : n = 0
    · rw [if_pos h0]
      exact Ev.step (fun k m _ _ => L_spec_PointTimes_0_s k m _ _ _ _ _ _ _ _ _ _) (Ev.f (ltI_f (by omega)) (Ev.now _))
    rw [if_neg h0]
    have hf : n / 2 < 2 ^ f := by rw [Nat.pow_succ] at hn; omega
    refine Ev.step (fun k m _ _ => L_spec_PointTimes_0_s k m _ _ _ _ _ _ _ _ _ _) (Ev.t (ltI_t (by omega)) ?_)
    simp only [quo2 hn2, rem2]
    by_cases h1 : n % 2 = 1
    · rw [if_pos h1]
      exact Ev.t (eqI_t (by omega)) (Ev.c (spec_l07Add_ev acc b) (Ev.c (spec_l07Add_ev b b) (ih _ _ _ hf (by omega) (pAdd_right hb hb) (pAdd_right ha hb))))
    · rw [if_neg h1]
      exact Ev.f (eqI_f (by omega)) (Ev.c (spec_l07Add_ev b b) (ih _ _ _ hf (by omega) (pAdd_right hb hb) ha))
theorem spec_PointTimes_ev (n : Nat) (p : Pt) (hn : n < 12108) : Does cp n_spec_PointTimes [.int .i64 (n : Int), .agg (eP p)] [.agg (eP (pTimes n p))] := by
  refine Ev.fn (fun k => F_spec_PointTimes k n p.1 p.2.1 p.2.2) (Ev.c (spec_PointOk_ev p) ?_)
  unfold pTimes
  have e : remI (n : Int) 12108 = n := by rw [remI_d, tmod_pos (by omega)]; omega
  simp only [e]
  by_cases h : pOk p = true
  · rw [if_pos h]
    refine Ev.f (by show notB (pOk p) = false; rw [h]; rfl) (Ev.f (ltI_f (by omega)) (Ev.c spec_l07Zero_ev ?_))
    exact (spec_PointTimes_l 64 (0, 0, false) n p (0, 0, true) (by omega) (by omega) ((pOk_iff p).1 h) pRight_zero).l0
  · rw [if_neg h]
    exact Ev.t (by show notB (pOk p) = true; rw [Bool.not_eq_true] at h; rw [h]; rfl) (Ev.c spec_l07Zero_ev (Ev.now _))
theorem impl_PointTimes_l (f : Nat) (z : Pt) : ∀ (n : Nat) (b acc : Pt), n < 2 ^ f → n < 1000000 → pRight b → pRight acc →
    Ev (fun k m _ _ => L_impl_PointTimes_0 k m (n : Int) b.1 b.2.1 b.2.2 acc.1 acc.2.1 acc.2.2 z.1 z.2.1 z.2.2) [.agg (eP (pLoop f n b acc))] := by
  induction f with
  | zero =>
    intro n b acc hn _ _ _
    rw [pLoop]
    exact Ev.step (fun k m _ _ => L_impl_PointTimes_0_s k m _ _ _ _ _ _ _ _ _ _) (Ev.f (ltI_f (by omega)) (Ev.now _))
  | succ f ih =>
    intro n b acc hn hn2 hb ha
    rw [pLoop]
    by_cases h0 : n = 0
    · rw [if_pos h0]
      exact Ev.step (fun k m _ _ => L_impl_PointTimes_0_s k m _ _ _ _ _ _ _ _ _ _) (Ev.f (ltI_f (by omega)) (Ev.now _))
    rw [if_neg h0]
    have hf : n / 2 < 2 ^ f := by rw [Nat.pow_succ] at hn; omega
    refine Ev.step (fun k m _ _ => L_impl_PointTimes_0_s k m _ _ _ _ _ _ _ _ _ _) (Ev.t (ltI_t (by omega)) ?_)
    simp only [quo2 hn2, rem2]
    by_cases h1 : n % 2 = 1
    · rw [if_pos h1]
      exact Ev.t (eqI_t (by omega)) (Ev.c (impl_add_ev acc b ha hb) (Ev.c (impl_add_ev b b hb hb) (ih _ _ _ hf (by omega) (pAdd_right hb hb) (pAdd_right ha hb))))
    · rw [if_neg h1]
      exact Ev.f (eqI_f (by omega)) (Ev.c (impl_add_ev b b hb hb) (ih _ _ _ hf (by omega) (pAdd_right hb hb) ha))
theorem impl_PointTimes_ev (n : Nat) (p : Pt) (hn : n < 12108) : Does cp n_impl_PointTimes [.int .i64 (n : Int), .agg (eP p)] [.agg (eP (pTimes n p))] := by
  refine Ev.fn (fun k => F_impl_PointTimes k n p.1 p.2.1 p.2.2) (Ev.c (impl_PointOk_ev p) ?_)
  unfold pTimes
  by_cases h : pOk p = true
  · rw [if_pos h]
    refine Ev.f (by show notB (pOk p) = false; rw [h]; rfl) (Ev.c (impl_remainder_ev _ _ (by omega) (by omega)) ?_)
    have e : (n : Int) % 12108 = n := by omega
    simp only [hdV_c, tlV_c, parts1_a, asInt_i, asBool_b, asStr_s, asLen_f, asCells_f, tupL_t, refCells_r, ownLen_o, e]
    exact (impl_PointTimes_l 64 (0, 0, false) n p (0, 0, true) (by omega) (by omega) ((pOk_iff p).1 h) pRight_zero).l0
  · rw [if_neg h]
    exact Ev.t (by show notB (pOk p) = true; rw [Bool.not_eq_true] at h; rw [h]; rfl) (Ev.now _)


theorem spec_InGroup_ev (p : Pt) : Does cp n_spec_InGroup [.agg (eP p)] [.bool (pIn p)] := by
  refine Ev.fn (fun k => F_spec_InGroup k p.1 p.2.1 p.2.2) (Ev.c (spec_PointOk_ev p) ?_)
  unfold pIn
  refine Ev.b (fun h => ?_) (fun h => ?_)
  · rw [if_pos (show pOk p = true from h)]; exact Ev.c (spec_PointTimes_ev 1009 p (by omega)) (Ev.now _)
  · rw [if_neg (by rw [show pOk p = false from h]; simp)]; exact Ev.now _
theorem impl_InGroup_ev (p : Pt) : Does cp n_impl_InGroup [.agg (eP p)] [.bool (pIn p)] := by
  refine Ev.fn (fun k => F_impl_InGroup k p.1 p.2.1 p.2.2) (Ev.c (impl_PointOk_ev p) ?_)
  unfold pIn
  refine Ev.b (fun h => ?_) (fun h => ?_)
  · rw [if_pos (show pOk p = true from h)]; exact Ev.c (impl_PointTimes_ev 1009 p (by omega)) (Ev.now _)
  · rw [if_neg (by rw [show pOk p = false from h]; simp)]; exact Ev.now _


theorem wr_u8 (n : Int) : wr .u8 n = n % 256 := by unfold wr; rw [IntKind.wrap_u8]
theorem shr8 (a : Int) : shrI .i64 a 8 = a / 256 := by
  show a.fdiv (2 ^ 8) = a / 256
  rw [Int.fdiv_eq_ediv_of_nonneg _ (by omega)]
  rfl
theorem strOf_nums (l : List Int) : strOf (l.map fun n => .int .u8 n) = EV.strOfNums l := by
  unfold strOf EV.strOfNums
  rw [List.map_map]; rfl
theorem pbytes (p : Pt) : strOf (cutC [AV.int .u8 (wr .u8 (shrI .i64 (wr .i64 (addI p.1 1)) 8)), AV.int .u8 (wr .u8 (wr .i64 (addI p.1 1))), AV.int .u8 (wr .u8 (remI p.2.1 2))] 0 3) = EV.strOfNums [((wrap64 (p.1 + 1)) / 256) % 256, (wrap64 (p.1 + 1)) % 256, (Int.tmod p.2.1 2) % 256] := by
  simp only [wr_u8, shr8, wr_64, addI_d, remI_d]
  exact strOf_nums [_, _, _]
theorem impl_PointText_ev (p : Pt) : Does cp n_impl_PointText [.agg (eP p)] [.str (pText p)] := by
  refine Ev.fn (fun k => F_impl_PointText k p.1 p.2.1 p.2.2) (Ev.c (impl_PointOk_ev p) ?_)
  unfold pText
  by_cases h : pOk p = true
  · rw [if_pos h]
    refine Ev.f (by show notB (pOk p) = false; rw [h]; rfl) (Ev.b (fun h1 => ?_) (fun h1 => ?_))
    · rw [if_pos h1]; exact Ev.now _
    · rw [if_neg (by rw [h1]; simp), ← pbytes]
      exact Ev.g rfl (Ev.now _)
  · rw [if_neg h]
    exact Ev.t (by show notB (pOk p) = true; rw [Bool.not_eq_true] at h; rw [h]; rfl) (Ev.now _)
def keyOk (p : Pt) : Bool := pIn p && !p.2.2
def comOk (ks : List Pt) : Bool := decide (ks.length = 8) && ks.all keyOk
theorem spec_CommitteeOk_l (ks : List Pt) (hl : ks.length ≤ 1048576) (d : Nat) : ∀ i : Nat, i + d = ks.length →
    Ev (fun k m _ _ => L_spec_CommitteeOk_0 k m (i : Int) ks.length (ks.flatMap eP)) [.bool ((ks.drop i).all keyOk && decide (ks.length = 8))] := by
  induction d with
  | zero =>
    intro i hi
    refine Ev.step (fun k m _ _ => L_spec_CommitteeOk_0_s k m _ _ _) (Ev.f (ltI_f (by rw [lenI_c]; omega)) (Ev.some_ ?_))
    rw [List.drop_eq_nil_of_le (by omega), List.all_nil, Bool.true_and, eqI_d, lenI_c]
    congr 2; rw [decide_eq_decide]; omega
  | succ d ih =>
    intro i hi
    have c0 : cellAt (ks.flatMap eP) (mulN (natI (i : Int)) 3) = .int .i64 (ks[i]'(by omega)).1 := cell_enc0 eP_len (by omega) (by decide)
    have c1 : cellAt (ks.flatMap eP) (addN (mulN (natI (i : Int)) 3) 1) = .int .i64 (ks[i]'(by omega)).2.1 := cell_enc eP_len (by omega) 1 (by decide)
    have c2 : cellAt (ks.flatMap eP) (addN (mulN (natI (i : Int)) 3) 2) = .bool (ks[i]'(by omega)).2.2 := cell_enc eP_len (by omega) 2 (by decide)
    refine Ev.step (fun k m _ _ => L_spec_CommitteeOk_0_s k m _ _ _) (Ev.t (ltI_t (by rw [lenI_c]; omega)) (Ev.g (inR_n (by omega)) ?_))
    simp only [c0, c1, c2, hdV_c, tlV_c, parts1_a, asInt_i, asBool_b, asStr_s, asLen_f, asCells_f, tupL_t, refCells_r, ownLen_o, wrS (show i < 9223372036854775807 by omega)]
    rw [List.drop_eq_getElem_cons (show i < ks.length by omega), List.all_cons, keyOk, Bool.and_assoc, Bool.and_assoc]
    exact Ev.g rfl (Ev.c (spec_InGroup_ev (ks[i]'(by omega))) (Ev.an fun _ => Ev.g (inR_n (by omega)) (Ev.g rfl (Ev.na fun _ => ih (i + 1) (by omega)))))
theorem spec_CommitteeOk_ev (ks : List Pt) (hl : ks.length ≤ 1048576) : Does cp n_spec_CommitteeOk [.agg [.fs ks.length (ks.flatMap eP)]] [.bool (comOk ks)] :=
  Ev.fn (fun k => F_spec_CommitteeOk k _ _) ((spec_CommitteeOk_l ks hl ks.length 0 (by omega)).to (by rw [comOk, Bool.and_comm]; rfl)).l0
theorem impl_CommitteeOk_l (ks : List Pt) (hl : ks.length ≤ 1048576) (d : Nat) : ∀ i : Nat, i + d = ks.length →
    Ev (fun k m _ _ => L_impl_CommitteeOk_0 k m ks.length (ks.flatMap eP) (lenI ks.length) (i : Int)) [.bool ((ks.drop i).all keyOk)] := by
  induction d with
  | zero =>
    intro i hi
    refine Ev.step (fun k m _ _ => L_impl_CommitteeOk_0_s k m _ _ _ _) (Ev.f (ltI_f (by rw [lenI_c]; omega)) (Ev.some_ ?_))
    rw [List.drop_eq_nil_of_le (by omega), List.all_nil]
  | succ d ih =>
    intro i hi
    have c0 : cellAt (ks.flatMap eP) (mulN (natI (i : Int)) 3) = .int .i64 (ks[i]'(by omega)).1 := cell_enc0 eP_len (by omega) (by decide)
    have c1 : cellAt (ks.flatMap eP) (addN (mulN (natI (i : Int)) 3) 1) = .int .i64 (ks[i]'(by omega)).2.1 := cell_enc eP_len (by omega) 1 (by decide)
    have c2 : cellAt (ks.flatMap eP) (addN (mulN (natI (i : Int)) 3) 2) = .bool (ks[i]'(by omega)).2.2 := cell_enc eP_len (by omega) 2 (by decide)
    refine Ev.step (fun k m _ _ => L_impl_CommitteeOk_0_s k m _ _ _ _) (Ev.t (ltI_t (by rw [lenI_c]; omega)) (Ev.g (inR_n (by omega)) ?_))
    simp only [c0, c1, c2, hdV_c, tlV_c, parts1_a, asInt_i, asBool_b, asStr_s, asLen_f, asCells_f, tupL_t, refCells_r, ownLen_o, wrS (show i < 9223372036854775807 by omega)]
    rw [List.drop_eq_getElem_cons (show i < ks.length by omega), List.all_cons, keyOk, Bool.and_comm (pIn _), Bool.and_assoc]
    exact Ev.g rfl (Ev.na fun _ => Ev.c (impl_InGroup_ev (ks[i]'(by omega))) (Ev.an fun _ => ih (i + 1) (by omega)))
theorem impl_CommitteeOk_ev (ks : List Pt) (hl : ks.length ≤ 1048576) : Does cp n_impl_CommitteeOk [.agg [.fs ks.length (ks.flatMap eP)]] [.bool (comOk ks)] := by
  refine Ev.fn (fun k => F_impl_CommitteeOk k _ _) ?_
  have e : eqI (lenI ks.length) 8 = decide (ks.length = 8) := by rw [eqI_d, lenI_c, decide_eq_decide]; omega
  simp only [e]
  exact Ev.an fun _ => (impl_CommitteeOk_l ks hl ks.length 0 (by omega)).l0


theorem spec_PointText_ev (p : Pt) : Does cp n_spec_PointText [.agg (eP p)] [.str (pText p)] := by
  refine Ev.fn (fun k => F_spec_PointText k p.1 p.2.1 p.2.2) (Ev.c (spec_PointOk_ev p) ?_)
  unfold pText
  by_cases h : pOk p = true
  · rw [if_pos h]
    refine Ev.f (by show notB (pOk p) = false; rw [h]; rfl) (Ev.b (fun h1 => ?_) (fun h1 => ?_))
    · rw [if_pos h1]; exact Ev.now _
    · rw [if_neg (by rw [h1]; simp), ← pbytes]
      exact Ev.g rfl (Ev.now _)
  · rw [if_neg h]
    exact Ev.t (by show notB (pOk p) = true; rw [Bool.not_eq_true] at h; rw [h]; rfl) (Ev.now _)
theorem catSt (xs : List ByteArray) (s : ByteArray) : catC (cutC (xs.flatMap eS) 0 (mulN xs.length 1)) (cutC [.str s] 0 1) = (xs ++ [s]).flatMap eS := by
  rw [cut_all eS_len, List.flatMap_append]; rfl
theorem impl_keyTexts_l (ks : List Pt) (hl : ks.length ≤ 1048576) (d : Nat) : ∀ (i : Nat) (xs : List ByteArray), i + d = ks.length → xs = (ks.take i).map pText →
    Ev (fun k m _ _ => L_impl_keyTexts_0 k m ks.length (ks.flatMap eP) (lenI ks.length) (i : Int) xs.length (xs.flatMap eS)) [.fs (ks.map pText).length ((ks.map pText).flatMap eS)] := by
  induction d with
  | zero =>
    intro i xs hi hx
    have hx2 : xs = ks.map pText := by rw [hx, List.take_of_length_le (by omega)]
    subst hx2
    exact Ev.step (fun k m _ _ => L_impl_keyTexts_0_s k m _ _ _ _ _ _) (Ev.f (ltI_f (by rw [lenI_c]; omega)) (Ev.some_ (by rw [cut_all eS_len])))
  | succ d ih =>
    intro i xs hi hx
    have e1 : wr .i64 (addI (i : Int) 1) = ((i + 1 : Nat) : Int) := wrS (by omega)
    have p0 : cellAt (ks.flatMap eP) (mulN (natI (i : Int)) 3) = .int .i64 (ks[i]'(by omega)).1 := cell_enc0 eP_len (by omega) (by decide)
    have p1 : cellAt (ks.flatMap eP) (addN (mulN (natI (i : Int)) 3) 1) = .int .i64 (ks[i]'(by omega)).2.1 := cell_enc eP_len (by omega) 1 (by decide)
    have p2 : cellAt (ks.flatMap eP) (addN (mulN (natI (i : Int)) 3) 2) = .bool (ks[i]'(by omega)).2.2 := cell_enc eP_len (by omega) 2 (by decide)
    have hxl : xs.length = i := by rw [hx, List.length_map, List.length_take]; omega
    refine Ev.step (fun k m _ _ => L_impl_keyTexts_0_s k m _ _ _ _ _ _) (Ev.t (ltI_t (by rw [lenI_c]; omega)) (Ev.g (inR_n (by omega)) ?_))
    simp only [e1, p0, p1, p2, hdV_c, tlV_c, parts1_a, asInt_i, asBool_b, asStr_s, asLen_f, asCells_f, tupL_t, refCells_r, ownLen_o]
    refine Ev.g rfl (Ev.c (impl_PointText_ev (ks[i]'(by omega))) (Ev.g (fitN_small (by rw [addN_d]; omega) (by decide)) ?_))
    simp only [hdV_c, tlV_c, parts1_a, asInt_i, asBool_b, asStr_s, asLen_f, asCells_f, tupL_t, refCells_r, ownLen_o, catSt]
    have := ih (i + 1) (xs ++ [pText (ks[i]'(by omega))]) (by omega) (by rw [hx, List.take_add_one, List.map_append, List.getElem?_eq_getElem (by omega)]; rfl)
    rw [List.length_append] at this
    exact this
theorem impl_keyTexts_ev (ks : List Pt) (hl : ks.length ≤ 1048576) : Does cp n_impl_keyTexts [.agg [.fs ks.length (ks.flatMap eP)]] [.fs (ks.map pText).length ((ks.map pText).flatMap eS)] :=
  Ev.fn (fun k => F_impl_keyTexts k _ _) (impl_keyTexts_l ks hl ks.length 0 [] (by omega) rfl).l0
theorem bytesOf_e (s : ByteArray) : bytesOf s = (bts s).flatMap eB := by
  unfold bytesOf bts
  rw [List.flatMap_def, List.map_map]
  induction s.data.toList with
  | nil => rfl
  | cons b r ih => rw [List.map_cons, List.map_cons, List.flatten_cons, ← ih]; rfl
theorem arrA_len (k : IntKind) (a : List Int) : (arrC k a).length = a.length := by unfold arrC; simp
theorem cellA (k : IntKind) (a : List Int) {i : Nat} (h : i < a.length) : cellAt (arrC k a) i = .int k (nthI a i) := by
  unfold cellAt arrC nthI
  rw [List.getD_eq_getElem?_getD, List.getElem?_map, List.getElem?_eq_getElem h, List.getD_eq_getElem?_getD, List.getElem?_eq_getElem h]
  rfl
theorem setA (k : IntKind) (a : List Int) {i : Nat} (v : Int) (h : i < a.length) : setMany (arrC k a) i [.int k v] = arrC k (a.set i v) := by
  show (arrC k a).set i (.int k v) = _
  unfold arrC
  rw [List.map_set]
theorem cutA (k : IntKind) (a : List Int) : cutC (arrC k a) 0 a.length = arrC k a := by
  unfold cutC
  rw [List.drop_zero, List.take_of_length_le (by rw [arrA_len]; exact Nat.le_refl _)]
theorem intsA (k : IntKind) {a : List Int} {n : Nat} (h : a.length = n) : intsC (arrC k a) 0 n = a := by
  subst h
  unfold intsC
  rw [cutA]
  unfold arrC
  rw [List.map_map]
  exact List.map_id' a
theorem kindA (k : IntKind) {a : List Int} {n : Nat} (h : a.length = n) : kindC k (arrC k a) 0 n = true := by
  subst h
  unfold kindC
  rw [cutA, arrA_len, Nat.beq_refl, Bool.true_and]
  unfold arrC
  rw [List.all_map, List.all_eq_true]
  intro x _
  exact decide_eq_true rfl
theorem putA (k : IntKind) {cs : List AV} {a : List Int} (h : cs.length = a.length) : putC cs 0 k a = arrC k a := by
  unfold putC
  rw [List.take_zero, List.nil_append, Nat.zero_add, List.drop_eq_nil_of_le (by omega), List.append_nil]
theorem lenA {a : List Int} {n : Nat} (h : a.length = n) : lenL a n = true := by unfold lenL; rw [h]; exact Nat.beq_refl _
theorem okA (k : IntKind) (n : Int) : okAll [Sc.int k] [AV.int k n] = true := by rw [okAll1]; exact decide_eq_true rfl
theorem bleA (k : IntKind) {a : List Int} {i : Nat} (h : i < a.length) : Nat.ble (Nat.succ i) (List.length (arrC k a)) = true := Nat.ble_eq_true_of_le (by rw [arrA_len]; exact h)
theorem wrU (n : Int) : wr .u64 n = n % 18446744073709551616 := rfl
def bx (a b : Int) : Int := bitsOp .xor .u64 a b
theorem bx_range (a b : Int) : 0 ≤ bx a b ∧ bx a b < 18446744073709551616 := by
  have h : bx a b = (((BitVec.ofInt 64 a) ^^^ (BitVec.ofInt 64 b)).toNat : Int) % 18446744073709551616 := rfl
  omega
theorem bx_comm (a b : Int) : bx a b = bx b a := by
  show IntKind.u64.wrap ((BitVec.ofInt 64 a ^^^ BitVec.ofInt 64 b).toNat : Int) = IntKind.u64.wrap ((BitVec.ofInt 64 b ^^^ BitVec.ofInt 64 a).toNat : Int)
  rw [BitVec.xor_comm]
def rotl (v k : Int) : Int := bitsOp .or .u64 (wr .u64 (shlI .u64 v k)) (shrI .u64 v (wr .u64 (subI 64 k)))
theorem rotl0 {v : Int} (h : 0 ≤ v ∧ v < 18446744073709551616) : rotl v 0 = v := by
  unfold rotl
  have h1 : wr .u64 (subI 64 0) = 64 := rfl
  have h2 : shlI .u64 v 0 = v := by show v * 1 = v; omega
  have h3 : shrI .u64 v 64 = 0 := by
    show v.fdiv (2 ^ (min 64 64)) = 0
    rw [Int.fdiv_eq_ediv_of_nonneg _ (by decide)]
    exact Int.ediv_eq_zero_of_lt h.1 (by show v < 2 ^ 64; omega)
  have h4 : v % 18446744073709551616 = v := Int.emod_eq_of_lt h.1 h.2
  rw [h1, h2, h3, wrU, h4]
  show (((BitVec.ofInt 64 v) ||| (BitVec.ofInt 64 0)).toNat : Int) % 18446744073709551616 = v
  have h5 : BitVec.ofInt 64 0 = 0#64 := rfl
  rw [h5, BitVec.or_zero, BitVec.toNat_ofInt]
  have h6 : ((v % (2 ^ 64 : Nat)).toNat : Int) = v := by
    have : (((2 : Nat) ^ 64 : Nat) : Int) = 18446744073709551616 := rfl
    rw [this, h4]; omega
  rw [h6, h4]
theorem and63_ : ∀ k : Fin 64, bitsOp .and .u64 (wr .u64 (k.val : Int)) 63 = (k.val : Int) := by decide +kernel
theorem and63 {k : Int} (h : 0 ≤ k ∧ k < 64) : bitsOp .and .u64 (wr .u64 k) 63 = k := by
  have := and63_ ⟨k.toNat, by omega⟩
  simp only at this
  rwa [show ((k.toNat : Nat) : Int) = k by omega] at this
/-- Places filled, one behind the other. -/
def setsF (g : Nat → Nat × Int) : Nat → Nat → List Int → List Int
  | _, 0, c => c
  | x, n + 1, c => setsF g (x + 1) n (c.set (g x).1 (g x).2)
theorem setsF_len (g : Nat → Nat × Int) : ∀ (n x : Nat) (c : List Int), (setsF g x n c).length = c.length
  | 0, _, _ => rfl
  | n + 1, x, c => by rw [setsF, setsF_len g n, List.length_set]
def z25 : List Int := List.replicate 25 0
def z5 : List Int := [0, 0, 0, 0, 0]
def colX (a : List Int) (x : Nat) : Int := bx (bx (bx (bx (nthI a x) (nthI a (x + 5))) (nthI a (x + 10))) (nthI a (x + 15))) (nthI a (x + 20))
def kC (a : List Int) : List Int := setsF (fun x => (x, colX a x)) 0 5 z5
def kD (c : List Int) (x : Nat) : Int := bx (nthI c ((x + 4) % 5)) (rotl (nthI c ((x + 1) % 5)) 1)
def kV (a c : List Int) (x y : Nat) : Int := rotl (bx (nthI a (x + 5 * y)) (kD c x)) (nthI kecOff (x + 5 * y))
def kPos (x y : Nat) : Nat := y + 5 * ((2 * x + 3 * y) % 5)
theorem kPos_lt {x y : Nat} (h : y < 5) : kPos x y < 25 := by unfold kPos; omega
def setsX (v : Nat → Nat → Int) : Nat → Nat → List Int → List Int
  | _, 0, b => b
  | x, n + 1, b => setsX v (x + 1) n (setsF (fun y => (kPos x y, v x y)) 0 5 b)
def setsY (v : Nat → Nat → Int) : Nat → Nat → List Int → List Int
  | _, 0, b => b
  | y, n + 1, b => setsY v (y + 1) n (setsF (fun x => (kPos x y, v x y)) 0 5 b)
def kB (v : Nat → Nat → Int) : List Int := setsX v 0 5 z25
theorem kB_eq (v : Nat → Nat → Int) : setsY v 0 5 z25 = kB v := by kernel_rfl
theorem setsX_len (v : Nat → Nat → Int) : ∀ (n x : Nat) (b : List Int), (setsX v x n b).length = b.length
  | 0, _, _ => rfl
  | n + 1, x, b => by rw [setsX, setsX_len v n, setsF_len]
def kChi (b : List Int) (x y : Nat) : Int := bx (nthI b (x + 5 * y)) (bitsOp .and .u64 (bx (nthI b ((x + 1) % 5 + 5 * y)) 18446744073709551615) (nthI b ((x + 2) % 5 + 5 * y)))
def setsZ (b : List Int) : Nat → Nat → List Int → List Int
  | _, 0, a => a
  | y, n + 1, a => setsZ b (y + 1) n (setsF (fun x => (x + 5 * y, kChi b x y)) 0 5 a)
theorem setsZ_len (b : List Int) : ∀ (n x : Nat) (a : List Int), (setsZ b x n a).length = a.length
  | 0, _, _ => rfl
  | n + 1, x, a => by rw [setsZ, setsZ_len b n, setsF_len]
def kEnd (a : List Int) (rc : Int) : List Int := a.set 0 (bx (nthI a 0) rc)
def kR (a : List Int) (rc : Int) : List Int := kEnd (setsZ (kB (kV a (kC a))) 0 5 a) rc
theorem kR_len (a : List Int) (rc : Int) : (kR a rc).length = a.length := by unfold kR kEnd; rw [List.length_set, setsZ_len]
def kIt : Nat → Nat → List Int → List Int
  | _, 0, a => a
  | n, d + 1, a => kIt (n + 1) d (kR a (nthI kecRC n))
theorem kIt_len : ∀ (d n : Nat) (a : List Int), (kIt n d a).length = a.length
  | 0, _, _ => rfl
  | d + 1, n, a => by rw [kIt, kIt_len d, kR_len]
def kAll (a : List Int) : List Int := kIt 0 24 a
theorem kAll_len (a : List Int) : (kAll a).length = a.length := by unfold kAll; rw [kIt_len]
theorem kAll_eq (a : List Int) : kIt 0 24 a = kAll a := rfl
attribute [irreducible] kAll
/-- A word of a text. -/
def kWd (s : ByteArray) (at_ : Nat) : Nat → Int → Int
  | 0, w => w
  | i + 1, w => kWd s at_ i (bitsOp .or .u64 (wr .u64 (shlI .u64 w 8)) (wr .u64 (getS s ((at_ + i : Nat) : Int))))
def kW (s : ByteArray) (at_ : Nat) : Int := kWd s at_ 8 0
def kAbs (s : ByteArray) (at_ : Nat) : Nat → Nat → List Int → List Int
  | _, 0, a => a
  | i, n + 1, a => kAbs s at_ (i + 1) n (a.set i (bx (nthI a i) (kW s (at_ + 8 * i))))
theorem kAbs_len (s : ByteArray) (at_ : Nat) : ∀ (n i : Nat) (a : List Int), (kAbs s at_ i n a).length = a.length
  | 0, _, _ => rfl
  | n + 1, i, a => by rw [kAbs, kAbs_len s at_ n, List.length_set]
def kSp (s : ByteArray) : Nat → Nat → List Int → List Int
  | _, 0, a => a
  | at_, d + 1, a => kSp s (at_ + 136) d (kAll (kAbs s at_ 0 17 a))
def kByte (a : List Int) (i : Nat) : Int := wr .u8 (shrI .u64 (nthI a (i / 8)) ((8 * (i % 8) : Nat) : Int))
def kT (a : List Int) : List Int := (List.range 200).map (kByte a)
def kPad0 (l : List Int) : List Int := l ++ (1 :: List.replicate (135 - l.length % 136) 0)
def kLast (l : List Int) : List Int := l.set (l.length - 1) (bitsOp .or .u8 (nthI l (l.length - 1)) 128)
def kPad (l : List Int) : List Int := kLast (kPad0 l)
theorem kPad_len (l : List Int) : (kPad l).length = (l.length / 136 + 1) * 136 := by
  unfold kPad kLast kPad0
  rw [List.length_set, List.length_append, List.length_cons, List.length_replicate]
  omega
def dig (s : ByteArray) : ByteArray := subS (EV.strOfNums (kT (kSp (EV.strOfNums (kPad (bts s))) 0 (s.size / 136 + 1) z25))) 0 32
theorem kT_len (a : List Int) : (kT a).length = 200 := by unfold kT; rw [List.length_map, List.length_range]
theorem dig_len (s : ByteArray) : (dig s).size = 32 := by
  unfold dig subS
  rw [ByteArray.size_extract]
  have : (EV.strOfNums (kT (kSp (EV.strOfNums (kPad (bts s))) 0 (s.size / 136 + 1) z25))).size = 200 := by rw [EV.strOfNums_size, kT_len]
  omega


theorem iAdd {x c' : Nat} {c : Int} (hc : c = (c' : Int)) (h : x + c' < 1152921504606846976) : wr .i64 (addI (x : Int) c) = ((x + c' : Nat) : Int) := by subst hc; rw [addI_d, wr64 (by omega)]; omega
theorem iMul {y c' : Nat} {c : Int} (hc : c = (c' : Int)) (h : c' * y < 1152921504606846976) : wr .i64 (mulI c (y : Int)) = ((c' * y : Nat) : Int) := by
  subst hc
  have e : ((c' : Int) * (y : Int)) = ((c' * y : Nat) : Int) := by push_cast; rfl
  rw [mulI_d, e, wr64 (by omega)]
theorem iRem (x : Nat) : remI (x : Int) 5 = ((x % 5 : Nat) : Int) := by rw [remI_d, tmod_pos (by omega)]; omega
theorem ixA (n : Nat) : addN 0 (mulN (natI (n : Int)) 1) = n := by rw [natI_c, mulN_d, addN_d]; omega
theorem spec_l03Word_l (s : ByteArray) (a : Nat) (ha : a + 8 ≤ s.size) (hs : s.size < 1152921504606846976) : ∀ (i : Nat) (w : Int), i ≤ 8 → Ev (fun k m _ _ => L_spec_l03Word_0 k m (a : Int) s ((i : Int) - 1) w) [.int .u64 (kWd s a i w)]
  | 0, w, _ => Ev.step (fun k m _ _ => L_spec_l03Word_0_s k m _ _ _ _) (Ev.f (leI_f (by omega)) (Ev.now _))
  | i + 1, w, hi => by
    have e1 : wr .i64 (addI (a : Int) (((i + 1 : Nat) : Int) - 1)) = ((a + i : Nat) : Int) := by rw [addI_d, wr64 (by omega)]; omega
    have e2 : wr .i64 (subI (((i + 1 : Nat) : Int) - 1) 1) = (i : Int) - 1 := by rw [subI_d, wr64 (by omega)]; omega
    refine Ev.step (fun k m _ _ => L_spec_l03Word_0_s k m _ _ _ _) (Ev.t (leI_t (by omega)) ?_)
    simp only [e1, e2]
    exact Ev.g (inR_n (by show a + i < s.size; omega)) (spec_l03Word_l s a ha hs i _ (by omega))
theorem spec_l03Word_ev (s : ByteArray) (a : Nat) (ha : a + 8 ≤ s.size) (hs : s.size < 1152921504606846976) : Does cp n_spec_l03Word [.str s, .int .i64 (a : Int)] [.int .u64 (kW s a)] :=
  Ev.fn (fun k => F_spec_l03Word k s a) (Ev.l0 (spec_l03Word_l s a ha hs 8 0 (by omega)))
theorem impl_wordAt_l (s : ByteArray) (a : Nat) (ha : a + 8 ≤ s.size) (hs : s.size < 1152921504606846976) : ∀ (i : Nat) (w : Int), i ≤ 8 → Ev (fun k m _ _ => L_impl_wordAt_0 k m (a : Int) s ((i : Int) - 1) w) [.int .u64 (kWd s a i w)]
  | 0, w, _ => Ev.step (fun k m _ _ => L_impl_wordAt_0_s k m _ _ _ _) (Ev.f (leI_f (by omega)) (Ev.now _))
  | i + 1, w, hi => by
    have e1 : wr .i64 (addI (a : Int) (((i + 1 : Nat) : Int) - 1)) = ((a + i : Nat) : Int) := by rw [addI_d, wr64 (by omega)]; omega
    have e2 : wr .i64 (subI (((i + 1 : Nat) : Int) - 1) 1) = (i : Int) - 1 := by rw [subI_d, wr64 (by omega)]; omega
    refine Ev.step (fun k m _ _ => L_impl_wordAt_0_s k m _ _ _ _) (Ev.t (leI_t (by omega)) ?_)
    simp only [e1, e2]
    exact Ev.g (inR_n (by show a + i < s.size; omega)) (impl_wordAt_l s a ha hs i _ (by omega))
theorem impl_wordAt_ev (s : ByteArray) (a : Nat) (ha : a + 8 ≤ s.size) (hs : s.size < 1152921504606846976) : Does cp n_impl_wordAt [.str s, .int .i64 (a : Int)] [.int .u64 (kW s a)] :=
  Ev.fn (fun k => F_impl_wordAt k s a) (Ev.l0 (impl_wordAt_l s a ha hs 8 0 (by omega)))
theorem spec_l03Turn_ev (v k : Int) (h : 0 ≤ k ∧ k < 64) : Does cp n_spec_l03Turn [.int .u64 v, .int .u64 k] [.int .u64 (rotl v k)] :=
  Ev.fn (fun q => F_spec_l03Turn q v k) (Ev.g (leI_t h.1) (Ev.g (leI_t (by rw [wrU]; omega)) (Ev.now _)))
theorem rotateLeft_ev (v k : Int) (h : 0 ≤ k ∧ k < 64) : Does cp n_math_bits_RotateLeft64 [.int .u64 v, .int .i64 k] [.int .u64 (rotl v k)] := by
  refine Ev.fn (fun q => F_math_bits_RotateLeft64 q v k) ?_
  simp only [and63 h]
  exact Ev.g (leI_t h.1) (Ev.g (leI_t (by rw [wrU]; omega)) (Ev.now _))
theorem off_range_ : ∀ i : Fin 25, 0 ≤ nthI kecOff i.val ∧ nthI kecOff i.val < 64 := by decide
theorem off_range {i : Nat} (h : i < 25) : 0 ≤ nthI kecOff i ∧ nthI kecOff i < 64 := off_range_ ⟨i, h⟩


section
variable {a : List Int} {rc : Int} {r : List AV}
theorem spec_round4 {b : List Int} (hb : b.length = 25) {y : Nat} (hy : y < 5) : ∀ (n x : Nat) (a : List Int), x + n = 5 → a.length = 25 →
    Ev (fun k m _ _ => L_spec_l03Round_3 k m ((y + 1 : Nat) : Int) rc (arrC .u64 (setsF (fun x => (x + 5 * y, kChi b x y)) x n a)) (arrC .u64 b) (arrC .u64 z25)) r →
    Ev (fun k m p _ => L_spec_l03Round_4 k m p (y : Int) rc (x : Int) (arrC .u64 a) (arrC .u64 b) (arrC .u64 z25)) r
  | 0, x, a, hx, ha, h => by
    refine Ev.step (fun k m p _ => L_spec_l03Round_4_s k m p _ _ _ _ _ _) (Ev.f (ltI_f (by omega)) ?_)
    have q9 : wr .i64 (addI (y : Int) 1) = ((y + 1 : Nat) : Int) := iAdd rfl (by omega)
    simp only [q9]
    exact Ev.o1 h
  | n + 1, x, a, hx, ha, h => by
    have q1 : wr .i64 (mulI 5 (y : Int)) = ((5 * y : Nat) : Int) := iMul rfl (by omega)
    have q2 : wr .i64 (addI (x : Int) ((5 * y : Nat) : Int)) = ((x + 5 * y : Nat) : Int) := iAdd rfl (by omega)
    have q3 : wr .i64 (addI (x : Int) 1) = ((x + 1 : Nat) : Int) := iAdd rfl (by omega)
    have q4 : wr .i64 (addI (x : Int) 2) = ((x + 2 : Nat) : Int) := iAdd rfl (by omega)
    have q5 : wr .i64 (addI (((x + 1) % 5 : Nat) : Int) ((5 * y : Nat) : Int)) = (((x + 1) % 5 + 5 * y : Nat) : Int) := iAdd rfl (by omega)
    have q6 : wr .i64 (addI (((x + 2) % 5 : Nat) : Int) ((5 * y : Nat) : Int)) = (((x + 2) % 5 + 5 * y : Nat) : Int) := iAdd rfl (by omega)
    refine Ev.step (fun k m p _ => L_spec_l03Round_4_s k m p _ _ _ _ _ _) (Ev.t (ltI_t (by omega)) ?_)
    simp only [q1, q2, q3, q4, iRem, q5, q6, ixA, cellA .u64 b (show x + 5 * y < b.length by omega), cellA .u64 b (show (x + 1) % 5 + 5 * y < b.length by omega), cellA .u64 b (show (x + 2) % 5 + 5 * y < b.length by omega), asInt_i, setA .u64 a _ (show x + 5 * y < a.length by omega)]
    exact Ev.g (inR_n (by omega)) (Ev.g (okA _ _) (Ev.g (inR_n (by omega)) (Ev.g (okA _ _) (Ev.g (inR_n (by omega)) (Ev.g (okA _ _) (Ev.g (inR_n (by omega)) (Ev.g (bleA .u64 (by omega)) (spec_round4 hb hy n (x + 1) _ (by omega) (by rw [List.length_set]; exact ha) h))))))))
theorem spec_round3 {b : List Int} (hb : b.length = 25) : ∀ (n y : Nat) (a : List Int), y + n = 5 → a.length = 25 →
    Ev (fun k m _ _ => L_spec_l03Round_3 k m (y : Int) rc (arrC .u64 a) (arrC .u64 b) (arrC .u64 z25)) [.arr .u64 (kEnd (setsZ b y n a) rc)]
  | 0, y, a, hy, ha => by
    refine Ev.step (fun k m _ _ => L_spec_l03Round_3_s k m _ _ _ _ _) (Ev.f (ltI_f (by omega)) ?_)
    have h1 : (a.set 0 (bitsOp .xor .u64 (nthI a 0) rc)).length = 25 := by rw [List.length_set]; exact ha
    simp only [cellA .u64 a (show 0 < a.length by omega), asInt_i, setA .u64 a _ (show 0 < a.length by omega), intsA .u64 h1, putA .u64 (show (arrC .u64 z25).length = (a.set 0 (bitsOp .xor .u64 (nthI a 0) rc)).length by rw [h1]; rfl)]
    exact Ev.g (okA _ _) (Ev.g (Nat.ble_eq_true_of_le (by rw [arrA_len]; omega)) (Ev.g (kindA .u64 h1) (Ev.g (by rw [lenA h1]; rfl) (Ev.g (by rw [kindA .u64 h1]; rfl) (Ev.now _)))))
  | n + 1, y, a, hy, ha =>
    Ev.step (fun k m _ _ => L_spec_l03Round_3_s k m _ _ _ _ _) (Ev.t (ltI_t (by omega)) (Ev.l1 (spec_round4 hb (by omega) 5 0 a rfl ha (spec_round3 hb n (y + 1) _ (by omega) (by rw [setsF_len]; exact ha)))))
theorem spec_round2 {c : List Int} (ha : a.length = 25) (hc : c.length = 5) {x : Nat} (hx : x < 5) : ∀ (n y : Nat) (b : List Int), y + n = 5 → b.length = 25 →
    Ev (fun k m _ _ => L_spec_l03Round_1 k m ((x + 1 : Nat) : Int) rc (arrC .u64 (setsF (fun y => (kPos x y, kV a c x y)) y n b)) (arrC .u64 kecOff) (arrC .u64 a) (arrC .u64 c) (arrC .u64 z25)) r →
    Ev (fun k m p _ => L_spec_l03Round_2 k m p (x : Int) (kD c x) rc (y : Int) (arrC .u64 b) (arrC .u64 kecOff) (arrC .u64 a) (arrC .u64 c) (arrC .u64 z25)) r
  | 0, y, b, hy, hb, h => by
    refine Ev.step (fun k m p _ => L_spec_l03Round_2_s k m p _ _ _ _ _ _ _ _ _) (Ev.f (ltI_f (by omega)) ?_)
    have q9 : wr .i64 (addI (x : Int) 1) = ((x + 1 : Nat) : Int) := iAdd rfl (by omega)
    simp only [q9]
    exact Ev.o1 h
  | n + 1, y, b, hy, hb, h => by
    have q1 : wr .i64 (mulI 5 (y : Int)) = ((5 * y : Nat) : Int) := iMul rfl (by omega)
    have q2 : wr .i64 (addI (x : Int) ((5 * y : Nat) : Int)) = ((x + 5 * y : Nat) : Int) := iAdd rfl (by omega)
    have p1 : wr .i64 (mulI 2 (x : Int)) = ((2 * x : Nat) : Int) := iMul rfl (by omega)
    have p2 : wr .i64 (mulI 3 (y : Int)) = ((3 * y : Nat) : Int) := iMul rfl (by omega)
    have p3 : wr .i64 (addI ((2 * x : Nat) : Int) ((3 * y : Nat) : Int)) = ((2 * x + 3 * y : Nat) : Int) := iAdd rfl (by omega)
    have p4 : wr .i64 (mulI 5 (((2 * x + 3 * y) % 5 : Nat) : Int)) = ((5 * ((2 * x + 3 * y) % 5) : Nat) : Int) := iMul rfl (by omega)
    have p5 : wr .i64 (addI (y : Int) ((5 * ((2 * x + 3 * y) % 5) : Nat) : Int)) = ((kPos x y : Nat) : Int) := iAdd rfl (by omega)
    have q3 : wr .i64 (addI (y : Int) 1) = ((y + 1 : Nat) : Int) := iAdd rfl (by omega)
    have hp := kPos_lt (x := x) (show y < 5 by omega)
    refine Ev.step (fun k m p _ => L_spec_l03Round_2_s k m p _ _ _ _ _ _ _ _ _) (Ev.t (ltI_t (by omega)) ?_)
    simp only [q1, q2, q3, p1, p2, p3, iRem, p4, p5, ixA, cellA .u64 a (show x + 5 * y < a.length by omega), cellA .u64 kecOff (show x + 5 * y < kecOff.length by show _ < 25; omega), asInt_i]
    have ho := off_range (show x + 5 * y < 25 by omega)
    refine Ev.g (inR_n (by omega)) (Ev.g (okA _ _) (Ev.g (inR_n (by omega)) (Ev.g (okA _ _) (Ev.b (fun _ => Ev.c (spec_l03Turn_ev _ _ ho) ?_) (fun h0 => ?_)))))
    · simp only [hdV_c, tlV_c, parts1_a, asInt_i, asBool_b, asStr_s, asLen_f, asCells_f, tupL_t, refCells_r, ownLen_o, setA .u64 b _ (show kPos x y < b.length by omega)]
      exact Ev.g (inR_n hp) (Ev.g (bleA .u64 (by omega)) (spec_round2 ha hc hx n (y + 1) _ (by omega) (by rw [List.length_set]; exact hb) h))
    · have hz : nthI kecOff (x + 5 * y) = 0 := by have := ltI_fo h0; omega
      have hv : bitsOp .xor .u64 (nthI a (x + 5 * y)) (kD c x) = kV a c x y := by
        show bx _ _ = _
        unfold kV
        rw [hz, rotl0 (bx_range _ _)]
      simp only [hv, setA .u64 b _ (show kPos x y < b.length by omega)]
      exact Ev.g (inR_n hp) (Ev.g (bleA .u64 (by omega)) (spec_round2 ha hc hx n (y + 1) _ (by omega) (by rw [List.length_set]; exact hb) h))
theorem spec_round1 {c : List Int} (ha : a.length = 25) (hc : c.length = 5) : ∀ (n x : Nat) (b : List Int), x + n = 5 → b.length = 25 →
    Ev (fun k m _ _ => L_spec_l03Round_3 k m 0 rc (arrC .u64 a) (arrC .u64 (setsX (kV a c) x n b)) (arrC .u64 z25)) r →
    Ev (fun k m _ _ => L_spec_l03Round_1 k m (x : Int) rc (arrC .u64 b) (arrC .u64 kecOff) (arrC .u64 a) (arrC .u64 c) (arrC .u64 z25)) r
  | 0, x, b, hx, hb, h => Ev.step (fun k m _ _ => L_spec_l03Round_1_s k m _ _ _ _ _ _ _) (Ev.f (ltI_f (by omega)) (Ev.l0 h))
  | n + 1, x, b, hx, hb, h => by
    have q3 : wr .i64 (addI (x : Int) 1) = ((x + 1 : Nat) : Int) := iAdd rfl (by omega)
    have q4 : wr .i64 (addI (x : Int) 4) = ((x + 4 : Nat) : Int) := iAdd rfl (by omega)
    refine Ev.step (fun k m _ _ => L_spec_l03Round_1_s k m _ _ _ _ _ _ _) (Ev.t (ltI_t (by omega)) ?_)
    simp only [q3, q4, iRem, ixA, cellA .u64 c (show (x + 1) % 5 < c.length by omega), cellA .u64 c (show (x + 4) % 5 < c.length by omega), asInt_i]
    refine Ev.g (inR_n (by omega)) (Ev.g (okA _ _) (Ev.g (inR_n (by omega)) (Ev.g (okA _ _) (Ev.c (spec_l03Turn_ev _ _ (by decide)) ?_))))
    simp only [hdV_c, tlV_c, parts1_a, asInt_i, asBool_b, asStr_s, asLen_f, asCells_f, tupL_t, refCells_r, ownLen_o]
    exact Ev.l1 (spec_round2 ha hc (show x < 5 by omega) 5 0 b rfl hb (spec_round1 ha hc n (x + 1) _ (by omega) (by rw [setsF_len]; exact hb) h))
theorem spec_round0 (ha : a.length = 25) : ∀ (n x : Nat) (c : List Int), x + n = 5 → c.length = 5 →
    Ev (fun k m _ _ => L_spec_l03Round_1 k m 0 rc (arrC .u64 z25) (arrC .u64 kecOff) (arrC .u64 a) (arrC .u64 (setsF (fun x => (x, colX a x)) x n c)) (arrC .u64 z25)) r →
    Ev (fun k m _ _ => L_spec_l03Round_0 k m rc (x : Int) (arrC .u64 c) (arrC .u64 a) (arrC .u64 kecOff) (arrC .u64 z25)) r
  | 0, x, c, hx, hc, h => by
    refine Ev.step (fun k m _ _ => L_spec_l03Round_0_s k m _ _ _ _ _ _) (Ev.f (ltI_f (by omega)) ?_)
    exact Ev.l0 h
  | n + 1, x, c, hx, hc, h => by
    have q1 : wr .i64 (addI (x : Int) 1) = ((x + 1 : Nat) : Int) := iAdd rfl (by omega)
    have q5 : wr .i64 (addI (x : Int) 5) = ((x + 5 : Nat) : Int) := iAdd rfl (by omega)
    have q10 : wr .i64 (addI (x : Int) 10) = ((x + 10 : Nat) : Int) := iAdd rfl (by omega)
    have q15 : wr .i64 (addI (x : Int) 15) = ((x + 15 : Nat) : Int) := iAdd rfl (by omega)
    have q20 : wr .i64 (addI (x : Int) 20) = ((x + 20 : Nat) : Int) := iAdd rfl (by omega)
    refine Ev.step (fun k m _ _ => L_spec_l03Round_0_s k m _ _ _ _ _ _) (Ev.t (ltI_t (by omega)) ?_)
    simp only [q1, q5, q10, q15, q20, ixA, cellA .u64 a (show x < a.length by omega), cellA .u64 a (show x + 5 < a.length by omega), cellA .u64 a (show x + 10 < a.length by omega), cellA .u64 a (show x + 15 < a.length by omega), cellA .u64 a (show x + 20 < a.length by omega), asInt_i, setA .u64 c _ (show x < c.length by omega)]
    exact Ev.g (inR_n (by omega)) (Ev.g (okA _ _) (Ev.g (inR_n (by omega)) (Ev.g (okA _ _) (Ev.g (inR_n (by omega)) (Ev.g (okA _ _) (Ev.g (inR_n (by omega)) (Ev.g (okA _ _) (Ev.g (inR_n (by omega)) (Ev.g (okA _ _) (Ev.g (inR_n (by omega)) (Ev.g (bleA .u64 (by omega)) (spec_round0 ha n (x + 1) _ (by omega) (by rw [List.length_set]; exact hc) h))))))))))))
end
theorem kC_len (a : List Int) : (kC a).length = 5 := by unfold kC; rw [setsF_len]; rfl
theorem kB_len (v : Nat → Nat → Int) : (kB v).length = 25 := by unfold kB; rw [setsX_len]; rfl
theorem spec_l03Round_ev {a : List Int} (ha : a.length = 25) (rc : Int) : Does cp n_spec_l03Round [.arr .u64 a, .arr .u64 kecOff, .int .u64 rc] [.arr .u64 (kR a rc)] := by
  refine Ev.fn (fun k => F_spec_l03Round k a kecOff rc) (Ev.g (lenA ha) (Ev.g (lenA rfl) ?_))
  exact Ev.l0 (spec_round0 ha 5 0 z5 rfl rfl (spec_round1 ha (kC_len a) 5 0 z25 rfl rfl (spec_round3 (kB_len _) 5 0 a rfl ha)))


theorem kecT_eq : kecTurns = arrC .i64 kecOff := rfl
theorem kecRo_eq : kecRounds = arrC .u64 kecRC := rfl
section
variable {n : Int} {r : List AV}
theorem impl_round4 {b : List Int} (hb : b.length = 25) {y : Nat} (hy : y < 5) : ∀ (d x : Nat) (a : List Int), x + d = 5 → a.length = 25 →
    Ev (fun k m _ _ => L_impl_sponge_round_a_3 k m n ((y + 1 : Nat) : Int) (arrC .u64 (setsF (fun x => (x + 5 * y, kChi b x y)) x d a)) (arrC .u64 b)) r →
    Ev (fun k m p _ => L_impl_sponge_round_a_4 k m p (y : Int) n (y : Int) (x : Int) (arrC .u64 a) (arrC .u64 b)) r
  | 0, x, a, hx, ha, h => by
    refine Ev.step (fun k m p _ => L_impl_sponge_round_a_4_s k m p _ _ _ _ _ _) (Ev.f (ltI_f (by omega)) ?_)
    have q9 : wr .i64 (addI (y : Int) 1) = ((y + 1 : Nat) : Int) := iAdd rfl (by omega)
    simp only [q9]
    exact Ev.o1 h
  | d + 1, x, a, hx, ha, h => by
    have q1 : wr .i64 (mulI 5 (y : Int)) = ((5 * y : Nat) : Int) := iMul rfl (by omega)
    have q2 : wr .i64 (addI (x : Int) ((5 * y : Nat) : Int)) = ((x + 5 * y : Nat) : Int) := iAdd rfl (by omega)
    have q3 : wr .i64 (addI (x : Int) 1) = ((x + 1 : Nat) : Int) := iAdd rfl (by omega)
    have q4 : wr .i64 (addI (x : Int) 2) = ((x + 2 : Nat) : Int) := iAdd rfl (by omega)
    have q5 : wr .i64 (addI (((x + 1) % 5 : Nat) : Int) ((5 * y : Nat) : Int)) = (((x + 1) % 5 + 5 * y : Nat) : Int) := iAdd rfl (by omega)
    have q6 : wr .i64 (addI (((x + 2) % 5 : Nat) : Int) ((5 * y : Nat) : Int)) = (((x + 2) % 5 + 5 * y : Nat) : Int) := iAdd rfl (by omega)
    have hv : bitsOp .xor .u64 (nthI b (x + 5 * y)) (bitsOp .and .u64 (bitsOp .xor .u64 18446744073709551615 (nthI b ((x + 1) % 5 + 5 * y))) (nthI b ((x + 2) % 5 + 5 * y))) = kChi b x y := by
      unfold kChi
      rw [bx_comm (nthI b ((x + 1) % 5 + 5 * y))]
      rfl
    refine Ev.step (fun k m p _ => L_impl_sponge_round_a_4_s k m p _ _ _ _ _ _) (Ev.t (ltI_t (by omega)) ?_)
    simp only [q1, q2, q3, q4, iRem, q5, q6, ixA, cellA .u64 b (show x + 5 * y < b.length by omega), cellA .u64 b (show (x + 1) % 5 + 5 * y < b.length by omega), cellA .u64 b (show (x + 2) % 5 + 5 * y < b.length by omega), asInt_i, hv, setA .u64 a _ (show x + 5 * y < a.length by omega)]
    exact Ev.g (inR_n (by omega)) (Ev.g (okA _ _) (Ev.g (inR_n (by omega)) (Ev.g (okA _ _) (Ev.g (inR_n (by omega)) (Ev.g (okA _ _) (Ev.g (inR_n (by omega)) (Ev.g (bleA .u64 (by omega)) (impl_round4 hb hy d (x + 1) _ (by omega) (by rw [List.length_set]; exact ha) h))))))))
theorem impl_round3 {b : List Int} (hb : b.length = 25) {j : Nat} (hj : j < 24) (hn : n = (j : Int)) : ∀ (d y : Nat) (a : List Int), y + d = 5 → a.length = 25 →
    Ev (fun k m _ _ => L_impl_sponge_round_a_3 k m n (y : Int) (arrC .u64 a) (arrC .u64 b)) [.tup [.ref true 87 (arrC .u64 (kEnd (setsZ b y d a) (nthI kecRC j)))]]
  | 0, y, a, hy, ha => by
    subst hn
    refine Ev.step (fun k m _ _ => L_impl_sponge_round_a_3_s k m _ _ _ _) (Ev.f (ltI_f (by omega)) ?_)
    simp only [kecRo_eq, ixA, cellA .u64 kecRC (show j < kecRC.length by show j < 24; exact hj), cellA .u64 a (show 0 < a.length by omega), asInt_i, setA .u64 a _ (show 0 < a.length by omega)]
    exact Ev.g (okA _ _) (Ev.g (inR_n hj) (Ev.g (okA _ _) (Ev.g (Nat.ble_eq_true_of_le (by rw [arrA_len]; omega)) (Ev.now _))))
  | d + 1, y, a, hy, ha =>
    Ev.step (fun k m _ _ => L_impl_sponge_round_a_3_s k m _ _ _ _) (Ev.t (ltI_t (by omega)) (Ev.l1 (impl_round4 hb (by omega) 5 0 a rfl ha (impl_round3 hb hj hn d (y + 1) _ (by omega) (by rw [setsF_len]; exact ha)))))
theorem impl_round2 {a c : List Int} (ha : a.length = 25) (hc : c.length = 5) {y : Nat} (hy : y < 5) : ∀ (d x : Nat) (b : List Int), x + d = 5 → b.length = 25 →
    Ev (fun k m _ _ => L_impl_sponge_round_a_1 k m n ((y + 1 : Nat) : Int) (arrC .u64 a) (arrC .u64 (setsF (fun x => (kPos x y, kV a c x y)) x d b)) (arrC .u64 c)) r →
    Ev (fun k m p _ => L_impl_sponge_round_a_2 k m p (y : Int) n (y : Int) (x : Int) (arrC .u64 a) (arrC .u64 b) (arrC .u64 c)) r
  | 0, x, b, hx, hb, h => by
    refine Ev.step (fun k m p _ => L_impl_sponge_round_a_2_s k m p _ _ _ _ _ _ _) (Ev.f (ltI_f (by omega)) ?_)
    have q9 : wr .i64 (addI (y : Int) 1) = ((y + 1 : Nat) : Int) := iAdd rfl (by omega)
    simp only [q9]
    exact Ev.o1 h
  | d + 1, x, b, hx, hb, h => by
    have q1 : wr .i64 (mulI 5 (y : Int)) = ((5 * y : Nat) : Int) := iMul rfl (by omega)
    have q2 : wr .i64 (addI (x : Int) ((5 * y : Nat) : Int)) = ((x + 5 * y : Nat) : Int) := iAdd rfl (by omega)
    have p1 : wr .i64 (mulI 2 (x : Int)) = ((2 * x : Nat) : Int) := iMul rfl (by omega)
    have p2 : wr .i64 (mulI 3 (y : Int)) = ((3 * y : Nat) : Int) := iMul rfl (by omega)
    have p3 : wr .i64 (addI ((2 * x : Nat) : Int) ((3 * y : Nat) : Int)) = ((2 * x + 3 * y : Nat) : Int) := iAdd rfl (by omega)
    have p4 : wr .i64 (mulI 5 (((2 * x + 3 * y) % 5 : Nat) : Int)) = ((5 * ((2 * x + 3 * y) % 5) : Nat) : Int) := iMul rfl (by omega)
    have p5 : wr .i64 (addI (y : Int) ((5 * ((2 * x + 3 * y) % 5) : Nat) : Int)) = ((kPos x y : Nat) : Int) := iAdd rfl (by omega)
    have q3 : wr .i64 (addI (x : Int) 1) = ((x + 1 : Nat) : Int) := iAdd rfl (by omega)
    have q4 : wr .i64 (addI (x : Int) 4) = ((x + 4 : Nat) : Int) := iAdd rfl (by omega)
    have hp := kPos_lt (x := x) hy
    have ho := off_range (show x + 5 * y < 25 by omega)
    refine Ev.step (fun k m p _ => L_impl_sponge_round_a_2_s k m p _ _ _ _ _ _ _) (Ev.t (ltI_t (by omega)) ?_)
    simp only [q1, q2, q3, q4, p1, p2, p3, iRem, p4, p5, ixA, kecT_eq, cellA .u64 a (show x + 5 * y < a.length by omega), cellA .u64 c (show (x + 1) % 5 < c.length by omega), cellA .u64 c (show (x + 4) % 5 < c.length by omega), cellA .i64 kecOff (show x + 5 * y < kecOff.length by show _ < 25; omega), asInt_i]
    refine Ev.g (inR_n (by omega)) (Ev.g (okA _ _) (Ev.g (inR_n (by omega)) (Ev.g (okA _ _) (Ev.c (rotateLeft_ev _ _ (by decide)) ?_))))
    simp only [hdV_c, tlV_c, parts1_a, asInt_i, asBool_b, asStr_s, asLen_f, asCells_f, tupL_t, refCells_r, ownLen_o]
    refine Ev.g (inR_n (by omega)) (Ev.g (okA _ _) (Ev.g (inR_n (by omega)) (Ev.g (okA _ _) (Ev.c (rotateLeft_ev _ _ ho) ?_))))
    simp only [hdV_c, tlV_c, parts1_a, asInt_i, asBool_b, asStr_s, asLen_f, asCells_f, tupL_t, refCells_r, ownLen_o, setA .u64 b _ (show kPos x y < b.length by omega)]
    exact Ev.g (inR_n hp) (Ev.g (bleA .u64 (by omega)) (impl_round2 ha hc hy d (x + 1) _ (by omega) (by rw [List.length_set]; exact hb) h))
theorem impl_round1 {a c : List Int} (ha : a.length = 25) (hc : c.length = 5) : ∀ (d y : Nat) (b : List Int), y + d = 5 → b.length = 25 →
    Ev (fun k m _ _ => L_impl_sponge_round_a_3 k m n 0 (arrC .u64 a) (arrC .u64 (setsY (kV a c) y d b))) r →
    Ev (fun k m _ _ => L_impl_sponge_round_a_1 k m n (y : Int) (arrC .u64 a) (arrC .u64 b) (arrC .u64 c)) r
  | 0, y, b, hy, hb, h => Ev.step (fun k m _ _ => L_impl_sponge_round_a_1_s k m _ _ _ _ _) (Ev.f (ltI_f (by omega)) (Ev.l0 h))
  | d + 1, y, b, hy, hb, h =>
    Ev.step (fun k m _ _ => L_impl_sponge_round_a_1_s k m _ _ _ _ _) (Ev.t (ltI_t (by omega)) (Ev.l1 (impl_round2 ha hc (show y < 5 by omega) 5 0 b rfl hb (impl_round1 ha hc d (y + 1) _ (by omega) (by rw [setsF_len]; exact hb) h))))
theorem impl_round0 {a : List Int} (ha : a.length = 25) : ∀ (d x : Nat) (c : List Int), x + d = 5 → c.length = 5 →
    Ev (fun k m _ _ => L_impl_sponge_round_a_1 k m n 0 (arrC .u64 a) (arrC .u64 z25) (arrC .u64 (setsF (fun x => (x, colX a x)) x d c))) r →
    Ev (fun k m _ _ => L_impl_sponge_round_a_0 k m n (x : Int) (arrC .u64 a) (arrC .u64 c)) r
  | 0, x, c, hx, hc, h => Ev.step (fun k m _ _ => L_impl_sponge_round_a_0_s k m _ _ _ _) (Ev.f (ltI_f (by omega)) (Ev.l0 h))
  | d + 1, x, c, hx, hc, h => by
    have q1 : wr .i64 (addI (x : Int) 1) = ((x + 1 : Nat) : Int) := iAdd rfl (by omega)
    have q5 : wr .i64 (addI (x : Int) 5) = ((x + 5 : Nat) : Int) := iAdd rfl (by omega)
    have q10 : wr .i64 (addI (x : Int) 10) = ((x + 10 : Nat) : Int) := iAdd rfl (by omega)
    have q15 : wr .i64 (addI (x : Int) 15) = ((x + 15 : Nat) : Int) := iAdd rfl (by omega)
    have q20 : wr .i64 (addI (x : Int) 20) = ((x + 20 : Nat) : Int) := iAdd rfl (by omega)
    refine Ev.step (fun k m _ _ => L_impl_sponge_round_a_0_s k m _ _ _ _) (Ev.t (ltI_t (by omega)) ?_)
    simp only [q1, q5, q10, q15, q20, ixA, cellA .u64 a (show x < a.length by omega), cellA .u64 a (show x + 5 < a.length by omega), cellA .u64 a (show x + 10 < a.length by omega), cellA .u64 a (show x + 15 < a.length by omega), cellA .u64 a (show x + 20 < a.length by omega), asInt_i, setA .u64 c _ (show x < c.length by omega)]
    exact Ev.g (inR_n (by omega)) (Ev.g (okA _ _) (Ev.g (inR_n (by omega)) (Ev.g (okA _ _) (Ev.g (inR_n (by omega)) (Ev.g (okA _ _) (Ev.g (inR_n (by omega)) (Ev.g (okA _ _) (Ev.g (inR_n (by omega)) (Ev.g (okA _ _) (Ev.g (inR_n (by omega)) (Ev.g (bleA .u64 (by omega)) (impl_round0 ha d (x + 1) _ (by omega) (by rw [List.length_set]; exact hc) h))))))))))))
end
theorem impl_round_ev {a : List Int} (ha : a.length = 25) {j : Nat} (hj : j < 24) : Does cp n_impl_sponge_round [.tup [.ref true 87 (arrC .u64 a)], .ptr 0 0, .int .i64 (j : Int)] [.tup [.ref true 87 (arrC .u64 (kR a (nthI kecRC j)))]] := by
  refine Ev.fn (fun k => F_impl_sponge_round_a k (arrC .u64 a) j) ?_
  exact Ev.l0 (impl_round0 ha 5 0 z5 rfl rfl (impl_round1 ha (kC_len a) 5 0 z25 rfl rfl (by
    rw [kB_eq]
    exact impl_round3 (kB_len _) hj rfl 5 0 a rfl ha)))
theorem impl_rounds_l : ∀ (d j : Nat) (a : List Int), j + d = 24 → a.length = 25 → Ev (fun k m _ _ => L_impl_sponge_rounds_a_0 k m (j : Int) (arrC .u64 a)) [.tup [.ref true 87 (arrC .u64 (kIt j d a))]]
  | 0, j, a, hj, ha => Ev.step (fun k m _ _ => L_impl_sponge_rounds_a_0_s k m _ _) (Ev.f (ltI_f (by omega)) (Ev.now _))
  | d + 1, j, a, hj, ha => by
    have q1 : wr .i64 (addI (j : Int) 1) = ((j + 1 : Nat) : Int) := iAdd rfl (by omega)
    refine Ev.step (fun k m _ _ => L_impl_sponge_rounds_a_0_s k m _ _) (Ev.t (ltI_t (by omega)) (Ev.c (impl_round_ev ha (show j < 24 by omega)) (Ev.g rfl ?_)))
    simp only [hdV_c, tlV_c, parts1_a, asInt_i, asBool_b, asStr_s, asLen_f, asCells_f, tupL_t, refCells_r, ownLen_o, q1]
    exact impl_rounds_l d (j + 1) _ (by omega) (by rw [kR_len]; exact ha)
theorem impl_rounds_ev {a : List Int} (ha : a.length = 25) : Does cp n_impl_sponge_rounds [.tup [.ref true 87 (arrC .u64 a)], .ptr 0 0] [.tup [.ref true 87 (arrC .u64 (kAll a))]] := by
  rw [← kAll_eq]
  exact Ev.fn (fun k => F_impl_sponge_rounds_a k (arrC .u64 a)) (Ev.l0 (impl_rounds_l 24 0 a rfl ha))


theorem arrI_a (k : IntKind) (l : List Int) : arrI (.arr k l) = l := rfl
theorem spec_l03Offsets_ev : Does cp n_spec_l03Offsets [] [.arr .u64 kecOff] := Ev.fn (fun k => F_spec_l03Offsets k) (Ev.some_ (by kernel_rfl))
theorem spec_l03Rounds_ev : Does cp n_spec_l03Rounds [] [.arr .u64 kecRC] := Ev.fn (fun k => F_spec_l03Rounds k) (Ev.some_ (by kernel_rfl))
theorem spec_all_l : ∀ (d j : Nat) (a : List Int), j + d = 24 → a.length = 25 → Ev (fun k m _ _ => L_spec_l03All_0 k m (j : Int) (arrC .u64 a) (arrC .u64 kecRC) (arrC .u64 kecOff) (arrC .u64 z25)) [.arr .u64 (kIt j d a)]
  | 0, j, a, hj, ha => by
    refine Ev.step (fun k m _ _ => L_spec_l03All_0_s k m _ _ _ _ _) (Ev.f (ltI_f (by omega)) ?_)
    simp only [intsA .u64 ha, putA .u64 (show (arrC .u64 z25).length = a.length by rw [ha]; rfl)]
    exact Ev.g (kindA .u64 ha) (Ev.g (by rw [lenA ha]; rfl) (Ev.g (by rw [kindA .u64 ha]; rfl) (Ev.now _)))
  | d + 1, j, a, hj, ha => by
    have q1 : wr .i64 (addI (j : Int) 1) = ((j + 1 : Nat) : Int) := iAdd rfl (by omega)
    have hk := kR_len a (nthI kecRC j)
    refine Ev.step (fun k m _ _ => L_spec_l03All_0_s k m _ _ _ _ _) (Ev.t (ltI_t (by omega)) ?_)
    simp only [q1, ixA, cellA .u64 kecRC (show j < kecRC.length by show j < 24; omega), asInt_i, intsA .u64 ha, intsA .u64 (show kecOff.length = 25 from rfl)]
    refine Ev.g (kindA .u64 ha) (Ev.g (kindA .u64 rfl) (Ev.g (inR_n (by omega)) (Ev.g (okA _ _) (Ev.c (spec_l03Round_ev ha _) ?_))))
    simp only [hdV_c, tlV_c, parts1_a, asInt_i, asBool_b, asStr_s, asLen_f, asCells_f, tupL_t, refCells_r, ownLen_o, arrI_a, putA .u64 (show (arrC .u64 a).length = (kR a (nthI kecRC j)).length by rw [arrA_len, hk])]
    refine Ev.g ?_ (spec_all_l d (j + 1) _ (by omega) (by rw [hk]; exact ha))
    rw [lenA (by rw [hk]; exact ha), arrA_len, ha]; rfl
theorem spec_l03All_ev {a : List Int} (ha : a.length = 25) : Does cp n_spec_l03All [.arr .u64 a] [.arr .u64 (kAll a)] := by
  rw [← kAll_eq]
  refine Ev.fn (fun k => F_spec_l03All k a) (Ev.g (lenA ha) (Ev.c spec_l03Offsets_ev ?_))
  simp only [hdV_c, tlV_c, parts1_a, asInt_i, asBool_b, asStr_s, asLen_f, asCells_f, tupL_t, refCells_r, ownLen_o, arrI_a]
  refine Ev.g rfl (Ev.c spec_l03Rounds_ev ?_)
  simp only [hdV_c, tlV_c, parts1_a, asInt_i, asBool_b, asStr_s, asLen_f, asCells_f, tupL_t, refCells_r, ownLen_o, arrI_a, putA .u64 (show ([AV.int .u64 0, AV.int .u64 0, AV.int .u64 0, AV.int .u64 0, AV.int .u64 0, AV.int .u64 0, AV.int .u64 0, AV.int .u64 0, AV.int .u64 0, AV.int .u64 0, AV.int .u64 0, AV.int .u64 0, AV.int .u64 0, AV.int .u64 0, AV.int .u64 0, AV.int .u64 0, AV.int .u64 0, AV.int .u64 0, AV.int .u64 0, AV.int .u64 0, AV.int .u64 0, AV.int .u64 0, AV.int .u64 0, AV.int .u64 0] : List AV).length = kecRC.length from rfl)]
  exact Ev.g rfl (Ev.l0 (spec_all_l 24 0 a rfl ha))
theorem arrB (l : List Int) : arrC .u8 l = l.flatMap eB := by
  unfold arrC eB
  induction l with
  | nil => rfl
  | cons x r ih => rw [List.map_cons, ih]; rfl
theorem cutA1 (k : IntKind) {l : List Int} {n : Nat} (h : l.length = n) : cutC (arrC k l) 0 (mulN n 1) = arrC k l := by subst h; rw [mulN_d, Nat.mul_one]; exact cutA k l
theorem catA (k : IntKind) (l : List Int) (v : Int) : catC (arrC k l) (cutC [.int k v] 0 1) = arrC k (l ++ [v]) := by unfold catC arrC; rw [List.map_append]; rfl
theorem bytesA (s : ByteArray) : bytesOf s = arrC .u8 (bts s) := by rw [bytesOf_e, arrB]
theorem isB (l : List Int) : isBytes (arrC .u8 l) = true := by rw [arrB]; exact isBytes_e l
theorem strB (l : List Int) : strOf (arrC .u8 l) = EV.strOfNums l := by rw [arrB]; exact strOf_e l
theorem setsF_id (f : Nat → Int) : ∀ (n i : Nat) (c : List Int), c.length = i + n → setsF (fun i => (i, f i)) i n c = c.take i ++ (List.range' i n).map f
  | 0, i, c, h => by rw [setsF, List.take_of_length_le (by omega)]; simp
  | n + 1, i, c, h => by
    rw [setsF, setsF_id f n (i + 1) _ (by rw [List.length_set]; omega), List.range'_succ, List.map_cons, List.take_add_one, List.take_set_of_le (Nat.le_refl _), List.getElem?_set_self (by omega)]
    simp
theorem spec_text_l {a : List Int} (ha : a.length = 25) : ∀ (d i : Nat) (l : List Int), i + d = 200 → l.length = 200 → Ev (fun k m _ _ => L_spec_l03Text_0 k m 200 (i : Int) (arrC .u64 a) (arrC .u8 l)) [.str (EV.strOfNums (setsF (fun i => (i, kByte a i)) i d l))]
  | 0, i, l, hi, hl => by
    refine Ev.step (fun k m _ _ => L_spec_l03Text_0_s k m _ _ _ _) (Ev.f (ltI_f (by omega)) ?_)
    simp only [cutA1 .u8 hl, strB]
    exact Ev.g (isB l) (Ev.now _)
  | d + 1, i, l, hi, hl => by
    have q1 : wr .i64 (addI (i : Int) 1) = ((i + 1 : Nat) : Int) := iAdd rfl (by omega)
    have q2 : wr .i64 (quoI (i : Int) 8) = ((i / 8 : Nat) : Int) := by rw [quoI_d, tdiv_pos (by omega), wr64 (by omega)]; omega
    have q3 : wr .u64 (remI (i : Int) 8) = ((i % 8 : Nat) : Int) := by rw [remI_d, tmod_pos (by omega), wrU]; omega
    have q4 : wr .u64 (mulI 8 ((i % 8 : Nat) : Int)) = ((8 * (i % 8) : Nat) : Int) := by rw [mulI_d, wrU]; omega
    refine Ev.step (fun k m _ _ => L_spec_l03Text_0_s k m _ _ _ _) (Ev.t (ltI_t (by omega)) ?_)
    simp only [q1, q2, q3, q4, ixA, cellA .u64 a (show i / 8 < a.length by omega), asInt_i, setA .u8 l _ (show i < l.length by omega)]
    exact Ev.g (inR_n (by omega)) (Ev.g (okA _ _) (Ev.g (leI_t (by omega)) (Ev.g (inR_n (by omega)) (Ev.g (bleA .u8 (by omega)) (spec_text_l ha d (i + 1) _ (by omega) (by rw [List.length_set]; exact hl))))))
theorem rep200 : repC 200 [AV.int .u8 0] = arrC .u8 (List.replicate 200 0) := by kernel_rfl
theorem spec_l03Text_ev {a : List Int} (ha : a.length = 25) : Does cp n_spec_l03Text [.arr .u64 a] [.str (EV.strOfNums (kT a))] := by
  refine Ev.fn (fun k => F_spec_l03Text k a) (Ev.g (lenA ha) ?_)
  rw [rep200]
  refine Ev.to (Ev.l0 (spec_text_l ha 200 0 _ rfl (List.length_replicate ..))) ?_
  rw [setsF_id (kByte a) 200 0 _ (by rw [List.length_replicate])]
  unfold kT
  rw [List.range_eq_range']
  rfl
def kWB : Nat → Int → List Int
  | 0, _ => []
  | d + 1, w => wr .u8 w :: kWB d (shrI .u64 w 8)
theorem kWB_len : ∀ (d : Nat) (w : Int), (kWB d w).length = d
  | 0, _ => rfl
  | d + 1, w => by rw [kWB, List.length_cons, kWB_len d]
theorem shr_shr (w : Int) {j : Nat} (h : j < 8) : shrI .u64 (shrI .u64 w ((8 * j : Nat) : Int)) 8 = shrI .u64 w ((8 * (j + 1) : Nat) : Int) := by
  have e1 : min (((8 * j : Nat) : Int)).toNat IntKind.u64.bits = 8 * j := by show min (((8 * j : Nat) : Int)).toNat 64 = _; omega
  have e2 : min (((8 * (j + 1) : Nat) : Int)).toNat IntKind.u64.bits = 8 * j + 8 := by show min (((8 * (j + 1) : Nat) : Int)).toNat 64 = _; omega
  have e3 : min ((8 : Int)).toNat IntKind.u64.bits = 8 := rfl
  unfold shrI
  rw [e1, e2, e3, Int.fdiv_eq_ediv_of_nonneg _ (by apply Int.pow_nonneg; decide), Int.fdiv_eq_ediv_of_nonneg _ (by apply Int.pow_nonneg; decide), Int.fdiv_eq_ediv_of_nonneg _ (by apply Int.pow_nonneg; decide), Int.ediv_ediv_of_nonneg (by apply Int.pow_nonneg; decide), Int.pow_add]
theorem kWB_map (w : Int) : ∀ (d j : Nat), j + d ≤ 8 → kWB d (shrI .u64 w ((8 * j : Nat) : Int)) = (List.range' j d).map fun j => wr .u8 (shrI .u64 w ((8 * j : Nat) : Int))
  | 0, _, _ => rfl
  | d + 1, j, h => by rw [kWB, shr_shr w (by omega), kWB_map w d (j + 1) (by omega), List.range'_succ, List.map_cons]
theorem kWB8 (w : Int) : kWB 8 w = (List.range 8).map fun j => wr .u8 (shrI .u64 w ((8 * j : Nat) : Int)) := by
  have h0 : shrI .u64 w ((8 * 0 : Nat) : Int) = w := by show w.fdiv 1 = w; rw [Int.fdiv_one]
  have := kWB_map w 8 0 (by omega)
  rw [h0] at this
  rw [this, List.range_eq_range']
def kTx (a : List Int) : Nat → Nat → List Int
  | _, 0 => []
  | i, d + 1 => kWB 8 (nthI a i) ++ kTx a (i + 1) d
theorem kTx_flat (a : List Int) : ∀ (d i : Nat), kTx a i d = (List.range' i d).flatMap fun i => kWB 8 (nthI a i)
  | 0, _ => rfl
  | d + 1, i => by rw [kTx, kTx_flat a d, List.range'_succ, List.flatMap_cons]
theorem flat200 (f : Nat → Nat → Int) : ((List.range 25).flatMap fun i => (List.range 8).map (f i)) = (List.range 200).map fun t => f (t / 8) (t % 8) := by kernel_rfl
theorem kTx_eq (a : List Int) : kTx a 0 25 = kT a := by
  rw [kTx_flat, ← List.range_eq_range']
  simp only [kWB8]
  exact flat200 fun i j => wr .u8 (shrI .u64 (nthI a i) ((8 * j : Nat) : Int))
theorem fitA {n : Nat} (h : n ≤ 35184372088832) : Bool.and (fitN n 1) true = true := by rw [Bool.and_true]; exact Nat.ble_eq_true_of_le (by omega)
theorem wordBytes_l (b0 : List AV) : ∀ (d j : Nat) (w : Int) (l : List Int), j + d = 8 → l.length + d ≤ 1000 → Ev (fun k m _ _ => L_impl_wordBytes_a_0a k m (j : Int) w l.length b0 (arrC .u8 l)) [.tup [.any, .ref true 5 (arrC .u8 (l ++ kWB d w))], .own 1 0 (l ++ kWB d w).length]
  | 0, j, w, l, hj, hl => Ev.step (fun k m _ _ => L_impl_wordBytes_a_0a_s k m _ _ _ _ _) (Ev.f (ltI_f (by omega)) (Ev.some_ (by rw [kWB, List.append_nil])))
  | d + 1, j, w, l, hj, hl => by
    have q1 : wr .i64 (addI (j : Int) 1) = ((j + 1 : Nat) : Int) := iAdd rfl (by omega)
    have q2 : addN l.length 1 = (l ++ [wr .u8 w]).length := by rw [List.length_append]; rfl
    have q3 : l ++ kWB (d + 1) w = (l ++ [wr .u8 w]) ++ kWB d (shrI .u64 w 8) := by rw [List.append_assoc]; rfl
    refine Ev.step (fun k m _ _ => L_impl_wordBytes_a_0a_s k m _ _ _ _ _) (Ev.t (ltI_t (by omega)) ?_)
    simp only [q1, cutA1 .u8 (rfl : l.length = l.length), catA, q2]
    rw [q3]
    exact Ev.g (fitA (by rw [List.length_append]; show l.length + 1 ≤ _; omega)) (wordBytes_l b0 d (j + 1) _ _ (by omega) (by rw [List.length_append]; show l.length + 1 + d ≤ 1000; omega))
theorem wordBytes_ev {b0 : List AV} {l : List Int} (hb : cutC b0 0 (mulN l.length 1) = arrC .u8 l) (hl : l.length ≤ 900) (w : Int) : Does cp n_impl_wordBytes [.tup [.ref true 5 b0], .own 0 0 l.length, .int .u64 w] [.tup [.any, .ref true 5 (arrC .u8 (l ++ kWB 8 w))], .own 1 0 (l ++ kWB 8 w).length] := by
  have q1 : wr .i64 (addI 0 1) = ((1 : Nat) : Int) := rfl
  have q2 : addN l.length 1 = (l ++ [wr .u8 w]).length := by rw [List.length_append]; rfl
  have q3 : l ++ kWB 8 w = (l ++ [wr .u8 w]) ++ kWB 7 (shrI .u64 w 8) := by rw [List.append_assoc]; rfl
  refine Ev.fn (fun k => F_impl_wordBytes_a k b0 l.length w) (Ev.l0 (L := fun k m => L_impl_wordBytes_a_0 k m 0 w l.length b0) ?_)
  refine Ev.step (fun k m _ _ => L_impl_wordBytes_a_0_s k m 0 w l.length b0) (Ev.t (ltI_t (by decide)) ?_)
  have hl2 : (l ++ [wr .u8 w]).length = l.length + 1 := by rw [List.length_append]; rfl
  simp only [q1, hb, catA, q2]
  rw [q3]
  refine Ev.g (fitA (by omega)) ?_
  exact wordBytes_l b0 7 1 (shrI .u64 w 8) (l ++ [wr .u8 w]) rfl (by omega)
theorem impl_text_l {a : List Int} (ha : a.length = 25) : ∀ (d i : Nat) (b1 : List AV) (l : List Int), i + d = 25 → cutC b1 0 (mulN l.length 1) = arrC .u8 l → l.length = 8 * i → Ev (fun k m _ _ => L_impl_sponge_text_a_0 k m (i : Int) l.length (arrC .u64 a) b1) [.tup [.ref true 87 (arrC .u64 a)], .str (EV.strOfNums (l ++ kTx a i d))]
  | 0, i, b1, l, hi, hb, hl => by
    refine Ev.step (fun k m _ _ => L_impl_sponge_text_a_0_s k m _ _ _ _) (Ev.f (ltI_f (by omega)) ?_)
    simp only [hb, strB]
    exact Ev.g (isB l) (Ev.some_ (by rw [kTx, List.append_nil]))
  | d + 1, i, b1, l, hi, hb, hl => by
    have q1 : wr .i64 (addI (i : Int) 1) = ((i + 1 : Nat) : Int) := iAdd rfl (by omega)
    refine Ev.step (fun k m _ _ => L_impl_sponge_text_a_0_s k m _ _ _ _) (Ev.t (ltI_t (by omega)) ?_)
    simp only [q1, ixA, cellA .u64 a (show i < a.length by omega), asInt_i]
    refine Ev.g (inR_n (by omega)) (Ev.g (okA _ _) (Ev.c (wordBytes_ev hb (by omega) _) (Ev.g rfl ?_)))
    simp only [hdV_c, tlV_c, parts1_a, asInt_i, asBool_b, asStr_s, asLen_f, asCells_f, tupL_t, refCells_r, ownLen_o]
    refine Ev.to (impl_text_l ha d (i + 1) _ (l ++ kWB 8 (nthI a i)) (by omega) (cutA1 .u8 rfl) (by rw [List.length_append, kWB_len]; omega)) ?_
    rw [kTx, List.append_assoc]
theorem impl_text_ev {a : List Int} (ha : a.length = 25) : Does cp n_impl_sponge_text [.tup [.ref true 87 (arrC .u64 a)], .ptr 0 0] [.tup [.ref true 87 (arrC .u64 a)], .str (EV.strOfNums (kT a))] := by
  refine Ev.fn (fun k => F_impl_sponge_text_a k (arrC .u64 a)) (Ev.to (Ev.l0 (impl_text_l ha 25 0 _ [] rfl ?_ rfl)) ?_)
  · rw [rep200]; rfl
  · rw [List.nil_append, kTx_eq]


/-- The last byte marked. -/
theorem last_ok {l : List Int} (h : 0 < l.length) (hl : l.length < 1152921504606846976) : wr .i64 (subI (lenI l.length) 1) = ((l.length - 1 : Nat) : Int) := by rw [subI_d, lenI_c, wr64 (by omega)]; omega
theorem spec_pad_l : ∀ (d : Nat) (l : List Int), (l.length + d) % 136 = 0 → d < 136 → 0 < l.length → l.length + d ≤ 35184372088832 → Ev (fun k m _ _ => L_spec_KeccakPad_0 k m l.length (arrC .u8 l)) [.str (EV.strOfNums (kLast (l ++ List.replicate d 0)))]
  | 0, l, hm, hd, hp, hl => by
    have h0 : remI (lenI l.length) 136 = 0 := by rw [remI_d, lenI_c, tmod_pos (by omega)]; omega
    refine Ev.step (fun k m _ _ => L_spec_KeccakPad_0_s k m _ _) (Ev.f (by rw [h0]; rfl) ?_)
    have hlt : l.length - 1 < l.length := by omega
    simp only [last_ok hp (by omega), ixA, cellA .u8 l hlt, asInt_i, setA .u8 l _ hlt, cutA1 .u8 (show (l.set (l.length - 1) (bitsOp .or .u8 (nthI l (l.length - 1)) 128)).length = l.length by rw [List.length_set]), strB]
    refine Ev.g (inR_n hlt) (Ev.g (okA _ _) (Ev.g (inR_n hlt) (Ev.g (bleA .u8 hlt) (Ev.g (isB _) (Ev.some_ ?_)))))
    rw [List.replicate_zero, List.append_nil]
    rfl
  | d + 1, l, hm, hd, hp, hl => by
    have h0 : notB (eqI (remI (lenI l.length) 136) 0) = true := by
      rw [eqI_f (by rw [remI_d, lenI_c, tmod_pos (by omega)]; omega)]; rfl
    have q2 : addN l.length 1 = (l ++ [(0 : Int)]).length := by rw [List.length_append]; rfl
    have hl2 : (l ++ [(0 : Int)]).length = l.length + 1 := by rw [List.length_append]; rfl
    refine Ev.step (fun k m _ _ => L_spec_KeccakPad_0_s k m _ _) (Ev.t h0 ?_)
    simp only [cutA1 .u8 (rfl : l.length = l.length), catA, q2]
    refine Ev.g (fitA (by omega)) (Ev.to (spec_pad_l d (l ++ [0]) (by omega) (by omega) (by omega) (by omega)) ?_)
    rw [List.append_assoc]
    rfl
theorem spec_KeccakPad_ev {s : ByteArray} (hs : s.size ≤ 1099511627776) : Does cp n_spec_KeccakPad [.str s] [.str (EV.strOfNums (kPad (bts s)))] := by
  have hb := bts_length s
  have q2 : addN (lenS s) 1 = (bts s ++ [(1 : Int)]).length := by rw [List.length_append, hb]; rfl
  have hl2 : (bts s ++ [(1 : Int)]).length = s.size + 1 := by rw [List.length_append, hb]; rfl
  refine Ev.fn (fun k => F_spec_KeccakPad k s) ?_
  simp only [bytesA, cutA1 .u8 (show (bts s).length = lenS s from hb), catA, q2]
  refine Ev.g (fitA (by omega)) (Ev.to (Ev.l0 (spec_pad_l (135 - s.size % 136) (bts s ++ [1]) (by omega) (by omega) (by omega) (by omega))) ?_)
  unfold kPad kPad0
  rw [List.append_assoc, hb]
  rfl
theorem repeat_ev {s : ByteArray} {n : Int} (h : repOk s n = true) : Does cp n_strings_Repeat [.str s, .int .i64 n] [.str (repS s n)] :=
  Ev.fn (fun k => F_strings_Repeat k s n) (Ev.g h (Ev.now _))
theorem bts_zero (n : Nat) : bts (repS ⟨#[0]⟩ (n : Int)) = List.replicate n 0 := by
  unfold bts repS
  show List.map _ ((List.replicate ((n : Int)).toNat [(0 : UInt8)]).flatten).toArray.toList = _
  rw [Int.toNat_natCast]
  induction n with
  | zero => rfl
  | succ n ih =>
    rw [List.replicate_succ, List.flatten_cons, List.replicate_succ]
    simp
theorem impl_KeccakPad_ev {s : ByteArray} (hs : s.size ≤ 1099511627776) : Does cp n_impl_KeccakPad [.str s] [.str (EV.strOfNums (kPad (bts s)))] := by
  have q1 : wr .i64 (subI 135 (remI (lenI (lenS s)) 136)) = ((135 - s.size % 136 : Nat) : Int) := by
    rw [subI_d, remI_d, lenI_c, tmod_pos (by omega)]
    show wr .i64 (135 - (s.size : Int) % 136) = _
    rw [wr64 (by omega)]; omega
  have ht : bts (catS (catS s ⟨#[1]⟩) (repS ⟨#[0]⟩ ((135 - s.size % 136 : Nat) : Int))) = kPad0 (bts s) := by
    unfold catS kPad0
    rw [bts_append, bts_append, bts_zero, List.append_assoc, bts_length]
    rfl
  have hz : (repS ⟨#[0]⟩ ((135 - s.size % 136 : Nat) : Int)).size = 135 - s.size % 136 := by
    rw [← bts_length, bts_zero, List.length_replicate]
  refine Ev.fn (fun k => F_impl_KeccakPad k s) (Ev.g (Nat.ble_eq_true_of_le (by show s.size + 1 ≤ _; omega)) ?_)
  simp only [q1]
  refine Ev.c (repeat_ev ?_) ?_
  · unfold repOk
    rw [Bool.and_eq_true]
    refine ⟨decide_eq_true (by omega), Nat.ble_eq_true_of_le ?_⟩
    show (1 + 1) * ((135 - s.size % 136 : Nat) : Int).toNat ≤ _
    omega
  simp only [hdV_c, tlV_c, parts1_a, asInt_i, asBool_b, asStr_s, asLen_f, asCells_f, tupL_t, refCells_r, ownLen_o]
  generalize htt : catS (catS s ⟨#[1]⟩) (repS ⟨#[0]⟩ ((135 - s.size % 136 : Nat) : Int)) = t at ht
  have hlen : lenS t = (kPad0 (bts s)).length := by rw [← ht, bts_length]; rfl
  have hl : (kPad0 (bts s)).length = s.size + 1 + (135 - s.size % 136) := by unfold kPad0; rw [List.length_append, List.length_cons, List.length_replicate, bts_length]; omega
  have hlt : (kPad0 (bts s)).length - 1 < (kPad0 (bts s)).length := by omega
  refine Ev.g (Nat.ble_eq_true_of_le ?_) ?_
  · show (s ++ (⟨#[1]⟩ : ByteArray)).size + (repS ⟨#[0]⟩ ((135 - s.size % 136 : Nat) : Int)).size ≤ _
    rw [hz, ByteArray.size_append]
    show s.size + 1 + _ ≤ _
    omega
  simp only [bytesA, ht, hlen, last_ok (show 0 < (kPad0 (bts s)).length by omega) (by omega), ixA, cellA .u8 (kPad0 (bts s)) hlt, asInt_i, setA .u8 (kPad0 (bts s)) _ hlt, cutA1 .u8 (show ((kPad0 (bts s)).set ((kPad0 (bts s)).length - 1) (bitsOp .or .u8 (nthI (kPad0 (bts s)) ((kPad0 (bts s)).length - 1)) 128)).length = (kPad0 (bts s)).length by rw [List.length_set]), strB]
  exact Ev.g (inR_n hlt) (Ev.g (okA _ _) (Ev.g (inR_n hlt) (Ev.g (bleA .u8 hlt) (Ev.g (isB _) (Ev.now _)))))


section
variable {p : ByteArray} {r : List AV}
theorem spec_abs_l (hp : p.size < 1152921504606846976) {t : Nat} (ht : t + 136 ≤ p.size) : ∀ (n i : Nat) (a : List Int), i + n = 17 → a.length = 25 →
    Ev (fun k m _ _ => L_spec_Digest_0 k m ((t + 136 : Nat) : Int) p (arrC .u64 (kAll (kAbs p t i n a)))) r →
    Ev (fun k m q _ => L_spec_Digest_1 k m q (t : Int) p (i : Int) (arrC .u64 a)) r
  | 0, i, a, hi, ha, h => by
    rw [show kAbs p t i 0 a = a from rfl] at h
    have q1 : wr .i64 (addI (t : Int) 136) = ((t + 136 : Nat) : Int) := iAdd rfl (by omega)
    have hk : (kAll a).length = 25 := by rw [kAll_len]; exact ha
    refine Ev.step (fun k m q _ => L_spec_Digest_1_s k m q _ _ _ _) (Ev.f (ltI_f (by omega)) ?_)
    simp only [q1, intsA .u64 ha]
    refine Ev.g (kindA .u64 ha) (Ev.c (spec_l03All_ev ha) ?_)
    simp only [hdV_c, tlV_c, parts1_a, asInt_i, asBool_b, asStr_s, asLen_f, asCells_f, tupL_t, refCells_r, ownLen_o, arrI_a, putA .u64 (show (arrC .u64 a).length = (kAll a).length by rw [arrA_len, hk, ha])]
    refine Ev.g ?_ (Ev.o1 h)
    rw [lenA hk, arrA_len, ha]; rfl
  | n + 1, i, a, hi, ha, h => by
    rw [show kAbs p t i (n + 1) a = kAbs p t (i + 1) n (a.set i (bx (nthI a i) (kW p (t + 8 * i)))) from rfl] at h
    have q1 : wr .i64 (addI (i : Int) 1) = ((i + 1 : Nat) : Int) := iAdd rfl (by omega)
    have q2 : wr .i64 (mulI 8 (i : Int)) = ((8 * i : Nat) : Int) := iMul rfl (by omega)
    have q3 : wr .i64 (addI (t : Int) ((8 * i : Nat) : Int)) = ((t + 8 * i : Nat) : Int) := iAdd rfl (by omega)
    refine Ev.step (fun k m q _ => L_spec_Digest_1_s k m q _ _ _ _) (Ev.t (ltI_t (by omega)) ?_)
    simp only [q1, q2, q3, ixA, cellA .u64 a (show i < a.length by omega), asInt_i]
    refine Ev.g (inR_n (by omega)) (Ev.g (okA _ _) (Ev.c (spec_l03Word_ev p (t + 8 * i) (by omega) hp) ?_))
    simp only [hdV_c, tlV_c, parts1_a, asInt_i, asBool_b, asStr_s, asLen_f, asCells_f, tupL_t, refCells_r, ownLen_o, setA .u64 a _ (show i < a.length by omega)]
    exact Ev.g (inR_n (by omega)) (Ev.g (bleA .u64 (by omega)) (spec_abs_l hp ht n (i + 1) _ (by omega) (by rw [List.length_set]; exact ha) h))
theorem sub32 (a : List Int) : inS 0 32 (lenS (EV.strOfNums (kT a))) = true := inS_t (by omega) (by omega) (by show (32 : Int) ≤ ((EV.strOfNums (kT a)).size : Nat); rw [EV.strOfNums_size, kT_len]; decide)
theorem spec_sp_l (hp : p.size < 1152921504606846976) : ∀ (d t : Nat) (a : List Int), t + 136 * d = p.size → a.length = 25 → Ev (fun k m _ _ => L_spec_Digest_0 k m (t : Int) p (arrC .u64 a)) [.str (subS (EV.strOfNums (kT (kSp p t d a))) 0 32)]
  | 0, t, a, ht, ha => by
    refine Ev.step (fun k m _ _ => L_spec_Digest_0_s k m _ _ _) (Ev.f (ltI_f (by rw [lenI_c]; show ¬ (t : Int) < (p.size : Int); omega)) ?_)
    simp only [intsA .u64 ha]
    refine Ev.g (kindA .u64 ha) (Ev.c (spec_l03Text_ev ha) ?_)
    simp only [hdV_c, tlV_c, parts1_a, asInt_i, asBool_b, asStr_s, asLen_f, asCells_f, tupL_t, refCells_r, ownLen_o]
    exact Ev.g (sub32 a) (Ev.now _)
  | d + 1, t, a, ht, ha => by
    refine Ev.step (fun k m _ _ => L_spec_Digest_0_s k m _ _ _) (Ev.t (ltI_t (by rw [lenI_c]; show (t : Int) < (p.size : Int); omega)) ?_)
    rw [show kSp p t (d + 1) a = kSp p (t + 136) d (kAll (kAbs p t 0 17 a)) from rfl]
    exact Ev.l1 (spec_abs_l hp (by omega) 17 0 a rfl ha (spec_sp_l hp d (t + 136) _ (by omega) (by rw [kAll_len, kAbs_len]; exact ha)))
theorem impl_abs_l (hp : p.size < 1152921504606846976) {t : Nat} (ht : t + 136 ≤ p.size) : ∀ (n i : Nat) (a : List Int), i + n = 17 → a.length = 25 →
    Ev (fun k m _ _ => L_impl_Digest_0 k m ((t + 136 : Nat) : Int) p (arrC .u64 (kAll (kAbs p t i n a)))) r →
    Ev (fun k m q _ => L_impl_Digest_1 k m q (t : Int) p (i : Int) (arrC .u64 a)) r
  | 0, i, a, hi, ha, h => by
    rw [show kAbs p t i 0 a = a from rfl] at h
    have q1 : wr .i64 (addI (t : Int) 136) = ((t + 136 : Nat) : Int) := iAdd rfl (by omega)
    refine Ev.step (fun k m q _ => L_impl_Digest_1_s k m q _ _ _ _) (Ev.f (ltI_f (by omega)) (Ev.c (impl_rounds_ev ha) (Ev.g rfl ?_)))
    simp only [hdV_c, tlV_c, parts1_a, asInt_i, asBool_b, asStr_s, asLen_f, asCells_f, tupL_t, refCells_r, ownLen_o, q1]
    exact Ev.o1 h
  | n + 1, i, a, hi, ha, h => by
    rw [show kAbs p t i (n + 1) a = kAbs p t (i + 1) n (a.set i (bx (nthI a i) (kW p (t + 8 * i)))) from rfl] at h
    have q1 : wr .i64 (addI (i : Int) 1) = ((i + 1 : Nat) : Int) := iAdd rfl (by omega)
    have q2 : wr .i64 (mulI 8 (i : Int)) = ((8 * i : Nat) : Int) := iMul rfl (by omega)
    have q3 : wr .i64 (addI (t : Int) ((8 * i : Nat) : Int)) = ((t + 8 * i : Nat) : Int) := iAdd rfl (by omega)
    refine Ev.step (fun k m q _ => L_impl_Digest_1_s k m q _ _ _ _) (Ev.t (ltI_t (by omega)) ?_)
    simp only [q1, q2, q3, ixA, cellA .u64 a (show i < a.length by omega), asInt_i]
    refine Ev.g (inR_n (by omega)) (Ev.g (okA _ _) (Ev.c (impl_wordAt_ev p (t + 8 * i) (by omega) hp) ?_))
    simp only [hdV_c, tlV_c, parts1_a, asInt_i, asBool_b, asStr_s, asLen_f, asCells_f, tupL_t, refCells_r, ownLen_o, setA .u64 a _ (show i < a.length by omega)]
    exact Ev.g (inR_n (by omega)) (Ev.g (bleA .u64 (by omega)) (impl_abs_l hp ht n (i + 1) _ (by omega) (by rw [List.length_set]; exact ha) h))
theorem impl_sp_l (hp : p.size < 1152921504606846976) : ∀ (d t : Nat) (a : List Int), t + 136 * d = p.size → a.length = 25 → Ev (fun k m _ _ => L_impl_Digest_0 k m (t : Int) p (arrC .u64 a)) [.str (subS (EV.strOfNums (kT (kSp p t d a))) 0 32)]
  | 0, t, a, ht, ha => by
    refine Ev.step (fun k m _ _ => L_impl_Digest_0_s k m _ _ _) (Ev.f (ltI_f (by rw [lenI_c]; show ¬ (t : Int) < (p.size : Int); omega)) (Ev.c (impl_text_ev ha) (Ev.g rfl ?_)))
    simp only [hdV_c, tlV_c, parts1_a, asInt_i, asBool_b, asStr_s, asLen_f, asCells_f, tupL_t, refCells_r, ownLen_o]
    exact Ev.g (sub32 a) (Ev.now _)
  | d + 1, t, a, ht, ha => by
    refine Ev.step (fun k m _ _ => L_impl_Digest_0_s k m _ _ _) (Ev.t (ltI_t (by rw [lenI_c]; show (t : Int) < (p.size : Int); omega)) ?_)
    rw [show kSp p t (d + 1) a = kSp p (t + 136) d (kAll (kAbs p t 0 17 a)) from rfl]
    exact Ev.l1 (impl_abs_l hp (by omega) 17 0 a rfl ha (impl_sp_l hp d (t + 136) _ (by omega) (by rw [kAll_len, kAbs_len]; exact ha)))
end
theorem pad_size (s : ByteArray) : (EV.strOfNums (kPad (bts s))).size = (s.size / 136 + 1) * 136 := by rw [EV.strOfNums_size, kPad_len, bts_length]
theorem spec_Digest_ev {s : ByteArray} (hs : s.size ≤ 1099511627776) : Does cp n_spec_Digest [.str s] [.str (dig s)] := by
  have h := pad_size s
  refine Ev.fn (fun k => F_spec_Digest k s) (Ev.c (spec_KeccakPad_ev hs) ?_)
  simp only [hdV_c, tlV_c, parts1_a, asInt_i, asBool_b, asStr_s, asLen_f, asCells_f, tupL_t, refCells_r, ownLen_o]
  exact Ev.l0 (spec_sp_l (by omega) (s.size / 136 + 1) 0 z25 (by omega) rfl)
theorem impl_Digest_ev {s : ByteArray} (hs : s.size ≤ 1099511627776) : Does cp n_impl_Digest [.str s] [.str (dig s)] := by
  have h := pad_size s
  refine Ev.fn (fun k => F_impl_Digest k s) (Ev.c (impl_KeccakPad_ev hs) ?_)
  simp only [hdV_c, tlV_c, parts1_a, asInt_i, asBool_b, asStr_s, asLen_f, asCells_f, tupL_t, refCells_r, ownLen_o]
  exact Ev.l0 (impl_sp_l (by omega) (s.size / 136 + 1) 0 z25 (by omega) rfl)


def up : List ByteArray → List ByteArray
  | a :: b :: r => dig (a ++ b) :: up r
  | _ => []
theorem up_len : ∀ (n : Nat) (xs : List ByteArray), xs.length = n + n → (up xs).length = n
  | 0, xs, h => by
    have : xs = [] := List.length_eq_zero_iff.1 h
    subst this; rfl
  | n + 1, a :: b :: r, h => by
    show (up r).length + 1 = n + 1
    have := up_len n r (by simp only [List.length_cons] at h; omega)
    omega
  | n + 1, [a], h => by simp only [List.length_cons, List.length_nil] at h; omega
  | n + 1, [], h => by simp only [List.length_nil] at h; omega
theorem up_32 : ∀ (n : Nat) (xs : List ByteArray), xs.length = n + n → ∀ y ∈ up xs, y.size = 32
  | 0, xs, h, y, hy => by
    have : xs = [] := List.length_eq_zero_iff.1 h
    subst this; cases hy
  | n + 1, a :: b :: r, h, y, hy => by
    rcases List.mem_cons.1 hy with rfl | hy
    · exact dig_len _
    · exact up_32 n r (by simp only [List.length_cons] at h; omega) y hy
  | n + 1, [a], h, y, hy => by cases hy
  | n + 1, [], h, y, hy => by cases hy
def topD : Nat → List ByteArray → ByteArray
  | 0, a :: _ => a
  | 0, [] => ⟨#[]⟩
  | j + 1, xs => topD j (up xs)
theorem cat_size (a b : ByteArray) : (catS a b).size = a.size + b.size := size_append _ _
theorem spec_DigestPair_ev {a b : ByteArray} (ha : a.size = 32) (hb : b.size = 32) : Does cp n_spec_DigestPair [.str a, .str b] [.str (dig (a ++ b))] := by
  have hs : (catS a b).size = 64 := by rw [cat_size]; omega
  refine Ev.fn (fun k => F_spec_DigestPair k a b) (Ev.g (fitS_small (by omega)) (Ev.c (spec_Digest_ev (s := catS a b) (by omega)) (Ev.now _)))
theorem impl_DigestPair_ev {a b : ByteArray} (ha : a.size = 32) (hb : b.size = 32) : Does cp n_impl_DigestPair [.str a, .str b] [.str (dig (a ++ b))] := by
  have hs : (catS a b).size = 64 := by rw [cat_size]; omega
  refine Ev.fn (fun k => F_impl_DigestPair k a b) (Ev.g (fitS_small (by omega)) (Ev.c (impl_Digest_ev (s := catS a b) (by omega)) (Ev.now _)))
theorem eSi {xs : List ByteArray} {i : Nat} (hi : i < xs.length) : cellAt (xs.flatMap eS) (mulN (natI (i : Int)) 1) = .str xs[i] := cell_enc0 eS_len hi (by decide)
theorem spec_up_l (xs : List ByteArray) (hl : xs.length ≤ 1048576) (hs : ∀ y ∈ xs, y.size = 32) (d : Nat) : ∀ (i : Nat) (acc : List ByteArray), i + (d + d) = xs.length → acc.length ≤ i →
    Ev (fun k m _ _ => L_spec_l10Up_0 k m xs.length (xs.flatMap eS) (i : Int) acc.length (acc.flatMap eS)) [.fs (acc ++ up (xs.drop i)).length ((acc ++ up (xs.drop i)).flatMap eS)] := by
  induction d with
  | zero =>
    intro i acc hi ha
    have e1 : wr .i64 (addI (i : Int) 1) = ((i + 1 : Nat) : Int) := wrS (by omega)
    refine Ev.step (fun k m _ _ => L_spec_l10Up_0_s k m _ _ _ _ _) ?_
    rw [List.drop_eq_nil_of_le (by omega), show up [] = [] from rfl, List.append_nil, e1]
    exact Ev.f (ltI_f (by rw [lenI_c]; omega)) (Ev.some_ (by rw [cut_all eS_len]))
  | succ d ih =>
    intro i acc hi ha
    have e1 : wr .i64 (addI (i : Int) 1) = ((i + 1 : Nat) : Int) := wrS (by omega)
    have e2 : wr .i64 (addI (i : Int) 2) = ((i + 2 : Nat) : Int) := by rw [addI_d]; exact wr64 (n := (i : Int) + 2) (by omega)
    have c0 := eSi (xs := xs) (i := i) (by omega)
    have c1 := eSi (xs := xs) (i := i + 1) (by omega)
    refine Ev.step (fun k m _ _ => L_spec_l10Up_0_s k m _ _ _ _ _) ?_
    rw [drop_cons xs i (by omega), drop_cons xs (i + 1) (by omega)]
    simp only [e1, e2, c0, c1, hdV_c, tlV_c, parts1_a, asInt_i, asBool_b, asStr_s, asLen_f, asCells_f, tupL_t, refCells_r, ownLen_o]
    refine Ev.t (ltI_t (by rw [lenI_c]; omega)) (Ev.g (inR_n (by omega)) (Ev.g rfl (Ev.g (inR_n (by omega)) (Ev.g rfl (Ev.c (spec_DigestPair_ev (hs _ (List.getElem_mem _)) (hs _ (List.getElem_mem _))) (Ev.g (fitN_small (by rw [addN_d]; omega) (by decide)) ?_))))))
    simp only [hdV_c, tlV_c, parts1_a, asInt_i, asBool_b, asStr_s, asLen_f, asCells_f, tupL_t, refCells_r, ownLen_o, catSt]
    have := ih (i + 2) (acc ++ [dig (xs[i]'(by omega) ++ xs[i + 1]'(by omega))]) (by omega) (by rw [List.length_append, List.length_cons, List.length_nil]; omega)
    rw [List.length_append, List.append_assoc] at this
    exact this
theorem spec_l10Up_ev (n : Nat) (xs : List ByteArray) (hn : xs.length = n + n) (hl : xs.length ≤ 1048576) (hs : ∀ y ∈ xs, y.size = 32) : Does cp n_spec_l10Up [.fs xs.length (xs.flatMap eS)] [.fs (up xs).length ((up xs).flatMap eS)] :=
  Ev.fn (fun k => F_spec_l10Up k _ _) (spec_up_l xs hl hs n 0 [] (by omega) (by decide)).l0
theorem spec_root_l (j : Nat) : ∀ (xs : List ByteArray), xs.length = 2 ^ j → xs.length ≤ 1048576 → (∀ y ∈ xs, y.size = 32) →
    Ev (fun k m _ _ => L_spec_RootOf_0 k m xs.length (xs.flatMap eS)) [.str (topD j xs)] := by
  induction j with
  | zero =>
    intro xs hn hl hs
    match xs, hn with
    | [a], _ => exact Ev.step (fun k m _ _ => L_spec_RootOf_0_s k m _ _) (Ev.f (ltI_f (show ¬ (1 < lenI 1) by decide)) (Ev.g (show inR 0 1 = true by decide) (Ev.g rfl (Ev.now _))))
  | succ j ih =>
    intro xs hn hl hs
    have h2 : xs.length = 2 ^ j + 2 ^ j := by rw [hn, Nat.pow_succ]; omega
    have hp : 0 < 2 ^ j := Nat.pow_pos (by decide)
    have hu := up_len _ _ h2
    refine Ev.step (fun k m _ _ => L_spec_RootOf_0_s k m _ _) (Ev.t (ltI_t (by rw [lenI_c]; omega)) (Ev.c (spec_l10Up_ev _ xs h2 hl hs) ?_))
    simp only [hdV_c, tlV_c, parts1_a, asInt_i, asBool_b, asStr_s, asLen_f, asCells_f, tupL_t, refCells_r, ownLen_o]
    exact ih (up xs) hu (by omega) (up_32 _ _ h2)
def digs (xs : List ByteArray) : List ByteArray := xs.map dig
theorem digs_32 {xs : List ByteArray} : ∀ y ∈ digs xs, y.size = 32 := by
  intro y hy
  obtain ⟨a, _, rfl⟩ := List.mem_map.1 hy
  exact dig_len _
theorem spec_hash_l (xs : List ByteArray) (hl : xs.length ≤ 1048576) (hs : ∀ y ∈ xs, y.size ≤ 1099511627776) {r : List AV}
    (hr : Ev (fun k m _ _ => L_spec_l10Hashes_1 k m (dig ⟨#[]⟩) xs.length (xs.flatMap eS) (digs xs).length ((digs xs).flatMap eS)) r) (d : Nat) : ∀ (i : Nat) (acc : List ByteArray), i + d = xs.length → acc = digs (xs.take i) →
    Ev (fun k m _ _ => L_spec_l10Hashes_0 k m xs.length (xs.flatMap eS) (i : Int) acc.length (acc.flatMap eS)) r := by
  induction d with
  | zero =>
    intro i acc hi ha
    have ha2 : acc = digs xs := by rw [ha, List.take_of_length_le (by omega)]
    subst ha2
    refine Ev.step (fun k m _ _ => L_spec_l10Hashes_0_s k m _ _ _ _ _) (Ev.f (ltI_f (by rw [lenI_c]; omega)) (Ev.c (spec_Digest_ev (s := ⟨#[]⟩) (by decide)) ?_))
    simp only [hdV_c, tlV_c, parts1_a, asInt_i, asBool_b, asStr_s, asLen_f, asCells_f, tupL_t, refCells_r, ownLen_o]
    exact hr.l0
  | succ d ih =>
    intro i acc hi ha
    have e1 : wr .i64 (addI (i : Int) 1) = ((i + 1 : Nat) : Int) := wrS (by omega)
    have c0 := eSi (xs := xs) (i := i) (by omega)
    have hal : acc.length = i := by rw [ha, digs, List.length_map, List.length_take]; omega
    refine Ev.step (fun k m _ _ => L_spec_l10Hashes_0_s k m _ _ _ _ _) (Ev.t (ltI_t (by rw [lenI_c]; omega)) (Ev.g (inR_n (by omega)) ?_))
    simp only [e1, c0, hdV_c, tlV_c, parts1_a, asInt_i, asBool_b, asStr_s, asLen_f, asCells_f, tupL_t, refCells_r, ownLen_o]
    refine Ev.g rfl (Ev.c (spec_Digest_ev (hs _ (List.getElem_mem _))) (Ev.g (fitN_small (by rw [addN_d]; omega) (by decide)) ?_))
    simp only [hdV_c, tlV_c, parts1_a, asInt_i, asBool_b, asStr_s, asLen_f, asCells_f, tupL_t, refCells_r, ownLen_o, catSt]
    have := ih (i + 1) (acc ++ [dig (xs[i]'(by omega))]) (by omega) (by rw [ha, digs, digs, List.take_add_one, List.map_append, List.getElem?_eq_getElem (by omega)]; rfl)
    rw [List.length_append] at this
    exact this
/-- How many rounds a row of so many leaves has, as the code tells it. -/
structure Pow (n j : Nat) : Prop where
  le : n ≤ 32
  eq : n = 2 ^ j
  lev : Does cp n_spec_LevelsOf [.int .i64 (lenI n)] [.int .i64 (j : Int)]
  sh : wr .i64 (shlI .i64 1 (wr .u64 (j : Int))) = (n : Int)
  nn : leI 0 (wr .u64 (j : Int)) = true
  an : notB (eqI (bitsOp .and .i64 (lenI n) (wr .i64 (subI (lenI n) 1))) 0) = false
  ne : eqI (lenI n) 0 = false
theorem spec_RootOf_ev {xs : List ByteArray} {n j : Nat} (p : Pow n j) (hx : xs.length = n) (hs : ∀ y ∈ xs, y.size ≤ 1099511627776) : Does cp n_spec_RootOf [.fs xs.length (xs.flatMap eS)] [.str (topD j (digs xs))] := by
  have hl := p.le
  have hd : (digs xs).length = xs.length := List.length_map _
  have h1 : Ev (fun k m _ _ => L_spec_l10Hashes_1 k m (dig ⟨#[]⟩) xs.length (xs.flatMap eS) (digs xs).length ((digs xs).flatMap eS)) [.fs (digs xs).length ((digs xs).flatMap eS)] := by
    refine Ev.step (fun k m _ _ => L_spec_l10Hashes_1_s k m _ _ _ _ _) (Ev.c (s := [.int .i64 (j : Int)]) (by rw [hx]; exact p.lev) ?_)
    simp only [hdV_c, tlV_c, parts1_a, asInt_i, asBool_b, asStr_s, asLen_f, asCells_f, tupL_t, refCells_r, ownLen_o, p.sh]
    exact Ev.g p.nn (Ev.f (ltI_f (by rw [lenI_c]; omega)) (Ev.some_ (by rw [cut_all eS_len])))
  have hh : Does cp n_spec_l10Hashes [.fs xs.length (xs.flatMap eS)] [.fs (digs xs).length ((digs xs).flatMap eS)] :=
    Ev.fn (fun k => F_spec_l10Hashes k _ _) (spec_hash_l xs (by omega) hs h1 xs.length 0 [] (by omega) rfl).l0
  refine Ev.fn (fun k => F_spec_RootOf k _ _) (Ev.f (ltI_f (by rw [lenI_c]; omega)) (Ev.c hh ?_))
  simp only [hdV_c, tlV_c, parts1_a, asInt_i, asBool_b, asStr_s, asLen_f, asCells_f, tupL_t, refCells_r, ownLen_o]
  exact (spec_root_l j (digs xs) (by rw [hd, hx]; exact p.eq) (by omega) digs_32).l0
def eL (l : List ByteArray) : List AV := [.fs l.length (l.flatMap eS)]
theorem eL_len (l : List ByteArray) : (eL l).length = 1 := rfl
theorem catLv (xs : List (List ByteArray)) (s : List ByteArray) : catC (cutC (xs.flatMap eL) 0 (mulN xs.length 1)) (cutC [.fs s.length (s.flatMap eS)] 0 1) = (xs ++ [s]).flatMap eL := by
  rw [cut_all eL_len, List.flatMap_append]; rfl
theorem impl_up_l (xs : List ByteArray) (lv : List (List ByteArray)) (hl : xs.length ≤ 1048576) (hl2 : lv.length ≤ 1000) (hs : ∀ y ∈ xs, y.size = 32) {r : List AV}
    (hr : Ev (fun k m _ _ => L_impl_levelsOfTree_2 k m (up xs).length (lv ++ [up xs]).length ((up xs).flatMap eS) ((lv ++ [up xs]).flatMap eL)) r) (d : Nat) : ∀ (i : Nat) (acc : List ByteArray), i + (d + d) = xs.length → acc.length ≤ i → up xs = acc ++ up (xs.drop i) →
    Ev (fun k m p _ => L_impl_levelsOfTree_3 k m p xs.length lv.length (i : Int) acc.length (xs.flatMap eS) (lv.flatMap eL) (acc.flatMap eS)) r := by
  induction d with
  | zero =>
    intro i acc hi ha hu
    rw [List.drop_eq_nil_of_le (by omega), show up [] = [] from rfl, List.append_nil] at hu
    subst hu
    refine Ev.step (fun k m p _ => L_impl_levelsOfTree_3_s k m p _ _ _ _ _ _ _) (Ev.f (ltI_f (by rw [lenI_c]; omega)) (Ev.g (fitN_small (by rw [addN_d]; omega) (by decide)) ?_))
    rw [cut_all (xs := up xs) eS_len, catLv]
    rw [List.length_append] at hr
    exact hr.o1
  | succ d ih =>
    intro i acc hi ha hu
    have e1 : wr .i64 (addI (i : Int) 1) = ((i + 1 : Nat) : Int) := wrS (by omega)
    have e2 : wr .i64 (addI (i : Int) 2) = ((i + 2 : Nat) : Int) := by rw [addI_d]; exact wr64 (n := (i : Int) + 2) (by omega)
    have c0 : cellAt (xs.flatMap eS) (addN 0 (mulN (natI (i : Int)) 1)) = .str (xs[i]'(by omega)) := by rw [addN_d, Nat.zero_add]; exact eSi (by omega)
    have c1 : cellAt (xs.flatMap eS) (addN 0 (mulN (natI ((i + 1 : Nat) : Int)) 1)) = .str (xs[i + 1]'(by omega)) := by rw [addN_d, Nat.zero_add]; exact eSi (by omega)
    refine Ev.step (fun k m p _ => L_impl_levelsOfTree_3_s k m p _ _ _ _ _ _ _) ?_
    rw [drop_cons xs i (by omega), drop_cons xs (i + 1) (by omega)] at hu
    simp only [e1, e2, c0, c1, hdV_c, tlV_c, parts1_a, asInt_i, asBool_b, asStr_s, asLen_f, asCells_f, tupL_t, refCells_r, ownLen_o]
    refine Ev.t (ltI_t (by rw [lenI_c]; omega)) (Ev.g (inR_n (by omega)) (Ev.g rfl (Ev.g (inR_n (by omega)) (Ev.g rfl (Ev.c (impl_DigestPair_ev (hs _ (List.getElem_mem _)) (hs _ (List.getElem_mem _))) (Ev.g (fitN_small (by rw [addN_d]; omega) (by decide)) ?_))))))
    simp only [hdV_c, tlV_c, parts1_a, asInt_i, asBool_b, asStr_s, asLen_f, asCells_f, tupL_t, refCells_r, ownLen_o, catSt]
    have := ih (i + 2) (acc ++ [dig (xs[i]'(by omega) ++ xs[i + 1]'(by omega))]) (by omega) (by rw [List.length_append, List.length_cons, List.length_nil]; omega) (by rw [hu, List.append_assoc]; rfl)
    rw [List.length_append] at this
    exact this
theorem impl_lev_l (j : Nat) : ∀ (xs : List ByteArray) (lv : List (List ByteArray)), xs.length = 2 ^ j → xs.length ≤ 1048576 → (∀ y ∈ xs, y.size = 32) → lv.length + j ≤ 900 →
    ∃ w : List (List ByteArray), Ev (fun k m _ _ => L_impl_levelsOfTree_2 k m xs.length (lv ++ [xs]).length (xs.flatMap eS) ((lv ++ [xs]).flatMap eL)) [.fs (w ++ [[topD j xs]]).length ((w ++ [[topD j xs]]).flatMap eL)] ∧ w.length ≤ 900 := by
  induction j with
  | zero =>
    intro xs lv hn hl hs hv
    match xs, hn with
    | [a], _ => exact ⟨lv, Ev.step (fun k m _ _ => L_impl_levelsOfTree_2_s k m _ _ _ _) (Ev.f (ltI_f (show ¬ (1 < lenI 1) by decide)) (Ev.some_ (by rw [cut_all eL_len]; rfl))), by omega⟩
  | succ j ih =>
    intro xs lv hn hl hs hv
    have h2 : xs.length = 2 ^ j + 2 ^ j := by rw [hn, Nat.pow_succ]; omega
    have hp : 0 < 2 ^ j := Nat.pow_pos (by decide)
    have hu := up_len _ _ h2
    obtain ⟨w, e, hw⟩ := ih (up xs) (lv ++ [xs]) hu (by omega) (up_32 _ _ h2) (by rw [List.length_append, List.length_cons, List.length_nil]; omega)
    exact ⟨w, Ev.step (fun k m _ _ => L_impl_levelsOfTree_2_s k m _ _ _ _) (Ev.t (ltI_t (by rw [lenI_c]; omega)) (impl_up_l xs (lv ++ [xs]) hl (by rw [List.length_append, List.length_cons, List.length_nil]; omega) hs e (2 ^ j) 0 [] (by omega) (by decide) rfl).l1), hw⟩
theorem impl_hash_l (xs : List ByteArray) (hl : xs.length ≤ 1048576) (hs : ∀ y ∈ xs, y.size ≤ 1099511627776) {r : List AV}
    (hr : Ev (fun k m _ _ => L_impl_levelsOfTree_1 k m (digs xs).length ((digs xs).flatMap eS)) r) (d : Nat) : ∀ (i : Nat) (acc : List ByteArray), i + d = xs.length → acc = digs (xs.take i) →
    Ev (fun k m _ _ => L_impl_levelsOfTree_0 k m xs.length (xs.flatMap eS) (lenI xs.length) (i : Int) acc.length (acc.flatMap eS)) r := by
  induction d with
  | zero =>
    intro i acc hi ha
    have ha2 : acc = digs xs := by rw [ha, List.take_of_length_le (by omega)]
    subst ha2
    exact Ev.step (fun k m _ _ => L_impl_levelsOfTree_0_s k m _ _ _ _ _ _) (Ev.f (ltI_f (by rw [lenI_c]; omega)) hr.l0)
  | succ d ih =>
    intro i acc hi ha
    have e1 : wr .i64 (addI (i : Int) 1) = ((i + 1 : Nat) : Int) := wrS (by omega)
    have c0 := eSi (xs := xs) (i := i) (by omega)
    have hal : acc.length = i := by rw [ha, digs, List.length_map, List.length_take]; omega
    refine Ev.step (fun k m _ _ => L_impl_levelsOfTree_0_s k m _ _ _ _ _ _) (Ev.t (ltI_t (by rw [lenI_c]; omega)) (Ev.g (inR_n (by omega)) ?_))
    simp only [e1, c0, hdV_c, tlV_c, parts1_a, asInt_i, asBool_b, asStr_s, asLen_f, asCells_f, tupL_t, refCells_r, ownLen_o]
    refine Ev.g rfl (Ev.c (impl_Digest_ev (hs _ (List.getElem_mem _))) (Ev.g (fitN_small (by rw [addN_d]; omega) (by decide)) ?_))
    simp only [hdV_c, tlV_c, parts1_a, asInt_i, asBool_b, asStr_s, asLen_f, asCells_f, tupL_t, refCells_r, ownLen_o, catSt]
    have := ih (i + 1) (acc ++ [dig (xs[i]'(by omega))]) (by omega) (by rw [ha, digs, digs, List.take_add_one, List.map_append, List.getElem?_eq_getElem (by omega)]; rfl)
    rw [List.length_append] at this
    exact this
theorem impl_RootOf_ev {xs : List ByteArray} {n j : Nat} (p : Pow n j) (hx : xs.length = n) (hs : ∀ y ∈ xs, y.size ≤ 1099511627776) : Does cp n_impl_RootOf [.fs xs.length (xs.flatMap eS)] [.str (topD j (digs xs))] := by
  have hl := p.le
  have hd : (digs xs).length = n := by rw [digs, List.length_map, hx]
  have hj : j ≤ 32 := by
    have h1 := p.eq
    have : j < 2 ^ j := Nat.lt_two_pow_self
    omega
  obtain ⟨w, e, hw⟩ := impl_lev_l j (digs xs) [] (by rw [hd]; exact p.eq) (by omega) digs_32 (by rw [List.length_nil]; omega)
  have h1 : Ev (fun k m _ _ => L_impl_levelsOfTree_1 k m (digs xs).length ((digs xs).flatMap eS)) [.fs (w ++ [[topD j (digs xs)]]).length ((w ++ [[topD j (digs xs)]]).flatMap eL)] := by
    refine Ev.step (fun k m _ _ => L_impl_levelsOfTree_1_s k m _ _) ?_
    rw [cut_all eS_len, hd]
    refine Ev.f p.ne (Ev.f p.an ?_)
    rw [hd, show (([] : List (List ByteArray)) ++ [digs xs]).flatMap eL = [.fs n ((digs xs).flatMap eS)] by rw [← hd]; rfl] at e
    exact e.l0
  have hh : Does cp n_impl_levelsOfTree [.fs xs.length (xs.flatMap eS)] [.fs (w ++ [[topD j (digs xs)]]).length ((w ++ [[topD j (digs xs)]]).flatMap eL)] :=
    Ev.fn (fun k => F_impl_levelsOfTree k _ _) (impl_hash_l xs (by omega) hs h1 xs.length 0 [] (by omega) rfl).l0
  refine Ev.fn (fun k => F_impl_RootOf k _ _) (Ev.f (ltI_f (by rw [lenI_c]; omega)) (Ev.c hh ?_))
  have el : (w ++ [[topD j (digs xs)]]).length = w.length + 1 := by rw [List.length_append]; rfl
  have e1 : wr .i64 (subI (lenI (w ++ [[topD j (digs xs)]]).length) 1) = (w.length : Int) := by rw [el, lenI_c, subI_d, wr64 (by omega)]; omega
  have c0 : cellAt ((w ++ [[topD j (digs xs)]]).flatMap eL) (mulN (natI (w.length : Int)) 1) = .fs 1 [.str (topD j (digs xs))] := by
    rw [cell_enc0 eL_len (show w.length < (w ++ [[topD j (digs xs)]]).length by omega) (by decide), List.getElem_append_right (Nat.le_refl _)]
    simp only [Nat.sub_self]; rfl
  simp only [hdV_c, tlV_c, parts1_a, asInt_i, asBool_b, asStr_s, asLen_f, asCells_f, tupL_t, refCells_r, ownLen_o, e1, c0]
  exact Ev.g (inR_n (by omega)) (Ev.g rfl (Ev.g (by decide) (Ev.g rfl (Ev.now _))))
theorem pow8 : Pow 8 3 where
  le := by decide
  eq := rfl
  lev := by
    refine Ev.fn (fun k => F_spec_LevelsOf k _) (Ev.c (spec_l01In_ev _ _ _) (Ev.f (by decide) (Ev.l0 (L := fun k m => L_spec_LevelsOf_0 k m (lenI 8) 0) ?_)))
    refine Ev.step (fun k m _ _ => L_spec_LevelsOf_0_s k m _ _) (Ev.g (by decide) (Ev.t (by decide) ?_))
    refine Ev.step (fun k m _ _ => L_spec_LevelsOf_0_s k m _ _) (Ev.g (by decide) (Ev.t (by decide) ?_))
    refine Ev.step (fun k m _ _ => L_spec_LevelsOf_0_s k m _ _) (Ev.g (by decide) (Ev.t (by decide) ?_))
    exact Ev.step (fun k m _ _ => L_spec_LevelsOf_0_s k m _ _) (Ev.g (by decide) (Ev.f (by decide) (Ev.some_ (congrArg (fun z => [AV.int .i64 z]) (by decide)))))
  sh := by decide
  nn := by decide
  an := by decide
  ne := by decide
theorem cl8 {ks : List Pt} (h : comOk ks = true) : ks.length = 8 := by
  unfold comOk at h
  rw [Bool.and_eq_true, decide_eq_true_eq] at h
  exact h.1
def comRoot (ks : List Pt) : ByteArray := if comOk ks = true then topD 3 (digs (ks.map pText)) else ⟨#[]⟩
theorem spec_comroot_l (ks : List Pt) (hl : ks.length ≤ 1048576) (hr : Does cp n_spec_RootOf [.fs (ks.map pText).length ((ks.map pText).flatMap eS)] [.str (topD 3 (digs (ks.map pText)))]) (d : Nat) : ∀ (i : Nat) (xs : List ByteArray), i + d = ks.length → xs = (ks.take i).map pText →
    Ev (fun k m _ _ => L_spec_CommitteeRoot_0 k m (i : Int) xs.length ks.length (ks.flatMap eP) (xs.flatMap eS)) [.str (topD 3 (digs (ks.map pText)))] := by
  induction d with
  | zero =>
    intro i xs hi hx
    have hx2 : xs = ks.map pText := by rw [hx, List.take_of_length_le (by omega)]
    subst hx2
    refine Ev.step (fun k m _ _ => L_spec_CommitteeRoot_0_s k m _ _ _ _ _) (Ev.f (ltI_f (by rw [lenI_c]; omega)) ?_)
    rw [cut_all eS_len]
    exact Ev.c hr (Ev.now _)
  | succ d ih =>
    intro i xs hi hx
    have e1 : wr .i64 (addI (i : Int) 1) = ((i + 1 : Nat) : Int) := wrS (by omega)
    have p0 : cellAt (ks.flatMap eP) (mulN (natI (i : Int)) 3) = .int .i64 (ks[i]'(by omega)).1 := cell_enc0 eP_len (by omega) (by decide)
    have p1 : cellAt (ks.flatMap eP) (addN (mulN (natI (i : Int)) 3) 1) = .int .i64 (ks[i]'(by omega)).2.1 := cell_enc eP_len (by omega) 1 (by decide)
    have p2 : cellAt (ks.flatMap eP) (addN (mulN (natI (i : Int)) 3) 2) = .bool (ks[i]'(by omega)).2.2 := cell_enc eP_len (by omega) 2 (by decide)
    have hxl : xs.length = i := by rw [hx, List.length_map, List.length_take]; omega
    refine Ev.step (fun k m _ _ => L_spec_CommitteeRoot_0_s k m _ _ _ _ _) (Ev.t (ltI_t (by rw [lenI_c]; omega)) (Ev.g (inR_n (by omega)) ?_))
    simp only [e1, p0, p1, p2, hdV_c, tlV_c, parts1_a, asInt_i, asBool_b, asStr_s, asLen_f, asCells_f, tupL_t, refCells_r, ownLen_o]
    refine Ev.g rfl (Ev.c (spec_PointText_ev (ks[i]'(by omega))) (Ev.g (fitN_small (by rw [addN_d]; omega) (by decide)) ?_))
    simp only [hdV_c, tlV_c, parts1_a, asInt_i, asBool_b, asStr_s, asLen_f, asCells_f, tupL_t, refCells_r, ownLen_o, catSt]
    have := ih (i + 1) (xs ++ [pText (ks[i]'(by omega))]) (by omega) (by rw [hx, List.take_add_one, List.map_append, List.getElem?_eq_getElem (by omega)]; rfl)
    rw [List.length_append] at this
    exact this
theorem keyt_small {ks : List Pt} : ∀ y ∈ ks.map pText, y.size ≤ 1099511627776 := by
  intro y hy
  obtain ⟨a, _, rfl⟩ := List.mem_map.1 hy
  have := pText_size a
  omega
theorem spec_CommitteeRoot_ev (ks : List Pt) (hl : ks.length ≤ 1048576) : Does cp n_spec_CommitteeRoot [.agg [.fs ks.length (ks.flatMap eP)]] [.str (comRoot ks)] := by
  refine Ev.fn (fun k => F_spec_CommitteeRoot k _ _) (Ev.c (spec_CommitteeOk_ev ks hl) ?_)
  unfold comRoot
  by_cases h : comOk ks = true
  · rw [if_pos h]
    exact Ev.f (by show notB (comOk ks) = false; rw [h]; rfl) (spec_comroot_l ks hl (spec_RootOf_ev pow8 (by rw [List.length_map]; exact cl8 h) keyt_small) ks.length 0 [] (by omega) rfl).l0
  · rw [if_neg h]
    exact Ev.t (by show notB (comOk ks) = true; rw [Bool.not_eq_true] at h; rw [h]; rfl) (Ev.now _)
theorem impl_CommitteeRoot_ev (ks : List Pt) (hl : ks.length ≤ 1048576) : Does cp n_impl_CommitteeRoot [.agg [.fs ks.length (ks.flatMap eP)]] [.str (comRoot ks)] := by
  refine Ev.fn (fun k => F_impl_CommitteeRoot k _ _) (Ev.c (impl_CommitteeOk_ev ks hl) ?_)
  unfold comRoot
  by_cases h : comOk ks = true
  · rw [if_pos h]
    refine Ev.f (by show notB (comOk ks) = false; rw [h]; rfl) (Ev.c (impl_keyTexts_ev ks hl) ?_)
    simp only [hdV_c, tlV_c, parts1_a, asInt_i, asBool_b, asStr_s, asLen_f, asCells_f, tupL_t, refCells_r, ownLen_o]
    exact Ev.c (impl_RootOf_ev pow8 (by rw [List.length_map]; exact cl8 h) keyt_small) (Ev.now _)
  · rw [if_neg h]
    exact Ev.t (by show notB (comOk ks) = true; rw [Bool.not_eq_true] at h; rw [h]; rfl) (Ev.now _)


theorem laws_szHead_ev (x0 : Int) (x1 : ByteArray) (x2 : ByteArray) (x3 : ByteArray) (h_x1 : x1.size ≤ 9223372036854775807) (h_x2 : x2.size ≤ 9223372036854775807) (h_x3 : x3.size ≤ 9223372036854775807) (v : Int) (h0 : 0 ≤ v) (h1 : v ≤ 1048576) :
    ∃ r, Does cp n_laws_szHead [.agg [.int .i64 x0, .str x1, .str x2, .str x3], .int .i64 v] [.int .i64 r] ∧ (0 ≤ r → r ≤ v ∧ x1.size ≤ 1048576 ∧ x2.size ≤ 1048576 ∧ x3.size ≤ 1048576) := by
  suffices h : ∃ r, Ev (fun k _ _ _ => evF cp (k + 1) n_laws_szHead [.agg [.int .i64 x0, .str x1, .str x2, .str x3], .int .i64 v]) [.int .i64 r] ∧ (0 ≤ r → r ≤ v ∧ x1.size ≤ 1048576 ∧ x2.size ≤ 1048576 ∧ x3.size ≤ 1048576) by
    obtain ⟨r, h, p⟩ := h; exact ⟨r, Ev.fn (fun _ => rfl) h, p⟩
  simp only [F_laws_szHead]
  have e2 : wr .i64 (subI v (lenI (lenS x1))) = v - (x1.size : Int) := by rw [subI_d, lenI_c, lenS_d, wr64 (by omega)]
  simp only [e2]
  by_cases c2 : v - (x1.size : Int) < 0
  · exact ⟨-1, Ev.t (ltI_t c2) (Ev.now _), fun h => by omega⟩
  have e3 : wr .i64 (subI (v - (x1.size : Int)) (lenI (lenS x2))) = (v - (x1.size : Int)) - (x2.size : Int) := by rw [subI_d, lenI_c, lenS_d, wr64 (by omega)]
  simp only [e3]
  by_cases c3 : (v - (x1.size : Int)) - (x2.size : Int) < 0
  · exact ⟨-1, Ev.f (ltI_f c2) (Ev.t (ltI_t c3) (Ev.now _)), fun h => by omega⟩
  have e4 : wr .i64 (subI ((v - (x1.size : Int)) - (x2.size : Int)) (lenI (lenS x3))) = ((v - (x1.size : Int)) - (x2.size : Int)) - (x3.size : Int) := by rw [subI_d, lenI_c, lenS_d, wr64 (by omega)]
  simp only [e4]
  by_cases c4 : ((v - (x1.size : Int)) - (x2.size : Int)) - (x3.size : Int) < 0
  · exact ⟨-1, Ev.f (ltI_f c2) (Ev.f (ltI_f c3) (Ev.t (ltI_t c4) (Ev.now _))), fun h => by omega⟩
  exact ⟨(((v - (x1.size : Int)) - (x2.size : Int)) - (x3.size : Int)), Ev.f (ltI_f c2) (Ev.f (ltI_f c3) (Ev.f (ltI_f c4) (Ev.now _))), fun h => ⟨by omega, (by omega), (by omega), (by omega)⟩⟩


theorem laws_szPointS_ev (xs : List Pt) (hl : xs.length ≤ 9223372036854775807) (v : Int) (h0 : 0 ≤ v) (h1 : v ≤ 1048576) : ∃ r, Does cp n_laws_szPointS [.fs xs.length (xs.flatMap eP), .int .i64 v] [.int .i64 r] ∧ (0 ≤ r → r ≤ v ∧ xs.length ≤ 1048576) := by
  have e : wr .i64 (subI v (lenI xs.length)) = v - (xs.length : Int) := by rw [subI_d, lenI_c, wr64 (by omega)]
  by_cases c : v - (xs.length : Int) < 0
  · exact ⟨-1, Ev.fn (fun k => F_laws_szPointS k _ _ _) (Ev.t (ltI_t (by rw [e]; exact c)) (Ev.now _)), fun h => by omega⟩
  · exact ⟨v - (xs.length : Int), Ev.fn (fun k => F_laws_szPointS k _ _ _) (Ev.f (ltI_f (by rw [e]; exact c)) (Ev.some_ (by rw [e]))), fun h => ⟨by omega, by omega⟩⟩


theorem laws_szCommittee_ev (x0 : List Pt) (h_x0 : (x0.length ≤ 9223372036854775807)) (v : Int) (h0 : 0 ≤ v) (h1 : v ≤ 1048576) :
    ∃ r, Does cp n_laws_szCommittee [.agg [.fs x0.length (x0.flatMap eP)], .int .i64 v] [.int .i64 r] ∧ (0 ≤ r → r ≤ v ∧ (x0.length ≤ 1048576)) := by
  suffices h : ∃ r, Ev (fun k _ _ _ => evF cp (k + 1) n_laws_szCommittee [.agg [.fs x0.length (x0.flatMap eP)], .int .i64 v]) [.int .i64 r] ∧ (0 ≤ r → r ≤ v ∧ (x0.length ≤ 1048576)) by
    obtain ⟨r, h, p⟩ := h; exact ⟨r, Ev.fn (fun _ => rfl) h, p⟩
  simp only [F_laws_szCommittee]
  obtain ⟨r1, e1, p1⟩ := laws_szPointS_ev x0 h_x0 v (by omega) (by omega)
  by_cases c1 : r1 < 0
  · exact ⟨-1, Ev.c e1 (Ev.t (ltI_t c1) (Ev.now _)), fun h => by omega⟩
  obtain ⟨g1, s1⟩ := p1 (by omega)
  exact ⟨r1, Ev.c e1 (Ev.f (ltI_f c1) (Ev.now _)), fun h => ⟨by omega, s1⟩⟩


theorem laws_szKeys_ev (x0 : Int) (x1 : Int) (x2 : Bool) (x3 : Int) (x4 : Int) (x5 : Bool) (x6 : Int) (x7 : Int) (x8 : Bool) (x9 : Int) (x10 : Int) (x11 : Bool) (x12 : List Pt) (h_x12 : (x12.length ≤ 9223372036854775807)) (v : Int) (h0 : 0 ≤ v) (h1 : v ≤ 1048576) :
    ∃ r, Does cp n_laws_szKeys [.agg [.int .i64 x0, .int .i64 x1, .bool x2, .int .i64 x3, .int .i64 x4, .bool x5, .int .i64 x6, .int .i64 x7, .bool x8, .int .i64 x9, .int .i64 x10, .bool x11, .fs x12.length (x12.flatMap eP)], .int .i64 v] [.int .i64 r] ∧ (0 ≤ r → r ≤ v ∧ (x12.length ≤ 1048576)) := by
  suffices h : ∃ r, Ev (fun k _ _ _ => evF cp (k + 1) n_laws_szKeys [.agg [.int .i64 x0, .int .i64 x1, .bool x2, .int .i64 x3, .int .i64 x4, .bool x5, .int .i64 x6, .int .i64 x7, .bool x8, .int .i64 x9, .int .i64 x10, .bool x11, .fs x12.length (x12.flatMap eP)], .int .i64 v]) [.int .i64 r] ∧ (0 ≤ r → r ≤ v ∧ (x12.length ≤ 1048576)) by
    obtain ⟨r, h, p⟩ := h; exact ⟨r, Ev.fn (fun _ => rfl) h, p⟩
  simp only [F_laws_szKeys]
  obtain ⟨r5, e5, p5⟩ := laws_szPointS_ev x12 h_x12 v (by omega) (by omega)
  by_cases c5 : r5 < 0
  · exact ⟨-1, Ev.c e5 (Ev.t (ltI_t c5) (Ev.now _)), fun h => by omega⟩
  obtain ⟨g5, s5⟩ := p5 (by omega)
  exact ⟨r5, Ev.c e5 (Ev.f (ltI_f c5) (Ev.now _)), fun h => ⟨by omega, s5⟩⟩


theorem laws_szClient_ev (x0 : Int) (x1 : ByteArray) (x2 : ByteArray) (x3 : ByteArray) (x4 : List Pt) (x5 : List Pt) (x6 : Bool) (x7 : Int) (x8 : Int) (x9 : Bool) (x10 : Int) (x11 : Int) (x12 : Bool) (x13 : Int) (x14 : Int) (x15 : Bool) (x16 : Int) (x17 : Int) (x18 : Bool) (x19 : List Pt) (h_x1 : x1.size ≤ 9223372036854775807) (h_x2 : x2.size ≤ 9223372036854775807) (h_x3 : x3.size ≤ 9223372036854775807) (h_x4 : (x4.length ≤ 9223372036854775807)) (h_x5 : (x5.length ≤ 9223372036854775807)) (h_x19 : (x19.length ≤ 9223372036854775807)) (v : Int) (h0 : 0 ≤ v) (h1 : v ≤ 1048576) :
    ∃ r, Does cp n_laws_szClient [.agg [.int .i64 x0, .str x1, .str x2, .str x3, .fs x4.length (x4.flatMap eP), .fs x5.length (x5.flatMap eP), .bool x6, .int .i64 x7, .int .i64 x8, .bool x9, .int .i64 x10, .int .i64 x11, .bool x12, .int .i64 x13, .int .i64 x14, .bool x15, .int .i64 x16, .int .i64 x17, .bool x18, .fs x19.length (x19.flatMap eP)], .int .i64 v] [.int .i64 r] ∧ (0 ≤ r → r ≤ v ∧ x1.size ≤ 1048576 ∧ x2.size ≤ 1048576 ∧ x3.size ≤ 1048576 ∧ (x4.length ≤ 1048576) ∧ (x5.length ≤ 1048576) ∧ (x19.length ≤ 1048576)) := by
  suffices h : ∃ r, Ev (fun k _ _ _ => evF cp (k + 1) n_laws_szClient [.agg [.int .i64 x0, .str x1, .str x2, .str x3, .fs x4.length (x4.flatMap eP), .fs x5.length (x5.flatMap eP), .bool x6, .int .i64 x7, .int .i64 x8, .bool x9, .int .i64 x10, .int .i64 x11, .bool x12, .int .i64 x13, .int .i64 x14, .bool x15, .int .i64 x16, .int .i64 x17, .bool x18, .fs x19.length (x19.flatMap eP)], .int .i64 v]) [.int .i64 r] ∧ (0 ≤ r → r ≤ v ∧ x1.size ≤ 1048576 ∧ x2.size ≤ 1048576 ∧ x3.size ≤ 1048576 ∧ (x4.length ≤ 1048576) ∧ (x5.length ≤ 1048576) ∧ (x19.length ≤ 1048576)) by
    obtain ⟨r, h, p⟩ := h; exact ⟨r, Ev.fn (fun _ => rfl) h, p⟩
  simp only [F_laws_szClient]
  obtain ⟨r1, e1, p1⟩ := laws_szHead_ev x0 x1 x2 x3 h_x1 h_x2 h_x3 v (by omega) (by omega)
  by_cases c1 : r1 < 0
  · exact ⟨-1, Ev.c e1 (Ev.t (ltI_t c1) (Ev.now _)), fun h => by omega⟩
  obtain ⟨g1, ⟨s1_1, s1_2, s1_3⟩⟩ := p1 (by omega)
  obtain ⟨r2, e2, p2⟩ := laws_szCommittee_ev x4 h_x4 r1 (by omega) (by omega)
  by_cases c2 : r2 < 0
  · exact ⟨-1, Ev.c e1 (Ev.f (ltI_f c1) (Ev.c e2 (Ev.t (ltI_t c2) (Ev.now _)))), fun h => by omega⟩
  obtain ⟨g2, s2_0⟩ := p2 (by omega)
  obtain ⟨r3, e3, p3⟩ := laws_szCommittee_ev x5 h_x5 r2 (by omega) (by omega)
  by_cases c3 : r3 < 0
  · exact ⟨-1, Ev.c e1 (Ev.f (ltI_f c1) (Ev.c e2 (Ev.f (ltI_f c2) (Ev.c e3 (Ev.t (ltI_t c3) (Ev.now _)))))), fun h => by omega⟩
  obtain ⟨g3, s3_0⟩ := p3 (by omega)
  obtain ⟨r5, e5, p5⟩ := laws_szKeys_ev x7 x8 x9 x10 x11 x12 x13 x14 x15 x16 x17 x18 x19 h_x19 r3 (by omega) (by omega)
  by_cases c5 : r5 < 0
  · exact ⟨-1, Ev.c e1 (Ev.f (ltI_f c1) (Ev.c e2 (Ev.f (ltI_f c2) (Ev.c e3 (Ev.f (ltI_f c3) (Ev.c e5 (Ev.t (ltI_t c5) (Ev.now _)))))))), fun h => by omega⟩
  obtain ⟨g5, s5_12⟩ := p5 (by omega)
  exact ⟨r5, Ev.c e1 (Ev.f (ltI_f c1) (Ev.c e2 (Ev.f (ltI_f c2) (Ev.c e3 (Ev.f (ltI_f c3) (Ev.c e5 (Ev.f (ltI_f c5) (Ev.now _)))))))), fun h => ⟨by omega, s1_1, s1_2, s1_3, s2_0, s3_0, s5_12⟩⟩


theorem laws_toHead_ev (x0 : Int) (x1 : ByteArray) (x2 : ByteArray) (x3 : ByteArray) : Does cp n_laws_toHead [.agg [.int .i64 x0, .str x1, .str x2, .str x3]] [.agg [.int .i64 x0, .str x1, .str x2, .str x3]] :=
  Ev.fn (fun k => F_laws_toHead k (x0) (x1) (x2) (x3) ) (Ev.now _)


theorem laws_toPoint_ev (x0 : Int) (x1 : Int) (x2 : Bool) : Does cp n_laws_toPoint [.agg [.int .i64 x0, .int .i64 x1, .bool x2]] [.agg [.int .i64 x0, .int .i64 x1, .bool x2]] :=
  Ev.fn (fun k => F_laws_toPoint k (x0) (x1) (x2) ) (Ev.now _)


theorem laws_toPointS_l (xs : List Pt) (hl : xs.length ≤ 1048576) (d : Nat) : ∀ i : Nat, i + d = xs.length →
    Ev (fun k m _ _ => L_laws_toPointS_0 k m xs.length (xs.flatMap eP) xs.length (i : Int) ((xs.take i).flatMap eP ++ (List.replicate d ([.int .i64 0, .int .i64 0, .bool false] : List AV)).flatten)) [.fs xs.length (xs.flatMap eP)] := by
  induction d with
  | zero =>
    intro i hi
    refine Ev.step (fun k m _ _ => L_laws_toPointS_0_s k m _ _ _ _ _) (Ev.f (ltI_f (by rw [lenI_c]; omega)) (Ev.some_ ?_))
    rw [List.replicate_zero, List.flatten_nil, List.append_nil, List.take_of_length_le (by omega), cut_all eP_len]
  | succ d ih =>
    intro i hi
    have c0 : cellAt (xs.flatMap eP) (mulN (natI (i : Int)) 3) = .int .i64 (xs[i]'(by omega)).1 := cell_enc0 eP_len (by omega) (by decide)
    have c1 : cellAt (xs.flatMap eP) (addN (mulN (natI (i : Int)) 3) 1) = .int .i64 (xs[i]'(by omega)).2.1 := cell_enc eP_len (by omega) 1 (by decide)
    have c2 : cellAt (xs.flatMap eP) (addN (mulN (natI (i : Int)) 3) 2) = .bool (xs[i]'(by omega)).2.2 := cell_enc eP_len (by omega) 2 (by decide)
    have hset : setMany ((xs.take i).flatMap eP ++ (List.replicate (d + 1) ([.int .i64 0, .int .i64 0, .bool false] : List AV)).flatten) (addN 0 (mulN (natI (i : Int)) 3)) ([.int .i64 (xs[i]'(by omega)).1, .int .i64 (xs[i]'(by omega)).2.1, .bool (xs[i]'(by omega)).2.2] : List AV) = (xs.take (i + 1)).flatMap eP ++ (List.replicate d ([.int .i64 0, .int .i64 0, .bool false] : List AV)).flatten := by
      rw [addN_d, Nat.zero_add, natI_c, mulN_d, ← take_next xs i (by omega)]
      have hp : (xs.take i).length = i := by rw [List.length_take]; omega
      have := fill_at eP_len (z := ([.int .i64 0, .int .i64 0, .bool false] : List AV)) rfl (xs.take i) (xs[i]'(by omega)) d
      rw [hp] at this
      exact this
    have hb : Nat.ble (Nat.succ (Nat.succ (Nat.succ (addN 0 (mulN (natI (i : Int)) 3))))) (List.length ((xs.take i).flatMap eP ++ (List.replicate (d + 1) ([.int .i64 0, .int .i64 0, .bool false] : List AV)).flatten)) = true := by
      rw [fill_len eP_len rfl, List.length_take]
      exact Nat.ble_eq_true_of_le (by rw [addN_d, natI_c, mulN_d, Nat.min_eq_left (by omega)]; omega)
    refine Ev.step (fun k m _ _ => L_laws_toPointS_0_s k m _ _ _ _ _) (Ev.t (ltI_t (by rw [lenI_c]; omega)) (Ev.g (inR_n (by omega)) ?_))
    simp only [c0, c1, c2, hdV_c, tlV_c, parts1_a, asInt_i, asBool_b, asStr_s, asLen_f, asCells_f, tupL_t, refCells_r, ownLen_o]
    refine Ev.g rfl (Ev.c (laws_toPoint_ev (xs[i]'(by omega)).1 (xs[i]'(by omega)).2.1 (xs[i]'(by omega)).2.2) (Ev.g (inR_n (by omega)) (Ev.g hb ?_)))
    simp only [hdV_c, tlV_c, parts1_a, asInt_i, asBool_b, asStr_s, asLen_f, asCells_f, tupL_t, refCells_r, ownLen_o, wrS (show i < 9223372036854775807 by omega), hset]
    exact ih (i + 1) (by omega)
theorem laws_toPointS_ev (xs : List Pt) (hl : xs.length ≤ 1048576) : Does cp n_laws_toPointS [.fs xs.length (xs.flatMap eP)] [.fs xs.length (xs.flatMap eP)] :=
  Ev.fn (fun k => F_laws_toPointS k _ _) (Ev.g (fit_small hl (by decide)) (laws_toPointS_l xs hl xs.length 0 (by omega)).l0)


theorem laws_toCommittee_ev (x0 : List Pt) (h_x0 : (x0.length ≤ 1048576)) : Does cp n_laws_toCommittee [.agg [.fs x0.length (x0.flatMap eP)]] [.agg [.fs x0.length (x0.flatMap eP)]] :=
  Ev.fn (fun k => F_laws_toCommittee k (x0).length ((x0).flatMap eP) ) (Ev.c (laws_toPointS_ev x0 h_x0) (Ev.some_ (by simp only [hdV_c, tlV_c, parts1_a, asInt_i, asBool_b, asStr_s, asLen_f, asCells_f, tupL_t, refCells_r, ownLen_o, cut_all eP_len])))


theorem laws_toKeys_ev (x0 : Int) (x1 : Int) (x2 : Bool) (x3 : Int) (x4 : Int) (x5 : Bool) (x6 : Int) (x7 : Int) (x8 : Bool) (x9 : Int) (x10 : Int) (x11 : Bool) (x12 : List Pt) (h_x12 : (x12.length ≤ 1048576)) : Does cp n_laws_toKeys [.agg [.int .i64 x0, .int .i64 x1, .bool x2, .int .i64 x3, .int .i64 x4, .bool x5, .int .i64 x6, .int .i64 x7, .bool x8, .int .i64 x9, .int .i64 x10, .bool x11, .fs x12.length (x12.flatMap eP)]] [.agg [.int .i64 x0, .int .i64 x1, .bool x2, .int .i64 x3, .int .i64 x4, .bool x5, .int .i64 x6, .int .i64 x7, .bool x8, .int .i64 x9, .int .i64 x10, .bool x11, .fs x12.length (x12.flatMap eP)]] :=
  Ev.fn (fun k => F_laws_toKeys k (x0) (x1) (x2) (x3) (x4) (x5) (x6) (x7) (x8) (x9) (x10) (x11) (x12).length ((x12).flatMap eP) ) (Ev.c (laws_toPoint_ev x0 x1 x2) (Ev.c (laws_toPoint_ev x3 x4 x5) (Ev.c (laws_toPoint_ev x6 x7 x8) (Ev.c (laws_toPoint_ev x9 x10 x11) (Ev.c (laws_toPointS_ev x12 h_x12) (Ev.some_ (by simp only [hdV_c, tlV_c, parts1_a, asInt_i, asBool_b, asStr_s, asLen_f, asCells_f, tupL_t, refCells_r, ownLen_o, cut_all eP_len])))))))


theorem laws_toClient_ev (x0 : Int) (x1 : ByteArray) (x2 : ByteArray) (x3 : ByteArray) (x4 : List Pt) (x5 : List Pt) (x6 : Bool) (x7 : Int) (x8 : Int) (x9 : Bool) (x10 : Int) (x11 : Int) (x12 : Bool) (x13 : Int) (x14 : Int) (x15 : Bool) (x16 : Int) (x17 : Int) (x18 : Bool) (x19 : List Pt) (h_x4 : (x4.length ≤ 1048576)) (h_x5 : (x5.length ≤ 1048576)) (h_x19 : (x19.length ≤ 1048576)) : Does cp n_laws_toClient [.agg [.int .i64 x0, .str x1, .str x2, .str x3, .fs x4.length (x4.flatMap eP), .fs x5.length (x5.flatMap eP), .bool x6, .int .i64 x7, .int .i64 x8, .bool x9, .int .i64 x10, .int .i64 x11, .bool x12, .int .i64 x13, .int .i64 x14, .bool x15, .int .i64 x16, .int .i64 x17, .bool x18, .fs x19.length (x19.flatMap eP)]] [.agg [.int .i64 x0, .str x1, .str x2, .str x3, .fs x4.length (x4.flatMap eP), .fs x5.length (x5.flatMap eP), .bool x6, .int .i64 x7, .int .i64 x8, .bool x9, .int .i64 x10, .int .i64 x11, .bool x12, .int .i64 x13, .int .i64 x14, .bool x15, .int .i64 x16, .int .i64 x17, .bool x18, .fs x19.length (x19.flatMap eP)]] :=
  Ev.fn (fun k => F_laws_toClient k (x0) (x1) (x2) (x3) (x4).length ((x4).flatMap eP) (x5).length ((x5).flatMap eP) (x6) (x7) (x8) (x9) (x10) (x11) (x12) (x13) (x14) (x15) (x16) (x17) (x18) (x19).length ((x19).flatMap eP) ) (Ev.c (laws_toHead_ev x0 x1 x2 x3) (Ev.c (laws_toCommittee_ev x4 h_x4) (Ev.c (laws_toCommittee_ev x5 h_x5) (Ev.c (laws_toKeys_ev x7 x8 x9 x10 x11 x12 x13 x14 x15 x16 x17 x18 x19 h_x19) (Ev.some_ (by simp only [hdV_c, tlV_c, parts1_a, asInt_i, asBool_b, asStr_s, asLen_f, asCells_f, tupL_t, refCells_r, ownLen_o, cut_all eP_len]))))))


theorem laws_eqHead_same (x0 : Int) (x1 : ByteArray) (x2 : ByteArray) (x3 : ByteArray) : Does cp n_laws_eqHead [.agg [.int .i64 x0, .str x1, .str x2, .str x3], .agg [.int .i64 x0, .str x1, .str x2, .str x3]] [.bool true] :=
  Ev.fn (fun k => F_laws_eqHead k (x0) (x1) (x2) (x3) (x0) (x1) (x2) (x3) ) (Ev.f (by rw [eqI_t rfl]; rfl) (Ev.f (by rw [eqS_t rfl]; rfl) (Ev.f (by rw [eqS_t rfl]; rfl) (Ev.f (by rw [eqS_t rfl]; rfl) (Ev.now _)))))


theorem laws_eqPoint_same (x0 : Int) (x1 : Int) (x2 : Bool) : Does cp n_laws_eqPoint [.agg [.int .i64 x0, .int .i64 x1, .bool x2], .agg [.int .i64 x0, .int .i64 x1, .bool x2]] [.bool true] :=
  Ev.fn (fun k => F_laws_eqPoint k (x0) (x1) (x2) (x0) (x1) (x2) ) (Ev.f (by rw [eqI_t rfl]; rfl) (Ev.f (by rw [eqI_t rfl]; rfl) (Ev.f (by rw [eqB_d]; simp [notB]) (Ev.now _))))


theorem laws_eqPointS_l (xs : List Pt) (hl : xs.length ≤ 1048576) (d : Nat) : ∀ i : Nat, i + d = xs.length →
    Ev (fun k m _ _ => L_laws_eqPointS_0 k m xs.length (xs.flatMap eP) xs.length (xs.flatMap eP) (i : Int)) [.bool true] := by
  induction d with
  | zero =>
    intro i hi
    exact Ev.step (fun k m _ _ => L_laws_eqPointS_0_s k m _ _ _ _ _) (Ev.f (ltI_f (by rw [lenI_c]; omega)) (Ev.now _))
  | succ d ih =>
    intro i hi
    have c0 : cellAt (xs.flatMap eP) (mulN (natI (i : Int)) 3) = .int .i64 (xs[i]'(by omega)).1 := cell_enc0 eP_len (by omega) (by decide)
    have c1 : cellAt (xs.flatMap eP) (addN (mulN (natI (i : Int)) 3) 1) = .int .i64 (xs[i]'(by omega)).2.1 := cell_enc eP_len (by omega) 1 (by decide)
    have c2 : cellAt (xs.flatMap eP) (addN (mulN (natI (i : Int)) 3) 2) = .bool (xs[i]'(by omega)).2.2 := cell_enc eP_len (by omega) 2 (by decide)
    refine Ev.step (fun k m _ _ => L_laws_eqPointS_0_s k m _ _ _ _ _) (Ev.t (ltI_t (by rw [lenI_c]; omega)) (Ev.g (inR_n (by omega)) ?_))
    simp only [c0, c1, c2, hdV_c, tlV_c, parts1_a, asInt_i, asBool_b, asStr_s, asLen_f, asCells_f, tupL_t, refCells_r, ownLen_o]
    refine Ev.g rfl (Ev.g (inR_n (by omega)) (Ev.g rfl (Ev.c (laws_eqPoint_same (xs[i]'(by omega)).1 (xs[i]'(by omega)).2.1 (xs[i]'(by omega)).2.2) (Ev.f rfl ?_))))
    simp only [wrS (show i < 9223372036854775807 by omega)]
    exact ih (i + 1) (by omega)
theorem laws_eqPointS_same (xs : List Pt) (hl : xs.length ≤ 1048576) : Does cp n_laws_eqPointS [.fs xs.length (xs.flatMap eP), .fs xs.length (xs.flatMap eP)] [.bool true] :=
  Ev.fn (fun k => F_laws_eqPointS k _ _ _ _) (Ev.f (by rw [eqI_t rfl]; rfl) (laws_eqPointS_l xs hl xs.length 0 (by omega)).l0)


theorem laws_eqCommittee_same (x0 : List Pt) (h_x0 : (x0.length ≤ 1048576)) : Does cp n_laws_eqCommittee [.agg [.fs x0.length (x0.flatMap eP)], .agg [.fs x0.length (x0.flatMap eP)]] [.bool true] :=
  Ev.fn (fun k => F_laws_eqCommittee k (x0).length ((x0).flatMap eP) (x0).length ((x0).flatMap eP) ) (Ev.c (laws_eqPointS_same x0 h_x0) (Ev.f rfl (Ev.now _)))


theorem laws_eqKeys_same (x0 : Int) (x1 : Int) (x2 : Bool) (x3 : Int) (x4 : Int) (x5 : Bool) (x6 : Int) (x7 : Int) (x8 : Bool) (x9 : Int) (x10 : Int) (x11 : Bool) (x12 : List Pt) (h_x12 : (x12.length ≤ 1048576)) : Does cp n_laws_eqKeys [.agg [.int .i64 x0, .int .i64 x1, .bool x2, .int .i64 x3, .int .i64 x4, .bool x5, .int .i64 x6, .int .i64 x7, .bool x8, .int .i64 x9, .int .i64 x10, .bool x11, .fs x12.length (x12.flatMap eP)], .agg [.int .i64 x0, .int .i64 x1, .bool x2, .int .i64 x3, .int .i64 x4, .bool x5, .int .i64 x6, .int .i64 x7, .bool x8, .int .i64 x9, .int .i64 x10, .bool x11, .fs x12.length (x12.flatMap eP)]] [.bool true] :=
  Ev.fn (fun k => F_laws_eqKeys k (x0) (x1) (x2) (x3) (x4) (x5) (x6) (x7) (x8) (x9) (x10) (x11) (x12).length ((x12).flatMap eP) (x0) (x1) (x2) (x3) (x4) (x5) (x6) (x7) (x8) (x9) (x10) (x11) (x12).length ((x12).flatMap eP) ) (Ev.c (laws_eqPoint_same x0 x1 x2) (Ev.f rfl (Ev.c (laws_eqPoint_same x3 x4 x5) (Ev.f rfl (Ev.c (laws_eqPoint_same x6 x7 x8) (Ev.f rfl (Ev.c (laws_eqPoint_same x9 x10 x11) (Ev.f rfl (Ev.c (laws_eqPointS_same x12 h_x12) (Ev.f rfl (Ev.now _)))))))))))


theorem laws_eqClient_same (x0 : Int) (x1 : ByteArray) (x2 : ByteArray) (x3 : ByteArray) (x4 : List Pt) (x5 : List Pt) (x6 : Bool) (x7 : Int) (x8 : Int) (x9 : Bool) (x10 : Int) (x11 : Int) (x12 : Bool) (x13 : Int) (x14 : Int) (x15 : Bool) (x16 : Int) (x17 : Int) (x18 : Bool) (x19 : List Pt) (h_x4 : (x4.length ≤ 1048576)) (h_x5 : (x5.length ≤ 1048576)) (h_x19 : (x19.length ≤ 1048576)) : Does cp n_laws_eqClient [.agg [.int .i64 x0, .str x1, .str x2, .str x3, .fs x4.length (x4.flatMap eP), .fs x5.length (x5.flatMap eP), .bool x6, .int .i64 x7, .int .i64 x8, .bool x9, .int .i64 x10, .int .i64 x11, .bool x12, .int .i64 x13, .int .i64 x14, .bool x15, .int .i64 x16, .int .i64 x17, .bool x18, .fs x19.length (x19.flatMap eP)], .agg [.int .i64 x0, .str x1, .str x2, .str x3, .fs x4.length (x4.flatMap eP), .fs x5.length (x5.flatMap eP), .bool x6, .int .i64 x7, .int .i64 x8, .bool x9, .int .i64 x10, .int .i64 x11, .bool x12, .int .i64 x13, .int .i64 x14, .bool x15, .int .i64 x16, .int .i64 x17, .bool x18, .fs x19.length (x19.flatMap eP)]] [.bool true] :=
  Ev.fn (fun k => F_laws_eqClient k (x0) (x1) (x2) (x3) (x4).length ((x4).flatMap eP) (x5).length ((x5).flatMap eP) (x6) (x7) (x8) (x9) (x10) (x11) (x12) (x13) (x14) (x15) (x16) (x17) (x18) (x19).length ((x19).flatMap eP) (x0) (x1) (x2) (x3) (x4).length ((x4).flatMap eP) (x5).length ((x5).flatMap eP) (x6) (x7) (x8) (x9) (x10) (x11) (x12) (x13) (x14) (x15) (x16) (x17) (x18) (x19).length ((x19).flatMap eP) ) (Ev.c (laws_eqHead_same x0 x1 x2 x3) (Ev.f rfl (Ev.c (laws_eqCommittee_same x4 h_x4) (Ev.f rfl (Ev.c (laws_eqCommittee_same x5 h_x5) (Ev.f rfl (Ev.f (by rw [eqB_d]; simp [notB]) (Ev.c (laws_eqKeys_same x7 x8 x9 x10 x11 x12 x13 x14 x15 x16 x17 x18 x19 h_x19) (Ev.f rfl (Ev.now _))))))))))


def sameCl (x0 y0 : Int) (x1 y1 : ByteArray) (x2 y2 : ByteArray) (x3 y3 : ByteArray) (x4 y4 : List Pt) (x5 y5 : List Pt) (x6 y6 : Bool) : Bool := (andB (eqI x0 y0) (andB (eqS x1 y1) (andB (eqS x2 y2) (andB (eqS x3 y3) true)))) && (eqS (comRoot x4) (comRoot y4) && (eqB x6 y6 && eqS (comRoot x5) (comRoot y5)))
theorem spec_SameClient_ev (x0 : Int) (x1 : ByteArray) (x2 : ByteArray) (x3 : ByteArray) (x4 : List Pt) (x5 : List Pt) (x6 : Bool) (x7 : Int) (x8 : Int) (x9 : Bool) (x10 : Int) (x11 : Int) (x12 : Bool) (x13 : Int) (x14 : Int) (x15 : Bool) (x16 : Int) (x17 : Int) (x18 : Bool) (x19 : List Pt) (y0 : Int) (y1 : ByteArray) (y2 : ByteArray) (y3 : ByteArray) (y4 : List Pt) (y5 : List Pt) (y6 : Bool) (y7 : Int) (y8 : Int) (y9 : Bool) (y10 : Int) (y11 : Int) (y12 : Bool) (y13 : Int) (y14 : Int) (y15 : Bool) (y16 : Int) (y17 : Int) (y18 : Bool) (y19 : List Pt) (l4 : x4.length ≤ 1048576) (l5 : x5.length ≤ 1048576) (l19 : x19.length ≤ 1048576) (m4 : y4.length ≤ 1048576) (m5 : y5.length ≤ 1048576) (m19 : y19.length ≤ 1048576) : Does cp n_spec_SameClient [.agg [.int .i64 x0, .str x1, .str x2, .str x3, .fs x4.length (x4.flatMap eP), .fs x5.length (x5.flatMap eP), .bool x6, .int .i64 x7, .int .i64 x8, .bool x9, .int .i64 x10, .int .i64 x11, .bool x12, .int .i64 x13, .int .i64 x14, .bool x15, .int .i64 x16, .int .i64 x17, .bool x18, .fs x19.length (x19.flatMap eP)], .agg [.int .i64 y0, .str y1, .str y2, .str y3, .fs y4.length (y4.flatMap eP), .fs y5.length (y5.flatMap eP), .bool y6, .int .i64 y7, .int .i64 y8, .bool y9, .int .i64 y10, .int .i64 y11, .bool y12, .int .i64 y13, .int .i64 y14, .bool y15, .int .i64 y16, .int .i64 y17, .bool y18, .fs y19.length (y19.flatMap eP)]] [.bool (sameCl x0 y0 x1 y1 x2 y2 x3 y3 x4 y4 x5 y5 x6 y6)] := by
  unfold sameCl
  exact Ev.fn (fun k => F_spec_SameClient k ..) (Ev.ap fun _ => Ev.c (spec_CommitteeRoot_ev x4 l4) (Ev.c (spec_CommitteeRoot_ev y4 m4) (Ev.ap fun _ => Ev.ap fun _ => Ev.c (spec_CommitteeRoot_ev x5 l5) (Ev.c (spec_CommitteeRoot_ev y5 m5) (Ev.now _)))))
theorem impl_SameClient_ev (x0 : Int) (x1 : ByteArray) (x2 : ByteArray) (x3 : ByteArray) (x4 : List Pt) (x5 : List Pt) (x6 : Bool) (x7 : Int) (x8 : Int) (x9 : Bool) (x10 : Int) (x11 : Int) (x12 : Bool) (x13 : Int) (x14 : Int) (x15 : Bool) (x16 : Int) (x17 : Int) (x18 : Bool) (x19 : List Pt) (y0 : Int) (y1 : ByteArray) (y2 : ByteArray) (y3 : ByteArray) (y4 : List Pt) (y5 : List Pt) (y6 : Bool) (y7 : Int) (y8 : Int) (y9 : Bool) (y10 : Int) (y11 : Int) (y12 : Bool) (y13 : Int) (y14 : Int) (y15 : Bool) (y16 : Int) (y17 : Int) (y18 : Bool) (y19 : List Pt) (l4 : x4.length ≤ 1048576) (l5 : x5.length ≤ 1048576) (l19 : x19.length ≤ 1048576) (m4 : y4.length ≤ 1048576) (m5 : y5.length ≤ 1048576) (m19 : y19.length ≤ 1048576) : Does cp n_impl_SameClient [.agg [.int .i64 x0, .str x1, .str x2, .str x3, .fs x4.length (x4.flatMap eP), .fs x5.length (x5.flatMap eP), .bool x6, .int .i64 x7, .int .i64 x8, .bool x9, .int .i64 x10, .int .i64 x11, .bool x12, .int .i64 x13, .int .i64 x14, .bool x15, .int .i64 x16, .int .i64 x17, .bool x18, .fs x19.length (x19.flatMap eP)], .agg [.int .i64 y0, .str y1, .str y2, .str y3, .fs y4.length (y4.flatMap eP), .fs y5.length (y5.flatMap eP), .bool y6, .int .i64 y7, .int .i64 y8, .bool y9, .int .i64 y10, .int .i64 y11, .bool y12, .int .i64 y13, .int .i64 y14, .bool y15, .int .i64 y16, .int .i64 y17, .bool y18, .fs y19.length (y19.flatMap eP)]] [.bool (sameCl x0 y0 x1 y1 x2 y2 x3 y3 x4 y4 x5 y5 x6 y6)] := by
  have e : sameCl x0 y0 x1 y1 x2 y2 x3 y3 x4 y4 x5 y5 x6 y6 = ((andB (eqI x0 y0) (andB (eqS x1 y1) (andB (eqS x2 y2) (andB (eqS x3 y3) true)))) && (eqB x6 y6 && (eqS (comRoot x4) (comRoot y4) && eqS (comRoot x5) (comRoot y5)))) := by
    unfold sameCl
    rw [Bool.and_left_comm (eqB x6 y6)]
  rw [e]
  exact Ev.fn (fun k => F_impl_SameClient k ..) (Ev.an fun _ => Ev.an fun _ => Ev.c (impl_CommitteeRoot_ev x4 l4) (Ev.c (impl_CommitteeRoot_ev y4 m4) (Ev.ap fun _ => Ev.c (impl_CommitteeRoot_ev x5 l5) (Ev.c (impl_CommitteeRoot_ev y5 m5) (Ev.now _)))))
theorem law_SameClient (x0 : Int) (x1 : ByteArray) (x2 : ByteArray) (x3 : ByteArray) (x4 : List Pt) (x5 : List Pt) (x6 : Bool) (x7 : Int) (x8 : Int) (x9 : Bool) (x10 : Int) (x11 : Int) (x12 : Bool) (x13 : Int) (x14 : Int) (x15 : Bool) (x16 : Int) (x17 : Int) (x18 : Bool) (x19 : List Pt) (h1 : x1.size ≤ 9223372036854775807) (h2 : x2.size ≤ 9223372036854775807) (h3 : x3.size ≤ 9223372036854775807) (h4 : x4.length ≤ 9223372036854775807) (h5 : x5.length ≤ 9223372036854775807) (h19 : x19.length ≤ 9223372036854775807) (y0 : Int) (y1 : ByteArray) (y2 : ByteArray) (y3 : ByteArray) (y4 : List Pt) (y5 : List Pt) (y6 : Bool) (y7 : Int) (y8 : Int) (y9 : Bool) (y10 : Int) (y11 : Int) (y12 : Bool) (y13 : Int) (y14 : Int) (y15 : Bool) (y16 : Int) (y17 : Int) (y18 : Bool) (y19 : List Pt) (g1 : y1.size ≤ 9223372036854775807) (g2 : y2.size ≤ 9223372036854775807) (g3 : y3.size ≤ 9223372036854775807) (g4 : y4.length ≤ 9223372036854775807) (g5 : y5.length ≤ 9223372036854775807) (g19 : y19.length ≤ 9223372036854775807) :
    ∃ k, evF cp k n_laws_FnExactSameClient [.agg [.int .i64 x0, .str x1, .str x2, .str x3, .fs x4.length (x4.flatMap eP), .fs x5.length (x5.flatMap eP), .bool x6, .int .i64 x7, .int .i64 x8, .bool x9, .int .i64 x10, .int .i64 x11, .bool x12, .int .i64 x13, .int .i64 x14, .bool x15, .int .i64 x16, .int .i64 x17, .bool x18, .fs x19.length (x19.flatMap eP)], .agg [.int .i64 y0, .str y1, .str y2, .str y3, .fs y4.length (y4.flatMap eP), .fs y5.length (y5.flatMap eP), .bool y6, .int .i64 y7, .int .i64 y8, .bool y9, .int .i64 y10, .int .i64 y11, .bool y12, .int .i64 y13, .int .i64 y14, .bool y15, .int .i64 y16, .int .i64 y17, .bool y18, .fs y19.length (y19.flatMap eP)]] = some [.bool true] := by
  apply Ev.rounds
  obtain ⟨r, e, p⟩ := laws_szClient_ev x0 x1 x2 x3 x4 x5 x6 x7 x8 x9 x10 x11 x12 x13 x14 x15 x16 x17 x18 x19 h1 h2 h3 h4 h5 h19 1048576 (by omega) (by omega)
  refine Ev.fn (fun k => F_laws_FnExactSameClient k ..) (Ev.c e ?_)
  by_cases h0 : r < 0
  · exact Ev.t (ltI_t h0) (Ev.now _)
  refine Ev.f (ltI_f h0) ?_
  obtain ⟨hr, _, _, _, l4, l5, l19⟩ := p (by omega)
  obtain ⟨r', e', p'⟩ := laws_szClient_ev y0 y1 y2 y3 y4 y5 y6 y7 y8 y9 y10 y11 y12 y13 y14 y15 y16 y17 y18 y19 g1 g2 g3 g4 g5 g19 r (by omega) (by omega)
  refine Ev.c e' ?_
  by_cases h0' : r' < 0
  · exact Ev.t (ltI_t h0') (Ev.now _)
  refine Ev.f (ltI_f h0') ?_
  obtain ⟨_, _, _, _, m4, m5, m19⟩ := p' (by omega)
  have tx := laws_toClient_ev x0 x1 x2 x3 x4 x5 x6 x7 x8 x9 x10 x11 x12 x13 x14 x15 x16 x17 x18 x19 l4 l5 l19
  have ty := laws_toClient_ev y0 y1 y2 y3 y4 y5 y6 y7 y8 y9 y10 y11 y12 y13 y14 y15 y16 y17 y18 y19 m4 m5 m19
  refine Ev.c tx ?_
  refine Ev.c ty ?_
  simp only [hdV_c, tlV_c, parts1_a, asInt_i, asBool_b, asStr_s, asLen_f, asCells_f, tupL_t, refCells_r, ownLen_o]
  refine Ev.c (spec_SameClient_ev x0 x1 x2 x3 x4 x5 x6 x7 x8 x9 x10 x11 x12 x13 x14 x15 x16 x17 x18 x19 y0 y1 y2 y3 y4 y5 y6 y7 y8 y9 y10 y11 y12 y13 y14 y15 y16 y17 y18 y19 l4 l5 l19 m4 m5 m19) ?_
  refine Ev.c tx ?_
  refine Ev.c ty ?_
  simp only [hdV_c, tlV_c, parts1_a, asInt_i, asBool_b, asStr_s, asLen_f, asCells_f, tupL_t, refCells_r, ownLen_o]
  refine Ev.c (impl_SameClient_ev x0 x1 x2 x3 x4 x5 x6 x7 x8 x9 x10 x11 x12 x13 x14 x15 x16 x17 x18 x19 y0 y1 y2 y3 y4 y5 y6 y7 y8 y9 y10 y11 y12 y13 y14 y15 y16 y17 y18 y19 l4 l5 l19 m4 m5 m19) ?_
  refine Ev.f (by simp only [hdV_c, tlV_c, parts1_a, asInt_i, asBool_b, asStr_s, asLen_f, asCells_f, tupL_t, refCells_r, ownLen_o]; rw [eqB_d]; simp [notB]) ?_
  refine Ev.c tx ?_
  simp only [hdV_c, tlV_c, parts1_a, asInt_i, asBool_b, asStr_s, asLen_f, asCells_f, tupL_t, refCells_r, ownLen_o]
  refine Ev.c (laws_eqClient_same x0 x1 x2 x3 x4 x5 x6 x7 x8 x9 x10 x11 x12 x13 x14 x15 x16 x17 x18 x19 l4 l5 l19) (Ev.f rfl ?_)
  refine Ev.c ty ?_
  simp only [hdV_c, tlV_c, parts1_a, asInt_i, asBool_b, asStr_s, asLen_f, asCells_f, tupL_t, refCells_r, ownLen_o]
  exact Ev.c (laws_eqClient_same y0 y1 y2 y3 y4 y5 y6 y7 y8 y9 y10 y11 y12 y13 y14 y15 y16 y17 y18 y19 m4 m5 m19) (Ev.f rfl (Ev.now _))


end Go.Proofs.YtiemmlldjjldkaaDoor.FnExactSameClient
