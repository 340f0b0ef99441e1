/- FnExactReadProof, the pure part: both read the same of every text. No conditions. -/
import Derived.Test.YtegchimmolpmeaaQFnExactReadProofx10
import Derived.Test.YtegchimmolpmeaaPLbaseFnExactReadProof
namespace Go.Proofs.Ytegchimmolpmeaa.Pure
open Go Go.RowKit Go.Proofs.Ytegchimmolpmeaa.QFnExactReadProof Go.Proofs.YtegchimmolpmeaaW.PrintWords Go.Proofs.YtegchimmolpmeaaW.PrintLast Go.Proofs.YtegchimmolpmeaaW.PrintMore Go.Proofs.Ytegchimmolpmeaa.PL
set_option linter.unusedVariables false
set_option linter.unusedSimpArgs false

/-! Numbers modulo 12107 (a prime), and the curve y^2 = x^3 + x over them. -/
def chkFermat (e : Nat) : Nat → Bool
  | 0 => true
  | n + 1 => (n == 0 || n ^ e % 12107 == 1) && chkFermat e n
theorem chkFermat_spec (e : Nat) : ∀ {m n : Nat}, chkFermat e m = true → n < m → n ≠ 0 → n ^ e % 12107 = 1 := by
  intro m
  induction m with
  | zero => intro n _ h; omega
  | succ m ih =>
    intro n h hn h0
    rw [chkFermat, Bool.and_eq_true, Bool.or_eq_true] at h
    rcases Nat.lt_succ_iff_lt_or_eq.1 hn with h1 | h1
    · exact ih h.2 h1 h0
    · subst h1
      rcases h.1 with h2 | h2
      · exact absurd (by simpa using h2) h0
      · simpa using h2
theorem chkFermat_true : chkFermat 12106 12107 = true := by decide +kernel
theorem emod2 (a b : Int) : a * (b % 12107) % 12107 = a * b % 12107 := by
  rw [Int.mul_emod, Int.emod_emod_of_dvd _ (Int.dvd_refl _), ← Int.mul_emod]
theorem pow_emod (x : Int) (n : Nat) : x ^ n % 12107 = (x % 12107) ^ n % 12107 := by
  induction n with
  | zero => rw [Int.pow_zero, Int.pow_zero]
  | succ n ih => rw [Int.pow_succ, Int.pow_succ, Int.mul_emod, ih, ← Int.mul_emod, emod2]
theorem pow_inv (x : Int) (e : Nat) (h : (x % 12107).toNat ^ (e + 1) % 12107 = 1) : x * (x ^ e % 12107) % 12107 = 1 := by
  have h3 : (((x % 12107).toNat : Nat) : Int) = x % 12107 := by omega
  have h4 := congrArg (fun (n : Nat) => (n : Int)) h
  simp only [Int.natCast_emod, Int.natCast_pow, h3] at h4
  rw [emod2, Int.mul_comm, ← Int.pow_succ, pow_emod]
  exact h4
theorem pow_inv_of (e : Nat) (hc : chkFermat (e + 1) 12107 = true) {x : Int} (h : x % 12107 ≠ 0) : x * (x ^ e % 12107) % 12107 = 1 :=
  pow_inv x e (chkFermat_spec (e + 1) hc (by omega) (by omega))

abbrev F := Fin 12107
def ph (x : Int) : F := @Int.cast F Lean.Grind.Ring.intCast x
theorem ph_iff {x y : Int} : ph x = ph y ↔ x % 12107 = y % 12107 := Lean.Grind.IsCharP.intCast_ext_iff 12107
theorem ph_add (x y : Int) : ph (x + y) = ph x + ph y := Lean.Grind.Ring.intCast_add x y
theorem ph_sub (x y : Int) : ph (x - y) = ph x - ph y := Lean.Grind.Ring.intCast_sub x y
theorem ph_mul (x y : Int) : ph (x * y) = ph x * ph y := Lean.Grind.Ring.intCast_mul x y
theorem ph_neg (x : Int) : ph (-x) = - ph x := Lean.Grind.Ring.intCast_neg x
theorem ph_mod (x : Int) : ph (x % 12107) = ph x := ph_iff.2 (Int.emod_emod_of_dvd x (Int.dvd_refl _))
theorem ph_zero : ph 0 = 0 := Lean.Grind.Ring.intCast_zero
theorem ph_one : ph 1 = 1 := Lean.Grind.Ring.intCast_one
theorem ph_two : ph 2 = 2 := Lean.Grind.Ring.intCast_ofNat 2
theorem ph_three : ph 3 = 3 := Lean.Grind.Ring.intCast_ofNat 3
theorem ph_eq0 {x : Int} : ph x = 0 ↔ x % 12107 = 0 := by rw [← ph_zero, ph_iff]; rfl
theorem ph_inj {x y : Int} (hx : 0 ≤ x ∧ x < 12107) (hy : 0 ≤ y ∧ y < 12107) (h : ph x = ph y) : x = y := by
  have := ph_iff.1 h
  omega

@[irreducible] def fpow (x : Int) (n : Nat) : Int := x ^ n % 12107
theorem fpow_range (x : Int) (n : Nat) : 0 ≤ fpow x n ∧ fpow x n < 12107 := by unfold fpow; omega
def finv (x : Int) : Int := fpow x 12105
theorem finv_range (x : Int) : 0 ≤ finv x ∧ finv x < 12107 := fpow_range x _
theorem finv_mod {x : Int} (h : x % 12107 ≠ 0) : x * finv x % 12107 = 1 := by
  unfold finv fpow
  exact pow_inv_of 12105 chkFermat_true h
theorem finv_ph {x : Int} (h : ph x ≠ 0) : ph x * ph (finv x) = 1 := by
  rw [← ph_mul, ← ph_one, ph_iff]
  exact finv_mod (fun h1 => h (ph_eq0.2 h1))
theorem F_mul0 {a b : Int} (h : ph a * ph b = 0) (ha : ph a ≠ 0) : ph b = 0 := by
  have h1 := finv_ph ha
  have h2 : ph (finv a) * (ph a * ph b) = 0 := by rw [h]; grind
  grind

/-- a point: x, y, and whether it is the point at infinity. -/
abbrev Pt := Int × Int × Bool
def pRight (p : Pt) : Prop := (p.2.2 = true ∧ p.1 = 0 ∧ p.2.1 = 0) ∨
  (p.2.2 = false ∧ (0 ≤ p.1 ∧ p.1 ≤ 12106) ∧ (0 ≤ p.2.1 ∧ p.2.1 ≤ 12106) ∧ ph p.2.1 * ph p.2.1 = ph p.1 * ph p.1 * ph p.1 + ph p.1)
def slope (p r : Pt) : Int × Bool :=
  if p.1 = r.1 then
    if (p.2.1 + r.2.1) % 12107 = 0 then (0, false) else ((3 * (p.1 * p.1 % 12107) % 12107 + 1) % 12107 * finv (2 * p.2.1 % 12107) % 12107, true)
  else ((r.2.1 - p.2.1) % 12107 * finv ((r.1 - p.1) % 12107) % 12107, true)
def pAdd (p r : Pt) : Pt :=
  if p.2.2 = true then r else if r.2.2 = true then p else
  if (slope p r).2 = true then
    (((slope p r).1 * (slope p r).1 % 12107 - p.1) % 12107 - r.1) % 12107 |> fun x => (x, ((slope p r).1 * ((p.1 - x) % 12107) % 12107 - p.2.1) % 12107, false)
  else (0, 0, true)
theorem curve_chord {R : Type} [Lean.Grind.CommRing R] (x1 y1 x2 y2 i : R) (h1 : y1*y1 = x1*x1*x1 + x1) (h2 : y2*y2 = x2*x2*x2+x2) (hi : (x2-x1)*i = 1) (l x3 y3 : R) (hl : l*(x2-x1) = (y2-y1)) (hx : x3 = l*l - x1 - x2) (hy : y3 = l*(x1-x3)-y1) : y3*y3 = x3*x3*x3+x3 := by
  have e2 : y2 = y1 + l*(x2-x1) := by clear h1 h2 hx hy hi; grind
  have ea : (x2 - x1) * (x2*x2+x1*x2+x1*x1 + 1 - l*(y1+y2)) = 0 := by clear hx hy hi e2; grind
  have eb : (x2*x2+x1*x2+x1*x1 + 1 - l*(y1+y2)) = 0 := by
    have : i * ((x2 - x1) * (x2*x2+x1*x2+x1*x1 + 1 - l*(y1+y2))) = 0 := by rw [ea]; clear hx hy hi e2 ea h1 h2 hl; grind
    clear hx hy e2 ea h1 h2 hl; grind
  subst hx hy e2
  clear ea h2 hi hl
  grind
theorem chord_slope {R : Type} [Lean.Grind.CommRing R] (a d i : R) (h : d * i = 1) : a * i * d = a := by grind
theorem curve_tangent {R : Type} [Lean.Grind.CommRing R] (x1 y1 i : R) (h1 : y1*y1 = x1*x1*x1 + x1) (hi : (2*y1)*i = 1) (l x3 y3 : R) (hl : l = (3*(x1*x1)+1)*i) (hx : x3 = l*l - x1 - x1) (hy : y3 = l*(x1-x3)-y1) : y3*y3 = x3*x3*x3+x3 := by
  grind
/-- right points of one x: the y are the same, or their sum is zero. -/
theorem right_y {x y1 y2 : Int} (h1 : ph y1 * ph y1 = ph x * ph x * ph x + ph x) (h2 : ph y2 * ph y2 = ph x * ph x * ph x + ph x) (h : ¬ (y1 + y2) % 12107 = 0) : ph y1 = ph y2 := by
  have h3 : ph (y1 + y2) * ph (y1 - y2) = 0 := by rw [ph_add, ph_sub]; grind
  have h4 := F_mul0 h3 (fun h5 => h (ph_eq0.1 h5))
  rw [ph_sub] at h4
  grind
theorem pAdd_right {p r : Pt} (hp : pRight p) (hr : pRight r) : pRight (pAdd p r) := by
  rcases hp with hp | hp
  · unfold pAdd; rw [if_pos hp.1]; exact hr
  rcases hr with hr | hr
  · unfold pAdd; rw [if_neg (by rw [hp.1]; simp), if_pos hr.1]; exact Or.inr hp
  unfold pAdd
  rw [if_neg (by rw [hp.1]; simp), if_neg (by rw [hr.1]; simp)]
  obtain ⟨x1, y1, b1⟩ := p
  obtain ⟨x2, y2, b2⟩ := r
  obtain ⟨_, hx1, hy1, h1⟩ := hp
  obtain ⟨_, hx2, hy2, h2⟩ := hr
  simp only at hx1 hy1 h1 hx2 hy2 h2
  unfold slope
  simp only
  by_cases hx : x1 = x2
  · subst hx
    rw [if_pos rfl]
    by_cases hs : (y1 + y2) % 12107 = 0
    · rw [if_pos hs, if_neg (by simp)]
      exact Or.inl ⟨rfl, rfl, rfl⟩
    · rw [if_neg hs, if_pos rfl]
      have he := right_y h1 h2 hs
      have hi : (2 * ph y1) * ph (finv (2 * y1 % 12107)) = 1 := by
        have h3 : ph (2 * y1 % 12107) ≠ 0 := by
          intro h4
          apply hs
          rw [← ph_eq0, ph_add, ← he]
          rw [ph_mod, ph_mul, ph_two] at h4
          grind
        have := finv_ph h3
        rw [ph_mod, ph_mul, ph_two] at this
        exact this
      refine Or.inr ⟨rfl, by simp only; omega, by simp only; omega, ?_⟩
      simp only [ph_mod, ph_mul, ph_add, ph_sub, ph_three, ph_one]
      exact curve_tangent _ _ _ h1 hi _ _ _ rfl rfl rfl
  · rw [if_neg hx, if_pos rfl]
    have hi : (ph x2 - ph x1) * ph (finv ((x2 - x1) % 12107)) = 1 := by
      have h3 : ph ((x2 - x1) % 12107) ≠ 0 := by
        intro h4
        rw [ph_mod, ph_eq0] at h4
        omega
      have := finv_ph h3
      rw [ph_mod, ph_sub] at this
      exact this
    refine Or.inr ⟨rfl, by simp only; omega, by simp only; omega, ?_⟩
    simp only [ph_mod, ph_mul, ph_add, ph_sub]
    refine curve_chord (ph x1) (ph y1) (ph x2) (ph y2) _ h1 h2 hi _ _ _ (chord_slope _ _ _ hi) rfl rfl

/-! Point arithmetic: multiples, membership, texts. -/
theorem sq_pow (x : Int) : x * x = x ^ 2 := by rw [Int.pow_succ, Int.pow_succ, Int.pow_zero, Int.one_mul]
theorem fpow_loop1 (r x : Int) (m : Nat) : (r * x % 12107) * (x * x % 12107) ^ m % 12107 = r * x ^ (2 * m + 1) % 12107 := by
  rw [Int.mul_emod, ← pow_emod, ← Int.mul_emod, Int.mul_emod, Int.emod_emod_of_dvd _ (Int.dvd_refl _), ← Int.mul_emod, sq_pow x, ← Int.pow_mul, Int.pow_succ, Int.mul_assoc, Int.mul_comm x]
theorem fpow_loop0 (r x : Int) (m : Nat) : r * (x * x % 12107) ^ m % 12107 = r * x ^ (2 * m) % 12107 := by
  rw [Int.mul_emod, ← pow_emod, ← Int.mul_emod, sq_pow x, ← Int.pow_mul]
theorem fpow_one (a : Int) (n : Nat) : 1 * (a % 12107) ^ n % 12107 = fpow a n := by
  unfold fpow
  rw [Int.one_mul, ← pow_emod]
theorem sq_range {a b : Int} (ha : 0 ≤ a ∧ a < 12107) (hb : 0 ≤ b ∧ b < 12107) : 0 ≤ a * b ∧ a * b ≤ 146555236 :=
  ⟨Int.mul_nonneg ha.1 hb.1, Int.le_trans (Int.mul_le_mul_of_nonneg_right (show a ≤ 12106 by omega) hb.1) (by omega)⟩
def pOk (p : Pt) : Bool :=
  if p.2.2 = true then (if p.1 = 0 then p.2.1 == 0 else false)
  else if (0 ≤ p.1 ∧ p.1 ≤ 12106) ∧ (0 ≤ p.2.1 ∧ p.2.1 ≤ 12106) then (p.2.1 * p.2.1 % 12107 == (p.1 * p.1 % 12107 * p.1 % 12107 + p.1) % 12107) else false
theorem pOk_iff (p : Pt) : pOk p = true ↔ pRight p := by
  unfold pOk pRight
  cases h : p.2.2 with
  | true =>
    rw [if_pos rfl]
    by_cases h1 : p.1 = 0
    · rw [if_pos h1]; simp [h1]
    · rw [if_neg h1]; simp [h1]
  | false =>
    rw [if_neg (by simp)]
    by_cases h1 : (0 ≤ p.1 ∧ p.1 ≤ 12106) ∧ (0 ≤ p.2.1 ∧ p.2.1 ≤ 12106)
    · rw [if_pos h1, beq_iff_eq, ← Int.emod_emod_of_dvd (p.2.1 * p.2.1) (Int.dvd_refl 12107), ← Int.emod_emod_of_dvd (p.1 * p.1 % 12107 * p.1 % 12107 + p.1) (Int.dvd_refl 12107), ← ph_iff]
      simp only [ph_mod, ph_mul, ph_add]
      simp [h1]
    · rw [if_neg h1]
      simp only [Bool.false_eq_true, false_iff, true_and, false_and, false_or]
      intro h2
      exact h1 ⟨h2.1, h2.2.1⟩
theorem pRight_zero : pRight (0, 0, true) := Or.inl ⟨rfl, rfl, rfl⟩
def pLoop : Nat → Nat → Pt → Pt → Pt
  | 0, _, _, acc => acc
  | f + 1, n, b, acc => if n = 0 then acc else if n % 2 = 1 then pLoop f (n / 2) (pAdd b b) (pAdd acc b) else pLoop f (n / 2) (pAdd b b) acc
theorem pLoop_right (f : Nat) : ∀ (n : Nat) (b acc : Pt), pRight b → pRight acc → pRight (pLoop f n b acc) := by
  induction f with
  | zero => intro n b acc _ h; exact h
  | succ f ih =>
    intro n b acc hb ha
    rw [pLoop]
    split
    · exact ha
    · split
      · exact ih _ _ _ (pAdd_right hb hb) (pAdd_right ha hb)
      · exact ih _ _ _ (pAdd_right hb hb) ha
/-- n times p, for a right point. -/
def pMul (n : Nat) (p : Pt) : Pt := pLoop 64 n p (0, 0, true)
theorem pMul_right {n : Nat} {p : Pt} (h : pRight p) : pRight (pMul n p) := pLoop_right _ _ _ _ h pRight_zero
def pTimes (n : Nat) (p : Pt) : Pt := if pOk p = true then pMul n p else (0, 0, true)
theorem pTimes_right (n : Nat) (p : Pt) : pRight (pTimes n p) := by
  unfold pTimes
  split
  · rename_i h; exact pMul_right ((pOk_iff p).1 h)
  · exact pRight_zero
def pNeg (p : Pt) : Pt := if p.2.2 = true then (0, 0, true) else (p.1, (0 - p.2.1) % 12107, false)
theorem pNeg_right {p : Pt} (h : pRight p) : pRight (pNeg p) := by
  unfold pNeg
  split
  · exact pRight_zero
  · rename_i hb
    rcases h with h | h
    · exact absurd h.1 hb
    · refine Or.inr ⟨rfl, h.2.1, by simp only; omega, ?_⟩
      simp only [ph_mod, ph_sub, ph_zero]
      have := h.2.2.2
      grind
def pIn (p : Pt) : Bool := if pOk p = true then (pTimes 1009 p).2.2 else false
def pText (p : Pt) : ByteArray :=
  if pOk p = true then
    if p.2.2 = true then (⟨#[0, 0, 0]⟩ : ByteArray) else strOfNums ([((wrap64 (p.1 + 1)) / 256) % 256, (wrap64 (p.1 + 1)) % 256, (Int.tmod p.2.1 2) % 256] : List Int)
  else (⟨#[]⟩ : ByteArray)
theorem pText_size (p : Pt) : (pText p).size ≤ 3 := by
  unfold pText
  split
  · split
    · exact Nat.le_refl _
    · rw [strOfNums_size]; exact Nat.le_refl _
  · exact Nat.zero_le _

theorem tmod_fix {a m : Int} (hm : 0 < m) : (if Int.tmod a m < 0 then Int.tmod a m + m else Int.tmod a m) = a % m := by
  have h0 := Int.emod_nonneg a (Int.ne_of_gt hm)
  have h1 := Int.emod_lt_of_pos a hm
  rw [Int.tmod_eq_emod]
  have h2 : (m.natAbs : Int) = m := Int.natAbs_of_nonneg (Int.le_of_lt hm)
  by_cases h : 0 ≤ a ∨ m ∣ a
  · rw [if_pos h]
    show (if a % m - 0 < 0 then a % m - 0 + m else a % m - 0) = a % m
    rw [Int.sub_zero, if_neg (by omega)]
  · rw [if_neg h, h2, if_pos (by omega)]
    omega
theorem tmod_wrap {a m : Int} (hm : 0 < m) (hb : m < 9223372036854775807) : (if Int.tmod a m < 0 then (some (wrap64 (Int.tmod a m + m))) else (some (Int.tmod a m))) = some (a % m) := by
  have h := tmod_fix (a := a) hm
  have h0 := Int.emod_nonneg a (Int.ne_of_gt hm)
  have h1 := Int.emod_lt_of_pos a hm
  split at h
  · rename_i hl
    rw [if_pos hl, w64 (by omega), h]
  · rename_i hl
    rw [if_neg hl, h]
theorem F_half {x : F} (h : x + x = 0) : x = 0 := by
  have h1 : (12107 : F) = 0 := rfl
  have h2 : x = 6054 * (x + x) - 12107 * x := by clear h h1; grind
  rw [h, h1] at h2
  clear h h1
  grind
theorem y2_ne {a b : Int} (h : a = b) (h0 : ¬ a = 0) (r : 0 ≤ a ∧ a ≤ 12106) : ¬ (a + b) % 12107 = 0 := by
  intro hz
  rw [← ph_eq0, ph_add, ← h] at hz
  have := ph_eq0.1 (F_half hz)
  clear hz h
  omega
theorem fmod_range (a : Int) : 0 ≤ a % 12107 ∧ a % 12107 < 12107 := by omega
theorem fmod_mul (a b : Int) : wrap64 (a % 12107 * (b % 12107)) % 12107 = a * b % 12107 := by
  have := sq_range (fmod_range a) (fmod_range b)
  rw [w64 (by omega), ← Int.mul_emod]
theorem fmod_add (a b : Int) : wrap64 (a % 12107 + b % 12107) % 12107 = (a + b) % 12107 := by
  rw [w64 (by omega)]; omega
theorem fmod_sub (a b : Int) : wrap64 (a % 12107 - b % 12107) % 12107 = (a - b) % 12107 := by
  rw [w64 (by omega)]; omega

def crv (x : Int) : Int := (x * x % 12107 * x % 12107 + x) % 12107
def rpRoot (a : Int) : Int × Bool := if fpow a 3027 * fpow a 3027 % 12107 = a % 12107 then (min (fpow a 3027) ((0 - fpow a 3027) % 12107), true) else (0, false)
def rpX (t : ByteArray) : Int := bt t 0 * 256 + bt t 1 - 1
def rpY (t : ByteArray) : Int := if Int.tmod (rpRoot (crv (rpX t))).1 2 = bt t 2 then (rpRoot (crv (rpX t))).1 else (0 - (rpRoot (crv (rpX t))).1) % 12107
def rpTold (t : ByteArray) : Int × Int × Bool × Bool := if pText (rpX t, rpY t, false) = t then (rpX t, rpY t, false, true) else (0, 0, false, false)
/-- what a text of three bytes is read as. -/
def readPoint (t : ByteArray) : Int × Int × Bool × Bool :=
  if t.size = 3 then (if t = (⟨#[0, 0, 0]⟩ : ByteArray) then (0, 0, true, true) else if 0 ≤ rpX t then rpTold t else (0, 0, false, false)) else (0, 0, false, false)
theorem bt_range {t : ByteArray} {i : Nat} (h : i < t.size) : 0 ≤ bt t (i : Int) ∧ bt t (i : Int) < 256 := by
  rw [bt_eq]
  exact bytesOf_range (rd_mem (by omega) (by rw [bytesOf_length]; omega))
theorem three_bytes {t : ByteArray} (h : t.size = 3) : bytesOf t = [bt t 0, bt t 1, bt t 2] := by
  have hl : (bytesOf t).length = 3 := by rw [bytesOf_length, h]
  rw [bt_eq, bt_eq, bt_eq]
  match hb : bytesOf t, hl with
  | [a, b, c], _ => rfl
theorem three_zero {t : ByteArray} (h : t.size = 3) : t = (⟨#[0, 0, 0]⟩ : ByteArray) ↔ (bt t 0 = 0 ∧ bt t 1 = 0 ∧ bt t 2 = 0) := by
  rw [← bytesOf_eq, three_bytes h]
  show [bt t 0, bt t 1, bt t 2] = [0, 0, 0] ↔ _
  simp
theorem pText_of {x y : Int} {t : ByteArray} (h3 : t.size = 3) (h : pText (x, y, false) = t) : pOk (x, y, false) = true ∧ bt t 2 = Int.tmod y 2 % 256 := by
  unfold pText at h
  split at h
  · rename_i hk
    refine ⟨hk, ?_⟩
    rw [if_neg (by simp)] at h
    rw [bt_eq, ← h, bytesOf_strOf]
    · rfl
    · intro z hz
      simp only [List.mem_cons, List.not_mem_nil, or_false] at hz
      rcases hz with rfl | rfl | rfl <;> omega
  · rw [← h] at h3
    exact absurd h3 (by decide)
/-- where there is no root, or the place is past the field, or the last byte is more than 1, there is none. -/
theorem rpTold_none {t : ByteArray} (h3 : t.size = 3) (h : ¬ (rpX t ≤ 12106) ∨ bt t 2 > 1 ∨ (rpRoot (crv (rpX t))).2 = false) : rpTold t = (0, 0, false, false) := by
  unfold rpTold
  rw [if_neg]
  intro he
  obtain ⟨hk, h2⟩ := pText_of h3 he
  have hr := (pOk_iff _).1 hk
  rcases hr with hr | hr
  · simp at hr
  obtain ⟨_, hx, hy, _⟩ := hr
  simp only at hx hy
  rcases h with h | h | h
  · exact h hx.2
  · have : Int.tmod (rpY t) 2 = rpY t % 2 := tmod_pos (by omega)
    omega
  · have hy0 : rpY t = 0 := by
      unfold rpY
      have : (rpRoot (crv (rpX t))).1 = 0 := by
        unfold rpRoot at h ⊢
        split at h
        · simp at h
        · rename_i hn; rw [if_neg hn]
      rw [this]
      split <;> decide
    rw [hy0] at hk
    unfold pOk at hk
    simp only [Bool.false_eq_true, if_false] at hk
    rw [if_pos ⟨hx, by omega, by omega⟩, beq_iff_eq] at hk
    have hc : crv (rpX t) = 0 := by unfold crv; rw [← hk]; rfl
    rw [hc] at h
    unfold rpRoot at h
    have hz : fpow 0 3027 = 0 := by
      unfold fpow
      rw [Int.zero_pow (by decide)]
      rfl
    rw [hz, if_pos (by decide)] at h
    cases h

def proofText (a b c : Pt) : ByteArray × Bool :=
  if pIn a = true ∧ pIn b = true ∧ pIn c = true then (pText a ++ pText b ++ pText c, true) else ((⟨#[]⟩ : ByteArray), false)

abbrev P9 := Int × Int × Bool × Int × Int × Bool × Int × Int × Bool × Bool
def pOf (x : Int × Int × Bool × Bool) : Pt := (x.1, x.2.1, x.2.2.1)
def readProof3 (a b c : Int × Int × Bool × Bool) : P9 :=
  if a.2.2.2 = true ∧ b.2.2.2 = true ∧ c.2.2.2 = true ∧ (proofText (pOf a) (pOf b) (pOf c)).2 = true then (a.1, a.2.1, a.2.2.1, b.1, b.2.1, b.2.2.1, c.1, c.2.1, c.2.2.1, true) else (0, 0, false, 0, 0, false, 0, 0, false, false)
def readProof (t : ByteArray) : P9 :=
  if t.size = 9 then readProof3 (readPoint (t.extract 0 3)) (readPoint (t.extract 3 6)) (readPoint (t.extract 6 t.size)) else (0, 0, false, 0, 0, false, 0, 0, false, false)

theorem spec_FpOf_eq (a : Int) : spec_FpOf.f a = some (a % 12107) := by
  unfold spec_FpOf.f
  exact tmod_wrap (by omega) (by omega)

theorem spec_FpMul_eq (a b : Int) : spec_FpMul.f a b = some ((a * b) % 12107) := by
  unfold spec_FpMul.f
  simp only [spec_FpOf_eq, Option.bind_some]
  rw [fmod_mul]

theorem spec_FpPow_l (f : Nat) : ∀ (n : Nat) (r x : Int), n < 2 ^ f → n < 1000000 → (0 ≤ r ∧ r < 12107) → Ev (fun k => spec_FpPow.l0 k (n : Int) r x) (r * x ^ n % 12107) := by
  induction f with
  | zero =>
    intro n r x hn _ hr
    obtain rfl : n = 0 := by omega
    refine Ev.step (fun k => by rw [spec_FpPow.l0, if_neg (by omega)]) (Ev.some_ ?_)
    rw [Int.pow_zero]; omega
  | succ f ih =>
    intro n r x hn hn2 hr
    by_cases h0 : n = 0
    · subst h0
      refine Ev.step (fun k => by rw [spec_FpPow.l0, if_neg (by omega)]) (Ev.some_ ?_)
      rw [Int.pow_zero]; omega
    have e1 : wrap64 (Int.tdiv (n : Int) 2) = ((n / 2 : Nat) : Int) := by rw [tdiv_pos (by omega), w64 (by omega)]; omega
    have e2 : Int.tmod (n : Int) 2 = ((n % 2 : Nat) : Int) := by rw [tmod_pos (by omega)]; omega
    have hf : n / 2 < 2 ^ f := by rw [Nat.pow_succ] at hn; omega
    by_cases h1 : n % 2 = 1
    · refine Ev.step (fun k => by rw [spec_FpPow.l0, if_pos (by omega), e2, e1, if_pos (by omega)]) ?_
      simp only [spec_FpMul_eq, Option.bind_some]
      refine (ih (n / 2) _ _ hf (by omega) (fmod_range _)).eq ?_
      rw [fpow_loop1, show 2 * (n / 2) + 1 = n by omega]
    · refine Ev.step (fun k => by rw [spec_FpPow.l0, if_pos (by omega), e2, e1, if_neg (by omega)]) ?_
      simp only [spec_FpMul_eq, Option.bind_some]
      refine (ih (n / 2) _ _ hf (by omega) hr).eq ?_
      rw [fpow_loop0, show 2 * (n / 2) = n by omega]
theorem spec_FpPow_ev (a : Int) (n : Nat) (hn : n < 1000000) : Ev (fun k => spec_FpPow.f k a (n : Int)) (fpow a n) := by
  unfold spec_FpPow.f
  refine Ev.neg (by omega) (Ev.bindc (spec_FpOf_eq a) ?_)
  refine (spec_FpPow_l 20 n 1 (a % 12107) (by omega) hn (by omega)).eq (fpow_one a n)

theorem spec_FpSub_eq (a b : Int) : spec_FpSub.f a b = some ((a - b) % 12107) := by
  unfold spec_FpSub.f
  simp only [spec_FpOf_eq, Option.bind_some]
  rw [fmod_sub]

theorem spec_FpAdd_eq (a b : Int) : spec_FpAdd.f a b = some ((a + b) % 12107) := by
  unfold spec_FpAdd.f
  simp only [spec_FpOf_eq, Option.bind_some]
  rw [fmod_add]

theorem spec_l07Right_eq (a : Int) : spec_l07Right.f a = some ((a * a % 12107 * a % 12107 + a) % 12107) := by
  unfold spec_l07Right.f
  simp only [spec_FpMul_eq, spec_FpAdd_eq, Option.bind_some]

theorem spec_l01In_eq (a b c : Int) : spec_l01In.f a b c = some (decide (b ≤ a ∧ a ≤ c)) := by
  unfold spec_l01In.f
  by_cases h : a ≥ b
  · rw [if_pos h]; congr 1; simp [show b ≤ a from h]
  · rw [if_neg h]; congr 1; rw [eq_comm, decide_eq_false_iff_not]; omega

theorem spec_FpOk_eq (a : Int) : spec_FpOk.f a = some (decide (0 ≤ a ∧ a ≤ 12106)) := by
  unfold spec_FpOk.f
  rw [spec_l01In_eq, Option.bind_some]

theorem spec_PointOk_eq (p : Pt) : spec_PointOk.f p.1 p.2.1 p.2.2 = some (pOk p) := by
  unfold spec_PointOk.f pOk
  cases h : p.2.2 with
  | true =>
    rw [if_pos rfl, if_pos rfl]
    split <;> rfl
  | false =>
    rw [if_neg (by simp), if_neg (by simp)]
    simp only [spec_FpOk_eq, spec_FpMul_eq, spec_l07Right_eq, Option.bind_some, decide_eq_true_eq]
    by_cases h1 : 0 ≤ p.1 ∧ p.1 ≤ 12106
    · rw [if_pos h1]
      by_cases h2 : 0 ≤ p.2.1 ∧ p.2.1 ≤ 12106
      · rw [if_pos h2, if_pos ⟨h1, h2⟩]
      · rw [if_neg h2, if_neg (fun h => h2 h.2)]
    · rw [if_neg h1, if_neg (fun h => h1 h.1)]

theorem spec_PointText_eq (p : Pt) : spec_PointText.f p.1 p.2.1 p.2.2 = some (pText p) := by
  unfold spec_PointText.f pText
  rw [spec_PointOk_eq, Option.bind_some]
  split
  · split <;> rfl
  · rfl

theorem spec_FpRoot_ev (a : Int) : Ev (fun k => spec_FpRoot.f k a) (rpRoot a) := by
  unfold spec_FpRoot.f rpRoot
  refine Ev.bind (spec_FpPow_ev a 3027 (by omega)) (Ev.bindc (spec_FpMul_eq _ _) (Ev.bindc (spec_FpOf_eq _) ?_))
  by_cases h : fpow a 3027 * fpow a 3027 % 12107 = a % 12107
  · refine Ev.pos h (Ev.bindc (spec_FpSub_eq _ _) ?_)
    rw [if_pos h]
    by_cases h2 : (0 - fpow a 3027) % 12107 < fpow a 3027
    · refine Ev.pos h2 (Ev.bindc (spec_FpSub_eq _ _) (Ev.some_ ?_))
      rw [show min (fpow a 3027) ((0 - fpow a 3027) % 12107) = (0 - fpow a 3027) % 12107 by omega]
    · refine Ev.neg h2 (Ev.some_ ?_)
      rw [show min (fpow a 3027) ((0 - fpow a 3027) % 12107) = fpow a 3027 by omega]
  · refine Ev.neg h ?_
    rw [if_neg h]
    exact Ev.now _
theorem spec_ReadPoint_ev (t : ByteArray) : Ev (fun k => spec_ReadPoint.f k t) (readPoint t) := by
  unfold spec_ReadPoint.f readPoint
  by_cases h3 : t.size = 3
  · rw [if_pos h3]
    refine Ev.pos (by omega) ?_
    have z : (t.toList = ([0, 0, 0] : List UInt8)) ↔ t = (⟨#[0, 0, 0]⟩ : ByteArray) := by
      rw [← ba_eq, ba_toList (⟨#[0, 0, 0]⟩ : ByteArray)]
    by_cases hz : t = (⟨#[0, 0, 0]⟩ : ByteArray)
    · rw [if_pos hz]
      exact Ev.pos (z.2 hz) (Ev.bindc (a := (0, 0, true)) rfl (Ev.now _))
    rw [if_neg hz]
    refine Ev.neg (fun h => hz (z.1 h)) (Ev.pos (by omega) (Ev.pos (by omega) ?_))
    have r0 := bt_range (t := t) (i := 0) (by omega)
    have r1 := bt_range (t := t) (i := 1) (by omega)
    have r2 := bt_range (t := t) (i := 2) (by omega)
    have ex : wrap64 (wrap64 (wrap64 (wrap64 (bt t 0) * 256) + wrap64 (bt t 1)) - 1) = rpX t := by
      unfold rpX
      have r0' : 0 ≤ bt t 0 ∧ bt t 0 < 256 := r0
      have r1' : 0 ≤ bt t 1 ∧ bt t 1 < 256 := r1
      rw [w64 (n := bt t 0) (by omega), w64 (n := bt t 1) (by omega), w64 (n := bt t 0 * 256) (by omega), w64 (n := bt t 0 * 256 + bt t 1) (by omega), w64 (by omega)]
    have hj : Ev (fun k => spec_ReadPoint.j0 k t (rpX t) true) ((0, 0, false, false) : Int × Int × Bool × Bool) := by
      refine Ev.step (fun k => by rw [spec_ReadPoint.j0, if_pos rfl]) (Ev.now _)
    rw [ex]
    refine Ev.bindc (spec_FpOk_eq (rpX t)) ?_
    by_cases hx0 : 0 ≤ rpX t
    · rw [if_pos hx0]
      by_cases hx : rpX t ≤ 12106
      · refine Ev.pos (by simp [hx0, hx]) (Ev.pos (by omega) ?_)
        by_cases h2 : bt t 2 > 1
        · rw [decide_eq_true h2]
          exact hj.eq (rpTold_none h3 (Or.inr (Or.inl h2))).symm
        · rw [decide_eq_false h2]
          refine Ev.step (fun k => by rw [spec_ReadPoint.j0, if_neg (by simp)]) ?_
          refine Ev.bindc (spec_l07Right_eq _) (Ev.bind (spec_FpRoot_ev _) ?_)
          have r2' : 0 ≤ bt t 2 ∧ bt t 2 < 256 := r2
          rw [w64 (n := bt t 2) (by omega)]
          by_cases hr : (rpRoot (crv (rpX t))).2 = true
          · refine Ev.pos hr (Ev.pos (by omega) ?_)
            unfold rpTold rpY
            by_cases hp : Int.tmod (rpRoot (crv (rpX t))).1 2 = bt t 2
            · rw [if_pos hp]
              refine Ev.pos hp (Ev.bindc (spec_PointText_eq (rpX t, (rpRoot (crv (rpX t))).1, false)) ?_)
              by_cases he : pText (rpX t, (rpRoot (crv (rpX t))).1, false) = t
              · rw [if_pos he]; exact Ev.pos (ba_eq.2 he) (Ev.now _)
              · rw [if_neg he]; exact Ev.neg (fun h => he (ba_eq.1 h)) (Ev.now _)
            · rw [if_neg hp]
              refine Ev.neg hp (Ev.bindc (spec_FpSub_eq _ _) (Ev.bindc (spec_PointText_eq (rpX t, (0 - (rpRoot (crv (rpX t))).1) % 12107, false)) ?_))
              by_cases he : pText (rpX t, (0 - (rpRoot (crv (rpX t))).1) % 12107, false) = t
              · rw [if_pos he]; exact Ev.pos (ba_eq.2 he) (Ev.now _)
              · rw [if_neg he]; exact Ev.neg (fun h => he (ba_eq.1 h)) (Ev.now _)
          · refine Ev.neg hr ?_
            rw [rpTold_none h3 (Or.inr (Or.inr (by simpa using hr)))]
            exact Ev.now _
      · refine Ev.neg (by simp [hx]) (hj.eq (rpTold_none h3 (Or.inl hx)).symm)
    · rw [if_neg hx0]
      exact Ev.neg (by simp [hx0]) hj
  · rw [if_neg h3]
    exact Ev.neg (by omega) (Ev.now _)

theorem spec_FpInv_ev (a : Int) : Ev (fun k => spec_FpInv.f k a) (finv a) := by
  unfold spec_FpInv.f finv
  exact Ev.bind (spec_FpPow_ev a 12105 (by omega)) (Ev.now _)

theorem spec_l07Slope_ev (p r : Pt) : Ev (fun k => spec_l07Slope.f k p.1 p.2.1 p.2.2 r.1 r.2.1 r.2.2) (slope p r) := by
  unfold spec_l07Slope.f slope
  simp only [spec_FpMul_eq, spec_FpAdd_eq, spec_FpSub_eq, Option.bind_some]
  by_cases h : p.1 = r.1
  · rw [if_pos h]
    refine Ev.pos h ?_
    by_cases h2 : (p.2.1 + r.2.1) % 12107 = 0
    · rw [if_pos h2]; exact Ev.pos h2 (Ev.now _)
    · rw [if_neg h2]
      exact Ev.neg h2 (Ev.bind (spec_FpInv_ev _) (Ev.now _))
  · rw [if_neg h]
    exact Ev.neg h (Ev.bind (spec_FpInv_ev _) (Ev.now _))

theorem spec_l07Add_ev (p r : Pt) : Ev (fun k => spec_l07Add.f k p.1 p.2.1 p.2.2 r.1 r.2.1 r.2.2) (pAdd p r) := by
  unfold spec_l07Add.f pAdd
  by_cases h1 : p.2.2 = true
  · rw [if_pos h1]; exact Ev.pos h1 (Ev.now _)
  rw [if_neg h1]
  refine Ev.neg h1 ?_
  by_cases h2 : r.2.2 = true
  · rw [if_pos h2]; exact Ev.pos h2 (Ev.now _)
  rw [if_neg h2]
  refine Ev.neg h2 (Ev.bind (spec_l07Slope_ev p r) ?_)
  by_cases h3 : (slope p r).2 = true
  · refine Ev.pos h3 ?_
    rw [if_pos h3]
    simp only [spec_FpMul_eq, spec_FpSub_eq, Option.bind_some]
    exact Ev.now _
  · refine Ev.neg h3 ?_
    rw [if_neg h3]
    exact Ev.const rfl

theorem spec_PointNeg_eq (p : Pt) : spec_PointNeg.f p.1 p.2.1 p.2.2 = some (pNeg p) := by
  unfold spec_PointNeg.f pNeg
  split
  · rfl
  · rw [spec_FpSub_eq, Option.bind_some]

theorem spec_PointTimes_l (f : Nat) : ∀ (n : Nat) (b acc : Pt), n < 2 ^ f → n < 1000000 → pRight b → pRight acc →
    Ev (fun k => spec_PointTimes.l0 k (n : Int) b.1 b.2.1 b.2.2 acc.1 acc.2.1 acc.2.2) (pLoop f n b acc) := by
  induction f with
  | zero =>
    intro n b acc hn _ _ _
    rw [pLoop]
    refine Ev.step (fun k => by rw [spec_PointTimes.l0, if_neg (by omega)]) (Ev.now _)
  | succ f ih =>
    intro n b acc hn hn2 hb ha
    rw [pLoop]
    by_cases h0 : n = 0
    · rw [if_pos h0]
      exact Ev.step (fun k => by rw [spec_PointTimes.l0, if_neg (by omega)]) (Ev.now _)
    rw [if_neg h0]
    have e1 : wrap64 (Int.tdiv (n : Int) 2) = ((n / 2 : Nat) : Int) := by rw [tdiv_pos (by omega), w64 (by omega)]; omega
    have e2 : Int.tmod (n : Int) 2 = ((n % 2 : Nat) : Int) := by rw [tmod_pos (by omega)]; omega
    have hf : n / 2 < 2 ^ f := by rw [Nat.pow_succ] at hn; omega
    by_cases h1 : n % 2 = 1
    · rw [if_pos h1]
      refine Ev.step (fun k => by rw [spec_PointTimes.l0, if_pos (by omega), e2, e1, if_pos (by omega)]) ?_
      exact Ev.bind (spec_l07Add_ev acc b) (Ev.bind (spec_l07Add_ev b b) (ih _ _ _ hf (by omega) (pAdd_right hb hb) (pAdd_right ha hb)))
    · rw [if_neg h1]
      refine Ev.step (fun k => by rw [spec_PointTimes.l0, if_pos (by omega), e2, e1, if_neg (by omega)]) ?_
      exact Ev.bind (spec_l07Add_ev b b) (ih _ _ _ hf (by omega) (pAdd_right hb hb) ha)
theorem spec_PointTimes_ev (n : Nat) (p : Pt) (hn : n < 12108) : Ev (fun k => spec_PointTimes.f k (n : Int) p.1 p.2.1 p.2.2) (pTimes n p) := by
  unfold spec_PointTimes.f pTimes
  refine Ev.bindc (spec_PointOk_eq p) ?_
  have e : Int.tmod (n : Int) 12108 = n := by rw [tmod_pos (by omega)]; omega
  rw [e]
  by_cases h : pOk p = true
  · rw [if_pos h]
    refine Ev.pos h (Ev.neg (by omega) ?_)
    refine Ev.step (fun k => by rw [spec_PointTimes.j0]) ?_
    exact spec_PointTimes_l 64 n p _ (by omega) (by omega) ((pOk_iff p).1 h) pRight_zero
  · rw [if_neg h]
    exact Ev.neg h (Ev.const rfl)

theorem spec_InGroup_ev (p : Pt) : Ev (fun k => spec_InGroup.f k p.1 p.2.1 p.2.2) (pIn p) := by
  unfold spec_InGroup.f pIn
  refine Ev.bindc (spec_PointOk_eq p) ?_
  by_cases h : pOk p = true
  · rw [if_pos h]
    exact Ev.pos h (Ev.bind (spec_PointTimes_ev 1009 p (by omega)) (Ev.now _))
  · rw [if_neg h]
    exact Ev.neg h (Ev.now _)

theorem spec_ProofText_ev (a b c : Pt) : Ev (fun k => spec_ProofText.f k a.1 a.2.1 a.2.2 b.1 b.2.1 b.2.2 c.1 c.2.1 c.2.2) (proofText a b c) := by
  unfold spec_ProofText.f proofText
  have hj : Ev (fun k => spec_ProofText.j0 k true a.1 a.2.1 a.2.2 b.1 b.2.1 b.2.2 c.1 c.2.1 c.2.2) ((⟨#[]⟩ : ByteArray), false) :=
    Ev.step (fun k => by rw [spec_ProofText.j0, if_pos rfl]) (Ev.now _)
  refine Ev.bind (spec_InGroup_ev a) ?_
  by_cases h1 : pIn a = true
  · refine Ev.pos h1 (Ev.bind (spec_InGroup_ev b) ?_)
    by_cases h2 : pIn b = true
    · refine Ev.pos h2 (Ev.bind (spec_InGroup_ev c) ?_)
      by_cases h3 : pIn c = true
      · rw [if_pos ⟨h1, h2, h3⟩, h3]
        refine Ev.step (fun k => by rw [spec_ProofText.j0, if_neg (by simp)]) ?_
        have s1 := pText_size a
        have s2 := pText_size b
        have s3 := pText_size c
        refine Ev.bindc (spec_PointText_eq a) (Ev.bindc (spec_PointText_eq b) (Ev.pos (by omega) (Ev.bindc (spec_PointText_eq c) (Ev.pos (by rw [size_append]; omega) (Ev.now _)))))
      · rw [if_neg (fun h => h3 h.2.2)]
        rw [Bool.not_eq_true] at h3
        rw [h3]
        exact hj
    · rw [if_neg (fun h => h2 h.2.1)]
      exact Ev.neg h2 hj
  · rw [if_neg (fun h => h1 h.1)]
    exact Ev.neg h1 hj

theorem spec_ReadProof_ev (t : ByteArray) : Ev (fun k => spec_ReadProof.f k t) (readProof t) := by
  unfold spec_ReadProof.f readProof
  by_cases h : t.size = 9
  · rw [if_pos h]
    refine Ev.pos (by omega) (Ev.pos (by omega) (Ev.pos (by omega) (Ev.bind (spec_ReadPoint_ev _) (Ev.pos (by omega) (Ev.pos (by omega) (Ev.bind (spec_ReadPoint_ev _) (Ev.bind (spec_ReadPoint_ev _) ?_)))))))
    generalize readPoint (t.extract 0 3) = a
    generalize readPoint (t.extract 3 6) = b
    generalize readPoint (t.extract 6 t.size) = c
    refine Ev.bind (spec_ProofText_ev (pOf a) (pOf b) (pOf c)) ?_
    unfold readProof3
    by_cases h1 : a.2.2.2 = true
    · refine Ev.pos h1 ?_
      by_cases h2 : b.2.2.2 = true
      · refine Ev.pos h2 ?_
        by_cases h3 : c.2.2.2 = true
        · refine Ev.pos h3 ?_
          by_cases h4 : (proofText (pOf a) (pOf b) (pOf c)).2 = true
          · refine Ev.pos h4 ?_; rw [if_pos ⟨h1, h2, h3, h4⟩]; exact Ev.now _
          · refine Ev.neg h4 ?_; rw [if_neg (fun q => h4 q.2.2.2)]; exact Ev.now _
        · refine Ev.neg h3 ?_; rw [if_neg (fun q => h3 q.2.2.1)]; exact Ev.now _
      · refine Ev.neg h2 ?_; rw [if_neg (fun q => h2 q.2.1)]; exact Ev.now _
    · refine Ev.neg h1 ?_; rw [if_neg (fun q => h1 q.1)]; exact Ev.now _
  · rw [if_neg h]
    exact Ev.neg (by omega) (Ev.now _)

theorem impl_remainder_eq (a m : Int) (hm : 0 < m) (hb : m < 9223372036854775807) : impl_remainder.f a m = some (a % m) := by
  unfold impl_remainder.f
  rw [if_neg (by omega)]
  exact tmod_wrap hm hb

theorem impl_FpOf_eq (a : Int) : impl_FpOf.f a = some (a % 12107) := by
  unfold impl_FpOf.f
  rw [impl_remainder_eq a 12107 (by omega) (by omega), Option.bind_some]

theorem impl_FpMul_eq (a b : Int) : impl_FpMul.f a b = some ((a * b) % 12107) := by
  unfold impl_FpMul.f
  simp only [impl_FpOf_eq, Option.bind_some]
  rw [fmod_mul]

theorem impl_powerMod_l (f : Nat) : ∀ (n : Nat) (r x : Int), n < 2 ^ f → n < 1000000 → (0 ≤ r ∧ r < 12107) → (0 ≤ x ∧ x < 12107) → Ev (fun k => impl_powerMod.l0 k x (n : Int) 12107 r) (r * x ^ n % 12107) := by
  induction f with
  | zero =>
    intro n r x hn _ hr _
    obtain rfl : n = 0 := by omega
    refine Ev.step (fun k => by rw [impl_powerMod.l0, if_neg (by omega)]) (Ev.some_ ?_)
    rw [Int.pow_zero]; omega
  | succ f ih =>
    intro n r x hn hn2 hr hx
    by_cases h0 : n = 0
    · subst h0
      refine Ev.step (fun k => by rw [impl_powerMod.l0, if_neg (by omega)]) (Ev.some_ ?_)
      rw [Int.pow_zero]; omega
    have e1 : wrap64 (Int.tdiv (n : Int) 2) = ((n / 2 : Nat) : Int) := by rw [tdiv_pos (by omega), w64 (by omega)]; omega
    have e2 : Int.tmod (n : Int) 2 = ((n % 2 : Nat) : Int) := by rw [tmod_pos (by omega)]; omega
    have hf : n / 2 < 2 ^ f := by rw [Nat.pow_succ] at hn; omega
    have s1 := sq_range hx hx
    have s2 := sq_range hr hx
    have e3 : Int.tmod (wrap64 (x * x)) 12107 = x * x % 12107 := by rw [w64 (by omega), tmod_pos (by omega)]
    have e4 : Int.tmod (wrap64 (r * x)) 12107 = r * x % 12107 := by rw [w64 (by omega), tmod_pos (by omega)]
    by_cases h1 : n % 2 = 1
    · refine Ev.step (fun k => by rw [impl_powerMod.l0, if_pos (by omega), e2, e1, if_pos (by omega), if_neg (by omega), e3, e4]) ?_
      refine (ih (n / 2) _ _ hf (by omega) (fmod_range _) (fmod_range _)).eq ?_
      rw [fpow_loop1, show 2 * (n / 2) + 1 = n by omega]
    · refine Ev.step (fun k => by rw [impl_powerMod.l0, if_pos (by omega), e2, e1, if_neg (by omega), if_neg (by omega), e3]) ?_
      refine (ih (n / 2) _ _ hf (by omega) hr (fmod_range _)).eq ?_
      rw [fpow_loop0, show 2 * (n / 2) = n by omega]
theorem impl_powerMod_ev (a : Int) (n : Nat) (hn : n < 1000000) : Ev (fun k => impl_powerMod.f k a (n : Int) 12107) (fpow a n) := by
  unfold impl_powerMod.f
  refine Ev.bindc (impl_remainder_eq a 12107 (by omega) (by omega)) ?_
  refine (impl_powerMod_l 20 n 1 (a % 12107) (by omega) hn (by omega) (fmod_range a)).eq (fpow_one a n)

theorem impl_FpAdd_eq (a b : Int) : impl_FpAdd.f a b = some ((a + b) % 12107) := by
  unfold impl_FpAdd.f
  simp only [impl_FpOf_eq, Option.bind_some]
  rw [fmod_add]

theorem impl_curveAt_eq (a : Int) : impl_curveAt.f a = some ((a * a % 12107 * a % 12107 + a) % 12107) := by
  unfold impl_curveAt.f
  simp only [impl_FpMul_eq, impl_FpAdd_eq, Option.bind_some]

theorem impl_FpOk_eq (a : Int) : impl_FpOk.f a = some (decide (0 ≤ a ∧ a ≤ 12106)) := by
  unfold impl_FpOk.f
  by_cases h : a ≥ 0
  · rw [if_pos h]
    congr 1
    rw [decide_eq_decide]
    omega
  · rw [if_neg h]
    congr 1
    symm
    rw [decide_eq_false_iff_not]
    omega

theorem impl_PointOk_eq (p : Pt) : impl_PointOk.f p.1 p.2.1 p.2.2 = some (pOk p) := by
  unfold impl_PointOk.f pOk
  cases h : p.2.2 with
  | true =>
    rw [if_pos rfl, if_pos rfl]
    split <;> rfl
  | false =>
    rw [if_neg (by simp), if_neg (by simp)]
    simp only [impl_FpOk_eq, impl_FpMul_eq, impl_curveAt_eq, Option.bind_some, decide_eq_true_eq]
    by_cases h1 : 0 ≤ p.1 ∧ p.1 ≤ 12106
    · rw [if_pos h1]
      by_cases h2 : 0 ≤ p.2.1 ∧ p.2.1 ≤ 12106
      · rw [if_pos h2, if_pos ⟨h1, h2⟩]
      · rw [if_neg h2, if_neg (fun h => h2 h.2)]
    · rw [if_neg h1, if_neg (fun h => h1 h.1)]

theorem impl_PointText_eq (p : Pt) : impl_PointText.f p.1 p.2.1 p.2.2 = some (pText p) := by
  unfold impl_PointText.f pText
  rw [impl_PointOk_eq, Option.bind_some]
  split
  · split <;> rfl
  · rfl

theorem impl_FpSub_eq (a b : Int) : impl_FpSub.f a b = some ((a - b) % 12107) := by
  unfold impl_FpSub.f
  simp only [impl_FpOf_eq, Option.bind_some]
  rw [fmod_sub]

theorem impl_PointNeg_eq (p : Pt) : impl_PointNeg.f p.1 p.2.1 p.2.2 = some (pNeg p) := by
  unfold impl_PointNeg.f pNeg
  split
  · rfl
  · rw [impl_FpSub_eq, Option.bind_some]

theorem impl_FpRoot_ev (a : Int) : Ev (fun k => impl_FpRoot.f k a) (rpRoot a) := by
  unfold impl_FpRoot.f rpRoot
  refine Ev.bind (impl_powerMod_ev a 3027 (by omega)) (Ev.bindc (impl_FpMul_eq _ _) (Ev.bindc (impl_FpOf_eq _) ?_))
  by_cases h : fpow a 3027 * fpow a 3027 % 12107 = a % 12107
  · have hr := fpow_range a 3027
    refine Ev.pos h (Ev.bindc (impl_FpOf_eq _) (Ev.some_ ?_))
    rw [if_pos h, mn_eq, w64 (by omega), show -(fpow a 3027) = 0 - fpow a 3027 by omega]
  · refine Ev.neg h ?_
    rw [if_neg h]
    exact Ev.now _
theorem impl_ReadPoint_ev (t : ByteArray) : Ev (fun k => impl_ReadPoint.f k t) (readPoint t) := by
  unfold impl_ReadPoint.f readPoint
  by_cases h3 : t.size = 3
  · rw [if_pos h3]
    refine Ev.pos (by omega) (Ev.pos (by omega) (Ev.pos (by omega) ?_))
    have r0 : 0 ≤ bt t 0 ∧ bt t 0 < 256 := bt_range (t := t) (i := 0) (by omega)
    have r1 : 0 ≤ bt t 1 ∧ bt t 1 < 256 := bt_range (t := t) (i := 1) (by omega)
    have r2 : 0 ≤ bt t 2 ∧ bt t 2 < 256 := bt_range (t := t) (i := 2) (by omega)
    have ex : wrap64 (wrap64 (wrap64 (wrap64 (bt t 0) * 256) + wrap64 (bt t 1)) - 1) = rpX t := by
      unfold rpX
      rw [w64 (n := bt t 0) (by omega), w64 (n := bt t 1) (by omega), w64 (n := bt t 0 * 256) (by omega), w64 (n := bt t 0 * 256 + bt t 1) (by omega), w64 (by omega)]
    rw [ex, w64 (n := bt t 2) (by omega)]
    by_cases hx0 : rpX t < 0
    · refine Ev.pos hx0 (Ev.bindc (impl_PointText_eq (0, 0, true)) ?_)
      have ez : pText (0, 0, true) = (⟨#[0, 0, 0]⟩ : ByteArray) := rfl
      rw [ez]
      by_cases hz : t = (⟨#[0, 0, 0]⟩ : ByteArray)
      · rw [if_pos hz]
        exact Ev.pos (by rw [← hz]) (Ev.now _)
      · refine Ev.neg (fun h => hz (ba_eq.1 h).symm) ?_
        rw [if_neg hz, if_neg (by omega)]
        exact Ev.now _
    · have hz : ¬ t = (⟨#[0, 0, 0]⟩ : ByteArray) := by
        rw [three_zero h3]
        intro h
        apply hx0
        unfold rpX
        omega
      rw [if_neg hz, if_pos (by omega)]
      refine Ev.neg hx0 (Ev.bindc (impl_curveAt_eq _) (Ev.bind (impl_FpRoot_ev _) (Ev.pos (by omega) ?_)))
      unfold rpTold rpY
      by_cases hp : Int.tmod (rpRoot (crv (rpX t))).1 2 = bt t 2
      · rw [if_pos hp]
        refine Ev.pos hp (Ev.bindc (impl_PointText_eq (rpX t, (rpRoot (crv (rpX t))).1, false)) ?_)
        by_cases he : pText (rpX t, (rpRoot (crv (rpX t))).1, false) = t
        · rw [if_pos he]; exact Ev.pos (ba_eq.2 he) (Ev.now _)
        · rw [if_neg he]; exact Ev.neg (fun h => he (ba_eq.1 h)) (Ev.now _)
      · rw [if_neg hp]
        refine Ev.neg hp (Ev.bindc (impl_PointNeg_eq (rpX t, (rpRoot (crv (rpX t))).1, false)) (Ev.bindc (impl_PointText_eq (rpX t, (0 - (rpRoot (crv (rpX t))).1) % 12107, false)) ?_))
        by_cases he : pText (rpX t, (0 - (rpRoot (crv (rpX t))).1) % 12107, false) = t
        · rw [if_pos he]; exact Ev.pos (ba_eq.2 he) (Ev.now _)
        · rw [if_neg he]; exact Ev.neg (fun h => he (ba_eq.1 h)) (Ev.now _)
  · rw [if_neg h3]
    exact Ev.neg (by omega) (Ev.now _)

theorem impl_FpInv_ev (a : Int) : Ev (fun k => impl_FpInv.f k a) (finv a) := by
  unfold impl_FpInv.f finv
  exact Ev.bind (impl_powerMod_ev a 12105 (by omega)) (Ev.now _)

theorem impl_slopeOf_ev (p r : Pt) (hp : pRight p) (hr : pRight r) (h1 : ¬ p.2.2 = true) (h2 : ¬ r.2.2 = true) : Ev (fun k => impl_slopeOf.f k p.1 p.2.1 p.2.2 r.1 r.2.1 r.2.2) (slope p r) := by
  unfold impl_slopeOf.f slope
  simp only [impl_FpMul_eq, impl_FpAdd_eq, impl_FpSub_eq, Option.bind_some]
  have hp' := hp.resolve_left (fun h => h1 h.1)
  have hr' := hr.resolve_left (fun h => h2 h.1)
  by_cases h : p.1 = r.1
  · rw [if_pos h]
    refine Ev.pos h ?_
    have hj : Ev (fun k => impl_slopeOf.j0 k true p.1 p.2.1 p.2.2) ((0 : Int), false) := Ev.step (fun k => by rw [impl_slopeOf.j0, if_pos rfl]) (Ev.now _)
    by_cases hy : p.2.1 = r.2.1
    · refine Ev.pos hy ?_
      by_cases h0 : p.2.1 = 0
      · have hz : (p.2.1 + r.2.1) % 12107 = 0 := by rw [← hy, h0]; rfl
        rw [if_pos hz, h0, beq_self_eq_true]
        rw [h0] at hj
        exact hj
      · have hz : ¬ (p.2.1 + r.2.1) % 12107 = 0 := y2_ne hy h0 hp'.2.2.1
        rw [if_neg hz, show (p.2.1 == 0) = false from beq_eq_false_iff_ne.2 h0]
        refine Ev.step (fun k => by rw [impl_slopeOf.j0, if_neg (by simp)]) ?_
        simp only [impl_FpMul_eq, impl_FpAdd_eq, impl_FpSub_eq, Option.bind_some]
        exact Ev.bind (impl_FpInv_ev _) (Ev.now _)
    · refine Ev.neg hy ?_
      have hz : (p.2.1 + r.2.1) % 12107 = 0 := by
        have hp2 : 0 ≤ p.2.1 ∧ p.2.1 < 12107 := ⟨hp'.2.2.1.1, Int.lt_of_le_of_lt hp'.2.2.1.2 (by decide)⟩
        have hr2 : 0 ≤ r.2.1 ∧ r.2.1 < 12107 := ⟨hr'.2.2.1.1, Int.lt_of_le_of_lt hr'.2.2.1.2 (by decide)⟩
        exact Classical.byContradiction fun hs => hy (ph_inj hp2 hr2 (right_y hp'.2.2.2 (by rw [h]; exact hr'.2.2.2) hs))
      rw [if_pos hz]
      exact hj
  · rw [if_neg h]
    exact Ev.neg h (Ev.bind (impl_FpInv_ev _) (Ev.now _))

theorem impl_add_ev (p r : Pt) (hp : pRight p) (hr : pRight r) : Ev (fun k => impl_add.f k p.1 p.2.1 p.2.2 r.1 r.2.1 r.2.2) (pAdd p r) := by
  unfold impl_add.f pAdd
  by_cases h1 : p.2.2 = true
  · rw [if_pos h1]; exact Ev.pos h1 (Ev.now _)
  rw [if_neg h1]
  refine Ev.neg h1 ?_
  by_cases h2 : r.2.2 = true
  · rw [if_pos h2]; exact Ev.pos h2 (Ev.now _)
  rw [if_neg h2]
  refine Ev.neg h2 (Ev.bind (impl_slopeOf_ev p r hp hr h1 h2) ?_)
  by_cases h3 : (slope p r).2 = true
  · refine Ev.pos h3 ?_
    rw [if_pos h3]
    simp only [impl_FpMul_eq, impl_FpSub_eq, Option.bind_some]
    exact Ev.now _
  · refine Ev.neg h3 ?_
    rw [if_neg h3]
    exact Ev.now _

theorem impl_PointTimes_l (f : Nat) : ∀ (n : Nat) (b acc : Pt), n < 2 ^ f → n < 1000000 → pRight b → pRight acc →
    Ev (fun k => impl_PointTimes.l0 k (n : Int) b.1 b.2.1 b.2.2 acc.1 acc.2.1 acc.2.2) (pLoop f n b acc) := by
  induction f with
  | zero =>
    intro n b acc hn _ _ _
    rw [pLoop]
    refine Ev.step (fun k => by rw [impl_PointTimes.l0, if_neg (by omega)]) (Ev.now _)
  | succ f ih =>
    intro n b acc hn hn2 hb ha
    rw [pLoop]
    by_cases h0 : n = 0
    · rw [if_pos h0]
      exact Ev.step (fun k => by rw [impl_PointTimes.l0, if_neg (by omega)]) (Ev.now _)
    rw [if_neg h0]
    have e1 : wrap64 (Int.tdiv (n : Int) 2) = ((n / 2 : Nat) : Int) := by rw [tdiv_pos (by omega), w64 (by omega)]; omega
    have e2 : Int.tmod (n : Int) 2 = ((n % 2 : Nat) : Int) := by rw [tmod_pos (by omega)]; omega
    have hf : n / 2 < 2 ^ f := by rw [Nat.pow_succ] at hn; omega
    by_cases h1 : n % 2 = 1
    · rw [if_pos h1]
      refine Ev.step (fun k => by rw [impl_PointTimes.l0, if_pos (by omega), e2, e1, if_pos (by omega)]) ?_
      exact Ev.bind (impl_add_ev acc b ha hb) (Ev.bind (impl_add_ev b b hb hb) (ih _ _ _ hf (by omega) (pAdd_right hb hb) (pAdd_right ha hb)))
    · rw [if_neg h1]
      refine Ev.step (fun k => by rw [impl_PointTimes.l0, if_pos (by omega), e2, e1, if_neg (by omega)]) ?_
      exact Ev.bind (impl_add_ev b b hb hb) (ih _ _ _ hf (by omega) (pAdd_right hb hb) ha)
theorem impl_PointTimes_ev (n : Nat) (p : Pt) (hn : n < 12108) : Ev (fun k => impl_PointTimes.f k (n : Int) p.1 p.2.1 p.2.2) (pTimes n p) := by
  unfold impl_PointTimes.f pTimes
  refine Ev.bindc (impl_PointOk_eq p) ?_
  have e : (n : Int) % 12108 = n := by omega
  by_cases h : pOk p = true
  · rw [if_pos h]
    refine Ev.pos h (Ev.bindc (impl_remainder_eq _ _ (by omega) (by omega)) ?_)
    rw [e]
    exact impl_PointTimes_l 64 n p (0, 0, true) (by omega) (by omega) ((pOk_iff p).1 h) pRight_zero
  · rw [if_neg h]
    exact Ev.neg h (Ev.now _)

theorem impl_InGroup_ev (p : Pt) : Ev (fun k => impl_InGroup.f k p.1 p.2.1 p.2.2) (pIn p) := by
  unfold impl_InGroup.f pIn
  refine Ev.bindc (impl_PointOk_eq p) ?_
  by_cases h : pOk p = true
  · rw [if_pos h]
    exact Ev.pos h (Ev.bind (impl_PointTimes_ev 1009 p (by omega)) (Ev.now _))
  · rw [if_neg h]
    exact Ev.neg h (Ev.now _)

theorem impl_ProofText_ev (a b c : Pt) : Ev (fun k => impl_ProofText.f k a.1 a.2.1 a.2.2 b.1 b.2.1 b.2.2 c.1 c.2.1 c.2.2) (proofText a b c) := by
  unfold impl_ProofText.f proofText
  have hj : Ev (fun k => impl_ProofText.j0 k true a.1 a.2.1 a.2.2 b.1 b.2.1 b.2.2 c.1 c.2.1 c.2.2) ((⟨#[]⟩ : ByteArray), false) :=
    Ev.step (fun k => by rw [impl_ProofText.j0, if_pos rfl]) (Ev.now _)
  refine Ev.bind (impl_InGroup_ev a) ?_
  by_cases h1 : pIn a = true
  · refine Ev.pos h1 (Ev.bind (impl_InGroup_ev b) ?_)
    by_cases h2 : pIn b = true
    · refine Ev.pos h2 (Ev.bind (impl_InGroup_ev c) ?_)
      by_cases h3 : pIn c = true
      · rw [if_pos ⟨h1, h2, h3⟩, h3]
        refine Ev.step (fun k => by rw [impl_ProofText.j0, if_neg (by simp)]) ?_
        have s1 := pText_size a
        have s2 := pText_size b
        have s3 := pText_size c
        refine Ev.bindc (impl_PointText_eq a) (Ev.bindc (impl_PointText_eq b) (Ev.pos (by omega) (Ev.bindc (impl_PointText_eq c) (Ev.pos (by rw [size_append]; omega) (Ev.now _)))))
      · rw [if_neg (fun h => h3 h.2.2)]
        rw [Bool.not_eq_true] at h3
        rw [h3]
        exact hj
    · rw [if_neg (fun h => h2 h.2.1)]
      exact Ev.neg h2 hj
  · rw [if_neg (fun h => h1 h.1)]
    exact Ev.neg h1 hj

theorem impl_ReadProof_ev (t : ByteArray) : Ev (fun k => impl_ReadProof.f k t) (readProof t) := by
  unfold impl_ReadProof.f readProof
  by_cases h : t.size = 9
  · rw [if_pos h]
    refine Ev.pos (by omega) (Ev.pos (by omega) (Ev.pos (by omega) (Ev.bind (impl_ReadPoint_ev _) (Ev.pos (by omega) (Ev.pos (by omega) (Ev.bind (impl_ReadPoint_ev _) (Ev.bind (impl_ReadPoint_ev _) ?_)))))))
    generalize readPoint (t.extract 0 3) = a
    generalize readPoint (t.extract 3 6) = b
    generalize readPoint (t.extract 6 t.size) = c
    refine Ev.bind (impl_ProofText_ev (pOf a) (pOf b) (pOf c)) ?_
    unfold readProof3
    by_cases h1 : a.2.2.2 = true
    · refine Ev.pos h1 ?_
      by_cases h2 : b.2.2.2 = true
      · refine Ev.pos h2 ?_
        by_cases h3 : c.2.2.2 = true
        · refine Ev.pos h3 ?_
          by_cases h4 : (proofText (pOf a) (pOf b) (pOf c)).2 = true
          · refine Ev.pos h4 ?_; rw [if_pos ⟨h1, h2, h3, h4⟩]; exact Ev.now _
          · refine Ev.neg h4 ?_; rw [if_neg (fun q => h4 q.2.2.2)]; exact Ev.now _
        · refine Ev.neg h3 ?_; rw [if_neg (fun q => h3 q.2.2.1)]; exact Ev.now _
      · refine Ev.neg h2 ?_; rw [if_neg (fun q => h2 q.2.1)]; exact Ev.now _
    · refine Ev.neg h1 ?_; rw [if_neg (fun q => h1 q.1)]; exact Ev.now _
  · rw [if_neg h]
    exact Ev.neg (by omega) (Ev.now _)

-- gen.py
theorem eqPoint_same (x0 : Int) (x1 : Int) (x2 : Bool)  : Ev (fun k => laws_eqPoint.f x0 x1 x2 x0 x1 x2) true := by
  unfold laws_eqPoint.f
  exact Ev.pos rfl (Ev.pos rfl (Ev.neg (by simp) (Ev.now _)))

-- gen.py
theorem eqProof_same (x0 : Int) (x1 : Int) (x2 : Bool) (x3 : Int) (x4 : Int) (x5 : Bool) (x6 : Int) (x7 : Int) (x8 : Bool)  : Ev (fun k => laws_eqProof.f x0 x1 x2 x3 x4 x5 x6 x7 x8 x0 x1 x2 x3 x4 x5 x6 x7 x8) true := by
  unfold laws_eqProof.f
  exact Ev.bind (eqPoint_same x0 x1 x2 ) (Ev.pos rfl (Ev.bind (eqPoint_same x3 x4 x5 ) (Ev.pos rfl (Ev.bind (eqPoint_same x6 x7 x8 ) (Ev.pos rfl (Ev.now _))))))

theorem FnExactReadProof (x0 : ByteArray) : (x0.size ≤ 9223372036854775807) → ∃ k, laws_FnExactReadProof.f k x0 = some true := by
  intro _
  apply Ev.rounds
  unfold laws_FnExactReadProof.f
  by_cases h : (x0.size : Int) > 1048576
  · exact Ev.pos h (Ev.now _)
  refine Ev.neg h (Ev.bind (spec_ReadProof_ev x0) (Ev.bind (impl_ReadProof_ev x0) (Ev.bind (eqProof_same _ _ _ _ _ _ _ _ _) (Ev.pos rfl (Ev.neg (by simp) (Ev.now _))))))

end Go.Proofs.Ytegchimmolpmeaa.Pure
