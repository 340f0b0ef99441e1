/- FnExactQapHolds, the plain part: for every argument the law answers true. No conditions. -/
import Derived.Test.YtmhakjpjnnfidaaEVcFnExactQapHolds
namespace Go.Proofs.Ytmhakjpjnnfidaa.FnExactQapHolds
open Go Go.Proofs Go.Proofs.Ytmhakjpjnnfidaa.EV
set_option linter.unusedVariables false
set_option linter.unusedSimpArgs false
set_option maxRecDepth 100000
def eI (n : Int) : List AV := [.int .i64 n]
theorem eI_len (n : Int) : (eI n).length = 1 := rfl
def eS (s : ByteArray) : List AV := [.str s]
theorem eS_len (s : ByteArray) : (eS s).length = 1 := rfl
theorem notB_to {b : Bool} (h : notB b = true) : b = false := by cases b <;> first | rfl | cases h
theorem notB_fo {b : Bool} (h : notB b = false) : b = true := by cases b <;> first | rfl | cases h
theorem Ev.an {a b : Bool} {X : Nat → Nat → Nat → Nat → Option (List AV)} (h : a = true → Ev X [.bool b]) : Ev (fun k m p q => br (notB a) (some [.bool false]) (X k m p q)) [.bool (a && b)] := by
  cases a with
  | true => exact Ev.f rfl (h rfl)
  | false => exact Ev.t rfl (Ev.now _)
theorem Ev.ap {a b : Bool} {X : Nat → Nat → Nat → Nat → Option (List AV)} (h : a = true → Ev X [.bool b]) : Ev (fun k m p q => br a (X k m p q) (some [.bool false])) [.bool (a && b)] := by
  cases a with
  | true => exact Ev.t rfl (h rfl)
  | false => exact Ev.f rfl (Ev.now _)
theorem Ev.na {a b : Bool} {X : Nat → Nat → Nat → Nat → Option (List AV)} (h : a = false → Ev X [.bool b]) : Ev (fun k m p q => br a (some [.bool false]) (X k m p q)) [.bool (!a && b)] := by
  cases a with
  | false => exact Ev.f rfl (h rfl)
  | true => exact Ev.t rfl (Ev.now _)


def eB (n : Int) : List AV := [.int .u8 n]
theorem eB_len (n : Int) : (eB n).length = 1 := rfl
theorem ei {xs : List Int} {i : Nat} (hi : i < xs.length) : cellAt (xs.flatMap eI) (mulN (natI (i : Int)) 1) = .int .i64 xs[i] := cell_enc0 eI_len hi (by decide)
theorem ebi {xs : List Int} {i : Nat} (hi : i < xs.length) : cellAt (xs.flatMap eB) (mulN (natI (i : Int)) 1) = .int .u8 xs[i] := cell_enc0 eB_len hi (by decide)
theorem catE (xs : List Int) (n : Int) : catC (cutC (xs.flatMap eI) 0 (mulN xs.length 1)) (cutC [.int .i64 n] 0 1) = (xs ++ [n]).flatMap eI := by rw [cut_all eI_len, List.flatMap_append]; rfl
theorem catB (xs : List Int) (n : Int) : catC (cutC (xs.flatMap eB) 0 (mulN xs.length 1)) (cutC [.int .u8 n] 0 1) = (xs ++ [n]).flatMap eB := by rw [cut_all eB_len, List.flatMap_append]; rfl
theorem fitN_small {n b : Nat} (h : n ≤ 1048576) (hb : b ≤ 4096) : Bool.and (fitN n b) Bool.true = true := by
  have : n * b ≤ 1048576 * 4096 := Nat.mul_le_mul h hb
  rw [Bool.and_true]
  exact Nat.ble_eq_true_of_le (by omega)
theorem addN1 (xs : List Int) (n : Int) : addN xs.length 1 = (xs ++ [n]).length := by rw [List.length_append]; rfl
theorem isBytes_e (xs : List Int) : isBytes (xs.flatMap eB) = true := by
  unfold isBytes
  rw [List.all_eq_true]
  intro v hv
  obtain ⟨n, _, hn⟩ := List.mem_flatMap.1 hv
  rw [eB, List.mem_singleton] at hn
  subst hn; rfl
theorem strOf_e (xs : List Int) : strOf (xs.flatMap eB) = EV.strOfNums xs := by
  unfold strOf EV.strOfNums
  congr 2
  induction xs with
  | nil => rfl
  | cons x r ih => rw [List.flatMap_cons, List.map_append, ih]; rfl
theorem and_range (a b : Int) (n : Nat) (hb : (BitVec.ofInt 64 b).toNat = n) (hn : n < 4294967296) : 0 ≤ bitsOp .and .i64 a b ∧ bitsOp .and .i64 a b ≤ n := by
  have h : bitsOp .and .i64 a b = wr .i64 (((BitVec.ofInt 64 a) &&& (BitVec.ofInt 64 b)).toNat : Int) := rfl
  have h2 : ((BitVec.ofInt 64 a) &&& (BitVec.ofInt 64 b)).toNat ≤ n := by rw [BitVec.toNat_and, hb]; exact Nat.and_le_right
  rw [h, wr64 (by omega)]
  omega
theorem and255 (a : Int) : 0 ≤ bitsOp .and .i64 a 255 ∧ bitsOp .and .i64 a 255 < 256 := by
  have := and_range a 255 255 (by decide) (by decide)
  omega
theorem getS_n' {t : ByteArray} {i : Nat} (hi : i < t.size) : getS t (i : Int) = (bts t)[i]'(by rw [bts_length]; exact hi) := by
  rw [getS_bt, bt_eq, rd_get _ _ (by rw [bts_length]; exact hi)]


/-! Numbers modulo 12107 (a prime), and the curve y^2 = x^3 + x over them. -/
def chkFermat (e : Nat) : Nat → Bool
  | 0 => true
  | n + 1 => (n == 0 || n ^ e % 12107 == 1) && chkFermat e n
theorem chkFermat_spec (e : Nat) : ∀ {m n : Nat}, chkFermat e m = true → n < m → n ≠ 0 → n ^ e % 12107 = 1 := by
  intro m
  induction m with
  | zero => intro n _ h; omega
  | succ m ih =>
    intro n h hn h0
    rw [chkFermat, Bool.and_eq_true, Bool.or_eq_true] at h
    rcases Nat.lt_succ_iff_lt_or_eq.1 hn with h1 | h1
    · exact ih h.2 h1 h0
    · subst h1
      rcases h.1 with h2 | h2
      · exact absurd (by simpa using h2) h0
      · simpa using h2
theorem chkFermat_true : chkFermat 12106 12107 = true := by decide +kernel
theorem emod2 (a b : Int) : a * (b % 12107) % 12107 = a * b % 12107 := by
  rw [Int.mul_emod, Int.emod_emod_of_dvd _ (Int.dvd_refl _), ← Int.mul_emod]
theorem pow_emod (x : Int) (n : Nat) : x ^ n % 12107 = (x % 12107) ^ n % 12107 := by
  induction n with
  | zero => rw [Int.pow_zero, Int.pow_zero]
  | succ n ih => rw [Int.pow_succ, Int.pow_succ, Int.mul_emod, ih, ← Int.mul_emod, emod2]
theorem pow_inv (x : Int) (e : Nat) (h : (x % 12107).toNat ^ (e + 1) % 12107 = 1) : x * (x ^ e % 12107) % 12107 = 1 := by
  have h3 : (((x % 12107).toNat : Nat) : Int) = x % 12107 := by omega
  have h4 := congrArg (fun (n : Nat) => (n : Int)) h
  simp only [Int.natCast_emod, Int.natCast_pow, h3] at h4
  rw [emod2, Int.mul_comm, ← Int.pow_succ, pow_emod]
  exact h4
theorem pow_inv_of (e : Nat) (hc : chkFermat (e + 1) 12107 = true) {x : Int} (h : x % 12107 ≠ 0) : x * (x ^ e % 12107) % 12107 = 1 :=
  pow_inv x e (chkFermat_spec (e + 1) hc (by omega) (by omega))

abbrev F := Fin 12107
def ph (x : Int) : F := @Int.cast F Lean.Grind.Ring.intCast x
theorem ph_iff {x y : Int} : ph x = ph y ↔ x % 12107 = y % 12107 := Lean.Grind.IsCharP.intCast_ext_iff 12107
theorem ph_add (x y : Int) : ph (x + y) = ph x + ph y := Lean.Grind.Ring.intCast_add x y
theorem ph_sub (x y : Int) : ph (x - y) = ph x - ph y := Lean.Grind.Ring.intCast_sub x y
theorem ph_mul (x y : Int) : ph (x * y) = ph x * ph y := Lean.Grind.Ring.intCast_mul x y
theorem ph_neg (x : Int) : ph (-x) = - ph x := Lean.Grind.Ring.intCast_neg x
theorem ph_mod (x : Int) : ph (x % 12107) = ph x := ph_iff.2 (Int.emod_emod_of_dvd x (Int.dvd_refl _))
theorem ph_zero : ph 0 = 0 := Lean.Grind.Ring.intCast_zero
theorem ph_one : ph 1 = 1 := Lean.Grind.Ring.intCast_one
theorem ph_two : ph 2 = 2 := Lean.Grind.Ring.intCast_ofNat 2
theorem ph_three : ph 3 = 3 := Lean.Grind.Ring.intCast_ofNat 3
theorem ph_eq0 {x : Int} : ph x = 0 ↔ x % 12107 = 0 := by rw [← ph_zero, ph_iff]; rfl
theorem ph_inj {x y : Int} (hx : 0 ≤ x ∧ x < 12107) (hy : 0 ≤ y ∧ y < 12107) (h : ph x = ph y) : x = y := by
  have := ph_iff.1 h
  omega

@[irreducible] def fpow (x : Int) (n : Nat) : Int := x ^ n % 12107
theorem fpow_range (x : Int) (n : Nat) : 0 ≤ fpow x n ∧ fpow x n < 12107 := by unfold fpow; omega
def finv (x : Int) : Int := fpow x 12105
theorem finv_range (x : Int) : 0 ≤ finv x ∧ finv x < 12107 := fpow_range x _
theorem finv_mod {x : Int} (h : x % 12107 ≠ 0) : x * finv x % 12107 = 1 := by
  unfold finv fpow
  exact pow_inv_of 12105 chkFermat_true h
theorem finv_ph {x : Int} (h : ph x ≠ 0) : ph x * ph (finv x) = 1 := by
  rw [← ph_mul, ← ph_one, ph_iff]
  exact finv_mod (fun h1 => h (ph_eq0.2 h1))
theorem F_mul0 {a b : Int} (h : ph a * ph b = 0) (ha : ph a ≠ 0) : ph b = 0 := by
  have h1 := finv_ph ha
  have h2 : ph (finv a) * (ph a * ph b) = 0 := by rw [h]; grind
  grind

/-- a point: x, y, and whether it is the point at infinity. -/
abbrev Pt := Int × Int × Bool
def pRight (p : Pt) : Prop := (p.2.2 = true ∧ p.1 = 0 ∧ p.2.1 = 0) ∨
  (p.2.2 = false ∧ (0 ≤ p.1 ∧ p.1 ≤ 12106) ∧ (0 ≤ p.2.1 ∧ p.2.1 ≤ 12106) ∧ ph p.2.1 * ph p.2.1 = ph p.1 * ph p.1 * ph p.1 + ph p.1)
def slope (p r : Pt) : Int × Bool :=
  if p.1 = r.1 then
    if (p.2.1 + r.2.1) % 12107 = 0 then (0, false) else ((3 * (p.1 * p.1 % 12107) % 12107 + 1) % 12107 * finv (2 * p.2.1 % 12107) % 12107, true)
  else ((r.2.1 - p.2.1) % 12107 * finv ((r.1 - p.1) % 12107) % 12107, true)
def pAdd (p r : Pt) : Pt :=
  if p.2.2 = true then r else if r.2.2 = true then p else
  if (slope p r).2 = true then
    (((slope p r).1 * (slope p r).1 % 12107 - p.1) % 12107 - r.1) % 12107 |> fun x => (x, ((slope p r).1 * ((p.1 - x) % 12107) % 12107 - p.2.1) % 12107, false)
  else (0, 0, true)
theorem curve_chord {R : Type} [Lean.Grind.CommRing R] (x1 y1 x2 y2 i : R) (h1 : y1*y1 = x1*x1*x1 + x1) (h2 : y2*y2 = x2*x2*x2+x2) (hi : (x2-x1)*i = 1) (l x3 y3 : R) (hl : l*(x2-x1) = (y2-y1)) (hx : x3 = l*l - x1 - x2) (hy : y3 = l*(x1-x3)-y1) : y3*y3 = x3*x3*x3+x3 := by
  have e2 : y2 = y1 + l*(x2-x1) := by clear h1 h2 hx hy hi; grind
  have ea : (x2 - x1) * (x2*x2+x1*x2+x1*x1 + 1 - l*(y1+y2)) = 0 := by clear hx hy hi e2; grind
  have eb : (x2*x2+x1*x2+x1*x1 + 1 - l*(y1+y2)) = 0 := by
    have : i * ((x2 - x1) * (x2*x2+x1*x2+x1*x1 + 1 - l*(y1+y2))) = 0 := by rw [ea]; clear hx hy hi e2 ea h1 h2 hl; grind
    clear hx hy e2 ea h1 h2 hl; grind
  subst hx hy e2
  clear ea h2 hi hl
  grind
theorem chord_slope {R : Type} [Lean.Grind.CommRing R] (a d i : R) (h : d * i = 1) : a * i * d = a := by grind
theorem curve_tangent {R : Type} [Lean.Grind.CommRing R] (x1 y1 i : R) (h1 : y1*y1 = x1*x1*x1 + x1) (hi : (2*y1)*i = 1) (l x3 y3 : R) (hl : l = (3*(x1*x1)+1)*i) (hx : x3 = l*l - x1 - x1) (hy : y3 = l*(x1-x3)-y1) : y3*y3 = x3*x3*x3+x3 := by
  grind
/-- right points of one x: the y are the same, or their sum is zero. -/
theorem right_y {x y1 y2 : Int} (h1 : ph y1 * ph y1 = ph x * ph x * ph x + ph x) (h2 : ph y2 * ph y2 = ph x * ph x * ph x + ph x) (h : ¬ (y1 + y2) % 12107 = 0) : ph y1 = ph y2 := by
  have h3 : ph (y1 + y2) * ph (y1 - y2) = 0 := by rw [ph_add, ph_sub]; grind
  have h4 := F_mul0 h3 (fun h5 => h (ph_eq0.1 h5))
  rw [ph_sub] at h4
  grind
theorem pAdd_right {p r : Pt} (hp : pRight p) (hr : pRight r) : pRight (pAdd p r) := by
  rcases hp with hp | hp
  · unfold pAdd; rw [if_pos hp.1]; exact hr
  rcases hr with hr | hr
  · unfold pAdd; rw [if_neg (by rw [hp.1]; simp), if_pos hr.1]; exact Or.inr hp
  unfold pAdd
  rw [if_neg (by rw [hp.1]; simp), if_neg (by rw [hr.1]; simp)]
  obtain ⟨x1, y1, b1⟩ := p
  obtain ⟨x2, y2, b2⟩ := r
  obtain ⟨_, hx1, hy1, h1⟩ := hp
  obtain ⟨_, hx2, hy2, h2⟩ := hr
  simp only at hx1 hy1 h1 hx2 hy2 h2
  unfold slope
  simp only
  by_cases hx : x1 = x2
  · subst hx
    rw [if_pos rfl]
    by_cases hs : (y1 + y2) % 12107 = 0
    · rw [if_pos hs, if_neg (by simp)]
      exact Or.inl ⟨rfl, rfl, rfl⟩
    · rw [if_neg hs, if_pos rfl]
      have he := right_y h1 h2 hs
      have hi : (2 * ph y1) * ph (finv (2 * y1 % 12107)) = 1 := by
        have h3 : ph (2 * y1 % 12107) ≠ 0 := by
          intro h4
          apply hs
          rw [← ph_eq0, ph_add, ← he]
          rw [ph_mod, ph_mul, ph_two] at h4
          grind
        have := finv_ph h3
        rw [ph_mod, ph_mul, ph_two] at this
        exact this
      refine Or.inr ⟨rfl, by simp only; omega, by simp only; omega, ?_⟩
      simp only [ph_mod, ph_mul, ph_add, ph_sub, ph_three, ph_one]
      exact curve_tangent _ _ _ h1 hi _ _ _ rfl rfl rfl
  · rw [if_neg hx, if_pos rfl]
    have hi : (ph x2 - ph x1) * ph (finv ((x2 - x1) % 12107)) = 1 := by
      have h3 : ph ((x2 - x1) % 12107) ≠ 0 := by
        intro h4
        rw [ph_mod, ph_eq0] at h4
        omega
      have := finv_ph h3
      rw [ph_mod, ph_sub] at this
      exact this
    refine Or.inr ⟨rfl, by simp only; omega, by simp only; omega, ?_⟩
    simp only [ph_mod, ph_mul, ph_add, ph_sub]
    refine curve_chord (ph x1) (ph y1) (ph x2) (ph y2) _ h1 h2 hi _ _ _ (chord_slope _ _ _ hi) rfl rfl


/-! Point arithmetic: multiples, membership, texts. -/
theorem sq_pow (x : Int) : x * x = x ^ 2 := by rw [Int.pow_succ, Int.pow_succ, Int.pow_zero, Int.one_mul]
theorem fpow_loop1 (r x : Int) (m : Nat) : (r * x % 12107) * (x * x % 12107) ^ m % 12107 = r * x ^ (2 * m + 1) % 12107 := by
  rw [Int.mul_emod, ← pow_emod, ← Int.mul_emod, Int.mul_emod, Int.emod_emod_of_dvd _ (Int.dvd_refl _), ← Int.mul_emod, sq_pow x, ← Int.pow_mul, Int.pow_succ, Int.mul_assoc, Int.mul_comm x]
theorem fpow_loop0 (r x : Int) (m : Nat) : r * (x * x % 12107) ^ m % 12107 = r * x ^ (2 * m) % 12107 := by
  rw [Int.mul_emod, ← pow_emod, ← Int.mul_emod, sq_pow x, ← Int.pow_mul]
theorem fpow_one (a : Int) (n : Nat) : 1 * (a % 12107) ^ n % 12107 = fpow a n := by
  unfold fpow
  rw [Int.one_mul, ← pow_emod]
theorem sq_range {a b : Int} (ha : 0 ≤ a ∧ a < 12107) (hb : 0 ≤ b ∧ b < 12107) : 0 ≤ a * b ∧ a * b ≤ 146555236 :=
  ⟨Int.mul_nonneg ha.1 hb.1, Int.le_trans (Int.mul_le_mul_of_nonneg_right (show a ≤ 12106 by omega) hb.1) (by omega)⟩
def pOk (p : Pt) : Bool :=
  if p.2.2 = true then (if p.1 = 0 then p.2.1 == 0 else false)
  else if (0 ≤ p.1 ∧ p.1 ≤ 12106) ∧ (0 ≤ p.2.1 ∧ p.2.1 ≤ 12106) then (p.2.1 * p.2.1 % 12107 == (p.1 * p.1 % 12107 * p.1 % 12107 + p.1) % 12107) else false
theorem pOk_iff (p : Pt) : pOk p = true ↔ pRight p := by
  unfold pOk pRight
  cases h : p.2.2 with
  | true =>
    rw [if_pos rfl]
    by_cases h1 : p.1 = 0
    · rw [if_pos h1]; simp [h1]
    · rw [if_neg h1]; simp [h1]
  | false =>
    rw [if_neg (by simp)]
    by_cases h1 : (0 ≤ p.1 ∧ p.1 ≤ 12106) ∧ (0 ≤ p.2.1 ∧ p.2.1 ≤ 12106)
    · rw [if_pos h1, beq_iff_eq, ← Int.emod_emod_of_dvd (p.2.1 * p.2.1) (Int.dvd_refl 12107), ← Int.emod_emod_of_dvd (p.1 * p.1 % 12107 * p.1 % 12107 + p.1) (Int.dvd_refl 12107), ← ph_iff]
      simp only [ph_mod, ph_mul, ph_add]
      simp [h1]
    · rw [if_neg h1]
      simp only [Bool.false_eq_true, false_iff, true_and, false_and, false_or]
      intro h2
      exact h1 ⟨h2.1, h2.2.1⟩
theorem pRight_zero : pRight (0, 0, true) := Or.inl ⟨rfl, rfl, rfl⟩
def pLoop : Nat → Nat → Pt → Pt → Pt
  | 0, _, _, acc => acc
  | f + 1, n, b, acc => if n = 0 then acc else if n % 2 = 1 then pLoop f (n / 2) (pAdd b b) (pAdd acc b) else pLoop f (n / 2) (pAdd b b) acc
theorem pLoop_right (f : Nat) : ∀ (n : Nat) (b acc : Pt), pRight b → pRight acc → pRight (pLoop f n b acc) := by
  induction f with
  | zero => intro n b acc _ h; exact h
  | succ f ih =>
    intro n b acc hb ha
    rw [pLoop]
    split
    · exact ha
    · split
      · exact ih _ _ _ (pAdd_right hb hb) (pAdd_right ha hb)
      · exact ih _ _ _ (pAdd_right hb hb) ha
/-- n times p, for a right point. -/
def pMul (n : Nat) (p : Pt) : Pt := pLoop 64 n p (0, 0, true)
theorem pMul_right {n : Nat} {p : Pt} (h : pRight p) : pRight (pMul n p) := pLoop_right _ _ _ _ h pRight_zero
def pTimes (n : Nat) (p : Pt) : Pt := if pOk p = true then pMul n p else (0, 0, true)
theorem pTimes_right (n : Nat) (p : Pt) : pRight (pTimes n p) := by
  unfold pTimes
  split
  · rename_i h; exact pMul_right ((pOk_iff p).1 h)
  · exact pRight_zero
def pNeg (p : Pt) : Pt := if p.2.2 = true then (0, 0, true) else (p.1, (0 - p.2.1) % 12107, false)
theorem pNeg_right {p : Pt} (h : pRight p) : pRight (pNeg p) := by
  unfold pNeg
  split
  · exact pRight_zero
  · rename_i hb
    rcases h with h | h
    · exact absurd h.1 hb
    · refine Or.inr ⟨rfl, h.2.1, by simp only; omega, ?_⟩
      simp only [ph_mod, ph_sub, ph_zero]
      have := h.2.2.2
      grind
def pIn (p : Pt) : Bool := if pOk p = true then (pTimes 1009 p).2.2 else false
def pText (p : Pt) : ByteArray :=
  if pOk p = true then
    if p.2.2 = true then (⟨#[0, 0, 0]⟩ : ByteArray) else EV.strOfNums ([((wrap64 (p.1 + 1)) / 256) % 256, (wrap64 (p.1 + 1)) % 256, (Int.tmod p.2.1 2) % 256] : List Int)
  else (⟨#[]⟩ : ByteArray)
theorem pText_size (p : Pt) : (pText p).size ≤ 3 := by
  unfold pText
  split
  · split
    · exact Nat.le_refl _
    · rw [EV.strOfNums_size]; exact Nat.le_refl _
  · exact Nat.zero_le _


theorem tmod_fix {a m : Int} (hm : 0 < m) : (if Int.tmod a m < 0 then Int.tmod a m + m else Int.tmod a m) = a % m := by
  have h0 := Int.emod_nonneg a (Int.ne_of_gt hm)
  have h1 := Int.emod_lt_of_pos a hm
  rw [Int.tmod_eq_emod]
  have h2 : (m.natAbs : Int) = m := Int.natAbs_of_nonneg (Int.le_of_lt hm)
  by_cases h : 0 ≤ a ∨ m ∣ a
  · rw [if_pos h]
    show (if a % m - 0 < 0 then a % m - 0 + m else a % m - 0) = a % m
    rw [Int.sub_zero, if_neg (by omega)]
  · rw [if_neg h, h2, if_pos (by omega)]
    omega
theorem tmod_wrap {a m : Int} (hm : 0 < m) (hb : m < 9223372036854775807) : (if Int.tmod a m < 0 then (some (wrap64 (Int.tmod a m + m))) else (some (Int.tmod a m))) = some (a % m) := by
  have h := tmod_fix (a := a) hm
  have h0 := Int.emod_nonneg a (Int.ne_of_gt hm)
  have h1 := Int.emod_lt_of_pos a hm
  split at h
  · rename_i hl
    rw [if_pos hl, w64 (by omega), h]
  · rename_i hl
    rw [if_neg hl, h]
theorem F_half {x : F} (h : x + x = 0) : x = 0 := by
  have h1 : (12107 : F) = 0 := rfl
  have h2 : x = 6054 * (x + x) - 12107 * x := by clear h h1; grind
  rw [h, h1] at h2
  clear h h1
  grind
theorem y2_ne {a b : Int} (h : a = b) (h0 : ¬ a = 0) (r : 0 ≤ a ∧ a ≤ 12106) : ¬ (a + b) % 12107 = 0 := by
  intro hz
  rw [← ph_eq0, ph_add, ← h] at hz
  have := ph_eq0.1 (F_half hz)
  clear hz h
  omega
theorem fmod_range (a : Int) : 0 ≤ a % 12107 ∧ a % 12107 < 12107 := by omega
theorem fmod_mul (a b : Int) : wrap64 (a % 12107 * (b % 12107)) % 12107 = a * b % 12107 := by
  have := sq_range (fmod_range a) (fmod_range b)
  rw [w64 (by omega), ← Int.mul_emod]
theorem fmod_add (a b : Int) : wrap64 (a % 12107 + b % 12107) % 12107 = (a + b) % 12107 := by
  rw [w64 (by omega)]; omega
theorem fmod_sub (a b : Int) : wrap64 (a % 12107 - b % 12107) % 12107 = (a - b) % 12107 := by
  rw [w64 (by omega)]; omega


theorem rem_neg {a m : Int} (hm : 0 < m) (hb : m < 9223372036854775807) (h : Int.tmod a m < 0) : wr .i64 (Int.tmod a m + m) = a % m := by
  have h1 := tmod_fix (a := a) hm
  have h0 := Int.emod_nonneg a (Int.ne_of_gt hm)
  have h2 := Int.emod_lt_of_pos a hm
  rw [if_pos h] at h1
  rw [h1, wr64 (by omega)]
theorem rem_pos {a m : Int} (hm : 0 < m) (h : ¬ Int.tmod a m < 0) : Int.tmod a m = a % m := by
  have h1 := tmod_fix (a := a) hm
  rwa [if_neg h] at h1


theorem scb (a : Int) : 0 ≤ a % 1009 ∧ a % 1009 ≤ 1008 := by omega
theorem scbb (a b : Int) : 0 ≤ (a % 1009) * (b % 1009) ∧ (a % 1009) * (b % 1009) ≤ 1016064 := by
  have ha := scb a
  have hb := scb b
  refine ⟨Int.mul_nonneg ha.1 hb.1, ?_⟩
  have := Int.mul_le_mul ha.2 hb.2 hb.1 (by omega : (0 : Int) ≤ 1008)
  omega
theorem s_mul (a b : Int) : wr .i64 (mulI (a % 1009) (b % 1009)) % 1009 = a * b % 1009 := by
  have := scbb a b
  rw [mulI_d, wr64 (by omega), ← Int.mul_emod]
theorem s_add (a b : Int) : wr .i64 (addI (a % 1009) (b % 1009)) % 1009 = (a + b) % 1009 := by
  rw [addI_d, wr64 (by omega), ← Int.add_emod]
theorem s_neg (a : Int) : wr .i64 (subI 0 (a % 1009)) % 1009 = (-a) % 1009 := by
  rw [subI_d, wr64 (by omega)]
  omega
theorem spec_ScOf_ev (a : Int) : Does cp n_spec_ScOf [.int .i64 a] [.int .i64 (a % 1009)] := by
  refine Ev.fn (fun k => F_spec_ScOf k a) (Ev.b (fun h => Ev.some_ ?_) (fun h => Ev.some_ ?_))
  · rw [addI_d, remI_d, rem_neg (by omega) (by omega) (ltI_to h)]
  · rw [remI_d, rem_pos (by omega) (ltI_fo h)]
theorem impl_rem9_ev (a : Int) : Does cp n_impl_remainder [.int .i64 a, .int .i64 1009] [.int .i64 (a % 1009)] := by
  refine Ev.fn (fun k => F_impl_remainder k a 1009) (Ev.g (by rw [eqI_f (by omega)]; rfl) (Ev.b (fun h => Ev.some_ ?_) (fun h => Ev.some_ ?_)))
  · rw [addI_d, remI_d, rem_neg (by omega) (by omega) (ltI_to h)]
  · rw [remI_d, rem_pos (by omega) (ltI_fo h)]
theorem impl_ScOf_ev (a : Int) : Does cp n_impl_ScOf [.int .i64 a] [.int .i64 (a % 1009)] := Ev.fn (fun k => F_impl_ScOf k a) (Ev.c (impl_rem9_ev a) (Ev.now _))
theorem spec_ScMul_ev (a b : Int) : Does cp n_spec_ScMul [.int .i64 a, .int .i64 b] [.int .i64 (a * b % 1009)] :=
  Ev.fn (fun k => F_spec_ScMul k a b) (Ev.c (spec_ScOf_ev a) (Ev.c (spec_ScOf_ev b) (Ev.c (spec_ScOf_ev _) (Ev.some_ (by simp only [hdV_c, tlV_c, parts1_a, asInt_i, asBool_b, asStr_s, asLen_f, asCells_f, s_mul])))))
theorem spec_ScAdd_ev (a b : Int) : Does cp n_spec_ScAdd [.int .i64 a, .int .i64 b] [.int .i64 ((a + b) % 1009)] :=
  Ev.fn (fun k => F_spec_ScAdd k a b) (Ev.c (spec_ScOf_ev a) (Ev.c (spec_ScOf_ev b) (Ev.c (spec_ScOf_ev _) (Ev.some_ (by simp only [hdV_c, tlV_c, parts1_a, asInt_i, asBool_b, asStr_s, asLen_f, asCells_f, s_add])))))
theorem spec_ScNeg_ev (a : Int) : Does cp n_spec_ScNeg [.int .i64 a] [.int .i64 ((-a) % 1009)] :=
  Ev.fn (fun k => F_spec_ScNeg k a) (Ev.c (spec_ScOf_ev a) (Ev.c (spec_ScOf_ev _) (Ev.some_ (by simp only [hdV_c, tlV_c, parts1_a, asInt_i, asBool_b, asStr_s, asLen_f, asCells_f, s_neg]))))
theorem impl_ScMul_ev (a b : Int) : Does cp n_impl_ScMul [.int .i64 a, .int .i64 b] [.int .i64 (a * b % 1009)] :=
  Ev.fn (fun k => F_impl_ScMul k a b) (Ev.c (impl_ScOf_ev a) (Ev.c (impl_ScOf_ev b) (Ev.c (impl_ScOf_ev _) (Ev.some_ (by simp only [hdV_c, tlV_c, parts1_a, asInt_i, asBool_b, asStr_s, asLen_f, asCells_f, s_mul])))))
theorem impl_ScAdd_ev (a b : Int) : Does cp n_impl_ScAdd [.int .i64 a, .int .i64 b] [.int .i64 ((a + b) % 1009)] :=
  Ev.fn (fun k => F_impl_ScAdd k a b) (Ev.c (impl_ScOf_ev a) (Ev.c (impl_ScOf_ev b) (Ev.c (impl_ScOf_ev _) (Ev.some_ (by simp only [hdV_c, tlV_c, parts1_a, asInt_i, asBool_b, asStr_s, asLen_f, asCells_f, s_add])))))
theorem impl_ScNeg_ev (a : Int) : Does cp n_impl_ScNeg [.int .i64 a] [.int .i64 ((-a) % 1009)] :=
  Ev.fn (fun k => F_impl_ScNeg k a) (Ev.c (impl_ScOf_ev a) (Ev.c (impl_ScOf_ev _) (Ev.some_ (by simp only [hdV_c, tlV_c, parts1_a, asInt_i, asBool_b, asStr_s, asLen_f, asCells_f, s_neg]))))
def invGo : Nat → Int → Int → Int → Int
  | 0, _, _, acc => acc
  | f + 1, e, b, acc => if 0 < e then (if e % 2 = 1 then invGo f (e / 2) (b * b % 1009) (acc * b % 1009) else invGo f (e / 2) (b * b % 1009) acc) else acc
def scInv (a : Int) : Int := invGo 10 1007 (a % 1009) 1
theorem quo2 {e : Int} (h : 0 ≤ e ∧ e ≤ 1000000) : wr .i64 (quoI e 2) = e / 2 := by rw [quoI_d, tdiv_pos h.1, wr64 (by omega)]
theorem rem2e {e : Int} (h : 0 ≤ e) : remI e 2 = e % 2 := by rw [remI_d, tmod_pos h]
theorem spec_ScInv_l (f : Nat) : ∀ (e b acc : Int), 0 ≤ e → e < ((2 ^ f : Nat) : Int) → e ≤ 1000000 → Ev (fun k m _ _ => L_spec_ScInv_0 k m e b acc) [.int .i64 (invGo f e b acc)] := by
  induction f with
  | zero =>
    intro e b acc h0 h1 h2
    exact Ev.step (fun k m _ _ => L_spec_ScInv_0_s k m _ _ _) (Ev.f (ltI_f (by simp at h1; omega)) (Ev.now _))
  | succ f ih =>
    intro e b acc h0 h1 h2
    have h1' : e / 2 < ((2 ^ f : Nat) : Int) := by rw [Nat.pow_succ] at h1; push_cast at h1 ⊢; omega
    refine Ev.step (fun k m _ _ => L_spec_ScInv_0_s k m _ _ _) ?_
    rw [rem2e h0, quo2 ⟨h0, h2⟩, invGo]
    by_cases h : 0 < e
    · rw [if_pos h]
      refine Ev.t (ltI_t h) ?_
      by_cases ho : e % 2 = 1
      · rw [if_pos ho]
        exact Ev.t (eqI_t ho) (Ev.c (spec_ScMul_ev acc b) (Ev.c (spec_ScMul_ev b b) (ih (e / 2) _ _ (by omega) h1' (by omega))))
      · rw [if_neg ho]
        exact Ev.f (eqI_f ho) (Ev.c (spec_ScMul_ev b b) (ih (e / 2) _ _ (by omega) h1' (by omega)))
    · rw [if_neg h]
      exact Ev.f (ltI_f h) (Ev.now _)
theorem spec_ScInv_ev (a : Int) : Does cp n_spec_ScInv [.int .i64 a] [.int .i64 (scInv a)] :=
  Ev.fn (fun k => F_spec_ScInv k a) (Ev.c (spec_ScOf_ev a) (spec_ScInv_l 10 1007 (a % 1009) 1 (by omega) (by decide) (by omega)).l0)
theorem mm9 {a b : Int} (ha : 0 ≤ a ∧ a ≤ 1008) (hb : 0 ≤ b ∧ b ≤ 1008) : remI (wr .i64 (mulI a b)) 1009 = a * b % 1009 := by
  have h1 := Int.mul_le_mul ha.2 hb.2 hb.1 (by omega : (0 : Int) ≤ 1008)
  have h0 := Int.mul_nonneg ha.1 hb.1
  rw [mulI_d, wr64 (by omega), remI_d, tmod_pos h0]
theorem impl_pow_l (f : Nat) : ∀ (e b acc : Int), 0 ≤ e → e < ((2 ^ f : Nat) : Int) → e ≤ 1000000 → 0 ≤ b ∧ b ≤ 1008 → 0 ≤ acc ∧ acc ≤ 1008 → Ev (fun k m _ _ => L_impl_powerMod_0 k m 1009 e b acc) [.int .i64 (invGo f e b acc)] := by
  have h9 : notB (eqI 1009 0) = true := by rw [eqI_f (by omega)]; rfl
  induction f with
  | zero =>
    intro e b acc h0 h1 h2 hb ha
    exact Ev.step (fun k m _ _ => L_impl_powerMod_0_s k m _ _ _ _) (Ev.f (ltI_f (by simp at h1; omega)) (Ev.now _))
  | succ f ih =>
    intro e b acc h0 h1 h2 hb ha
    have h1' : e / 2 < ((2 ^ f : Nat) : Int) := by rw [Nat.pow_succ] at h1; push_cast at h1 ⊢; omega
    refine Ev.step (fun k m _ _ => L_impl_powerMod_0_s k m _ _ _ _) ?_
    rw [rem2e h0, quo2 ⟨h0, h2⟩, invGo, mm9 hb hb, mm9 ha hb]
    by_cases h : 0 < e
    · rw [if_pos h]
      refine Ev.t (ltI_t h) ?_
      by_cases ho : e % 2 = 1
      · rw [if_pos ho]
        exact Ev.t (eqI_t ho) (Ev.g h9 (Ev.g h9 (ih (e / 2) _ _ (by omega) h1' (by omega) (scb _) (scb _))))
      · rw [if_neg ho]
        exact Ev.f (eqI_f ho) (Ev.g h9 (ih (e / 2) _ _ (by omega) h1' (by omega) (scb _) ha))
    · rw [if_neg h]
      exact Ev.f (ltI_f h) (Ev.now _)
theorem impl_ScInv_ev (a : Int) : Does cp n_impl_ScInv [.int .i64 a] [.int .i64 (scInv a)] :=
  Ev.fn (fun k => F_impl_ScInv k a) (Ev.c (Ev.fn (fun k => F_impl_powerMod k _ _ _) (Ev.c (impl_rem9_ev a) (impl_pow_l 10 1007 (a % 1009) 1 (by omega) (by decide) (by omega) (scb a) (by omega)).l0)) (Ev.now _))
theorem inv_law : ∀ a : Fin 1009, a.val ≠ 0 → (a.val : Int) * scInv (a.val : Int) % 1009 = 1 := by decide +kernel


theorem plainI (l : List Int) : plainRes [.fs l.length (l.flatMap eI)] = true := by
  have : (l.flatMap eI).all plain1 = true := by
    rw [List.all_eq_true]
    intro v hv
    obtain ⟨n, _, hn⟩ := List.mem_flatMap.1 hv
    rw [eI, List.mem_singleton] at hn
    subst hn; rfl
  show ((((l.flatMap eI).all plain1) && true) && true) = true
  rw [this]; rfl
theorem cutT (l : List Int) (n : Nat) : cutC (l.flatMap eI) 0 (mulN n 1) = (l.take n).flatMap eI := by
  have := cut_part eI_len l 0 n
  rw [List.drop_zero] at this
  exact this
theorem addN00 (n : Nat) : addN 0 n = n := by rw [addN_d, Nat.zero_add]
/-! arrays of numbers -/
def arr (n : Nat) (f : Nat → Int) : List Int := (List.range n).map f
def updF (f : Nat → Int) (i : Nat) (x : Int) : Nat → Int := fun j => if j = i then x else f j
theorem arr_len (n : Nat) (f : Nat → Int) : (arr n f).length = n := by simp [arr]
theorem arr_get {n : Nat} {f : Nat → Int} {i : Nat} (h : i < (arr n f).length) : (arr n f)[i] = f i := by simp [arr]
theorem arr_ext {n : Nat} {f g : Nat → Int} (h : ∀ j, j < n → f j = g j) : arr n f = arr n g := List.map_congr_left fun j hj => h j (List.mem_range.1 hj)
theorem arr_upd (n : Nat) (f : Nat → Int) (i : Nat) (x : Int) : (arr n f).set i x = arr n (updF f i x) := by
  refine List.ext_getElem (by simp [arr]) fun j h1 h2 => ?_
  rw [List.getElem_set, arr_get, arr_get]
  unfold updF
  by_cases h : i = j
  · rw [if_pos h, if_pos h.symm]
  · rw [if_neg h, if_neg (Ne.symm h)]
theorem arr_cell {n : Nat} (f : Nat → Int) {i : Nat} (h : i < n) : cellAt ((arr n f).flatMap eI) (addN 0 (mulN (natI (i : Int)) 1)) = .int .i64 (f i) := by
  rw [addN00, ei (by rw [arr_len]; exact h), arr_get]
theorem arr_set {n : Nat} (f : Nat → Int) {i : Nat} (h : i < n) (x : Int) : setMany ((arr n f).flatMap eI) (addN 0 (mulN (natI (i : Int)) 1)) [.int .i64 x] = (arr n (updF f i x)).flatMap eI := by
  rw [addN00, natI_c, mulN_d, ← arr_upd]
  exact set_encs eI_len (arr n f) i x (by rw [arr_len]; exact h)
theorem arr_ble {n : Nat} (f : Nat → Int) {i : Nat} (h : i < n) : Nat.ble (Nat.succ (addN 0 (mulN (natI (i : Int)) 1))) (List.length ((arr n f).flatMap eI)) = true := by
  rw [encs_len eI_len, arr_len]
  exact Nat.ble_eq_true_of_le (by rw [addN_d, natI_c, mulN_d]; omega)
theorem arr_zero (n : Nat) : repC n [.int .i64 0] = (arr n (fun _ => 0)).flatMap eI := by
  have : List.replicate n (0 : Int) = arr n (fun _ => 0) := by
    refine List.ext_getElem (by simp [arr]) fun j h1 h2 => ?_
    rw [arr_get, List.getElem_replicate]
  rw [← this]
  exact rep_encs (e := eI) 0 rfl n
theorem arr_cut (n : Nat) (f : Nat → Int) : cutC ((arr n f).flatMap eI) 0 (mulN n 1) = (arr n f).flatMap eI := by
  have := cut_all eI_len (arr n f)
  rw [arr_len] at this
  exact this
theorem arr_of (l : List Int) (g : Nat → Int) (f : Int → Int) (h : ∀ j (hj : j < l.length), g j = f l[j]) : arr l.length g = l.map f := by
  refine List.ext_getElem (by simp [arr]) fun j h1 h2 => ?_
  rw [arr_get, List.getElem_map]
  exact h j (by simpa using h2)
/-! trimmed -/
def trimN (z : List Int) : Nat → Nat
  | 0 => 0
  | n + 1 => if z.getD n 0 = 0 then trimN z n else n + 1
theorem trimN_le (z : List Int) (n : Nat) : trimN z n ≤ n := by
  induction n with
  | zero => exact Nat.le_refl _
  | succ n ih => rw [trimN]; split <;> omega
def trimZ (z : List Int) : List Int := z.take (trimN z z.length)
def yTrim (l : List Int) : List Int := trimZ (l.map fun a => a % 1009)
theorem trimZ_len (z : List Int) : (trimZ z).length ≤ z.length := by unfold trimZ; rw [List.length_take]; omega
theorem yTrim_len (l : List Int) : (yTrim l).length ≤ l.length := by have := trimZ_len (l.map fun a => a % 1009); rw [List.length_map] at this; exact this
theorem spec_trim_l1 (z : List Int) (hz : z.length ≤ 1000000) (n : Nat) : n ≤ z.length → Ev (fun k m _ _ => L_spec_PolyTrim_1 k m n (z.flatMap eI)) [.fs (z.take (trimN z n)).length ((z.take (trimN z n)).flatMap eI)] := by
  induction n with
  | zero =>
    intro h
    refine Ev.step (fun k m _ _ => L_spec_PolyTrim_1_s k m _ _) (Ev.f (ltI_f (by rw [lenI_c]; omega)) (Ev.some_ ?_))
    rw [cutT]; rfl
  | succ n ih =>
    intro h
    have e : wr .i64 (subI (lenI (n + 1)) 1) = ((n : Nat) : Int) := by rw [subI_d, lenI_c, wr64 (by omega)]; omega
    have hn : n < z.length := by omega
    have hg : z.getD n 0 = z[n] := by simp [List.getD_eq_getElem?_getD, List.getElem?_eq_getElem hn]
    refine Ev.step (fun k m _ _ => L_spec_PolyTrim_1_s k m _ _) (Ev.t (ltI_t (by rw [lenI_c]; omega)) ?_)
    rw [e, addN00, ei hn, trimN, hg]
    refine Ev.g (inR_n (by omega)) (Ev.g rfl ?_)
    by_cases c : z[n] = 0
    · rw [if_pos c]
      exact Ev.t (eqI_t c) (Ev.g (inS_t (by omega) (by omega) (by omega)) (ih (by omega)))
    · rw [if_neg c]
      refine Ev.f (eqI_f c) (Ev.some_ ?_)
      rw [cutT, List.length_take, Nat.min_eq_left h]
theorem impl_trim_l1 (z : List Int) (hz : z.length ≤ 1000000) (n : Nat) : n ≤ z.length → Ev (fun k m _ _ => L_impl_PolyTrim_1 k m n (z.flatMap eI)) [.fs (z.take (trimN z n)).length ((z.take (trimN z n)).flatMap eI)] := by
  induction n with
  | zero =>
    intro h
    refine Ev.step (fun k m _ _ => L_impl_PolyTrim_1_s k m _ _) (Ev.f (ltI_f (by rw [lenI_c]; omega)) (Ev.some_ ?_))
    rw [cutT]; rfl
  | succ n ih =>
    intro h
    have e : wr .i64 (subI (lenI (n + 1)) 1) = ((n : Nat) : Int) := by rw [subI_d, lenI_c, wr64 (by omega)]; omega
    have hn : n < z.length := by omega
    have hg : z.getD n 0 = z[n] := by simp [List.getD_eq_getElem?_getD, List.getElem?_eq_getElem hn]
    refine Ev.step (fun k m _ _ => L_impl_PolyTrim_1_s k m _ _) (Ev.t (ltI_t (by rw [lenI_c]; omega)) ?_)
    rw [e, addN00, ei hn, trimN, hg]
    refine Ev.g (inR_n (by omega)) (Ev.g rfl ?_)
    by_cases c : z[n] = 0
    · rw [if_pos c]
      exact Ev.t (eqI_t c) (Ev.g (inS_t (by omega) (by omega) (by omega)) (ih (by omega)))
    · rw [if_neg c]
      refine Ev.f (eqI_f c) (Ev.some_ ?_)
      rw [cutT, List.length_take, Nat.min_eq_left h]
theorem spec_PolyTrim_l (l : List Int) (hl : l.length ≤ 1000000) (d : Nat) : ∀ i : Nat, i + d = l.length → Ev (fun k m _ _ => L_spec_PolyTrim_0 k m l.length (l.flatMap eI) (i : Int) ((l.take i).map fun a => a % 1009).length (((l.take i).map fun a => a % 1009).flatMap eI)) [.fs (yTrim l).length ((yTrim l).flatMap eI)] := by
  induction d with
  | zero =>
    intro i hi
    refine Ev.step (fun k m _ _ => L_spec_PolyTrim_0_s k m _ _ _ _ _) (Ev.f (ltI_f (by rw [lenI_c]; omega)) ?_)
    rw [List.take_of_length_le (by omega)]
    exact (spec_trim_l1 (l.map fun a => a % 1009) (by rw [List.length_map]; exact hl) _ (Nat.le_refl _)).l0
  | succ d ih =>
    intro i hi
    have hi' : i < l.length := by omega
    have hm : ((l.take i).map fun a => a % 1009) ++ [l[i] % 1009] = (l.take (i + 1)).map fun a => a % 1009 := by rw [← take_next l i hi', List.map_append]; rfl
    refine Ev.step (fun k m _ _ => L_spec_PolyTrim_0_s k m _ _ _ _ _) (Ev.t (ltI_t (by rw [lenI_c]; omega)) (Ev.g (inR_n hi') ?_))
    simp only [ei hi', hdV_c, tlV_c, parts1_a, asInt_i, asBool_b, asStr_s, asLen_f, asCells_f]
    refine Ev.g rfl (Ev.c (spec_ScOf_ev l[i]) (Ev.g (fitN_small (by rw [addN_d, List.length_map, List.length_take]; omega) (by decide)) ?_))
    simp only [hdV_c, tlV_c, parts1_a, asInt_i, asBool_b, asStr_s, asLen_f, asCells_f, wrS (show i < 9223372036854775807 by omega)]
    rw [catE, addN1 _ (l[i] % 1009), hm]
    exact ih (i + 1) (by omega)
theorem spec_PolyTrim_ev (l : List Int) (hl : l.length ≤ 1000000) : Does cp n_spec_PolyTrim [.fs l.length (l.flatMap eI)] [.fs (yTrim l).length ((yTrim l).flatMap eI)] := Ev.fn (fun k => F_spec_PolyTrim k _ _) (spec_PolyTrim_l l hl l.length 0 (by omega)).l0
theorem impl_PolyTrim_l (l : List Int) (hl : l.length ≤ 1000000) (d : Nat) : ∀ i : Nat, i + d = l.length → Ev (fun k m _ _ => L_impl_PolyTrim_0 k m l.length (l.flatMap eI) (lenI l.length) (i : Int) ((l.take i).map fun a => a % 1009).length (((l.take i).map fun a => a % 1009).flatMap eI)) [.fs (yTrim l).length ((yTrim l).flatMap eI)] := by
  induction d with
  | zero =>
    intro i hi
    refine Ev.step (fun k m _ _ => L_impl_PolyTrim_0_s k m _ _ _ _ _ _) (Ev.f (ltI_f (by rw [lenI_c]; omega)) ?_)
    rw [List.take_of_length_le (by omega)]
    exact (impl_trim_l1 (l.map fun a => a % 1009) (by rw [List.length_map]; exact hl) _ (Nat.le_refl _)).l0
  | succ d ih =>
    intro i hi
    have hi' : i < l.length := by omega
    have hm : ((l.take i).map fun a => a % 1009) ++ [l[i] % 1009] = (l.take (i + 1)).map fun a => a % 1009 := by rw [← take_next l i hi', List.map_append]; rfl
    refine Ev.step (fun k m _ _ => L_impl_PolyTrim_0_s k m _ _ _ _ _ _) (Ev.t (ltI_t (by rw [lenI_c]; omega)) (Ev.g (inR_n hi') ?_))
    simp only [ei hi', hdV_c, tlV_c, parts1_a, asInt_i, asBool_b, asStr_s, asLen_f, asCells_f]
    refine Ev.g rfl (Ev.c (impl_ScOf_ev l[i]) (Ev.g (fitN_small (by rw [addN_d, List.length_map, List.length_take]; omega) (by decide)) ?_))
    simp only [hdV_c, tlV_c, parts1_a, asInt_i, asBool_b, asStr_s, asLen_f, asCells_f, wrS (show i < 9223372036854775807 by omega)]
    rw [catE, addN1 _ (l[i] % 1009), hm]
    exact ih (i + 1) (by omega)
theorem impl_PolyTrim_ev (l : List Int) (hl : l.length ≤ 1000000) : Does cp n_impl_PolyTrim [.fs l.length (l.flatMap eI)] [.fs (yTrim l).length ((yTrim l).flatMap eI)] := Ev.fn (fun k => F_impl_PolyTrim k _ _) (impl_PolyTrim_l l hl l.length 0 (by omega)).l0
theorem spec_trimmed (n : Nat) (hn : n ≤ 1000000) (f : Nat → Int) : Ev (fun k _ _ _ => bnd (evF cp k n_spec_PolyTrim [AV.fs n (cutC ((arr n f).flatMap eI) 0 (mulN n 1))]) (fun r0 => gd (plainRes r0) (some [AV.fs (AV.asLen (hdV r0)) (cutC (AV.asCells (hdV r0)) 0 (mulN (AV.asLen (hdV r0)) 1))]))) [.fs (yTrim (arr n f)).length ((yTrim (arr n f)).flatMap eI)] := by
  have e := spec_PolyTrim_ev (arr n f) (by rw [arr_len]; exact hn)
  rw [arr_len] at e
  rw [arr_cut]
  refine Ev.c e (Ev.g (plainI _) (Ev.some_ ?_))
  simp only [hdV_c, tlV_c, parts1_a, asInt_i, asBool_b, asStr_s, asLen_f, asCells_f, cut_all eI_len]
theorem impl_trimmed (n : Nat) (hn : n ≤ 1000000) (f : Nat → Int) : Ev (fun k _ _ _ => bnd (evF cp k n_impl_PolyTrim [AV.fs n (cutC ((arr n f).flatMap eI) 0 (mulN n 1))]) (fun r0 => gd (plainRes r0) (some [AV.fs (AV.asLen (hdV r0)) (cutC (AV.asCells (hdV r0)) 0 (mulN (AV.asLen (hdV r0)) 1))]))) [.fs (yTrim (arr n f)).length ((yTrim (arr n f)).flatMap eI)] := by
  have e := impl_PolyTrim_ev (arr n f) (by rw [arr_len]; exact hn)
  rw [arr_len] at e
  rw [arr_cut]
  refine Ev.c e (Ev.g (plainI _) (Ev.some_ ?_))
  simp only [hdV_c, tlV_c, parts1_a, asInt_i, asBool_b, asStr_s, asLen_f, asCells_f, cut_all eI_len]
/-! sums -/
def addV (a b : List Int) (i : Nat) : Int := (a.getD i 0 + b.getD i 0) % 1009
def yAdd (a b : List Int) : List Int := yTrim (arr (max a.length b.length) (addV a b))
theorem yAdd_len (a b : List Int) : (yAdd a b).length ≤ max a.length b.length := by
  have := yTrim_len (arr (max a.length b.length) (addV a b))
  rw [arr_len] at this
  exact this
theorem getD_i {l : List Int} {i : Nat} (h : i < l.length) : l.getD i 0 = l[i] := by simp [List.getD_eq_getElem?_getD, List.getElem?_eq_getElem h]
theorem getD_o {l : List Int} {i : Nat} (h : ¬ i < l.length) : l.getD i 0 = 0 := by simp [List.getD_eq_getElem?_getD, List.getElem?_eq_none (Nat.le_of_not_lt h)]
/-- The first i are summed. -/
def upto_ (i : Nat) (v : Nat → Int) : Nat → Int := fun j => if j < i then v j else 0
theorem upto_s (n i : Nat) (v : Nat → Int) (x : Int) (h : x = v i) : arr n (updF (upto_ i v) i x) = arr n (upto_ (i + 1) v) := arr_ext fun j _ => by
  unfold updF upto_
  by_cases c : j = i
  · rw [if_pos c, if_pos (by omega), h, c]
  · rw [if_neg c]
    by_cases c2 : j < i
    · rw [if_pos c2, if_pos (by omega)]
    · rw [if_neg c2, if_neg (by omega)]
theorem upto_self (n i : Nat) (v : Nat → Int) (h : v i = 0) : arr n (upto_ i v) = arr n (upto_ (i + 1) v) := arr_ext fun j _ => by
  unfold upto_
  by_cases c : j = i
  · subst c; rw [if_neg (by omega), if_pos (by omega), h]
  · by_cases c2 : j < i
    · rw [if_pos c2, if_pos (by omega)]
    · rw [if_neg c2, if_neg (by omega)]
theorem updF2 (f : Nat → Int) (i : Nat) (x y : Int) : updF (updF f i x) i y = updF f i y := by
  funext j
  unfold updF
  split <;> rfl
theorem updF_i (f : Nat → Int) (i : Nat) (x : Int) : updF f i x i = x := if_pos rfl
theorem spec_PolyAdd_l (a b : List Int) (n : Nat) (hn : n = max a.length b.length) (hb : n ≤ 1000000) (d : Nat) : ∀ i : Nat, i + d = n →
    Ev (fun k m _ _ => L_spec_PolyAdd_0 k m b.length (b.flatMap eI) n a.length (a.flatMap eI) (n : Int) (i : Int) ((arr n (upto_ i (addV a b))).flatMap eI)) [.fs (yAdd a b).length ((yAdd a b).flatMap eI)] := by
  induction d with
  | zero =>
    intro i hi
    refine Ev.step (fun k m _ _ => L_spec_PolyAdd_0_s k m _ _ _ _ _ _ _ _) (Ev.f (ltI_f (by omega)) ?_)
    have : arr n (upto_ i (addV a b)) = arr n (addV a b) := arr_ext fun j hj => if_pos (by omega)
    rw [this]
    unfold yAdd
    rw [← hn]
    exact spec_trimmed n hb _
  | succ d ih =>
    intro i hi
    have hin : i < n := by omega
    have hz : upto_ i (addV a b) i = 0 := if_neg (by omega)
    have hnext := ih (i + 1) (by omega)
    rw [← wrS (show i < 9223372036854775807 by omega)] at hnext
    refine Ev.step (fun k m _ _ => L_spec_PolyAdd_0_s k m _ _ _ _ _ _ _ _) (Ev.t (ltI_t (by omega)) ?_)
    by_cases ha : i < a.length
    · refine Ev.t (ltI_t (by rw [lenI_c]; omega)) (Ev.g (inR_n hin) ?_)
      rw [arr_cell _ hin, ei ha]
      refine Ev.g rfl (Ev.g (inR_n ha) (Ev.g rfl (Ev.c (spec_ScAdd_ev _ _) (Ev.g (inR_n hin) (Ev.g (arr_ble _ hin) ?_)))))
      simp only [hdV_c, tlV_c, parts1_a, asInt_i, asBool_b, asStr_s, asLen_f, asCells_f, hz, arr_set _ hin]
      by_cases hb' : i < b.length
      · refine Ev.t (ltI_t (by rw [lenI_c]; omega)) (Ev.g (inR_n hin) ?_)
        rw [arr_cell _ hin, ei hb']
        refine Ev.g rfl (Ev.g (inR_n hb') (Ev.g rfl (Ev.c (spec_ScAdd_ev _ _) (Ev.g (inR_n hin) (Ev.g (arr_ble _ hin) ?_)))))
        simp only [hdV_c, tlV_c, parts1_a, asInt_i, asBool_b, asStr_s, asLen_f, asCells_f, updF_i, arr_set _ hin, updF2]
        rw [upto_s n i (addV a b) _ (by unfold addV; rw [getD_i ha, getD_i hb']; omega)]
        exact hnext
      · refine Ev.f (ltI_f (by rw [lenI_c]; omega)) ?_
        rw [upto_s n i (addV a b) _ (by unfold addV; rw [getD_i ha, getD_o hb']; omega)]
        exact hnext
    · refine Ev.f (ltI_f (by rw [lenI_c]; omega)) ?_
      have hb' : i < b.length := by omega
      refine Ev.t (ltI_t (by rw [lenI_c]; omega)) (Ev.g (inR_n hin) ?_)
      rw [arr_cell _ hin, ei hb']
      refine Ev.g rfl (Ev.g (inR_n hb') (Ev.g rfl (Ev.c (spec_ScAdd_ev _ _) (Ev.g (inR_n hin) (Ev.g (arr_ble _ hin) ?_)))))
      simp only [hdV_c, tlV_c, parts1_a, asInt_i, asBool_b, asStr_s, asLen_f, asCells_f, hz, arr_set _ hin]
      rw [upto_s n i (addV a b) _ (by unfold addV; rw [getD_o ha, getD_i hb'])]
      exact hnext
theorem spec_PolyAdd_ev (a b : List Int) (ha : a.length ≤ 1000000) (hb : b.length ≤ 1000000) : Does cp n_spec_PolyAdd [.fs a.length (a.flatMap eI), .fs b.length (b.flatMap eI)] [.fs (yAdd a b).length ((yAdd a b).flatMap eI)] := by
  have h0 : ∀ n, arr n (fun _ => 0) = arr n (upto_ 0 (addV a b)) := fun n => arr_ext fun j _ => (if_neg (by omega)).symm
  refine Ev.fn (fun k => F_spec_PolyAdd k _ _ _ _) (Ev.b (fun h => ?_) (fun h => ?_))
  · have := ltI_to h
    rw [lenI_c, lenI_c] at this
    refine Ev.g (fit_small (by omega) (by decide)) ?_
    rw [show natI (lenI b.length) = b.length from rfl, arr_zero, h0]
    exact (spec_PolyAdd_l a b b.length (by omega) hb b.length 0 (by omega)).l0
  · have := ltI_fo h
    rw [lenI_c, lenI_c] at this
    refine Ev.g (fit_small (by omega) (by decide)) ?_
    rw [show natI (lenI a.length) = a.length from rfl, arr_zero, h0]
    exact (spec_PolyAdd_l a b a.length (by omega) ha a.length 0 (by omega)).l0
theorem impl_PolyAdd_l1 (a b : List Int) (n : Nat) (hn : n = max a.length b.length) (hb : n ≤ 1000000) (d : Nat) : ∀ (i : Nat) (f : Nat → Int), i + d = b.length → (∀ j, j < n → f j = if j < i then addV a b j else a.getD j 0 % 1009) →
    Ev (fun k m _ _ => L_impl_PolyAdd_1 k m n b.length (b.flatMap eI) (lenI b.length) (i : Int) ((arr n f).flatMap eI)) [.fs (yAdd a b).length ((yAdd a b).flatMap eI)] := by
  induction d with
  | zero =>
    intro i f hi hf
    refine Ev.step (fun k m _ _ => L_impl_PolyAdd_1_s k m _ _ _ _ _ _) (Ev.f (ltI_f (by rw [lenI_c]; omega)) ?_)
    have : arr n f = arr n (addV a b) := arr_ext fun j hj => by
      rw [hf j hj]
      by_cases c : j < i
      · rw [if_pos c]
      · rw [if_neg c]; unfold addV; rw [getD_o (l := b) (by omega), Int.add_zero]
    rw [this]
    unfold yAdd
    rw [← hn]
    exact impl_trimmed n hb _
  | succ d ih =>
    intro i f hi hf
    have hib : i < b.length := by omega
    have hin : i < n := by omega
    have hfi : f i = a.getD i 0 % 1009 := by rw [hf i hin, if_neg (by omega)]
    refine Ev.step (fun k m _ _ => L_impl_PolyAdd_1_s k m _ _ _ _ _ _) (Ev.t (ltI_t (by rw [lenI_c]; omega)) (Ev.g (inR_n hib) ?_))
    rw [arr_cell _ hin, ei hib]
    refine Ev.g rfl (Ev.g (inR_n hin) (Ev.g rfl (Ev.c (impl_ScAdd_ev _ _) (Ev.g (inR_n hin) (Ev.g (arr_ble _ hin) ?_)))))
    simp only [hdV_c, tlV_c, parts1_a, asInt_i, asBool_b, asStr_s, asLen_f, asCells_f, arr_set _ hin, wrS (show i < 9223372036854775807 by omega)]
    refine ih (i + 1) _ (by omega) fun j hj => ?_
    unfold updF
    by_cases c : j = i
    · subst c
      rw [if_pos rfl, if_pos (by omega), hfi]
      unfold addV
      rw [getD_i hib]; omega
    · rw [if_neg c, hf j hj]
      by_cases c2 : j < i
      · rw [if_pos c2, if_pos (by omega)]
      · rw [if_neg c2, if_neg (by omega)]
theorem impl_PolyAdd_l (a b : List Int) (n : Nat) (hn : n = max a.length b.length) (hb : n ≤ 1000000) (d : Nat) : ∀ i : Nat, i + d = a.length →
    Ev (fun k m _ _ => L_impl_PolyAdd_0 k m n a.length (a.flatMap eI) b.length (b.flatMap eI) (lenI a.length) (i : Int) ((arr n (upto_ i (fun j => a.getD j 0 % 1009))).flatMap eI)) [.fs (yAdd a b).length ((yAdd a b).flatMap eI)] := by
  induction d with
  | zero =>
    intro i hi
    refine Ev.step (fun k m _ _ => L_impl_PolyAdd_0_s k m _ _ _ _ _ _ _ _) (Ev.f (ltI_f (by rw [lenI_c]; omega)) ?_)
    refine (impl_PolyAdd_l1 a b n hn hb b.length 0 _ (by omega) fun j hj => ?_).l0
    rw [if_neg (by omega)]
    unfold upto_
    by_cases c : j < i
    · rw [if_pos c]
    · rw [if_neg c, getD_o (by omega)]; rfl
  | succ d ih =>
    intro i hi
    have hia : i < a.length := by omega
    have hin : i < n := by omega
    refine Ev.step (fun k m _ _ => L_impl_PolyAdd_0_s k m _ _ _ _ _ _ _ _) (Ev.t (ltI_t (by rw [lenI_c]; omega)) (Ev.g (inR_n hia) ?_))
    rw [ei hia]
    refine Ev.g rfl (Ev.c (impl_ScOf_ev _) (Ev.g (inR_n hin) (Ev.g (arr_ble _ hin) ?_)))
    simp only [hdV_c, tlV_c, parts1_a, asInt_i, asBool_b, asStr_s, asLen_f, asCells_f, arr_set _ hin, wrS (show i < 9223372036854775807 by omega)]
    rw [upto_s n i _ _ (show a[i] % 1009 = (fun j => a.getD j 0 % 1009) i by simp only [getD_i hia])]
    exact ih (i + 1) (by omega)
theorem max_len (a b : List Int) : maxI (lenI a.length) (lenI b.length) = ((max a.length b.length : Nat) : Int) := by
  unfold maxI
  rw [lenI_c, lenI_c]
  split <;> omega
theorem impl_PolyAdd_ev (a b : List Int) (ha : a.length ≤ 1000000) (hb : b.length ≤ 1000000) : Does cp n_impl_PolyAdd [.fs a.length (a.flatMap eI), .fs b.length (b.flatMap eI)] [.fs (yAdd a b).length ((yAdd a b).flatMap eI)] := by
  refine Ev.fn (fun k => F_impl_PolyAdd k _ _ _ _) ?_
  rw [max_len]
  refine Ev.g (fit_small (n := max a.length b.length) (by omega) (by decide)) ?_
  rw [show natI ((max a.length b.length : Nat) : Int) = max a.length b.length from rfl, arr_zero, show arr (max a.length b.length) (fun _ => 0) = arr (max a.length b.length) (upto_ 0 (fun j => a.getD j 0 % 1009)) from arr_ext fun j _ => (if_neg (by omega)).symm]
  exact (impl_PolyAdd_l a b _ rfl (by omega) a.length 0 (by omega)).l0
/-! multiples -/
def yScale (a : List Int) (k : Int) : List Int := a.map fun x => x * k % 1009
theorem yScale_len (a : List Int) (k : Int) : (yScale a k).length = a.length := by simp [yScale]
theorem spec_l14Scale_l (l : List Int) (x : Int) (hl : l.length ≤ 1000000) (d : Nat) : ∀ i : Nat, i + d = l.length → Ev (fun k m _ _ => L_spec_l14Scale_0 k m x l.length (l.flatMap eI) (i : Int) (yScale (l.take i) x).length ((yScale (l.take i) x).flatMap eI)) [.fs (yScale l x).length ((yScale l x).flatMap eI)] := by
  induction d with
  | zero =>
    intro i hi
    refine Ev.step (fun k m _ _ => L_spec_l14Scale_0_s k m _ _ _ _ _ _) (Ev.f (ltI_f (by rw [lenI_c]; omega)) (Ev.some_ ?_))
    rw [List.take_of_length_le (by omega), cut_all eI_len]
  | succ d ih =>
    intro i hi
    have hi' : i < l.length := by omega
    have hm : yScale (l.take i) x ++ [l[i] * x % 1009] = yScale (l.take (i + 1)) x := by unfold yScale; rw [← take_next l i hi', List.map_append]; rfl
    refine Ev.step (fun k m _ _ => L_spec_l14Scale_0_s k m _ _ _ _ _ _) (Ev.t (ltI_t (by rw [lenI_c]; omega)) (Ev.g (inR_n hi') ?_))
    simp only [ei hi', hdV_c, tlV_c, parts1_a, asInt_i, asBool_b, asStr_s, asLen_f, asCells_f]
    refine Ev.g rfl (Ev.c (spec_ScMul_ev l[i] x) (Ev.g (fitN_small (by rw [addN_d, yScale_len, List.length_take]; omega) (by decide)) ?_))
    simp only [hdV_c, tlV_c, parts1_a, asInt_i, asBool_b, asStr_s, asLen_f, asCells_f, wrS (show i < 9223372036854775807 by omega)]
    rw [catE, addN1 _ (l[i] * x % 1009), hm]
    exact ih (i + 1) (by omega)
theorem spec_l14Scale_ev (l : List Int) (x : Int) (hl : l.length ≤ 1000000) : Does cp n_spec_l14Scale [.fs l.length (l.flatMap eI), .int .i64 x] [.fs (yScale l x).length ((yScale l x).flatMap eI)] := Ev.fn (fun k => F_spec_l14Scale k _ _ _) (spec_l14Scale_l l x hl l.length 0 (by omega)).l0
theorem impl_scaled_l (l : List Int) (x : Int) (hl : l.length ≤ 1000000) (d : Nat) : ∀ i : Nat, i + d = l.length → Ev (fun k m _ _ => L_impl_scaled_0 k m x l.length l.length (l.flatMap eI) (lenI l.length) (i : Int) ((arr l.length (upto_ i (fun j => l.getD j 0 * x % 1009))).flatMap eI)) [.fs (yScale l x).length ((yScale l x).flatMap eI)] := by
  induction d with
  | zero =>
    intro i hi
    refine Ev.step (fun k m _ _ => L_impl_scaled_0_s k m _ _ _ _ _ _ _) (Ev.f (ltI_f (by rw [lenI_c]; omega)) (Ev.some_ ?_))
    rw [arr_cut, arr_of l _ (fun a => a * x % 1009) (fun j hj => by unfold upto_; rw [if_pos (by omega)]; simp only [getD_i hj]), yScale_len]
    rfl
  | succ d ih =>
    intro i hi
    have hi' : i < l.length := by omega
    refine Ev.step (fun k m _ _ => L_impl_scaled_0_s k m _ _ _ _ _ _ _) (Ev.t (ltI_t (by rw [lenI_c]; omega)) (Ev.g (inR_n hi') ?_))
    rw [ei hi']
    refine Ev.g rfl (Ev.c (impl_ScMul_ev _ x) (Ev.g (inR_n hi') (Ev.g (arr_ble _ hi') ?_)))
    simp only [hdV_c, tlV_c, parts1_a, asInt_i, asBool_b, asStr_s, asLen_f, asCells_f, arr_set _ hi', wrS (show i < 9223372036854775807 by omega)]
    rw [upto_s l.length i _ _ (show l[i] * x % 1009 = (fun j => l.getD j 0 * x % 1009) i by simp only [getD_i hi'])]
    exact ih (i + 1) (by omega)
theorem impl_scaled_ev (l : List Int) (x : Int) (hl : l.length ≤ 1000000) : Does cp n_impl_scaled [.fs l.length (l.flatMap eI), .int .i64 x] [.fs (yScale l x).length ((yScale l x).flatMap eI)] := by
  refine Ev.fn (fun k => F_impl_scaled k _ _ _) (Ev.g (fit_small (by omega) (by decide)) ?_)
  rw [show natI (lenI l.length) = l.length from rfl, arr_zero, show arr l.length (fun _ => 0) = arr l.length (upto_ 0 (fun j => l.getD j 0 * x % 1009)) from arr_ext fun j _ => (if_neg (by omega)).symm]
  exact (impl_scaled_l l x hl l.length 0 (by omega)).l0
/-! at a place -/
def yAtGo (l : List Int) (x : Int) : Nat → Int → Int
  | 0, s => s
  | i + 1, s => yAtGo l x i ((s * x % 1009 + l.getD i 0) % 1009)
def yAt (l : List Int) (x : Int) : Int := yAtGo l x l.length 0
theorem spec_PolyAt_l (l : List Int) (x : Int) (hl : l.length ≤ 1000000) (i : Nat) : ∀ s : Int, i ≤ l.length → Ev (fun k m _ _ => L_spec_PolyAt_0 k m l.length (l.flatMap eI) x ((i : Int) - 1) s) [.int .i64 (yAtGo l x i s)] := by
  induction i with
  | zero =>
    intro s h
    exact Ev.step (fun k m _ _ => L_spec_PolyAt_0_s k m _ _ _ _ _) (Ev.f (leI_f (by omega)) (Ev.now _))
  | succ i ih =>
    intro s h
    have hi : i < l.length := by omega
    have e : ((i + 1 : Nat) : Int) - 1 = (i : Int) := by omega
    have e2 : wr .i64 (subI (i : Int) 1) = (i : Int) - 1 := by rw [subI_d, wr64 (by omega)]
    rw [e]
    refine Ev.step (fun k m _ _ => L_spec_PolyAt_0_s k m _ _ _ _ _) (Ev.t (leI_t (by omega)) (Ev.c (spec_ScMul_ev s x) (Ev.g (inR_n hi) ?_)))
    rw [ei hi, e2]
    refine Ev.g rfl (Ev.c (spec_ScAdd_ev _ _) ?_)
    rw [yAtGo, getD_i hi]
    exact ih _ (by omega)
theorem spec_PolyAt_ev (l : List Int) (x : Int) (hl : l.length ≤ 1000000) : Does cp n_spec_PolyAt [.fs l.length (l.flatMap eI), .int .i64 x] [.int .i64 (yAt l x)] := by
  refine Ev.fn (fun k => F_spec_PolyAt k _ _ _) ?_
  rw [show wr .i64 (subI (lenI l.length) 1) = (l.length : Int) - 1 by rw [subI_d, lenI_c, wr64 (by omega)]]
  exact (spec_PolyAt_l l x hl l.length 0 (Nat.le_refl _)).l0
theorem impl_PolyAt_l (l : List Int) (x : Int) (hl : l.length ≤ 1000000) (i : Nat) : ∀ s : Int, i ≤ l.length → Ev (fun k m _ _ => L_impl_PolyAt_0 k m l.length (l.flatMap eI) x ((i : Int) - 1) s) [.int .i64 (yAtGo l x i s)] := by
  induction i with
  | zero =>
    intro s h
    exact Ev.step (fun k m _ _ => L_impl_PolyAt_0_s k m _ _ _ _ _) (Ev.f (leI_f (by omega)) (Ev.now _))
  | succ i ih =>
    intro s h
    have hi : i < l.length := by omega
    have e : ((i + 1 : Nat) : Int) - 1 = (i : Int) := by omega
    have e2 : wr .i64 (subI (i : Int) 1) = (i : Int) - 1 := by rw [subI_d, wr64 (by omega)]
    rw [e]
    refine Ev.step (fun k m _ _ => L_impl_PolyAt_0_s k m _ _ _ _ _) (Ev.t (leI_t (by omega)) (Ev.c (impl_ScMul_ev s x) (Ev.g (inR_n hi) ?_)))
    rw [ei hi, e2]
    refine Ev.g rfl (Ev.c (impl_ScAdd_ev _ _) ?_)
    rw [yAtGo, getD_i hi]
    exact ih _ (by omega)
theorem impl_PolyAt_ev (l : List Int) (x : Int) (hl : l.length ≤ 1000000) : Does cp n_impl_PolyAt [.fs l.length (l.flatMap eI), .int .i64 x] [.int .i64 (yAt l x)] := by
  refine Ev.fn (fun k => F_impl_PolyAt k _ _ _) ?_
  rw [show wr .i64 (subI (lenI l.length) 1) = (l.length : Int) - 1 by rw [subI_d, lenI_c, wr64 (by omega)]]
  exact (impl_PolyAt_l l x hl l.length 0 (Nat.le_refl _)).l0


/-! products -/
def mulIn (x : Int) (i : Nat) : List Int → Nat → (Nat → Int) → (Nat → Int)
  | [], _, f => f
  | y :: r, j, f => mulIn x i r (j + 1) (updF f (i + j) ((f (i + j) + x * y % 1009) % 1009))
def mulOut (ys : List Int) : List Int → Nat → (Nat → Int) → (Nat → Int)
  | [], _, f => f
  | x :: r, i, f => mulOut ys r (i + 1) (mulIn x i ys 0 f)
def yMulF (xs ys : List Int) : Nat → Int := mulOut ys xs 0 (fun _ => 0)
theorem mulIn_out (x : Int) (i : Nat) : ∀ (ys : List Int) (j : Nat) (f : Nat → Int) (t : Nat), i + j + ys.length ≤ t → mulIn x i ys j f t = f t
  | [], _, _, _, _ => rfl
  | y :: r, j, f, t, h => by
    rw [List.length_cons] at h
    rw [mulIn, mulIn_out x i r (j + 1) _ t (by omega)]
    exact if_neg (by omega)
theorem mulOut_out (ys : List Int) : ∀ (xs : List Int) (i : Nat) (f : Nat → Int) (t : Nat), i + xs.length + ys.length ≤ t + 1 → mulOut ys xs i f t = f t
  | [], _, _, _, _ => rfl
  | x :: r, i, f, t, h => by
    rw [List.length_cons] at h
    rw [mulOut, mulOut_out ys r (i + 1) _ t (by omega), mulIn_out x i ys 0 f t (by omega)]
theorem mulOut_nil (xs : List Int) : ∀ (i : Nat) (f : Nat → Int), mulOut [] xs i f = f := by
  induction xs with
  | nil => intro i f; rfl
  | cons x r ih => intro i f; rw [mulOut, ih]; rfl
def yMul (xs ys : List Int) : List Int := if xs.length = 0 ∨ ys.length = 0 ∨ 64 < xs.length ∨ 64 < ys.length then [] else yTrim (arr (xs.length + ys.length - 1) (yMulF xs ys))
theorem yMul_len (xs ys : List Int) : (yMul xs ys).length ≤ 128 := by
  unfold yMul
  split
  · simp
  · have := yTrim_len (arr (xs.length + ys.length - 1) (yMulF xs ys))
    rw [arr_len] at this
    omega
theorem trimN_app (z : List Int) (w : List Int) (n : Nat) (h : n ≤ z.length) : trimN (z ++ w) n = trimN z n := by
  induction n with
  | zero => rfl
  | succ n ih =>
    rw [trimN, trimN, ih (by omega)]
    have : (z ++ w).getD n 0 = z.getD n 0 := by rw [getD_i (by rw [List.length_append]; omega), getD_i (by omega), List.getElem_append_left (by omega)]
    rw [this]
theorem trimZ_snoc (z : List Int) : trimZ (z ++ [0]) = trimZ z := by
  unfold trimZ
  rw [List.length_append, List.length_singleton, trimN, if_pos, trimN_app z [0] _ (Nat.le_refl _), List.take_append_of_le_length (trimN_le _ _)]
  rw [getD_i (by rw [List.length_append, List.length_singleton]; omega)]
  simp
theorem arr_succ (n : Nat) (f : Nat → Int) : arr (n + 1) f = arr n f ++ [f n] := by unfold arr; rw [List.range_succ, List.map_append]; rfl
theorem yTrim_zero {n : Nat} {f : Nat → Int} (h : f n = 0) : yTrim (arr (n + 1) f) = yTrim (arr n f) := by
  unfold yTrim
  rw [arr_succ, List.map_append, h]
  exact trimZ_snoc _
theorem yTrim_zeros (n : Nat) : yTrim (arr n (fun _ => 0)) = [] := by
  induction n with
  | zero => rfl
  | succ n ih => rw [yTrim_zero (f := fun _ => 0) rfl, ih]
theorem yMul_impl (xs ys : List Int) (hx : ¬ 64 < xs.length) (hy : ¬ 64 < ys.length) : yTrim (arr (xs.length + ys.length) (yMulF xs ys)) = yMul xs ys := by
  unfold yMul
  by_cases h0 : xs.length = 0
  · rw [if_pos (Or.inl h0)]
    have : yMulF xs ys = fun _ => 0 := by rw [List.eq_nil_of_length_eq_zero h0]; rfl
    rw [this, yTrim_zeros]
  · by_cases h1 : ys.length = 0
    · rw [if_pos (Or.inr (Or.inl h1))]
      have : yMulF xs ys = fun _ => 0 := by rw [List.eq_nil_of_length_eq_zero h1]; exact mulOut_nil _ _ _
      rw [this, yTrim_zeros]
    · rw [if_neg (by omega)]
      obtain ⟨n, hn⟩ : ∃ n, xs.length + ys.length = n + 1 := ⟨xs.length + ys.length - 1, by omega⟩
      rw [hn, Nat.add_sub_cancel]
      exact yTrim_zero (by unfold yMulF; rw [mulOut_out _ _ _ _ _ (by omega)])
theorem spec_mul_in (xs ys : List Int) (hx : xs.length ≤ 64) (hy : ys.length ≤ 64) (n : Nat) (hn : n = xs.length + ys.length - 1) (i : Nat) (hi : i < xs.length) (R : List AV) (d : Nat) : ∀ (j : Nat) (f : Nat → Int), j + d = ys.length →
    Ev (fun k m _ _ => L_spec_PolyMul_0 k m ys.length (ys.flatMap eI) ((i + 1 : Nat) : Int) xs.length (xs.flatMap eI) n ((arr n (mulIn xs[i] i (ys.drop j) j f)).flatMap eI)) R →
    Ev (fun k m p _ => L_spec_PolyMul_1 k m p ys.length (ys.flatMap eI) (i : Int) xs.length (xs.flatMap eI) n (j : Int) ((arr n f).flatMap eI)) R := by
  induction d with
  | zero =>
    intro j f hj he
    rw [List.drop_eq_nil_of_le (by omega)] at he
    refine Ev.step (fun k m p _ => L_spec_PolyMul_1_s k m p _ _ _ _ _ _ _ _) (Ev.f (ltI_f (by rw [lenI_c]; omega)) ?_)
    rw [wrS (show i < 9223372036854775807 by omega)]
    exact he.o1
  | succ d ih =>
    intro j f hj he
    have hj' : j < ys.length := by omega
    have hij : i + j < n := by omega
    have ew : wr .i64 (addI (i : Int) (j : Int)) = ((i + j : Nat) : Int) := by rw [addI_d, wr64 (by omega)]; omega
    rw [List.drop_eq_getElem_cons hj', mulIn] at he
    refine Ev.step (fun k m p _ => L_spec_PolyMul_1_s k m p _ _ _ _ _ _ _ _) (Ev.t (ltI_t (by rw [lenI_c]; omega)) ?_)
    rw [ew, arr_cell _ hij, ei hi, ei hj']
    refine Ev.g (inR_n hij) (Ev.g rfl (Ev.g (inR_n hi) (Ev.g rfl (Ev.g (inR_n hj') (Ev.g rfl (Ev.c (spec_ScMul_ev _ _) (Ev.c (spec_ScAdd_ev _ _) (Ev.g (inR_n hij) (Ev.g (arr_ble _ hij) ?_)))))))))
    simp only [hdV_c, tlV_c, parts1_a, asInt_i, asBool_b, asStr_s, asLen_f, asCells_f, arr_set _ hij, wrS (show j < 9223372036854775807 by omega)]
    exact ih (j + 1) _ (by omega) he
theorem spec_mul_out (xs ys : List Int) (hx : xs.length ≤ 64) (hy : ys.length ≤ 64) (n : Nat) (hn : n = xs.length + ys.length - 1) (d : Nat) : ∀ (i : Nat) (f : Nat → Int), i + d = xs.length →
    Ev (fun k m _ _ => L_spec_PolyMul_0 k m ys.length (ys.flatMap eI) (i : Int) xs.length (xs.flatMap eI) n ((arr n f).flatMap eI)) [.fs (yTrim (arr n (mulOut ys (xs.drop i) i f))).length ((yTrim (arr n (mulOut ys (xs.drop i) i f))).flatMap eI)] := by
  induction d with
  | zero =>
    intro i f hi
    rw [List.drop_eq_nil_of_le (by omega)]
    exact Ev.step (fun k m _ _ => L_spec_PolyMul_0_s k m _ _ _ _ _ _ _) (Ev.f (ltI_f (by rw [lenI_c]; omega)) (spec_trimmed n (by omega) f))
  | succ d ih =>
    intro i f hi
    have hi' : i < xs.length := by omega
    have := ih (i + 1) (mulIn xs[i] i ys 0 f) (by omega)
    rw [List.drop_eq_getElem_cons hi', mulOut]
    exact Ev.step (fun k m _ _ => L_spec_PolyMul_0_s k m _ _ _ _ _ _ _) (Ev.t (ltI_t (by rw [lenI_c]; omega)) (spec_mul_in xs ys hx hy n hn i hi' _ ys.length 0 f (by omega) this).l1)
theorem spec_PolyMul_ev (xs ys : List Int) (hx : xs.length ≤ 1000000) (hy : ys.length ≤ 1000000) : Does cp n_spec_PolyMul [.fs xs.length (xs.flatMap eI), .fs ys.length (ys.flatMap eI)] [.fs (yMul xs ys).length ((yMul xs ys).flatMap eI)] := by
  refine Ev.fn (fun k => F_spec_PolyMul k _ _ _ _) ?_
  unfold yMul
  by_cases h0 : xs.length = 0
  · rw [if_pos (Or.inl h0)]; exact Ev.t (eqI_t (by rw [lenI_c]; omega)) (Ev.now _)
  refine Ev.f (eqI_f (by rw [lenI_c]; omega)) ?_
  by_cases h1 : ys.length = 0
  · rw [if_pos (Or.inr (Or.inl h1))]; exact Ev.t (eqI_t (by rw [lenI_c]; omega)) (Ev.now _)
  refine Ev.f (eqI_f (by rw [lenI_c]; omega)) ?_
  by_cases h2 : 64 < xs.length
  · rw [if_pos (by omega)]; exact Ev.t (ltI_t (by rw [lenI_c]; omega)) (Ev.now _)
  refine Ev.f (ltI_f (by rw [lenI_c]; omega)) ?_
  by_cases h3 : 64 < ys.length
  · rw [if_pos (by omega)]; exact Ev.t (ltI_t (by rw [lenI_c]; omega)) (Ev.now _)
  refine Ev.f (ltI_f (by rw [lenI_c]; omega)) ?_
  rw [if_neg (by omega)]
  have e : wr .i64 (subI (wr .i64 (addI (lenI xs.length) (lenI ys.length))) 1) = lenI (xs.length + ys.length - 1) := by
    rw [lenI_c, lenI_c, lenI_c, addI_d, wr64 (n := (xs.length : Int) + (ys.length : Int)) (by omega), subI_d, wr64 (by omega)]; omega
  rw [e]
  refine Ev.g (fit_small (by omega) (by decide)) ?_
  rw [show natI (lenI (xs.length + ys.length - 1)) = xs.length + ys.length - 1 from rfl, arr_zero]
  exact (spec_mul_out xs ys (by omega) (by omega) _ rfl xs.length 0 _ (by omega)).l0
theorem impl_mul_in (xs ys : List Int) (hx : xs.length ≤ 64) (hy : ys.length ≤ 64) (n : Nat) (hn : n = xs.length + ys.length) (i : Nat) (hi : i < xs.length) (R : List AV) (d : Nat) : ∀ (j : Nat) (f : Nat → Int), j + d = ys.length →
    Ev (fun k m _ _ => L_impl_PolyMul_0 k m n ys.length (ys.flatMap eI) xs.length (xs.flatMap eI) (lenI xs.length) ((i + 1 : Nat) : Int) ((arr n (mulIn xs[i] i (ys.drop j) j f)).flatMap eI)) R →
    Ev (fun k m p _ => L_impl_PolyMul_1 k m p xs[i] (i : Int) n ys.length (ys.flatMap eI) ys.length (ys.flatMap eI) xs.length (xs.flatMap eI) (lenI xs.length) (i : Int) (lenI ys.length) (j : Int) ((arr n f).flatMap eI)) R := by
  induction d with
  | zero =>
    intro j f hj he
    rw [List.drop_eq_nil_of_le (by omega)] at he
    refine Ev.step (fun k m p _ => L_impl_PolyMul_1_s k m p _ _ _ _ _ _ _ _ _ _ _ _ _ _) (Ev.f (ltI_f (by rw [lenI_c]; omega)) ?_)
    rw [wrS (show i < 9223372036854775807 by omega)]
    exact he.o1
  | succ d ih =>
    intro j f hj he
    have hj' : j < ys.length := by omega
    have hij : i + j < n := by omega
    have ew : wr .i64 (addI (i : Int) (j : Int)) = ((i + j : Nat) : Int) := by rw [addI_d, wr64 (by omega)]; omega
    rw [List.drop_eq_getElem_cons hj', mulIn] at he
    refine Ev.step (fun k m p _ => L_impl_PolyMul_1_s k m p _ _ _ _ _ _ _ _ _ _ _ _ _ _) (Ev.t (ltI_t (by rw [lenI_c]; omega)) ?_)
    rw [ew, arr_cell _ hij, ei hj']
    refine Ev.g (inR_n hj') (Ev.g rfl (Ev.g (inR_n hij) (Ev.g rfl (Ev.c (impl_ScMul_ev _ _) (Ev.c (impl_ScAdd_ev _ _) (Ev.g (inR_n hij) (Ev.g (arr_ble _ hij) ?_)))))))
    simp only [hdV_c, tlV_c, parts1_a, asInt_i, asBool_b, asStr_s, asLen_f, asCells_f, arr_set _ hij, wrS (show j < 9223372036854775807 by omega)]
    exact ih (j + 1) _ (by omega) he
theorem impl_mul_out (xs ys : List Int) (hx : xs.length ≤ 64) (hy : ys.length ≤ 64) (n : Nat) (hn : n = xs.length + ys.length) (d : Nat) : ∀ (i : Nat) (f : Nat → Int), i + d = xs.length →
    Ev (fun k m _ _ => L_impl_PolyMul_0 k m n ys.length (ys.flatMap eI) xs.length (xs.flatMap eI) (lenI xs.length) (i : Int) ((arr n f).flatMap eI)) [.fs (yTrim (arr n (mulOut ys (xs.drop i) i f))).length ((yTrim (arr n (mulOut ys (xs.drop i) i f))).flatMap eI)] := by
  induction d with
  | zero =>
    intro i f hi
    rw [List.drop_eq_nil_of_le (by omega)]
    exact Ev.step (fun k m _ _ => L_impl_PolyMul_0_s k m _ _ _ _ _ _ _ _) (Ev.f (ltI_f (by rw [lenI_c]; omega)) (impl_trimmed n (by omega) f))
  | succ d ih =>
    intro i f hi
    have hi' : i < xs.length := by omega
    have := ih (i + 1) (mulIn xs[i] i ys 0 f) (by omega)
    rw [List.drop_eq_getElem_cons hi', mulOut]
    refine Ev.step (fun k m _ _ => L_impl_PolyMul_0_s k m _ _ _ _ _ _ _ _) (Ev.t (ltI_t (by rw [lenI_c]; omega)) (Ev.g (inR_n hi') ?_))
    rw [ei hi']
    exact Ev.g rfl (impl_mul_in xs ys hx hy n hn i hi' _ ys.length 0 f (by omega) this).l1
theorem impl_PolyMul_ev (xs ys : List Int) (hx : xs.length ≤ 1000000) (hy : ys.length ≤ 1000000) : Does cp n_impl_PolyMul [.fs xs.length (xs.flatMap eI), .fs ys.length (ys.flatMap eI)] [.fs (yMul xs ys).length ((yMul xs ys).flatMap eI)] := by
  refine Ev.fn (fun k => F_impl_PolyMul k _ _ _ _) ?_
  by_cases h2 : 64 < xs.length
  · unfold yMul; rw [if_pos (by omega)]; exact Ev.t (ltI_t (by rw [lenI_c]; omega)) (Ev.now _)
  refine Ev.f (ltI_f (by rw [lenI_c]; omega)) ?_
  by_cases h3 : 64 < ys.length
  · unfold yMul; rw [if_pos (by omega)]; exact Ev.t (ltI_t (by rw [lenI_c]; omega)) (Ev.now _)
  refine Ev.f (ltI_f (by rw [lenI_c]; omega)) ?_
  rw [← yMul_impl xs ys h2 h3]
  have e : wr .i64 (addI (lenI xs.length) (lenI ys.length)) = lenI (xs.length + ys.length) := by
    rw [lenI_c, lenI_c, lenI_c, addI_d, wr64 (by omega)]; omega
  rw [e]
  refine Ev.g (fit_small (by omega) (by decide)) ?_
  rw [show natI (lenI (xs.length + ys.length)) = xs.length + ys.length from rfl, arr_zero]
  exact (impl_mul_out xs ys (by omega) (by omega) _ rfl xs.length 0 _ (by omega)).l0
/-! what is 0 at 1, 2, .. -/
def zeroGo : Nat → Nat → List Int → List Int
  | 0, _, o => o
  | d + 1, i, o => zeroGo d (i + 1) (yMul o [-(i : Int), 1])
def yZero (n : Int) : List Int := if 0 ≤ n ∧ n ≤ 16 then zeroGo n.toNat 1 [1] else []
theorem zeroGo_len (d : Nat) : ∀ (i : Nat) (o : List Int), o.length ≤ 128 → (zeroGo d i o).length ≤ 128 := by
  induction d with
  | zero => intro i o h; exact h
  | succ d ih => intro i o h; exact ih _ _ (yMul_len _ _)
theorem yZero_len (n : Int) : (yZero n).length ≤ 128 := by
  unfold yZero
  split
  · exact zeroGo_len _ _ _ (by simp)
  · simp
theorem spec_PolyZero_l (n : Nat) (hn : n ≤ 16) (d : Nat) : ∀ (i : Nat) (o : List Int), i + d = n + 1 → o.length ≤ 128 → Ev (fun k m _ _ => L_spec_PolyZero_0 k m (n : Int) (i : Int) o.length (o.flatMap eI)) [.fs (zeroGo d i o).length ((zeroGo d i o).flatMap eI)] := by
  induction d with
  | zero =>
    intro i o hi ho
    refine Ev.step (fun k m _ _ => L_spec_PolyZero_0_s k m _ _ _ _) (Ev.f (leI_f (by omega)) (Ev.some_ ?_))
    rw [cut_all eI_len]; rfl
  | succ d ih =>
    intro i o hi ho
    have e : wr .i64 (subI 0 (i : Int)) = -(i : Int) := by rw [subI_d, wr64 (by omega)]; omega
    refine Ev.step (fun k m _ _ => L_spec_PolyZero_0_s k m _ _ _ _) (Ev.t (leI_t (by omega)) ?_)
    rw [cut_all eI_len, e]
    refine Ev.c (spec_PolyMul_ev o [-(i : Int), 1] (by omega) (by simp)) (Ev.g (plainI _) ?_)
    simp only [hdV_c, tlV_c, parts1_a, asInt_i, asBool_b, asStr_s, asLen_f, asCells_f, wrS (show i < 9223372036854775807 by omega)]
    exact ih (i + 1) _ (by omega) (yMul_len _ _)
theorem impl_PolyZero_l (n : Nat) (hn : n ≤ 16) (d : Nat) : ∀ (i : Nat) (o : List Int), i + d = n + 1 → o.length ≤ 128 → Ev (fun k m _ _ => L_impl_PolyZero_0 k m (n : Int) (i : Int) o.length (o.flatMap eI)) [.fs (zeroGo d i o).length ((zeroGo d i o).flatMap eI)] := by
  induction d with
  | zero =>
    intro i o hi ho
    refine Ev.step (fun k m _ _ => L_impl_PolyZero_0_s k m _ _ _ _) (Ev.f (leI_f (by omega)) (Ev.some_ ?_))
    rw [cut_all eI_len]; rfl
  | succ d ih =>
    intro i o hi ho
    have e : wr .i64 (subI 0 (i : Int)) = -(i : Int) := by rw [subI_d, wr64 (by omega)]; omega
    refine Ev.step (fun k m _ _ => L_impl_PolyZero_0_s k m _ _ _ _) (Ev.t (leI_t (by omega)) ?_)
    rw [cut_all eI_len, e]
    refine Ev.c (impl_PolyMul_ev o [-(i : Int), 1] (by omega) (by simp)) (Ev.g (plainI _) ?_)
    simp only [hdV_c, tlV_c, parts1_a, asInt_i, asBool_b, asStr_s, asLen_f, asCells_f, wrS (show i < 9223372036854775807 by omega)]
    exact ih (i + 1) _ (by omega) (yMul_len _ _)
theorem spec_l01In_ev (a b c : Int) : Does cp n_spec_l01In [.int .i64 a, .int .i64 b, .int .i64 c] [.bool (decide (b ≤ a ∧ a ≤ c))] := by
  refine Ev.fn (fun k => F_spec_l01In k _ _ _) (Ev.b (fun h => Ev.some_ ?_) (fun h => Ev.some_ ?_))
  · have := leI_to h
    rw [leI_d]
    congr 2
    exact decide_eq_decide.2 ⟨fun q => ⟨this, q⟩, fun q => q.2⟩
  · have := leI_fo h
    rw [decide_eq_false (by omega)]
theorem spec_PolyZero_ev (n : Int) : Does cp n_spec_PolyZero [.int .i64 n] [.fs (yZero n).length ((yZero n).flatMap eI)] := by
  refine Ev.fn (fun k => F_spec_PolyZero k _) (Ev.c (spec_l01In_ev n 0 16) ?_)
  unfold yZero
  by_cases h : 0 ≤ n ∧ n ≤ 16
  · rw [if_pos h]
    refine Ev.f (by simp only [hdV_c, tlV_c, parts1_a, asInt_i, asBool_b, asStr_s, asLen_f, asCells_f]; rw [decide_eq_true h]; rfl) ?_
    obtain ⟨n, rfl⟩ := Int.eq_ofNat_of_zero_le h.1
    exact (spec_PolyZero_l n (by omega) n 1 [1] (by omega) (by simp)).l0
  · rw [if_neg h]
    exact Ev.t (by simp only [hdV_c, tlV_c, parts1_a, asInt_i, asBool_b, asStr_s, asLen_f, asCells_f]; rw [decide_eq_false h]; rfl) (Ev.now _)
theorem impl_PolyZero_ev (n : Int) : Does cp n_impl_PolyZero [.int .i64 n] [.fs (yZero n).length ((yZero n).flatMap eI)] := by
  refine Ev.fn (fun k => F_impl_PolyZero k _) ?_
  unfold yZero
  by_cases h : n < 0
  · rw [if_neg (by omega)]; exact Ev.t (ltI_t h) (Ev.now _)
  refine Ev.f (ltI_f h) ?_
  by_cases h2 : 16 < n
  · rw [if_neg (by omega)]; exact Ev.t (ltI_t h2) (Ev.now _)
  rw [if_pos (by omega)]
  refine Ev.f (ltI_f h2) ?_
  obtain ⟨n, rfl⟩ := Int.eq_ofNat_of_zero_le (show 0 ≤ n by omega)
  exact (impl_PolyZero_l n (by omega) n 1 [1] (by omega) (by simp)).l0
/-! through points -/
def thrGo (i : Nat) : Nat → Nat → List Int → Int → List Int × Int
  | 0, _, o, b => (o, b)
  | d + 1, j, o, b => if j = i then thrGo i d (j + 1) o b else thrGo i d (j + 1) (yMul o [-((j : Int) + 1), 1]) (b * ((i : Int) - (j : Int)) % 1009)
theorem thrGo_len (i : Nat) (d : Nat) : ∀ (j : Nat) (o : List Int) (b : Int), o.length ≤ 128 → (thrGo i d j o b).1.length ≤ 128 := by
  induction d with
  | zero => intro j o b h; exact h
  | succ d ih =>
    intro j o b h
    rw [thrGo]
    split
    · exact ih _ _ _ h
    · exact ih _ _ _ (yMul_len _ _)
def thrOut (ys : List Int) : Nat → Nat → List Int → List Int
  | 0, _, o => o
  | d + 1, i, o => thrOut ys d (i + 1) (yAdd o (yScale (thrGo i ys.length 0 [1] 1).1 (ys.getD i 0 * scInv (thrGo i ys.length 0 [1] 1).2 % 1009)))
def yThrough (ys : List Int) : List Int := if 16 < ys.length then [] else thrOut ys ys.length 0 []
theorem thrOut_len (ys : List Int) (d : Nat) : ∀ (i : Nat) (o : List Int), o.length ≤ 128 → (thrOut ys d i o).length ≤ 128 := by
  induction d with
  | zero => intro i o h; exact h
  | succ d ih =>
    intro i o h
    refine ih _ _ ?_
    have h1 := thrGo_len i ys.length 0 [1] 1 (by simp)
    refine Nat.le_trans (yAdd_len _ _) ?_
    rw [yScale_len]
    omega
theorem yThrough_len (ys : List Int) : (yThrough ys).length ≤ 128 := by
  unfold yThrough
  split
  · simp
  · exact thrOut_len _ _ _ _ (by simp)
theorem negS {j : Nat} (h : j ≤ 100) : wr .i64 (subI 0 (wr .i64 (addI (j : Int) 1))) = -((j : Int) + 1) := by rw [addI_d, wr64 (n := (j : Int) + 1) (by omega), subI_d, wr64 (by omega)]; omega
theorem subS_ {i j : Nat} (hi : i ≤ 100) (hj : j ≤ 100) : wr .i64 (subI (i : Int) (j : Int)) = (i : Int) - (j : Int) := by rw [subI_d, wr64 (by omega)]
theorem spec_thr_in (ys : List Int) (hy : ys.length ≤ 16) (i : Nat) (hi : i < ys.length) (out : List Int) (ho : out.length ≤ 128) (R : List AV) (d : Nat) : ∀ (j : Nat) (o : List Int) (b : Int), j + d = ys.length → o.length ≤ 128 →
    Ev (fun k m _ _ => L_spec_PolyThrough_0 k m ((i + 1 : Nat) : Int) ys.length (ys.flatMap eI) (yAdd out (yScale (thrGo i d j o b).1 (ys.getD i 0 * scInv (thrGo i d j o b).2 % 1009))).length ((yAdd out (yScale (thrGo i d j o b).1 (ys.getD i 0 * scInv (thrGo i d j o b).2 % 1009))).flatMap eI)) R →
    Ev (fun k m p _ => L_spec_PolyThrough_1 k m p (i : Int) ys.length (ys.flatMap eI) out.length (j : Int) b o.length (out.flatMap eI) (o.flatMap eI)) R := by
  induction d with
  | zero =>
    intro j o b hj hl he
    refine Ev.step (fun k m p _ => L_spec_PolyThrough_1_s k m p _ _ _ _ _ _ _ _ _) (Ev.f (ltI_f (by rw [lenI_c]; omega)) (Ev.g (inR_n hi) ?_))
    rw [ei hi, cut_all eI_len, cut_all eI_len]
    refine Ev.g rfl (Ev.c (spec_ScInv_ev b) (Ev.c (spec_ScMul_ev _ _) (Ev.c (spec_l14Scale_ev o _ (by omega)) (Ev.g (plainI _) ?_))))
    simp only [hdV_c, tlV_c, parts1_a, asInt_i, asBool_b, asStr_s, asLen_f, asCells_f, cut_all eI_len]
    refine Ev.c (spec_PolyAdd_ev out _ (by omega) (by rw [yScale_len]; omega)) (Ev.g (plainI _) ?_)
    simp only [hdV_c, tlV_c, parts1_a, asInt_i, asBool_b, asStr_s, asLen_f, asCells_f, wrS (show i < 9223372036854775807 by omega)]
    rw [thrGo, getD_i hi] at he
    exact he.o1
  | succ d ih =>
    intro j o b hj hl he
    refine Ev.step (fun k m p _ => L_spec_PolyThrough_1_s k m p _ _ _ _ _ _ _ _ _) (Ev.t (ltI_t (by rw [lenI_c]; omega)) ?_)
    rw [thrGo] at he
    by_cases c : j = i
    · rw [if_pos c] at he
      refine Ev.f (by rw [eqI_t (by omega)]; rfl) ?_
      rw [wrS (show j < 9223372036854775807 by omega)]
      exact ih (j + 1) o b (by omega) hl he
    · rw [if_neg c] at he
      refine Ev.t (by rw [eqI_f (by omega)]; rfl) ?_
      rw [cut_all eI_len, negS (by omega), subS_ (by omega) (by omega), wrS (show j < 9223372036854775807 by omega)]
      exact Ev.c (spec_PolyMul_ev o [-((j : Int) + 1), 1] (by omega) (by simp)) (Ev.g (plainI _) (Ev.c (spec_ScMul_ev _ _) (ih (j + 1) _ _ (by omega) (yMul_len _ _) he)))
theorem spec_thr_out (ys : List Int) (hy : ys.length ≤ 16) (d : Nat) : ∀ (i : Nat) (out : List Int), i + d = ys.length → out.length ≤ 128 →
    Ev (fun k m _ _ => L_spec_PolyThrough_0 k m (i : Int) ys.length (ys.flatMap eI) out.length (out.flatMap eI)) [.fs (thrOut ys d i out).length ((thrOut ys d i out).flatMap eI)] := by
  induction d with
  | zero =>
    intro i out hi ho
    refine Ev.step (fun k m _ _ => L_spec_PolyThrough_0_s k m _ _ _ _ _) (Ev.f (ltI_f (by rw [lenI_c]; omega)) (Ev.some_ ?_))
    rw [cut_all eI_len]; rfl
  | succ d ih =>
    intro i out hi ho
    have hl : (yAdd out (yScale (thrGo i ys.length 0 [1] 1).1 (ys.getD i 0 * scInv (thrGo i ys.length 0 [1] 1).2 % 1009))).length ≤ 128 := by
      have h1 := thrGo_len i ys.length 0 [1] 1 (by simp)
      refine Nat.le_trans (yAdd_len _ _) ?_
      rw [yScale_len]; omega
    exact Ev.step (fun k m _ _ => L_spec_PolyThrough_0_s k m _ _ _ _ _) (Ev.t (ltI_t (by rw [lenI_c]; omega)) (spec_thr_in ys hy i (by omega) out ho _ ys.length 0 [1] 1 (by omega) (by simp) (ih (i + 1) _ (by omega) hl)).l1)
theorem spec_PolyThrough_ev (ys : List Int) (hl : ys.length ≤ 1000000) : Does cp n_spec_PolyThrough [.fs ys.length (ys.flatMap eI)] [.fs (yThrough ys).length ((yThrough ys).flatMap eI)] := by
  refine Ev.fn (fun k => F_spec_PolyThrough k _ _) ?_
  unfold yThrough
  by_cases h : 16 < ys.length
  · rw [if_pos h]; exact Ev.t (ltI_t (by rw [lenI_c]; omega)) (Ev.now _)
  · rw [if_neg h]; exact Ev.f (ltI_f (by rw [lenI_c]; omega)) (spec_thr_out ys (by omega) ys.length 0 [] (by omega) (by simp)).l0
theorem impl_thr_in (ys : List Int) (hy : ys.length ≤ 16) (i : Nat) (hi : i < ys.length) (out : List Int) (ho : out.length ≤ 128) (R : List AV) (d : Nat) : ∀ (j : Nat) (o : List Int) (b : Int), j + d = ys.length → o.length ≤ 128 →
    Ev (fun k m _ _ => L_impl_PolyThrough_0 k m ys.length (ys.flatMap eI) ys.length (ys.flatMap eI) (lenI ys.length) ((i + 1 : Nat) : Int) (yAdd out (yScale (thrGo i d j o b).1 (ys.getD i 0 * scInv (thrGo i d j o b).2 % 1009))).length ((yAdd out (yScale (thrGo i d j o b).1 (ys.getD i 0 * scInv (thrGo i d j o b).2 % 1009))).flatMap eI)) R →
    Ev (fun k m p _ => L_impl_PolyThrough_1 k m p (i : Int) ys.length (ys.flatMap eI) ys.length (ys.flatMap eI) (lenI ys.length) (i : Int) ys[i] out.length (lenI ys.length) (j : Int) b o.length (out.flatMap eI) (o.flatMap eI)) R := by
  induction d with
  | zero =>
    intro j o b hj hl he
    refine Ev.step (fun k m p _ => L_impl_PolyThrough_1_s k m p _ _ _ _ _ _ _ _ _ _ _ _ _ _ _) (Ev.f (ltI_f (by rw [lenI_c]; omega)) ?_)
    rw [cut_all eI_len, cut_all eI_len]
    refine Ev.c (impl_ScInv_ev b) (Ev.c (impl_ScMul_ev _ _) (Ev.c (impl_scaled_ev o _ (by omega)) (Ev.g (plainI _) ?_)))
    simp only [hdV_c, tlV_c, parts1_a, asInt_i, asBool_b, asStr_s, asLen_f, asCells_f, cut_all eI_len]
    refine Ev.c (impl_PolyAdd_ev out _ (by omega) (by rw [yScale_len]; omega)) (Ev.g (plainI _) ?_)
    simp only [hdV_c, tlV_c, parts1_a, asInt_i, asBool_b, asStr_s, asLen_f, asCells_f, wrS (show i < 9223372036854775807 by omega)]
    rw [thrGo, getD_i hi] at he
    exact he.o1
  | succ d ih =>
    intro j o b hj hl he
    refine Ev.step (fun k m p _ => L_impl_PolyThrough_1_s k m p _ _ _ _ _ _ _ _ _ _ _ _ _ _ _) (Ev.t (ltI_t (by rw [lenI_c]; omega)) ?_)
    rw [thrGo] at he
    by_cases c : j = i
    · rw [if_pos c] at he
      refine Ev.f (by rw [eqI_t (by omega)]; rfl) ?_
      rw [wrS (show j < 9223372036854775807 by omega)]
      exact ih (j + 1) o b (by omega) hl he
    · rw [if_neg c] at he
      refine Ev.t (by rw [eqI_f (by omega)]; rfl) ?_
      rw [cut_all eI_len, negS (by omega), subS_ (by omega) (by omega), wrS (show j < 9223372036854775807 by omega)]
      exact Ev.c (impl_PolyMul_ev o [-((j : Int) + 1), 1] (by omega) (by simp)) (Ev.g (plainI _) (Ev.c (impl_ScMul_ev _ _) (ih (j + 1) _ _ (by omega) (yMul_len _ _) he)))
theorem impl_thr_out (ys : List Int) (hy : ys.length ≤ 16) (d : Nat) : ∀ (i : Nat) (out : List Int), i + d = ys.length → out.length ≤ 128 →
    Ev (fun k m _ _ => L_impl_PolyThrough_0 k m ys.length (ys.flatMap eI) ys.length (ys.flatMap eI) (lenI ys.length) (i : Int) out.length (out.flatMap eI)) [.fs (thrOut ys d i out).length ((thrOut ys d i out).flatMap eI)] := by
  induction d with
  | zero =>
    intro i out hi ho
    refine Ev.step (fun k m _ _ => L_impl_PolyThrough_0_s k m _ _ _ _ _ _ _ _) (Ev.f (ltI_f (by rw [lenI_c]; omega)) (Ev.some_ ?_))
    rw [cut_all eI_len]; rfl
  | succ d ih =>
    intro i out hi ho
    have hi' : i < ys.length := by omega
    have hl : (yAdd out (yScale (thrGo i ys.length 0 [1] 1).1 (ys.getD i 0 * scInv (thrGo i ys.length 0 [1] 1).2 % 1009))).length ≤ 128 := by
      have h1 := thrGo_len i ys.length 0 [1] 1 (by simp)
      refine Nat.le_trans (yAdd_len _ _) ?_
      rw [yScale_len]; omega
    refine Ev.step (fun k m _ _ => L_impl_PolyThrough_0_s k m _ _ _ _ _ _ _ _) (Ev.t (ltI_t (by rw [lenI_c]; omega)) (Ev.g (inR_n hi') ?_))
    rw [ei hi']
    exact Ev.g rfl (impl_thr_in ys hy i (by omega) out ho _ ys.length 0 [1] 1 (by omega) (by simp) (ih (i + 1) _ (by omega) hl)).l1
theorem impl_PolyThrough_ev (ys : List Int) (hl : ys.length ≤ 1000000) : Does cp n_impl_PolyThrough [.fs ys.length (ys.flatMap eI)] [.fs (yThrough ys).length ((yThrough ys).flatMap eI)] := by
  refine Ev.fn (fun k => F_impl_PolyThrough k _ _) ?_
  unfold yThrough
  by_cases h : 16 < ys.length
  · rw [if_pos h]; exact Ev.t (ltI_t (by rw [lenI_c]; omega)) (Ev.now _)
  · rw [if_neg h]; exact Ev.f (ltI_f (by rw [lenI_c]; omega)) (impl_thr_out ys (by omega) ys.length 0 [] (by omega) (by simp)).l0


/-- A Row. -/
abbrev TRow := (List Int) × (List Int) × (List Int)
def eRow (x : TRow) : List AV := [.fs x.1.length (x.1.flatMap eI), .fs x.2.1.length (x.2.1.flatMap eI), .fs x.2.2.length (x.2.2.flatMap eI)]
theorem eRow_len (x : TRow) : (eRow x).length = 3 := rfl
def bigRow (x : TRow) : Prop := (x.1.length ≤ 9223372036854775807) ∧ (x.2.1.length ≤ 9223372036854775807) ∧ (x.2.2.length ≤ 9223372036854775807)
def smRow (x : TRow) : Prop := (x.1.length ≤ 1048576) ∧ (x.2.1.length ≤ 1048576) ∧ (x.2.2.length ≤ 1048576)
def lenRow (x : TRow) : Prop := (x.1.length ≤ 1048576) ∧ (x.2.1.length ≤ 1048576) ∧ (x.2.2.length ≤ 1048576)


def allSc (ns : List Int) : Bool := ns.all fun n => decide (0 ≤ n ∧ n ≤ 1008)
theorem allSc_drop (ns : List Int) (i : Nat) (h : i < ns.length) : allSc (ns.drop i) = (decide (0 ≤ ns[i] ∧ ns[i] ≤ 1008) && allSc (ns.drop (i + 1))) := by
  unfold allSc
  rw [List.drop_eq_getElem_cons h, List.all_cons]
theorem spec_l13Wide_l (ns : List Int) (w : Int) (hb : ns.length ≤ 1048576) (d : Nat) : ∀ i : Nat, i + d = ns.length →
    Ev (fun k m _ _ => L_spec_l13Wide_0 k m ns.length (ns.flatMap eI) w (i : Int)) [.bool (allSc (ns.drop i) && decide ((ns.length : Int) = w))] := by
  induction d with
  | zero =>
    intro i hi
    rw [List.drop_eq_nil_of_le (by omega)]
    exact Ev.step (fun k m _ _ => L_spec_l13Wide_0_s k m _ _ _ _) (Ev.f (ltI_f (by rw [lenI_c]; omega)) (Ev.some_ (by rw [eqI_d, lenI_c]; rfl)))
  | succ d ih =>
    intro i hi
    have hi' : i < ns.length := by omega
    refine Ev.step (fun k m _ _ => L_spec_l13Wide_0_s k m _ _ _ _) (Ev.t (ltI_t (by rw [lenI_c]; omega)) (Ev.g (inR_n hi') ?_))
    rw [allSc_drop ns i hi', Bool.and_assoc]
    simp only [ei hi', hdV_c, tlV_c, parts1_a, asInt_i, asBool_b, asStr_s, asLen_f, asCells_f, wrS (show i < 9223372036854775807 by omega)]
    exact Ev.g rfl (Ev.c (spec_l01In_ev _ 0 1008) (Ev.an fun _ => ih (i + 1) (by omega)))
theorem spec_l13Wide_ev (ns : List Int) (w : Int) (hb : ns.length ≤ 1048576) : Does cp n_spec_l13Wide [.fs ns.length (ns.flatMap eI), .int .i64 w] [.bool (allSc ns && decide ((ns.length : Int) = w))] :=
  Ev.fn (fun k => F_spec_l13Wide k _ _ _) (spec_l13Wide_l ns w hb ns.length 0 (by omega)).l0
theorem impl_isScalar_ev (n : Int) : Does cp n_impl_isScalar [.int .i64 n] [.bool (decide (0 ≤ n ∧ n ≤ 1008))] := by
  refine Ev.fn (fun k => F_impl_isScalar k n) (Ev.b (fun h => Ev.some_ ?_) (fun h => Ev.some_ ?_))
  · have := leI_to h
    rw [ltI_d]
    congr 2
    exact decide_eq_decide.2 ⟨fun q => ⟨this, by omega⟩, fun q => by omega⟩
  · have := leI_fo h
    rw [decide_eq_false (by omega)]
theorem impl_areScalars_l (ns : List Int) (hb : ns.length ≤ 1048576) (d : Nat) : ∀ i : Nat, i + d = ns.length →
    Ev (fun k m _ _ => L_impl_areScalars_0 k m ns.length (ns.flatMap eI) (lenI ns.length) (i : Int)) [.bool (allSc (ns.drop i))] := by
  induction d with
  | zero =>
    intro i hi
    rw [List.drop_eq_nil_of_le (by omega)]
    exact Ev.step (fun k m _ _ => L_impl_areScalars_0_s k m _ _ _ _) (Ev.f (ltI_f (by rw [lenI_c]; omega)) (Ev.now _))
  | succ d ih =>
    intro i hi
    have hi' : i < ns.length := by omega
    refine Ev.step (fun k m _ _ => L_impl_areScalars_0_s k m _ _ _ _) (Ev.t (ltI_t (by rw [lenI_c]; omega)) (Ev.g (inR_n hi') ?_))
    rw [allSc_drop ns i hi']
    simp only [ei hi', hdV_c, tlV_c, parts1_a, asInt_i, asBool_b, asStr_s, asLen_f, asCells_f, wrS (show i < 9223372036854775807 by omega)]
    exact Ev.g rfl (Ev.c (impl_isScalar_ev _) (Ev.an fun _ => ih (i + 1) (by omega)))
theorem impl_areScalars_ev (ns : List Int) (hb : ns.length ≤ 1048576) : Does cp n_impl_areScalars [.fs ns.length (ns.flatMap eI)] [.bool (allSc ns)] :=
  Ev.fn (fun k => F_impl_areScalars k _ _) (impl_areScalars_l ns hb ns.length 0 (by omega)).l0
def wideL (w : Int) (l : List Int) : Bool := allSc l && decide ((l.length : Int) = w)
def rowWide (w : Int) (r : TRow) : Bool := wideL w r.1 && (wideL w r.2.1 && wideL w r.2.2)
def sysOk (w p : Int) (rows : List TRow) : Bool := decide (1 ≤ w ∧ w ≤ 20) && (decide (0 ≤ p ∧ p ≤ w - 1) && (decide (1 ≤ rows.length ∧ rows.length ≤ 16) && rows.all (rowWide w)))
theorem ri0 {xs : List TRow} {i : Nat} (hi : i < xs.length) : cellAt (xs.flatMap eRow) (mulN (natI (i : Int)) 3) = .fs (xs[i]).1.length ((xs[i]).1.flatMap eI) := cell_enc0 eRow_len hi (by decide)
theorem ri1 {xs : List TRow} {i : Nat} (hi : i < xs.length) : cellAt (xs.flatMap eRow) (addN (mulN (natI (i : Int)) 3) 1) = .fs (xs[i]).2.1.length ((xs[i]).2.1.flatMap eI) := cell_enc eRow_len hi 1 (by decide)
theorem ri2 {xs : List TRow} {i : Nat} (hi : i < xs.length) : cellAt (xs.flatMap eRow) (addN (mulN (natI (i : Int)) 3) 2) = .fs (xs[i]).2.2.length ((xs[i]).2.2.flatMap eI) := cell_enc eRow_len hi 2 (by decide)
theorem spec_SystemOk_l (w p : Int) (rows : List TRow) (hb : rows.length ≤ 1048576) (hr : ∀ y ∈ rows, lenRow y) (d : Nat) : ∀ i : Nat, i + d = rows.length →
    Ev (fun k m _ _ => L_spec_SystemOk_0 k m (i : Int) w p rows.length (rows.flatMap eRow)) [.bool ((rows.drop i).all (rowWide w))] := by
  induction d with
  | zero =>
    intro i hi
    rw [List.drop_eq_nil_of_le (by omega)]
    exact Ev.step (fun k m _ _ => L_spec_SystemOk_0_s k m _ _ _ _ _) (Ev.f (ltI_f (by rw [lenI_c]; omega)) (Ev.now _))
  | succ d ih =>
    intro i hi
    have hi' : i < rows.length := by omega
    have hx := hr _ (List.getElem_mem hi')
    refine Ev.step (fun k m _ _ => L_spec_SystemOk_0_s k m _ _ _ _ _) (Ev.t (ltI_t (by rw [lenI_c]; omega)) (Ev.g (inR_n hi') ?_))
    rw [List.drop_eq_getElem_cons hi', List.all_cons, rowWide, Bool.and_assoc, Bool.and_assoc]
    simp only [ri0 hi', ri1 hi', ri2 hi', hdV_c, tlV_c, parts1_a, asInt_i, asBool_b, asStr_s, asLen_f, asCells_f, wrS (show i < 9223372036854775807 by omega)]
    exact Ev.g rfl (Ev.c (spec_l13Wide_ev _ w hx.1) (Ev.an fun _ => Ev.g (inR_n hi') (Ev.g rfl (Ev.c (spec_l13Wide_ev _ w hx.2.1) (Ev.an fun _ => Ev.g (inR_n hi') (Ev.g rfl (Ev.c (spec_l13Wide_ev _ w hx.2.2) (Ev.an fun _ => ih (i + 1) (by omega)))))))))
theorem spec_SystemOk_ev (w p : Int) (rows : List TRow) (hb : rows.length ≤ 1048576) (hr : ∀ y ∈ rows, lenRow y) : Does cp n_spec_SystemOk [.agg [.int .i64 w, .int .i64 p, .fs rows.length (rows.flatMap eRow)]] [.bool (sysOk w p rows)] := by
  refine Ev.fn (fun k => F_spec_SystemOk k _ _ _ _) (Ev.c (spec_l01In_ev w 1 20) (Ev.an fun h => ?_))
  have h := of_decide_eq_true h
  have e : wr .i64 (subI w 1) = w - 1 := by rw [subI_d, wr64 (by omega)]
  rw [e]
  refine Ev.c (spec_l01In_ev p 0 (w - 1)) (Ev.an fun _ => ?_)
  have en : decide ((1 : Int) ≤ (rows.length : Int) ∧ (rows.length : Int) ≤ 16) = decide (1 ≤ rows.length ∧ rows.length ≤ 16) := decide_eq_decide.2 ⟨fun q => by omega, fun q => by omega⟩
  rw [← en]
  exact Ev.c (spec_l01In_ev (rows.length : Int) 1 16) (Ev.an fun _ => (spec_SystemOk_l w p rows hb hr rows.length 0 (by omega)).l0)
def eL (l : List Int) : List AV := [.fs l.length (l.flatMap eI)]
theorem eL_len (l : List Int) : (eL l).length = 1 := rfl
theorem eli {xs : List (List Int)} {i : Nat} (hi : i < xs.length) : cellAt (xs.flatMap eL) (mulN (natI (i : Int)) 1) = .fs (xs[i]).length ((xs[i]).flatMap eI) := cell_enc0 eL_len hi (by decide)
theorem impl_SystemOk_l1 (w p : Int) (rows : List TRow) (i : Int) (ls : List (List Int)) (hl : ls.length ≤ 3) (hs : ∀ l ∈ ls, l.length ≤ 1048576) (r : Bool)
    (hn : Ev (fun k m _ _ => L_impl_SystemOk_0 k m rows.length (rows.flatMap eRow) (lenI rows.length) (wr .i64 (addI i 1)) w p rows.length (rows.flatMap eRow)) [.bool r]) (d : Nat) : ∀ j : Nat, j + d = ls.length →
    Ev (fun k m q _ => L_impl_SystemOk_1 k m q ls.length rows.length (rows.flatMap eRow) (lenI rows.length) i (ls.length : Int) (j : Int) w p rows.length (rows.flatMap eRow) (ls.flatMap eL)) [.bool ((ls.drop j).all (wideL w) && r)] := by
  induction d with
  | zero =>
    intro j hj
    rw [List.drop_eq_nil_of_le (by omega), List.all_nil, Bool.true_and]
    exact Ev.step (fun k m q _ => L_impl_SystemOk_1_s k m q _ _ _ _ _ _ _ _ _ _ _ _) (Ev.f (ltI_f (by omega)) hn.o1)
  | succ d ih =>
    intro j hj
    have hj' : j < ls.length := by omega
    refine Ev.step (fun k m q _ => L_impl_SystemOk_1_s k m q _ _ _ _ _ _ _ _ _ _ _ _) (Ev.t (ltI_t (by omega)) (Ev.g (inR_n hj') ?_))
    rw [addN00, eli hj', List.drop_eq_getElem_cons hj', List.all_cons, wideL]
    simp only [hdV_c, tlV_c, parts1_a, asInt_i, asBool_b, asStr_s, asLen_f, asCells_f, wrS (show j < 9223372036854775807 by omega), lenI_c]
    refine Ev.g rfl ?_
    by_cases c : ((ls[j]).length : Int) = w
    · refine Ev.f (by rw [eqI_t c]; rfl) (Ev.c (impl_areScalars_ev _ (hs _ (List.getElem_mem hj'))) ?_)
      rw [decide_eq_true c, Bool.and_true, Bool.and_assoc]
      exact Ev.an fun _ => ih (j + 1) (by omega)
    · refine Ev.t (by rw [eqI_f c]; rfl) (Ev.some_ ?_)
      rw [decide_eq_false c]
      simp
theorem impl_SystemOk_l (w p : Int) (rows : List TRow) (hb : rows.length ≤ 1048576) (hr : ∀ y ∈ rows, lenRow y) (d : Nat) : ∀ i : Nat, i + d = rows.length →
    Ev (fun k m _ _ => L_impl_SystemOk_0 k m rows.length (rows.flatMap eRow) (lenI rows.length) (i : Int) w p rows.length (rows.flatMap eRow)) [.bool ((rows.drop i).all (rowWide w))] := by
  induction d with
  | zero =>
    intro i hi
    rw [List.drop_eq_nil_of_le (by omega)]
    exact Ev.step (fun k m _ _ => L_impl_SystemOk_0_s k m _ _ _ _ _ _ _ _) (Ev.f (ltI_f (by rw [lenI_c]; omega)) (Ev.now _))
  | succ d ih =>
    intro i hi
    have hi' : i < rows.length := by omega
    obtain ⟨x1, x2, x3⟩ := hr _ (List.getElem_mem hi')
    have hn := ih (i + 1) (by omega)
    rw [← wrS (show i < 9223372036854775807 by omega)] at hn
    refine Ev.step (fun k m _ _ => L_impl_SystemOk_0_s k m _ _ _ _ _ _ _ _) (Ev.t (ltI_t (by rw [lenI_c]; omega)) (Ev.g (inR_n hi') ?_))
    rw [List.drop_eq_getElem_cons hi', List.all_cons, ri0 hi', ri1 hi', ri2 hi']
    have := impl_SystemOk_l1 w p rows (i : Int) [(rows[i]).1, (rows[i]).2.1, (rows[i]).2.2] (by simp) (fun l hl => by
      simp only [List.mem_cons, List.not_mem_nil, or_false] at hl
      rcases hl with rfl | rfl | rfl <;> assumption) _ hn 3 0 (by simp)
    refine Ev.g rfl (this.l1.to ?_)
    simp only [List.drop_zero, List.all_cons, List.all_nil, Bool.and_true, rowWide]
theorem impl_SystemOk_ev (w p : Int) (rows : List TRow) (hb : rows.length ≤ 1048576) (hr : ∀ y ∈ rows, lenRow y) : Does cp n_impl_SystemOk [.agg [.int .i64 w, .int .i64 p, .fs rows.length (rows.flatMap eRow)]] [.bool (sysOk w p rows)] := by
  refine Ev.fn (fun k => F_impl_SystemOk k _ _ _ _) ?_
  unfold sysOk
  by_cases c0 : w < 1
  · exact Ev.t (ltI_t c0) (Ev.some_ (by rw [decide_eq_false (by omega)]; rfl))
  refine Ev.f (ltI_f c0) ?_
  by_cases c1 : 20 < w
  · exact Ev.t (ltI_t c1) (Ev.some_ (by rw [decide_eq_false (by omega)]; rfl))
  refine Ev.f (ltI_f c1) ?_
  rw [decide_eq_true (show 1 ≤ w ∧ w ≤ 20 by omega), Bool.true_and]
  by_cases c2 : p < 0
  · exact Ev.t (ltI_t c2) (Ev.some_ (by rw [decide_eq_false (by omega)]; rfl))
  refine Ev.f (ltI_f c2) ?_
  have e : wr .i64 (subI w 1) = w - 1 := by rw [subI_d, wr64 (by omega)]
  rw [e]
  by_cases c3 : w - 1 < p
  · exact Ev.t (ltI_t c3) (Ev.some_ (by rw [decide_eq_false (by omega)]; rfl))
  refine Ev.f (ltI_f c3) ?_
  rw [decide_eq_true (show 0 ≤ p ∧ p ≤ w - 1 by omega), Bool.true_and]
  by_cases c4 : (rows.length : Int) < 1
  · exact Ev.t (ltI_t c4) (Ev.some_ (by rw [decide_eq_false (by omega)]; rfl))
  refine Ev.f (ltI_f c4) ?_
  by_cases c5 : 16 < (rows.length : Int)
  · exact Ev.t (ltI_t c5) (Ev.some_ (by rw [decide_eq_false (by omega)]; rfl))
  refine Ev.f (ltI_f c5) ?_
  rw [decide_eq_true (show 1 ≤ rows.length ∧ rows.length ≤ 16 by omega), Bool.true_and]
  exact (impl_SystemOk_l w p rows hb hr rows.length 0 (by omega)).l0


def tN (f : Nat → Int) : Nat → Nat
  | 0 => 0
  | n + 1 => if f n = 0 then tN f n else n + 1
theorem tN_le (f : Nat → Int) (n : Nat) : tN f n ≤ n := by
  induction n with
  | zero => exact Nat.le_refl _
  | succ n ih => rw [tN]; split <;> omega
theorem tN_zero (f : Nat → Int) (n : Nat) : ∀ t, tN f n ≤ t → t < n → f t = 0 := by
  induction n with
  | zero => intro t h1 h2; omega
  | succ n ih =>
    intro t h1 h2
    rw [tN] at h1
    by_cases c : f n = 0
    · rw [if_pos c] at h1
      by_cases q : t = n
      · rw [q]; exact c
      · exact ih t h1 (by omega)
    · rw [if_neg c] at h1; omega
theorem tN_top (f : Nat → Int) (n : Nat) : tN f n = 0 ∨ f (tN f n - 1) ≠ 0 := by
  induction n with
  | zero => exact Or.inl rfl
  | succ n ih =>
    rw [tN]
    by_cases c : f n = 0
    · rw [if_pos c]; exact ih
    · rw [if_neg c]; exact Or.inr c
theorem trimN_arr (f : Nat → Int) (m n : Nat) (h : n ≤ m) : trimN (arr m f) n = tN f n := by
  induction n with
  | zero => rfl
  | succ n ih => rw [trimN, tN, ih (by omega), getD_i (by rw [arr_len]; omega), arr_get]
def nrm (n : Nat) (f : Nat → Int) : Prop := ∀ t, t < n → 0 ≤ f t ∧ f t ≤ 1008
theorem yTrim_arr {n : Nat} {f : Nat → Int} (h : nrm n f) : yTrim (arr n f) = arr (tN f n) f := by
  have hm : (arr n f).map (fun a => a % 1009) = arr n f := by
    unfold arr
    rw [List.map_map]
    exact List.map_congr_left fun j hj => by
      have := h j (List.mem_range.1 hj)
      show f j % 1009 = f j
      omega
  unfold yTrim
  rw [hm]
  unfold trimZ
  rw [arr_len, trimN_arr f n n (Nat.le_refl _)]
  have ht := tN_le f n
  unfold arr
  rw [← List.map_take, List.take_range, Nat.min_eq_left ht]
theorem tN_of {n c : Nat} {f : Nat → Int} (hc : c ≤ n) (h0 : ∀ t, c ≤ t → t < n → f t = 0) (ht : c = 0 ∨ f (c - 1) ≠ 0) : tN f n = c := by
  induction n with
  | zero => rw [tN]; omega
  | succ n ih =>
    rw [tN]
    by_cases q : c = n + 1
    · subst q
      rcases ht with ht | ht
      · omega
      · rw [if_neg (by simpa using ht)]
    · rw [if_pos (h0 n (by omega) (by omega)), ih (by omega) (fun t a b => h0 t a (by omega))]
/-! division -/
def dIn (k : Int) (i : Nat) : List Int → Nat → (Nat → Int) → (Nat → Int)
  | [], _, f => f
  | y :: r, j, f => dIn k i r (j + 1) (updF f (i + j) ((f (i + j) + (-(k * y % 1009)) % 1009) % 1009))
def dGo (B : List Int) (top : Int) : Nat → (Nat → Int) → (Nat → Int) → (Nat → Int) × (Nat → Int)
  | 0, f, g => (f, g)
  | i + 1, f, g => dGo B top i (dIn (f (i + B.length - 1) * top % 1009) i B 0 f) (updF g i (f (i + B.length - 1) * top % 1009))
theorem dIn_out (k : Int) (i : Nat) : ∀ (B : List Int) (j : Nat) (f : Nat → Int) (t : Nat), (t < i + j ∨ i + j + B.length ≤ t) → dIn k i B j f t = f t
  | [], _, _, _, _ => rfl
  | y :: r, j, f, t, h => by
    rw [List.length_cons] at h
    rw [dIn, dIn_out k i r (j + 1) _ t (by omega)]
    exact if_neg (by omega)
theorem dIn_nrm (k : Int) (i n : Nat) : ∀ (B : List Int) (j : Nat) (f : Nat → Int), nrm n f → nrm n (dIn k i B j f)
  | [], _, _, h => h
  | y :: r, j, f, h => dIn_nrm k i n r (j + 1) _ fun t ht => by
    unfold updF
    split
    · exact scb _
    · exact h t ht
theorem dIn_zero (i n : Nat) : ∀ (B : List Int) (j : Nat) (f : Nat → Int), nrm n f → i + j + B.length ≤ n → dIn 0 i B j f = f
  | [], _, _, _, _ => rfl
  | y :: r, j, f, h, hn => by
    rw [List.length_cons] at hn
    have e : updF f (i + j) ((f (i + j) + (-(0 * y % 1009)) % 1009) % 1009) = f := by
      funext t
      unfold updF
      by_cases c : t = i + j
      · rw [if_pos c, c]
        have := h (i + j) (by omega)
        rw [Int.zero_mul]
        omega
      · rw [if_neg c]
    rw [dIn, e]
    exact dIn_zero i n r (j + 1) f h (by omega)
/-- The last place of the divisor's row. -/
theorem dIn_last (k : Int) (i : Nat) : ∀ (B : List Int) (j : Nat) (f : Nat → Int) (hB : 0 < B.length), dIn k i B j f (i + j + B.length - 1) = (f (i + j + B.length - 1) + (-(k * B[B.length - 1] % 1009)) % 1009) % 1009
  | [y], j, f, _ => by
    rw [dIn, dIn]
    show updF f (i + j) _ (i + j + 1 - 1) = _
    rw [Nat.add_sub_cancel, updF_i]
    rfl
  | y :: z :: r, j, f, _ => by
    rw [dIn]
    have := dIn_last k i (z :: r) (j + 1) (updF f (i + j) ((f (i + j) + (-(k * y % 1009)) % 1009) % 1009)) (by simp)
    have e : i + (j + 1) + (z :: r).length - 1 = i + j + (y :: z :: r).length - 1 := by simp only [List.length_cons]; omega
    rw [e] at this
    rw [this]
    have e2 : updF f (i + j) ((f (i + j) + (-(k * y % 1009)) % 1009) % 1009) (i + j + (y :: z :: r).length - 1) = f (i + j + (y :: z :: r).length - 1) := if_neg (by simp only [List.length_cons]; omega)
    rw [e2]
    simp
theorem mulmod (a b : Int) : a % 1009 * b % 1009 = a * b % 1009 := by
  rw [Int.mul_emod, Int.emod_emod_of_dvd a (Int.dvd_refl 1009), ← Int.mul_emod]
theorem cancel {u x : Int} (hu : 0 ≤ u ∧ u ≤ 1008) (hx : 1 ≤ x ∧ x ≤ 1008) : (u + (-(u * scInv x % 1009 * x % 1009)) % 1009) % 1009 = 0 := by
  have hi : x * scInv x % 1009 = 1 := by
    obtain ⟨n, rfl⟩ := Int.eq_ofNat_of_zero_le (show 0 ≤ x by omega)
    exact inv_law ⟨n, by omega⟩ (by show n ≠ 0; omega)
  have e : u * scInv x % 1009 * x % 1009 = u := by
    rw [mulmod, Int.mul_assoc, Int.mul_comm (scInv x) x, Int.mul_emod, hi]
    omega
  rw [e]
  omega
def yDiv (a b : List Int) : List Int × List Int :=
  if 64 < a.length ∨ 64 < b.length then ([], []) else
  if (yTrim b).length = 0 ∨ (yTrim a).length < (yTrim b).length then ([], yTrim a) else
  (yTrim (arr ((yTrim a).length - (yTrim b).length + 1) (dGo (yTrim b) (scInv ((yTrim b).getD ((yTrim b).length - 1) 0)) ((yTrim a).length - (yTrim b).length + 1) (fun t => (yTrim a).getD t 0) (fun _ => 0)).2),
   yTrim (arr (yTrim a).length (dGo (yTrim b) (scInv ((yTrim b).getD ((yTrim b).length - 1) 0)) ((yTrim a).length - (yTrim b).length + 1) (fun t => (yTrim a).getD t 0) (fun _ => 0)).1))
theorem yTrim_nrm (l : List Int) : ∀ x ∈ yTrim l, 0 ≤ x ∧ x ≤ 1008 := by
  intro x hx
  unfold yTrim trimZ at hx
  obtain ⟨y, _, rfl⟩ := List.mem_map.1 (List.mem_of_mem_take hx)
  exact scb y
theorem trimN_top (z : List Int) (n : Nat) : trimN z n = 0 ∨ z.getD (trimN z n - 1) 0 ≠ 0 := by
  induction n with
  | zero => exact Or.inl rfl
  | succ n ih =>
    rw [trimN]
    by_cases c : z.getD n 0 = 0
    · rw [if_pos c]; exact ih
    · rw [if_neg c]; exact Or.inr c
theorem yTrim_top (l : List Int) (h : 0 < (yTrim l).length) : (yTrim l).getD ((yTrim l).length - 1) 0 ≠ 0 := by
  unfold yTrim trimZ at h ⊢
  have hle := trimN_le (l.map fun a => a % 1009) (l.map fun a => a % 1009).length
  have hl : ((l.map fun a => a % 1009).take (trimN (l.map fun a => a % 1009) (l.map fun a => a % 1009).length)).length = trimN (l.map fun a => a % 1009) (l.map fun a => a % 1009).length := by rw [List.length_take]; omega
  rw [hl] at h ⊢
  have ht := trimN_top (l.map fun a => a % 1009) (l.map fun a => a % 1009).length
  generalize trimN (l.map fun a => a % 1009) (l.map fun a => a % 1009).length = q at *
  have ht := ht.resolve_left (by omega)
  rw [getD_i (by omega)] at ht
  rw [getD_i (by omega), List.getElem_take]
  exact ht
theorem arr_self (l : List Int) : arr l.length (fun t => l.getD t 0) = l := by
  rw [arr_of l _ (fun a => a) (fun j hj => getD_i hj), List.map_id']
theorem yDiv_len (a b : List Int) : (yDiv a b).1.length ≤ 128 ∧ (yDiv a b).2.length ≤ 128 := by
  unfold yDiv
  have h1 := yTrim_len a
  split
  · simp
  · split
    · refine ⟨by simp, ?_⟩
      show (yTrim a).length ≤ 128
      omega
    · refine ⟨Nat.le_trans (yTrim_len _) ?_, Nat.le_trans (yTrim_len _) ?_⟩ <;> rw [arr_len] <;> omega
/-! the reference -/
theorem spec_div_in (B : List Int) (top : Int) (n q : Nat) (hn : n ≤ 64) (k : Int) (i : Nat) (hi : i + B.length ≤ n) (g : Nat → Int) (R : List AV) (d : Nat) : ∀ (j : Nat) (f : Nat → Int), j + d = B.length →
    Ev (fun k' m _ _ => L_spec_PolyDivide_0 k' m B.length ((i : Int) - 1) n q top (B.flatMap eI) ((arr n (dIn k i (B.drop j) j f)).flatMap eI) ((arr q g).flatMap eI)) R →
    Ev (fun k' m p _ => L_spec_PolyDivide_1 k' m p B.length k (i : Int) n q top (j : Int) (B.flatMap eI) ((arr n f).flatMap eI) ((arr q g).flatMap eI)) R := by
  induction d with
  | zero =>
    intro j f hj he
    rw [List.drop_eq_nil_of_le (by omega)] at he
    refine Ev.step (fun k m p _ => L_spec_PolyDivide_1_s k m p _ _ _ _ _ _ _ _ _ _) (Ev.f (ltI_f (by rw [lenI_c]; omega)) ?_)
    rw [subI_d, wr64 (by omega)]
    exact he.o1
  | succ d ih =>
    intro j f hj he
    have hj' : j < B.length := by omega
    have hij : i + j < n := by omega
    have ew : wr .i64 (addI (i : Int) (j : Int)) = ((i + j : Nat) : Int) := by rw [addI_d, wr64 (by omega)]; omega
    rw [List.drop_eq_getElem_cons hj', dIn] at he
    refine Ev.step (fun k m p _ => L_spec_PolyDivide_1_s k m p _ _ _ _ _ _ _ _ _ _) (Ev.t (ltI_t (by rw [lenI_c]; omega)) ?_)
    rw [ew, arr_cell _ hij, addN00, ei hj']
    refine Ev.g (inR_n hij) (Ev.g rfl (Ev.g (inR_n hj') (Ev.g rfl (Ev.c (spec_ScMul_ev _ _) (Ev.c (spec_ScNeg_ev _) (Ev.c (spec_ScAdd_ev _ _) (Ev.g (inR_n hij) (Ev.g ?_ ?_))))))))
    · exact arr_ble f hij
    · have hs := arr_set f hij ((f (i + j) + (-(k * B[j] % 1009)) % 1009) % 1009)
      simp only [hdV_c, tlV_c, parts1_a, asInt_i, asBool_b, asStr_s, asLen_f, asCells_f, hs, wrS (show j < 9223372036854775807 by omega)]
      exact ih (j + 1) _ (by omega) he
theorem spec_div_out (B : List Int) (hB : 0 < B.length) (top : Int) (n q : Nat) (hn : n ≤ 64) (hq : q + B.length ≤ n + 1) (i : Nat) : ∀ (f g : Nat → Int), i ≤ q →
    Ev (fun k m _ _ => L_spec_PolyDivide_0 k m B.length ((i : Int) - 1) n q top (B.flatMap eI) ((arr n f).flatMap eI) ((arr q g).flatMap eI)) [.fs (yTrim (arr q (dGo B top i f g).2)).length ((yTrim (arr q (dGo B top i f g).2)).flatMap eI), .fs (yTrim (arr n (dGo B top i f g).1)).length ((yTrim (arr n (dGo B top i f g).1)).flatMap eI)] := by
  induction i with
  | zero =>
    intro f g hi
    have e1 := spec_PolyTrim_ev (arr q g) (by rw [arr_len]; omega)
    have e2 := spec_PolyTrim_ev (arr n f) (by rw [arr_len]; omega)
    rw [arr_len] at e1 e2
    refine Ev.step (fun k m _ _ => L_spec_PolyDivide_0_s k m _ _ _ _ _ _ _ _) (Ev.f (leI_f (by omega)) ?_)
    rw [arr_cut, arr_cut]
    refine Ev.c e1 (Ev.g (plainI _) (Ev.c e2 (Ev.g (plainI _) (Ev.some_ ?_))))
    simp only [hdV_c, tlV_c, parts1_a, asInt_i, asBool_b, asStr_s, asLen_f, asCells_f, cut_all eI_len]
    rfl
  | succ i ih =>
    intro f g hi
    have e0 : ((i + 1 : Nat) : Int) - 1 = (i : Int) := by omega
    have ew : wr .i64 (subI (wr .i64 (addI (i : Int) (lenI B.length))) 1) = ((i + B.length - 1 : Nat) : Int) := by
      rw [lenI_c, addI_d, wr64 (n := (i : Int) + (B.length : Int)) (by omega), subI_d, wr64 (by omega)]; omega
    have ht : i + B.length - 1 < n := by omega
    have hiq : i < q := by omega
    rw [e0, dGo]
    refine Ev.step (fun k m _ _ => L_spec_PolyDivide_0_s k m _ _ _ _ _ _ _ _) (Ev.t (leI_t (by omega)) ?_)
    rw [ew, arr_cell _ ht]
    refine Ev.g (inR_n ht) (Ev.g rfl (Ev.c (spec_ScMul_ev _ _) (Ev.g (inR_n hiq) (Ev.g (arr_ble _ hiq) ?_))))
    simp only [hdV_c, tlV_c, parts1_a, asInt_i, asBool_b, asStr_s, asLen_f, asCells_f, arr_set _ hiq]
    exact (spec_div_in B top n q hn _ i (by omega) _ _ B.length 0 f (by omega) (ih _ _ (by omega))).l1
theorem spec_PolyDivide_ev (a b : List Int) (ha : a.length ≤ 1000000) (hb : b.length ≤ 1000000) : Does cp n_spec_PolyDivide [.fs a.length (a.flatMap eI), .fs b.length (b.flatMap eI)] [.fs (yDiv a b).1.length ((yDiv a b).1.flatMap eI), .fs (yDiv a b).2.length ((yDiv a b).2.flatMap eI)] := by
  refine Ev.fn (fun k => F_spec_PolyDivide k _ _ _ _) ?_
  unfold yDiv
  by_cases h1 : 64 < a.length
  · rw [if_pos (Or.inl h1)]; exact Ev.t (ltI_t (by rw [lenI_c]; omega)) (Ev.now _)
  refine Ev.f (ltI_f (by rw [lenI_c]; omega)) ?_
  by_cases h2 : 64 < b.length
  · rw [if_pos (Or.inr h2)]; exact Ev.t (ltI_t (by rw [lenI_c]; omega)) (Ev.now _)
  rw [if_neg (by omega)]
  refine Ev.f (ltI_f (by rw [lenI_c]; omega)) (Ev.c (spec_PolyTrim_ev a ha) (Ev.c (spec_PolyTrim_ev b hb) ?_))
  have hla := yTrim_len a
  have hlb := yTrim_len b
  generalize yTrim a = L at *
  generalize yTrim b = B at *
  simp only [hdV_c, tlV_c, parts1_a, asInt_i, asBool_b, asStr_s, asLen_f, asCells_f, cut_all eI_len]
  by_cases h3 : B.length = 0
  · rw [if_pos (Or.inl h3)]; exact Ev.t (eqI_t (by rw [lenI_c]; omega)) (Ev.now _)
  refine Ev.f (eqI_f (by rw [lenI_c]; omega)) ?_
  by_cases h4 : L.length < B.length
  · rw [if_pos (Or.inr h4)]; exact Ev.t (ltI_t (by rw [lenI_c, lenI_c]; omega)) (Ev.now _)
  rw [if_neg (by omega)]
  refine Ev.f (ltI_f (by rw [lenI_c, lenI_c]; omega)) ?_
  have e1 : wr .i64 (addI (wr .i64 (subI (lenI L.length) (lenI B.length))) 1) = lenI (L.length - B.length + 1) := by
    rw [lenI_c, lenI_c, lenI_c, subI_d, wr64 (n := (L.length : Int) - (B.length : Int)) (by omega), addI_d, wr64 (by omega)]; omega
  have e2 : wr .i64 (subI (lenI B.length) 1) = ((B.length - 1 : Nat) : Int) := by rw [lenI_c, subI_d, wr64 (by omega)]; omega
  have e3 : natI (lenI (L.length - B.length + 1)) = L.length - B.length + 1 := rfl
  have e4 : wr .i64 (subI (lenI (L.length - B.length + 1)) 1) = ((L.length - B.length + 1 : Nat) : Int) - 1 := by rw [lenI_c, subI_d, wr64 (by omega)]
  rw [e1, e2, e3, e4, addN00, ei (show B.length - 1 < B.length by omega)]
  refine Ev.g (fit_small (by omega) (by decide)) (Ev.g (inR_n (by omega)) (Ev.g rfl (Ev.c (spec_ScInv_ev _) ?_)))
  simp only [hdV_c, tlV_c, parts1_a, asInt_i, asBool_b, asStr_s, asLen_f, asCells_f]
  rw [arr_zero]
  have hgo := spec_div_out B (by omega) (scInv (B.getD (B.length - 1) 0)) L.length (L.length - B.length + 1) (by omega) (by omega) (L.length - B.length + 1) (fun t => L.getD t 0) (fun _ => 0) (Nat.le_refl _)
  rw [arr_self, getD_i (show B.length - 1 < B.length by omega)] at hgo
  rw [getD_i (show B.length - 1 < B.length by omega)]
  exact hgo.l0
/-! the program -/
theorem impl_div_in (B : List Int) (top : Int) (q : Nat) (k : Int) (i : Nat) (hb : i + B.length ≤ 64) (g : Nat → Int) (R : List AV) (d : Nat) : ∀ (j : Nat) (f : Nat → Int), j + d = B.length →
    Ev (fun k' m _ _ => bnd (evF cp k' n_impl_PolyTrim [AV.fs (i + B.length) (cutC ((arr (i + B.length) (dIn k i (B.drop j) j f)).flatMap eI) 0 (mulN (i + B.length) 1))]) (fun r0 => gd (plainRes r0) (L_impl_PolyDivide_0 k' m (AV.asLen (hdV r0)) B.length q top (AV.asCells (hdV r0)) (B.flatMap eI) ((arr q g).flatMap eI)))) R →
    Ev (fun k' m p _ => L_impl_PolyDivide_1 k' m p k (i : Int) (i + B.length) B.length B.length q top (lenI B.length) (j : Int) ((arr (i + B.length) f).flatMap eI) (B.flatMap eI) ((arr q g).flatMap eI)) R := by
  induction d with
  | zero =>
    intro j f hj he
    rw [List.drop_eq_nil_of_le (by omega)] at he
    exact Ev.step (fun k m p _ => L_impl_PolyDivide_1_s k m p _ _ _ _ _ _ _ _ _ _ _ _) (Ev.f (ltI_f (by rw [lenI_c]; omega)) he.o1)
  | succ d ih =>
    intro j f hj he
    have hj' : j < B.length := by omega
    have hij : i + j < i + B.length := by omega
    have ew : wr .i64 (addI (i : Int) (j : Int)) = ((i + j : Nat) : Int) := by rw [addI_d, wr64 (by omega)]; omega
    rw [List.drop_eq_getElem_cons hj', dIn] at he
    refine Ev.step (fun k m p _ => L_impl_PolyDivide_1_s k m p _ _ _ _ _ _ _ _ _ _ _ _) (Ev.t (ltI_t (by rw [lenI_c]; omega)) ?_)
    rw [ew, arr_cell _ hij, addN00, ei hj']
    refine Ev.g (inR_n hj') (Ev.g rfl (Ev.g (inR_n hij) (Ev.g rfl (Ev.c (impl_ScMul_ev _ _) (Ev.c (impl_ScNeg_ev _) (Ev.c (impl_ScAdd_ev _ _) (Ev.g (inR_n hij) (Ev.g ?_ ?_))))))))
    · exact arr_ble f hij
    · have hs := arr_set f hij ((f (i + j) + (-(B[j] * k % 1009)) % 1009) % 1009)
      simp only [hdV_c, tlV_c, parts1_a, asInt_i, asBool_b, asStr_s, asLen_f, asCells_f, hs, wrS (show j < 9223372036854775807 by omega)]
      rw [Int.mul_comm (B[j]) k]
      exact ih (j + 1) _ (by omega) he
theorem impl_div_out (B : List Int) (hB : 0 < B.length) (hx : 1 ≤ B[B.length - 1] ∧ B[B.length - 1] ≤ 1008) (n q : Nat) (hn : n ≤ 64) (hq : q + B.length ≤ n + 1) (i : Nat) : ∀ (f g : Nat → Int) (c : Nat), i ≤ q → c ≤ i + B.length - 1 → c ≤ n → nrm n f → (∀ t, c ≤ t → t < n → f t = 0) → (i < q → c = 0 ∨ f (c - 1) ≠ 0) → (i = q → c = 0 ∨ f (c - 1) ≠ 0) → (∀ t, t < i → g t = 0) →
    Ev (fun k m _ _ => L_impl_PolyDivide_0 k m c B.length q (scInv B[B.length - 1]) ((arr c f).flatMap eI) (B.flatMap eI) ((arr q g).flatMap eI)) [.fs (yTrim (arr q (dGo B (scInv B[B.length - 1]) i f g).2)).length ((yTrim (arr q (dGo B (scInv B[B.length - 1]) i f g).2)).flatMap eI), .fs (yTrim (arr n (dGo B (scInv B[B.length - 1]) i f g).1)).length ((yTrim (arr n (dGo B (scInv B[B.length - 1]) i f g).1)).flatMap eI)] := by
  induction i with
  | zero =>
    intro f g c hi hc hcn hf h0 ht ht2 hg
    have e1 := impl_PolyTrim_ev (arr q g) (by rw [arr_len]; omega)
    rw [arr_len] at e1
    have htop : c = 0 ∨ f (c - 1) ≠ 0 := by
      by_cases z : 0 < q
      · exact ht z
      · exact ht2 (by omega)
    have e2 : yTrim (arr n f) = arr c f := by rw [yTrim_arr hf, tN_of hcn h0 htop]
    refine Ev.step (fun k m _ _ => L_impl_PolyDivide_0_s k m _ _ _ _ _ _ _) (Ev.f (leI_f (by rw [lenI_c, lenI_c]; omega)) ?_)
    rw [arr_cut, arr_cut]
    refine Ev.c e1 (Ev.g (plainI _) (Ev.some_ ?_))
    simp only [hdV_c, tlV_c, parts1_a, asInt_i, asBool_b, asStr_s, asLen_f, asCells_f, cut_all eI_len]
    rw [dGo, e2, arr_len]
  | succ i ih =>
    intro f g c hi hc hcn hf h0 ht ht2 hg
    have htop : c = 0 ∨ f (c - 1) ≠ 0 := by
      by_cases z : i + 1 < q
      · exact ht z
      · exact ht2 (by omega)
    rw [dGo]
    by_cases q1 : c = i + B.length
    · have hl := dIn_last (f (i + B.length - 1) * scInv B[B.length - 1] % 1009) i B 0 f hB
      have hlast : dIn (f (i + B.length - 1) * scInv B[B.length - 1] % 1009) i B 0 f (i + B.length - 1) = 0 := by
        rw [Nat.add_zero] at hl
        rw [hl]
        exact cancel (hf _ (by omega)) hx
      have hf' := dIn_nrm (f (i + B.length - 1) * scInv B[B.length - 1] % 1009) i n B 0 f hf
      have hout : ∀ t, i + B.length ≤ t → t < n → dIn (f (i + B.length - 1) * scInv B[B.length - 1] % 1009) i B 0 f t = 0 := fun t a b => by
        rw [dIn_out _ _ _ _ _ _ (Or.inr (by omega))]
        exact h0 t (by omega) b
      have ein := impl_div_in B (scInv B[B.length - 1]) q (f (i + B.length - 1) * scInv B[B.length - 1] % 1009) i (by omega) (updF g i (f (i + B.length - 1) * scInv B[B.length - 1] % 1009))
      subst q1
      generalize hF : dIn (f (i + B.length - 1) * scInv B[B.length - 1] % 1009) i B 0 f = F at *
      have e1 := impl_PolyTrim_ev (arr (i + B.length) F) (by rw [arr_len]; omega)
      rw [arr_len] at e1
      have hF' : nrm (i + B.length) F := fun t a => hf' t (by omega)
      have hc' : tN F (i + B.length) ≤ i + B.length - 1 := by
        have := tN_le F (i + B.length)
        have h2 := tN_top F (i + B.length)
        by_cases z : tN F (i + B.length) = i + B.length
        · rw [z] at h2
          rcases h2 with h2 | h2
          · omega
          · exact absurd hlast h2
        · omega
      have next := ih F (updF g i (f (i + B.length - 1) * scInv B[B.length - 1] % 1009)) (tN F (i + B.length)) (by omega) hc' (by omega) hf' (fun t a b => by
          by_cases z : t < i + B.length
          · exact tN_zero F (i + B.length) t a z
          · exact hout t (by omega) b) (fun _ => tN_top F _) (fun _ => tN_top F _) (fun t a => by
          unfold updF
          rw [if_neg (by omega)]
          exact hg t (by omega))
      have e2 : wr .i64 (subI (lenI (i + B.length)) 1) = ((i + B.length - 1 : Nat) : Int) := by rw [lenI_c, subI_d, wr64 (by omega)]; omega
      have e3 : wr .i64 (subI (lenI (i + B.length)) (lenI B.length)) = ((i : Nat) : Int) := by rw [lenI_c, lenI_c, subI_d, wr64 (by omega)]; omega
      have hiq : i < q := by omega
      refine Ev.step (fun k m _ _ => L_impl_PolyDivide_0_s k m _ _ _ _ _ _ _) (Ev.t (leI_t (by rw [lenI_c, lenI_c]; omega)) ?_)
      rw [e2, e3, arr_cell _ (show i + B.length - 1 < i + B.length by omega)]
      refine Ev.g (inR_n (by omega)) (Ev.g rfl (Ev.c (impl_ScMul_ev _ _) (Ev.g (inR_n hiq) (Ev.g (arr_ble _ hiq) ?_))))
      simp only [hdV_c, tlV_c, parts1_a, asInt_i, asBool_b, asStr_s, asLen_f, asCells_f, arr_set _ hiq]
      refine (ein _ B.length 0 f (by omega) ?_).l1
      rw [List.drop_zero, hF, arr_cut]
      refine Ev.c e1 (Ev.g (plainI _) ?_)
      simp only [hdV_c, tlV_c, parts1_a, asInt_i, asBool_b, asStr_s, asLen_f, asCells_f]
      rw [yTrim_arr hF', arr_len]
      exact next
    · have hz : f (i + B.length - 1) = 0 := h0 _ (by omega) (by omega)
      have hk : f (i + B.length - 1) * scInv B[B.length - 1] % 1009 = 0 := by rw [hz, Int.zero_mul]; rfl
      have hg' : updF g i 0 = g := by
        funext t
        unfold updF
        by_cases z : t = i
        · rw [if_pos z, z, hg i (by omega)]
        · rw [if_neg z]
      rw [hk, dIn_zero i n B 0 f hf (by omega), hg']
      exact ih f g c (by omega) (by omega) hcn hf h0 (fun _ => htop) (fun _ => htop) (fun t a => hg t (by omega))
theorem impl_PolyDivide_ev (a b : List Int) (ha : a.length ≤ 1000000) (hb : b.length ≤ 1000000) : Does cp n_impl_PolyDivide [.fs a.length (a.flatMap eI), .fs b.length (b.flatMap eI)] [.fs (yDiv a b).1.length ((yDiv a b).1.flatMap eI), .fs (yDiv a b).2.length ((yDiv a b).2.flatMap eI)] := by
  refine Ev.fn (fun k => F_impl_PolyDivide k _ _ _ _) ?_
  unfold yDiv
  by_cases h1 : 64 < a.length
  · rw [if_pos (Or.inl h1)]; exact Ev.t (ltI_t (by rw [lenI_c]; omega)) (Ev.now _)
  refine Ev.f (ltI_f (by rw [lenI_c]; omega)) ?_
  by_cases h2 : 64 < b.length
  · rw [if_pos (Or.inr h2)]; exact Ev.t (ltI_t (by rw [lenI_c]; omega)) (Ev.now _)
  rw [if_neg (by omega)]
  refine Ev.f (ltI_f (by rw [lenI_c]; omega)) (Ev.c (impl_PolyTrim_ev a ha) (Ev.c (impl_PolyTrim_ev b hb) ?_))
  have hla := yTrim_len a
  have hlb := yTrim_len b
  have hna := yTrim_nrm a
  have hnb := yTrim_nrm b
  have hta := yTrim_top a
  have htb := yTrim_top b
  generalize yTrim a = L at *
  generalize yTrim b = B at *
  simp only [hdV_c, tlV_c, parts1_a, asInt_i, asBool_b, asStr_s, asLen_f, asCells_f, cut_all eI_len]
  by_cases h3 : B.length = 0
  · rw [if_pos (Or.inl h3)]; exact Ev.t (eqI_t (by rw [lenI_c]; omega)) (Ev.now _)
  refine Ev.f (eqI_f (by rw [lenI_c]; omega)) ?_
  have hB1 : B.length - 1 < B.length := by omega
  have htb' := htb (by omega)
  rw [getD_i hB1] at htb'
  have hbx := hnb _ (List.getElem_mem hB1)
  have e2 : wr .i64 (subI (lenI B.length) 1) = ((B.length - 1 : Nat) : Int) := by rw [lenI_c, subI_d, wr64 (by omega)]; omega
  have e1 : maxI (wr .i64 (addI (wr .i64 (subI (lenI L.length) (lenI B.length))) 1)) 0 = lenI (L.length + 1 - B.length) := by
    rw [lenI_c, lenI_c, lenI_c, subI_d, wr64 (n := (L.length : Int) - (B.length : Int)) (by omega), addI_d, wr64 (by omega)]
    unfold maxI
    split <;> omega
  rw [e1, e2, addN00, ei hB1]
  refine Ev.g (inR_n hB1) (Ev.g rfl (Ev.c (impl_ScInv_ev _) (Ev.g (fit_small (by omega) (by decide)) ?_)))
  simp only [hdV_c, tlV_c, parts1_a, asInt_i, asBool_b, asStr_s, asLen_f, asCells_f]
  rw [show natI (lenI (L.length + 1 - B.length)) = L.length + 1 - B.length from rfl, arr_zero]
  by_cases h4 : L.length < B.length
  · rw [if_pos (Or.inr h4), show L.length + 1 - B.length = 0 by omega]
    have e0 := impl_PolyTrim_ev [] (by simp)
    have hgo : Ev (fun k m _ _ => L_impl_PolyDivide_0 k m L.length B.length 0 (scInv B[B.length - 1]) (L.flatMap eI) (B.flatMap eI) ((arr 0 fun _ => 0).flatMap eI)) [.fs 0 [], .fs L.length (L.flatMap eI)] := by
      refine Ev.step (fun k m _ _ => L_impl_PolyDivide_0_s k m _ _ _ _ _ _ _) (Ev.f (leI_f (by rw [lenI_c, lenI_c]; omega)) (Ev.c e0 (Ev.g (plainI _) (Ev.some_ ?_))))
      simp only [hdV_c, tlV_c, parts1_a, asInt_i, asBool_b, asStr_s, asLen_f, asCells_f, cut_all eI_len]
      rfl
    exact hgo.l0
  rw [if_neg (by omega), getD_i hB1, show L.length - B.length + 1 = L.length + 1 - B.length by omega]
  have hgo := impl_div_out B (by omega) (by omega) L.length (L.length + 1 - B.length) (by omega) (by omega) (L.length + 1 - B.length) (fun t => L.getD t 0) (fun _ => 0) L.length (Nat.le_refl _) (by omega) (Nat.le_refl _) (fun t h => by simp only [getD_i h]; exact hna _ (List.getElem_mem h)) (fun t a b => by omega) (fun h => by omega) (fun _ => Or.inr (hta (by omega))) (fun _ _ => rfl)
  rw [arr_self] at hgo
  exact hgo.l0


def colA (rows : List TRow) (j : Nat) : List Int := rows.map fun r => r.1.getD j 0
def colB (rows : List TRow) (j : Nat) : List Int := rows.map fun r => r.2.1.getD j 0
def colC (rows : List TRow) (j : Nat) : List Int := rows.map fun r => r.2.2.getD j 0
def qU (rows : List TRow) (n : Nat) : List (List Int) := (List.range n).map fun j => yThrough (colA rows j)
def qV (rows : List TRow) (n : Nat) : List (List Int) := (List.range n).map fun j => yThrough (colB rows j)
def qW (rows : List TRow) (n : Nat) : List (List Int) := (List.range n).map fun j => yThrough (colC rows j)
theorem range_next (f : Nat → List Int) (n : Nat) : (List.range n).map f ++ [f n] = (List.range (n + 1)).map f := by rw [List.range_succ, List.map_append]; rfl
theorem col_next (rows : List TRow) (f : TRow → Int) (i : Nat) (h : i < rows.length) : (rows.take i).map f ++ [f rows[i]] = (rows.take (i + 1)).map f := by rw [← take_next rows i h, List.map_append]; rfl
theorem catL (xs : List (List Int)) (l : List Int) : catC (cutC (xs.flatMap eL) 0 (mulN xs.length 1)) (cutC [.fs l.length (cutC (l.flatMap eI) 0 (mulN l.length 1))] 0 1) = (xs ++ [l]).flatMap eL := by rw [cut_all eL_len, cut_all eI_len, List.flatMap_append]; rfl
theorem addN1L (xs : List (List Int)) (l : List Int) : addN xs.length 1 = (xs ++ [l]).length := by rw [List.length_append]; rfl
/-- Rows that have a number for each wire. -/
def rowsN (rows : List TRow) (n : Nat) : Prop := ∀ r ∈ rows, r.1.length = n ∧ r.2.1.length = n ∧ r.2.2.length = n
theorem getD_e {l : List Int} {i : Nat} (h : i < l.length) : l[i] = l.getD i 0 := (getD_i h).symm
theorem spec_qap_in (rows : List TRow) (n : Nat) (hn : n ≤ 20) (hl : rows.length ≤ 16) (hr : rowsN rows n) (p : Int) (j : Nat) (hj : j < n) (u v w : List (List Int)) (hu : u.length = j) (hv : v.length = j) (hw : w.length = j) (R : List AV)
    (he : Ev (fun k m _ _ => L_spec_QapOf_0 k m ((j + 1 : Nat) : Int) (n : Int) p rows.length (rows.flatMap eRow) (u ++ [yThrough (colA rows j)]).length (v ++ [yThrough (colB rows j)]).length (w ++ [yThrough (colC rows j)]).length 0 0 0 ((u ++ [yThrough (colA rows j)]).flatMap eL) ((v ++ [yThrough (colB rows j)]).flatMap eL) ((w ++ [yThrough (colC rows j)]).flatMap eL) [] [] []) R) (d : Nat) : ∀ i : Nat, i + d = rows.length →
    Ev (fun k m q _ => L_spec_QapOf_1 k m q (j : Int) (i : Int) ((rows.take i).map fun r => r.2.2.getD j 0).length ((rows.take i).map fun r => r.2.1.getD j 0).length ((rows.take i).map fun r => r.1.getD j 0).length (n : Int) p rows.length (rows.flatMap eRow) u.length v.length w.length 0 0 0 (((rows.take i).map fun r => r.2.2.getD j 0).flatMap eI) (((rows.take i).map fun r => r.2.1.getD j 0).flatMap eI) (((rows.take i).map fun r => r.1.getD j 0).flatMap eI) (u.flatMap eL) (v.flatMap eL) (w.flatMap eL) [] [] []) R := by
  induction d with
  | zero =>
    intro i hi
    rw [List.take_of_length_le (by omega)]
    have la : (colA rows j).length = rows.length := by simp [colA]
    have lb : (colB rows j).length = rows.length := by simp [colB]
    have lc : (colC rows j).length = rows.length := by simp [colC]
    refine Ev.step (fun k m q _ => L_spec_QapOf_1_s k m q _ _ _ _ _ _ _ _ _ _ _ _ _ _ _ _ _ _ _ _ _ _ _ _) (Ev.f (ltI_f (by rw [lenI_c]; omega)) ?_)
    rw [cut_all eI_len, cut_all eI_len, cut_all eI_len]
    refine Ev.c (spec_PolyThrough_ev (colA rows j) (by omega)) (Ev.g (plainI _) (Ev.g (fitN_small (by rw [addN_d]; omega) (by decide)) (Ev.c (spec_PolyThrough_ev (colB rows j) (by omega)) (Ev.g (plainI _) (Ev.g (fitN_small (by rw [addN_d]; omega) (by decide)) (Ev.c (spec_PolyThrough_ev (colC rows j) (by omega)) (Ev.g (plainI _) (Ev.g (fitN_small (by rw [addN_d]; omega) (by decide)) ?_))))))))
    simp only [hdV_c, tlV_c, parts1_a, asInt_i, asBool_b, asStr_s, asLen_f, asCells_f, wrS (show j < 9223372036854775807 by omega)]
    rw [catL, catL, catL, addN1L u (yThrough (colA rows j)), addN1L v (yThrough (colB rows j)), addN1L w (yThrough (colC rows j))]
    exact he.o1
  | succ d ih =>
    intro i hi
    have hi' : i < rows.length := by omega
    obtain ⟨h1, h2, h3⟩ := hr _ (List.getElem_mem hi')
    have j1 : j < (rows[i]).1.length := by omega
    have j2 : j < (rows[i]).2.1.length := by omega
    have j3 : j < (rows[i]).2.2.length := by omega
    have ll : ∀ f : TRow → Int, ((rows.take i).map f).length = i := fun f => by rw [List.length_map, List.length_take]; omega
    refine Ev.step (fun k m q _ => L_spec_QapOf_1_s k m q _ _ _ _ _ _ _ _ _ _ _ _ _ _ _ _ _ _ _ _ _ _ _ _) (Ev.t (ltI_t (by rw [lenI_c]; omega)) ?_)
    rw [ri0 hi', ri1 hi', ri2 hi']
    simp only [hdV_c, tlV_c, parts1_a, asInt_i, asBool_b, asStr_s, asLen_f, asCells_f, ei j1, ei j2, ei j3, wrS (show i < 9223372036854775807 by omega)]
    refine Ev.g (inR_n hi') (Ev.g rfl (Ev.g (inR_n j1) (Ev.g rfl (Ev.g (fitN_small (by rw [addN_d, ll]; omega) (by decide)) (Ev.g (inR_n hi') (Ev.g rfl (Ev.g (inR_n j2) (Ev.g rfl (Ev.g (fitN_small (by rw [addN_d, ll]; omega) (by decide)) (Ev.g (inR_n hi') (Ev.g rfl (Ev.g (inR_n j3) (Ev.g rfl (Ev.g (fitN_small (by rw [addN_d, ll]; omega) (by decide)) ?_))))))))))))))
    rw [catE, catE, catE, addN1 ((rows.take i).map fun r => r.1.getD j 0) (rows[i]).1[j], addN1 ((rows.take i).map fun r => r.2.1.getD j 0) (rows[i]).2.1[j], addN1 ((rows.take i).map fun r => r.2.2.getD j 0) (rows[i]).2.2[j], getD_e j1, getD_e j2, getD_e j3, col_next rows (fun r => r.1.getD j 0) i hi', col_next rows (fun r => r.2.1.getD j 0) i hi', col_next rows (fun r => r.2.2.getD j 0) i hi']
    exact ih (i + 1) (by omega)
theorem spec_qap_out (rows : List TRow) (n : Nat) (hn : n ≤ 20) (hl : rows.length ≤ 16) (hr : rowsN rows n) (p : Int) (d : Nat) : ∀ j : Nat, j + d = n →
    Ev (fun k m _ _ => L_spec_QapOf_0 k m (j : Int) (n : Int) p rows.length (rows.flatMap eRow) (qU rows j).length (qV rows j).length (qW rows j).length 0 0 0 ((qU rows j).flatMap eL) ((qV rows j).flatMap eL) ((qW rows j).flatMap eL) [] [] []) [.agg [.fs (qU rows n).length ((qU rows n).flatMap eL), .fs (qV rows n).length ((qV rows n).flatMap eL), .fs (qW rows n).length ((qW rows n).flatMap eL)], .bool true] := by
  induction d with
  | zero =>
    intro j hj
    obtain rfl : j = n := by omega
    refine Ev.step (fun k m _ _ => L_spec_QapOf_0_s k m _ _ _ _ _ _ _ _ _ _ _ _ _ _ _ _ _) (Ev.f (ltI_f (by omega)) (Ev.some_ ?_))
    rw [cut_all eL_len, cut_all eL_len, cut_all eL_len]
  | succ d ih =>
    intro j hj
    have := ih (j + 1) (by omega)
    have e1 : qU rows (j + 1) = qU rows j ++ [yThrough (colA rows j)] := (range_next _ j).symm
    have e2 : qV rows (j + 1) = qV rows j ++ [yThrough (colB rows j)] := (range_next _ j).symm
    have e3 : qW rows (j + 1) = qW rows j ++ [yThrough (colC rows j)] := (range_next _ j).symm
    rw [e1, e2, e3] at this
    exact Ev.step (fun k m _ _ => L_spec_QapOf_0_s k m _ _ _ _ _ _ _ _ _ _ _ _ _ _ _ _ _) (Ev.t (ltI_t (by omega)) (spec_qap_in rows n hn hl hr p j (by omega) _ _ _ (by simp [qU]) (by simp [qV]) (by simp [qW]) _ this rows.length 0 (by omega)).l1)
theorem impl_qap_in (rows : List TRow) (n : Nat) (hn : n ≤ 20) (hl : rows.length ≤ 16) (hr : rowsN rows n) (p : Int) (j : Nat) (hj : j < n) (u v w : List (List Int)) (hu : u.length = j) (hv : v.length = j) (hw : w.length = j) (R : List AV)
    (he : Ev (fun k m _ _ => L_impl_QapOf_0 k m (n : Int) ((j + 1 : Nat) : Int) (u ++ [yThrough (colA rows j)]).length (v ++ [yThrough (colB rows j)]).length (w ++ [yThrough (colC rows j)]).length (n : Int) p rows.length (rows.flatMap eRow) 0 0 0 ((u ++ [yThrough (colA rows j)]).flatMap eL) ((v ++ [yThrough (colB rows j)]).flatMap eL) ((w ++ [yThrough (colC rows j)]).flatMap eL) [] [] []) R) (d : Nat) : ∀ i : Nat, i + d = rows.length →
    Ev (fun k m q _ => L_impl_QapOf_1 k m q (j : Int) rows.length (rows.flatMap eRow) (n : Int) (j : Int) (lenI rows.length) (i : Int) ((rows.take i).map fun r => r.2.2.getD j 0).length ((rows.take i).map fun r => r.2.1.getD j 0).length ((rows.take i).map fun r => r.1.getD j 0).length u.length v.length w.length (n : Int) p rows.length (rows.flatMap eRow) 0 0 0 (((rows.take i).map fun r => r.2.2.getD j 0).flatMap eI) (((rows.take i).map fun r => r.2.1.getD j 0).flatMap eI) (((rows.take i).map fun r => r.1.getD j 0).flatMap eI) (u.flatMap eL) (v.flatMap eL) (w.flatMap eL) [] [] []) R := by
  induction d with
  | zero =>
    intro i hi
    rw [List.take_of_length_le (by omega)]
    have la : (colA rows j).length = rows.length := by simp [colA]
    have lb : (colB rows j).length = rows.length := by simp [colB]
    have lc : (colC rows j).length = rows.length := by simp [colC]
    refine Ev.step (fun k m q _ => L_impl_QapOf_1_s k m q _ _ _ _ _ _ _ _ _ _ _ _ _ _ _ _ _ _ _ _ _ _ _ _ _ _ _ _ _) (Ev.f (ltI_f (by rw [lenI_c]; omega)) ?_)
    rw [cut_all eI_len, cut_all eI_len, cut_all eI_len]
    refine Ev.c (impl_PolyThrough_ev (colA rows j) (by omega)) (Ev.g (plainI _) (Ev.g (fitN_small (by rw [addN_d]; omega) (by decide)) (Ev.c (impl_PolyThrough_ev (colB rows j) (by omega)) (Ev.g (plainI _) (Ev.g (fitN_small (by rw [addN_d]; omega) (by decide)) (Ev.c (impl_PolyThrough_ev (colC rows j) (by omega)) (Ev.g (plainI _) (Ev.g (fitN_small (by rw [addN_d]; omega) (by decide)) ?_))))))))
    simp only [hdV_c, tlV_c, parts1_a, asInt_i, asBool_b, asStr_s, asLen_f, asCells_f, wrS (show j < 9223372036854775807 by omega)]
    rw [catL, catL, catL, addN1L u (yThrough (colA rows j)), addN1L v (yThrough (colB rows j)), addN1L w (yThrough (colC rows j))]
    exact he.o1
  | succ d ih =>
    intro i hi
    have hi' : i < rows.length := by omega
    obtain ⟨h1, h2, h3⟩ := hr _ (List.getElem_mem hi')
    have j1 : j < (rows[i]).1.length := by omega
    have j2 : j < (rows[i]).2.1.length := by omega
    have j3 : j < (rows[i]).2.2.length := by omega
    have ll : ∀ f : TRow → Int, ((rows.take i).map f).length = i := fun f => by rw [List.length_map, List.length_take]; omega
    refine Ev.step (fun k m q _ => L_impl_QapOf_1_s k m q _ _ _ _ _ _ _ _ _ _ _ _ _ _ _ _ _ _ _ _ _ _ _ _ _ _ _ _ _) (Ev.t (ltI_t (by rw [lenI_c]; omega)) ?_)
    rw [ri0 hi', ri1 hi', ri2 hi']
    simp only [hdV_c, tlV_c, parts1_a, asInt_i, asBool_b, asStr_s, asLen_f, asCells_f, ei j1, ei j2, ei j3, wrS (show i < 9223372036854775807 by omega)]
    refine Ev.g (inR_n hi') (Ev.g rfl (Ev.g (inR_n j1) (Ev.g rfl (Ev.g (fitN_small (by rw [addN_d, ll]; omega) (by decide)) (Ev.g (inR_n j2) (Ev.g rfl (Ev.g (fitN_small (by rw [addN_d, ll]; omega) (by decide)) (Ev.g (inR_n j3) (Ev.g rfl (Ev.g (fitN_small (by rw [addN_d, ll]; omega) (by decide)) ?_))))))))))
    rw [catE, catE, catE, addN1 ((rows.take i).map fun r => r.1.getD j 0) (rows[i]).1[j], addN1 ((rows.take i).map fun r => r.2.1.getD j 0) (rows[i]).2.1[j], addN1 ((rows.take i).map fun r => r.2.2.getD j 0) (rows[i]).2.2[j], getD_e j1, getD_e j2, getD_e j3, col_next rows (fun r => r.1.getD j 0) i hi', col_next rows (fun r => r.2.1.getD j 0) i hi', col_next rows (fun r => r.2.2.getD j 0) i hi']
    exact ih (i + 1) (by omega)
theorem impl_qap_out (rows : List TRow) (n : Nat) (hn : n ≤ 20) (hl : rows.length ≤ 16) (hr : rowsN rows n) (p : Int) (d : Nat) : ∀ j : Nat, j + d = n →
    Ev (fun k m _ _ => L_impl_QapOf_0 k m (n : Int) (j : Int) (qU rows j).length (qV rows j).length (qW rows j).length (n : Int) p rows.length (rows.flatMap eRow) 0 0 0 ((qU rows j).flatMap eL) ((qV rows j).flatMap eL) ((qW rows j).flatMap eL) [] [] []) [.agg [.fs (qU rows n).length ((qU rows n).flatMap eL), .fs (qV rows n).length ((qV rows n).flatMap eL), .fs (qW rows n).length ((qW rows n).flatMap eL)], .bool true] := by
  induction d with
  | zero =>
    intro j hj
    obtain rfl : j = n := by omega
    refine Ev.step (fun k m _ _ => L_impl_QapOf_0_s k m _ _ _ _ _ _ _ _ _ _ _ _ _ _ _ _ _ _) (Ev.f (ltI_f (by omega)) (Ev.some_ ?_))
    rw [cut_all eL_len, cut_all eL_len, cut_all eL_len]
  | succ d ih =>
    intro j hj
    have := ih (j + 1) (by omega)
    have e1 : qU rows (j + 1) = qU rows j ++ [yThrough (colA rows j)] := (range_next _ j).symm
    have e2 : qV rows (j + 1) = qV rows j ++ [yThrough (colB rows j)] := (range_next _ j).symm
    have e3 : qW rows (j + 1) = qW rows j ++ [yThrough (colC rows j)] := (range_next _ j).symm
    rw [e1, e2, e3] at this
    exact Ev.step (fun k m _ _ => L_impl_QapOf_0_s k m _ _ _ _ _ _ _ _ _ _ _ _ _ _ _ _ _ _) (Ev.t (ltI_t (by omega)) (impl_qap_in rows n hn hl hr p j (by omega) _ _ _ (by simp [qU]) (by simp [qV]) (by simp [qW]) _ this rows.length 0 (by omega)).l1)
theorem sysOk_rows {w p : Int} {rows : List TRow} (h : sysOk w p rows = true) : (1 ≤ w ∧ w ≤ 20) ∧ (1 ≤ rows.length ∧ rows.length ≤ 16) ∧ rowsN rows w.toNat := by
  unfold sysOk at h
  simp only [Bool.and_eq_true, decide_eq_true_eq, List.all_eq_true] at h
  obtain ⟨h1, _, h2, h3⟩ := h
  refine ⟨h1, h2, fun r hr => ?_⟩
  have := h3 r hr
  unfold rowWide wideL at this
  simp only [Bool.and_eq_true, decide_eq_true_eq] at this
  omega
/-- The three lists of polynomials of a system; none: it is not right. -/
def qapR (w p : Int) (rows : List TRow) : List AV := if sysOk w p rows = true then [.agg [.fs (qU rows w.toNat).length ((qU rows w.toNat).flatMap eL), .fs (qV rows w.toNat).length ((qV rows w.toNat).flatMap eL), .fs (qW rows w.toNat).length ((qW rows w.toNat).flatMap eL)], .bool true] else [.agg [.fs 0 [], .fs 0 [], .fs 0 []], .bool false]
theorem spec_QapOf_ev (w p : Int) (rows : List TRow) (hb : rows.length ≤ 1048576) (hr : ∀ y ∈ rows, lenRow y) : Does cp n_spec_QapOf [.agg [.int .i64 w, .int .i64 p, .fs rows.length (rows.flatMap eRow)]] (qapR w p rows) := by
  refine Ev.fn (fun k => F_spec_QapOf k _ _ _ _) (Ev.c (spec_SystemOk_ev w p rows hb hr) ?_)
  unfold qapR
  by_cases h : sysOk w p rows = true
  · rw [if_pos h]
    obtain ⟨h1, h2, h3⟩ := sysOk_rows h
    refine Ev.f (by show notB (sysOk w p rows) = false; rw [h]; rfl) ?_
    obtain ⟨n, rfl⟩ := Int.eq_ofNat_of_zero_le (show 0 ≤ w by omega)
    exact (spec_qap_out rows n (by omega) h2.2 h3 p n 0 (by omega)).l0
  · rw [if_neg h]
    rw [Bool.not_eq_true] at h
    exact Ev.t (by show notB (sysOk w p rows) = true; rw [h]; rfl) (Ev.now _)
theorem impl_QapOf_ev (w p : Int) (rows : List TRow) (hb : rows.length ≤ 1048576) (hr : ∀ y ∈ rows, lenRow y) : Does cp n_impl_QapOf [.agg [.int .i64 w, .int .i64 p, .fs rows.length (rows.flatMap eRow)]] (qapR w p rows) := by
  refine Ev.fn (fun k => F_impl_QapOf k _ _ _ _) (Ev.c (impl_SystemOk_ev w p rows hb hr) ?_)
  unfold qapR
  by_cases h : sysOk w p rows = true
  · rw [if_pos h]
    obtain ⟨h1, h2, h3⟩ := sysOk_rows h
    refine Ev.f (by show notB (sysOk w p rows) = false; rw [h]; rfl) ?_
    obtain ⟨n, rfl⟩ := Int.eq_ofNat_of_zero_le (show 0 ≤ w by omega)
    exact (impl_qap_out rows n (by omega) h2.2 h3 p n 0 (by omega)).l0
  · rw [if_neg h]
    rw [Bool.not_eq_true] at h
    exact Ev.t (by show notB (sysOk w p rows) = true; rw [h]; rfl) (Ev.now _)
/-! mixed -/
def mixGo (ps : List (List Int)) (ws : List Int) : Nat → Nat → List Int → List Int
  | 0, _, o => o
  | d + 1, i, o => mixGo ps ws d (i + 1) (yAdd o (yScale (ps.getD i []) (ws.getD i 0)))
def yMix (ps : List (List Int)) (ws : List Int) : List Int := mixGo ps ws (min ps.length ws.length) 0 []
theorem getL {ps : List (List Int)} {i : Nat} (h : i < ps.length) : ps.getD i [] = ps[i] := by simp [List.getD_eq_getElem?_getD, List.getElem?_eq_getElem h]
theorem mixGo_len (ps : List (List Int)) (ws : List Int) (hp : ∀ p ∈ ps, p.length ≤ 128) (d : Nat) : ∀ (i : Nat) (o : List Int), i + d ≤ ps.length → o.length ≤ 128 → (mixGo ps ws d i o).length ≤ 128 := by
  induction d with
  | zero => intro i o _ h; exact h
  | succ d ih =>
    intro i o hi h
    refine ih _ _ (by omega) (Nat.le_trans (yAdd_len _ _) ?_)
    rw [yScale_len, getL (by omega)]
    have := hp _ (List.getElem_mem (show i < ps.length by omega))
    omega
theorem yMix_len (ps : List (List Int)) (ws : List Int) (hp : ∀ p ∈ ps, p.length ≤ 128) : (yMix ps ws).length ≤ 128 := mixGo_len ps ws hp _ 0 [] (by omega) (by simp)
theorem spec_Mixed_l (ps : List (List Int)) (ws : List Int) (hp : ∀ p ∈ ps, p.length ≤ 128) (hl : ps.length ≤ 1000000) (d : Nat) : ∀ (i : Nat) (o : List Int), i + d = min ps.length ws.length → o.length ≤ 128 →
    Ev (fun k m _ _ => L_spec_Mixed_0 k m ws.length (ws.flatMap eI) ps.length (ps.flatMap eL) (i : Int) o.length (o.flatMap eI)) [.fs (mixGo ps ws d i o).length ((mixGo ps ws d i o).flatMap eI)] := by
  induction d with
  | zero =>
    intro i o hi ho
    refine Ev.step (fun k m _ _ => L_spec_Mixed_0_s k m _ _ _ _ _ _ _) ?_
    rw [cut_all eI_len]
    by_cases c : i < ps.length
    · exact Ev.t (ltI_t (by rw [lenI_c]; omega)) (Ev.f (ltI_f (by rw [lenI_c]; omega)) (Ev.now _))
    · exact Ev.f (ltI_f (by rw [lenI_c]; omega)) (Ev.now _)
  | succ d ih =>
    intro i o hi ho
    have h1 : i < ps.length := by omega
    have h2 : i < ws.length := by omega
    have h3 := hp _ (List.getElem_mem h1)
    have h4 : (yAdd o (yScale ps[i] ws[i])).length ≤ 128 := by
      refine Nat.le_trans (yAdd_len _ _) ?_
      rw [yScale_len]; omega
    refine Ev.step (fun k m _ _ => L_spec_Mixed_0_s k m _ _ _ _ _ _ _) (Ev.t (ltI_t (by rw [lenI_c]; omega)) (Ev.t (ltI_t (by rw [lenI_c]; omega)) (Ev.g (inR_n h1) ?_)))
    simp only [eli h1, ei h2, hdV_c, tlV_c, parts1_a, asInt_i, asBool_b, asStr_s, asLen_f, asCells_f, cut_all eI_len]
    refine Ev.g rfl (Ev.g (inR_n h2) (Ev.g rfl (Ev.c (spec_l14Scale_ev _ _ (by omega)) ?_)))
    simp only [hdV_c, tlV_c, parts1_a, asInt_i, asBool_b, asStr_s, asLen_f, asCells_f, cut_all eI_len]
    refine Ev.c (spec_PolyAdd_ev o _ (by omega) (by rw [yScale_len]; omega)) (Ev.g (plainI _) ?_)
    simp only [hdV_c, tlV_c, parts1_a, asInt_i, asBool_b, asStr_s, asLen_f, asCells_f, wrS (show i < 9223372036854775807 by omega)]
    rw [mixGo, getL h1, getD_i h2]
    exact ih (i + 1) _ (by omega) h4
theorem spec_Mixed_ev (ps : List (List Int)) (ws : List Int) (hp : ∀ p ∈ ps, p.length ≤ 128) (hl : ps.length ≤ 1000000) : Does cp n_spec_Mixed [.fs ps.length (ps.flatMap eL), .fs ws.length (ws.flatMap eI)] [.fs (yMix ps ws).length ((yMix ps ws).flatMap eI)] :=
  Ev.fn (fun k => F_spec_Mixed k _ _ _ _) (spec_Mixed_l ps ws hp hl _ 0 [] (by omega) (by simp)).l0
theorem impl_Mixed_l (ps : List (List Int)) (ws : List Int) (hp : ∀ p ∈ ps, p.length ≤ 128) (hl : ps.length ≤ 1000000) (d : Nat) : ∀ (i : Nat) (o : List Int), i + d = min ps.length ws.length → o.length ≤ 128 →
    Ev (fun k m _ _ => L_impl_Mixed_0 k m ws.length (ws.flatMap eI) ps.length (ps.flatMap eL) ((min ps.length ws.length : Nat) : Int) (i : Int) o.length (o.flatMap eI)) [.fs (mixGo ps ws d i o).length ((mixGo ps ws d i o).flatMap eI)] := by
  induction d with
  | zero =>
    intro i o hi ho
    refine Ev.step (fun k m _ _ => L_impl_Mixed_0_s k m _ _ _ _ _ _ _ _) (Ev.f (ltI_f (by omega)) (Ev.some_ ?_))
    rw [cut_all eI_len]; rfl
  | succ d ih =>
    intro i o hi ho
    have h1 : i < ps.length := by omega
    have h2 : i < ws.length := by omega
    have h3 := hp _ (List.getElem_mem h1)
    have h4 : (yAdd o (yScale ps[i] ws[i])).length ≤ 128 := by
      refine Nat.le_trans (yAdd_len _ _) ?_
      rw [yScale_len]; omega
    refine Ev.step (fun k m _ _ => L_impl_Mixed_0_s k m _ _ _ _ _ _ _ _) (Ev.t (ltI_t (by omega)) (Ev.g (inR_n h1) ?_))
    simp only [eli h1, ei h2, hdV_c, tlV_c, parts1_a, asInt_i, asBool_b, asStr_s, asLen_f, asCells_f, cut_all eI_len]
    refine Ev.g rfl (Ev.g (inR_n h2) (Ev.g rfl (Ev.c (impl_scaled_ev _ _ (by omega)) ?_)))
    simp only [hdV_c, tlV_c, parts1_a, asInt_i, asBool_b, asStr_s, asLen_f, asCells_f, cut_all eI_len]
    refine Ev.c (impl_PolyAdd_ev o _ (by omega) (by rw [yScale_len]; omega)) (Ev.g (plainI _) ?_)
    simp only [hdV_c, tlV_c, parts1_a, asInt_i, asBool_b, asStr_s, asLen_f, asCells_f, wrS (show i < 9223372036854775807 by omega)]
    rw [mixGo, getL h1, getD_i h2]
    exact ih (i + 1) _ (by omega) h4
theorem impl_Mixed_ev (ps : List (List Int)) (ws : List Int) (hp : ∀ p ∈ ps, p.length ≤ 128) (hl : ps.length ≤ 1000000) : Does cp n_impl_Mixed [.fs ps.length (ps.flatMap eL), .fs ws.length (ws.flatMap eI)] [.fs (yMix ps ws).length ((yMix ps ws).flatMap eI)] := by
  refine Ev.fn (fun k => F_impl_Mixed k _ _ _ _) ?_
  have e : minI (lenI ps.length) (lenI ws.length) = ((min ps.length ws.length : Nat) : Int) := by
    unfold minI
    rw [lenI_c, lenI_c]
    split <;> omega
  rw [e]
  exact (impl_Mixed_l ps ws hp hl _ 0 [] (by omega) (by simp)).l0
theorem qU_len (rows : List TRow) (n : Nat) : ∀ p ∈ qU rows n, p.length ≤ 128 := by
  intro p hp
  obtain ⟨j, _, rfl⟩ := List.mem_map.1 hp
  exact yThrough_len _
theorem qV_len (rows : List TRow) (n : Nat) : ∀ p ∈ qV rows n, p.length ≤ 128 := by
  intro p hp
  obtain ⟨j, _, rfl⟩ := List.mem_map.1 hp
  exact yThrough_len _
theorem qW_len (rows : List TRow) (n : Nat) : ∀ p ∈ qW rows n, p.length ≤ 128 := by
  intro p hp
  obtain ⟨j, _, rfl⟩ := List.mem_map.1 hp
  exact yThrough_len _
/-! the quotient -/
def mA (w : Int) (rows : List TRow) (ws : List Int) : List Int := yMix (qU rows w.toNat) ws
def mB (w : Int) (rows : List TRow) (ws : List Int) : List Int := yMix (qV rows w.toNat) ws
def mC (w : Int) (rows : List TRow) (ws : List Int) : List Int := yMix (qW rows w.toNat) ws
def yParts (w : Int) (rows : List TRow) (ws : List Int) : List Int × List Int := yDiv (yAdd (yMul (mA w rows ws) (mB w rows ws)) (yScale (mC w rows ws) (-1))) (yZero rows.length)
theorem spec_parts (w : Int) (rows : List TRow) (ws : List Int) (l1 : (mA w rows ws).length ≤ 128) (l2 : (mB w rows ws).length ≤ 128) (l3 : (mC w rows ws).length ≤ 128) :
    Does cp n_spec_PolyDivide [.fs (yAdd (yMul (mA w rows ws) (mB w rows ws)) (yScale (mC w rows ws) (-1))).length ((yAdd (yMul (mA w rows ws) (mB w rows ws)) (yScale (mC w rows ws) (-1))).flatMap eI), .fs (yZero rows.length).length ((yZero rows.length).flatMap eI)] [.fs (yParts w rows ws).1.length ((yParts w rows ws).1.flatMap eI), .fs (yParts w rows ws).2.length ((yParts w rows ws).2.flatMap eI)] := by
  have lm := yMul_len (mA w rows ws) (mB w rows ws)
  have ls := yScale_len (mC w rows ws) (-1)
  have la := yAdd_len (yMul (mA w rows ws) (mB w rows ws)) (yScale (mC w rows ws) (-1))
  have lz := yZero_len (rows.length : Int)
  unfold yParts
  exact spec_PolyDivide_ev _ _ (by omega) (by omega)
theorem impl_parts (w : Int) (rows : List TRow) (ws : List Int) (l1 : (mA w rows ws).length ≤ 128) (l2 : (mB w rows ws).length ≤ 128) (l3 : (mC w rows ws).length ≤ 128) :
    Does cp n_impl_PolyDivide [.fs (yAdd (yMul (mA w rows ws) (mB w rows ws)) (yScale (mC w rows ws) (-1))).length ((yAdd (yMul (mA w rows ws) (mB w rows ws)) (yScale (mC w rows ws) (-1))).flatMap eI), .fs (yZero rows.length).length ((yZero rows.length).flatMap eI)] [.fs (yParts w rows ws).1.length ((yParts w rows ws).1.flatMap eI), .fs (yParts w rows ws).2.length ((yParts w rows ws).2.flatMap eI)] := by
  have lm := yMul_len (mA w rows ws) (mB w rows ws)
  have ls := yScale_len (mC w rows ws) (-1)
  have la := yAdd_len (yMul (mA w rows ws) (mB w rows ws)) (yScale (mC w rows ws) (-1))
  have lz := yZero_len (rows.length : Int)
  unfold yParts
  exact impl_PolyDivide_ev _ _ (by omega) (by omega)
theorem yParts_len (w : Int) (rows : List TRow) (ws : List Int) : (yParts w rows ws).1.length ≤ 128 := by
  unfold yParts
  exact (yDiv_len _ _).1
def yQuot (w p : Int) (rows : List TRow) (ws : List Int) : List Int × Bool :=
  if sysOk w p rows = true then (if wideL w ws = true then (if 0 < (yParts w rows ws).2.length then ([], false) else ((yParts w rows ws).1, true)) else ([], false)) else ([], false)
theorem plain2 (a b : List Int) : plainRes [.fs a.length (a.flatMap eI), .fs b.length (b.flatMap eI)] = true := by
  have h1 := plainI a
  have h2 := plainI b
  simp only [plainRes, List.all_cons, List.all_nil, Bool.and_true] at h1 h2 ⊢
  rw [h1, h2]; rfl
theorem lens (w : Int) (rows : List TRow) (ws : List Int) (h : w ≤ 20) : (mA w rows ws).length ≤ 128 ∧ (mB w rows ws).length ≤ 128 ∧ (mC w rows ws).length ≤ 128 ∧ (qU rows w.toNat).length ≤ 20 ∧ (qV rows w.toNat).length ≤ 20 ∧ (qW rows w.toNat).length ≤ 20 := by
  refine ⟨yMix_len _ _ (qU_len _ _), yMix_len _ _ (qV_len _ _), yMix_len _ _ (qW_len _ _), ?_, ?_, ?_⟩ <;> simp [qU, qV, qW] <;> omega
theorem spec_l15Parts_ev (w p : Int) (rows : List TRow) (ws : List Int) (hb : rows.length ≤ 1048576) (hr : ∀ y ∈ rows, lenRow y) (h : sysOk w p rows = true) : Does cp n_spec_l15Parts [.agg [.int .i64 w, .int .i64 p, .fs rows.length (rows.flatMap eRow)], .fs ws.length (ws.flatMap eI)]
    [.fs (mA w rows ws).length ((mA w rows ws).flatMap eI), .fs (mB w rows ws).length ((mB w rows ws).flatMap eI), .fs (mC w rows ws).length ((mC w rows ws).flatMap eI)] := by
  have e := spec_QapOf_ev w p rows hb hr
  unfold qapR at e
  rw [if_pos h] at e
  obtain ⟨_, _, _, l1, l2, l3⟩ := lens w rows ws (sysOk_rows h).1.2
  exact Ev.fn (fun k => F_spec_l15Parts k _ _ _ _ _ _) (Ev.c e (Ev.c (spec_Mixed_ev _ ws (qU_len _ _) (by omega)) (Ev.c (spec_Mixed_ev _ ws (qV_len _ _) (by omega)) (Ev.c (spec_Mixed_ev _ ws (qW_len _ _) (by omega)) (Ev.now _)))))
theorem spec_QuotientOf_ev (w p : Int) (rows : List TRow) (ws : List Int) (hb : rows.length ≤ 1048576) (hr : ∀ y ∈ rows, lenRow y) (hw : ws.length ≤ 1048576) : Does cp n_spec_QuotientOf [.agg [.int .i64 w, .int .i64 p, .fs rows.length (rows.flatMap eRow)], .fs ws.length (ws.flatMap eI)] [.fs (yQuot w p rows ws).1.length ((yQuot w p rows ws).1.flatMap eI), .bool (yQuot w p rows ws).2] := by
  refine Ev.fn (fun k => F_spec_QuotientOf k _ _ _ _ _ _) (Ev.c (spec_SystemOk_ev w p rows hb hr) ?_)
  unfold yQuot
  by_cases h : sysOk w p rows = true
  · rw [if_pos h]
    refine Ev.f (by show notB (sysOk w p rows) = false; rw [h]; rfl) (Ev.c (spec_l13Wide_ev ws w hw) ?_)
    by_cases h2 : wideL w ws = true
    · rw [if_pos h2]
      refine Ev.f (by show notB (wideL w ws) = false; rw [h2]; rfl) (Ev.c (spec_l15Parts_ev w p rows ws hb hr h) ?_)
      obtain ⟨l1, l2, l3, _⟩ := lens w rows ws (sysOk_rows h).1.2
      have lm := yMul_len (mA w rows ws) (mB w rows ws)
      have ls := yScale_len (mC w rows ws) (-1)
      have la := yAdd_len (yMul (mA w rows ws) (mB w rows ws)) (yScale (mC w rows ws) (-1))
      have lz := yZero_len (rows.length : Int)
      refine Ev.c (spec_PolyMul_ev _ _ (by omega) (by omega)) (Ev.c (spec_l14Scale_ev _ (-1) (by omega)) ?_)
      simp only [hdV_c, tlV_c, parts1_a, asInt_i, asBool_b, asStr_s, asLen_f, asCells_f, cut_all eI_len]
      refine Ev.c (spec_PolyAdd_ev _ _ (by omega) (by omega)) (Ev.g (plainI _) (Ev.c (spec_PolyZero_ev (rows.length : Int)) ?_))
      simp only [hdV_c, tlV_c, parts1_a, asInt_i, asBool_b, asStr_s, asLen_f, asCells_f, cut_all eI_len]
      refine Ev.c (spec_parts w rows ws l1 l2 l3) (Ev.g (plain2 _ _) ?_)
      simp only [hdV_c, tlV_c, parts1_a, asInt_i, asBool_b, asStr_s, asLen_f, asCells_f, cut_all eI_len]
      by_cases h3 : 0 < (yParts w rows ws).2.length
      · rw [if_pos h3]
        exact Ev.t (ltI_t (by rw [lenI_c]; omega)) (Ev.now _)
      · rw [if_neg h3]
        dsimp only
        exact Ev.f (ltI_f (by rw [lenI_c]; omega)) (Ev.now _)
    · rw [if_neg h2]
      rw [Bool.not_eq_true] at h2
      exact Ev.t (by show notB (wideL w ws) = true; rw [h2]; rfl) (Ev.now _)
  · rw [if_neg h]
    rw [Bool.not_eq_true] at h
    exact Ev.t (by show notB (sysOk w p rows) = true; rw [h]; rfl) (Ev.now _)
theorem impl_isWitness_ev (w p : Int) (rows : List TRow) (ws : List Int) (hw : ws.length ≤ 1048576) : Does cp n_impl_isWitness [.agg [.int .i64 w, .int .i64 p, .fs rows.length (rows.flatMap eRow)], .fs ws.length (ws.flatMap eI)] [.bool (wideL w ws)] := by
  refine Ev.fn (fun k => F_impl_isWitness k _ _ _ _ _ _) ?_
  unfold wideL
  by_cases c : (ws.length : Int) = w
  · rw [decide_eq_true c, Bool.and_true]
    exact Ev.t (eqI_t c) (Ev.c (impl_areScalars_ev ws hw) (Ev.now _))
  · rw [decide_eq_false c, Bool.and_false]
    exact Ev.f (eqI_f c) (Ev.now _)
theorem impl_QuotientOf_ev (w p : Int) (rows : List TRow) (ws : List Int) (hb : rows.length ≤ 1048576) (hr : ∀ y ∈ rows, lenRow y) (hw : ws.length ≤ 1048576) : Does cp n_impl_QuotientOf [.agg [.int .i64 w, .int .i64 p, .fs rows.length (rows.flatMap eRow)], .fs ws.length (ws.flatMap eI)] [.fs (yQuot w p rows ws).1.length ((yQuot w p rows ws).1.flatMap eI), .bool (yQuot w p rows ws).2] := by
  have e := impl_QapOf_ev w p rows hb hr
  unfold qapR at e
  refine Ev.fn (fun k => F_impl_QuotientOf k _ _ _ _ _ _) ?_
  unfold yQuot
  by_cases h : sysOk w p rows = true
  · rw [if_pos h] at e ⊢
    refine Ev.c e (Ev.f rfl (Ev.c (impl_isWitness_ev w p rows ws hw) ?_))
    by_cases h2 : wideL w ws = true
    · rw [if_pos h2]
      obtain ⟨l1, l2, l3, l4, l5, l6⟩ := lens w rows ws (sysOk_rows h).1.2
      have lm := yMul_len (mA w rows ws) (mB w rows ws)
      have ls := yScale_len (mC w rows ws) (-1)
      have la := yAdd_len (yMul (mA w rows ws) (mB w rows ws)) (yScale (mC w rows ws) (-1))
      have lz := yZero_len (rows.length : Int)
      refine Ev.f (by show notB (wideL w ws) = false; rw [h2]; rfl) (Ev.c (impl_Mixed_ev _ ws (qU_len _ _) (by omega)) (Ev.c (impl_Mixed_ev _ ws (qV_len _ _) (by omega)) (Ev.c (impl_PolyMul_ev (mA w rows ws) (mB w rows ws) (by omega) (by omega)) (Ev.c (impl_Mixed_ev _ ws (qW_len _ _) (by omega)) (Ev.c (impl_scaled_ev (mC w rows ws) (-1) (by omega)) ?_)))))
      simp only [hdV_c, tlV_c, parts1_a, asInt_i, asBool_b, asStr_s, asLen_f, asCells_f, cut_all eI_len]
      refine Ev.c (impl_PolyAdd_ev _ _ (by omega) (by omega)) (Ev.g (plainI _) (Ev.c (impl_PolyZero_ev (rows.length : Int)) ?_))
      simp only [hdV_c, tlV_c, parts1_a, asInt_i, asBool_b, asStr_s, asLen_f, asCells_f, cut_all eI_len]
      refine Ev.c (impl_parts w rows ws l1 l2 l3) (Ev.g (plain2 _ _) ?_)
      simp only [hdV_c, tlV_c, parts1_a, asInt_i, asBool_b, asStr_s, asLen_f, asCells_f, cut_all eI_len]
      by_cases h3 : 0 < (yParts w rows ws).2.length
      · rw [if_pos h3]
        exact Ev.t (ltI_t (by rw [lenI_c]; omega)) (Ev.now _)
      · rw [if_neg h3]
        dsimp only
        exact Ev.f (ltI_f (by rw [lenI_c]; omega)) (Ev.now _)
    · rw [if_neg h2]
      rw [Bool.not_eq_true] at h2
      exact Ev.t (by show notB (wideL w ws) = true; rw [h2]; rfl) (Ev.now _)
  · rw [if_neg h] at e ⊢
    exact Ev.c e (Ev.t rfl (Ev.now _))
theorem yQuot_len (w p : Int) (rows : List TRow) (ws : List Int) : (yQuot w p rows ws).1.length ≤ 128 := by
  unfold yQuot
  split
  · split
    · split
      · simp
      · dsimp only
        exact yParts_len w rows ws
    · simp
  · simp
theorem yQuot_ok {w p : Int} {rows : List TRow} {ws : List Int} (h : (yQuot w p rows ws).2 = true) : sysOk w p rows = true := by
  unfold yQuot at h
  split at h
  · assumption
  · simp at h
def qHolds (w p : Int) (rows : List TRow) (ws : List Int) (x : Int) : Bool :=
  (yQuot w p rows ws).2 && eqI (yAt (mA w rows ws) x * yAt (mB w rows ws) x % 1009) ((yAt (mC w rows ws) x + (yAt (yQuot w p rows ws).1 x * yAt (yZero rows.length) x % 1009)) % 1009)
theorem spec_QapHolds_ev (w p : Int) (rows : List TRow) (ws : List Int) (x : Int) (hb : rows.length ≤ 1048576) (hr : ∀ y ∈ rows, lenRow y) (hw : ws.length ≤ 1048576) : Does cp n_spec_QapHolds [.agg [.int .i64 w, .int .i64 p, .fs rows.length (rows.flatMap eRow)], .fs ws.length (ws.flatMap eI), .int .i64 x] [.bool (qHolds w p rows ws x)] := by
  refine Ev.fn (fun k => F_spec_QapHolds k _ _ _ _ _ _ _) (Ev.c (spec_QuotientOf_ev w p rows ws hb hr hw) ?_)
  unfold qHolds
  refine Ev.an fun h => ?_
  have hs := yQuot_ok h
  obtain ⟨l1, l2, l3, _⟩ := lens w rows ws (sysOk_rows hs).1.2
  have lq := yQuot_len w p rows ws
  have lz := yZero_len (rows.length : Int)
  refine Ev.c (spec_l15Parts_ev w p rows ws hb hr hs) (Ev.c (spec_PolyAt_ev _ x (by omega)) (Ev.c (spec_PolyAt_ev _ x (by omega)) (Ev.c (spec_ScMul_ev _ _) (Ev.c (spec_PolyAt_ev _ x (by omega)) (Ev.c (spec_PolyAt_ev _ x (by omega)) (Ev.c (spec_PolyZero_ev (rows.length : Int)) ?_))))))
  simp only [hdV_c, tlV_c, parts1_a, asInt_i, asBool_b, asStr_s, asLen_f, asCells_f, cut_all eI_len]
  exact Ev.c (spec_PolyAt_ev _ x (by omega)) (Ev.c (spec_ScMul_ev _ _) (Ev.c (spec_ScAdd_ev _ _) (Ev.now _)))
theorem impl_QapHolds_ev (w p : Int) (rows : List TRow) (ws : List Int) (x : Int) (hb : rows.length ≤ 1048576) (hr : ∀ y ∈ rows, lenRow y) (hw : ws.length ≤ 1048576) : Does cp n_impl_QapHolds [.agg [.int .i64 w, .int .i64 p, .fs rows.length (rows.flatMap eRow)], .fs ws.length (ws.flatMap eI), .int .i64 x] [.bool (qHolds w p rows ws x)] := by
  refine Ev.fn (fun k => F_impl_QapHolds k _ _ _ _ _ _ _) (Ev.c (impl_QuotientOf_ev w p rows ws hb hr hw) ?_)
  unfold qHolds
  refine Ev.an fun h => ?_
  have hs := yQuot_ok h
  obtain ⟨l1, l2, l3, l4, l5, l6⟩ := lens w rows ws (sysOk_rows hs).1.2
  have lq := yQuot_len w p rows ws
  have lz := yZero_len (rows.length : Int)
  have e := impl_QapOf_ev w p rows hb hr
  unfold qapR at e
  rw [if_pos hs] at e
  refine Ev.c e (Ev.c (impl_Mixed_ev _ ws (qU_len _ _) (by omega)) (Ev.c (impl_PolyAt_ev (mA w rows ws) x (by omega)) (Ev.c (impl_Mixed_ev _ ws (qV_len _ _) (by omega)) (Ev.c (impl_PolyAt_ev (mB w rows ws) x (by omega)) (Ev.c (impl_ScMul_ev _ _) (Ev.c (impl_PolyAt_ev _ x (by omega)) (Ev.c (impl_PolyZero_ev (rows.length : Int)) ?_)))))))
  simp only [hdV_c, tlV_c, parts1_a, asInt_i, asBool_b, asStr_s, asLen_f, asCells_f, cut_all eI_len]
  exact Ev.c (impl_PolyAt_ev _ x (by omega)) (Ev.c (impl_ScMul_ev _ _) (Ev.c (impl_Mixed_ev _ ws (qW_len _ _) (by omega)) (Ev.c (impl_PolyAt_ev (mC w rows ws) x (by omega)) (Ev.c (impl_ScAdd_ev _ _) (Ev.now _)))))


theorem laws_szIntS_ev (xs : List Int) (hl : xs.length ≤ 9223372036854775807) (v : Int) (h0 : 0 ≤ v) (h1 : v ≤ 1048576) : ∃ r, Does cp n_laws_szIntS [.fs xs.length (xs.flatMap eI), .int .i64 v] [.int .i64 r] ∧ (0 ≤ r → r ≤ v ∧ xs.length ≤ 1048576) := by
  have e : wr .i64 (subI v (lenI xs.length)) = v - (xs.length : Int) := by rw [subI_d, lenI_c, wr64 (by omega)]
  by_cases c : v - (xs.length : Int) < 0
  · exact ⟨-1, Ev.fn (fun k => F_laws_szIntS k _ _ _) (Ev.t (ltI_t (by rw [e]; exact c)) (Ev.now _)), fun h => by omega⟩
  · exact ⟨v - (xs.length : Int), Ev.fn (fun k => F_laws_szIntS k _ _ _) (Ev.f (ltI_f (by rw [e]; exact c)) (Ev.some_ (by rw [e]))), fun h => ⟨by omega, by omega⟩⟩


theorem laws_szRow_ev (x0 : List Int) (x1 : List Int) (x2 : List Int) (h_x0 : (x0.length ≤ 9223372036854775807)) (h_x1 : (x1.length ≤ 9223372036854775807)) (h_x2 : (x2.length ≤ 9223372036854775807)) (v : Int) (h0 : 0 ≤ v) (h1 : v ≤ 1048576) :
    ∃ r, Does cp n_laws_szRow [.agg [.fs x0.length (x0.flatMap eI), .fs x1.length (x1.flatMap eI), .fs x2.length (x2.flatMap eI)], .int .i64 v] [.int .i64 r] ∧ (0 ≤ r → r ≤ v ∧ (x0.length ≤ 1048576) ∧ (x1.length ≤ 1048576) ∧ (x2.length ≤ 1048576)) := by
  suffices h : ∃ r, Ev (fun k _ _ _ => evF cp (k + 1) n_laws_szRow [.agg [.fs x0.length (x0.flatMap eI), .fs x1.length (x1.flatMap eI), .fs x2.length (x2.flatMap eI)], .int .i64 v]) [.int .i64 r] ∧ (0 ≤ r → r ≤ v ∧ (x0.length ≤ 1048576) ∧ (x1.length ≤ 1048576) ∧ (x2.length ≤ 1048576)) by
    obtain ⟨r, h, p⟩ := h; exact ⟨r, Ev.fn (fun _ => rfl) h, p⟩
  simp only [F_laws_szRow]
  obtain ⟨r1, e1, p1⟩ := laws_szIntS_ev x0 h_x0 v (by omega) (by omega)
  by_cases c1 : r1 < 0
  · exact ⟨-1, Ev.c e1 (Ev.t (ltI_t c1) (Ev.now _)), fun h => by omega⟩
  obtain ⟨g1, s1⟩ := p1 (by omega)
  obtain ⟨r2, e2, p2⟩ := laws_szIntS_ev x1 h_x1 r1 (by omega) (by omega)
  by_cases c2 : r2 < 0
  · exact ⟨-1, Ev.c e1 (Ev.f (ltI_f c1) (Ev.c e2 (Ev.t (ltI_t c2) (Ev.now _)))), fun h => by omega⟩
  obtain ⟨g2, s2⟩ := p2 (by omega)
  obtain ⟨r3, e3, p3⟩ := laws_szIntS_ev x2 h_x2 r2 (by omega) (by omega)
  by_cases c3 : r3 < 0
  · exact ⟨-1, Ev.c e1 (Ev.f (ltI_f c1) (Ev.c e2 (Ev.f (ltI_f c2) (Ev.c e3 (Ev.t (ltI_t c3) (Ev.now _)))))), fun h => by omega⟩
  obtain ⟨g3, s3⟩ := p3 (by omega)
  exact ⟨r3, Ev.c e1 (Ev.f (ltI_f c1) (Ev.c e2 (Ev.f (ltI_f c2) (Ev.c e3 (Ev.f (ltI_f c3) (Ev.now _)))))), fun h => ⟨by omega, s1, s2, s3⟩⟩


theorem laws_szRowS_l (xs : List TRow) (hl : xs.length ≤ 1048576) (hs : ∀ y ∈ xs, bigRow y) (d : Nat) : ∀ (i : Nat) (v : Int), i + d = xs.length → 0 ≤ v → v ≤ 1048576 →
    ∃ r, Ev (fun k m _ _ => L_laws_szRowS_0 k m xs.length (xs.flatMap eRow) (i : Int) v) [.int .i64 r] ∧ (0 ≤ r → r ≤ v ∧ ∀ y ∈ xs.drop i, smRow y) := by
  induction d with
  | zero =>
    intro i v hi h0 h1
    refine ⟨v, Ev.step (fun k m _ _ => L_laws_szRowS_0_s k m _ _ _ _) (Ev.f (ltI_f (by rw [lenI_c]; omega)) (Ev.now _)), fun _ => ⟨by omega, ?_⟩⟩
    rw [List.drop_eq_nil_of_le (by omega)]
    simp
  | succ d ih =>
    intro i v hi h0 h1
    have c0 : cellAt (xs.flatMap eRow) (mulN (natI (i : Int)) 3) = .fs (xs[i]'(by omega)).1.length ((xs[i]'(by omega)).1.flatMap eI) := cell_enc0 eRow_len (by omega) (by decide)
    have c1 : cellAt (xs.flatMap eRow) (addN (mulN (natI (i : Int)) 3) 1) = .fs (xs[i]'(by omega)).2.1.length ((xs[i]'(by omega)).2.1.flatMap eI) := cell_enc eRow_len (by omega) 1 (by decide)
    have c2 : cellAt (xs.flatMap eRow) (addN (mulN (natI (i : Int)) 3) 2) = .fs (xs[i]'(by omega)).2.2.length ((xs[i]'(by omega)).2.2.flatMap eI) := cell_enc eRow_len (by omega) 2 (by decide)
    have hm := hs _ (List.getElem_mem (show i < xs.length by omega))
    obtain ⟨t, et, pt⟩ := laws_szRow_ev (xs[i]'(by omega)).1 (xs[i]'(by omega)).2.1 (xs[i]'(by omega)).2.2 hm.1 hm.2.1 hm.2.2 v h0 h1
    by_cases hc : t < 0
    · refine ⟨-1, Ev.step (fun k m _ _ => L_laws_szRowS_0_s k m _ _ _ _) (Ev.t (ltI_t (by rw [lenI_c]; omega)) (Ev.g (inR_n (by omega)) ?_)), fun h => by omega⟩
      simp only [c0, c1, c2, hdV_c, tlV_c, parts1_a, asInt_i, asBool_b, asStr_s, asLen_f, asCells_f]
      exact Ev.g rfl (Ev.c et (Ev.t (ltI_t hc) (Ev.now _)))
    · obtain ⟨ht, hq⟩ := pt (by omega)
      obtain ⟨r, hr, hp⟩ := ih (i + 1) t (by omega) (by omega) (by omega)
      refine ⟨r, Ev.step (fun k m _ _ => L_laws_szRowS_0_s k m _ _ _ _) (Ev.t (ltI_t (by rw [lenI_c]; omega)) (Ev.g (inR_n (by omega)) ?_)), fun h => ?_⟩
      · simp only [c0, c1, c2, hdV_c, tlV_c, parts1_a, asInt_i, asBool_b, asStr_s, asLen_f, asCells_f, wrS (show i < 9223372036854775807 by omega)]
        exact Ev.g rfl (Ev.c et (Ev.f (ltI_f hc) hr))
      obtain ⟨h2, h3⟩ := hp h
      refine ⟨by omega, ?_⟩
      rw [List.drop_eq_getElem_cons (show i < xs.length by omega)]
      intro s hs'
      rcases List.mem_cons.1 hs' with rfl | hs'
      · exact hq
      · exact h3 s hs'
theorem laws_szRowS_ev (xs : List TRow) (hl : xs.length ≤ 9223372036854775807) (hs : ∀ y ∈ xs, bigRow y) (v : Int) (h0 : 0 ≤ v) (h1 : v ≤ 1048576) :
    ∃ r, Does cp n_laws_szRowS [.fs xs.length (xs.flatMap eRow), .int .i64 v] [.int .i64 r] ∧ (0 ≤ r → r ≤ v ∧ xs.length ≤ 1048576 ∧ ∀ y ∈ xs, smRow y) := by
  have e : wr .i64 (subI v (lenI xs.length)) = v - (xs.length : Int) := by rw [subI_d, lenI_c, wr64 (by omega)]
  by_cases c : v - (xs.length : Int) < 0
  · exact ⟨-1, Ev.fn (fun k => F_laws_szRowS k _ _ _) (Ev.t (ltI_t (by rw [e]; exact c)) (Ev.now _)), fun h => by omega⟩
  · obtain ⟨r, hr, hp⟩ := laws_szRowS_l xs (by omega) hs xs.length 0 (v - (xs.length : Int)) (by omega) (by omega) (by omega)
    refine ⟨r, Ev.fn (fun k => F_laws_szRowS k _ _ _) (Ev.f (ltI_f (by rw [e]; exact c)) ?_), fun h => ?_⟩
    · simp only [e]
      exact hr.l0
    obtain ⟨h2, h3⟩ := hp h
    exact ⟨by omega, by omega, by simpa using h3⟩


theorem laws_szSystem_ev (x0 : Int) (x1 : Int) (x2 : List TRow) (h_x2 : (x2.length ≤ 9223372036854775807 ∧ ∀ y ∈ x2, bigRow y)) (v : Int) (h0 : 0 ≤ v) (h1 : v ≤ 1048576) :
    ∃ r, Does cp n_laws_szSystem [.agg [.int .i64 x0, .int .i64 x1, .fs x2.length (x2.flatMap eRow)], .int .i64 v] [.int .i64 r] ∧ (0 ≤ r → r ≤ v ∧ (x2.length ≤ 1048576 ∧ ∀ y ∈ x2, smRow y)) := by
  suffices h : ∃ r, Ev (fun k _ _ _ => evF cp (k + 1) n_laws_szSystem [.agg [.int .i64 x0, .int .i64 x1, .fs x2.length (x2.flatMap eRow)], .int .i64 v]) [.int .i64 r] ∧ (0 ≤ r → r ≤ v ∧ (x2.length ≤ 1048576 ∧ ∀ y ∈ x2, smRow y)) by
    obtain ⟨r, h, p⟩ := h; exact ⟨r, Ev.fn (fun _ => rfl) h, p⟩
  simp only [F_laws_szSystem]
  obtain ⟨r3, e3, p3⟩ := laws_szRowS_ev x2 h_x2.1 h_x2.2 v (by omega) (by omega)
  by_cases c3 : r3 < 0
  · exact ⟨-1, Ev.c e3 (Ev.t (ltI_t c3) (Ev.now _)), fun h => by omega⟩
  obtain ⟨g3, s3⟩ := p3 (by omega)
  exact ⟨r3, Ev.c e3 (Ev.f (ltI_f c3) (Ev.now _)), fun h => ⟨by omega, s3⟩⟩


theorem laws_toIntS_l (xs : List Int) (hl : xs.length ≤ 1048576) (d : Nat) : ∀ i : Nat, i + d = xs.length →
    Ev (fun k m _ _ => L_laws_toIntS_0 k m xs.length (xs.flatMap eI) xs.length (i : Int) ((xs.take i).flatMap eI ++ (List.replicate d ([.int .i64 0] : List AV)).flatten)) [.fs xs.length (xs.flatMap eI)] := by
  induction d with
  | zero =>
    intro i hi
    refine Ev.step (fun k m _ _ => L_laws_toIntS_0_s k m _ _ _ _ _) (Ev.f (ltI_f (by rw [lenI_c]; omega)) (Ev.some_ ?_))
    rw [List.replicate_zero, List.flatten_nil, List.append_nil, List.take_of_length_le (by omega), cut_all eI_len]
  | succ d ih =>
    intro i hi
    have c0 : cellAt (xs.flatMap eI) (mulN (natI (i : Int)) 1) = .int .i64 (xs[i]'(by omega)) := cell_enc0 eI_len (by omega) (by decide)
    have hset : setMany ((xs.take i).flatMap eI ++ (List.replicate (d + 1) ([.int .i64 0] : List AV)).flatten) (addN 0 (mulN (natI (i : Int)) 1)) ([.int .i64 (xs[i]'(by omega))] : List AV) = (xs.take (i + 1)).flatMap eI ++ (List.replicate d ([.int .i64 0] : List AV)).flatten := by
      rw [addN_d, Nat.zero_add, natI_c, mulN_d, ← take_next xs i (by omega)]
      have hp : (xs.take i).length = i := by rw [List.length_take]; omega
      have := fill_at eI_len (z := ([.int .i64 0] : List AV)) rfl (xs.take i) (xs[i]'(by omega)) d
      rw [hp] at this
      exact this
    have hb : Nat.ble (Nat.succ (addN 0 (mulN (natI (i : Int)) 1))) (List.length ((xs.take i).flatMap eI ++ (List.replicate (d + 1) ([.int .i64 0] : List AV)).flatten)) = true := by
      rw [fill_len eI_len rfl, List.length_take]
      exact Nat.ble_eq_true_of_le (by rw [addN_d, natI_c, mulN_d, Nat.min_eq_left (by omega)]; omega)
    refine Ev.step (fun k m _ _ => L_laws_toIntS_0_s k m _ _ _ _ _) (Ev.t (ltI_t (by rw [lenI_c]; omega)) (Ev.g (inR_n (by omega)) ?_))
    simp only [c0, hdV_c, tlV_c, parts1_a, asInt_i, asBool_b, asStr_s, asLen_f, asCells_f]
    refine Ev.g rfl ((Ev.g (inR_n (by omega)) (Ev.g hb ?_)))
    simp only [hdV_c, tlV_c, parts1_a, asInt_i, asBool_b, asStr_s, asLen_f, asCells_f, wrS (show i < 9223372036854775807 by omega), hset]
    exact ih (i + 1) (by omega)
theorem laws_toIntS_ev (xs : List Int) (hl : xs.length ≤ 1048576) : Does cp n_laws_toIntS [.fs xs.length (xs.flatMap eI)] [.fs xs.length (xs.flatMap eI)] :=
  Ev.fn (fun k => F_laws_toIntS k _ _) (Ev.g (fit_small hl (by decide)) (laws_toIntS_l xs hl xs.length 0 (by omega)).l0)


theorem laws_toRow_ev (x0 : List Int) (x1 : List Int) (x2 : List Int) (h_x0 : (x0.length ≤ 1048576)) (h_x1 : (x1.length ≤ 1048576)) (h_x2 : (x2.length ≤ 1048576)) : Does cp n_laws_toRow [.agg [.fs x0.length (x0.flatMap eI), .fs x1.length (x1.flatMap eI), .fs x2.length (x2.flatMap eI)]] [.agg [.fs x0.length (x0.flatMap eI), .fs x1.length (x1.flatMap eI), .fs x2.length (x2.flatMap eI)]] :=
  Ev.fn (fun k => F_laws_toRow k (x0).length ((x0).flatMap eI) (x1).length ((x1).flatMap eI) (x2).length ((x2).flatMap eI) ) (Ev.c (laws_toIntS_ev x0 h_x0) (Ev.c (laws_toIntS_ev x1 h_x1) (Ev.c (laws_toIntS_ev x2 h_x2) (Ev.now _))))


theorem laws_toRowS_l (xs : List TRow) (hl : xs.length ≤ 1048576) (hs : ∀ y ∈ xs, lenRow y) (d : Nat) : ∀ i : Nat, i + d = xs.length →
    Ev (fun k m _ _ => L_laws_toRowS_0 k m xs.length (xs.flatMap eRow) xs.length (i : Int) ((xs.take i).flatMap eRow ++ (List.replicate d ([.nils, .nils, .nils] : List AV)).flatten)) [.fs xs.length (xs.flatMap eRow)] := by
  induction d with
  | zero =>
    intro i hi
    refine Ev.step (fun k m _ _ => L_laws_toRowS_0_s k m _ _ _ _ _) (Ev.f (ltI_f (by rw [lenI_c]; omega)) (Ev.some_ ?_))
    rw [List.replicate_zero, List.flatten_nil, List.append_nil, List.take_of_length_le (by omega), cut_all eRow_len]
  | succ d ih =>
    intro i hi
    have c0 : cellAt (xs.flatMap eRow) (mulN (natI (i : Int)) 3) = .fs (xs[i]'(by omega)).1.length ((xs[i]'(by omega)).1.flatMap eI) := cell_enc0 eRow_len (by omega) (by decide)
    have c1 : cellAt (xs.flatMap eRow) (addN (mulN (natI (i : Int)) 3) 1) = .fs (xs[i]'(by omega)).2.1.length ((xs[i]'(by omega)).2.1.flatMap eI) := cell_enc eRow_len (by omega) 1 (by decide)
    have c2 : cellAt (xs.flatMap eRow) (addN (mulN (natI (i : Int)) 3) 2) = .fs (xs[i]'(by omega)).2.2.length ((xs[i]'(by omega)).2.2.flatMap eI) := cell_enc eRow_len (by omega) 2 (by decide)
    have hset : setMany ((xs.take i).flatMap eRow ++ (List.replicate (d + 1) ([.nils, .nils, .nils] : List AV)).flatten) (addN 0 (mulN (natI (i : Int)) 3)) ([.fs (xs[i]'(by omega)).1.length ((xs[i]'(by omega)).1.flatMap eI), .fs (xs[i]'(by omega)).2.1.length ((xs[i]'(by omega)).2.1.flatMap eI), .fs (xs[i]'(by omega)).2.2.length ((xs[i]'(by omega)).2.2.flatMap eI)] : List AV) = (xs.take (i + 1)).flatMap eRow ++ (List.replicate d ([.nils, .nils, .nils] : List AV)).flatten := by
      rw [addN_d, Nat.zero_add, natI_c, mulN_d, ← take_next xs i (by omega)]
      have hp : (xs.take i).length = i := by rw [List.length_take]; omega
      have := fill_at eRow_len (z := ([.nils, .nils, .nils] : List AV)) rfl (xs.take i) (xs[i]'(by omega)) d
      rw [hp] at this
      exact this
    have hb : Nat.ble (Nat.succ (Nat.succ (Nat.succ (addN 0 (mulN (natI (i : Int)) 3))))) (List.length ((xs.take i).flatMap eRow ++ (List.replicate (d + 1) ([.nils, .nils, .nils] : List AV)).flatten)) = true := by
      rw [fill_len eRow_len rfl, List.length_take]
      exact Nat.ble_eq_true_of_le (by rw [addN_d, natI_c, mulN_d, Nat.min_eq_left (by omega)]; omega)
    refine Ev.step (fun k m _ _ => L_laws_toRowS_0_s k m _ _ _ _ _) (Ev.t (ltI_t (by rw [lenI_c]; omega)) (Ev.g (inR_n (by omega)) ?_))
    simp only [c0, c1, c2, hdV_c, tlV_c, parts1_a, asInt_i, asBool_b, asStr_s, asLen_f, asCells_f]
    have hx := hs _ (List.getElem_mem (show i < xs.length by omega))
    refine Ev.g rfl (Ev.c (laws_toRow_ev (xs[i]'(by omega)).1 (xs[i]'(by omega)).2.1 (xs[i]'(by omega)).2.2 hx.1 hx.2.1 hx.2.2) (Ev.g (inR_n (by omega)) (Ev.g hb ?_)))
    simp only [hdV_c, tlV_c, parts1_a, asInt_i, asBool_b, asStr_s, asLen_f, asCells_f, wrS (show i < 9223372036854775807 by omega), hset]
    exact ih (i + 1) (by omega)
theorem laws_toRowS_ev (xs : List TRow) (hl : xs.length ≤ 1048576) (hs : ∀ y ∈ xs, lenRow y) : Does cp n_laws_toRowS [.fs xs.length (xs.flatMap eRow)] [.fs xs.length (xs.flatMap eRow)] :=
  Ev.fn (fun k => F_laws_toRowS k _ _) (Ev.g (fit_small hl (by decide)) (laws_toRowS_l xs hl hs xs.length 0 (by omega)).l0)


theorem laws_toSystem_ev (x0 : Int) (x1 : Int) (x2 : List TRow) (h_x2 : (x2.length ≤ 1048576 ∧ ∀ y ∈ x2, lenRow y)) : Does cp n_laws_toSystem [.agg [.int .i64 x0, .int .i64 x1, .fs x2.length (x2.flatMap eRow)]] [.agg [.int .i64 x0, .int .i64 x1, .fs x2.length (x2.flatMap eRow)]] :=
  Ev.fn (fun k => F_laws_toSystem k (x0) (x1) (x2).length ((x2).flatMap eRow) ) (Ev.c (laws_toRowS_ev x2 h_x2.1 h_x2.2) (Ev.now _))


theorem laws_eqIntS_l (xs : List Int) (hl : xs.length ≤ 1048576) (d : Nat) : ∀ i : Nat, i + d = xs.length →
    Ev (fun k m _ _ => L_laws_eqIntS_0 k m xs.length (xs.flatMap eI) xs.length (xs.flatMap eI) (i : Int)) [.bool true] := by
  induction d with
  | zero =>
    intro i hi
    exact Ev.step (fun k m _ _ => L_laws_eqIntS_0_s k m _ _ _ _ _) (Ev.f (ltI_f (by rw [lenI_c]; omega)) (Ev.now _))
  | succ d ih =>
    intro i hi
    have c0 : cellAt (xs.flatMap eI) (mulN (natI (i : Int)) 1) = .int .i64 (xs[i]'(by omega)) := cell_enc0 eI_len (by omega) (by decide)
    refine Ev.step (fun k m _ _ => L_laws_eqIntS_0_s k m _ _ _ _ _) (Ev.t (ltI_t (by rw [lenI_c]; omega)) (Ev.g (inR_n (by omega)) ?_))
    simp only [c0, hdV_c, tlV_c, parts1_a, asInt_i, asBool_b, asStr_s, asLen_f, asCells_f]
    refine Ev.g rfl (Ev.g (inR_n (by omega)) (Ev.g rfl (Ev.f (by rw [eqI_t rfl]; rfl) ?_)))
    simp only [wrS (show i < 9223372036854775807 by omega)]
    exact ih (i + 1) (by omega)
theorem laws_eqIntS_same (xs : List Int) (hl : xs.length ≤ 1048576) : Does cp n_laws_eqIntS [.fs xs.length (xs.flatMap eI), .fs xs.length (xs.flatMap eI)] [.bool true] :=
  Ev.fn (fun k => F_laws_eqIntS k _ _ _ _) (Ev.f (by rw [eqI_t rfl]; rfl) (laws_eqIntS_l xs hl xs.length 0 (by omega)).l0)


theorem laws_eqRow_same (x0 : List Int) (x1 : List Int) (x2 : List Int) (h_x0 : (x0.length ≤ 1048576)) (h_x1 : (x1.length ≤ 1048576)) (h_x2 : (x2.length ≤ 1048576)) : Does cp n_laws_eqRow [.agg [.fs x0.length (x0.flatMap eI), .fs x1.length (x1.flatMap eI), .fs x2.length (x2.flatMap eI)], .agg [.fs x0.length (x0.flatMap eI), .fs x1.length (x1.flatMap eI), .fs x2.length (x2.flatMap eI)]] [.bool true] :=
  Ev.fn (fun k => F_laws_eqRow k (x0).length ((x0).flatMap eI) (x1).length ((x1).flatMap eI) (x2).length ((x2).flatMap eI) (x0).length ((x0).flatMap eI) (x1).length ((x1).flatMap eI) (x2).length ((x2).flatMap eI) ) (Ev.c (laws_eqIntS_same x0 h_x0) (Ev.f rfl (Ev.c (laws_eqIntS_same x1 h_x1) (Ev.f rfl (Ev.c (laws_eqIntS_same x2 h_x2) (Ev.f rfl (Ev.now _)))))))


theorem laws_eqRowS_l (xs : List TRow) (hl : xs.length ≤ 1048576) (hs : ∀ y ∈ xs, lenRow y) (d : Nat) : ∀ i : Nat, i + d = xs.length →
    Ev (fun k m _ _ => L_laws_eqRowS_0 k m xs.length (xs.flatMap eRow) xs.length (xs.flatMap eRow) (i : Int)) [.bool true] := by
  induction d with
  | zero =>
    intro i hi
    exact Ev.step (fun k m _ _ => L_laws_eqRowS_0_s k m _ _ _ _ _) (Ev.f (ltI_f (by rw [lenI_c]; omega)) (Ev.now _))
  | succ d ih =>
    intro i hi
    have c0 : cellAt (xs.flatMap eRow) (mulN (natI (i : Int)) 3) = .fs (xs[i]'(by omega)).1.length ((xs[i]'(by omega)).1.flatMap eI) := cell_enc0 eRow_len (by omega) (by decide)
    have c1 : cellAt (xs.flatMap eRow) (addN (mulN (natI (i : Int)) 3) 1) = .fs (xs[i]'(by omega)).2.1.length ((xs[i]'(by omega)).2.1.flatMap eI) := cell_enc eRow_len (by omega) 1 (by decide)
    have c2 : cellAt (xs.flatMap eRow) (addN (mulN (natI (i : Int)) 3) 2) = .fs (xs[i]'(by omega)).2.2.length ((xs[i]'(by omega)).2.2.flatMap eI) := cell_enc eRow_len (by omega) 2 (by decide)
    refine Ev.step (fun k m _ _ => L_laws_eqRowS_0_s k m _ _ _ _ _) (Ev.t (ltI_t (by rw [lenI_c]; omega)) (Ev.g (inR_n (by omega)) ?_))
    simp only [c0, c1, c2, hdV_c, tlV_c, parts1_a, asInt_i, asBool_b, asStr_s, asLen_f, asCells_f]
    have hx := hs _ (List.getElem_mem (show i < xs.length by omega))
    refine Ev.g rfl (Ev.g (inR_n (by omega)) (Ev.g rfl (Ev.c (laws_eqRow_same (xs[i]'(by omega)).1 (xs[i]'(by omega)).2.1 (xs[i]'(by omega)).2.2 hx.1 hx.2.1 hx.2.2) (Ev.f rfl ?_))))
    simp only [wrS (show i < 9223372036854775807 by omega)]
    exact ih (i + 1) (by omega)
theorem laws_eqRowS_same (xs : List TRow) (hl : xs.length ≤ 1048576) (hs : ∀ y ∈ xs, lenRow y) : Does cp n_laws_eqRowS [.fs xs.length (xs.flatMap eRow), .fs xs.length (xs.flatMap eRow)] [.bool true] :=
  Ev.fn (fun k => F_laws_eqRowS k _ _ _ _) (Ev.f (by rw [eqI_t rfl]; rfl) (laws_eqRowS_l xs hl hs xs.length 0 (by omega)).l0)


theorem laws_eqSystem_same (x0 : Int) (x1 : Int) (x2 : List TRow) (h_x2 : (x2.length ≤ 1048576 ∧ ∀ y ∈ x2, lenRow y)) : Does cp n_laws_eqSystem [.agg [.int .i64 x0, .int .i64 x1, .fs x2.length (x2.flatMap eRow)], .agg [.int .i64 x0, .int .i64 x1, .fs x2.length (x2.flatMap eRow)]] [.bool true] :=
  Ev.fn (fun k => F_laws_eqSystem k (x0) (x1) (x2).length ((x2).flatMap eRow) (x0) (x1) (x2).length ((x2).flatMap eRow) ) (Ev.f (by rw [eqI_t rfl]; rfl) (Ev.f (by rw [eqI_t rfl]; rfl) (Ev.c (laws_eqRowS_same x2 h_x2.1 h_x2.2) (Ev.f rfl (Ev.now _)))))


theorem law_QapHolds (w p : Int) (rows : List TRow) (ws : List Int) (x : Int) (z1 : rows.length ≤ 9223372036854775807 ∧ ∀ y ∈ rows, bigRow y) :
    ∃ k, evF cp k n_laws_FnExactQapHolds [.agg [.int .i64 w, .int .i64 p, .fs rows.length (rows.flatMap eRow)], .fs ws.length (ws.flatMap eI), .int .i64 x] = some [.bool true] := by
  apply Ev.rounds
  refine Ev.fn (fun k => F_laws_FnExactQapHolds k _ _ _ _ _ _ _) ?_
  by_cases h : 1048576 < (ws.length : Int)
  · exact Ev.t (ltI_t (by rw [lenI_c]; exact h)) (Ev.now _)
  have hw : ws.length ≤ 1048576 := by omega
  refine Ev.f (ltI_f (by rw [lenI_c]; exact h)) ?_
  obtain ⟨r, e, pr⟩ := laws_szSystem_ev w p rows z1 1048576 (by omega) (by omega)
  refine Ev.c e ?_
  by_cases h0 : r < 0
  · exact Ev.t (ltI_t h0) (Ev.now _)
  refine Ev.f (ltI_f h0) ?_
  obtain ⟨_, hb, hs⟩ := pr (by omega)
  have hr : ∀ y ∈ rows, lenRow y := fun y hy => hs y hy
  have et := laws_toSystem_ev w p rows ⟨hb, hr⟩
  have en := laws_toIntS_ev ws hw
  refine Ev.c et (Ev.c en (Ev.c (spec_QapHolds_ev w p rows ws x hb hr hw) (Ev.c et (Ev.c en (Ev.c (impl_QapHolds_ev w p rows ws x hb hr hw) (Ev.f ?_ (Ev.c et (Ev.c (laws_eqSystem_same w p rows ⟨hb, hr⟩) (Ev.f rfl (Ev.c en (Ev.c (laws_eqIntS_same ws hw) (Ev.f rfl (Ev.now _)))))))))))))
  simp only [hdV_c, tlV_c, parts1_a, asInt_i, asBool_b, asStr_s, asLen_f, asCells_f, eqB_d]
  simp [notB]


end Go.Proofs.Ytmhakjpjnnfidaa.FnExactQapHolds
