/- FnExactFakeProof, the plain part: for every argument the law answers true. No conditions. -/
import Derived.Test.YtegchimmolpmeaaEVcFnExactFakeProof
namespace Go.Proofs.Ytegchimmolpmeaa.FnExactFakeProof
open Go Go.Proofs Go.Proofs.Ytegchimmolpmeaa.EV
set_option linter.unusedVariables false
set_option linter.unusedSimpArgs false
set_option maxRecDepth 100000
def eI (n : Int) : List AV := [.int .i64 n]
theorem eI_len (n : Int) : (eI n).length = 1 := rfl
def eS (s : ByteArray) : List AV := [.str s]
theorem eS_len (s : ByteArray) : (eS s).length = 1 := rfl
theorem notB_to {b : Bool} (h : notB b = true) : b = false := by cases b <;> first | rfl | cases h
theorem notB_fo {b : Bool} (h : notB b = false) : b = true := by cases b <;> first | rfl | cases h
theorem Ev.an {a b : Bool} {X : Nat → Nat → Nat → Nat → Option (List AV)} (h : a = true → Ev X [.bool b]) : Ev (fun k m p q => br (notB a) (some [.bool false]) (X k m p q)) [.bool (a && b)] := by
  cases a with
  | true => exact Ev.f rfl (h rfl)
  | false => exact Ev.t rfl (Ev.now _)
theorem Ev.ap {a b : Bool} {X : Nat → Nat → Nat → Nat → Option (List AV)} (h : a = true → Ev X [.bool b]) : Ev (fun k m p q => br a (X k m p q) (some [.bool false])) [.bool (a && b)] := by
  cases a with
  | true => exact Ev.t rfl (h rfl)
  | false => exact Ev.f rfl (Ev.now _)
theorem Ev.na {a b : Bool} {X : Nat → Nat → Nat → Nat → Option (List AV)} (h : a = false → Ev X [.bool b]) : Ev (fun k m p q => br a (some [.bool false]) (X k m p q)) [.bool (!a && b)] := by
  cases a with
  | false => exact Ev.f rfl (h rfl)
  | true => exact Ev.t rfl (Ev.now _)


def eB (n : Int) : List AV := [.int .u8 n]
theorem eB_len (n : Int) : (eB n).length = 1 := rfl
theorem ei {xs : List Int} {i : Nat} (hi : i < xs.length) : cellAt (xs.flatMap eI) (mulN (natI (i : Int)) 1) = .int .i64 xs[i] := cell_enc0 eI_len hi (by decide)
theorem ebi {xs : List Int} {i : Nat} (hi : i < xs.length) : cellAt (xs.flatMap eB) (mulN (natI (i : Int)) 1) = .int .u8 xs[i] := cell_enc0 eB_len hi (by decide)
theorem catE (xs : List Int) (n : Int) : catC (cutC (xs.flatMap eI) 0 (mulN xs.length 1)) (cutC [.int .i64 n] 0 1) = (xs ++ [n]).flatMap eI := by rw [cut_all eI_len, List.flatMap_append]; rfl
theorem catB (xs : List Int) (n : Int) : catC (cutC (xs.flatMap eB) 0 (mulN xs.length 1)) (cutC [.int .u8 n] 0 1) = (xs ++ [n]).flatMap eB := by rw [cut_all eB_len, List.flatMap_append]; rfl
theorem fitN_small {n b : Nat} (h : n ≤ 1048576) (hb : b ≤ 4096) : Bool.and (fitN n b) Bool.true = true := by
  have : n * b ≤ 1048576 * 4096 := Nat.mul_le_mul h hb
  rw [Bool.and_true]
  exact Nat.ble_eq_true_of_le (by omega)
theorem addN1 (xs : List Int) (n : Int) : addN xs.length 1 = (xs ++ [n]).length := by rw [List.length_append]; rfl
theorem isBytes_e (xs : List Int) : isBytes (xs.flatMap eB) = true := by
  unfold isBytes
  rw [List.all_eq_true]
  intro v hv
  obtain ⟨n, _, hn⟩ := List.mem_flatMap.1 hv
  rw [eB, List.mem_singleton] at hn
  subst hn; rfl
theorem strOf_e (xs : List Int) : strOf (xs.flatMap eB) = EV.strOfNums xs := by
  unfold strOf EV.strOfNums
  congr 2
  induction xs with
  | nil => rfl
  | cons x r ih => rw [List.flatMap_cons, List.map_append, ih]; rfl
theorem and_range (a b : Int) (n : Nat) (hb : (BitVec.ofInt 64 b).toNat = n) (hn : n < 4294967296) : 0 ≤ bitsOp .and .i64 a b ∧ bitsOp .and .i64 a b ≤ n := by
  have h : bitsOp .and .i64 a b = wr .i64 (((BitVec.ofInt 64 a) &&& (BitVec.ofInt 64 b)).toNat : Int) := rfl
  have h2 : ((BitVec.ofInt 64 a) &&& (BitVec.ofInt 64 b)).toNat ≤ n := by rw [BitVec.toNat_and, hb]; exact Nat.and_le_right
  rw [h, wr64 (by omega)]
  omega
theorem and255 (a : Int) : 0 ≤ bitsOp .and .i64 a 255 ∧ bitsOp .and .i64 a 255 < 256 := by
  have := and_range a 255 255 (by decide) (by decide)
  omega
theorem getS_n' {t : ByteArray} {i : Nat} (hi : i < t.size) : getS t (i : Int) = (bts t)[i]'(by rw [bts_length]; exact hi) := by
  rw [getS_bt, bt_eq, rd_get _ _ (by rw [bts_length]; exact hi)]


/-! Numbers modulo 12107 (a prime), and the curve y^2 = x^3 + x over them. -/
def chkFermat (e : Nat) : Nat → Bool
  | 0 => true
  | n + 1 => (n == 0 || n ^ e % 12107 == 1) && chkFermat e n
theorem chkFermat_spec (e : Nat) : ∀ {m n : Nat}, chkFermat e m = true → n < m → n ≠ 0 → n ^ e % 12107 = 1 := by
  intro m
  induction m with
  | zero => intro n _ h; omega
  | succ m ih =>
    intro n h hn h0
    rw [chkFermat, Bool.and_eq_true, Bool.or_eq_true] at h
    rcases Nat.lt_succ_iff_lt_or_eq.1 hn with h1 | h1
    · exact ih h.2 h1 h0
    · subst h1
      rcases h.1 with h2 | h2
      · exact absurd (by simpa using h2) h0
      · simpa using h2
theorem chkFermat_true : chkFermat 12106 12107 = true := by decide +kernel
theorem emod2 (a b : Int) : a * (b % 12107) % 12107 = a * b % 12107 := by
  rw [Int.mul_emod, Int.emod_emod_of_dvd _ (Int.dvd_refl _), ← Int.mul_emod]
theorem pow_emod (x : Int) (n : Nat) : x ^ n % 12107 = (x % 12107) ^ n % 12107 := by
  induction n with
  | zero => rw [Int.pow_zero, Int.pow_zero]
  | succ n ih => rw [Int.pow_succ, Int.pow_succ, Int.mul_emod, ih, ← Int.mul_emod, emod2]
theorem pow_inv (x : Int) (e : Nat) (h : (x % 12107).toNat ^ (e + 1) % 12107 = 1) : x * (x ^ e % 12107) % 12107 = 1 := by
  have h3 : (((x % 12107).toNat : Nat) : Int) = x % 12107 := by omega
  have h4 := congrArg (fun (n : Nat) => (n : Int)) h
  simp only [Int.natCast_emod, Int.natCast_pow, h3] at h4
  rw [emod2, Int.mul_comm, ← Int.pow_succ, pow_emod]
  exact h4
theorem pow_inv_of (e : Nat) (hc : chkFermat (e + 1) 12107 = true) {x : Int} (h : x % 12107 ≠ 0) : x * (x ^ e % 12107) % 12107 = 1 :=
  pow_inv x e (chkFermat_spec (e + 1) hc (by omega) (by omega))

abbrev F := Fin 12107
def ph (x : Int) : F := @Int.cast F Lean.Grind.Ring.intCast x
theorem ph_iff {x y : Int} : ph x = ph y ↔ x % 12107 = y % 12107 := Lean.Grind.IsCharP.intCast_ext_iff 12107
theorem ph_add (x y : Int) : ph (x + y) = ph x + ph y := Lean.Grind.Ring.intCast_add x y
theorem ph_sub (x y : Int) : ph (x - y) = ph x - ph y := Lean.Grind.Ring.intCast_sub x y
theorem ph_mul (x y : Int) : ph (x * y) = ph x * ph y := Lean.Grind.Ring.intCast_mul x y
theorem ph_neg (x : Int) : ph (-x) = - ph x := Lean.Grind.Ring.intCast_neg x
theorem ph_mod (x : Int) : ph (x % 12107) = ph x := ph_iff.2 (Int.emod_emod_of_dvd x (Int.dvd_refl _))
theorem ph_zero : ph 0 = 0 := Lean.Grind.Ring.intCast_zero
theorem ph_one : ph 1 = 1 := Lean.Grind.Ring.intCast_one
theorem ph_two : ph 2 = 2 := Lean.Grind.Ring.intCast_ofNat 2
theorem ph_three : ph 3 = 3 := Lean.Grind.Ring.intCast_ofNat 3
theorem ph_eq0 {x : Int} : ph x = 0 ↔ x % 12107 = 0 := by rw [← ph_zero, ph_iff]; rfl
theorem ph_inj {x y : Int} (hx : 0 ≤ x ∧ x < 12107) (hy : 0 ≤ y ∧ y < 12107) (h : ph x = ph y) : x = y := by
  have := ph_iff.1 h
  omega

@[irreducible] def fpow (x : Int) (n : Nat) : Int := x ^ n % 12107
theorem fpow_range (x : Int) (n : Nat) : 0 ≤ fpow x n ∧ fpow x n < 12107 := by unfold fpow; omega
def finv (x : Int) : Int := fpow x 12105
theorem finv_range (x : Int) : 0 ≤ finv x ∧ finv x < 12107 := fpow_range x _
theorem finv_mod {x : Int} (h : x % 12107 ≠ 0) : x * finv x % 12107 = 1 := by
  unfold finv fpow
  exact pow_inv_of 12105 chkFermat_true h
theorem finv_ph {x : Int} (h : ph x ≠ 0) : ph x * ph (finv x) = 1 := by
  rw [← ph_mul, ← ph_one, ph_iff]
  exact finv_mod (fun h1 => h (ph_eq0.2 h1))
theorem F_mul0 {a b : Int} (h : ph a * ph b = 0) (ha : ph a ≠ 0) : ph b = 0 := by
  have h1 := finv_ph ha
  have h2 : ph (finv a) * (ph a * ph b) = 0 := by rw [h]; grind
  grind

/-- a point: x, y, and whether it is the point at infinity. -/
abbrev Pt := Int × Int × Bool
def pRight (p : Pt) : Prop := (p.2.2 = true ∧ p.1 = 0 ∧ p.2.1 = 0) ∨
  (p.2.2 = false ∧ (0 ≤ p.1 ∧ p.1 ≤ 12106) ∧ (0 ≤ p.2.1 ∧ p.2.1 ≤ 12106) ∧ ph p.2.1 * ph p.2.1 = ph p.1 * ph p.1 * ph p.1 + ph p.1)
def slope (p r : Pt) : Int × Bool :=
  if p.1 = r.1 then
    if (p.2.1 + r.2.1) % 12107 = 0 then (0, false) else ((3 * (p.1 * p.1 % 12107) % 12107 + 1) % 12107 * finv (2 * p.2.1 % 12107) % 12107, true)
  else ((r.2.1 - p.2.1) % 12107 * finv ((r.1 - p.1) % 12107) % 12107, true)
def pAdd (p r : Pt) : Pt :=
  if p.2.2 = true then r else if r.2.2 = true then p else
  if (slope p r).2 = true then
    (((slope p r).1 * (slope p r).1 % 12107 - p.1) % 12107 - r.1) % 12107 |> fun x => (x, ((slope p r).1 * ((p.1 - x) % 12107) % 12107 - p.2.1) % 12107, false)
  else (0, 0, true)
theorem curve_chord {R : Type} [Lean.Grind.CommRing R] (x1 y1 x2 y2 i : R) (h1 : y1*y1 = x1*x1*x1 + x1) (h2 : y2*y2 = x2*x2*x2+x2) (hi : (x2-x1)*i = 1) (l x3 y3 : R) (hl : l*(x2-x1) = (y2-y1)) (hx : x3 = l*l - x1 - x2) (hy : y3 = l*(x1-x3)-y1) : y3*y3 = x3*x3*x3+x3 := by
  have e2 : y2 = y1 + l*(x2-x1) := by clear h1 h2 hx hy hi; grind
  have ea : (x2 - x1) * (x2*x2+x1*x2+x1*x1 + 1 - l*(y1+y2)) = 0 := by clear hx hy hi e2; grind
  have eb : (x2*x2+x1*x2+x1*x1 + 1 - l*(y1+y2)) = 0 := by
    have : i * ((x2 - x1) * (x2*x2+x1*x2+x1*x1 + 1 - l*(y1+y2))) = 0 := by rw [ea]; clear hx hy hi e2 ea h1 h2 hl; grind
    clear hx hy e2 ea h1 h2 hl; grind
  subst hx hy e2
  clear ea h2 hi hl
  grind
theorem chord_slope {R : Type} [Lean.Grind.CommRing R] (a d i : R) (h : d * i = 1) : a * i * d = a := by grind
theorem curve_tangent {R : Type} [Lean.Grind.CommRing R] (x1 y1 i : R) (h1 : y1*y1 = x1*x1*x1 + x1) (hi : (2*y1)*i = 1) (l x3 y3 : R) (hl : l = (3*(x1*x1)+1)*i) (hx : x3 = l*l - x1 - x1) (hy : y3 = l*(x1-x3)-y1) : y3*y3 = x3*x3*x3+x3 := by
  grind
/-- right points of one x: the y are the same, or their sum is zero. -/
theorem right_y {x y1 y2 : Int} (h1 : ph y1 * ph y1 = ph x * ph x * ph x + ph x) (h2 : ph y2 * ph y2 = ph x * ph x * ph x + ph x) (h : ¬ (y1 + y2) % 12107 = 0) : ph y1 = ph y2 := by
  have h3 : ph (y1 + y2) * ph (y1 - y2) = 0 := by rw [ph_add, ph_sub]; grind
  have h4 := F_mul0 h3 (fun h5 => h (ph_eq0.1 h5))
  rw [ph_sub] at h4
  grind
theorem pAdd_right {p r : Pt} (hp : pRight p) (hr : pRight r) : pRight (pAdd p r) := by
  rcases hp with hp | hp
  · unfold pAdd; rw [if_pos hp.1]; exact hr
  rcases hr with hr | hr
  · unfold pAdd; rw [if_neg (by rw [hp.1]; simp), if_pos hr.1]; exact Or.inr hp
  unfold pAdd
  rw [if_neg (by rw [hp.1]; simp), if_neg (by rw [hr.1]; simp)]
  obtain ⟨x1, y1, b1⟩ := p
  obtain ⟨x2, y2, b2⟩ := r
  obtain ⟨_, hx1, hy1, h1⟩ := hp
  obtain ⟨_, hx2, hy2, h2⟩ := hr
  simp only at hx1 hy1 h1 hx2 hy2 h2
  unfold slope
  simp only
  by_cases hx : x1 = x2
  · subst hx
    rw [if_pos rfl]
    by_cases hs : (y1 + y2) % 12107 = 0
    · rw [if_pos hs, if_neg (by simp)]
      exact Or.inl ⟨rfl, rfl, rfl⟩
    · rw [if_neg hs, if_pos rfl]
      have he := right_y h1 h2 hs
      have hi : (2 * ph y1) * ph (finv (2 * y1 % 12107)) = 1 := by
        have h3 : ph (2 * y1 % 12107) ≠ 0 := by
          intro h4
          apply hs
          rw [← ph_eq0, ph_add, ← he]
          rw [ph_mod, ph_mul, ph_two] at h4
          grind
        have := finv_ph h3
        rw [ph_mod, ph_mul, ph_two] at this
        exact this
      refine Or.inr ⟨rfl, by simp only; omega, by simp only; omega, ?_⟩
      simp only [ph_mod, ph_mul, ph_add, ph_sub, ph_three, ph_one]
      exact curve_tangent _ _ _ h1 hi _ _ _ rfl rfl rfl
  · rw [if_neg hx, if_pos rfl]
    have hi : (ph x2 - ph x1) * ph (finv ((x2 - x1) % 12107)) = 1 := by
      have h3 : ph ((x2 - x1) % 12107) ≠ 0 := by
        intro h4
        rw [ph_mod, ph_eq0] at h4
        omega
      have := finv_ph h3
      rw [ph_mod, ph_sub] at this
      exact this
    refine Or.inr ⟨rfl, by simp only; omega, by simp only; omega, ?_⟩
    simp only [ph_mod, ph_mul, ph_add, ph_sub]
    refine curve_chord (ph x1) (ph y1) (ph x2) (ph y2) _ h1 h2 hi _ _ _ (chord_slope _ _ _ hi) rfl rfl


/-! Point arithmetic: multiples, membership, texts. -/
theorem sq_pow (x : Int) : x * x = x ^ 2 := by rw [Int.pow_succ, Int.pow_succ, Int.pow_zero, Int.one_mul]
theorem fpow_loop1 (r x : Int) (m : Nat) : (r * x % 12107) * (x * x % 12107) ^ m % 12107 = r * x ^ (2 * m + 1) % 12107 := by
  rw [Int.mul_emod, ← pow_emod, ← Int.mul_emod, Int.mul_emod, Int.emod_emod_of_dvd _ (Int.dvd_refl _), ← Int.mul_emod, sq_pow x, ← Int.pow_mul, Int.pow_succ, Int.mul_assoc, Int.mul_comm x]
theorem fpow_loop0 (r x : Int) (m : Nat) : r * (x * x % 12107) ^ m % 12107 = r * x ^ (2 * m) % 12107 := by
  rw [Int.mul_emod, ← pow_emod, ← Int.mul_emod, sq_pow x, ← Int.pow_mul]
theorem fpow_one (a : Int) (n : Nat) : 1 * (a % 12107) ^ n % 12107 = fpow a n := by
  unfold fpow
  rw [Int.one_mul, ← pow_emod]
theorem sq_range {a b : Int} (ha : 0 ≤ a ∧ a < 12107) (hb : 0 ≤ b ∧ b < 12107) : 0 ≤ a * b ∧ a * b ≤ 146555236 :=
  ⟨Int.mul_nonneg ha.1 hb.1, Int.le_trans (Int.mul_le_mul_of_nonneg_right (show a ≤ 12106 by omega) hb.1) (by omega)⟩
def pOk (p : Pt) : Bool :=
  if p.2.2 = true then (if p.1 = 0 then p.2.1 == 0 else false)
  else if (0 ≤ p.1 ∧ p.1 ≤ 12106) ∧ (0 ≤ p.2.1 ∧ p.2.1 ≤ 12106) then (p.2.1 * p.2.1 % 12107 == (p.1 * p.1 % 12107 * p.1 % 12107 + p.1) % 12107) else false
theorem pOk_iff (p : Pt) : pOk p = true ↔ pRight p := by
  unfold pOk pRight
  cases h : p.2.2 with
  | true =>
    rw [if_pos rfl]
    by_cases h1 : p.1 = 0
    · rw [if_pos h1]; simp [h1]
    · rw [if_neg h1]; simp [h1]
  | false =>
    rw [if_neg (by simp)]
    by_cases h1 : (0 ≤ p.1 ∧ p.1 ≤ 12106) ∧ (0 ≤ p.2.1 ∧ p.2.1 ≤ 12106)
    · rw [if_pos h1, beq_iff_eq, ← Int.emod_emod_of_dvd (p.2.1 * p.2.1) (Int.dvd_refl 12107), ← Int.emod_emod_of_dvd (p.1 * p.1 % 12107 * p.1 % 12107 + p.1) (Int.dvd_refl 12107), ← ph_iff]
      simp only [ph_mod, ph_mul, ph_add]
      simp [h1]
    · rw [if_neg h1]
      simp only [Bool.false_eq_true, false_iff, true_and, false_and, false_or]
      intro h2
      exact h1 ⟨h2.1, h2.2.1⟩
theorem pRight_zero : pRight (0, 0, true) := Or.inl ⟨rfl, rfl, rfl⟩
def pLoop : Nat → Nat → Pt → Pt → Pt
  | 0, _, _, acc => acc
  | f + 1, n, b, acc => if n = 0 then acc else if n % 2 = 1 then pLoop f (n / 2) (pAdd b b) (pAdd acc b) else pLoop f (n / 2) (pAdd b b) acc
theorem pLoop_right (f : Nat) : ∀ (n : Nat) (b acc : Pt), pRight b → pRight acc → pRight (pLoop f n b acc) := by
  induction f with
  | zero => intro n b acc _ h; exact h
  | succ f ih =>
    intro n b acc hb ha
    rw [pLoop]
    split
    · exact ha
    · split
      · exact ih _ _ _ (pAdd_right hb hb) (pAdd_right ha hb)
      · exact ih _ _ _ (pAdd_right hb hb) ha
/-- n times p, for a right point. -/
def pMul (n : Nat) (p : Pt) : Pt := pLoop 64 n p (0, 0, true)
theorem pMul_right {n : Nat} {p : Pt} (h : pRight p) : pRight (pMul n p) := pLoop_right _ _ _ _ h pRight_zero
def pTimes (n : Nat) (p : Pt) : Pt := if pOk p = true then pMul n p else (0, 0, true)
theorem pTimes_right (n : Nat) (p : Pt) : pRight (pTimes n p) := by
  unfold pTimes
  split
  · rename_i h; exact pMul_right ((pOk_iff p).1 h)
  · exact pRight_zero
def pNeg (p : Pt) : Pt := if p.2.2 = true then (0, 0, true) else (p.1, (0 - p.2.1) % 12107, false)
theorem pNeg_right {p : Pt} (h : pRight p) : pRight (pNeg p) := by
  unfold pNeg
  split
  · exact pRight_zero
  · rename_i hb
    rcases h with h | h
    · exact absurd h.1 hb
    · refine Or.inr ⟨rfl, h.2.1, by simp only; omega, ?_⟩
      simp only [ph_mod, ph_sub, ph_zero]
      have := h.2.2.2
      grind
def pIn (p : Pt) : Bool := if pOk p = true then (pTimes 1009 p).2.2 else false
def pText (p : Pt) : ByteArray :=
  if pOk p = true then
    if p.2.2 = true then (⟨#[0, 0, 0]⟩ : ByteArray) else EV.strOfNums ([((wrap64 (p.1 + 1)) / 256) % 256, (wrap64 (p.1 + 1)) % 256, (Int.tmod p.2.1 2) % 256] : List Int)
  else (⟨#[]⟩ : ByteArray)
theorem pText_size (p : Pt) : (pText p).size ≤ 3 := by
  unfold pText
  split
  · split
    · exact Nat.le_refl _
    · rw [EV.strOfNums_size]; exact Nat.le_refl _
  · exact Nat.zero_le _


theorem tmod_fix {a m : Int} (hm : 0 < m) : (if Int.tmod a m < 0 then Int.tmod a m + m else Int.tmod a m) = a % m := by
  have h0 := Int.emod_nonneg a (Int.ne_of_gt hm)
  have h1 := Int.emod_lt_of_pos a hm
  rw [Int.tmod_eq_emod]
  have h2 : (m.natAbs : Int) = m := Int.natAbs_of_nonneg (Int.le_of_lt hm)
  by_cases h : 0 ≤ a ∨ m ∣ a
  · rw [if_pos h]
    show (if a % m - 0 < 0 then a % m - 0 + m else a % m - 0) = a % m
    rw [Int.sub_zero, if_neg (by omega)]
  · rw [if_neg h, h2, if_pos (by omega)]
    omega
theorem tmod_wrap {a m : Int} (hm : 0 < m) (hb : m < 9223372036854775807) : (if Int.tmod a m < 0 then (some (wrap64 (Int.tmod a m + m))) else (some (Int.tmod a m))) = some (a % m) := by
  have h := tmod_fix (a := a) hm
  have h0 := Int.emod_nonneg a (Int.ne_of_gt hm)
  have h1 := Int.emod_lt_of_pos a hm
  split at h
  · rename_i hl
    rw [if_pos hl, w64 (by omega), h]
  · rename_i hl
    rw [if_neg hl, h]
theorem F_half {x : F} (h : x + x = 0) : x = 0 := by
  have h1 : (12107 : F) = 0 := rfl
  have h2 : x = 6054 * (x + x) - 12107 * x := by clear h h1; grind
  rw [h, h1] at h2
  clear h h1
  grind
theorem y2_ne {a b : Int} (h : a = b) (h0 : ¬ a = 0) (r : 0 ≤ a ∧ a ≤ 12106) : ¬ (a + b) % 12107 = 0 := by
  intro hz
  rw [← ph_eq0, ph_add, ← h] at hz
  have := ph_eq0.1 (F_half hz)
  clear hz h
  omega
theorem fmod_range (a : Int) : 0 ≤ a % 12107 ∧ a % 12107 < 12107 := by omega
theorem fmod_mul (a b : Int) : wrap64 (a % 12107 * (b % 12107)) % 12107 = a * b % 12107 := by
  have := sq_range (fmod_range a) (fmod_range b)
  rw [w64 (by omega), ← Int.mul_emod]
theorem fmod_add (a b : Int) : wrap64 (a % 12107 + b % 12107) % 12107 = (a + b) % 12107 := by
  rw [w64 (by omega)]; omega
theorem fmod_sub (a b : Int) : wrap64 (a % 12107 - b % 12107) % 12107 = (a - b) % 12107 := by
  rw [w64 (by omega)]; omega


theorem rem_neg {a m : Int} (hm : 0 < m) (hb : m < 9223372036854775807) (h : Int.tmod a m < 0) : wr .i64 (Int.tmod a m + m) = a % m := by
  have h1 := tmod_fix (a := a) hm
  have h0 := Int.emod_nonneg a (Int.ne_of_gt hm)
  have h2 := Int.emod_lt_of_pos a hm
  rw [if_pos h] at h1
  rw [h1, wr64 (by omega)]
theorem rem_pos {a m : Int} (hm : 0 < m) (h : ¬ Int.tmod a m < 0) : Int.tmod a m = a % m := by
  have h1 := tmod_fix (a := a) hm
  rwa [if_neg h] at h1


theorem scb (a : Int) : 0 ≤ a % 1009 ∧ a % 1009 ≤ 1008 := by omega
theorem scbb (a b : Int) : 0 ≤ (a % 1009) * (b % 1009) ∧ (a % 1009) * (b % 1009) ≤ 1016064 := by
  have ha := scb a
  have hb := scb b
  refine ⟨Int.mul_nonneg ha.1 hb.1, ?_⟩
  have := Int.mul_le_mul ha.2 hb.2 hb.1 (by omega : (0 : Int) ≤ 1008)
  omega
theorem s_mul (a b : Int) : wr .i64 (mulI (a % 1009) (b % 1009)) % 1009 = a * b % 1009 := by
  have := scbb a b
  rw [mulI_d, wr64 (by omega), ← Int.mul_emod]
theorem s_add (a b : Int) : wr .i64 (addI (a % 1009) (b % 1009)) % 1009 = (a + b) % 1009 := by
  rw [addI_d, wr64 (by omega), ← Int.add_emod]
theorem s_neg (a : Int) : wr .i64 (subI 0 (a % 1009)) % 1009 = (-a) % 1009 := by
  rw [subI_d, wr64 (by omega)]
  omega
theorem spec_ScOf_ev (a : Int) : Does cp n_spec_ScOf [.int .i64 a] [.int .i64 (a % 1009)] := by
  refine Ev.fn (fun k => F_spec_ScOf k a) (Ev.b (fun h => Ev.some_ ?_) (fun h => Ev.some_ ?_))
  · rw [addI_d, remI_d, rem_neg (by omega) (by omega) (ltI_to h)]
  · rw [remI_d, rem_pos (by omega) (ltI_fo h)]
theorem impl_rem9_ev (a : Int) : Does cp n_impl_remainder [.int .i64 a, .int .i64 1009] [.int .i64 (a % 1009)] := by
  refine Ev.fn (fun k => F_impl_remainder k a 1009) (Ev.g (by rw [eqI_f (by omega)]; rfl) (Ev.b (fun h => Ev.some_ ?_) (fun h => Ev.some_ ?_)))
  · rw [addI_d, remI_d, rem_neg (by omega) (by omega) (ltI_to h)]
  · rw [remI_d, rem_pos (by omega) (ltI_fo h)]
theorem impl_ScOf_ev (a : Int) : Does cp n_impl_ScOf [.int .i64 a] [.int .i64 (a % 1009)] := Ev.fn (fun k => F_impl_ScOf k a) (Ev.c (impl_rem9_ev a) (Ev.now _))
theorem spec_ScMul_ev (a b : Int) : Does cp n_spec_ScMul [.int .i64 a, .int .i64 b] [.int .i64 (a * b % 1009)] :=
  Ev.fn (fun k => F_spec_ScMul k a b) (Ev.c (spec_ScOf_ev a) (Ev.c (spec_ScOf_ev b) (Ev.c (spec_ScOf_ev _) (Ev.some_ (by simp only [hdV_c, tlV_c, parts1_a, asInt_i, asBool_b, asStr_s, asLen_f, asCells_f, s_mul])))))
theorem spec_ScAdd_ev (a b : Int) : Does cp n_spec_ScAdd [.int .i64 a, .int .i64 b] [.int .i64 ((a + b) % 1009)] :=
  Ev.fn (fun k => F_spec_ScAdd k a b) (Ev.c (spec_ScOf_ev a) (Ev.c (spec_ScOf_ev b) (Ev.c (spec_ScOf_ev _) (Ev.some_ (by simp only [hdV_c, tlV_c, parts1_a, asInt_i, asBool_b, asStr_s, asLen_f, asCells_f, s_add])))))
theorem spec_ScNeg_ev (a : Int) : Does cp n_spec_ScNeg [.int .i64 a] [.int .i64 ((-a) % 1009)] :=
  Ev.fn (fun k => F_spec_ScNeg k a) (Ev.c (spec_ScOf_ev a) (Ev.c (spec_ScOf_ev _) (Ev.some_ (by simp only [hdV_c, tlV_c, parts1_a, asInt_i, asBool_b, asStr_s, asLen_f, asCells_f, s_neg]))))
theorem impl_ScMul_ev (a b : Int) : Does cp n_impl_ScMul [.int .i64 a, .int .i64 b] [.int .i64 (a * b % 1009)] :=
  Ev.fn (fun k => F_impl_ScMul k a b) (Ev.c (impl_ScOf_ev a) (Ev.c (impl_ScOf_ev b) (Ev.c (impl_ScOf_ev _) (Ev.some_ (by simp only [hdV_c, tlV_c, parts1_a, asInt_i, asBool_b, asStr_s, asLen_f, asCells_f, s_mul])))))
theorem impl_ScAdd_ev (a b : Int) : Does cp n_impl_ScAdd [.int .i64 a, .int .i64 b] [.int .i64 ((a + b) % 1009)] :=
  Ev.fn (fun k => F_impl_ScAdd k a b) (Ev.c (impl_ScOf_ev a) (Ev.c (impl_ScOf_ev b) (Ev.c (impl_ScOf_ev _) (Ev.some_ (by simp only [hdV_c, tlV_c, parts1_a, asInt_i, asBool_b, asStr_s, asLen_f, asCells_f, s_add])))))
theorem impl_ScNeg_ev (a : Int) : Does cp n_impl_ScNeg [.int .i64 a] [.int .i64 ((-a) % 1009)] :=
  Ev.fn (fun k => F_impl_ScNeg k a) (Ev.c (impl_ScOf_ev a) (Ev.c (impl_ScOf_ev _) (Ev.some_ (by simp only [hdV_c, tlV_c, parts1_a, asInt_i, asBool_b, asStr_s, asLen_f, asCells_f, s_neg]))))
def invGo : Nat → Int → Int → Int → Int
  | 0, _, _, acc => acc
  | f + 1, e, b, acc => if 0 < e then (if e % 2 = 1 then invGo f (e / 2) (b * b % 1009) (acc * b % 1009) else invGo f (e / 2) (b * b % 1009) acc) else acc
def scInv (a : Int) : Int := invGo 10 1007 (a % 1009) 1
theorem quo2s {e : Int} (h : 0 ≤ e ∧ e ≤ 1000000) : wr .i64 (quoI e 2) = e / 2 := by rw [quoI_d, tdiv_pos h.1, wr64 (by omega)]
theorem rem2e {e : Int} (h : 0 ≤ e) : remI e 2 = e % 2 := by rw [remI_d, tmod_pos h]
theorem spec_ScInv_l (f : Nat) : ∀ (e b acc : Int), 0 ≤ e → e < ((2 ^ f : Nat) : Int) → e ≤ 1000000 → Ev (fun k m _ _ => L_spec_ScInv_0 k m e b acc) [.int .i64 (invGo f e b acc)] := by
  induction f with
  | zero =>
    intro e b acc h0 h1 h2
    exact Ev.step (fun k m _ _ => L_spec_ScInv_0_s k m _ _ _) (Ev.f (ltI_f (by simp at h1; omega)) (Ev.now _))
  | succ f ih =>
    intro e b acc h0 h1 h2
    have h1' : e / 2 < ((2 ^ f : Nat) : Int) := by rw [Nat.pow_succ] at h1; push_cast at h1 ⊢; omega
    refine Ev.step (fun k m _ _ => L_spec_ScInv_0_s k m _ _ _) ?_
    rw [rem2e h0, quo2s ⟨h0, h2⟩, invGo]
    by_cases h : 0 < e
    · rw [if_pos h]
      refine Ev.t (ltI_t h) ?_
      by_cases ho : e % 2 = 1
      · rw [if_pos ho]
        exact Ev.t (eqI_t ho) (Ev.c (spec_ScMul_ev acc b) (Ev.c (spec_ScMul_ev b b) (ih (e / 2) _ _ (by omega) h1' (by omega))))
      · rw [if_neg ho]
        exact Ev.f (eqI_f ho) (Ev.c (spec_ScMul_ev b b) (ih (e / 2) _ _ (by omega) h1' (by omega)))
    · rw [if_neg h]
      exact Ev.f (ltI_f h) (Ev.now _)
theorem spec_ScInv_ev (a : Int) : Does cp n_spec_ScInv [.int .i64 a] [.int .i64 (scInv a)] :=
  Ev.fn (fun k => F_spec_ScInv k a) (Ev.c (spec_ScOf_ev a) (spec_ScInv_l 10 1007 (a % 1009) 1 (by omega) (by decide) (by omega)).l0)
theorem mm9 {a b : Int} (ha : 0 ≤ a ∧ a ≤ 1008) (hb : 0 ≤ b ∧ b ≤ 1008) : remI (wr .i64 (mulI a b)) 1009 = a * b % 1009 := by
  have h1 := Int.mul_le_mul ha.2 hb.2 hb.1 (by omega : (0 : Int) ≤ 1008)
  have h0 := Int.mul_nonneg ha.1 hb.1
  rw [mulI_d, wr64 (by omega), remI_d, tmod_pos h0]
theorem impl_pow_l (f : Nat) : ∀ (e b acc : Int), 0 ≤ e → e < ((2 ^ f : Nat) : Int) → e ≤ 1000000 → 0 ≤ b ∧ b ≤ 1008 → 0 ≤ acc ∧ acc ≤ 1008 → Ev (fun k m _ _ => L_impl_powerMod_0 k m 1009 e b acc) [.int .i64 (invGo f e b acc)] := by
  have h9 : notB (eqI 1009 0) = true := by rw [eqI_f (by omega)]; rfl
  induction f with
  | zero =>
    intro e b acc h0 h1 h2 hb ha
    exact Ev.step (fun k m _ _ => L_impl_powerMod_0_s k m _ _ _ _) (Ev.f (ltI_f (by simp at h1; omega)) (Ev.now _))
  | succ f ih =>
    intro e b acc h0 h1 h2 hb ha
    have h1' : e / 2 < ((2 ^ f : Nat) : Int) := by rw [Nat.pow_succ] at h1; push_cast at h1 ⊢; omega
    refine Ev.step (fun k m _ _ => L_impl_powerMod_0_s k m _ _ _ _) ?_
    rw [rem2e h0, quo2s ⟨h0, h2⟩, invGo, mm9 hb hb, mm9 ha hb]
    by_cases h : 0 < e
    · rw [if_pos h]
      refine Ev.t (ltI_t h) ?_
      by_cases ho : e % 2 = 1
      · rw [if_pos ho]
        exact Ev.t (eqI_t ho) (Ev.g h9 (Ev.g h9 (ih (e / 2) _ _ (by omega) h1' (by omega) (scb _) (scb _))))
      · rw [if_neg ho]
        exact Ev.f (eqI_f ho) (Ev.g h9 (ih (e / 2) _ _ (by omega) h1' (by omega) (scb _) ha))
    · rw [if_neg h]
      exact Ev.f (ltI_f h) (Ev.now _)
theorem impl_ScInv_ev (a : Int) : Does cp n_impl_ScInv [.int .i64 a] [.int .i64 (scInv a)] :=
  Ev.fn (fun k => F_impl_ScInv k a) (Ev.c (Ev.fn (fun k => F_impl_powerMod k _ _ _) (Ev.c (impl_rem9_ev a) (impl_pow_l 10 1007 (a % 1009) 1 (by omega) (by decide) (by omega) (scb a) (by omega)).l0)) (Ev.now _))
theorem inv_law : ∀ a : Fin 1009, a.val ≠ 0 → (a.val : Int) * scInv (a.val : Int) % 1009 = 1 := by decide +kernel


theorem plainI (l : List Int) : plainRes [.fs l.length (l.flatMap eI)] = true := by
  have : (l.flatMap eI).all plain1 = true := by
    rw [List.all_eq_true]
    intro v hv
    obtain ⟨n, _, hn⟩ := List.mem_flatMap.1 hv
    rw [eI, List.mem_singleton] at hn
    subst hn; rfl
  show ((((l.flatMap eI).all plain1) && true) && true) = true
  rw [this]; rfl
theorem cutT (l : List Int) (n : Nat) : cutC (l.flatMap eI) 0 (mulN n 1) = (l.take n).flatMap eI := by
  have := cut_part eI_len l 0 n
  rw [List.drop_zero] at this
  exact this
theorem addN00 (n : Nat) : addN 0 n = n := by rw [addN_d, Nat.zero_add]
/-! arrays of numbers -/
def arr (n : Nat) (f : Nat → Int) : List Int := (List.range n).map f
def updF (f : Nat → Int) (i : Nat) (x : Int) : Nat → Int := fun j => if j = i then x else f j
theorem arr_len (n : Nat) (f : Nat → Int) : (arr n f).length = n := by simp [arr]
theorem arr_get {n : Nat} {f : Nat → Int} {i : Nat} (h : i < (arr n f).length) : (arr n f)[i] = f i := by simp [arr]
theorem arr_ext {n : Nat} {f g : Nat → Int} (h : ∀ j, j < n → f j = g j) : arr n f = arr n g := List.map_congr_left fun j hj => h j (List.mem_range.1 hj)
theorem arr_upd (n : Nat) (f : Nat → Int) (i : Nat) (x : Int) : (arr n f).set i x = arr n (updF f i x) := by
  refine List.ext_getElem (by simp [arr]) fun j h1 h2 => ?_
  rw [List.getElem_set, arr_get, arr_get]
  unfold updF
  by_cases h : i = j
  · rw [if_pos h, if_pos h.symm]
  · rw [if_neg h, if_neg (Ne.symm h)]
theorem arr_cell {n : Nat} (f : Nat → Int) {i : Nat} (h : i < n) : cellAt ((arr n f).flatMap eI) (addN 0 (mulN (natI (i : Int)) 1)) = .int .i64 (f i) := by
  rw [addN00, ei (by rw [arr_len]; exact h), arr_get]
theorem arr_set {n : Nat} (f : Nat → Int) {i : Nat} (h : i < n) (x : Int) : setMany ((arr n f).flatMap eI) (addN 0 (mulN (natI (i : Int)) 1)) [.int .i64 x] = (arr n (updF f i x)).flatMap eI := by
  rw [addN00, natI_c, mulN_d, ← arr_upd]
  exact set_encs eI_len (arr n f) i x (by rw [arr_len]; exact h)
theorem arr_ble {n : Nat} (f : Nat → Int) {i : Nat} (h : i < n) : Nat.ble (Nat.succ (addN 0 (mulN (natI (i : Int)) 1))) (List.length ((arr n f).flatMap eI)) = true := by
  rw [encs_len eI_len, arr_len]
  exact Nat.ble_eq_true_of_le (by rw [addN_d, natI_c, mulN_d]; omega)
theorem arr_zero (n : Nat) : repC n [.int .i64 0] = (arr n (fun _ => 0)).flatMap eI := by
  have : List.replicate n (0 : Int) = arr n (fun _ => 0) := by
    refine List.ext_getElem (by simp [arr]) fun j h1 h2 => ?_
    rw [arr_get, List.getElem_replicate]
  rw [← this]
  exact rep_encs (e := eI) 0 rfl n
theorem arr_cut (n : Nat) (f : Nat → Int) : cutC ((arr n f).flatMap eI) 0 (mulN n 1) = (arr n f).flatMap eI := by
  have := cut_all eI_len (arr n f)
  rw [arr_len] at this
  exact this
theorem arr_of (l : List Int) (g : Nat → Int) (f : Int → Int) (h : ∀ j (hj : j < l.length), g j = f l[j]) : arr l.length g = l.map f := by
  refine List.ext_getElem (by simp [arr]) fun j h1 h2 => ?_
  rw [arr_get, List.getElem_map]
  exact h j (by simpa using h2)
/-! trimmed -/
def trimN (z : List Int) : Nat → Nat
  | 0 => 0
  | n + 1 => if z.getD n 0 = 0 then trimN z n else n + 1
theorem trimN_le (z : List Int) (n : Nat) : trimN z n ≤ n := by
  induction n with
  | zero => exact Nat.le_refl _
  | succ n ih => rw [trimN]; split <;> omega
def trimZ (z : List Int) : List Int := z.take (trimN z z.length)
def yTrim (l : List Int) : List Int := trimZ (l.map fun a => a % 1009)
theorem trimZ_len (z : List Int) : (trimZ z).length ≤ z.length := by unfold trimZ; rw [List.length_take]; omega
theorem yTrim_len (l : List Int) : (yTrim l).length ≤ l.length := by have := trimZ_len (l.map fun a => a % 1009); rw [List.length_map] at this; exact this
theorem spec_trim_l1 (z : List Int) (hz : z.length ≤ 1000000) (n : Nat) : n ≤ z.length → Ev (fun k m _ _ => L_spec_PolyTrim_1 k m n (z.flatMap eI)) [.fs (z.take (trimN z n)).length ((z.take (trimN z n)).flatMap eI)] := by
  induction n with
  | zero =>
    intro h
    refine Ev.step (fun k m _ _ => L_spec_PolyTrim_1_s k m _ _) (Ev.f (ltI_f (by rw [lenI_c]; omega)) (Ev.some_ ?_))
    rw [cutT]; rfl
  | succ n ih =>
    intro h
    have e : wr .i64 (subI (lenI (n + 1)) 1) = ((n : Nat) : Int) := by rw [subI_d, lenI_c, wr64 (by omega)]; omega
    have hn : n < z.length := by omega
    have hg : z.getD n 0 = z[n] := by simp [List.getD_eq_getElem?_getD, List.getElem?_eq_getElem hn]
    refine Ev.step (fun k m _ _ => L_spec_PolyTrim_1_s k m _ _) (Ev.t (ltI_t (by rw [lenI_c]; omega)) ?_)
    rw [e, addN00, ei hn, trimN, hg]
    refine Ev.g (inR_n (by omega)) (Ev.g rfl ?_)
    by_cases c : z[n] = 0
    · rw [if_pos c]
      exact Ev.t (eqI_t c) (Ev.g (inS_t (by omega) (by omega) (by omega)) (ih (by omega)))
    · rw [if_neg c]
      refine Ev.f (eqI_f c) (Ev.some_ ?_)
      rw [cutT, List.length_take, Nat.min_eq_left h]
theorem impl_trim_l1 (z : List Int) (hz : z.length ≤ 1000000) (n : Nat) : n ≤ z.length → Ev (fun k m _ _ => L_impl_PolyTrim_1 k m n (z.flatMap eI)) [.fs (z.take (trimN z n)).length ((z.take (trimN z n)).flatMap eI)] := by
  induction n with
  | zero =>
    intro h
    refine Ev.step (fun k m _ _ => L_impl_PolyTrim_1_s k m _ _) (Ev.f (ltI_f (by rw [lenI_c]; omega)) (Ev.some_ ?_))
    rw [cutT]; rfl
  | succ n ih =>
    intro h
    have e : wr .i64 (subI (lenI (n + 1)) 1) = ((n : Nat) : Int) := by rw [subI_d, lenI_c, wr64 (by omega)]; omega
    have hn : n < z.length := by omega
    have hg : z.getD n 0 = z[n] := by simp [List.getD_eq_getElem?_getD, List.getElem?_eq_getElem hn]
    refine Ev.step (fun k m _ _ => L_impl_PolyTrim_1_s k m _ _) (Ev.t (ltI_t (by rw [lenI_c]; omega)) ?_)
    rw [e, addN00, ei hn, trimN, hg]
    refine Ev.g (inR_n (by omega)) (Ev.g rfl ?_)
    by_cases c : z[n] = 0
    · rw [if_pos c]
      exact Ev.t (eqI_t c) (Ev.g (inS_t (by omega) (by omega) (by omega)) (ih (by omega)))
    · rw [if_neg c]
      refine Ev.f (eqI_f c) (Ev.some_ ?_)
      rw [cutT, List.length_take, Nat.min_eq_left h]
theorem spec_PolyTrim_l (l : List Int) (hl : l.length ≤ 1000000) (d : Nat) : ∀ i : Nat, i + d = l.length → Ev (fun k m _ _ => L_spec_PolyTrim_0 k m l.length (l.flatMap eI) (i : Int) ((l.take i).map fun a => a % 1009).length (((l.take i).map fun a => a % 1009).flatMap eI)) [.fs (yTrim l).length ((yTrim l).flatMap eI)] := by
  induction d with
  | zero =>
    intro i hi
    refine Ev.step (fun k m _ _ => L_spec_PolyTrim_0_s k m _ _ _ _ _) (Ev.f (ltI_f (by rw [lenI_c]; omega)) ?_)
    rw [List.take_of_length_le (by omega)]
    exact (spec_trim_l1 (l.map fun a => a % 1009) (by rw [List.length_map]; exact hl) _ (Nat.le_refl _)).l0
  | succ d ih =>
    intro i hi
    have hi' : i < l.length := by omega
    have hm : ((l.take i).map fun a => a % 1009) ++ [l[i] % 1009] = (l.take (i + 1)).map fun a => a % 1009 := by rw [← take_next l i hi', List.map_append]; rfl
    refine Ev.step (fun k m _ _ => L_spec_PolyTrim_0_s k m _ _ _ _ _) (Ev.t (ltI_t (by rw [lenI_c]; omega)) (Ev.g (inR_n hi') ?_))
    simp only [ei hi', hdV_c, tlV_c, parts1_a, asInt_i, asBool_b, asStr_s, asLen_f, asCells_f]
    refine Ev.g rfl (Ev.c (spec_ScOf_ev l[i]) (Ev.g (fitN_small (by rw [addN_d, List.length_map, List.length_take]; omega) (by decide)) ?_))
    simp only [hdV_c, tlV_c, parts1_a, asInt_i, asBool_b, asStr_s, asLen_f, asCells_f, wrS (show i < 9223372036854775807 by omega)]
    rw [catE, addN1 _ (l[i] % 1009), hm]
    exact ih (i + 1) (by omega)
theorem spec_PolyTrim_ev (l : List Int) (hl : l.length ≤ 1000000) : Does cp n_spec_PolyTrim [.fs l.length (l.flatMap eI)] [.fs (yTrim l).length ((yTrim l).flatMap eI)] := Ev.fn (fun k => F_spec_PolyTrim k _ _) (spec_PolyTrim_l l hl l.length 0 (by omega)).l0
theorem impl_PolyTrim_l (l : List Int) (hl : l.length ≤ 1000000) (d : Nat) : ∀ i : Nat, i + d = l.length → Ev (fun k m _ _ => L_impl_PolyTrim_0 k m l.length (l.flatMap eI) (lenI l.length) (i : Int) ((l.take i).map fun a => a % 1009).length (((l.take i).map fun a => a % 1009).flatMap eI)) [.fs (yTrim l).length ((yTrim l).flatMap eI)] := by
  induction d with
  | zero =>
    intro i hi
    refine Ev.step (fun k m _ _ => L_impl_PolyTrim_0_s k m _ _ _ _ _ _) (Ev.f (ltI_f (by rw [lenI_c]; omega)) ?_)
    rw [List.take_of_length_le (by omega)]
    exact (impl_trim_l1 (l.map fun a => a % 1009) (by rw [List.length_map]; exact hl) _ (Nat.le_refl _)).l0
  | succ d ih =>
    intro i hi
    have hi' : i < l.length := by omega
    have hm : ((l.take i).map fun a => a % 1009) ++ [l[i] % 1009] = (l.take (i + 1)).map fun a => a % 1009 := by rw [← take_next l i hi', List.map_append]; rfl
    refine Ev.step (fun k m _ _ => L_impl_PolyTrim_0_s k m _ _ _ _ _ _) (Ev.t (ltI_t (by rw [lenI_c]; omega)) (Ev.g (inR_n hi') ?_))
    simp only [ei hi', hdV_c, tlV_c, parts1_a, asInt_i, asBool_b, asStr_s, asLen_f, asCells_f]
    refine Ev.g rfl (Ev.c (impl_ScOf_ev l[i]) (Ev.g (fitN_small (by rw [addN_d, List.length_map, List.length_take]; omega) (by decide)) ?_))
    simp only [hdV_c, tlV_c, parts1_a, asInt_i, asBool_b, asStr_s, asLen_f, asCells_f, wrS (show i < 9223372036854775807 by omega)]
    rw [catE, addN1 _ (l[i] % 1009), hm]
    exact ih (i + 1) (by omega)
theorem impl_PolyTrim_ev (l : List Int) (hl : l.length ≤ 1000000) : Does cp n_impl_PolyTrim [.fs l.length (l.flatMap eI)] [.fs (yTrim l).length ((yTrim l).flatMap eI)] := Ev.fn (fun k => F_impl_PolyTrim k _ _) (impl_PolyTrim_l l hl l.length 0 (by omega)).l0
theorem spec_trimmed (n : Nat) (hn : n ≤ 1000000) (f : Nat → Int) : Ev (fun k _ _ _ => bnd (evF cp k n_spec_PolyTrim [AV.fs n (cutC ((arr n f).flatMap eI) 0 (mulN n 1))]) (fun r0 => gd (plainRes r0) (some [AV.fs (AV.asLen (hdV r0)) (cutC (AV.asCells (hdV r0)) 0 (mulN (AV.asLen (hdV r0)) 1))]))) [.fs (yTrim (arr n f)).length ((yTrim (arr n f)).flatMap eI)] := by
  have e := spec_PolyTrim_ev (arr n f) (by rw [arr_len]; exact hn)
  rw [arr_len] at e
  rw [arr_cut]
  refine Ev.c e (Ev.g (plainI _) (Ev.some_ ?_))
  simp only [hdV_c, tlV_c, parts1_a, asInt_i, asBool_b, asStr_s, asLen_f, asCells_f, cut_all eI_len]
theorem impl_trimmed (n : Nat) (hn : n ≤ 1000000) (f : Nat → Int) : Ev (fun k _ _ _ => bnd (evF cp k n_impl_PolyTrim [AV.fs n (cutC ((arr n f).flatMap eI) 0 (mulN n 1))]) (fun r0 => gd (plainRes r0) (some [AV.fs (AV.asLen (hdV r0)) (cutC (AV.asCells (hdV r0)) 0 (mulN (AV.asLen (hdV r0)) 1))]))) [.fs (yTrim (arr n f)).length ((yTrim (arr n f)).flatMap eI)] := by
  have e := impl_PolyTrim_ev (arr n f) (by rw [arr_len]; exact hn)
  rw [arr_len] at e
  rw [arr_cut]
  refine Ev.c e (Ev.g (plainI _) (Ev.some_ ?_))
  simp only [hdV_c, tlV_c, parts1_a, asInt_i, asBool_b, asStr_s, asLen_f, asCells_f, cut_all eI_len]
/-! sums -/
def addV (a b : List Int) (i : Nat) : Int := (a.getD i 0 + b.getD i 0) % 1009
def yAdd (a b : List Int) : List Int := yTrim (arr (max a.length b.length) (addV a b))
theorem yAdd_len (a b : List Int) : (yAdd a b).length ≤ max a.length b.length := by
  have := yTrim_len (arr (max a.length b.length) (addV a b))
  rw [arr_len] at this
  exact this
theorem getD_i {l : List Int} {i : Nat} (h : i < l.length) : l.getD i 0 = l[i] := by simp [List.getD_eq_getElem?_getD, List.getElem?_eq_getElem h]
theorem getD_o {l : List Int} {i : Nat} (h : ¬ i < l.length) : l.getD i 0 = 0 := by simp [List.getD_eq_getElem?_getD, List.getElem?_eq_none (Nat.le_of_not_lt h)]
/-- The first i are summed. -/
def upto_ (i : Nat) (v : Nat → Int) : Nat → Int := fun j => if j < i then v j else 0
theorem upto_s (n i : Nat) (v : Nat → Int) (x : Int) (h : x = v i) : arr n (updF (upto_ i v) i x) = arr n (upto_ (i + 1) v) := arr_ext fun j _ => by
  unfold updF upto_
  by_cases c : j = i
  · rw [if_pos c, if_pos (by omega), h, c]
  · rw [if_neg c]
    by_cases c2 : j < i
    · rw [if_pos c2, if_pos (by omega)]
    · rw [if_neg c2, if_neg (by omega)]
theorem upto_self (n i : Nat) (v : Nat → Int) (h : v i = 0) : arr n (upto_ i v) = arr n (upto_ (i + 1) v) := arr_ext fun j _ => by
  unfold upto_
  by_cases c : j = i
  · subst c; rw [if_neg (by omega), if_pos (by omega), h]
  · by_cases c2 : j < i
    · rw [if_pos c2, if_pos (by omega)]
    · rw [if_neg c2, if_neg (by omega)]
theorem updF2 (f : Nat → Int) (i : Nat) (x y : Int) : updF (updF f i x) i y = updF f i y := by
  funext j
  unfold updF
  split <;> rfl
theorem updF_i (f : Nat → Int) (i : Nat) (x : Int) : updF f i x i = x := if_pos rfl
theorem spec_PolyAdd_l (a b : List Int) (n : Nat) (hn : n = max a.length b.length) (hb : n ≤ 1000000) (d : Nat) : ∀ i : Nat, i + d = n →
    Ev (fun k m _ _ => L_spec_PolyAdd_0 k m b.length (b.flatMap eI) n a.length (a.flatMap eI) (n : Int) (i : Int) ((arr n (upto_ i (addV a b))).flatMap eI)) [.fs (yAdd a b).length ((yAdd a b).flatMap eI)] := by
  induction d with
  | zero =>
    intro i hi
    refine Ev.step (fun k m _ _ => L_spec_PolyAdd_0_s k m _ _ _ _ _ _ _ _) (Ev.f (ltI_f (by omega)) ?_)
    have : arr n (upto_ i (addV a b)) = arr n (addV a b) := arr_ext fun j hj => if_pos (by omega)
    rw [this]
    unfold yAdd
    rw [← hn]
    exact spec_trimmed n hb _
  | succ d ih =>
    intro i hi
    have hin : i < n := by omega
    have hz : upto_ i (addV a b) i = 0 := if_neg (by omega)
    have hnext := ih (i + 1) (by omega)
    rw [← wrS (show i < 9223372036854775807 by omega)] at hnext
    refine Ev.step (fun k m _ _ => L_spec_PolyAdd_0_s k m _ _ _ _ _ _ _ _) (Ev.t (ltI_t (by omega)) ?_)
    by_cases ha : i < a.length
    · refine Ev.t (ltI_t (by rw [lenI_c]; omega)) (Ev.g (inR_n hin) ?_)
      rw [arr_cell _ hin, ei ha]
      refine Ev.g rfl (Ev.g (inR_n ha) (Ev.g rfl (Ev.c (spec_ScAdd_ev _ _) (Ev.g (inR_n hin) (Ev.g (arr_ble _ hin) ?_)))))
      simp only [hdV_c, tlV_c, parts1_a, asInt_i, asBool_b, asStr_s, asLen_f, asCells_f, hz, arr_set _ hin]
      by_cases hb' : i < b.length
      · refine Ev.t (ltI_t (by rw [lenI_c]; omega)) (Ev.g (inR_n hin) ?_)
        rw [arr_cell _ hin, ei hb']
        refine Ev.g rfl (Ev.g (inR_n hb') (Ev.g rfl (Ev.c (spec_ScAdd_ev _ _) (Ev.g (inR_n hin) (Ev.g (arr_ble _ hin) ?_)))))
        simp only [hdV_c, tlV_c, parts1_a, asInt_i, asBool_b, asStr_s, asLen_f, asCells_f, updF_i, arr_set _ hin, updF2]
        rw [upto_s n i (addV a b) _ (by unfold addV; rw [getD_i ha, getD_i hb']; omega)]
        exact hnext
      · refine Ev.f (ltI_f (by rw [lenI_c]; omega)) ?_
        rw [upto_s n i (addV a b) _ (by unfold addV; rw [getD_i ha, getD_o hb']; omega)]
        exact hnext
    · refine Ev.f (ltI_f (by rw [lenI_c]; omega)) ?_
      have hb' : i < b.length := by omega
      refine Ev.t (ltI_t (by rw [lenI_c]; omega)) (Ev.g (inR_n hin) ?_)
      rw [arr_cell _ hin, ei hb']
      refine Ev.g rfl (Ev.g (inR_n hb') (Ev.g rfl (Ev.c (spec_ScAdd_ev _ _) (Ev.g (inR_n hin) (Ev.g (arr_ble _ hin) ?_)))))
      simp only [hdV_c, tlV_c, parts1_a, asInt_i, asBool_b, asStr_s, asLen_f, asCells_f, hz, arr_set _ hin]
      rw [upto_s n i (addV a b) _ (by unfold addV; rw [getD_o ha, getD_i hb'])]
      exact hnext
theorem spec_PolyAdd_ev (a b : List Int) (ha : a.length ≤ 1000000) (hb : b.length ≤ 1000000) : Does cp n_spec_PolyAdd [.fs a.length (a.flatMap eI), .fs b.length (b.flatMap eI)] [.fs (yAdd a b).length ((yAdd a b).flatMap eI)] := by
  have h0 : ∀ n, arr n (fun _ => 0) = arr n (upto_ 0 (addV a b)) := fun n => arr_ext fun j _ => (if_neg (by omega)).symm
  refine Ev.fn (fun k => F_spec_PolyAdd k _ _ _ _) (Ev.b (fun h => ?_) (fun h => ?_))
  · have := ltI_to h
    rw [lenI_c, lenI_c] at this
    refine Ev.g (fit_small (by omega) (by decide)) ?_
    rw [show natI (lenI b.length) = b.length from rfl, arr_zero, h0]
    exact (spec_PolyAdd_l a b b.length (by omega) hb b.length 0 (by omega)).l0
  · have := ltI_fo h
    rw [lenI_c, lenI_c] at this
    refine Ev.g (fit_small (by omega) (by decide)) ?_
    rw [show natI (lenI a.length) = a.length from rfl, arr_zero, h0]
    exact (spec_PolyAdd_l a b a.length (by omega) ha a.length 0 (by omega)).l0
theorem impl_PolyAdd_l1 (a b : List Int) (n : Nat) (hn : n = max a.length b.length) (hb : n ≤ 1000000) (d : Nat) : ∀ (i : Nat) (f : Nat → Int), i + d = b.length → (∀ j, j < n → f j = if j < i then addV a b j else a.getD j 0 % 1009) →
    Ev (fun k m _ _ => L_impl_PolyAdd_1 k m n b.length (b.flatMap eI) (lenI b.length) (i : Int) ((arr n f).flatMap eI)) [.fs (yAdd a b).length ((yAdd a b).flatMap eI)] := by
  induction d with
  | zero =>
    intro i f hi hf
    refine Ev.step (fun k m _ _ => L_impl_PolyAdd_1_s k m _ _ _ _ _ _) (Ev.f (ltI_f (by rw [lenI_c]; omega)) ?_)
    have : arr n f = arr n (addV a b) := arr_ext fun j hj => by
      rw [hf j hj]
      by_cases c : j < i
      · rw [if_pos c]
      · rw [if_neg c]; unfold addV; rw [getD_o (l := b) (by omega), Int.add_zero]
    rw [this]
    unfold yAdd
    rw [← hn]
    exact impl_trimmed n hb _
  | succ d ih =>
    intro i f hi hf
    have hib : i < b.length := by omega
    have hin : i < n := by omega
    have hfi : f i = a.getD i 0 % 1009 := by rw [hf i hin, if_neg (by omega)]
    refine Ev.step (fun k m _ _ => L_impl_PolyAdd_1_s k m _ _ _ _ _ _) (Ev.t (ltI_t (by rw [lenI_c]; omega)) (Ev.g (inR_n hib) ?_))
    rw [arr_cell _ hin, ei hib]
    refine Ev.g rfl (Ev.g (inR_n hin) (Ev.g rfl (Ev.c (impl_ScAdd_ev _ _) (Ev.g (inR_n hin) (Ev.g (arr_ble _ hin) ?_)))))
    simp only [hdV_c, tlV_c, parts1_a, asInt_i, asBool_b, asStr_s, asLen_f, asCells_f, arr_set _ hin, wrS (show i < 9223372036854775807 by omega)]
    refine ih (i + 1) _ (by omega) fun j hj => ?_
    unfold updF
    by_cases c : j = i
    · subst c
      rw [if_pos rfl, if_pos (by omega), hfi]
      unfold addV
      rw [getD_i hib]; omega
    · rw [if_neg c, hf j hj]
      by_cases c2 : j < i
      · rw [if_pos c2, if_pos (by omega)]
      · rw [if_neg c2, if_neg (by omega)]
theorem impl_PolyAdd_l (a b : List Int) (n : Nat) (hn : n = max a.length b.length) (hb : n ≤ 1000000) (d : Nat) : ∀ i : Nat, i + d = a.length →
    Ev (fun k m _ _ => L_impl_PolyAdd_0 k m n a.length (a.flatMap eI) b.length (b.flatMap eI) (lenI a.length) (i : Int) ((arr n (upto_ i (fun j => a.getD j 0 % 1009))).flatMap eI)) [.fs (yAdd a b).length ((yAdd a b).flatMap eI)] := by
  induction d with
  | zero =>
    intro i hi
    refine Ev.step (fun k m _ _ => L_impl_PolyAdd_0_s k m _ _ _ _ _ _ _ _) (Ev.f (ltI_f (by rw [lenI_c]; omega)) ?_)
    refine (impl_PolyAdd_l1 a b n hn hb b.length 0 _ (by omega) fun j hj => ?_).l0
    rw [if_neg (by omega)]
    unfold upto_
    by_cases c : j < i
    · rw [if_pos c]
    · rw [if_neg c, getD_o (by omega)]; rfl
  | succ d ih =>
    intro i hi
    have hia : i < a.length := by omega
    have hin : i < n := by omega
    refine Ev.step (fun k m _ _ => L_impl_PolyAdd_0_s k m _ _ _ _ _ _ _ _) (Ev.t (ltI_t (by rw [lenI_c]; omega)) (Ev.g (inR_n hia) ?_))
    rw [ei hia]
    refine Ev.g rfl (Ev.c (impl_ScOf_ev _) (Ev.g (inR_n hin) (Ev.g (arr_ble _ hin) ?_)))
    simp only [hdV_c, tlV_c, parts1_a, asInt_i, asBool_b, asStr_s, asLen_f, asCells_f, arr_set _ hin, wrS (show i < 9223372036854775807 by omega)]
    rw [upto_s n i _ _ (show a[i] % 1009 = (fun j => a.getD j 0 % 1009) i by simp only [getD_i hia])]
    exact ih (i + 1) (by omega)
theorem max_len (a b : List Int) : maxI (lenI a.length) (lenI b.length) = ((max a.length b.length : Nat) : Int) := by
  unfold maxI
  rw [lenI_c, lenI_c]
  split <;> omega
theorem impl_PolyAdd_ev (a b : List Int) (ha : a.length ≤ 1000000) (hb : b.length ≤ 1000000) : Does cp n_impl_PolyAdd [.fs a.length (a.flatMap eI), .fs b.length (b.flatMap eI)] [.fs (yAdd a b).length ((yAdd a b).flatMap eI)] := by
  refine Ev.fn (fun k => F_impl_PolyAdd k _ _ _ _) ?_
  rw [max_len]
  refine Ev.g (fit_small (n := max a.length b.length) (by omega) (by decide)) ?_
  rw [show natI ((max a.length b.length : Nat) : Int) = max a.length b.length from rfl, arr_zero, show arr (max a.length b.length) (fun _ => 0) = arr (max a.length b.length) (upto_ 0 (fun j => a.getD j 0 % 1009)) from arr_ext fun j _ => (if_neg (by omega)).symm]
  exact (impl_PolyAdd_l a b _ rfl (by omega) a.length 0 (by omega)).l0
/-! multiples -/
def yScale (a : List Int) (k : Int) : List Int := a.map fun x => x * k % 1009
theorem yScale_len (a : List Int) (k : Int) : (yScale a k).length = a.length := by simp [yScale]
theorem spec_l14Scale_l (l : List Int) (x : Int) (hl : l.length ≤ 1000000) (d : Nat) : ∀ i : Nat, i + d = l.length → Ev (fun k m _ _ => L_spec_l14Scale_0 k m x l.length (l.flatMap eI) (i : Int) (yScale (l.take i) x).length ((yScale (l.take i) x).flatMap eI)) [.fs (yScale l x).length ((yScale l x).flatMap eI)] := by
  induction d with
  | zero =>
    intro i hi
    refine Ev.step (fun k m _ _ => L_spec_l14Scale_0_s k m _ _ _ _ _ _) (Ev.f (ltI_f (by rw [lenI_c]; omega)) (Ev.some_ ?_))
    rw [List.take_of_length_le (by omega), cut_all eI_len]
  | succ d ih =>
    intro i hi
    have hi' : i < l.length := by omega
    have hm : yScale (l.take i) x ++ [l[i] * x % 1009] = yScale (l.take (i + 1)) x := by unfold yScale; rw [← take_next l i hi', List.map_append]; rfl
    refine Ev.step (fun k m _ _ => L_spec_l14Scale_0_s k m _ _ _ _ _ _) (Ev.t (ltI_t (by rw [lenI_c]; omega)) (Ev.g (inR_n hi') ?_))
    simp only [ei hi', hdV_c, tlV_c, parts1_a, asInt_i, asBool_b, asStr_s, asLen_f, asCells_f]
    refine Ev.g rfl (Ev.c (spec_ScMul_ev l[i] x) (Ev.g (fitN_small (by rw [addN_d, yScale_len, List.length_take]; omega) (by decide)) ?_))
    simp only [hdV_c, tlV_c, parts1_a, asInt_i, asBool_b, asStr_s, asLen_f, asCells_f, wrS (show i < 9223372036854775807 by omega)]
    rw [catE, addN1 _ (l[i] * x % 1009), hm]
    exact ih (i + 1) (by omega)
theorem spec_l14Scale_ev (l : List Int) (x : Int) (hl : l.length ≤ 1000000) : Does cp n_spec_l14Scale [.fs l.length (l.flatMap eI), .int .i64 x] [.fs (yScale l x).length ((yScale l x).flatMap eI)] := Ev.fn (fun k => F_spec_l14Scale k _ _ _) (spec_l14Scale_l l x hl l.length 0 (by omega)).l0
theorem impl_scaled_l (l : List Int) (x : Int) (hl : l.length ≤ 1000000) (d : Nat) : ∀ i : Nat, i + d = l.length → Ev (fun k m _ _ => L_impl_scaled_0 k m x l.length l.length (l.flatMap eI) (lenI l.length) (i : Int) ((arr l.length (upto_ i (fun j => l.getD j 0 * x % 1009))).flatMap eI)) [.fs (yScale l x).length ((yScale l x).flatMap eI)] := by
  induction d with
  | zero =>
    intro i hi
    refine Ev.step (fun k m _ _ => L_impl_scaled_0_s k m _ _ _ _ _ _ _) (Ev.f (ltI_f (by rw [lenI_c]; omega)) (Ev.some_ ?_))
    rw [arr_cut, arr_of l _ (fun a => a * x % 1009) (fun j hj => by unfold upto_; rw [if_pos (by omega)]; simp only [getD_i hj]), yScale_len]
    rfl
  | succ d ih =>
    intro i hi
    have hi' : i < l.length := by omega
    refine Ev.step (fun k m _ _ => L_impl_scaled_0_s k m _ _ _ _ _ _ _) (Ev.t (ltI_t (by rw [lenI_c]; omega)) (Ev.g (inR_n hi') ?_))
    rw [ei hi']
    refine Ev.g rfl (Ev.c (impl_ScMul_ev _ x) (Ev.g (inR_n hi') (Ev.g (arr_ble _ hi') ?_)))
    simp only [hdV_c, tlV_c, parts1_a, asInt_i, asBool_b, asStr_s, asLen_f, asCells_f, arr_set _ hi', wrS (show i < 9223372036854775807 by omega)]
    rw [upto_s l.length i _ _ (show l[i] * x % 1009 = (fun j => l.getD j 0 * x % 1009) i by simp only [getD_i hi'])]
    exact ih (i + 1) (by omega)
theorem impl_scaled_ev (l : List Int) (x : Int) (hl : l.length ≤ 1000000) : Does cp n_impl_scaled [.fs l.length (l.flatMap eI), .int .i64 x] [.fs (yScale l x).length ((yScale l x).flatMap eI)] := by
  refine Ev.fn (fun k => F_impl_scaled k _ _ _) (Ev.g (fit_small (by omega) (by decide)) ?_)
  rw [show natI (lenI l.length) = l.length from rfl, arr_zero, show arr l.length (fun _ => 0) = arr l.length (upto_ 0 (fun j => l.getD j 0 * x % 1009)) from arr_ext fun j _ => (if_neg (by omega)).symm]
  exact (impl_scaled_l l x hl l.length 0 (by omega)).l0
/-! at a place -/
def yAtGo (l : List Int) (x : Int) : Nat → Int → Int
  | 0, s => s
  | i + 1, s => yAtGo l x i ((s * x % 1009 + l.getD i 0) % 1009)
def yAt (l : List Int) (x : Int) : Int := yAtGo l x l.length 0
theorem spec_PolyAt_l (l : List Int) (x : Int) (hl : l.length ≤ 1000000) (i : Nat) : ∀ s : Int, i ≤ l.length → Ev (fun k m _ _ => L_spec_PolyAt_0 k m l.length (l.flatMap eI) x ((i : Int) - 1) s) [.int .i64 (yAtGo l x i s)] := by
  induction i with
  | zero =>
    intro s h
    exact Ev.step (fun k m _ _ => L_spec_PolyAt_0_s k m _ _ _ _ _) (Ev.f (leI_f (by omega)) (Ev.now _))
  | succ i ih =>
    intro s h
    have hi : i < l.length := by omega
    have e : ((i + 1 : Nat) : Int) - 1 = (i : Int) := by omega
    have e2 : wr .i64 (subI (i : Int) 1) = (i : Int) - 1 := by rw [subI_d, wr64 (by omega)]
    rw [e]
    refine Ev.step (fun k m _ _ => L_spec_PolyAt_0_s k m _ _ _ _ _) (Ev.t (leI_t (by omega)) (Ev.c (spec_ScMul_ev s x) (Ev.g (inR_n hi) ?_)))
    rw [ei hi, e2]
    refine Ev.g rfl (Ev.c (spec_ScAdd_ev _ _) ?_)
    rw [yAtGo, getD_i hi]
    exact ih _ (by omega)
theorem spec_PolyAt_ev (l : List Int) (x : Int) (hl : l.length ≤ 1000000) : Does cp n_spec_PolyAt [.fs l.length (l.flatMap eI), .int .i64 x] [.int .i64 (yAt l x)] := by
  refine Ev.fn (fun k => F_spec_PolyAt k _ _ _) ?_
  rw [show wr .i64 (subI (lenI l.length) 1) = (l.length : Int) - 1 by rw [subI_d, lenI_c, wr64 (by omega)]]
  exact (spec_PolyAt_l l x hl l.length 0 (Nat.le_refl _)).l0
theorem impl_PolyAt_l (l : List Int) (x : Int) (hl : l.length ≤ 1000000) (i : Nat) : ∀ s : Int, i ≤ l.length → Ev (fun k m _ _ => L_impl_PolyAt_0 k m l.length (l.flatMap eI) x ((i : Int) - 1) s) [.int .i64 (yAtGo l x i s)] := by
  induction i with
  | zero =>
    intro s h
    exact Ev.step (fun k m _ _ => L_impl_PolyAt_0_s k m _ _ _ _ _) (Ev.f (leI_f (by omega)) (Ev.now _))
  | succ i ih =>
    intro s h
    have hi : i < l.length := by omega
    have e : ((i + 1 : Nat) : Int) - 1 = (i : Int) := by omega
    have e2 : wr .i64 (subI (i : Int) 1) = (i : Int) - 1 := by rw [subI_d, wr64 (by omega)]
    rw [e]
    refine Ev.step (fun k m _ _ => L_impl_PolyAt_0_s k m _ _ _ _ _) (Ev.t (leI_t (by omega)) (Ev.c (impl_ScMul_ev s x) (Ev.g (inR_n hi) ?_)))
    rw [ei hi, e2]
    refine Ev.g rfl (Ev.c (impl_ScAdd_ev _ _) ?_)
    rw [yAtGo, getD_i hi]
    exact ih _ (by omega)
theorem impl_PolyAt_ev (l : List Int) (x : Int) (hl : l.length ≤ 1000000) : Does cp n_impl_PolyAt [.fs l.length (l.flatMap eI), .int .i64 x] [.int .i64 (yAt l x)] := by
  refine Ev.fn (fun k => F_impl_PolyAt k _ _ _) ?_
  rw [show wr .i64 (subI (lenI l.length) 1) = (l.length : Int) - 1 by rw [subI_d, lenI_c, wr64 (by omega)]]
  exact (impl_PolyAt_l l x hl l.length 0 (Nat.le_refl _)).l0


theorem spec_l01In_ev (a b c : Int) : Does cp n_spec_l01In [.int .i64 a, .int .i64 b, .int .i64 c] [.bool (decide (b ≤ a ∧ a ≤ c))] := by
  refine Ev.fn (fun k => F_spec_l01In k _ _ _) (Ev.b (fun h => Ev.some_ ?_) (fun h => Ev.some_ ?_))
  · have := leI_to h
    rw [leI_d]
    congr 2
    exact decide_eq_decide.2 ⟨fun q => ⟨this, q⟩, fun q => q.2⟩
  · have := leI_fo h
    rw [decide_eq_false (by omega)]


/-! products -/
def mulIn (x : Int) (i : Nat) : List Int → Nat → (Nat → Int) → (Nat → Int)
  | [], _, f => f
  | y :: r, j, f => mulIn x i r (j + 1) (updF f (i + j) ((f (i + j) + x * y % 1009) % 1009))
def mulOut (ys : List Int) : List Int → Nat → (Nat → Int) → (Nat → Int)
  | [], _, f => f
  | x :: r, i, f => mulOut ys r (i + 1) (mulIn x i ys 0 f)
def yMulF (xs ys : List Int) : Nat → Int := mulOut ys xs 0 (fun _ => 0)
theorem mulIn_out (x : Int) (i : Nat) : ∀ (ys : List Int) (j : Nat) (f : Nat → Int) (t : Nat), i + j + ys.length ≤ t → mulIn x i ys j f t = f t
  | [], _, _, _, _ => rfl
  | y :: r, j, f, t, h => by
    rw [List.length_cons] at h
    rw [mulIn, mulIn_out x i r (j + 1) _ t (by omega)]
    exact if_neg (by omega)
theorem mulOut_out (ys : List Int) : ∀ (xs : List Int) (i : Nat) (f : Nat → Int) (t : Nat), i + xs.length + ys.length ≤ t + 1 → mulOut ys xs i f t = f t
  | [], _, _, _, _ => rfl
  | x :: r, i, f, t, h => by
    rw [List.length_cons] at h
    rw [mulOut, mulOut_out ys r (i + 1) _ t (by omega), mulIn_out x i ys 0 f t (by omega)]
theorem mulOut_nil (xs : List Int) : ∀ (i : Nat) (f : Nat → Int), mulOut [] xs i f = f := by
  induction xs with
  | nil => intro i f; rfl
  | cons x r ih => intro i f; rw [mulOut, ih]; rfl
def yMul (xs ys : List Int) : List Int := if xs.length = 0 ∨ ys.length = 0 ∨ 64 < xs.length ∨ 64 < ys.length then [] else yTrim (arr (xs.length + ys.length - 1) (yMulF xs ys))
theorem yMul_len (xs ys : List Int) : (yMul xs ys).length ≤ 128 := by
  unfold yMul
  split
  · simp
  · have := yTrim_len (arr (xs.length + ys.length - 1) (yMulF xs ys))
    rw [arr_len] at this
    omega
theorem trimN_app (z : List Int) (w : List Int) (n : Nat) (h : n ≤ z.length) : trimN (z ++ w) n = trimN z n := by
  induction n with
  | zero => rfl
  | succ n ih =>
    rw [trimN, trimN, ih (by omega)]
    have : (z ++ w).getD n 0 = z.getD n 0 := by rw [getD_i (by rw [List.length_append]; omega), getD_i (by omega), List.getElem_append_left (by omega)]
    rw [this]
theorem trimZ_snoc (z : List Int) : trimZ (z ++ [0]) = trimZ z := by
  unfold trimZ
  rw [List.length_append, List.length_singleton, trimN, if_pos, trimN_app z [0] _ (Nat.le_refl _), List.take_append_of_le_length (trimN_le _ _)]
  rw [getD_i (by rw [List.length_append, List.length_singleton]; omega)]
  simp
theorem arr_succ (n : Nat) (f : Nat → Int) : arr (n + 1) f = arr n f ++ [f n] := by unfold arr; rw [List.range_succ, List.map_append]; rfl
theorem yTrim_zero {n : Nat} {f : Nat → Int} (h : f n = 0) : yTrim (arr (n + 1) f) = yTrim (arr n f) := by
  unfold yTrim
  rw [arr_succ, List.map_append, h]
  exact trimZ_snoc _
theorem yTrim_zeros (n : Nat) : yTrim (arr n (fun _ => 0)) = [] := by
  induction n with
  | zero => rfl
  | succ n ih => rw [yTrim_zero (f := fun _ => 0) rfl, ih]
theorem yMul_impl (xs ys : List Int) (hx : ¬ 64 < xs.length) (hy : ¬ 64 < ys.length) : yTrim (arr (xs.length + ys.length) (yMulF xs ys)) = yMul xs ys := by
  unfold yMul
  by_cases h0 : xs.length = 0
  · rw [if_pos (Or.inl h0)]
    have : yMulF xs ys = fun _ => 0 := by rw [List.eq_nil_of_length_eq_zero h0]; rfl
    rw [this, yTrim_zeros]
  · by_cases h1 : ys.length = 0
    · rw [if_pos (Or.inr (Or.inl h1))]
      have : yMulF xs ys = fun _ => 0 := by rw [List.eq_nil_of_length_eq_zero h1]; exact mulOut_nil _ _ _
      rw [this, yTrim_zeros]
    · rw [if_neg (by omega)]
      obtain ⟨n, hn⟩ : ∃ n, xs.length + ys.length = n + 1 := ⟨xs.length + ys.length - 1, by omega⟩
      rw [hn, Nat.add_sub_cancel]
      exact yTrim_zero (by unfold yMulF; rw [mulOut_out _ _ _ _ _ (by omega)])
theorem spec_mul_in (xs ys : List Int) (hx : xs.length ≤ 64) (hy : ys.length ≤ 64) (n : Nat) (hn : n = xs.length + ys.length - 1) (i : Nat) (hi : i < xs.length) (R : List AV) (d : Nat) : ∀ (j : Nat) (f : Nat → Int), j + d = ys.length →
    Ev (fun k m _ _ => L_spec_PolyMul_0 k m ys.length (ys.flatMap eI) ((i + 1 : Nat) : Int) xs.length (xs.flatMap eI) n ((arr n (mulIn xs[i] i (ys.drop j) j f)).flatMap eI)) R →
    Ev (fun k m p _ => L_spec_PolyMul_1 k m p ys.length (ys.flatMap eI) (i : Int) xs.length (xs.flatMap eI) n (j : Int) ((arr n f).flatMap eI)) R := by
  induction d with
  | zero =>
    intro j f hj he
    rw [List.drop_eq_nil_of_le (by omega)] at he
    refine Ev.step (fun k m p _ => L_spec_PolyMul_1_s k m p _ _ _ _ _ _ _ _) (Ev.f (ltI_f (by rw [lenI_c]; omega)) ?_)
    rw [wrS (show i < 9223372036854775807 by omega)]
    exact he.o1
  | succ d ih =>
    intro j f hj he
    have hj' : j < ys.length := by omega
    have hij : i + j < n := by omega
    have ew : wr .i64 (addI (i : Int) (j : Int)) = ((i + j : Nat) : Int) := by rw [addI_d, wr64 (by omega)]; omega
    rw [List.drop_eq_getElem_cons hj', mulIn] at he
    refine Ev.step (fun k m p _ => L_spec_PolyMul_1_s k m p _ _ _ _ _ _ _ _) (Ev.t (ltI_t (by rw [lenI_c]; omega)) ?_)
    rw [ew, arr_cell _ hij, ei hi, ei hj']
    refine Ev.g (inR_n hij) (Ev.g rfl (Ev.g (inR_n hi) (Ev.g rfl (Ev.g (inR_n hj') (Ev.g rfl (Ev.c (spec_ScMul_ev _ _) (Ev.c (spec_ScAdd_ev _ _) (Ev.g (inR_n hij) (Ev.g (arr_ble _ hij) ?_)))))))))
    simp only [hdV_c, tlV_c, parts1_a, asInt_i, asBool_b, asStr_s, asLen_f, asCells_f, arr_set _ hij, wrS (show j < 9223372036854775807 by omega)]
    exact ih (j + 1) _ (by omega) he
theorem spec_mul_out (xs ys : List Int) (hx : xs.length ≤ 64) (hy : ys.length ≤ 64) (n : Nat) (hn : n = xs.length + ys.length - 1) (d : Nat) : ∀ (i : Nat) (f : Nat → Int), i + d = xs.length →
    Ev (fun k m _ _ => L_spec_PolyMul_0 k m ys.length (ys.flatMap eI) (i : Int) xs.length (xs.flatMap eI) n ((arr n f).flatMap eI)) [.fs (yTrim (arr n (mulOut ys (xs.drop i) i f))).length ((yTrim (arr n (mulOut ys (xs.drop i) i f))).flatMap eI)] := by
  induction d with
  | zero =>
    intro i f hi
    rw [List.drop_eq_nil_of_le (by omega)]
    exact Ev.step (fun k m _ _ => L_spec_PolyMul_0_s k m _ _ _ _ _ _ _) (Ev.f (ltI_f (by rw [lenI_c]; omega)) (spec_trimmed n (by omega) f))
  | succ d ih =>
    intro i f hi
    have hi' : i < xs.length := by omega
    have := ih (i + 1) (mulIn xs[i] i ys 0 f) (by omega)
    rw [List.drop_eq_getElem_cons hi', mulOut]
    exact Ev.step (fun k m _ _ => L_spec_PolyMul_0_s k m _ _ _ _ _ _ _) (Ev.t (ltI_t (by rw [lenI_c]; omega)) (spec_mul_in xs ys hx hy n hn i hi' _ ys.length 0 f (by omega) this).l1)
theorem spec_PolyMul_ev (xs ys : List Int) (hx : xs.length ≤ 1000000) (hy : ys.length ≤ 1000000) : Does cp n_spec_PolyMul [.fs xs.length (xs.flatMap eI), .fs ys.length (ys.flatMap eI)] [.fs (yMul xs ys).length ((yMul xs ys).flatMap eI)] := by
  refine Ev.fn (fun k => F_spec_PolyMul k _ _ _ _) ?_
  unfold yMul
  by_cases h0 : xs.length = 0
  · rw [if_pos (Or.inl h0)]; exact Ev.t (eqI_t (by rw [lenI_c]; omega)) (Ev.now _)
  refine Ev.f (eqI_f (by rw [lenI_c]; omega)) ?_
  by_cases h1 : ys.length = 0
  · rw [if_pos (Or.inr (Or.inl h1))]; exact Ev.t (eqI_t (by rw [lenI_c]; omega)) (Ev.now _)
  refine Ev.f (eqI_f (by rw [lenI_c]; omega)) ?_
  by_cases h2 : 64 < xs.length
  · rw [if_pos (by omega)]; exact Ev.t (ltI_t (by rw [lenI_c]; omega)) (Ev.now _)
  refine Ev.f (ltI_f (by rw [lenI_c]; omega)) ?_
  by_cases h3 : 64 < ys.length
  · rw [if_pos (by omega)]; exact Ev.t (ltI_t (by rw [lenI_c]; omega)) (Ev.now _)
  refine Ev.f (ltI_f (by rw [lenI_c]; omega)) ?_
  rw [if_neg (by omega)]
  have e : wr .i64 (subI (wr .i64 (addI (lenI xs.length) (lenI ys.length))) 1) = lenI (xs.length + ys.length - 1) := by
    rw [lenI_c, lenI_c, lenI_c, addI_d, wr64 (n := (xs.length : Int) + (ys.length : Int)) (by omega), subI_d, wr64 (by omega)]; omega
  rw [e]
  refine Ev.g (fit_small (by omega) (by decide)) ?_
  rw [show natI (lenI (xs.length + ys.length - 1)) = xs.length + ys.length - 1 from rfl, arr_zero]
  exact (spec_mul_out xs ys (by omega) (by omega) _ rfl xs.length 0 _ (by omega)).l0
theorem impl_mul_in (xs ys : List Int) (hx : xs.length ≤ 64) (hy : ys.length ≤ 64) (n : Nat) (hn : n = xs.length + ys.length) (i : Nat) (hi : i < xs.length) (R : List AV) (d : Nat) : ∀ (j : Nat) (f : Nat → Int), j + d = ys.length →
    Ev (fun k m _ _ => L_impl_PolyMul_0 k m n ys.length (ys.flatMap eI) xs.length (xs.flatMap eI) (lenI xs.length) ((i + 1 : Nat) : Int) ((arr n (mulIn xs[i] i (ys.drop j) j f)).flatMap eI)) R →
    Ev (fun k m p _ => L_impl_PolyMul_1 k m p xs[i] (i : Int) n ys.length (ys.flatMap eI) ys.length (ys.flatMap eI) xs.length (xs.flatMap eI) (lenI xs.length) (i : Int) (lenI ys.length) (j : Int) ((arr n f).flatMap eI)) R := by
  induction d with
  | zero =>
    intro j f hj he
    rw [List.drop_eq_nil_of_le (by omega)] at he
    refine Ev.step (fun k m p _ => L_impl_PolyMul_1_s k m p _ _ _ _ _ _ _ _ _ _ _ _ _ _) (Ev.f (ltI_f (by rw [lenI_c]; omega)) ?_)
    rw [wrS (show i < 9223372036854775807 by omega)]
    exact he.o1
  | succ d ih =>
    intro j f hj he
    have hj' : j < ys.length := by omega
    have hij : i + j < n := by omega
    have ew : wr .i64 (addI (i : Int) (j : Int)) = ((i + j : Nat) : Int) := by rw [addI_d, wr64 (by omega)]; omega
    rw [List.drop_eq_getElem_cons hj', mulIn] at he
    refine Ev.step (fun k m p _ => L_impl_PolyMul_1_s k m p _ _ _ _ _ _ _ _ _ _ _ _ _ _) (Ev.t (ltI_t (by rw [lenI_c]; omega)) ?_)
    rw [ew, arr_cell _ hij, ei hj']
    refine Ev.g (inR_n hj') (Ev.g rfl (Ev.g (inR_n hij) (Ev.g rfl (Ev.c (impl_ScMul_ev _ _) (Ev.c (impl_ScAdd_ev _ _) (Ev.g (inR_n hij) (Ev.g (arr_ble _ hij) ?_)))))))
    simp only [hdV_c, tlV_c, parts1_a, asInt_i, asBool_b, asStr_s, asLen_f, asCells_f, arr_set _ hij, wrS (show j < 9223372036854775807 by omega)]
    exact ih (j + 1) _ (by omega) he
theorem impl_mul_out (xs ys : List Int) (hx : xs.length ≤ 64) (hy : ys.length ≤ 64) (n : Nat) (hn : n = xs.length + ys.length) (d : Nat) : ∀ (i : Nat) (f : Nat → Int), i + d = xs.length →
    Ev (fun k m _ _ => L_impl_PolyMul_0 k m n ys.length (ys.flatMap eI) xs.length (xs.flatMap eI) (lenI xs.length) (i : Int) ((arr n f).flatMap eI)) [.fs (yTrim (arr n (mulOut ys (xs.drop i) i f))).length ((yTrim (arr n (mulOut ys (xs.drop i) i f))).flatMap eI)] := by
  induction d with
  | zero =>
    intro i f hi
    rw [List.drop_eq_nil_of_le (by omega)]
    exact Ev.step (fun k m _ _ => L_impl_PolyMul_0_s k m _ _ _ _ _ _ _ _) (Ev.f (ltI_f (by rw [lenI_c]; omega)) (impl_trimmed n (by omega) f))
  | succ d ih =>
    intro i f hi
    have hi' : i < xs.length := by omega
    have := ih (i + 1) (mulIn xs[i] i ys 0 f) (by omega)
    rw [List.drop_eq_getElem_cons hi', mulOut]
    refine Ev.step (fun k m _ _ => L_impl_PolyMul_0_s k m _ _ _ _ _ _ _ _) (Ev.t (ltI_t (by rw [lenI_c]; omega)) (Ev.g (inR_n hi') ?_))
    rw [ei hi']
    exact Ev.g rfl (impl_mul_in xs ys hx hy n hn i hi' _ ys.length 0 f (by omega) this).l1
theorem impl_PolyMul_ev (xs ys : List Int) (hx : xs.length ≤ 1000000) (hy : ys.length ≤ 1000000) : Does cp n_impl_PolyMul [.fs xs.length (xs.flatMap eI), .fs ys.length (ys.flatMap eI)] [.fs (yMul xs ys).length ((yMul xs ys).flatMap eI)] := by
  refine Ev.fn (fun k => F_impl_PolyMul k _ _ _ _) ?_
  by_cases h2 : 64 < xs.length
  · unfold yMul; rw [if_pos (by omega)]; exact Ev.t (ltI_t (by rw [lenI_c]; omega)) (Ev.now _)
  refine Ev.f (ltI_f (by rw [lenI_c]; omega)) ?_
  by_cases h3 : 64 < ys.length
  · unfold yMul; rw [if_pos (by omega)]; exact Ev.t (ltI_t (by rw [lenI_c]; omega)) (Ev.now _)
  refine Ev.f (ltI_f (by rw [lenI_c]; omega)) ?_
  rw [← yMul_impl xs ys h2 h3]
  have e : wr .i64 (addI (lenI xs.length) (lenI ys.length)) = lenI (xs.length + ys.length) := by
    rw [lenI_c, lenI_c, lenI_c, addI_d, wr64 (by omega)]; omega
  rw [e]
  refine Ev.g (fit_small (by omega) (by decide)) ?_
  rw [show natI (lenI (xs.length + ys.length)) = xs.length + ys.length from rfl, arr_zero]
  exact (impl_mul_out xs ys (by omega) (by omega) _ rfl xs.length 0 _ (by omega)).l0
/-! through points -/
def thrGo (i : Nat) : Nat → Nat → List Int → Int → List Int × Int
  | 0, _, o, b => (o, b)
  | d + 1, j, o, b => if j = i then thrGo i d (j + 1) o b else thrGo i d (j + 1) (yMul o [-((j : Int) + 1), 1]) (b * ((i : Int) - (j : Int)) % 1009)
theorem thrGo_len (i : Nat) (d : Nat) : ∀ (j : Nat) (o : List Int) (b : Int), o.length ≤ 128 → (thrGo i d j o b).1.length ≤ 128 := by
  induction d with
  | zero => intro j o b h; exact h
  | succ d ih =>
    intro j o b h
    rw [thrGo]
    split
    · exact ih _ _ _ h
    · exact ih _ _ _ (yMul_len _ _)
def thrOut (ys : List Int) : Nat → Nat → List Int → List Int
  | 0, _, o => o
  | d + 1, i, o => thrOut ys d (i + 1) (yAdd o (yScale (thrGo i ys.length 0 [1] 1).1 (ys.getD i 0 * scInv (thrGo i ys.length 0 [1] 1).2 % 1009)))
def yThrough (ys : List Int) : List Int := if 16 < ys.length then [] else thrOut ys ys.length 0 []
theorem thrOut_len (ys : List Int) (d : Nat) : ∀ (i : Nat) (o : List Int), o.length ≤ 128 → (thrOut ys d i o).length ≤ 128 := by
  induction d with
  | zero => intro i o h; exact h
  | succ d ih =>
    intro i o h
    refine ih _ _ ?_
    have h1 := thrGo_len i ys.length 0 [1] 1 (by simp)
    refine Nat.le_trans (yAdd_len _ _) ?_
    rw [yScale_len]
    omega
theorem yThrough_len (ys : List Int) : (yThrough ys).length ≤ 128 := by
  unfold yThrough
  split
  · simp
  · exact thrOut_len _ _ _ _ (by simp)
theorem negS {j : Nat} (h : j ≤ 100) : wr .i64 (subI 0 (wr .i64 (addI (j : Int) 1))) = -((j : Int) + 1) := by rw [addI_d, wr64 (n := (j : Int) + 1) (by omega), subI_d, wr64 (by omega)]; omega
theorem subS_ {i j : Nat} (hi : i ≤ 100) (hj : j ≤ 100) : wr .i64 (subI (i : Int) (j : Int)) = (i : Int) - (j : Int) := by rw [subI_d, wr64 (by omega)]
theorem spec_thr_in (ys : List Int) (hy : ys.length ≤ 16) (i : Nat) (hi : i < ys.length) (out : List Int) (ho : out.length ≤ 128) (R : List AV) (d : Nat) : ∀ (j : Nat) (o : List Int) (b : Int), j + d = ys.length → o.length ≤ 128 →
    Ev (fun k m _ _ => L_spec_PolyThrough_0 k m ((i + 1 : Nat) : Int) ys.length (ys.flatMap eI) (yAdd out (yScale (thrGo i d j o b).1 (ys.getD i 0 * scInv (thrGo i d j o b).2 % 1009))).length ((yAdd out (yScale (thrGo i d j o b).1 (ys.getD i 0 * scInv (thrGo i d j o b).2 % 1009))).flatMap eI)) R →
    Ev (fun k m p _ => L_spec_PolyThrough_1 k m p (i : Int) ys.length (ys.flatMap eI) out.length (j : Int) b o.length (out.flatMap eI) (o.flatMap eI)) R := by
  induction d with
  | zero =>
    intro j o b hj hl he
    refine Ev.step (fun k m p _ => L_spec_PolyThrough_1_s k m p _ _ _ _ _ _ _ _ _) (Ev.f (ltI_f (by rw [lenI_c]; omega)) (Ev.g (inR_n hi) ?_))
    rw [ei hi, cut_all eI_len, cut_all eI_len]
    refine Ev.g rfl (Ev.c (spec_ScInv_ev b) (Ev.c (spec_ScMul_ev _ _) (Ev.c (spec_l14Scale_ev o _ (by omega)) (Ev.g (plainI _) ?_))))
    simp only [hdV_c, tlV_c, parts1_a, asInt_i, asBool_b, asStr_s, asLen_f, asCells_f, cut_all eI_len]
    refine Ev.c (spec_PolyAdd_ev out _ (by omega) (by rw [yScale_len]; omega)) (Ev.g (plainI _) ?_)
    simp only [hdV_c, tlV_c, parts1_a, asInt_i, asBool_b, asStr_s, asLen_f, asCells_f, wrS (show i < 9223372036854775807 by omega)]
    rw [thrGo, getD_i hi] at he
    exact he.o1
  | succ d ih =>
    intro j o b hj hl he
    refine Ev.step (fun k m p _ => L_spec_PolyThrough_1_s k m p _ _ _ _ _ _ _ _ _) (Ev.t (ltI_t (by rw [lenI_c]; omega)) ?_)
    rw [thrGo] at he
    by_cases c : j = i
    · rw [if_pos c] at he
      refine Ev.f (by rw [eqI_t (by omega)]; rfl) ?_
      rw [wrS (show j < 9223372036854775807 by omega)]
      exact ih (j + 1) o b (by omega) hl he
    · rw [if_neg c] at he
      refine Ev.t (by rw [eqI_f (by omega)]; rfl) ?_
      rw [cut_all eI_len, negS (by omega), subS_ (by omega) (by omega), wrS (show j < 9223372036854775807 by omega)]
      exact Ev.c (spec_PolyMul_ev o [-((j : Int) + 1), 1] (by omega) (by simp)) (Ev.g (plainI _) (Ev.c (spec_ScMul_ev _ _) (ih (j + 1) _ _ (by omega) (yMul_len _ _) he)))
theorem spec_thr_out (ys : List Int) (hy : ys.length ≤ 16) (d : Nat) : ∀ (i : Nat) (out : List Int), i + d = ys.length → out.length ≤ 128 →
    Ev (fun k m _ _ => L_spec_PolyThrough_0 k m (i : Int) ys.length (ys.flatMap eI) out.length (out.flatMap eI)) [.fs (thrOut ys d i out).length ((thrOut ys d i out).flatMap eI)] := by
  induction d with
  | zero =>
    intro i out hi ho
    refine Ev.step (fun k m _ _ => L_spec_PolyThrough_0_s k m _ _ _ _ _) (Ev.f (ltI_f (by rw [lenI_c]; omega)) (Ev.some_ ?_))
    rw [cut_all eI_len]; rfl
  | succ d ih =>
    intro i out hi ho
    have hl : (yAdd out (yScale (thrGo i ys.length 0 [1] 1).1 (ys.getD i 0 * scInv (thrGo i ys.length 0 [1] 1).2 % 1009))).length ≤ 128 := by
      have h1 := thrGo_len i ys.length 0 [1] 1 (by simp)
      refine Nat.le_trans (yAdd_len _ _) ?_
      rw [yScale_len]; omega
    exact Ev.step (fun k m _ _ => L_spec_PolyThrough_0_s k m _ _ _ _ _) (Ev.t (ltI_t (by rw [lenI_c]; omega)) (spec_thr_in ys hy i (by omega) out ho _ ys.length 0 [1] 1 (by omega) (by simp) (ih (i + 1) _ (by omega) hl)).l1)
theorem spec_PolyThrough_ev (ys : List Int) (hl : ys.length ≤ 1000000) : Does cp n_spec_PolyThrough [.fs ys.length (ys.flatMap eI)] [.fs (yThrough ys).length ((yThrough ys).flatMap eI)] := by
  refine Ev.fn (fun k => F_spec_PolyThrough k _ _) ?_
  unfold yThrough
  by_cases h : 16 < ys.length
  · rw [if_pos h]; exact Ev.t (ltI_t (by rw [lenI_c]; omega)) (Ev.now _)
  · rw [if_neg h]; exact Ev.f (ltI_f (by rw [lenI_c]; omega)) (spec_thr_out ys (by omega) ys.length 0 [] (by omega) (by simp)).l0
theorem impl_thr_in (ys : List Int) (hy : ys.length ≤ 16) (i : Nat) (hi : i < ys.length) (out : List Int) (ho : out.length ≤ 128) (R : List AV) (d : Nat) : ∀ (j : Nat) (o : List Int) (b : Int), j + d = ys.length → o.length ≤ 128 →
    Ev (fun k m _ _ => L_impl_PolyThrough_0 k m ys.length (ys.flatMap eI) ys.length (ys.flatMap eI) (lenI ys.length) ((i + 1 : Nat) : Int) (yAdd out (yScale (thrGo i d j o b).1 (ys.getD i 0 * scInv (thrGo i d j o b).2 % 1009))).length ((yAdd out (yScale (thrGo i d j o b).1 (ys.getD i 0 * scInv (thrGo i d j o b).2 % 1009))).flatMap eI)) R →
    Ev (fun k m p _ => L_impl_PolyThrough_1 k m p (i : Int) ys.length (ys.flatMap eI) ys.length (ys.flatMap eI) (lenI ys.length) (i : Int) ys[i] out.length (lenI ys.length) (j : Int) b o.length (out.flatMap eI) (o.flatMap eI)) R := by
  induction d with
  | zero =>
    intro j o b hj hl he
    refine Ev.step (fun k m p _ => L_impl_PolyThrough_1_s k m p _ _ _ _ _ _ _ _ _ _ _ _ _ _ _) (Ev.f (ltI_f (by rw [lenI_c]; omega)) ?_)
    rw [cut_all eI_len, cut_all eI_len]
    refine Ev.c (impl_ScInv_ev b) (Ev.c (impl_ScMul_ev _ _) (Ev.c (impl_scaled_ev o _ (by omega)) (Ev.g (plainI _) ?_)))
    simp only [hdV_c, tlV_c, parts1_a, asInt_i, asBool_b, asStr_s, asLen_f, asCells_f, cut_all eI_len]
    refine Ev.c (impl_PolyAdd_ev out _ (by omega) (by rw [yScale_len]; omega)) (Ev.g (plainI _) ?_)
    simp only [hdV_c, tlV_c, parts1_a, asInt_i, asBool_b, asStr_s, asLen_f, asCells_f, wrS (show i < 9223372036854775807 by omega)]
    rw [thrGo, getD_i hi] at he
    exact he.o1
  | succ d ih =>
    intro j o b hj hl he
    refine Ev.step (fun k m p _ => L_impl_PolyThrough_1_s k m p _ _ _ _ _ _ _ _ _ _ _ _ _ _ _) (Ev.t (ltI_t (by rw [lenI_c]; omega)) ?_)
    rw [thrGo] at he
    by_cases c : j = i
    · rw [if_pos c] at he
      refine Ev.f (by rw [eqI_t (by omega)]; rfl) ?_
      rw [wrS (show j < 9223372036854775807 by omega)]
      exact ih (j + 1) o b (by omega) hl he
    · rw [if_neg c] at he
      refine Ev.t (by rw [eqI_f (by omega)]; rfl) ?_
      rw [cut_all eI_len, negS (by omega), subS_ (by omega) (by omega), wrS (show j < 9223372036854775807 by omega)]
      exact Ev.c (impl_PolyMul_ev o [-((j : Int) + 1), 1] (by omega) (by simp)) (Ev.g (plainI _) (Ev.c (impl_ScMul_ev _ _) (ih (j + 1) _ _ (by omega) (yMul_len _ _) he)))
theorem impl_thr_out (ys : List Int) (hy : ys.length ≤ 16) (d : Nat) : ∀ (i : Nat) (out : List Int), i + d = ys.length → out.length ≤ 128 →
    Ev (fun k m _ _ => L_impl_PolyThrough_0 k m ys.length (ys.flatMap eI) ys.length (ys.flatMap eI) (lenI ys.length) (i : Int) out.length (out.flatMap eI)) [.fs (thrOut ys d i out).length ((thrOut ys d i out).flatMap eI)] := by
  induction d with
  | zero =>
    intro i out hi ho
    refine Ev.step (fun k m _ _ => L_impl_PolyThrough_0_s k m _ _ _ _ _ _ _ _) (Ev.f (ltI_f (by rw [lenI_c]; omega)) (Ev.some_ ?_))
    rw [cut_all eI_len]; rfl
  | succ d ih =>
    intro i out hi ho
    have hi' : i < ys.length := by omega
    have hl : (yAdd out (yScale (thrGo i ys.length 0 [1] 1).1 (ys.getD i 0 * scInv (thrGo i ys.length 0 [1] 1).2 % 1009))).length ≤ 128 := by
      have h1 := thrGo_len i ys.length 0 [1] 1 (by simp)
      refine Nat.le_trans (yAdd_len _ _) ?_
      rw [yScale_len]; omega
    refine Ev.step (fun k m _ _ => L_impl_PolyThrough_0_s k m _ _ _ _ _ _ _ _) (Ev.t (ltI_t (by rw [lenI_c]; omega)) (Ev.g (inR_n hi') ?_))
    rw [ei hi']
    exact Ev.g rfl (impl_thr_in ys hy i (by omega) out ho _ ys.length 0 [1] 1 (by omega) (by simp) (ih (i + 1) _ (by omega) hl)).l1
theorem impl_PolyThrough_ev (ys : List Int) (hl : ys.length ≤ 1000000) : Does cp n_impl_PolyThrough [.fs ys.length (ys.flatMap eI)] [.fs (yThrough ys).length ((yThrough ys).flatMap eI)] := by
  refine Ev.fn (fun k => F_impl_PolyThrough k _ _) ?_
  unfold yThrough
  by_cases h : 16 < ys.length
  · rw [if_pos h]; exact Ev.t (ltI_t (by rw [lenI_c]; omega)) (Ev.now _)
  · rw [if_neg h]; exact Ev.f (ltI_f (by rw [lenI_c]; omega)) (impl_thr_out ys (by omega) ys.length 0 [] (by omega) (by simp)).l0


/-- A Row. -/
abbrev TRow := (List Int) × (List Int) × (List Int)
def eRow (x : TRow) : List AV := [.fs x.1.length (x.1.flatMap eI), .fs x.2.1.length (x.2.1.flatMap eI), .fs x.2.2.length (x.2.2.flatMap eI)]
theorem eRow_len (x : TRow) : (eRow x).length = 3 := rfl
def bigRow (x : TRow) : Prop := (x.1.length ≤ 9223372036854775807) ∧ (x.2.1.length ≤ 9223372036854775807) ∧ (x.2.2.length ≤ 9223372036854775807)
def smRow (x : TRow) : Prop := (x.1.length ≤ 1048576) ∧ (x.2.1.length ≤ 1048576) ∧ (x.2.2.length ≤ 1048576)
def lenRow (x : TRow) : Prop := (x.1.length ≤ 1048576) ∧ (x.2.1.length ≤ 1048576) ∧ (x.2.2.length ≤ 1048576)


def allSc (ns : List Int) : Bool := ns.all fun n => decide (0 ≤ n ∧ n ≤ 1008)
theorem allSc_drop (ns : List Int) (i : Nat) (h : i < ns.length) : allSc (ns.drop i) = (decide (0 ≤ ns[i] ∧ ns[i] ≤ 1008) && allSc (ns.drop (i + 1))) := by
  unfold allSc
  rw [List.drop_eq_getElem_cons h, List.all_cons]
theorem spec_l13Wide_l (ns : List Int) (w : Int) (hb : ns.length ≤ 1048576) (d : Nat) : ∀ i : Nat, i + d = ns.length →
    Ev (fun k m _ _ => L_spec_l13Wide_0 k m ns.length (ns.flatMap eI) w (i : Int)) [.bool (allSc (ns.drop i) && decide ((ns.length : Int) = w))] := by
  induction d with
  | zero =>
    intro i hi
    rw [List.drop_eq_nil_of_le (by omega)]
    exact Ev.step (fun k m _ _ => L_spec_l13Wide_0_s k m _ _ _ _) (Ev.f (ltI_f (by rw [lenI_c]; omega)) (Ev.some_ (by rw [eqI_d, lenI_c]; rfl)))
  | succ d ih =>
    intro i hi
    have hi' : i < ns.length := by omega
    refine Ev.step (fun k m _ _ => L_spec_l13Wide_0_s k m _ _ _ _) (Ev.t (ltI_t (by rw [lenI_c]; omega)) (Ev.g (inR_n hi') ?_))
    rw [allSc_drop ns i hi', Bool.and_assoc]
    simp only [ei hi', hdV_c, tlV_c, parts1_a, asInt_i, asBool_b, asStr_s, asLen_f, asCells_f, wrS (show i < 9223372036854775807 by omega)]
    exact Ev.g rfl (Ev.c (spec_l01In_ev _ 0 1008) (Ev.an fun _ => ih (i + 1) (by omega)))
theorem spec_l13Wide_ev (ns : List Int) (w : Int) (hb : ns.length ≤ 1048576) : Does cp n_spec_l13Wide [.fs ns.length (ns.flatMap eI), .int .i64 w] [.bool (allSc ns && decide ((ns.length : Int) = w))] :=
  Ev.fn (fun k => F_spec_l13Wide k _ _ _) (spec_l13Wide_l ns w hb ns.length 0 (by omega)).l0
theorem impl_isScalar_ev (n : Int) : Does cp n_impl_isScalar [.int .i64 n] [.bool (decide (0 ≤ n ∧ n ≤ 1008))] := by
  refine Ev.fn (fun k => F_impl_isScalar k n) (Ev.b (fun h => Ev.some_ ?_) (fun h => Ev.some_ ?_))
  · have := leI_to h
    rw [ltI_d]
    congr 2
    exact decide_eq_decide.2 ⟨fun q => ⟨this, by omega⟩, fun q => by omega⟩
  · have := leI_fo h
    rw [decide_eq_false (by omega)]
theorem impl_areScalars_l (ns : List Int) (hb : ns.length ≤ 1048576) (d : Nat) : ∀ i : Nat, i + d = ns.length →
    Ev (fun k m _ _ => L_impl_areScalars_0 k m ns.length (ns.flatMap eI) (lenI ns.length) (i : Int)) [.bool (allSc (ns.drop i))] := by
  induction d with
  | zero =>
    intro i hi
    rw [List.drop_eq_nil_of_le (by omega)]
    exact Ev.step (fun k m _ _ => L_impl_areScalars_0_s k m _ _ _ _) (Ev.f (ltI_f (by rw [lenI_c]; omega)) (Ev.now _))
  | succ d ih =>
    intro i hi
    have hi' : i < ns.length := by omega
    refine Ev.step (fun k m _ _ => L_impl_areScalars_0_s k m _ _ _ _) (Ev.t (ltI_t (by rw [lenI_c]; omega)) (Ev.g (inR_n hi') ?_))
    rw [allSc_drop ns i hi']
    simp only [ei hi', hdV_c, tlV_c, parts1_a, asInt_i, asBool_b, asStr_s, asLen_f, asCells_f, wrS (show i < 9223372036854775807 by omega)]
    exact Ev.g rfl (Ev.c (impl_isScalar_ev _) (Ev.an fun _ => ih (i + 1) (by omega)))
theorem impl_areScalars_ev (ns : List Int) (hb : ns.length ≤ 1048576) : Does cp n_impl_areScalars [.fs ns.length (ns.flatMap eI)] [.bool (allSc ns)] :=
  Ev.fn (fun k => F_impl_areScalars k _ _) (impl_areScalars_l ns hb ns.length 0 (by omega)).l0
def wideL (w : Int) (l : List Int) : Bool := allSc l && decide ((l.length : Int) = w)
def rowWide (w : Int) (r : TRow) : Bool := wideL w r.1 && (wideL w r.2.1 && wideL w r.2.2)
def sysOk (w p : Int) (rows : List TRow) : Bool := decide (1 ≤ w ∧ w ≤ 20) && (decide (0 ≤ p ∧ p ≤ w - 1) && (decide (1 ≤ rows.length ∧ rows.length ≤ 16) && rows.all (rowWide w)))
theorem ri0 {xs : List TRow} {i : Nat} (hi : i < xs.length) : cellAt (xs.flatMap eRow) (mulN (natI (i : Int)) 3) = .fs (xs[i]).1.length ((xs[i]).1.flatMap eI) := cell_enc0 eRow_len hi (by decide)
theorem ri1 {xs : List TRow} {i : Nat} (hi : i < xs.length) : cellAt (xs.flatMap eRow) (addN (mulN (natI (i : Int)) 3) 1) = .fs (xs[i]).2.1.length ((xs[i]).2.1.flatMap eI) := cell_enc eRow_len hi 1 (by decide)
theorem ri2 {xs : List TRow} {i : Nat} (hi : i < xs.length) : cellAt (xs.flatMap eRow) (addN (mulN (natI (i : Int)) 3) 2) = .fs (xs[i]).2.2.length ((xs[i]).2.2.flatMap eI) := cell_enc eRow_len hi 2 (by decide)
theorem spec_SystemOk_l (w p : Int) (rows : List TRow) (hb : rows.length ≤ 1048576) (hr : ∀ y ∈ rows, lenRow y) (d : Nat) : ∀ i : Nat, i + d = rows.length →
    Ev (fun k m _ _ => L_spec_SystemOk_0 k m (i : Int) w p rows.length (rows.flatMap eRow)) [.bool ((rows.drop i).all (rowWide w))] := by
  induction d with
  | zero =>
    intro i hi
    rw [List.drop_eq_nil_of_le (by omega)]
    exact Ev.step (fun k m _ _ => L_spec_SystemOk_0_s k m _ _ _ _ _) (Ev.f (ltI_f (by rw [lenI_c]; omega)) (Ev.now _))
  | succ d ih =>
    intro i hi
    have hi' : i < rows.length := by omega
    have hx := hr _ (List.getElem_mem hi')
    refine Ev.step (fun k m _ _ => L_spec_SystemOk_0_s k m _ _ _ _ _) (Ev.t (ltI_t (by rw [lenI_c]; omega)) (Ev.g (inR_n hi') ?_))
    rw [List.drop_eq_getElem_cons hi', List.all_cons, rowWide, Bool.and_assoc, Bool.and_assoc]
    simp only [ri0 hi', ri1 hi', ri2 hi', hdV_c, tlV_c, parts1_a, asInt_i, asBool_b, asStr_s, asLen_f, asCells_f, wrS (show i < 9223372036854775807 by omega)]
    exact Ev.g rfl (Ev.c (spec_l13Wide_ev _ w hx.1) (Ev.an fun _ => Ev.g (inR_n hi') (Ev.g rfl (Ev.c (spec_l13Wide_ev _ w hx.2.1) (Ev.an fun _ => Ev.g (inR_n hi') (Ev.g rfl (Ev.c (spec_l13Wide_ev _ w hx.2.2) (Ev.an fun _ => ih (i + 1) (by omega)))))))))
theorem spec_SystemOk_ev (w p : Int) (rows : List TRow) (hb : rows.length ≤ 1048576) (hr : ∀ y ∈ rows, lenRow y) : Does cp n_spec_SystemOk [.agg [.int .i64 w, .int .i64 p, .fs rows.length (rows.flatMap eRow)]] [.bool (sysOk w p rows)] := by
  refine Ev.fn (fun k => F_spec_SystemOk k _ _ _ _) (Ev.c (spec_l01In_ev w 1 20) (Ev.an fun h => ?_))
  have h := of_decide_eq_true h
  have e : wr .i64 (subI w 1) = w - 1 := by rw [subI_d, wr64 (by omega)]
  rw [e]
  refine Ev.c (spec_l01In_ev p 0 (w - 1)) (Ev.an fun _ => ?_)
  have en : decide ((1 : Int) ≤ (rows.length : Int) ∧ (rows.length : Int) ≤ 16) = decide (1 ≤ rows.length ∧ rows.length ≤ 16) := decide_eq_decide.2 ⟨fun q => by omega, fun q => by omega⟩
  rw [← en]
  exact Ev.c (spec_l01In_ev (rows.length : Int) 1 16) (Ev.an fun _ => (spec_SystemOk_l w p rows hb hr rows.length 0 (by omega)).l0)
def eL (l : List Int) : List AV := [.fs l.length (l.flatMap eI)]
theorem eL_len (l : List Int) : (eL l).length = 1 := rfl
theorem eli {xs : List (List Int)} {i : Nat} (hi : i < xs.length) : cellAt (xs.flatMap eL) (mulN (natI (i : Int)) 1) = .fs (xs[i]).length ((xs[i]).flatMap eI) := cell_enc0 eL_len hi (by decide)
theorem impl_SystemOk_l1 (w p : Int) (rows : List TRow) (i : Int) (ls : List (List Int)) (hl : ls.length ≤ 3) (hs : ∀ l ∈ ls, l.length ≤ 1048576) (r : Bool)
    (hn : Ev (fun k m _ _ => L_impl_SystemOk_0 k m rows.length (rows.flatMap eRow) (lenI rows.length) (wr .i64 (addI i 1)) w p rows.length (rows.flatMap eRow)) [.bool r]) (d : Nat) : ∀ j : Nat, j + d = ls.length →
    Ev (fun k m q _ => L_impl_SystemOk_1 k m q ls.length rows.length (rows.flatMap eRow) (lenI rows.length) i (ls.length : Int) (j : Int) w p rows.length (rows.flatMap eRow) (ls.flatMap eL)) [.bool ((ls.drop j).all (wideL w) && r)] := by
  induction d with
  | zero =>
    intro j hj
    rw [List.drop_eq_nil_of_le (by omega), List.all_nil, Bool.true_and]
    exact Ev.step (fun k m q _ => L_impl_SystemOk_1_s k m q _ _ _ _ _ _ _ _ _ _ _ _) (Ev.f (ltI_f (by omega)) hn.o1)
  | succ d ih =>
    intro j hj
    have hj' : j < ls.length := by omega
    refine Ev.step (fun k m q _ => L_impl_SystemOk_1_s k m q _ _ _ _ _ _ _ _ _ _ _ _) (Ev.t (ltI_t (by omega)) (Ev.g (inR_n hj') ?_))
    rw [addN00, eli hj', List.drop_eq_getElem_cons hj', List.all_cons, wideL]
    simp only [hdV_c, tlV_c, parts1_a, asInt_i, asBool_b, asStr_s, asLen_f, asCells_f, wrS (show j < 9223372036854775807 by omega), lenI_c]
    refine Ev.g rfl ?_
    by_cases c : ((ls[j]).length : Int) = w
    · refine Ev.f (by rw [eqI_t c]; rfl) (Ev.c (impl_areScalars_ev _ (hs _ (List.getElem_mem hj'))) ?_)
      rw [decide_eq_true c, Bool.and_true, Bool.and_assoc]
      exact Ev.an fun _ => ih (j + 1) (by omega)
    · refine Ev.t (by rw [eqI_f c]; rfl) (Ev.some_ ?_)
      rw [decide_eq_false c]
      simp
theorem impl_SystemOk_l (w p : Int) (rows : List TRow) (hb : rows.length ≤ 1048576) (hr : ∀ y ∈ rows, lenRow y) (d : Nat) : ∀ i : Nat, i + d = rows.length →
    Ev (fun k m _ _ => L_impl_SystemOk_0 k m rows.length (rows.flatMap eRow) (lenI rows.length) (i : Int) w p rows.length (rows.flatMap eRow)) [.bool ((rows.drop i).all (rowWide w))] := by
  induction d with
  | zero =>
    intro i hi
    rw [List.drop_eq_nil_of_le (by omega)]
    exact Ev.step (fun k m _ _ => L_impl_SystemOk_0_s k m _ _ _ _ _ _ _ _) (Ev.f (ltI_f (by rw [lenI_c]; omega)) (Ev.now _))
  | succ d ih =>
    intro i hi
    have hi' : i < rows.length := by omega
    obtain ⟨x1, x2, x3⟩ := hr _ (List.getElem_mem hi')
    have hn := ih (i + 1) (by omega)
    rw [← wrS (show i < 9223372036854775807 by omega)] at hn
    refine Ev.step (fun k m _ _ => L_impl_SystemOk_0_s k m _ _ _ _ _ _ _ _) (Ev.t (ltI_t (by rw [lenI_c]; omega)) (Ev.g (inR_n hi') ?_))
    rw [List.drop_eq_getElem_cons hi', List.all_cons, ri0 hi', ri1 hi', ri2 hi']
    have := impl_SystemOk_l1 w p rows (i : Int) [(rows[i]).1, (rows[i]).2.1, (rows[i]).2.2] (by simp) (fun l hl => by
      simp only [List.mem_cons, List.not_mem_nil, or_false] at hl
      rcases hl with rfl | rfl | rfl <;> assumption) _ hn 3 0 (by simp)
    refine Ev.g rfl (this.l1.to ?_)
    simp only [List.drop_zero, List.all_cons, List.all_nil, Bool.and_true, rowWide]
theorem impl_SystemOk_ev (w p : Int) (rows : List TRow) (hb : rows.length ≤ 1048576) (hr : ∀ y ∈ rows, lenRow y) : Does cp n_impl_SystemOk [.agg [.int .i64 w, .int .i64 p, .fs rows.length (rows.flatMap eRow)]] [.bool (sysOk w p rows)] := by
  refine Ev.fn (fun k => F_impl_SystemOk k _ _ _ _) ?_
  unfold sysOk
  by_cases c0 : w < 1
  · exact Ev.t (ltI_t c0) (Ev.some_ (by rw [decide_eq_false (by omega)]; rfl))
  refine Ev.f (ltI_f c0) ?_
  by_cases c1 : 20 < w
  · exact Ev.t (ltI_t c1) (Ev.some_ (by rw [decide_eq_false (by omega)]; rfl))
  refine Ev.f (ltI_f c1) ?_
  rw [decide_eq_true (show 1 ≤ w ∧ w ≤ 20 by omega), Bool.true_and]
  by_cases c2 : p < 0
  · exact Ev.t (ltI_t c2) (Ev.some_ (by rw [decide_eq_false (by omega)]; rfl))
  refine Ev.f (ltI_f c2) ?_
  have e : wr .i64 (subI w 1) = w - 1 := by rw [subI_d, wr64 (by omega)]
  rw [e]
  by_cases c3 : w - 1 < p
  · exact Ev.t (ltI_t c3) (Ev.some_ (by rw [decide_eq_false (by omega)]; rfl))
  refine Ev.f (ltI_f c3) ?_
  rw [decide_eq_true (show 0 ≤ p ∧ p ≤ w - 1 by omega), Bool.true_and]
  by_cases c4 : (rows.length : Int) < 1
  · exact Ev.t (ltI_t c4) (Ev.some_ (by rw [decide_eq_false (by omega)]; rfl))
  refine Ev.f (ltI_f c4) ?_
  by_cases c5 : 16 < (rows.length : Int)
  · exact Ev.t (ltI_t c5) (Ev.some_ (by rw [decide_eq_false (by omega)]; rfl))
  refine Ev.f (ltI_f c5) ?_
  rw [decide_eq_true (show 1 ≤ rows.length ∧ rows.length ≤ 16 by omega), Bool.true_and]
  exact (impl_SystemOk_l w p rows hb hr rows.length 0 (by omega)).l0


def colA (rows : List TRow) (j : Nat) : List Int := rows.map fun r => r.1.getD j 0
def colB (rows : List TRow) (j : Nat) : List Int := rows.map fun r => r.2.1.getD j 0
def colC (rows : List TRow) (j : Nat) : List Int := rows.map fun r => r.2.2.getD j 0
def qU (rows : List TRow) (n : Nat) : List (List Int) := (List.range n).map fun j => yThrough (colA rows j)
def qV (rows : List TRow) (n : Nat) : List (List Int) := (List.range n).map fun j => yThrough (colB rows j)
def qW (rows : List TRow) (n : Nat) : List (List Int) := (List.range n).map fun j => yThrough (colC rows j)
theorem range_next (f : Nat → List Int) (n : Nat) : (List.range n).map f ++ [f n] = (List.range (n + 1)).map f := by rw [List.range_succ, List.map_append]; rfl
theorem col_next (rows : List TRow) (f : TRow → Int) (i : Nat) (h : i < rows.length) : (rows.take i).map f ++ [f rows[i]] = (rows.take (i + 1)).map f := by rw [← take_next rows i h, List.map_append]; rfl
theorem catL (xs : List (List Int)) (l : List Int) : catC (cutC (xs.flatMap eL) 0 (mulN xs.length 1)) (cutC [.fs l.length (cutC (l.flatMap eI) 0 (mulN l.length 1))] 0 1) = (xs ++ [l]).flatMap eL := by rw [cut_all eL_len, cut_all eI_len, List.flatMap_append]; rfl
theorem addN1L (xs : List (List Int)) (l : List Int) : addN xs.length 1 = (xs ++ [l]).length := by rw [List.length_append]; rfl
/-- Rows that have a number for each wire. -/
def rowsN (rows : List TRow) (n : Nat) : Prop := ∀ r ∈ rows, r.1.length = n ∧ r.2.1.length = n ∧ r.2.2.length = n
theorem getD_e {l : List Int} {i : Nat} (h : i < l.length) : l[i] = l.getD i 0 := (getD_i h).symm
theorem spec_qap_in (rows : List TRow) (n : Nat) (hn : n ≤ 20) (hl : rows.length ≤ 16) (hr : rowsN rows n) (p : Int) (j : Nat) (hj : j < n) (u v w : List (List Int)) (hu : u.length = j) (hv : v.length = j) (hw : w.length = j) (R : List AV)
    (he : Ev (fun k m _ _ => L_spec_QapOf_0 k m ((j + 1 : Nat) : Int) (n : Int) p rows.length (rows.flatMap eRow) (u ++ [yThrough (colA rows j)]).length (v ++ [yThrough (colB rows j)]).length (w ++ [yThrough (colC rows j)]).length 0 0 0 ((u ++ [yThrough (colA rows j)]).flatMap eL) ((v ++ [yThrough (colB rows j)]).flatMap eL) ((w ++ [yThrough (colC rows j)]).flatMap eL) [] [] []) R) (d : Nat) : ∀ i : Nat, i + d = rows.length →
    Ev (fun k m q _ => L_spec_QapOf_1 k m q (j : Int) (i : Int) ((rows.take i).map fun r => r.2.2.getD j 0).length ((rows.take i).map fun r => r.2.1.getD j 0).length ((rows.take i).map fun r => r.1.getD j 0).length (n : Int) p rows.length (rows.flatMap eRow) u.length v.length w.length 0 0 0 (((rows.take i).map fun r => r.2.2.getD j 0).flatMap eI) (((rows.take i).map fun r => r.2.1.getD j 0).flatMap eI) (((rows.take i).map fun r => r.1.getD j 0).flatMap eI) (u.flatMap eL) (v.flatMap eL) (w.flatMap eL) [] [] []) R := by
  induction d with
  | zero =>
    intro i hi
    rw [List.take_of_length_le (by omega)]
    have la : (colA rows j).length = rows.length := by simp [colA]
    have lb : (colB rows j).length = rows.length := by simp [colB]
    have lc : (colC rows j).length = rows.length := by simp [colC]
    refine Ev.step (fun k m q _ => L_spec_QapOf_1_s k m q _ _ _ _ _ _ _ _ _ _ _ _ _ _ _ _ _ _ _ _ _ _ _ _) (Ev.f (ltI_f (by rw [lenI_c]; omega)) ?_)
    rw [cut_all eI_len, cut_all eI_len, cut_all eI_len]
    refine Ev.c (spec_PolyThrough_ev (colA rows j) (by omega)) (Ev.g (plainI _) (Ev.g (fitN_small (by rw [addN_d]; omega) (by decide)) (Ev.c (spec_PolyThrough_ev (colB rows j) (by omega)) (Ev.g (plainI _) (Ev.g (fitN_small (by rw [addN_d]; omega) (by decide)) (Ev.c (spec_PolyThrough_ev (colC rows j) (by omega)) (Ev.g (plainI _) (Ev.g (fitN_small (by rw [addN_d]; omega) (by decide)) ?_))))))))
    simp only [hdV_c, tlV_c, parts1_a, asInt_i, asBool_b, asStr_s, asLen_f, asCells_f, wrS (show j < 9223372036854775807 by omega)]
    rw [catL, catL, catL, addN1L u (yThrough (colA rows j)), addN1L v (yThrough (colB rows j)), addN1L w (yThrough (colC rows j))]
    exact he.o1
  | succ d ih =>
    intro i hi
    have hi' : i < rows.length := by omega
    obtain ⟨h1, h2, h3⟩ := hr _ (List.getElem_mem hi')
    have j1 : j < (rows[i]).1.length := by omega
    have j2 : j < (rows[i]).2.1.length := by omega
    have j3 : j < (rows[i]).2.2.length := by omega
    have ll : ∀ f : TRow → Int, ((rows.take i).map f).length = i := fun f => by rw [List.length_map, List.length_take]; omega
    refine Ev.step (fun k m q _ => L_spec_QapOf_1_s k m q _ _ _ _ _ _ _ _ _ _ _ _ _ _ _ _ _ _ _ _ _ _ _ _) (Ev.t (ltI_t (by rw [lenI_c]; omega)) ?_)
    rw [ri0 hi', ri1 hi', ri2 hi']
    simp only [hdV_c, tlV_c, parts1_a, asInt_i, asBool_b, asStr_s, asLen_f, asCells_f, ei j1, ei j2, ei j3, wrS (show i < 9223372036854775807 by omega)]
    refine Ev.g (inR_n hi') (Ev.g rfl (Ev.g (inR_n j1) (Ev.g rfl (Ev.g (fitN_small (by rw [addN_d, ll]; omega) (by decide)) (Ev.g (inR_n hi') (Ev.g rfl (Ev.g (inR_n j2) (Ev.g rfl (Ev.g (fitN_small (by rw [addN_d, ll]; omega) (by decide)) (Ev.g (inR_n hi') (Ev.g rfl (Ev.g (inR_n j3) (Ev.g rfl (Ev.g (fitN_small (by rw [addN_d, ll]; omega) (by decide)) ?_))))))))))))))
    rw [catE, catE, catE, addN1 ((rows.take i).map fun r => r.1.getD j 0) (rows[i]).1[j], addN1 ((rows.take i).map fun r => r.2.1.getD j 0) (rows[i]).2.1[j], addN1 ((rows.take i).map fun r => r.2.2.getD j 0) (rows[i]).2.2[j], getD_e j1, getD_e j2, getD_e j3, col_next rows (fun r => r.1.getD j 0) i hi', col_next rows (fun r => r.2.1.getD j 0) i hi', col_next rows (fun r => r.2.2.getD j 0) i hi']
    exact ih (i + 1) (by omega)
theorem spec_qap_out (rows : List TRow) (n : Nat) (hn : n ≤ 20) (hl : rows.length ≤ 16) (hr : rowsN rows n) (p : Int) (d : Nat) : ∀ j : Nat, j + d = n →
    Ev (fun k m _ _ => L_spec_QapOf_0 k m (j : Int) (n : Int) p rows.length (rows.flatMap eRow) (qU rows j).length (qV rows j).length (qW rows j).length 0 0 0 ((qU rows j).flatMap eL) ((qV rows j).flatMap eL) ((qW rows j).flatMap eL) [] [] []) [.agg [.fs (qU rows n).length ((qU rows n).flatMap eL), .fs (qV rows n).length ((qV rows n).flatMap eL), .fs (qW rows n).length ((qW rows n).flatMap eL)], .bool true] := by
  induction d with
  | zero =>
    intro j hj
    obtain rfl : j = n := by omega
    refine Ev.step (fun k m _ _ => L_spec_QapOf_0_s k m _ _ _ _ _ _ _ _ _ _ _ _ _ _ _ _ _) (Ev.f (ltI_f (by omega)) (Ev.some_ ?_))
    rw [cut_all eL_len, cut_all eL_len, cut_all eL_len]
  | succ d ih =>
    intro j hj
    have := ih (j + 1) (by omega)
    have e1 : qU rows (j + 1) = qU rows j ++ [yThrough (colA rows j)] := (range_next _ j).symm
    have e2 : qV rows (j + 1) = qV rows j ++ [yThrough (colB rows j)] := (range_next _ j).symm
    have e3 : qW rows (j + 1) = qW rows j ++ [yThrough (colC rows j)] := (range_next _ j).symm
    rw [e1, e2, e3] at this
    exact Ev.step (fun k m _ _ => L_spec_QapOf_0_s k m _ _ _ _ _ _ _ _ _ _ _ _ _ _ _ _ _) (Ev.t (ltI_t (by omega)) (spec_qap_in rows n hn hl hr p j (by omega) _ _ _ (by simp [qU]) (by simp [qV]) (by simp [qW]) _ this rows.length 0 (by omega)).l1)
theorem impl_qap_in (rows : List TRow) (n : Nat) (hn : n ≤ 20) (hl : rows.length ≤ 16) (hr : rowsN rows n) (p : Int) (j : Nat) (hj : j < n) (u v w : List (List Int)) (hu : u.length = j) (hv : v.length = j) (hw : w.length = j) (R : List AV)
    (he : Ev (fun k m _ _ => L_impl_QapOf_0 k m (n : Int) ((j + 1 : Nat) : Int) (u ++ [yThrough (colA rows j)]).length (v ++ [yThrough (colB rows j)]).length (w ++ [yThrough (colC rows j)]).length (n : Int) p rows.length (rows.flatMap eRow) 0 0 0 ((u ++ [yThrough (colA rows j)]).flatMap eL) ((v ++ [yThrough (colB rows j)]).flatMap eL) ((w ++ [yThrough (colC rows j)]).flatMap eL) [] [] []) R) (d : Nat) : ∀ i : Nat, i + d = rows.length →
    Ev (fun k m q _ => L_impl_QapOf_1 k m q (j : Int) rows.length (rows.flatMap eRow) (n : Int) (j : Int) (lenI rows.length) (i : Int) ((rows.take i).map fun r => r.2.2.getD j 0).length ((rows.take i).map fun r => r.2.1.getD j 0).length ((rows.take i).map fun r => r.1.getD j 0).length u.length v.length w.length (n : Int) p rows.length (rows.flatMap eRow) 0 0 0 (((rows.take i).map fun r => r.2.2.getD j 0).flatMap eI) (((rows.take i).map fun r => r.2.1.getD j 0).flatMap eI) (((rows.take i).map fun r => r.1.getD j 0).flatMap eI) (u.flatMap eL) (v.flatMap eL) (w.flatMap eL) [] [] []) R := by
  induction d with
  | zero =>
    intro i hi
    rw [List.take_of_length_le (by omega)]
    have la : (colA rows j).length = rows.length := by simp [colA]
    have lb : (colB rows j).length = rows.length := by simp [colB]
    have lc : (colC rows j).length = rows.length := by simp [colC]
    refine Ev.step (fun k m q _ => L_impl_QapOf_1_s k m q _ _ _ _ _ _ _ _ _ _ _ _ _ _ _ _ _ _ _ _ _ _ _ _ _ _ _ _ _) (Ev.f (ltI_f (by rw [lenI_c]; omega)) ?_)
    rw [cut_all eI_len, cut_all eI_len, cut_all eI_len]
    refine Ev.c (impl_PolyThrough_ev (colA rows j) (by omega)) (Ev.g (plainI _) (Ev.g (fitN_small (by rw [addN_d]; omega) (by decide)) (Ev.c (impl_PolyThrough_ev (colB rows j) (by omega)) (Ev.g (plainI _) (Ev.g (fitN_small (by rw [addN_d]; omega) (by decide)) (Ev.c (impl_PolyThrough_ev (colC rows j) (by omega)) (Ev.g (plainI _) (Ev.g (fitN_small (by rw [addN_d]; omega) (by decide)) ?_))))))))
    simp only [hdV_c, tlV_c, parts1_a, asInt_i, asBool_b, asStr_s, asLen_f, asCells_f, wrS (show j < 9223372036854775807 by omega)]
    rw [catL, catL, catL, addN1L u (yThrough (colA rows j)), addN1L v (yThrough (colB rows j)), addN1L w (yThrough (colC rows j))]
    exact he.o1
  | succ d ih =>
    intro i hi
    have hi' : i < rows.length := by omega
    obtain ⟨h1, h2, h3⟩ := hr _ (List.getElem_mem hi')
    have j1 : j < (rows[i]).1.length := by omega
    have j2 : j < (rows[i]).2.1.length := by omega
    have j3 : j < (rows[i]).2.2.length := by omega
    have ll : ∀ f : TRow → Int, ((rows.take i).map f).length = i := fun f => by rw [List.length_map, List.length_take]; omega
    refine Ev.step (fun k m q _ => L_impl_QapOf_1_s k m q _ _ _ _ _ _ _ _ _ _ _ _ _ _ _ _ _ _ _ _ _ _ _ _ _ _ _ _ _) (Ev.t (ltI_t (by rw [lenI_c]; omega)) ?_)
    rw [ri0 hi', ri1 hi', ri2 hi']
    simp only [hdV_c, tlV_c, parts1_a, asInt_i, asBool_b, asStr_s, asLen_f, asCells_f, ei j1, ei j2, ei j3, wrS (show i < 9223372036854775807 by omega)]
    refine Ev.g (inR_n hi') (Ev.g rfl (Ev.g (inR_n j1) (Ev.g rfl (Ev.g (fitN_small (by rw [addN_d, ll]; omega) (by decide)) (Ev.g (inR_n j2) (Ev.g rfl (Ev.g (fitN_small (by rw [addN_d, ll]; omega) (by decide)) (Ev.g (inR_n j3) (Ev.g rfl (Ev.g (fitN_small (by rw [addN_d, ll]; omega) (by decide)) ?_))))))))))
    rw [catE, catE, catE, addN1 ((rows.take i).map fun r => r.1.getD j 0) (rows[i]).1[j], addN1 ((rows.take i).map fun r => r.2.1.getD j 0) (rows[i]).2.1[j], addN1 ((rows.take i).map fun r => r.2.2.getD j 0) (rows[i]).2.2[j], getD_e j1, getD_e j2, getD_e j3, col_next rows (fun r => r.1.getD j 0) i hi', col_next rows (fun r => r.2.1.getD j 0) i hi', col_next rows (fun r => r.2.2.getD j 0) i hi']
    exact ih (i + 1) (by omega)
theorem impl_qap_out (rows : List TRow) (n : Nat) (hn : n ≤ 20) (hl : rows.length ≤ 16) (hr : rowsN rows n) (p : Int) (d : Nat) : ∀ j : Nat, j + d = n →
    Ev (fun k m _ _ => L_impl_QapOf_0 k m (n : Int) (j : Int) (qU rows j).length (qV rows j).length (qW rows j).length (n : Int) p rows.length (rows.flatMap eRow) 0 0 0 ((qU rows j).flatMap eL) ((qV rows j).flatMap eL) ((qW rows j).flatMap eL) [] [] []) [.agg [.fs (qU rows n).length ((qU rows n).flatMap eL), .fs (qV rows n).length ((qV rows n).flatMap eL), .fs (qW rows n).length ((qW rows n).flatMap eL)], .bool true] := by
  induction d with
  | zero =>
    intro j hj
    obtain rfl : j = n := by omega
    refine Ev.step (fun k m _ _ => L_impl_QapOf_0_s k m _ _ _ _ _ _ _ _ _ _ _ _ _ _ _ _ _ _) (Ev.f (ltI_f (by omega)) (Ev.some_ ?_))
    rw [cut_all eL_len, cut_all eL_len, cut_all eL_len]
  | succ d ih =>
    intro j hj
    have := ih (j + 1) (by omega)
    have e1 : qU rows (j + 1) = qU rows j ++ [yThrough (colA rows j)] := (range_next _ j).symm
    have e2 : qV rows (j + 1) = qV rows j ++ [yThrough (colB rows j)] := (range_next _ j).symm
    have e3 : qW rows (j + 1) = qW rows j ++ [yThrough (colC rows j)] := (range_next _ j).symm
    rw [e1, e2, e3] at this
    exact Ev.step (fun k m _ _ => L_impl_QapOf_0_s k m _ _ _ _ _ _ _ _ _ _ _ _ _ _ _ _ _ _) (Ev.t (ltI_t (by omega)) (impl_qap_in rows n hn hl hr p j (by omega) _ _ _ (by simp [qU]) (by simp [qV]) (by simp [qW]) _ this rows.length 0 (by omega)).l1)
theorem sysOk_rows {w p : Int} {rows : List TRow} (h : sysOk w p rows = true) : (1 ≤ w ∧ w ≤ 20) ∧ (1 ≤ rows.length ∧ rows.length ≤ 16) ∧ rowsN rows w.toNat := by
  unfold sysOk at h
  simp only [Bool.and_eq_true, decide_eq_true_eq, List.all_eq_true] at h
  obtain ⟨h1, _, h2, h3⟩ := h
  refine ⟨h1, h2, fun r hr => ?_⟩
  have := h3 r hr
  unfold rowWide wideL at this
  simp only [Bool.and_eq_true, decide_eq_true_eq] at this
  omega
/-- The three lists of polynomials of a system; none: it is not right. -/
def qapR (w p : Int) (rows : List TRow) : List AV := if sysOk w p rows = true then [.agg [.fs (qU rows w.toNat).length ((qU rows w.toNat).flatMap eL), .fs (qV rows w.toNat).length ((qV rows w.toNat).flatMap eL), .fs (qW rows w.toNat).length ((qW rows w.toNat).flatMap eL)], .bool true] else [.agg [.fs 0 [], .fs 0 [], .fs 0 []], .bool false]
theorem spec_QapOf_ev (w p : Int) (rows : List TRow) (hb : rows.length ≤ 1048576) (hr : ∀ y ∈ rows, lenRow y) : Does cp n_spec_QapOf [.agg [.int .i64 w, .int .i64 p, .fs rows.length (rows.flatMap eRow)]] (qapR w p rows) := by
  refine Ev.fn (fun k => F_spec_QapOf k _ _ _ _) (Ev.c (spec_SystemOk_ev w p rows hb hr) ?_)
  unfold qapR
  by_cases h : sysOk w p rows = true
  · rw [if_pos h]
    obtain ⟨h1, h2, h3⟩ := sysOk_rows h
    refine Ev.f (by show notB (sysOk w p rows) = false; rw [h]; rfl) ?_
    obtain ⟨n, rfl⟩ := Int.eq_ofNat_of_zero_le (show 0 ≤ w by omega)
    exact (spec_qap_out rows n (by omega) h2.2 h3 p n 0 (by omega)).l0
  · rw [if_neg h]
    rw [Bool.not_eq_true] at h
    exact Ev.t (by show notB (sysOk w p rows) = true; rw [h]; rfl) (Ev.now _)
theorem impl_QapOf_ev (w p : Int) (rows : List TRow) (hb : rows.length ≤ 1048576) (hr : ∀ y ∈ rows, lenRow y) : Does cp n_impl_QapOf [.agg [.int .i64 w, .int .i64 p, .fs rows.length (rows.flatMap eRow)]] (qapR w p rows) := by
  refine Ev.fn (fun k => F_impl_QapOf k _ _ _ _) (Ev.c (impl_SystemOk_ev w p rows hb hr) ?_)
  unfold qapR
  by_cases h : sysOk w p rows = true
  · rw [if_pos h]
    obtain ⟨h1, h2, h3⟩ := sysOk_rows h
    refine Ev.f (by show notB (sysOk w p rows) = false; rw [h]; rfl) ?_
    obtain ⟨n, rfl⟩ := Int.eq_ofNat_of_zero_le (show 0 ≤ w by omega)
    exact (impl_qap_out rows n (by omega) h2.2 h3 p n 0 (by omega)).l0
  · rw [if_neg h]
    rw [Bool.not_eq_true] at h
    exact Ev.t (by show notB (sysOk w p rows) = true; rw [h]; rfl) (Ev.now _)
theorem qU_len (rows : List TRow) (n : Nat) : ∀ p ∈ qU rows n, p.length ≤ 128 := by
  intro p hp
  obtain ⟨j, _, rfl⟩ := List.mem_map.1 hp
  exact yThrough_len _
theorem qV_len (rows : List TRow) (n : Nat) : ∀ p ∈ qV rows n, p.length ≤ 128 := by
  intro p hp
  obtain ⟨j, _, rfl⟩ := List.mem_map.1 hp
  exact yThrough_len _
theorem qW_len (rows : List TRow) (n : Nat) : ∀ p ∈ qW rows n, p.length ≤ 128 := by
  intro p hp
  obtain ⟨j, _, rfl⟩ := List.mem_map.1 hp
  exact yThrough_len _
theorem getL {ps : List (List Int)} {i : Nat} (h : i < ps.length) : ps.getD i [] = ps[i] := by simp [List.getD_eq_getElem?_getD, List.getElem?_eq_getElem h]


theorem spec_FpOf_ev (a : Int) : Does cp n_spec_FpOf [.int .i64 a] [.int .i64 (a % 12107)] := by
  refine Ev.fn (fun k => F_spec_FpOf k a) (Ev.b (fun h => Ev.some_ ?_) (fun h => Ev.some_ ?_))
  · rw [addI_d, remI_d, rem_neg (by omega) (by omega) (ltI_to h)]
  · rw [remI_d, rem_pos (by omega) (ltI_fo h)]
theorem impl_remainder_ev (a m : Int) (hm : 0 < m) (hb : m < 9223372036854775807) : Does cp n_impl_remainder [.int .i64 a, .int .i64 m] [.int .i64 (a % m)] := by
  refine Ev.fn (fun k => F_impl_remainder k a m) (Ev.g (by rw [eqI_f (by omega)]; rfl) (Ev.b (fun h => Ev.some_ ?_) (fun h => Ev.some_ ?_)))
  · rw [addI_d, remI_d, rem_neg hm hb (ltI_to h)]
  · rw [remI_d, rem_pos hm (ltI_fo h)]
theorem impl_FpOf_ev (a : Int) : Does cp n_impl_FpOf [.int .i64 a] [.int .i64 (a % 12107)] :=
  Ev.fn (fun k => F_impl_FpOf k a) (Ev.c (impl_remainder_ev a 12107 (by omega) (by omega)) (Ev.now _))
theorem fw_mul (a b : Int) : wr .i64 (mulI (a % 12107) (b % 12107)) % 12107 = a * b % 12107 := by rw [mulI_d, wr_64, fmod_mul]
theorem fw_add (a b : Int) : wr .i64 (addI (a % 12107) (b % 12107)) % 12107 = (a + b) % 12107 := by rw [addI_d, wr_64, fmod_add]
theorem fw_sub (a b : Int) : wr .i64 (subI (a % 12107) (b % 12107)) % 12107 = (a - b) % 12107 := by rw [subI_d, wr_64, fmod_sub]
theorem spec_FpMul_ev (a b : Int) : Does cp n_spec_FpMul [.int .i64 a, .int .i64 b] [.int .i64 (a * b % 12107)] :=
  Ev.fn (fun k => F_spec_FpMul k a b) (Ev.c (spec_FpOf_ev a) (Ev.c (spec_FpOf_ev b) (Ev.c (spec_FpOf_ev _) (Ev.some_ (by simp only [hdV_c, tlV_c, parts1_a, asInt_i, asBool_b, asStr_s, asLen_f, asCells_f, fw_mul])))))
theorem spec_FpAdd_ev (a b : Int) : Does cp n_spec_FpAdd [.int .i64 a, .int .i64 b] [.int .i64 ((a + b) % 12107)] :=
  Ev.fn (fun k => F_spec_FpAdd k a b) (Ev.c (spec_FpOf_ev a) (Ev.c (spec_FpOf_ev b) (Ev.c (spec_FpOf_ev _) (Ev.some_ (by simp only [hdV_c, tlV_c, parts1_a, asInt_i, asBool_b, asStr_s, asLen_f, asCells_f, fw_add])))))
theorem spec_FpSub_ev (a b : Int) : Does cp n_spec_FpSub [.int .i64 a, .int .i64 b] [.int .i64 ((a - b) % 12107)] :=
  Ev.fn (fun k => F_spec_FpSub k a b) (Ev.c (spec_FpOf_ev a) (Ev.c (spec_FpOf_ev b) (Ev.c (spec_FpOf_ev _) (Ev.some_ (by simp only [hdV_c, tlV_c, parts1_a, asInt_i, asBool_b, asStr_s, asLen_f, asCells_f, fw_sub])))))
theorem impl_FpMul_ev (a b : Int) : Does cp n_impl_FpMul [.int .i64 a, .int .i64 b] [.int .i64 (a * b % 12107)] :=
  Ev.fn (fun k => F_impl_FpMul k a b) (Ev.c (impl_FpOf_ev a) (Ev.c (impl_FpOf_ev b) (Ev.c (impl_FpOf_ev _) (Ev.some_ (by simp only [hdV_c, tlV_c, parts1_a, asInt_i, asBool_b, asStr_s, asLen_f, asCells_f, fw_mul])))))
theorem impl_FpAdd_ev (a b : Int) : Does cp n_impl_FpAdd [.int .i64 a, .int .i64 b] [.int .i64 ((a + b) % 12107)] :=
  Ev.fn (fun k => F_impl_FpAdd k a b) (Ev.c (impl_FpOf_ev a) (Ev.c (impl_FpOf_ev b) (Ev.c (impl_FpOf_ev _) (Ev.some_ (by simp only [hdV_c, tlV_c, parts1_a, asInt_i, asBool_b, asStr_s, asLen_f, asCells_f, fw_add])))))
theorem impl_FpSub_ev (a b : Int) : Does cp n_impl_FpSub [.int .i64 a, .int .i64 b] [.int .i64 ((a - b) % 12107)] :=
  Ev.fn (fun k => F_impl_FpSub k a b) (Ev.c (impl_FpOf_ev a) (Ev.c (impl_FpOf_ev b) (Ev.c (impl_FpOf_ev _) (Ev.some_ (by simp only [hdV_c, tlV_c, parts1_a, asInt_i, asBool_b, asStr_s, asLen_f, asCells_f, fw_sub])))))
theorem spec_FpOk_ev (a : Int) : Does cp n_spec_FpOk [.int .i64 a] [.bool (decide (0 ≤ a ∧ a ≤ 12106))] :=
  Ev.fn (fun k => F_spec_FpOk k a) (Ev.c (spec_l01In_ev _ _ _) (Ev.now _))
theorem impl_FpOk_ev (a : Int) : Does cp n_impl_FpOk [.int .i64 a] [.bool (decide (0 ≤ a ∧ a ≤ 12106))] := by
  refine Ev.fn (fun k => F_impl_FpOk k a) (Ev.b (fun h0 => Ev.some_ ?_) (fun h0 => Ev.some_ ?_))
  · have := leI_to h0
    rw [ltI_d]; congr 2; rw [decide_eq_decide]; omega
  · have := leI_fo h0
    rw [decide_eq_false (by omega)]
theorem spec_l07Right_ev (a : Int) : Does cp n_spec_l07Right [.int .i64 a] [.int .i64 ((a * a % 12107 * a % 12107 + a) % 12107)] :=
  Ev.fn (fun k => F_spec_l07Right k a) (Ev.c (spec_FpMul_ev _ _) (Ev.c (spec_FpMul_ev _ _) (Ev.c (spec_FpAdd_ev _ _) (Ev.now _))))
theorem impl_curveAt_ev (a : Int) : Does cp n_impl_curveAt [.int .i64 a] [.int .i64 ((a * a % 12107 * a % 12107 + a) % 12107)] :=
  Ev.fn (fun k => F_impl_curveAt k a) (Ev.c (impl_FpMul_ev _ _) (Ev.c (impl_FpMul_ev _ _) (Ev.c (impl_FpAdd_ev _ _) (Ev.now _))))
/-- A point's cells. -/
def eP (p : Pt) : List AV := [.int .i64 p.1, .int .i64 p.2.1, .bool p.2.2]
theorem eP_len (p : Pt) : (eP p).length = 3 := rfl
theorem spec_PointOk_ev (p : Pt) : Does cp n_spec_PointOk [.agg (eP p)] [.bool (pOk p)] := by
  refine Ev.fn (fun k => F_spec_PointOk k p.1 p.2.1 p.2.2) ?_
  unfold pOk
  refine Ev.b (fun h => ?_) (fun h => ?_)
  · rw [if_pos h]
    refine Ev.b (fun h1 => Ev.some_ ?_) (fun h1 => Ev.some_ ?_)
    · rw [if_pos (eqI_to h1)]; rfl
    · rw [if_neg (eqI_fo h1)]
  · rw [if_neg (by rw [h]; simp)]
    refine Ev.c (spec_FpOk_ev _) (Ev.b (fun h1 => ?_) (fun h1 => Ev.some_ ?_))
    · have h1' := of_decide_eq_true h1
      refine Ev.c (spec_FpOk_ev _) (Ev.b (fun h2 => ?_) (fun h2 => Ev.some_ ?_))
      · have h2' := of_decide_eq_true h2
        rw [if_pos ⟨h1', h2'⟩]
        exact Ev.c (spec_FpMul_ev _ _) (Ev.c (spec_l07Right_ev _) (Ev.now _))
      · rw [if_neg (fun q => of_decide_eq_false h2 q.2)]
    · rw [if_neg (fun q => of_decide_eq_false h1 q.1)]
theorem impl_PointOk_ev (p : Pt) : Does cp n_impl_PointOk [.agg (eP p)] [.bool (pOk p)] := by
  refine Ev.fn (fun k => F_impl_PointOk k p.1 p.2.1 p.2.2) ?_
  unfold pOk
  refine Ev.b (fun h => ?_) (fun h => ?_)
  · rw [if_pos h]
    refine Ev.b (fun h1 => Ev.some_ ?_) (fun h1 => Ev.some_ ?_)
    · rw [if_pos (eqI_to h1)]; rfl
    · rw [if_neg (eqI_fo h1)]
  · rw [if_neg (by rw [h]; simp)]
    refine Ev.c (impl_FpOk_ev _) (Ev.b (fun h1 => ?_) (fun h1 => Ev.some_ ?_))
    · have h1' := of_decide_eq_true h1
      refine Ev.c (impl_FpOk_ev _) (Ev.b (fun h2 => ?_) (fun h2 => Ev.some_ ?_))
      · have h2' := of_decide_eq_true h2
        rw [if_pos ⟨h1', h2'⟩]
        exact Ev.c (impl_FpMul_ev _ _) (Ev.c (impl_curveAt_ev _) (Ev.now _))
      · rw [if_neg (fun q => of_decide_eq_false h2 q.2)]
    · rw [if_neg (fun q => of_decide_eq_false h1 q.1)]


theorem quo2 {n : Nat} (h : n < 1000000) : wr .i64 (quoI (n : Int) 2) = ((n / 2 : Nat) : Int) := by rw [quoI_d, tdiv_pos (by omega), wr64 (by omega)]; omega
theorem rem2 (n : Nat) : remI (n : Int) 2 = ((n % 2 : Nat) : Int) := by rw [remI_d, tmod_pos (by omega)]; omega
theorem spec_FpPow_l (f : Nat) : ∀ (n : Nat) (r x : Int), n < 2 ^ f → n < 1000000 → (0 ≤ r ∧ r < 12107) → Ev (fun k m _ _ => L_spec_FpPow_0 k m (n : Int) x r) [.int .i64 (r * x ^ n % 12107)] := by
  have base : ∀ r x : Int, (0 ≤ r ∧ r < 12107) → Ev (fun k m _ _ => L_spec_FpPow_0 k m ((0 : Nat) : Int) x r) [.int .i64 (r * x ^ 0 % 12107)] := fun r x hr => by
    refine Ev.step (fun k m _ _ => L_spec_FpPow_0_s k m _ _ _) (Ev.f (ltI_f (by omega)) (Ev.some_ ?_))
    rw [Int.pow_zero, Int.mul_one, Int.emod_eq_of_lt hr.1 hr.2]
  induction f with
  | zero =>
    intro n r x hn _ hr
    obtain rfl : n = 0 := by omega
    exact base r x hr
  | succ f ih =>
    intro n r x hn hn2 hr
    by_cases h0 : n = 0
    · subst h0
      exact base r x hr
    have hf : n / 2 < 2 ^ f := by rw [Nat.pow_succ] at hn; omega
    refine Ev.step (fun k m _ _ => L_spec_FpPow_0_s k m _ _ _) (Ev.t (ltI_t (by omega)) ?_)
    simp only [quo2 hn2, rem2]
    by_cases h1 : n % 2 = 1
    · refine Ev.t (eqI_t (by omega)) (Ev.c (spec_FpMul_ev _ _) (Ev.c (spec_FpMul_ev _ _) ?_))
      refine (ih (n / 2) _ _ hf (by omega) (fmod_range _)).to ?_
      simp only [hdV_c, tlV_c, parts1_a, asInt_i, asBool_b, asStr_s, asLen_f, asCells_f]
      rw [fpow_loop1, show 2 * (n / 2) + 1 = n by omega]
    · refine Ev.f (eqI_f (by omega)) (Ev.c (spec_FpMul_ev _ _) ?_)
      refine (ih (n / 2) _ _ hf (by omega) hr).to ?_
      simp only [hdV_c, tlV_c, parts1_a, asInt_i, asBool_b, asStr_s, asLen_f, asCells_f]
      rw [fpow_loop0, show 2 * (n / 2) = n by omega]
theorem spec_FpPow_ev (a : Int) (n : Nat) (hn : n < 1000000) : Does cp n_spec_FpPow [.int .i64 a, .int .i64 (n : Int)] [.int .i64 (fpow a n)] := by
  refine Ev.fn (fun k => F_spec_FpPow k a n) (Ev.f (ltI_f (by omega)) (Ev.c (spec_FpOf_ev a) ?_))
  exact ((spec_FpPow_l 20 n 1 (a % 12107) (by omega) hn (by omega)).to (by rw [fpow_one])).l0
theorem impl_powerMod_l (f : Nat) : ∀ (n : Nat) (r x : Int), n < 2 ^ f → n < 1000000 → (0 ≤ r ∧ r < 12107) → (0 ≤ x ∧ x < 12107) → Ev (fun k m _ _ => L_impl_powerMod_0 k m 12107 (n : Int) x r) [.int .i64 (r * x ^ n % 12107)] := by
  have base : ∀ r x : Int, (0 ≤ r ∧ r < 12107) → Ev (fun k m _ _ => L_impl_powerMod_0 k m 12107 ((0 : Nat) : Int) x r) [.int .i64 (r * x ^ 0 % 12107)] := fun r x hr => by
    refine Ev.step (fun k m _ _ => L_impl_powerMod_0_s k m _ _ _ _) (Ev.f (ltI_f (by omega)) (Ev.some_ ?_))
    rw [Int.pow_zero, Int.mul_one, Int.emod_eq_of_lt hr.1 hr.2]
  induction f with
  | zero =>
    intro n r x hn _ hr _
    obtain rfl : n = 0 := by omega
    exact base r x hr
  | succ f ih =>
    intro n r x hn hn2 hr hx
    by_cases h0 : n = 0
    · subst h0
      exact base r x hr
    have hf : n / 2 < 2 ^ f := by rw [Nat.pow_succ] at hn; omega
    have s1 := sq_range hx hx
    have s2 := sq_range hr hx
    have e3 : remI (wr .i64 (mulI x x)) 12107 = x * x % 12107 := by rw [mulI_d, wr64 (by omega), remI_d, tmod_pos (by omega)]
    have e4 : remI (wr .i64 (mulI r x)) 12107 = r * x % 12107 := by rw [mulI_d, wr64 (by omega), remI_d, tmod_pos (by omega)]
    refine Ev.step (fun k m _ _ => L_impl_powerMod_0_s k m _ _ _ _) (Ev.t (ltI_t (by omega)) ?_)
    simp only [quo2 hn2, rem2, e3, e4]
    by_cases h1 : n % 2 = 1
    · refine Ev.t (eqI_t (by omega)) (Ev.g rfl (Ev.g rfl ?_))
      refine (ih (n / 2) _ _ hf (by omega) (fmod_range _) (fmod_range _)).to ?_
      rw [fpow_loop1, show 2 * (n / 2) + 1 = n by omega]
    · refine Ev.f (eqI_f (by omega)) (Ev.g rfl ?_)
      refine (ih (n / 2) _ _ hf (by omega) hr (fmod_range _)).to ?_
      rw [fpow_loop0, show 2 * (n / 2) = n by omega]
theorem impl_powerMod_ev (a : Int) (n : Nat) (hn : n < 1000000) : Does cp n_impl_powerMod [.int .i64 a, .int .i64 (n : Int), .int .i64 12107] [.int .i64 (fpow a n)] := by
  refine Ev.fn (fun k => F_impl_powerMod k a n 12107) (Ev.c (impl_remainder_ev a 12107 (by omega) (by omega)) ?_)
  exact ((impl_powerMod_l 20 n 1 (a % 12107) (by omega) hn (by omega) (fmod_range a)).to (by rw [fpow_one])).l0
theorem spec_FpInv_ev (a : Int) : Does cp n_spec_FpInv [.int .i64 a] [.int .i64 (finv a)] :=
  Ev.fn (fun k => F_spec_FpInv k a) (Ev.c (spec_FpPow_ev a 12105 (by omega)) (Ev.now _))
theorem impl_FpInv_ev (a : Int) : Does cp n_impl_FpInv [.int .i64 a] [.int .i64 (finv a)] :=
  Ev.fn (fun k => F_impl_FpInv k a) (Ev.c (impl_powerMod_ev a 12105 (by omega)) (Ev.now _))


theorem spec_l07Slope_ev (p r : Pt) : Does cp n_spec_l07Slope [.agg (eP p), .agg (eP r)] [.int .i64 (slope p r).1, .bool (slope p r).2] := by
  refine Ev.fn (fun k => F_spec_l07Slope k p.1 p.2.1 p.2.2 r.1 r.2.1 r.2.2) ?_
  unfold slope
  by_cases h : p.1 = r.1
  · rw [if_pos h]
    refine Ev.f (by rw [eqI_t h]; rfl) (Ev.c (spec_FpAdd_ev _ _) ?_)
    by_cases h2 : (p.2.1 + r.2.1) % 12107 = 0
    · rw [if_pos h2]; exact Ev.t (eqI_t h2) (Ev.now _)
    · rw [if_neg h2]
      exact Ev.f (eqI_f h2) (Ev.c (spec_FpMul_ev _ _) (Ev.c (spec_FpMul_ev _ _) (Ev.c (spec_FpAdd_ev _ _) (Ev.c (spec_FpMul_ev _ _) (Ev.c (spec_FpInv_ev _) (Ev.c (spec_FpMul_ev _ _) (Ev.now _)))))))
  · rw [if_neg h]
    exact Ev.t (by rw [eqI_f h]; rfl) (Ev.c (spec_FpSub_ev _ _) (Ev.c (spec_FpSub_ev _ _) (Ev.c (spec_FpInv_ev _) (Ev.c (spec_FpMul_ev _ _) (Ev.now _)))))
theorem impl_slopeOf_ev (p r : Pt) (hp : pRight p) (hr : pRight r) (h1 : ¬ p.2.2 = true) (h2 : ¬ r.2.2 = true) : Does cp n_impl_slopeOf [.agg (eP p), .agg (eP r)] [.int .i64 (slope p r).1, .bool (slope p r).2] := by
  refine Ev.fn (fun k => F_impl_slopeOf k p.1 p.2.1 p.2.2 r.1 r.2.1 r.2.2) ?_
  unfold slope
  have hp' := hp.resolve_left (fun h => h1 h.1)
  have hr' := hr.resolve_left (fun h => h2 h.1)
  by_cases h : p.1 = r.1
  · rw [if_pos h]
    refine Ev.f (by rw [eqI_t h]; rfl) ?_
    by_cases hy : p.2.1 = r.2.1
    · refine Ev.f (by rw [eqI_t hy]; rfl) ?_
      by_cases h0 : p.2.1 = 0
      · have hz : (p.2.1 + r.2.1) % 12107 = 0 := by rw [← hy, h0]; rfl
        rw [if_pos hz]
        exact Ev.t (eqI_t h0) (Ev.now _)
      · have hz : ¬ (p.2.1 + r.2.1) % 12107 = 0 := y2_ne hy h0 hp'.2.2.1
        rw [if_neg hz]
        exact Ev.f (eqI_f h0) (Ev.c (impl_FpMul_ev _ _) (Ev.c (impl_FpMul_ev _ _) (Ev.c (impl_FpAdd_ev _ _) (Ev.c (impl_FpMul_ev _ _) (Ev.c (impl_FpInv_ev _) (Ev.c (impl_FpMul_ev _ _) (Ev.now _)))))))
    · refine Ev.t (by rw [eqI_f hy]; rfl) ?_
      have hz : (p.2.1 + r.2.1) % 12107 = 0 := by
        have hp2 : 0 ≤ p.2.1 ∧ p.2.1 < 12107 := ⟨hp'.2.2.1.1, Int.lt_of_le_of_lt hp'.2.2.1.2 (by decide)⟩
        have hr2 : 0 ≤ r.2.1 ∧ r.2.1 < 12107 := ⟨hr'.2.2.1.1, Int.lt_of_le_of_lt hr'.2.2.1.2 (by decide)⟩
        exact Classical.byContradiction fun hs => hy (ph_inj hp2 hr2 (right_y hp'.2.2.2 (by rw [h]; exact hr'.2.2.2) hs))
      rw [if_pos hz]
      exact Ev.now _
  · rw [if_neg h]
    exact Ev.t (by rw [eqI_f h]; rfl) (Ev.c (impl_FpSub_ev _ _) (Ev.c (impl_FpSub_ev _ _) (Ev.c (impl_FpInv_ev _) (Ev.c (impl_FpMul_ev _ _) (Ev.now _)))))
theorem spec_l07Zero_ev : Does cp n_spec_l07Zero [] [.agg (eP (0, 0, true))] := Ev.fn (fun k => F_spec_l07Zero k) (Ev.now _)
theorem spec_l07Add_ev (p r : Pt) : Does cp n_spec_l07Add [.agg (eP p), .agg (eP r)] [.agg (eP (pAdd p r))] := by
  refine Ev.fn (fun k => F_spec_l07Add k p.1 p.2.1 p.2.2 r.1 r.2.1 r.2.2) ?_
  unfold pAdd
  refine Ev.b (fun h1 => ?_) (fun h1 => ?_)
  · rw [if_pos h1]; exact Ev.now _
  rw [if_neg (by rw [h1]; simp)]
  refine Ev.b (fun h2 => ?_) (fun h2 => ?_)
  · rw [if_pos h2]; exact Ev.now _
  rw [if_neg (by rw [h2]; simp)]
  refine Ev.c (spec_l07Slope_ev p r) ?_
  by_cases h3 : (slope p r).2 = true
  · rw [if_pos h3]
    exact Ev.f (by show notB (slope p r).2 = false; rw [h3]; rfl) (Ev.c (spec_FpMul_ev _ _) (Ev.c (spec_FpSub_ev _ _) (Ev.c (spec_FpSub_ev _ _) (Ev.c (spec_FpSub_ev _ _) (Ev.c (spec_FpMul_ev _ _) (Ev.c (spec_FpSub_ev _ _) (Ev.now _)))))))
  · rw [if_neg h3]
    exact Ev.t (by show notB (slope p r).2 = true; rw [Bool.not_eq_true] at h3; rw [h3]; rfl) (Ev.c spec_l07Zero_ev (Ev.now _))
theorem impl_add_ev (p r : Pt) (hp : pRight p) (hr : pRight r) : Does cp n_impl_add [.agg (eP p), .agg (eP r)] [.agg (eP (pAdd p r))] := by
  refine Ev.fn (fun k => F_impl_add k p.1 p.2.1 p.2.2 r.1 r.2.1 r.2.2) ?_
  unfold pAdd
  refine Ev.b (fun h1 => ?_) (fun h1 => ?_)
  · rw [if_pos h1]; exact Ev.now _
  rw [if_neg (by rw [h1]; simp)]
  refine Ev.b (fun h2 => ?_) (fun h2 => ?_)
  · rw [if_pos h2]; exact Ev.now _
  rw [if_neg (by rw [h2]; simp)]
  refine Ev.c (impl_slopeOf_ev p r hp hr (by rw [h1]; simp) (by rw [h2]; simp)) ?_
  by_cases h3 : (slope p r).2 = true
  · rw [if_pos h3]
    exact Ev.f (by show notB (slope p r).2 = false; rw [h3]; rfl) (Ev.c (impl_FpMul_ev _ _) (Ev.c (impl_FpSub_ev _ _) (Ev.c (impl_FpSub_ev _ _) (Ev.c (impl_FpSub_ev _ _) (Ev.c (impl_FpMul_ev _ _) (Ev.c (impl_FpSub_ev _ _) (Ev.now _)))))))
  · rw [if_neg h3]
    exact Ev.t (by show notB (slope p r).2 = true; rw [Bool.not_eq_true] at h3; rw [h3]; rfl) (Ev.now _)
theorem spec_PointNeg_ev (p : Pt) : Does cp n_spec_PointNeg [.agg (eP p)] [.agg (eP (pNeg p))] := by
  refine Ev.fn (fun k => F_spec_PointNeg k p.1 p.2.1 p.2.2) ?_
  unfold pNeg
  refine Ev.b (fun h1 => ?_) (fun h1 => ?_)
  · rw [if_pos h1]; exact Ev.c spec_l07Zero_ev (Ev.now _)
  · rw [if_neg (by rw [h1]; simp)]
    exact Ev.c (spec_FpSub_ev _ _) (Ev.now _)


theorem spec_PointTimes_l (f : Nat) (z : Pt) : ∀ (n : Nat) (b acc : Pt), n < 2 ^ f → n < 1000000 → pRight b → pRight acc →
    Ev (fun k m _ _ => L_spec_PointTimes_0 k m (n : Int) b.1 b.2.1 b.2.2 acc.1 acc.2.1 acc.2.2 z.1 z.2.1 z.2.2) [.agg (eP (pLoop f n b acc))] := by
  induction f with
  | zero =>
    intro n b acc hn _ _ _
    rw [pLoop]
    exact Ev.step (fun k m _ _ => L_spec_PointTimes_0_s k m _ _ _ _ _ _ _ _ _ _) (Ev.f (ltI_f (by omega)) (Ev.now _))
  | succ f ih =>
    intro n b acc hn hn2 hb ha
    rw [pLoop]
    by_cases h0 : n = 0
    · rw [if_pos h0]
      exact Ev.step (fun k m _ _ => L_spec_PointTimes_0_s k m _ _ _ _ _ _ _ _ _ _) (Ev.f (ltI_f (by omega)) (Ev.now _))
    rw [if_neg h0]
    have hf : n / 2 < 2 ^ f := by rw [Nat.pow_succ] at hn; omega
    refine Ev.step (fun k m _ _ => L_spec_PointTimes_0_s k m _ _ _ _ _ _ _ _ _ _) (Ev.t (ltI_t (by omega)) ?_)
    simp only [quo2 hn2, rem2]
    by_cases h1 : n % 2 = 1
    · rw [if_pos h1]
      exact Ev.t (eqI_t (by omega)) (Ev.c (spec_l07Add_ev acc b) (Ev.c (spec_l07Add_ev b b) (ih _ _ _ hf (by omega) (pAdd_right hb hb) (pAdd_right ha hb))))
    · rw [if_neg h1]
      exact Ev.f (eqI_f (by omega)) (Ev.c (spec_l07Add_ev b b) (ih _ _ _ hf (by omega) (pAdd_right hb hb) ha))
theorem spec_PointTimes_ev (n : Nat) (p : Pt) (hn : n < 12108) : Does cp n_spec_PointTimes [.int .i64 (n : Int), .agg (eP p)] [.agg (eP (pTimes n p))] := by
  refine Ev.fn (fun k => F_spec_PointTimes k n p.1 p.2.1 p.2.2) (Ev.c (spec_PointOk_ev p) ?_)
  unfold pTimes
  have e : remI (n : Int) 12108 = n := by rw [remI_d, tmod_pos (by omega)]; omega
  simp only [e]
  by_cases h : pOk p = true
  · rw [if_pos h]
    refine Ev.f (by show notB (pOk p) = false; rw [h]; rfl) (Ev.f (ltI_f (by omega)) (Ev.c spec_l07Zero_ev ?_))
    exact (spec_PointTimes_l 64 (0, 0, false) n p (0, 0, true) (by omega) (by omega) ((pOk_iff p).1 h) pRight_zero).l0
  · rw [if_neg h]
    exact Ev.t (by show notB (pOk p) = true; rw [Bool.not_eq_true] at h; rw [h]; rfl) (Ev.c spec_l07Zero_ev (Ev.now _))
theorem impl_PointTimes_l (f : Nat) (z : Pt) : ∀ (n : Nat) (b acc : Pt), n < 2 ^ f → n < 1000000 → pRight b → pRight acc →
    Ev (fun k m _ _ => L_impl_PointTimes_0 k m (n : Int) b.1 b.2.1 b.2.2 acc.1 acc.2.1 acc.2.2 z.1 z.2.1 z.2.2) [.agg (eP (pLoop f n b acc))] := by
  induction f with
  | zero =>
    intro n b acc hn _ _ _
    rw [pLoop]
    exact Ev.step (fun k m _ _ => L_impl_PointTimes_0_s k m _ _ _ _ _ _ _ _ _ _) (Ev.f (ltI_f (by omega)) (Ev.now _))
  | succ f ih =>
    intro n b acc hn hn2 hb ha
    rw [pLoop]
    by_cases h0 : n = 0
    · rw [if_pos h0]
      exact Ev.step (fun k m _ _ => L_impl_PointTimes_0_s k m _ _ _ _ _ _ _ _ _ _) (Ev.f (ltI_f (by omega)) (Ev.now _))
    rw [if_neg h0]
    have hf : n / 2 < 2 ^ f := by rw [Nat.pow_succ] at hn; omega
    refine Ev.step (fun k m _ _ => L_impl_PointTimes_0_s k m _ _ _ _ _ _ _ _ _ _) (Ev.t (ltI_t (by omega)) ?_)
    simp only [quo2 hn2, rem2]
    by_cases h1 : n % 2 = 1
    · rw [if_pos h1]
      exact Ev.t (eqI_t (by omega)) (Ev.c (impl_add_ev acc b ha hb) (Ev.c (impl_add_ev b b hb hb) (ih _ _ _ hf (by omega) (pAdd_right hb hb) (pAdd_right ha hb))))
    · rw [if_neg h1]
      exact Ev.f (eqI_f (by omega)) (Ev.c (impl_add_ev b b hb hb) (ih _ _ _ hf (by omega) (pAdd_right hb hb) ha))
theorem impl_PointTimes_ev (n : Nat) (p : Pt) (hn : n < 12108) : Does cp n_impl_PointTimes [.int .i64 (n : Int), .agg (eP p)] [.agg (eP (pTimes n p))] := by
  refine Ev.fn (fun k => F_impl_PointTimes k n p.1 p.2.1 p.2.2) (Ev.c (impl_PointOk_ev p) ?_)
  unfold pTimes
  by_cases h : pOk p = true
  · rw [if_pos h]
    refine Ev.f (by show notB (pOk p) = false; rw [h]; rfl) (Ev.c (impl_remainder_ev _ _ (by omega) (by omega)) ?_)
    have e : (n : Int) % 12108 = n := by omega
    simp only [hdV_c, tlV_c, parts1_a, asInt_i, asBool_b, asStr_s, asLen_f, asCells_f, e]
    exact (impl_PointTimes_l 64 (0, 0, false) n p (0, 0, true) (by omega) (by omega) ((pOk_iff p).1 h) pRight_zero).l0
  · rw [if_neg h]
    exact Ev.t (by show notB (pOk p) = true; rw [Bool.not_eq_true] at h; rw [h]; rfl) (Ev.now _)


def sc1 (n : Int) : Bool := decide (1 ≤ n ∧ n ≤ 1008)
theorem spec_l16Scalar_ev (n : Int) : Does cp n_spec_l16Scalar [.int .i64 n] [.bool (sc1 n)] := Ev.fn (fun k => F_spec_l16Scalar k _) (Ev.c (spec_l01In_ev n 1 1008) (Ev.now _))
def toxOk (w p : Int) (rows : List TRow) (ta al be ga de : Int) : Bool := sysOk w p rows && (sc1 ta && (sc1 al && (sc1 be && (sc1 ga && (sc1 de && ltI (lenI rows.length) ta)))))
theorem spec_ToxicOk_ev (w p : Int) (rows : List TRow) (ta al be ga de : Int) (hb : rows.length ≤ 1048576) (hr : ∀ y ∈ rows, lenRow y) : Does cp n_spec_ToxicOk [.agg [.int .i64 w, .int .i64 p, .fs rows.length (rows.flatMap eRow)], .agg [.int .i64 ta, .int .i64 al, .int .i64 be, .int .i64 ga, .int .i64 de]] [.bool (toxOk w p rows ta al be ga de)] :=
  Ev.fn (fun k => F_spec_ToxicOk k _ _ _ _ _ _ _ _ _) (Ev.c (spec_SystemOk_ev w p rows hb hr) (Ev.ap fun _ => Ev.c (spec_l16Scalar_ev ta) (Ev.ap fun _ => Ev.c (spec_l16Scalar_ev al) (Ev.ap fun _ => Ev.c (spec_l16Scalar_ev be) (Ev.ap fun _ => Ev.c (spec_l16Scalar_ev ga) (Ev.ap fun _ => Ev.c (spec_l16Scalar_ev de) (Ev.ap fun _ => Ev.now _)))))))
theorem impl_Toxic_l (l : List Int) (hl : l.length ≤ 10) (d : Nat) : ∀ i : Nat, i + d = l.length → Ev (fun k m _ _ => L_impl_ToxicOk_0 k m l.length (l.length : Int) (i : Int) (l.flatMap eI)) [.bool ((l.drop i).all sc1)] := by
  induction d with
  | zero =>
    intro i hi
    rw [List.drop_eq_nil_of_le (by omega)]
    exact Ev.step (fun k m _ _ => L_impl_ToxicOk_0_s k m _ _ _ _) (Ev.f (ltI_f (by omega)) (Ev.now _))
  | succ d ih =>
    intro i hi
    have hi' : i < l.length := by omega
    refine Ev.step (fun k m _ _ => L_impl_ToxicOk_0_s k m _ _ _ _) (Ev.t (ltI_t (by omega)) (Ev.g (inR_n hi') ?_))
    rw [addN00, ei hi', List.drop_eq_getElem_cons hi', List.all_cons]
    simp only [hdV_c, tlV_c, parts1_a, asInt_i, asBool_b, asStr_s, asLen_f, asCells_f, wrS (show i < 9223372036854775807 by omega)]
    refine Ev.g rfl ?_
    by_cases c : l[i] < 1
    · refine Ev.t (ltI_t c) (Ev.some_ ?_)
      have : sc1 l[i] = false := decide_eq_false (by omega)
      rw [this]; rfl
    · have e : sc1 l[i] = decide (0 ≤ l[i] ∧ l[i] ≤ 1008) := decide_eq_decide.2 ⟨fun q => by omega, fun q => by omega⟩
      rw [e]
      exact Ev.f (ltI_f c) (Ev.c (impl_isScalar_ev _) (Ev.an fun _ => ih (i + 1) (by omega)))
theorem impl_ToxicOk_ev (w p : Int) (rows : List TRow) (ta al be ga de : Int) (hb : rows.length ≤ 1048576) (hr : ∀ y ∈ rows, lenRow y) : Does cp n_impl_ToxicOk [.agg [.int .i64 w, .int .i64 p, .fs rows.length (rows.flatMap eRow)], .agg [.int .i64 ta, .int .i64 al, .int .i64 be, .int .i64 ga, .int .i64 de]] [.bool (toxOk w p rows ta al be ga de)] := by
  refine Ev.fn (fun k => F_impl_ToxicOk k _ _ _ _ _ _ _ _ _) (Ev.c (impl_SystemOk_ev w p rows hb hr) (Ev.an fun _ => ?_))
  by_cases c : ta ≤ lenI rows.length
  · refine Ev.t (leI_t c) (Ev.some_ ?_)
    rw [ltI_f (show ¬ lenI rows.length < ta by omega)]
    simp
  · rw [ltI_t (show lenI rows.length < ta by omega)]
    refine Ev.f (leI_f c) ((impl_Toxic_l [ta, al, be, ga, de] (by simp) 5 0 rfl).l0.to ?_)
    simp only [List.drop_zero, List.all_cons, List.all_nil]
def pB : Pt := (8445, 859, false)
def keyOf (n : Int) : Pt := pTimes (n % 1009).toNat pB
theorem nat9 (n : Int) : n % 1009 = (((n % 1009).toNat : Nat) : Int) := by omega
theorem spec_KeyOf_ev (n : Int) : Does cp n_spec_KeyOf [.int .i64 n] [.agg (eP (keyOf n))] := by
  have e := spec_ScOf_ev n
  rw [nat9] at e
  exact Ev.fn (fun k => F_spec_KeyOf k _) (Ev.c e (Ev.c (Ev.fn (fun k => F_spec_Base k) (Ev.now _)) (Ev.c (spec_PointTimes_ev (n % 1009).toNat pB (by omega)) (Ev.now _))))
theorem impl_times_ev (n : Int) : Does cp n_impl_times [.int .i64 n] [.agg (eP (keyOf n))] := by
  have e := impl_ScOf_ev n
  rw [nat9] at e
  exact Ev.fn (fun k => F_impl_times k _) (Ev.c e (Ev.c (Ev.fn (fun k => F_impl_Base k) (Ev.now _)) (Ev.c (impl_PointTimes_ev (n % 1009).toNat pB (by omega)) (Ev.now _))))
/-- What a wire is, all together. -/
def mixV (us vs ws : List (List Int)) (ta al be : Int) (j : Nat) : Int := ((be * yAt (us.getD j []) ta % 1009 + al * yAt (vs.getD j []) ta % 1009) % 1009 + yAt (ws.getD j []) ta) % 1009
theorem spec_l16Wire_ev (us vs ws : List (List Int)) (ta al be ga de : Int) (j : Nat) (h1 : j < us.length) (h2 : j < vs.length) (h3 : j < ws.length) (hu : ∀ p ∈ us, p.length ≤ 128) (hv : ∀ p ∈ vs, p.length ≤ 128) (hw : ∀ p ∈ ws, p.length ≤ 128) :
    ∃ x y, Does cp n_spec_l16Wire [.agg [.fs us.length (us.flatMap eL), .fs vs.length (vs.flatMap eL), .fs ws.length (ws.flatMap eL)], .agg [.int .i64 ta, .int .i64 al, .int .i64 be, .int .i64 ga, .int .i64 de], .int .i64 (j : Int)] [.int .i64 x, .int .i64 y, .int .i64 (mixV us vs ws ta al be j)] := by
  have l1 := hu _ (List.getElem_mem h1)
  have l2 := hv _ (List.getElem_mem h2)
  have l3 := hw _ (List.getElem_mem h3)
  refine ⟨yAt us[j] ta, yAt vs[j] ta, Ev.fn (fun k => F_spec_l16Wire k _ _ _ _ _ _ _ _ _ _ _ _) ?_⟩
  unfold mixV
  rw [getL h1, getL h2, getL h3]
  simp only [eli h1, eli h2, eli h3, hdV_c, tlV_c, parts1_a, asInt_i, asBool_b, asStr_s, asLen_f, asCells_f]
  exact Ev.g (inR_n h1) (Ev.g rfl (Ev.c (spec_PolyAt_ev us[j] ta (by omega)) (Ev.g (inR_n h2) (Ev.g rfl (Ev.c (spec_PolyAt_ev vs[j] ta (by omega)) (Ev.g (inR_n h3) (Ev.g rfl (Ev.c (spec_PolyAt_ev ws[j] ta (by omega)) (Ev.c (spec_ScMul_ev _ _) (Ev.c (spec_ScMul_ev _ _) (Ev.c (spec_ScAdd_ev _ _) (Ev.c (spec_ScAdd_ev _ _) (Ev.now _)))))))))))))
theorem impl_mixOf_ev (us vs ws : List (List Int)) (ta al be ga de : Int) (j : Nat) (h1 : j < us.length) (h2 : j < vs.length) (h3 : j < ws.length) (hu : ∀ p ∈ us, p.length ≤ 128) (hv : ∀ p ∈ vs, p.length ≤ 128) (hw : ∀ p ∈ ws, p.length ≤ 128) :
    Does cp n_impl_mixOf [.agg [.fs us.length (us.flatMap eL), .fs vs.length (vs.flatMap eL), .fs ws.length (ws.flatMap eL)], .agg [.int .i64 ta, .int .i64 al, .int .i64 be, .int .i64 ga, .int .i64 de], .int .i64 (j : Int)] [.int .i64 (mixV us vs ws ta al be j)] := by
  have l1 := hu _ (List.getElem_mem h1)
  have l2 := hv _ (List.getElem_mem h2)
  have l3 := hw _ (List.getElem_mem h3)
  refine Ev.fn (fun k => F_impl_mixOf k _ _ _ _ _ _ _ _ _ _ _ _) ?_
  unfold mixV
  rw [getL h1, getL h2, getL h3]
  simp only [eli h1, eli h2, eli h3, hdV_c, tlV_c, parts1_a, asInt_i, asBool_b, asStr_s, asLen_f, asCells_f]
  exact Ev.g (inR_n h1) (Ev.g rfl (Ev.c (impl_PolyAt_ev us[j] ta (by omega)) (Ev.c (impl_ScMul_ev _ _) (Ev.g (inR_n h2) (Ev.g rfl (Ev.c (impl_PolyAt_ev vs[j] ta (by omega)) (Ev.c (impl_ScMul_ev _ _) (Ev.c (impl_ScAdd_ev _ _) (Ev.g (inR_n h3) (Ev.g rfl (Ev.c (impl_PolyAt_ev ws[j] ta (by omega)) (Ev.c (impl_ScAdd_ev _ _) (Ev.now _)))))))))))))
def fkGo (mx : Nat → Int) (ns : List Int) : Nat → Nat → Int → Int
  | 0, _, s => s
  | d + 1, i, s => fkGo mx ns d (i + 1) ((s + (ns.getD i 0 * mx (i + 1) % 1009)) % 1009)
def fkC (a b al be s : Int) : Int := ((a * b % 1009 + (-(al * be % 1009)) % 1009) % 1009 + (-s) % 1009) % 1009
theorem fkC_impl (a b al be s : Int) : (a * b % 1009 + (-((al * be % 1009 + s) % 1009)) % 1009) % 1009 = fkC a b al be s := by
  unfold fkC
  generalize a * b % 1009 = x
  generalize al * be % 1009 = y
  omega
def fkPts (a b al be de s : Int) : List AV :=
  [.agg [.int .i64 (keyOf a).1, .int .i64 (keyOf a).2.1, .bool (keyOf a).2.2, .int .i64 (keyOf b).1, .int .i64 (keyOf b).2.1, .bool (keyOf b).2.2, .int .i64 (keyOf (fkC a b al be s * scInv de % 1009)).1, .int .i64 (keyOf (fkC a b al be s * scInv de % 1009)).2.1, .bool (keyOf (fkC a b al be s * scInv de % 1009)).2.2], .bool true]
def fkNo : List AV := [.agg [.int .i64 0, .int .i64 0, .bool false, .int .i64 0, .int .i64 0, .bool false, .int .i64 0, .int .i64 0, .bool false], .bool false]
theorem spec_fake_l (us vs ws : List (List Int)) (ta al be ga de a b : Int) (ns : List Int) (hn : ns.length ≤ 20) (h1 : ns.length < us.length) (h2 : ns.length < vs.length) (h3 : ns.length < ws.length) (hu : ∀ p ∈ us, p.length ≤ 128) (hv : ∀ p ∈ vs, p.length ≤ 128) (hw : ∀ p ∈ ws, p.length ≤ 128) (w : Int) (nr : Nat) (cr : List AV) (d : Nat) : ∀ (i : Nat) (s : Int), i + d = ns.length →
    Ev (fun k m _ _ => L_spec_FakeProof_0 k m ns.length (ns.flatMap eI) b a ((i + 1 : Nat) : Int) s ta al be ga de us.length (us.flatMap eL) vs.length (vs.flatMap eL) ws.length (ws.flatMap eL) 0 0 false 0 0 false 0 0 false w (ns.length : Int) nr cr) (fkPts a b al be de (fkGo (mixV us vs ws ta al be) ns d i s)) := by
  induction d with
  | zero =>
    intro i s hi
    refine Ev.step (fun k m _ _ => L_spec_FakeProof_0_s k m _ _ _ _ _ _ _ _ _ _ _ _ _ _ _ _ _ _ _ _ _ _ _ _ _ _ _ _ _ _) (Ev.f (leI_f (by omega)) ?_)
    exact Ev.c (spec_ScMul_ev a b) (Ev.c (spec_ScMul_ev al be) (Ev.c (spec_ScNeg_ev _) (Ev.c (spec_ScAdd_ev _ _) (Ev.c (spec_ScNeg_ev s) (Ev.c (spec_ScAdd_ev _ _) (Ev.c (spec_KeyOf_ev a) (Ev.c (spec_KeyOf_ev b) (Ev.c (spec_ScInv_ev de) (Ev.c (spec_ScMul_ev _ _) (Ev.c (spec_KeyOf_ev _) (Ev.now _)))))))))))
  | succ d ih =>
    intro i s hi
    have hi' : i < ns.length := by omega
    obtain ⟨x, y, e⟩ := spec_l16Wire_ev us vs ws ta al be ga de (i + 1) (by omega) (by omega) (by omega) hu hv hw
    have ew : wr .i64 (subI ((i + 1 : Nat) : Int) 1) = (i : Int) := by rw [subI_d, wr64 (by omega)]; omega
    refine Ev.step (fun k m _ _ => L_spec_FakeProof_0_s k m _ _ _ _ _ _ _ _ _ _ _ _ _ _ _ _ _ _ _ _ _ _ _ _ _ _ _ _ _ _) (Ev.t (leI_t (by omega)) (Ev.c e ?_))
    rw [ew, ei hi']
    refine Ev.g (inR_n hi') (Ev.g rfl (Ev.c (spec_ScMul_ev _ _) (Ev.c (spec_ScAdd_ev _ _) ?_)))
    simp only [hdV_c, tlV_c, parts1_a, asInt_i, asBool_b, asStr_s, asLen_f, asCells_f, wrS (show i + 1 < 9223372036854775807 by omega)]
    rw [fkGo, getD_i hi']
    exact ih (i + 1) _ (by omega)
theorem impl_fake_l (us vs ws : List (List Int)) (ta al be ga de a b : Int) (ns : List Int) (hn : ns.length ≤ 20) (h1 : ns.length < us.length) (h2 : ns.length < vs.length) (h3 : ns.length < ws.length) (hu : ∀ p ∈ us, p.length ≤ 128) (hv : ∀ p ∈ vs, p.length ≤ 128) (hw : ∀ p ∈ ws, p.length ≤ 128) (d : Nat) : ∀ (i : Nat) (s : Int), i + d = ns.length →
    Ev (fun k m _ _ => L_impl_FakeProof_0 k m ns.length (ns.flatMap eI) b a (lenI ns.length) (i : Int) s ta al be ga de us.length (us.flatMap eL) vs.length (vs.flatMap eL) ws.length (ws.flatMap eL) 0 0 false 0 0 false 0 0 false) (fkPts a b al be de (fkGo (mixV us vs ws ta al be) ns d i s)) := by
  induction d with
  | zero =>
    intro i s hi
    refine Ev.step (fun k m _ _ => L_impl_FakeProof_0_s k m _ _ _ _ _ _ _ _ _ _ _ _ _ _ _ _ _ _ _ _ _ _ _ _ _ _ _) (Ev.f (ltI_f (by rw [lenI_c]; omega)) ?_)
    refine Ev.c (impl_ScMul_ev a b) (Ev.c (impl_ScMul_ev al be) (Ev.c (impl_ScAdd_ev _ s) (Ev.c (impl_ScNeg_ev _) (Ev.c (impl_ScAdd_ev _ _) ?_))))
    simp only [hdV_c, tlV_c, parts1_a, asInt_i, asBool_b, asStr_s, asLen_f, asCells_f, fkC_impl]
    exact Ev.c (impl_times_ev a) (Ev.c (impl_times_ev b) (Ev.c (impl_ScInv_ev de) (Ev.c (impl_ScMul_ev _ _) (Ev.c (impl_times_ev _) (Ev.now _)))))
  | succ d ih =>
    intro i s hi
    have hi' : i < ns.length := by omega
    refine Ev.step (fun k m _ _ => L_impl_FakeProof_0_s k m _ _ _ _ _ _ _ _ _ _ _ _ _ _ _ _ _ _ _ _ _ _ _ _ _ _ _) (Ev.t (ltI_t (by rw [lenI_c]; omega)) (Ev.g (inR_n hi') ?_))
    rw [ei hi', wrS (show i < 9223372036854775807 by omega)]
    refine Ev.g rfl (Ev.c (impl_mixOf_ev us vs ws ta al be ga de (i + 1) (by omega) (by omega) (by omega) hu hv hw) (Ev.c (impl_ScMul_ev _ _) (Ev.c (impl_ScAdd_ev _ _) ?_)))
    simp only [hdV_c, tlV_c, parts1_a, asInt_i, asBool_b, asStr_s, asLen_f, asCells_f]
    rw [fkGo, getD_i hi']
    exact ih (i + 1) _ (by omega)
def fkSum (w : Int) (rows : List TRow) (ta al be : Int) (ns : List Int) : Int := fkGo (mixV (qU rows w.toNat) (qV rows w.toNat) (qW rows w.toNat) ta al be) ns ns.length 0 (mixV (qU rows w.toNat) (qV rows w.toNat) (qW rows w.toNat) ta al be 0)
def fkOk (w p : Int) (rows : List TRow) (ta al be ga de : Int) (ns : List Int) (a b : Int) : Prop := toxOk w p rows ta al be ga de = true ∧ (1 ≤ a ∧ a ≤ 1008) ∧ (1 ≤ b ∧ b ≤ 1008) ∧ (ns.length : Int) = p
instance (w p : Int) (rows : List TRow) (ta al be ga de : Int) (ns : List Int) (a b : Int) : Decidable (fkOk w p rows ta al be ga de ns a b) := by unfold fkOk; infer_instance
def fkOut (w p : Int) (rows : List TRow) (ta al be ga de : Int) (ns : List Int) (a b : Int) : List AV := if fkOk w p rows ta al be ga de ns a b then fkPts a b al be de (fkSum w rows ta al be ns) else fkNo
theorem toxOk_sys {w p : Int} {rows : List TRow} {ta al be ga de : Int} (h : toxOk w p rows ta al be ga de = true) : sysOk w p rows = true := by
  unfold toxOk at h
  rw [Bool.and_eq_true] at h
  exact h.1
theorem sysOk_pub {w p : Int} {rows : List TRow} (h : sysOk w p rows = true) : 0 ≤ p ∧ p ≤ w - 1 := by
  unfold sysOk at h
  simp only [Bool.and_eq_true, decide_eq_true_eq] at h
  exact h.2.1
theorem spec_FakeProof_ev (w p : Int) (rows : List TRow) (ta al be ga de : Int) (ns : List Int) (a b : Int) (hb : rows.length ≤ 1048576) (hr : ∀ y ∈ rows, lenRow y) : Does cp n_spec_FakeProof [.agg [.int .i64 w, .int .i64 p, .fs rows.length (rows.flatMap eRow)], .agg [.int .i64 ta, .int .i64 al, .int .i64 be, .int .i64 ga, .int .i64 de], .fs ns.length (ns.flatMap eI), .int .i64 a, .int .i64 b] (fkOut w p rows ta al be ga de ns a b) := by
  refine Ev.fn (fun k => F_spec_FakeProof k _ _ _ _ _ _ _ _ _ _ _ _ _) (Ev.c (spec_ToxicOk_ev w p rows ta al be ga de hb hr) ?_)
  unfold fkOut
  by_cases h : toxOk w p rows ta al be ga de = true
  · refine Ev.f (by show notB (toxOk w p rows ta al be ga de) = false; rw [h]; rfl) (Ev.c (spec_l16Scalar_ev a) ?_)
    by_cases ha : 1 ≤ a ∧ a ≤ 1008
    · refine Ev.f (by show notB (sc1 a) = false; unfold sc1; rw [decide_eq_true ha]; rfl) (Ev.c (spec_l16Scalar_ev b) ?_)
      by_cases hb' : 1 ≤ b ∧ b ≤ 1008
      · refine Ev.f (by show notB (sc1 b) = false; unfold sc1; rw [decide_eq_true hb']; rfl) ?_
        by_cases hp : (ns.length : Int) = p
        · rw [if_pos ⟨h, ha, hb', hp⟩]
          have hs := toxOk_sys h
          obtain ⟨hw1, _, _⟩ := sysOk_rows hs
          have hpb := sysOk_pub hs
          have e := spec_QapOf_ev w p rows hb hr
          unfold qapR at e
          rw [if_pos hs] at e
          have lu : (qU rows w.toNat).length = w.toNat := by simp [qU]
          have lv : (qV rows w.toNat).length = w.toNat := by simp [qV]
          have lw : (qW rows w.toNat).length = w.toNat := by simp [qW]
          obtain ⟨x, y, e0⟩ := spec_l16Wire_ev (qU rows w.toNat) (qV rows w.toNat) (qW rows w.toNat) ta al be ga de 0 (by omega) (by omega) (by omega) (qU_len _ _) (qV_len _ _) (qW_len _ _)
          subst hp
          exact Ev.f (by rw [eqI_t (by rw [lenI_c])]; rfl) (Ev.c e (Ev.c e0 (spec_fake_l _ _ _ ta al be ga de a b ns (by omega) (by omega) (by omega) (by omega) (qU_len _ _) (qV_len _ _) (qW_len _ _) w _ _ ns.length 0 _ (by omega)).l0))
        · rw [if_neg (fun q => hp q.2.2.2)]
          exact Ev.t (by rw [eqI_f (by rw [lenI_c]; exact hp)]; rfl) (Ev.now _)
      · rw [if_neg (fun q => hb' q.2.2.1)]
        exact Ev.t (by show notB (sc1 b) = true; unfold sc1; rw [decide_eq_false hb']; rfl) (Ev.now _)
    · rw [if_neg (fun q => ha q.2.1)]
      exact Ev.t (by show notB (sc1 a) = true; unfold sc1; rw [decide_eq_false ha]; rfl) (Ev.now _)
  · rw [if_neg (fun q => h q.1)]
    rw [Bool.not_eq_true] at h
    exact Ev.t (by show notB (toxOk w p rows ta al be ga de) = true; rw [h]; rfl) (Ev.now _)
theorem impl_FakeProof_ev (w p : Int) (rows : List TRow) (ta al be ga de : Int) (ns : List Int) (a b : Int) (hb : rows.length ≤ 1048576) (hr : ∀ y ∈ rows, lenRow y) : Does cp n_impl_FakeProof [.agg [.int .i64 w, .int .i64 p, .fs rows.length (rows.flatMap eRow)], .agg [.int .i64 ta, .int .i64 al, .int .i64 be, .int .i64 ga, .int .i64 de], .fs ns.length (ns.flatMap eI), .int .i64 a, .int .i64 b] (fkOut w p rows ta al be ga de ns a b) := by
  refine Ev.fn (fun k => F_impl_FakeProof k _ _ _ _ _ _ _ _ _ _ _ _ _) (Ev.c (impl_ToxicOk_ev w p rows ta al be ga de hb hr) ?_)
  unfold fkOut
  by_cases h : toxOk w p rows ta al be ga de = true
  · refine Ev.f (by show notB (toxOk w p rows ta al be ga de) = false; rw [h]; rfl) ?_
    by_cases ha1 : a < 1
    · rw [if_neg (fun q => by have := q.2.1; omega)]
      exact Ev.t (ltI_t ha1) (Ev.now _)
    refine Ev.f (ltI_f ha1) (Ev.c (impl_isScalar_ev a) ?_)
    by_cases ha : 0 ≤ a ∧ a ≤ 1008
    · refine Ev.f (by show notB (decide (0 ≤ a ∧ a ≤ 1008)) = false; rw [decide_eq_true ha]; rfl) ?_
      by_cases hb1 : b < 1
      · rw [if_neg (fun q => by have := q.2.2.1; omega)]
        exact Ev.t (ltI_t hb1) (Ev.now _)
      refine Ev.f (ltI_f hb1) (Ev.c (impl_isScalar_ev b) ?_)
      by_cases hb' : 0 ≤ b ∧ b ≤ 1008
      · refine Ev.f (by show notB (decide (0 ≤ b ∧ b ≤ 1008)) = false; rw [decide_eq_true hb']; rfl) ?_
        by_cases hp : (ns.length : Int) = p
        · rw [if_pos ⟨h, by omega, by omega, hp⟩]
          have hs := toxOk_sys h
          obtain ⟨hw1, _, _⟩ := sysOk_rows hs
          have hpb := sysOk_pub hs
          have e := impl_QapOf_ev w p rows hb hr
          unfold qapR at e
          rw [if_pos hs] at e
          have lu : (qU rows w.toNat).length = w.toNat := by simp [qU]
          have lv : (qV rows w.toNat).length = w.toNat := by simp [qV]
          have lw : (qW rows w.toNat).length = w.toNat := by simp [qW]
          have e0 := impl_mixOf_ev (qU rows w.toNat) (qV rows w.toNat) (qW rows w.toNat) ta al be ga de 0 (by omega) (by omega) (by omega) (qU_len _ _) (qV_len _ _) (qW_len _ _)
          subst hp
          exact Ev.f (by rw [eqI_t (by rw [lenI_c])]; rfl) (Ev.c e (Ev.c e0 (impl_fake_l _ _ _ ta al be ga de a b ns (by omega) (by omega) (by omega) (by omega) (qU_len _ _) (qV_len _ _) (qW_len _ _) ns.length 0 _ (by omega)).l0))
        · rw [if_neg (fun q => hp q.2.2.2)]
          exact Ev.t (by rw [eqI_f (by rw [lenI_c]; exact hp)]; rfl) (Ev.now _)
      · rw [if_neg (fun q => by have := q.2.2.1; omega)]
        exact Ev.t (by show notB (decide (0 ≤ b ∧ b ≤ 1008)) = true; rw [decide_eq_false hb']; rfl) (Ev.now _)
    · rw [if_neg (fun q => by have := q.2.1; omega)]
      exact Ev.t (by show notB (decide (0 ≤ a ∧ a ≤ 1008)) = true; rw [decide_eq_false ha]; rfl) (Ev.now _)
  · rw [if_neg (fun q => h q.1)]
    rw [Bool.not_eq_true] at h
    exact Ev.t (by show notB (toxOk w p rows ta al be ga de) = true; rw [h]; rfl) (Ev.now _)


theorem laws_szIntS_ev (xs : List Int) (hl : xs.length ≤ 9223372036854775807) (v : Int) (h0 : 0 ≤ v) (h1 : v ≤ 1048576) : ∃ r, Does cp n_laws_szIntS [.fs xs.length (xs.flatMap eI), .int .i64 v] [.int .i64 r] ∧ (0 ≤ r → r ≤ v ∧ xs.length ≤ 1048576) := by
  have e : wr .i64 (subI v (lenI xs.length)) = v - (xs.length : Int) := by rw [subI_d, lenI_c, wr64 (by omega)]
  by_cases c : v - (xs.length : Int) < 0
  · exact ⟨-1, Ev.fn (fun k => F_laws_szIntS k _ _ _) (Ev.t (ltI_t (by rw [e]; exact c)) (Ev.now _)), fun h => by omega⟩
  · exact ⟨v - (xs.length : Int), Ev.fn (fun k => F_laws_szIntS k _ _ _) (Ev.f (ltI_f (by rw [e]; exact c)) (Ev.some_ (by rw [e]))), fun h => ⟨by omega, by omega⟩⟩


theorem laws_szRow_ev (x0 : List Int) (x1 : List Int) (x2 : List Int) (h_x0 : (x0.length ≤ 9223372036854775807)) (h_x1 : (x1.length ≤ 9223372036854775807)) (h_x2 : (x2.length ≤ 9223372036854775807)) (v : Int) (h0 : 0 ≤ v) (h1 : v ≤ 1048576) :
    ∃ r, Does cp n_laws_szRow [.agg [.fs x0.length (x0.flatMap eI), .fs x1.length (x1.flatMap eI), .fs x2.length (x2.flatMap eI)], .int .i64 v] [.int .i64 r] ∧ (0 ≤ r → r ≤ v ∧ (x0.length ≤ 1048576) ∧ (x1.length ≤ 1048576) ∧ (x2.length ≤ 1048576)) := by
  suffices h : ∃ r, Ev (fun k _ _ _ => evF cp (k + 1) n_laws_szRow [.agg [.fs x0.length (x0.flatMap eI), .fs x1.length (x1.flatMap eI), .fs x2.length (x2.flatMap eI)], .int .i64 v]) [.int .i64 r] ∧ (0 ≤ r → r ≤ v ∧ (x0.length ≤ 1048576) ∧ (x1.length ≤ 1048576) ∧ (x2.length ≤ 1048576)) by
    obtain ⟨r, h, p⟩ := h; exact ⟨r, Ev.fn (fun _ => rfl) h, p⟩
  simp only [F_laws_szRow]
  obtain ⟨r1, e1, p1⟩ := laws_szIntS_ev x0 h_x0 v (by omega) (by omega)
  by_cases c1 : r1 < 0
  · exact ⟨-1, Ev.c e1 (Ev.t (ltI_t c1) (Ev.now _)), fun h => by omega⟩
  obtain ⟨g1, s1⟩ := p1 (by omega)
  obtain ⟨r2, e2, p2⟩ := laws_szIntS_ev x1 h_x1 r1 (by omega) (by omega)
  by_cases c2 : r2 < 0
  · exact ⟨-1, Ev.c e1 (Ev.f (ltI_f c1) (Ev.c e2 (Ev.t (ltI_t c2) (Ev.now _)))), fun h => by omega⟩
  obtain ⟨g2, s2⟩ := p2 (by omega)
  obtain ⟨r3, e3, p3⟩ := laws_szIntS_ev x2 h_x2 r2 (by omega) (by omega)
  by_cases c3 : r3 < 0
  · exact ⟨-1, Ev.c e1 (Ev.f (ltI_f c1) (Ev.c e2 (Ev.f (ltI_f c2) (Ev.c e3 (Ev.t (ltI_t c3) (Ev.now _)))))), fun h => by omega⟩
  obtain ⟨g3, s3⟩ := p3 (by omega)
  exact ⟨r3, Ev.c e1 (Ev.f (ltI_f c1) (Ev.c e2 (Ev.f (ltI_f c2) (Ev.c e3 (Ev.f (ltI_f c3) (Ev.now _)))))), fun h => ⟨by omega, s1, s2, s3⟩⟩


theorem laws_szRowS_l (xs : List TRow) (hl : xs.length ≤ 1048576) (hs : ∀ y ∈ xs, bigRow y) (d : Nat) : ∀ (i : Nat) (v : Int), i + d = xs.length → 0 ≤ v → v ≤ 1048576 →
    ∃ r, Ev (fun k m _ _ => L_laws_szRowS_0 k m xs.length (xs.flatMap eRow) (i : Int) v) [.int .i64 r] ∧ (0 ≤ r → r ≤ v ∧ ∀ y ∈ xs.drop i, smRow y) := by
  induction d with
  | zero =>
    intro i v hi h0 h1
    refine ⟨v, Ev.step (fun k m _ _ => L_laws_szRowS_0_s k m _ _ _ _) (Ev.f (ltI_f (by rw [lenI_c]; omega)) (Ev.now _)), fun _ => ⟨by omega, ?_⟩⟩
    rw [List.drop_eq_nil_of_le (by omega)]
    simp
  | succ d ih =>
    intro i v hi h0 h1
    have c0 : cellAt (xs.flatMap eRow) (mulN (natI (i : Int)) 3) = .fs (xs[i]'(by omega)).1.length ((xs[i]'(by omega)).1.flatMap eI) := cell_enc0 eRow_len (by omega) (by decide)
    have c1 : cellAt (xs.flatMap eRow) (addN (mulN (natI (i : Int)) 3) 1) = .fs (xs[i]'(by omega)).2.1.length ((xs[i]'(by omega)).2.1.flatMap eI) := cell_enc eRow_len (by omega) 1 (by decide)
    have c2 : cellAt (xs.flatMap eRow) (addN (mulN (natI (i : Int)) 3) 2) = .fs (xs[i]'(by omega)).2.2.length ((xs[i]'(by omega)).2.2.flatMap eI) := cell_enc eRow_len (by omega) 2 (by decide)
    have hm := hs _ (List.getElem_mem (show i < xs.length by omega))
    obtain ⟨t, et, pt⟩ := laws_szRow_ev (xs[i]'(by omega)).1 (xs[i]'(by omega)).2.1 (xs[i]'(by omega)).2.2 hm.1 hm.2.1 hm.2.2 v h0 h1
    by_cases hc : t < 0
    · refine ⟨-1, Ev.step (fun k m _ _ => L_laws_szRowS_0_s k m _ _ _ _) (Ev.t (ltI_t (by rw [lenI_c]; omega)) (Ev.g (inR_n (by omega)) ?_)), fun h => by omega⟩
      simp only [c0, c1, c2, hdV_c, tlV_c, parts1_a, asInt_i, asBool_b, asStr_s, asLen_f, asCells_f]
      exact Ev.g rfl (Ev.c et (Ev.t (ltI_t hc) (Ev.now _)))
    · obtain ⟨ht, hq⟩ := pt (by omega)
      obtain ⟨r, hr, hp⟩ := ih (i + 1) t (by omega) (by omega) (by omega)
      refine ⟨r, Ev.step (fun k m _ _ => L_laws_szRowS_0_s k m _ _ _ _) (Ev.t (ltI_t (by rw [lenI_c]; omega)) (Ev.g (inR_n (by omega)) ?_)), fun h => ?_⟩
      · simp only [c0, c1, c2, hdV_c, tlV_c, parts1_a, asInt_i, asBool_b, asStr_s, asLen_f, asCells_f, wrS (show i < 9223372036854775807 by omega)]
        exact Ev.g rfl (Ev.c et (Ev.f (ltI_f hc) hr))
      obtain ⟨h2, h3⟩ := hp h
      refine ⟨by omega, ?_⟩
      rw [List.drop_eq_getElem_cons (show i < xs.length by omega)]
      intro s hs'
      rcases List.mem_cons.1 hs' with rfl | hs'
      · exact hq
      · exact h3 s hs'
theorem laws_szRowS_ev (xs : List TRow) (hl : xs.length ≤ 9223372036854775807) (hs : ∀ y ∈ xs, bigRow y) (v : Int) (h0 : 0 ≤ v) (h1 : v ≤ 1048576) :
    ∃ r, Does cp n_laws_szRowS [.fs xs.length (xs.flatMap eRow), .int .i64 v] [.int .i64 r] ∧ (0 ≤ r → r ≤ v ∧ xs.length ≤ 1048576 ∧ ∀ y ∈ xs, smRow y) := by
  have e : wr .i64 (subI v (lenI xs.length)) = v - (xs.length : Int) := by rw [subI_d, lenI_c, wr64 (by omega)]
  by_cases c : v - (xs.length : Int) < 0
  · exact ⟨-1, Ev.fn (fun k => F_laws_szRowS k _ _ _) (Ev.t (ltI_t (by rw [e]; exact c)) (Ev.now _)), fun h => by omega⟩
  · obtain ⟨r, hr, hp⟩ := laws_szRowS_l xs (by omega) hs xs.length 0 (v - (xs.length : Int)) (by omega) (by omega) (by omega)
    refine ⟨r, Ev.fn (fun k => F_laws_szRowS k _ _ _) (Ev.f (ltI_f (by rw [e]; exact c)) ?_), fun h => ?_⟩
    · simp only [e]
      exact hr.l0
    obtain ⟨h2, h3⟩ := hp h
    exact ⟨by omega, by omega, by simpa using h3⟩


theorem laws_szSystem_ev (x0 : Int) (x1 : Int) (x2 : List TRow) (h_x2 : (x2.length ≤ 9223372036854775807 ∧ ∀ y ∈ x2, bigRow y)) (v : Int) (h0 : 0 ≤ v) (h1 : v ≤ 1048576) :
    ∃ r, Does cp n_laws_szSystem [.agg [.int .i64 x0, .int .i64 x1, .fs x2.length (x2.flatMap eRow)], .int .i64 v] [.int .i64 r] ∧ (0 ≤ r → r ≤ v ∧ (x2.length ≤ 1048576 ∧ ∀ y ∈ x2, smRow y)) := by
  suffices h : ∃ r, Ev (fun k _ _ _ => evF cp (k + 1) n_laws_szSystem [.agg [.int .i64 x0, .int .i64 x1, .fs x2.length (x2.flatMap eRow)], .int .i64 v]) [.int .i64 r] ∧ (0 ≤ r → r ≤ v ∧ (x2.length ≤ 1048576 ∧ ∀ y ∈ x2, smRow y)) by
    obtain ⟨r, h, p⟩ := h; exact ⟨r, Ev.fn (fun _ => rfl) h, p⟩
  simp only [F_laws_szSystem]
  obtain ⟨r3, e3, p3⟩ := laws_szRowS_ev x2 h_x2.1 h_x2.2 v (by omega) (by omega)
  by_cases c3 : r3 < 0
  · exact ⟨-1, Ev.c e3 (Ev.t (ltI_t c3) (Ev.now _)), fun h => by omega⟩
  obtain ⟨g3, s3⟩ := p3 (by omega)
  exact ⟨r3, Ev.c e3 (Ev.f (ltI_f c3) (Ev.now _)), fun h => ⟨by omega, s3⟩⟩


theorem laws_toIntS_l (xs : List Int) (hl : xs.length ≤ 1048576) (d : Nat) : ∀ i : Nat, i + d = xs.length →
    Ev (fun k m _ _ => L_laws_toIntS_0 k m xs.length (xs.flatMap eI) xs.length (i : Int) ((xs.take i).flatMap eI ++ (List.replicate d ([.int .i64 0] : List AV)).flatten)) [.fs xs.length (xs.flatMap eI)] := by
  induction d with
  | zero =>
    intro i hi
    refine Ev.step (fun k m _ _ => L_laws_toIntS_0_s k m _ _ _ _ _) (Ev.f (ltI_f (by rw [lenI_c]; omega)) (Ev.some_ ?_))
    rw [List.replicate_zero, List.flatten_nil, List.append_nil, List.take_of_length_le (by omega), cut_all eI_len]
  | succ d ih =>
    intro i hi
    have c0 : cellAt (xs.flatMap eI) (mulN (natI (i : Int)) 1) = .int .i64 (xs[i]'(by omega)) := cell_enc0 eI_len (by omega) (by decide)
    have hset : setMany ((xs.take i).flatMap eI ++ (List.replicate (d + 1) ([.int .i64 0] : List AV)).flatten) (addN 0 (mulN (natI (i : Int)) 1)) ([.int .i64 (xs[i]'(by omega))] : List AV) = (xs.take (i + 1)).flatMap eI ++ (List.replicate d ([.int .i64 0] : List AV)).flatten := by
      rw [addN_d, Nat.zero_add, natI_c, mulN_d, ← take_next xs i (by omega)]
      have hp : (xs.take i).length = i := by rw [List.length_take]; omega
      have := fill_at eI_len (z := ([.int .i64 0] : List AV)) rfl (xs.take i) (xs[i]'(by omega)) d
      rw [hp] at this
      exact this
    have hb : Nat.ble (Nat.succ (addN 0 (mulN (natI (i : Int)) 1))) (List.length ((xs.take i).flatMap eI ++ (List.replicate (d + 1) ([.int .i64 0] : List AV)).flatten)) = true := by
      rw [fill_len eI_len rfl, List.length_take]
      exact Nat.ble_eq_true_of_le (by rw [addN_d, natI_c, mulN_d, Nat.min_eq_left (by omega)]; omega)
    refine Ev.step (fun k m _ _ => L_laws_toIntS_0_s k m _ _ _ _ _) (Ev.t (ltI_t (by rw [lenI_c]; omega)) (Ev.g (inR_n (by omega)) ?_))
    simp only [c0, hdV_c, tlV_c, parts1_a, asInt_i, asBool_b, asStr_s, asLen_f, asCells_f]
    refine Ev.g rfl ((Ev.g (inR_n (by omega)) (Ev.g hb ?_)))
    simp only [hdV_c, tlV_c, parts1_a, asInt_i, asBool_b, asStr_s, asLen_f, asCells_f, wrS (show i < 9223372036854775807 by omega), hset]
    exact ih (i + 1) (by omega)
theorem laws_toIntS_ev (xs : List Int) (hl : xs.length ≤ 1048576) : Does cp n_laws_toIntS [.fs xs.length (xs.flatMap eI)] [.fs xs.length (xs.flatMap eI)] :=
  Ev.fn (fun k => F_laws_toIntS k _ _) (Ev.g (fit_small hl (by decide)) (laws_toIntS_l xs hl xs.length 0 (by omega)).l0)


theorem laws_toRow_ev (x0 : List Int) (x1 : List Int) (x2 : List Int) (h_x0 : (x0.length ≤ 1048576)) (h_x1 : (x1.length ≤ 1048576)) (h_x2 : (x2.length ≤ 1048576)) : Does cp n_laws_toRow [.agg [.fs x0.length (x0.flatMap eI), .fs x1.length (x1.flatMap eI), .fs x2.length (x2.flatMap eI)]] [.agg [.fs x0.length (x0.flatMap eI), .fs x1.length (x1.flatMap eI), .fs x2.length (x2.flatMap eI)]] :=
  Ev.fn (fun k => F_laws_toRow k (x0).length ((x0).flatMap eI) (x1).length ((x1).flatMap eI) (x2).length ((x2).flatMap eI) ) (Ev.c (laws_toIntS_ev x0 h_x0) (Ev.c (laws_toIntS_ev x1 h_x1) (Ev.c (laws_toIntS_ev x2 h_x2) (Ev.now _))))


theorem laws_toRowS_l (xs : List TRow) (hl : xs.length ≤ 1048576) (hs : ∀ y ∈ xs, lenRow y) (d : Nat) : ∀ i : Nat, i + d = xs.length →
    Ev (fun k m _ _ => L_laws_toRowS_0 k m xs.length (xs.flatMap eRow) xs.length (i : Int) ((xs.take i).flatMap eRow ++ (List.replicate d ([.nils, .nils, .nils] : List AV)).flatten)) [.fs xs.length (xs.flatMap eRow)] := by
  induction d with
  | zero =>
    intro i hi
    refine Ev.step (fun k m _ _ => L_laws_toRowS_0_s k m _ _ _ _ _) (Ev.f (ltI_f (by rw [lenI_c]; omega)) (Ev.some_ ?_))
    rw [List.replicate_zero, List.flatten_nil, List.append_nil, List.take_of_length_le (by omega), cut_all eRow_len]
  | succ d ih =>
    intro i hi
    have c0 : cellAt (xs.flatMap eRow) (mulN (natI (i : Int)) 3) = .fs (xs[i]'(by omega)).1.length ((xs[i]'(by omega)).1.flatMap eI) := cell_enc0 eRow_len (by omega) (by decide)
    have c1 : cellAt (xs.flatMap eRow) (addN (mulN (natI (i : Int)) 3) 1) = .fs (xs[i]'(by omega)).2.1.length ((xs[i]'(by omega)).2.1.flatMap eI) := cell_enc eRow_len (by omega) 1 (by decide)
    have c2 : cellAt (xs.flatMap eRow) (addN (mulN (natI (i : Int)) 3) 2) = .fs (xs[i]'(by omega)).2.2.length ((xs[i]'(by omega)).2.2.flatMap eI) := cell_enc eRow_len (by omega) 2 (by decide)
    have hset : setMany ((xs.take i).flatMap eRow ++ (List.replicate (d + 1) ([.nils, .nils, .nils] : List AV)).flatten) (addN 0 (mulN (natI (i : Int)) 3)) ([.fs (xs[i]'(by omega)).1.length ((xs[i]'(by omega)).1.flatMap eI), .fs (xs[i]'(by omega)).2.1.length ((xs[i]'(by omega)).2.1.flatMap eI), .fs (xs[i]'(by omega)).2.2.length ((xs[i]'(by omega)).2.2.flatMap eI)] : List AV) = (xs.take (i + 1)).flatMap eRow ++ (List.replicate d ([.nils, .nils, .nils] : List AV)).flatten := by
      rw [addN_d, Nat.zero_add, natI_c, mulN_d, ← take_next xs i (by omega)]
      have hp : (xs.take i).length = i := by rw [List.length_take]; omega
      have := fill_at eRow_len (z := ([.nils, .nils, .nils] : List AV)) rfl (xs.take i) (xs[i]'(by omega)) d
      rw [hp] at this
      exact this
    have hb : Nat.ble (Nat.succ (Nat.succ (Nat.succ (addN 0 (mulN (natI (i : Int)) 3))))) (List.length ((xs.take i).flatMap eRow ++ (List.replicate (d + 1) ([.nils, .nils, .nils] : List AV)).flatten)) = true := by
      rw [fill_len eRow_len rfl, List.length_take]
      exact Nat.ble_eq_true_of_le (by rw [addN_d, natI_c, mulN_d, Nat.min_eq_left (by omega)]; omega)
    refine Ev.step (fun k m _ _ => L_laws_toRowS_0_s k m _ _ _ _ _) (Ev.t (ltI_t (by rw [lenI_c]; omega)) (Ev.g (inR_n (by omega)) ?_))
    simp only [c0, c1, c2, hdV_c, tlV_c, parts1_a, asInt_i, asBool_b, asStr_s, asLen_f, asCells_f]
    have hx := hs _ (List.getElem_mem (show i < xs.length by omega))
    refine Ev.g rfl (Ev.c (laws_toRow_ev (xs[i]'(by omega)).1 (xs[i]'(by omega)).2.1 (xs[i]'(by omega)).2.2 hx.1 hx.2.1 hx.2.2) (Ev.g (inR_n (by omega)) (Ev.g hb ?_)))
    simp only [hdV_c, tlV_c, parts1_a, asInt_i, asBool_b, asStr_s, asLen_f, asCells_f, wrS (show i < 9223372036854775807 by omega), hset]
    exact ih (i + 1) (by omega)
theorem laws_toRowS_ev (xs : List TRow) (hl : xs.length ≤ 1048576) (hs : ∀ y ∈ xs, lenRow y) : Does cp n_laws_toRowS [.fs xs.length (xs.flatMap eRow)] [.fs xs.length (xs.flatMap eRow)] :=
  Ev.fn (fun k => F_laws_toRowS k _ _) (Ev.g (fit_small hl (by decide)) (laws_toRowS_l xs hl hs xs.length 0 (by omega)).l0)


theorem laws_toSystem_ev (x0 : Int) (x1 : Int) (x2 : List TRow) (h_x2 : (x2.length ≤ 1048576 ∧ ∀ y ∈ x2, lenRow y)) : Does cp n_laws_toSystem [.agg [.int .i64 x0, .int .i64 x1, .fs x2.length (x2.flatMap eRow)]] [.agg [.int .i64 x0, .int .i64 x1, .fs x2.length (x2.flatMap eRow)]] :=
  Ev.fn (fun k => F_laws_toSystem k (x0) (x1) (x2).length ((x2).flatMap eRow) ) (Ev.c (laws_toRowS_ev x2 h_x2.1 h_x2.2) (Ev.now _))


theorem laws_eqIntS_l (xs : List Int) (hl : xs.length ≤ 1048576) (d : Nat) : ∀ i : Nat, i + d = xs.length →
    Ev (fun k m _ _ => L_laws_eqIntS_0 k m xs.length (xs.flatMap eI) xs.length (xs.flatMap eI) (i : Int)) [.bool true] := by
  induction d with
  | zero =>
    intro i hi
    exact Ev.step (fun k m _ _ => L_laws_eqIntS_0_s k m _ _ _ _ _) (Ev.f (ltI_f (by rw [lenI_c]; omega)) (Ev.now _))
  | succ d ih =>
    intro i hi
    have c0 : cellAt (xs.flatMap eI) (mulN (natI (i : Int)) 1) = .int .i64 (xs[i]'(by omega)) := cell_enc0 eI_len (by omega) (by decide)
    refine Ev.step (fun k m _ _ => L_laws_eqIntS_0_s k m _ _ _ _ _) (Ev.t (ltI_t (by rw [lenI_c]; omega)) (Ev.g (inR_n (by omega)) ?_))
    simp only [c0, hdV_c, tlV_c, parts1_a, asInt_i, asBool_b, asStr_s, asLen_f, asCells_f]
    refine Ev.g rfl (Ev.g (inR_n (by omega)) (Ev.g rfl (Ev.f (by rw [eqI_t rfl]; rfl) ?_)))
    simp only [wrS (show i < 9223372036854775807 by omega)]
    exact ih (i + 1) (by omega)
theorem laws_eqIntS_same (xs : List Int) (hl : xs.length ≤ 1048576) : Does cp n_laws_eqIntS [.fs xs.length (xs.flatMap eI), .fs xs.length (xs.flatMap eI)] [.bool true] :=
  Ev.fn (fun k => F_laws_eqIntS k _ _ _ _) (Ev.f (by rw [eqI_t rfl]; rfl) (laws_eqIntS_l xs hl xs.length 0 (by omega)).l0)


theorem laws_eqRow_same (x0 : List Int) (x1 : List Int) (x2 : List Int) (h_x0 : (x0.length ≤ 1048576)) (h_x1 : (x1.length ≤ 1048576)) (h_x2 : (x2.length ≤ 1048576)) : Does cp n_laws_eqRow [.agg [.fs x0.length (x0.flatMap eI), .fs x1.length (x1.flatMap eI), .fs x2.length (x2.flatMap eI)], .agg [.fs x0.length (x0.flatMap eI), .fs x1.length (x1.flatMap eI), .fs x2.length (x2.flatMap eI)]] [.bool true] :=
  Ev.fn (fun k => F_laws_eqRow k (x0).length ((x0).flatMap eI) (x1).length ((x1).flatMap eI) (x2).length ((x2).flatMap eI) (x0).length ((x0).flatMap eI) (x1).length ((x1).flatMap eI) (x2).length ((x2).flatMap eI) ) (Ev.c (laws_eqIntS_same x0 h_x0) (Ev.f rfl (Ev.c (laws_eqIntS_same x1 h_x1) (Ev.f rfl (Ev.c (laws_eqIntS_same x2 h_x2) (Ev.f rfl (Ev.now _)))))))


theorem laws_eqRowS_l (xs : List TRow) (hl : xs.length ≤ 1048576) (hs : ∀ y ∈ xs, lenRow y) (d : Nat) : ∀ i : Nat, i + d = xs.length →
    Ev (fun k m _ _ => L_laws_eqRowS_0 k m xs.length (xs.flatMap eRow) xs.length (xs.flatMap eRow) (i : Int)) [.bool true] := by
  induction d with
  | zero =>
    intro i hi
    exact Ev.step (fun k m _ _ => L_laws_eqRowS_0_s k m _ _ _ _ _) (Ev.f (ltI_f (by rw [lenI_c]; omega)) (Ev.now _))
  | succ d ih =>
    intro i hi
    have c0 : cellAt (xs.flatMap eRow) (mulN (natI (i : Int)) 3) = .fs (xs[i]'(by omega)).1.length ((xs[i]'(by omega)).1.flatMap eI) := cell_enc0 eRow_len (by omega) (by decide)
    have c1 : cellAt (xs.flatMap eRow) (addN (mulN (natI (i : Int)) 3) 1) = .fs (xs[i]'(by omega)).2.1.length ((xs[i]'(by omega)).2.1.flatMap eI) := cell_enc eRow_len (by omega) 1 (by decide)
    have c2 : cellAt (xs.flatMap eRow) (addN (mulN (natI (i : Int)) 3) 2) = .fs (xs[i]'(by omega)).2.2.length ((xs[i]'(by omega)).2.2.flatMap eI) := cell_enc eRow_len (by omega) 2 (by decide)
    refine Ev.step (fun k m _ _ => L_laws_eqRowS_0_s k m _ _ _ _ _) (Ev.t (ltI_t (by rw [lenI_c]; omega)) (Ev.g (inR_n (by omega)) ?_))
    simp only [c0, c1, c2, hdV_c, tlV_c, parts1_a, asInt_i, asBool_b, asStr_s, asLen_f, asCells_f]
    have hx := hs _ (List.getElem_mem (show i < xs.length by omega))
    refine Ev.g rfl (Ev.g (inR_n (by omega)) (Ev.g rfl (Ev.c (laws_eqRow_same (xs[i]'(by omega)).1 (xs[i]'(by omega)).2.1 (xs[i]'(by omega)).2.2 hx.1 hx.2.1 hx.2.2) (Ev.f rfl ?_))))
    simp only [wrS (show i < 9223372036854775807 by omega)]
    exact ih (i + 1) (by omega)
theorem laws_eqRowS_same (xs : List TRow) (hl : xs.length ≤ 1048576) (hs : ∀ y ∈ xs, lenRow y) : Does cp n_laws_eqRowS [.fs xs.length (xs.flatMap eRow), .fs xs.length (xs.flatMap eRow)] [.bool true] :=
  Ev.fn (fun k => F_laws_eqRowS k _ _ _ _) (Ev.f (by rw [eqI_t rfl]; rfl) (laws_eqRowS_l xs hl hs xs.length 0 (by omega)).l0)


theorem laws_eqSystem_same (x0 : Int) (x1 : Int) (x2 : List TRow) (h_x2 : (x2.length ≤ 1048576 ∧ ∀ y ∈ x2, lenRow y)) : Does cp n_laws_eqSystem [.agg [.int .i64 x0, .int .i64 x1, .fs x2.length (x2.flatMap eRow)], .agg [.int .i64 x0, .int .i64 x1, .fs x2.length (x2.flatMap eRow)]] [.bool true] :=
  Ev.fn (fun k => F_laws_eqSystem k (x0) (x1) (x2).length ((x2).flatMap eRow) (x0) (x1) (x2).length ((x2).flatMap eRow) ) (Ev.f (by rw [eqI_t rfl]; rfl) (Ev.f (by rw [eqI_t rfl]; rfl) (Ev.c (laws_eqRowS_same x2 h_x2.1 h_x2.2) (Ev.f rfl (Ev.now _)))))


theorem laws_toToxic_ev (x0 : Int) (x1 : Int) (x2 : Int) (x3 : Int) (x4 : Int) : Does cp n_laws_toToxic [.agg [.int .i64 x0, .int .i64 x1, .int .i64 x2, .int .i64 x3, .int .i64 x4]] [.agg [.int .i64 x0, .int .i64 x1, .int .i64 x2, .int .i64 x3, .int .i64 x4]] :=
  Ev.fn (fun k => F_laws_toToxic k (x0) (x1) (x2) (x3) (x4) ) (Ev.now _)


theorem laws_eqPoint_same (x0 : Int) (x1 : Int) (x2 : Bool) : Does cp n_laws_eqPoint [.agg [.int .i64 x0, .int .i64 x1, .bool x2], .agg [.int .i64 x0, .int .i64 x1, .bool x2]] [.bool true] :=
  Ev.fn (fun k => F_laws_eqPoint k (x0) (x1) (x2) (x0) (x1) (x2) ) (Ev.f (by rw [eqI_t rfl]; rfl) (Ev.f (by rw [eqI_t rfl]; rfl) (Ev.f (by rw [eqB_d]; simp [notB]) (Ev.now _))))


theorem laws_eqProof_same (x0 : Int) (x1 : Int) (x2 : Bool) (x3 : Int) (x4 : Int) (x5 : Bool) (x6 : Int) (x7 : Int) (x8 : Bool) : Does cp n_laws_eqProof [.agg [.int .i64 x0, .int .i64 x1, .bool x2, .int .i64 x3, .int .i64 x4, .bool x5, .int .i64 x6, .int .i64 x7, .bool x8], .agg [.int .i64 x0, .int .i64 x1, .bool x2, .int .i64 x3, .int .i64 x4, .bool x5, .int .i64 x6, .int .i64 x7, .bool x8]] [.bool true] :=
  Ev.fn (fun k => F_laws_eqProof k (x0) (x1) (x2) (x3) (x4) (x5) (x6) (x7) (x8) (x0) (x1) (x2) (x3) (x4) (x5) (x6) (x7) (x8) ) (Ev.c (laws_eqPoint_same x0 x1 x2) (Ev.f rfl (Ev.c (laws_eqPoint_same x3 x4 x5) (Ev.f rfl (Ev.c (laws_eqPoint_same x6 x7 x8) (Ev.f rfl (Ev.now _)))))))


theorem fkOut_form (w p : Int) (rows : List TRow) (ta al be ga de : Int) (ns : List Int) (a b : Int) : ∃ (x y u v s t : Int) (f g h z : Bool), fkOut w p rows ta al be ga de ns a b = [.agg [.int .i64 x, .int .i64 y, .bool f, .int .i64 u, .int .i64 v, .bool g, .int .i64 s, .int .i64 t, .bool h], .bool z] := by
  unfold fkOut
  split
  · exact ⟨_, _, _, _, _, _, _, _, _, _, rfl⟩
  · exact ⟨_, _, _, _, _, _, _, _, _, _, rfl⟩
theorem law_FakeProof (w p : Int) (rows : List TRow) (ta al be ga de : Int) (ns : List Int) (a b : Int) (z1 : rows.length ≤ 9223372036854775807 ∧ ∀ y ∈ rows, bigRow y) :
    ∃ k, evF cp k n_laws_FnExactFakeProof [.agg [.int .i64 w, .int .i64 p, .fs rows.length (rows.flatMap eRow)], .agg [.int .i64 ta, .int .i64 al, .int .i64 be, .int .i64 ga, .int .i64 de], .fs ns.length (ns.flatMap eI), .int .i64 a, .int .i64 b] = some [.bool true] := by
  apply Ev.rounds
  refine Ev.fn (fun k => F_laws_FnExactFakeProof k _ _ _ _ _ _ _ _ _ _ _ _ _) ?_
  by_cases h : 1048576 < (ns.length : Int)
  · exact Ev.t (ltI_t (by rw [lenI_c]; exact h)) (Ev.now _)
  have hw : ns.length ≤ 1048576 := by omega
  refine Ev.f (ltI_f (by rw [lenI_c]; exact h)) ?_
  obtain ⟨r, e, pr⟩ := laws_szSystem_ev w p rows z1 1048576 (by omega) (by omega)
  refine Ev.c e ?_
  by_cases h0 : r < 0
  · exact Ev.t (ltI_t h0) (Ev.now _)
  refine Ev.f (ltI_f h0) ?_
  obtain ⟨_, hb, hs⟩ := pr (by omega)
  have hr : ∀ y ∈ rows, lenRow y := fun y hy => hs y hy
  have et := laws_toSystem_ev w p rows ⟨hb, hr⟩
  have ex := laws_toToxic_ev ta al be ga de
  have en := laws_toIntS_ev ns hw
  have e1 := spec_FakeProof_ev w p rows ta al be ga de ns a b hb hr
  have e2 := impl_FakeProof_ev w p rows ta al be ga de ns a b hb hr
  obtain ⟨x, y, u, v, s, t, f, g, hh, z, ef⟩ := fkOut_form w p rows ta al be ga de ns a b
  rw [ef] at e1 e2
  refine Ev.c et (Ev.c ex (Ev.c en (Ev.c e1 (Ev.c et (Ev.c en (Ev.c ex (Ev.c e2 (Ev.c (laws_eqProof_same x y f u v g s t hh) (Ev.f rfl (Ev.f ?_ (Ev.c et (Ev.c (laws_eqSystem_same w p rows ⟨hb, hr⟩) (Ev.f rfl (Ev.c en (Ev.c (laws_eqIntS_same ns hw) (Ev.f rfl (Ev.now _)))))))))))))))))
  simp only [hdV_c, tlV_c, parts1_a, asInt_i, asBool_b, asStr_s, asLen_f, asCells_f, eqB_d]
  simp [notB]


end Go.Proofs.Ytegchimmolpmeaa.FnExactFakeProof
