/- FnExactClientOk, the pure part: both say the same of every client. No conditions. -/
import Derived.Test.YtegchimmolpmeaaQFnExactClientOkx11
import Derived.Test.YtegchimmolpmeaaKindsFnExactClientOk
import Derived.Test.YtegchimmolpmeaaPLbaseFnExactClientOk
namespace Go.Proofs.Ytegchimmolpmeaa.Pure
open Go Go.RowKit Go.Proofs.Ytegchimmolpmeaa.QFnExactClientOk Go.Proofs.YtegchimmolpmeaaW.PrintWords Go.Proofs.YtegchimmolpmeaaW.PrintLast Go.Proofs.YtegchimmolpmeaaW.PrintMore Go.Proofs.Ytegchimmolpmeaa.PL
set_option linter.unusedVariables false
set_option linter.unusedSimpArgs false

-- gen.py
theorem szHead_ev (x0 : Int) (x1 : ByteArray) (x2 : ByteArray) (x3 : ByteArray) (h_x1 : x1.size ≤ 9223372036854775807) (h_x2 : x2.size ≤ 9223372036854775807) (h_x3 : x3.size ≤ 9223372036854775807) (v : Int) (h0 : 0 ≤ v) (h1 : v ≤ 1048576) :
    ∃ r, Ev (fun k => laws_szHead.f x0 x1 x2 x3 v) r ∧ (0 ≤ r → r ≤ v ∧ x1.size ≤ 1048576 ∧ x2.size ≤ 1048576 ∧ x3.size ≤ 1048576) := by
  unfold laws_szHead.f
  have e2 : wrap64 (v - (x1.size : Int)) = v - (x1.size : Int) := w64 (by omega)
  simp only [e2]
  by_cases c2 : v - (x1.size : Int) < 0
  · exact ⟨-1, Ev.pos c2 (Ev.now _), fun h => by omega⟩
  have e3 : wrap64 ((v - (x1.size : Int)) - (x2.size : Int)) = (v - (x1.size : Int)) - (x2.size : Int) := w64 (by omega)
  simp only [e3]
  by_cases c3 : (v - (x1.size : Int)) - (x2.size : Int) < 0
  · exact ⟨-1, Ev.neg c2 (Ev.pos c3 (Ev.now _)), fun h => by omega⟩
  have e4 : wrap64 (((v - (x1.size : Int)) - (x2.size : Int)) - (x3.size : Int)) = ((v - (x1.size : Int)) - (x2.size : Int)) - (x3.size : Int) := w64 (by omega)
  simp only [e4]
  by_cases c4 : ((v - (x1.size : Int)) - (x2.size : Int)) - (x3.size : Int) < 0
  · exact ⟨-1, Ev.neg c2 (Ev.neg c3 (Ev.pos c4 (Ev.now _))), fun h => by omega⟩
  exact ⟨(((v - (x1.size : Int)) - (x2.size : Int)) - (x3.size : Int)), Ev.neg c2 (Ev.neg c3 (Ev.neg c4 (Ev.now _))), fun h => ⟨by omega, (by omega), (by omega), (by omega)⟩⟩

-- gen.py
theorem szPointS_ev (l : List S23) (hl : l.length ≤ 9223372036854775807) (v : Int) (h0 : 0 ≤ v) (h1 : v ≤ 1048576) : ∃ r, Ev (fun k => laws_szPointS.f l v) r ∧ (0 ≤ r → r ≤ v ∧ l.length ≤ 1048576) := by
  unfold laws_szPointS.f
  have e : wrap64 (v - (l.length : Int)) = v - (l.length : Int) := w64 (by omega)
  rw [e]
  by_cases c : v - (l.length : Int) < 0
  · exact ⟨-1, Ev.pos c (Ev.now _), fun h => by omega⟩
  · exact ⟨_, Ev.neg c (Ev.now _), fun h => ⟨by omega, by omega⟩⟩

-- gen.py
theorem szCommittee_ev (x0 : List S23) (h_x0 : (x0.length ≤ 9223372036854775807 ∧ ∀ y ∈ x0, wf23 y)) (v : Int) (h0 : 0 ≤ v) (h1 : v ≤ 1048576) :
    ∃ r, Ev (fun k => laws_szCommittee.f x0 v) r ∧ (0 ≤ r → r ≤ v ∧ x0.length ≤ 1048576) := by
  unfold laws_szCommittee.f
  obtain ⟨r1, e1, p1⟩ := szPointS_ev x0 h_x0.1 v (by omega) (by omega)
  by_cases c1 : r1 < 0
  · exact ⟨-1, Ev.bind e1 (Ev.pos c1 (Ev.now _)), fun h => by omega⟩
  obtain ⟨g1, s1⟩ := p1 (by omega)
  exact ⟨r1, Ev.bind e1 (Ev.neg c1 (Ev.now _)), fun h => ⟨by omega, s1⟩⟩

-- gen.py
theorem szKeys_ev (x0 : Int) (x1 : Int) (x2 : Bool) (x3 : Int) (x4 : Int) (x5 : Bool) (x6 : Int) (x7 : Int) (x8 : Bool) (x9 : Int) (x10 : Int) (x11 : Bool) (x12 : List S23) (h_x12 : (x12.length ≤ 9223372036854775807 ∧ ∀ y ∈ x12, wf23 y)) (v : Int) (h0 : 0 ≤ v) (h1 : v ≤ 1048576) :
    ∃ r, Ev (fun k => laws_szKeys.f x0 x1 x2 x3 x4 x5 x6 x7 x8 x9 x10 x11 x12 v) r ∧ (0 ≤ r → r ≤ v ∧ x12.length ≤ 1048576) := by
  unfold laws_szKeys.f
  obtain ⟨r5, e5, p5⟩ := szPointS_ev x12 h_x12.1 v (by omega) (by omega)
  by_cases c5 : r5 < 0
  · exact ⟨-1, Ev.bind e5 (Ev.pos c5 (Ev.now _)), fun h => by omega⟩
  obtain ⟨g5, s5⟩ := p5 (by omega)
  exact ⟨r5, Ev.bind e5 (Ev.neg c5 (Ev.now _)), fun h => ⟨by omega, s5⟩⟩

-- gen.py
theorem szClient_ev (x0 : Int) (x1 : ByteArray) (x2 : ByteArray) (x3 : ByteArray) (x4 : List S23) (x5 : List S23) (x6 : Bool) (x7 : Int) (x8 : Int) (x9 : Bool) (x10 : Int) (x11 : Int) (x12 : Bool) (x13 : Int) (x14 : Int) (x15 : Bool) (x16 : Int) (x17 : Int) (x18 : Bool) (x19 : List S23) (h_x1 : x1.size ≤ 9223372036854775807) (h_x2 : x2.size ≤ 9223372036854775807) (h_x3 : x3.size ≤ 9223372036854775807) (h_x4 : (x4.length ≤ 9223372036854775807 ∧ ∀ y ∈ x4, wf23 y)) (h_x5 : (x5.length ≤ 9223372036854775807 ∧ ∀ y ∈ x5, wf23 y)) (h_x19 : (x19.length ≤ 9223372036854775807 ∧ ∀ y ∈ x19, wf23 y)) (v : Int) (h0 : 0 ≤ v) (h1 : v ≤ 1048576) :
    ∃ r, Ev (fun k => laws_szClient.f x0 x1 x2 x3 x4 x5 x6 x7 x8 x9 x10 x11 x12 x13 x14 x15 x16 x17 x18 x19 v) r ∧ (0 ≤ r → r ≤ v ∧ x1.size ≤ 1048576 ∧ x2.size ≤ 1048576 ∧ x3.size ≤ 1048576 ∧ x4.length ≤ 1048576 ∧ x5.length ≤ 1048576 ∧ x19.length ≤ 1048576) := by
  unfold laws_szClient.f
  obtain ⟨r1, e1, p1⟩ := szHead_ev x0 x1 x2 x3 h_x1 h_x2 h_x3 v (by omega) (by omega)
  by_cases c1 : r1 < 0
  · exact ⟨-1, Ev.bind e1 (Ev.pos c1 (Ev.now _)), fun h => by omega⟩
  obtain ⟨g1, ⟨s1_1, s1_2, s1_3⟩⟩ := p1 (by omega)
  obtain ⟨r2, e2, p2⟩ := szCommittee_ev x4 h_x4 r1 (by omega) (by omega)
  by_cases c2 : r2 < 0
  · exact ⟨-1, Ev.bind e1 (Ev.neg c1 (Ev.bind e2 (Ev.pos c2 (Ev.now _)))), fun h => by omega⟩
  obtain ⟨g2, s2_0⟩ := p2 (by omega)
  obtain ⟨r3, e3, p3⟩ := szCommittee_ev x5 h_x5 r2 (by omega) (by omega)
  by_cases c3 : r3 < 0
  · exact ⟨-1, Ev.bind e1 (Ev.neg c1 (Ev.bind e2 (Ev.neg c2 (Ev.bind e3 (Ev.pos c3 (Ev.now _)))))), fun h => by omega⟩
  obtain ⟨g3, s3_0⟩ := p3 (by omega)
  obtain ⟨r5, e5, p5⟩ := szKeys_ev x7 x8 x9 x10 x11 x12 x13 x14 x15 x16 x17 x18 x19 h_x19 r3 (by omega) (by omega)
  by_cases c5 : r5 < 0
  · exact ⟨-1, Ev.bind e1 (Ev.neg c1 (Ev.bind e2 (Ev.neg c2 (Ev.bind e3 (Ev.neg c3 (Ev.bind e5 (Ev.pos c5 (Ev.now _)))))))), fun h => by omega⟩
  obtain ⟨g5, s5_12⟩ := p5 (by omega)
  exact ⟨r5, Ev.bind e1 (Ev.neg c1 (Ev.bind e2 (Ev.neg c2 (Ev.bind e3 (Ev.neg c3 (Ev.bind e5 (Ev.neg c5 (Ev.now _)))))))), fun h => ⟨by omega, s1_1, s1_2, s1_3, s2_0, s3_0, s5_12⟩⟩

-- gen.py
theorem toHead_ev (x0 : Int) (x1 : ByteArray) (x2 : ByteArray) (x3 : ByteArray)  : Ev (fun k => laws_toHead.f x0 x1 x2 x3) (x0, x1, x2, x3) := by
  unfold laws_toHead.f
  exact Ev.now _

-- gen.py
theorem toPoint_ev (x0 : Int) (x1 : Int) (x2 : Bool)  : Ev (fun k => laws_toPoint.f x0 x1 x2) (x0, x1, x2) := by
  unfold laws_toPoint.f
  exact Ev.now _

-- gen.py
def cvPoint (x : S23) : S28 := ⟨x.f0, x.f1, x.f2⟩
theorem toPointS_l (x0 : List S23) (hb : x0.length ≤ 1048576) (n : Nat) : ∀ (i : Nat) (x3 : List S28), i + n = x0.length → x3.length = x0.length → x3.take i = (x0.map cvPoint).take i →
    Ev (fun k => laws_toPointS.l0 k x0 x3 (i : Int)) (x0.map cvPoint) := by
  induction n with
  | zero =>
    intro i x3 hi hl ht
    refine Ev.step (fun k => by rw [laws_toPointS.l0, if_neg (by omega)]) (Ev.some_ ?_)
    have hi' : i = x0.length := by omega
    subst hi'
    exact fill_done cvPoint x0 x3 hl ht
  | succ n ih =>
    intro i x3 hi hl ht
    have hg : rd_T23 x0 (i : Int) = x0[i]'(by omega) := getD_get' _ x0 i (by omega)
    have et := toPoint_ev (x0[i]'(by omega)).f0 (x0[i]'(by omega)).f1 (x0[i]'(by omega)).f2 
    refine Ev.step (fun k => by rw [laws_toPointS.l0, if_pos (by omega), if_pos (by omega), hg]) ?_
    refine Ev.bind et (Ev.pos (by omega) ?_)
    rw [wNat (by omega), Int.toNat_natCast]
    exact ih (i + 1) _ (by omega) (by simp [hl]) (fill_step cvPoint x0 x3 i (by omega) hl ht)
theorem toPointS_ev (x0 : List S23) (hb : x0.length ≤ 1048576) : Ev (fun k => laws_toPointS.f k x0) (x0.map cvPoint) := by
  unfold laws_toPointS.f
  refine Ev.pos (by omega) (Ev.pos (by omega) ?_)
  exact toPointS_l x0 hb x0.length 0 _ (by omega) (by simp) (by simp)

-- gen.py
theorem toCommittee_ev (x0 : List S23) (h_x0 : x0.length ≤ 1048576) : Ev (fun k => laws_toCommittee.f k x0) (x0.map cvPoint) := by
  unfold laws_toCommittee.f
  exact Ev.bind (toPointS_ev x0 h_x0) (Ev.now _)

-- gen.py
theorem toKeys_ev (x0 : Int) (x1 : Int) (x2 : Bool) (x3 : Int) (x4 : Int) (x5 : Bool) (x6 : Int) (x7 : Int) (x8 : Bool) (x9 : Int) (x10 : Int) (x11 : Bool) (x12 : List S23) (h_x12 : x12.length ≤ 1048576) : Ev (fun k => laws_toKeys.f k x0 x1 x2 x3 x4 x5 x6 x7 x8 x9 x10 x11 x12) (x0, x1, x2, x3, x4, x5, x6, x7, x8, x9, x10, x11, (x12.map cvPoint)) := by
  unfold laws_toKeys.f
  exact Ev.bind (toPoint_ev x0 x1 x2 ) (Ev.bind (toPoint_ev x3 x4 x5 ) (Ev.bind (toPoint_ev x6 x7 x8 ) (Ev.bind (toPoint_ev x9 x10 x11 ) (Ev.bind (toPointS_ev x12 h_x12) (Ev.now _)))))

-- gen.py
theorem toClient_ev (x0 : Int) (x1 : ByteArray) (x2 : ByteArray) (x3 : ByteArray) (x4 : List S23) (x5 : List S23) (x6 : Bool) (x7 : Int) (x8 : Int) (x9 : Bool) (x10 : Int) (x11 : Int) (x12 : Bool) (x13 : Int) (x14 : Int) (x15 : Bool) (x16 : Int) (x17 : Int) (x18 : Bool) (x19 : List S23) (h_x4 : x4.length ≤ 1048576) (h_x5 : x5.length ≤ 1048576) (h_x19 : x19.length ≤ 1048576) : Ev (fun k => laws_toClient.f k x0 x1 x2 x3 x4 x5 x6 x7 x8 x9 x10 x11 x12 x13 x14 x15 x16 x17 x18 x19) (x0, x1, x2, x3, (x4.map cvPoint), (x5.map cvPoint), x6, x7, x8, x9, x10, x11, x12, x13, x14, x15, x16, x17, x18, (x19.map cvPoint)) := by
  unfold laws_toClient.f
  exact Ev.bind (toHead_ev x0 x1 x2 x3 ) (Ev.bind (toCommittee_ev x4 h_x4) (Ev.bind (toCommittee_ev x5 h_x5) (Ev.bind (toKeys_ev x7 x8 x9 x10 x11 x12 x13 x14 x15 x16 x17 x18 x19 h_x19) (Ev.now _))))

-- gen.py
theorem eqHead_same (x0 : Int) (x1 : ByteArray) (x2 : ByteArray) (x3 : ByteArray)  : Ev (fun k => laws_eqHead.f x0 x1 x2 x3 x0 x1 x2 x3) true := by
  unfold laws_eqHead.f
  exact Ev.pos rfl (Ev.pos rfl (Ev.pos rfl (Ev.pos rfl (Ev.now _))))

-- gen.py
theorem eqPoint_same (x0 : Int) (x1 : Int) (x2 : Bool)  : Ev (fun k => laws_eqPoint.f x0 x1 x2 x0 x1 x2) true := by
  unfold laws_eqPoint.f
  exact Ev.pos rfl (Ev.pos rfl (Ev.neg (by simp) (Ev.now _)))

-- gen.py
theorem eqPointS_l (x0 : List S28) (hb : x0.length ≤ 281474976710656) (n : Nat) : ∀ (i : Nat), i + n = x0.length → Ev (fun k => laws_eqPointS.l0 k x0 x0 (i : Int)) true := by
  induction n with
  | zero =>
    intro i hi
    exact Ev.step (fun k => by rw [laws_eqPointS.l0, if_neg (by omega)]) (Ev.now _)
  | succ n ih =>
    intro i hi
    have hg : rd_T28 x0 (i : Int) = x0[i]'(by omega) := getD_get' _ x0 i (by omega)
    have et := eqPoint_same (x0[i]'(by omega)).f0 (x0[i]'(by omega)).f1 (x0[i]'(by omega)).f2 
    refine Ev.step (fun k => by rw [laws_eqPointS.l0, if_pos (by omega), if_pos (by omega), if_pos (by omega), hg, wNat (by omega)]) ?_
    refine Ev.bind et (Ev.pos rfl ?_)
    exact ih (i + 1) (by omega)
theorem eqPointS_same (x0 : List S28) (hb : x0.length ≤ 281474976710656) : Ev (fun k => laws_eqPointS.f k x0 x0) true := by
  unfold laws_eqPointS.f
  exact Ev.pos rfl (eqPointS_l x0 hb x0.length 0 (by omega))

-- gen.py
theorem eqCommittee_same (x0 : List S28) (h_x0 : x0.length ≤ 281474976710656) : Ev (fun k => laws_eqCommittee.f k x0 x0) true := by
  unfold laws_eqCommittee.f
  exact Ev.bind (eqPointS_same x0 h_x0) (Ev.pos rfl (Ev.now _))

-- gen.py
theorem eqKeys_same (x0 : Int) (x1 : Int) (x2 : Bool) (x3 : Int) (x4 : Int) (x5 : Bool) (x6 : Int) (x7 : Int) (x8 : Bool) (x9 : Int) (x10 : Int) (x11 : Bool) (x12 : List S28) (h_x12 : x12.length ≤ 281474976710656) : Ev (fun k => laws_eqKeys.f k x0 x1 x2 x3 x4 x5 x6 x7 x8 x9 x10 x11 x12 x0 x1 x2 x3 x4 x5 x6 x7 x8 x9 x10 x11 x12) true := by
  unfold laws_eqKeys.f
  exact Ev.bind (eqPoint_same x0 x1 x2 ) (Ev.pos rfl (Ev.bind (eqPoint_same x3 x4 x5 ) (Ev.pos rfl (Ev.bind (eqPoint_same x6 x7 x8 ) (Ev.pos rfl (Ev.bind (eqPoint_same x9 x10 x11 ) (Ev.pos rfl (Ev.bind (eqPointS_same x12 h_x12) (Ev.pos rfl (Ev.now _))))))))))

-- gen.py
theorem eqClient_same (x0 : Int) (x1 : ByteArray) (x2 : ByteArray) (x3 : ByteArray) (x4 : List S28) (x5 : List S28) (x6 : Bool) (x7 : Int) (x8 : Int) (x9 : Bool) (x10 : Int) (x11 : Int) (x12 : Bool) (x13 : Int) (x14 : Int) (x15 : Bool) (x16 : Int) (x17 : Int) (x18 : Bool) (x19 : List S28) (h_x4 : x4.length ≤ 281474976710656) (h_x5 : x5.length ≤ 281474976710656) (h_x19 : x19.length ≤ 281474976710656) : Ev (fun k => laws_eqClient.f k x0 x1 x2 x3 x4 x5 x6 x7 x8 x9 x10 x11 x12 x13 x14 x15 x16 x17 x18 x19 x0 x1 x2 x3 x4 x5 x6 x7 x8 x9 x10 x11 x12 x13 x14 x15 x16 x17 x18 x19) true := by
  unfold laws_eqClient.f
  exact Ev.bind (eqHead_same x0 x1 x2 x3 ) (Ev.pos rfl (Ev.bind (eqCommittee_same x4 h_x4) (Ev.pos rfl (Ev.bind (eqCommittee_same x5 h_x5) (Ev.pos rfl (Ev.neg (by simp) (Ev.bind (eqKeys_same x7 x8 x9 x10 x11 x12 x13 x14 x15 x16 x17 x18 x19 h_x19) (Ev.pos rfl (Ev.now _)))))))))

def headOk (s : Int) (p t b : ByteArray) : Bool := decide (0 ≤ s ∧ s ≤ 10000) && (decide (p.size = 32) && (decide (t.size = 32) && decide (b.size = 32)))
theorem beq32 (b : ByteArray) : ((b.size : Int) == 32) = decide (b.size = 32) := by
  rw [beq_dec]; exact decide_eq_decide.2 (by omega)

/-! Numbers modulo 12107 (a prime), and the curve y^2 = x^3 + x over them. -/
def chkFermat (e : Nat) : Nat → Bool
  | 0 => true
  | n + 1 => (n == 0 || n ^ e % 12107 == 1) && chkFermat e n
theorem chkFermat_spec (e : Nat) : ∀ {m n : Nat}, chkFermat e m = true → n < m → n ≠ 0 → n ^ e % 12107 = 1 := by
  intro m
  induction m with
  | zero => intro n _ h; omega
  | succ m ih =>
    intro n h hn h0
    rw [chkFermat, Bool.and_eq_true, Bool.or_eq_true] at h
    rcases Nat.lt_succ_iff_lt_or_eq.1 hn with h1 | h1
    · exact ih h.2 h1 h0
    · subst h1
      rcases h.1 with h2 | h2
      · exact absurd (by simpa using h2) h0
      · simpa using h2
theorem chkFermat_true : chkFermat 12106 12107 = true := by decide +kernel
theorem emod2 (a b : Int) : a * (b % 12107) % 12107 = a * b % 12107 := by
  rw [Int.mul_emod, Int.emod_emod_of_dvd _ (Int.dvd_refl _), ← Int.mul_emod]
theorem pow_emod (x : Int) (n : Nat) : x ^ n % 12107 = (x % 12107) ^ n % 12107 := by
  induction n with
  | zero => rw [Int.pow_zero, Int.pow_zero]
  | succ n ih => rw [Int.pow_succ, Int.pow_succ, Int.mul_emod, ih, ← Int.mul_emod, emod2]
theorem pow_inv (x : Int) (e : Nat) (h : (x % 12107).toNat ^ (e + 1) % 12107 = 1) : x * (x ^ e % 12107) % 12107 = 1 := by
  have h3 : (((x % 12107).toNat : Nat) : Int) = x % 12107 := by omega
  have h4 := congrArg (fun (n : Nat) => (n : Int)) h
  simp only [Int.natCast_emod, Int.natCast_pow, h3] at h4
  rw [emod2, Int.mul_comm, ← Int.pow_succ, pow_emod]
  exact h4
theorem pow_inv_of (e : Nat) (hc : chkFermat (e + 1) 12107 = true) {x : Int} (h : x % 12107 ≠ 0) : x * (x ^ e % 12107) % 12107 = 1 :=
  pow_inv x e (chkFermat_spec (e + 1) hc (by omega) (by omega))

abbrev F := Fin 12107
def ph (x : Int) : F := @Int.cast F Lean.Grind.Ring.intCast x
theorem ph_iff {x y : Int} : ph x = ph y ↔ x % 12107 = y % 12107 := Lean.Grind.IsCharP.intCast_ext_iff 12107
theorem ph_add (x y : Int) : ph (x + y) = ph x + ph y := Lean.Grind.Ring.intCast_add x y
theorem ph_sub (x y : Int) : ph (x - y) = ph x - ph y := Lean.Grind.Ring.intCast_sub x y
theorem ph_mul (x y : Int) : ph (x * y) = ph x * ph y := Lean.Grind.Ring.intCast_mul x y
theorem ph_neg (x : Int) : ph (-x) = - ph x := Lean.Grind.Ring.intCast_neg x
theorem ph_mod (x : Int) : ph (x % 12107) = ph x := ph_iff.2 (Int.emod_emod_of_dvd x (Int.dvd_refl _))
theorem ph_zero : ph 0 = 0 := Lean.Grind.Ring.intCast_zero
theorem ph_one : ph 1 = 1 := Lean.Grind.Ring.intCast_one
theorem ph_two : ph 2 = 2 := Lean.Grind.Ring.intCast_ofNat 2
theorem ph_three : ph 3 = 3 := Lean.Grind.Ring.intCast_ofNat 3
theorem ph_eq0 {x : Int} : ph x = 0 ↔ x % 12107 = 0 := by rw [← ph_zero, ph_iff]; rfl
theorem ph_inj {x y : Int} (hx : 0 ≤ x ∧ x < 12107) (hy : 0 ≤ y ∧ y < 12107) (h : ph x = ph y) : x = y := by
  have := ph_iff.1 h
  omega

@[irreducible] def fpow (x : Int) (n : Nat) : Int := x ^ n % 12107
theorem fpow_range (x : Int) (n : Nat) : 0 ≤ fpow x n ∧ fpow x n < 12107 := by unfold fpow; omega
def finv (x : Int) : Int := fpow x 12105
theorem finv_range (x : Int) : 0 ≤ finv x ∧ finv x < 12107 := fpow_range x _
theorem finv_mod {x : Int} (h : x % 12107 ≠ 0) : x * finv x % 12107 = 1 := by
  unfold finv fpow
  exact pow_inv_of 12105 chkFermat_true h
theorem finv_ph {x : Int} (h : ph x ≠ 0) : ph x * ph (finv x) = 1 := by
  rw [← ph_mul, ← ph_one, ph_iff]
  exact finv_mod (fun h1 => h (ph_eq0.2 h1))
theorem F_mul0 {a b : Int} (h : ph a * ph b = 0) (ha : ph a ≠ 0) : ph b = 0 := by
  have h1 := finv_ph ha
  have h2 : ph (finv a) * (ph a * ph b) = 0 := by rw [h]; grind
  grind

/-- a point: x, y, and whether it is the point at infinity. -/
abbrev Pt := Int × Int × Bool
def pRight (p : Pt) : Prop := (p.2.2 = true ∧ p.1 = 0 ∧ p.2.1 = 0) ∨
  (p.2.2 = false ∧ (0 ≤ p.1 ∧ p.1 ≤ 12106) ∧ (0 ≤ p.2.1 ∧ p.2.1 ≤ 12106) ∧ ph p.2.1 * ph p.2.1 = ph p.1 * ph p.1 * ph p.1 + ph p.1)
def slope (p r : Pt) : Int × Bool :=
  if p.1 = r.1 then
    if (p.2.1 + r.2.1) % 12107 = 0 then (0, false) else ((3 * (p.1 * p.1 % 12107) % 12107 + 1) % 12107 * finv (2 * p.2.1 % 12107) % 12107, true)
  else ((r.2.1 - p.2.1) % 12107 * finv ((r.1 - p.1) % 12107) % 12107, true)
def pAdd (p r : Pt) : Pt :=
  if p.2.2 = true then r else if r.2.2 = true then p else
  if (slope p r).2 = true then
    (((slope p r).1 * (slope p r).1 % 12107 - p.1) % 12107 - r.1) % 12107 |> fun x => (x, ((slope p r).1 * ((p.1 - x) % 12107) % 12107 - p.2.1) % 12107, false)
  else (0, 0, true)
theorem curve_chord {R : Type} [Lean.Grind.CommRing R] (x1 y1 x2 y2 i : R) (h1 : y1*y1 = x1*x1*x1 + x1) (h2 : y2*y2 = x2*x2*x2+x2) (hi : (x2-x1)*i = 1) (l x3 y3 : R) (hl : l*(x2-x1) = (y2-y1)) (hx : x3 = l*l - x1 - x2) (hy : y3 = l*(x1-x3)-y1) : y3*y3 = x3*x3*x3+x3 := by
  have e2 : y2 = y1 + l*(x2-x1) := by clear h1 h2 hx hy hi; grind
  have ea : (x2 - x1) * (x2*x2+x1*x2+x1*x1 + 1 - l*(y1+y2)) = 0 := by clear hx hy hi e2; grind
  have eb : (x2*x2+x1*x2+x1*x1 + 1 - l*(y1+y2)) = 0 := by
    have : i * ((x2 - x1) * (x2*x2+x1*x2+x1*x1 + 1 - l*(y1+y2))) = 0 := by rw [ea]; clear hx hy hi e2 ea h1 h2 hl; grind
    clear hx hy e2 ea h1 h2 hl; grind
  subst hx hy e2
  clear ea h2 hi hl
  grind
theorem chord_slope {R : Type} [Lean.Grind.CommRing R] (a d i : R) (h : d * i = 1) : a * i * d = a := by grind
theorem curve_tangent {R : Type} [Lean.Grind.CommRing R] (x1 y1 i : R) (h1 : y1*y1 = x1*x1*x1 + x1) (hi : (2*y1)*i = 1) (l x3 y3 : R) (hl : l = (3*(x1*x1)+1)*i) (hx : x3 = l*l - x1 - x1) (hy : y3 = l*(x1-x3)-y1) : y3*y3 = x3*x3*x3+x3 := by
  grind
/-- right points of one x: the y are the same, or their sum is zero. -/
theorem right_y {x y1 y2 : Int} (h1 : ph y1 * ph y1 = ph x * ph x * ph x + ph x) (h2 : ph y2 * ph y2 = ph x * ph x * ph x + ph x) (h : ¬ (y1 + y2) % 12107 = 0) : ph y1 = ph y2 := by
  have h3 : ph (y1 + y2) * ph (y1 - y2) = 0 := by rw [ph_add, ph_sub]; grind
  have h4 := F_mul0 h3 (fun h5 => h (ph_eq0.1 h5))
  rw [ph_sub] at h4
  grind
theorem pAdd_right {p r : Pt} (hp : pRight p) (hr : pRight r) : pRight (pAdd p r) := by
  rcases hp with hp | hp
  · unfold pAdd; rw [if_pos hp.1]; exact hr
  rcases hr with hr | hr
  · unfold pAdd; rw [if_neg (by rw [hp.1]; simp), if_pos hr.1]; exact Or.inr hp
  unfold pAdd
  rw [if_neg (by rw [hp.1]; simp), if_neg (by rw [hr.1]; simp)]
  obtain ⟨x1, y1, b1⟩ := p
  obtain ⟨x2, y2, b2⟩ := r
  obtain ⟨_, hx1, hy1, h1⟩ := hp
  obtain ⟨_, hx2, hy2, h2⟩ := hr
  simp only at hx1 hy1 h1 hx2 hy2 h2
  unfold slope
  simp only
  by_cases hx : x1 = x2
  · subst hx
    rw [if_pos rfl]
    by_cases hs : (y1 + y2) % 12107 = 0
    · rw [if_pos hs, if_neg (by simp)]
      exact Or.inl ⟨rfl, rfl, rfl⟩
    · rw [if_neg hs, if_pos rfl]
      have he := right_y h1 h2 hs
      have hi : (2 * ph y1) * ph (finv (2 * y1 % 12107)) = 1 := by
        have h3 : ph (2 * y1 % 12107) ≠ 0 := by
          intro h4
          apply hs
          rw [← ph_eq0, ph_add, ← he]
          rw [ph_mod, ph_mul, ph_two] at h4
          grind
        have := finv_ph h3
        rw [ph_mod, ph_mul, ph_two] at this
        exact this
      refine Or.inr ⟨rfl, by simp only; omega, by simp only; omega, ?_⟩
      simp only [ph_mod, ph_mul, ph_add, ph_sub, ph_three, ph_one]
      exact curve_tangent _ _ _ h1 hi _ _ _ rfl rfl rfl
  · rw [if_neg hx, if_pos rfl]
    have hi : (ph x2 - ph x1) * ph (finv ((x2 - x1) % 12107)) = 1 := by
      have h3 : ph ((x2 - x1) % 12107) ≠ 0 := by
        intro h4
        rw [ph_mod, ph_eq0] at h4
        omega
      have := finv_ph h3
      rw [ph_mod, ph_sub] at this
      exact this
    refine Or.inr ⟨rfl, by simp only; omega, by simp only; omega, ?_⟩
    simp only [ph_mod, ph_mul, ph_add, ph_sub]
    refine curve_chord (ph x1) (ph y1) (ph x2) (ph y2) _ h1 h2 hi _ _ _ (chord_slope _ _ _ hi) rfl rfl

/-! Point arithmetic: multiples, membership, texts. -/
theorem sq_pow (x : Int) : x * x = x ^ 2 := by rw [Int.pow_succ, Int.pow_succ, Int.pow_zero, Int.one_mul]
theorem fpow_loop1 (r x : Int) (m : Nat) : (r * x % 12107) * (x * x % 12107) ^ m % 12107 = r * x ^ (2 * m + 1) % 12107 := by
  rw [Int.mul_emod, ← pow_emod, ← Int.mul_emod, Int.mul_emod, Int.emod_emod_of_dvd _ (Int.dvd_refl _), ← Int.mul_emod, sq_pow x, ← Int.pow_mul, Int.pow_succ, Int.mul_assoc, Int.mul_comm x]
theorem fpow_loop0 (r x : Int) (m : Nat) : r * (x * x % 12107) ^ m % 12107 = r * x ^ (2 * m) % 12107 := by
  rw [Int.mul_emod, ← pow_emod, ← Int.mul_emod, sq_pow x, ← Int.pow_mul]
theorem fpow_one (a : Int) (n : Nat) : 1 * (a % 12107) ^ n % 12107 = fpow a n := by
  unfold fpow
  rw [Int.one_mul, ← pow_emod]
theorem sq_range {a b : Int} (ha : 0 ≤ a ∧ a < 12107) (hb : 0 ≤ b ∧ b < 12107) : 0 ≤ a * b ∧ a * b ≤ 146555236 :=
  ⟨Int.mul_nonneg ha.1 hb.1, Int.le_trans (Int.mul_le_mul_of_nonneg_right (show a ≤ 12106 by omega) hb.1) (by omega)⟩
def pOk (p : Pt) : Bool :=
  if p.2.2 = true then (if p.1 = 0 then p.2.1 == 0 else false)
  else if (0 ≤ p.1 ∧ p.1 ≤ 12106) ∧ (0 ≤ p.2.1 ∧ p.2.1 ≤ 12106) then (p.2.1 * p.2.1 % 12107 == (p.1 * p.1 % 12107 * p.1 % 12107 + p.1) % 12107) else false
theorem pOk_iff (p : Pt) : pOk p = true ↔ pRight p := by
  unfold pOk pRight
  cases h : p.2.2 with
  | true =>
    rw [if_pos rfl]
    by_cases h1 : p.1 = 0
    · rw [if_pos h1]; simp [h1]
    · rw [if_neg h1]; simp [h1]
  | false =>
    rw [if_neg (by simp)]
    by_cases h1 : (0 ≤ p.1 ∧ p.1 ≤ 12106) ∧ (0 ≤ p.2.1 ∧ p.2.1 ≤ 12106)
    · rw [if_pos h1, beq_iff_eq, ← Int.emod_emod_of_dvd (p.2.1 * p.2.1) (Int.dvd_refl 12107), ← Int.emod_emod_of_dvd (p.1 * p.1 % 12107 * p.1 % 12107 + p.1) (Int.dvd_refl 12107), ← ph_iff]
      simp only [ph_mod, ph_mul, ph_add]
      simp [h1]
    · rw [if_neg h1]
      simp only [Bool.false_eq_true, false_iff, true_and, false_and, false_or]
      intro h2
      exact h1 ⟨h2.1, h2.2.1⟩
theorem pRight_zero : pRight (0, 0, true) := Or.inl ⟨rfl, rfl, rfl⟩
def pLoop : Nat → Nat → Pt → Pt → Pt
  | 0, _, _, acc => acc
  | f + 1, n, b, acc => if n = 0 then acc else if n % 2 = 1 then pLoop f (n / 2) (pAdd b b) (pAdd acc b) else pLoop f (n / 2) (pAdd b b) acc
theorem pLoop_right (f : Nat) : ∀ (n : Nat) (b acc : Pt), pRight b → pRight acc → pRight (pLoop f n b acc) := by
  induction f with
  | zero => intro n b acc _ h; exact h
  | succ f ih =>
    intro n b acc hb ha
    rw [pLoop]
    split
    · exact ha
    · split
      · exact ih _ _ _ (pAdd_right hb hb) (pAdd_right ha hb)
      · exact ih _ _ _ (pAdd_right hb hb) ha
/-- n times p, for a right point. -/
def pMul (n : Nat) (p : Pt) : Pt := pLoop 64 n p (0, 0, true)
theorem pMul_right {n : Nat} {p : Pt} (h : pRight p) : pRight (pMul n p) := pLoop_right _ _ _ _ h pRight_zero
def pTimes (n : Nat) (p : Pt) : Pt := if pOk p = true then pMul n p else (0, 0, true)
theorem pTimes_right (n : Nat) (p : Pt) : pRight (pTimes n p) := by
  unfold pTimes
  split
  · rename_i h; exact pMul_right ((pOk_iff p).1 h)
  · exact pRight_zero
def pNeg (p : Pt) : Pt := if p.2.2 = true then (0, 0, true) else (p.1, (0 - p.2.1) % 12107, false)
theorem pNeg_right {p : Pt} (h : pRight p) : pRight (pNeg p) := by
  unfold pNeg
  split
  · exact pRight_zero
  · rename_i hb
    rcases h with h | h
    · exact absurd h.1 hb
    · refine Or.inr ⟨rfl, h.2.1, by simp only; omega, ?_⟩
      simp only [ph_mod, ph_sub, ph_zero]
      have := h.2.2.2
      grind
def pIn (p : Pt) : Bool := if pOk p = true then (pTimes 1009 p).2.2 else false
def pText (p : Pt) : ByteArray :=
  if pOk p = true then
    if p.2.2 = true then (⟨#[0, 0, 0]⟩ : ByteArray) else strOfNums ([((wrap64 (p.1 + 1)) / 256) % 256, (wrap64 (p.1 + 1)) % 256, (Int.tmod p.2.1 2) % 256] : List Int)
  else (⟨#[]⟩ : ByteArray)
theorem pText_size (p : Pt) : (pText p).size ≤ 3 := by
  unfold pText
  split
  · split
    · exact Nat.le_refl _
    · rw [strOfNums_size]; exact Nat.le_refl _
  · exact Nat.zero_le _

def ptOf' (x : S28) : Pt := (x.f0, x.f1, x.f2)
def keyOk (x : S28) : Bool := pIn (ptOf' x) && !x.f2
def comOk (ks : List S28) : Bool := decide (ks.length = 8) && ks.all keyOk

def clientOk (s : Int) (p t b : ByteArray) (now next : List S28) (has : Bool) : Bool :=
  headOk s p t b && (comOk now && (if has then comOk next else decide (next.length = 0)))

theorem spec_l01In_eq (a b c : Int) : spec_l01In.f a b c = some (decide (b ≤ a ∧ a ≤ c)) := by
  unfold spec_l01In.f
  by_cases h : a ≥ b
  · rw [if_pos h]; congr 1; simp [show b ≤ a from h]
  · rw [if_neg h]; congr 1; rw [eq_comm, decide_eq_false_iff_not]; omega

theorem spec_HeadOk_eq (s : Int) (p t b : ByteArray) : spec_HeadOk.f s p t b = some (headOk s p t b) := by
  unfold spec_HeadOk.f headOk
  rw [spec_l01In_eq, Option.bind_some, beq32]
  by_cases h : 0 ≤ s ∧ s ≤ 10000
  · rw [decide_eq_true h, if_pos rfl, Bool.true_and]
    by_cases h1 : p.size = 32
    · rw [if_pos (by omega), decide_eq_true h1, Bool.true_and]
      by_cases h2 : t.size = 32
      · rw [if_pos (by omega), decide_eq_true h2, Bool.true_and]
      · rw [if_neg (by omega), decide_eq_false h2, Bool.false_and]
    · rw [if_neg (by omega), decide_eq_false h1, Bool.false_and]
  · rw [decide_eq_false h, if_neg (by simp), Bool.false_and]

theorem tmod_fix {a m : Int} (hm : 0 < m) : (if Int.tmod a m < 0 then Int.tmod a m + m else Int.tmod a m) = a % m := by
  have h0 := Int.emod_nonneg a (Int.ne_of_gt hm)
  have h1 := Int.emod_lt_of_pos a hm
  rw [Int.tmod_eq_emod]
  have h2 : (m.natAbs : Int) = m := Int.natAbs_of_nonneg (Int.le_of_lt hm)
  by_cases h : 0 ≤ a ∨ m ∣ a
  · rw [if_pos h]
    show (if a % m - 0 < 0 then a % m - 0 + m else a % m - 0) = a % m
    rw [Int.sub_zero, if_neg (by omega)]
  · rw [if_neg h, h2, if_pos (by omega)]
    omega
theorem tmod_wrap {a m : Int} (hm : 0 < m) (hb : m < 9223372036854775807) : (if Int.tmod a m < 0 then (some (wrap64 (Int.tmod a m + m))) else (some (Int.tmod a m))) = some (a % m) := by
  have h := tmod_fix (a := a) hm
  have h0 := Int.emod_nonneg a (Int.ne_of_gt hm)
  have h1 := Int.emod_lt_of_pos a hm
  split at h
  · rename_i hl
    rw [if_pos hl, w64 (by omega), h]
  · rename_i hl
    rw [if_neg hl, h]
theorem F_half {x : F} (h : x + x = 0) : x = 0 := by
  have h1 : (12107 : F) = 0 := rfl
  have h2 : x = 6054 * (x + x) - 12107 * x := by clear h h1; grind
  rw [h, h1] at h2
  clear h h1
  grind
theorem y2_ne {a b : Int} (h : a = b) (h0 : ¬ a = 0) (r : 0 ≤ a ∧ a ≤ 12106) : ¬ (a + b) % 12107 = 0 := by
  intro hz
  rw [← ph_eq0, ph_add, ← h] at hz
  have := ph_eq0.1 (F_half hz)
  clear hz h
  omega
theorem fmod_range (a : Int) : 0 ≤ a % 12107 ∧ a % 12107 < 12107 := by omega
theorem fmod_mul (a b : Int) : wrap64 (a % 12107 * (b % 12107)) % 12107 = a * b % 12107 := by
  have := sq_range (fmod_range a) (fmod_range b)
  rw [w64 (by omega), ← Int.mul_emod]
theorem fmod_add (a b : Int) : wrap64 (a % 12107 + b % 12107) % 12107 = (a + b) % 12107 := by
  rw [w64 (by omega)]; omega
theorem fmod_sub (a b : Int) : wrap64 (a % 12107 - b % 12107) % 12107 = (a - b) % 12107 := by
  rw [w64 (by omega)]; omega

theorem spec_FpOf_eq (a : Int) : spec_FpOf.f a = some (a % 12107) := by
  unfold spec_FpOf.f
  exact tmod_wrap (by omega) (by omega)

theorem spec_FpMul_eq (a b : Int) : spec_FpMul.f a b = some ((a * b) % 12107) := by
  unfold spec_FpMul.f
  simp only [spec_FpOf_eq, Option.bind_some]
  rw [fmod_mul]

theorem spec_FpPow_l (f : Nat) : ∀ (n : Nat) (r x : Int), n < 2 ^ f → n < 1000000 → (0 ≤ r ∧ r < 12107) → Ev (fun k => spec_FpPow.l0 k (n : Int) r x) (r * x ^ n % 12107) := by
  induction f with
  | zero =>
    intro n r x hn _ hr
    obtain rfl : n = 0 := by omega
    refine Ev.step (fun k => by rw [spec_FpPow.l0, if_neg (by omega)]) (Ev.some_ ?_)
    rw [Int.pow_zero]; omega
  | succ f ih =>
    intro n r x hn hn2 hr
    by_cases h0 : n = 0
    · subst h0
      refine Ev.step (fun k => by rw [spec_FpPow.l0, if_neg (by omega)]) (Ev.some_ ?_)
      rw [Int.pow_zero]; omega
    have e1 : wrap64 (Int.tdiv (n : Int) 2) = ((n / 2 : Nat) : Int) := by rw [tdiv_pos (by omega), w64 (by omega)]; omega
    have e2 : Int.tmod (n : Int) 2 = ((n % 2 : Nat) : Int) := by rw [tmod_pos (by omega)]; omega
    have hf : n / 2 < 2 ^ f := by rw [Nat.pow_succ] at hn; omega
    by_cases h1 : n % 2 = 1
    · refine Ev.step (fun k => by rw [spec_FpPow.l0, if_pos (by omega), e2, e1, if_pos (by omega)]) ?_
      simp only [spec_FpMul_eq, Option.bind_some]
      refine (ih (n / 2) _ _ hf (by omega) (fmod_range _)).eq ?_
      rw [fpow_loop1, show 2 * (n / 2) + 1 = n by omega]
    · refine Ev.step (fun k => by rw [spec_FpPow.l0, if_pos (by omega), e2, e1, if_neg (by omega)]) ?_
      simp only [spec_FpMul_eq, Option.bind_some]
      refine (ih (n / 2) _ _ hf (by omega) hr).eq ?_
      rw [fpow_loop0, show 2 * (n / 2) = n by omega]
theorem spec_FpPow_ev (a : Int) (n : Nat) (hn : n < 1000000) : Ev (fun k => spec_FpPow.f k a (n : Int)) (fpow a n) := by
  unfold spec_FpPow.f
  refine Ev.neg (by omega) (Ev.bindc (spec_FpOf_eq a) ?_)
  refine (spec_FpPow_l 20 n 1 (a % 12107) (by omega) hn (by omega)).eq (fpow_one a n)

theorem spec_FpInv_ev (a : Int) : Ev (fun k => spec_FpInv.f k a) (finv a) := by
  unfold spec_FpInv.f finv
  exact Ev.bind (spec_FpPow_ev a 12105 (by omega)) (Ev.now _)

theorem spec_FpAdd_eq (a b : Int) : spec_FpAdd.f a b = some ((a + b) % 12107) := by
  unfold spec_FpAdd.f
  simp only [spec_FpOf_eq, Option.bind_some]
  rw [fmod_add]

theorem spec_FpSub_eq (a b : Int) : spec_FpSub.f a b = some ((a - b) % 12107) := by
  unfold spec_FpSub.f
  simp only [spec_FpOf_eq, Option.bind_some]
  rw [fmod_sub]

theorem spec_l07Slope_ev (p r : Pt) : Ev (fun k => spec_l07Slope.f k p.1 p.2.1 p.2.2 r.1 r.2.1 r.2.2) (slope p r) := by
  unfold spec_l07Slope.f slope
  simp only [spec_FpMul_eq, spec_FpAdd_eq, spec_FpSub_eq, Option.bind_some]
  by_cases h : p.1 = r.1
  · rw [if_pos h]
    refine Ev.pos h ?_
    by_cases h2 : (p.2.1 + r.2.1) % 12107 = 0
    · rw [if_pos h2]; exact Ev.pos h2 (Ev.now _)
    · rw [if_neg h2]
      exact Ev.neg h2 (Ev.bind (spec_FpInv_ev _) (Ev.now _))
  · rw [if_neg h]
    exact Ev.neg h (Ev.bind (spec_FpInv_ev _) (Ev.now _))

theorem spec_l07Add_ev (p r : Pt) : Ev (fun k => spec_l07Add.f k p.1 p.2.1 p.2.2 r.1 r.2.1 r.2.2) (pAdd p r) := by
  unfold spec_l07Add.f pAdd
  by_cases h1 : p.2.2 = true
  · rw [if_pos h1]; exact Ev.pos h1 (Ev.now _)
  rw [if_neg h1]
  refine Ev.neg h1 ?_
  by_cases h2 : r.2.2 = true
  · rw [if_pos h2]; exact Ev.pos h2 (Ev.now _)
  rw [if_neg h2]
  refine Ev.neg h2 (Ev.bind (spec_l07Slope_ev p r) ?_)
  by_cases h3 : (slope p r).2 = true
  · refine Ev.pos h3 ?_
    rw [if_pos h3]
    simp only [spec_FpMul_eq, spec_FpSub_eq, Option.bind_some]
    exact Ev.now _
  · refine Ev.neg h3 ?_
    rw [if_neg h3]
    exact Ev.const rfl

theorem spec_FpOk_eq (a : Int) : spec_FpOk.f a = some (decide (0 ≤ a ∧ a ≤ 12106)) := by
  unfold spec_FpOk.f
  rw [spec_l01In_eq, Option.bind_some]

theorem spec_l07Right_eq (a : Int) : spec_l07Right.f a = some ((a * a % 12107 * a % 12107 + a) % 12107) := by
  unfold spec_l07Right.f
  simp only [spec_FpMul_eq, spec_FpAdd_eq, Option.bind_some]

theorem spec_PointOk_eq (p : Pt) : spec_PointOk.f p.1 p.2.1 p.2.2 = some (pOk p) := by
  unfold spec_PointOk.f pOk
  cases h : p.2.2 with
  | true =>
    rw [if_pos rfl, if_pos rfl]
    split <;> rfl
  | false =>
    rw [if_neg (by simp), if_neg (by simp)]
    simp only [spec_FpOk_eq, spec_FpMul_eq, spec_l07Right_eq, Option.bind_some, decide_eq_true_eq]
    by_cases h1 : 0 ≤ p.1 ∧ p.1 ≤ 12106
    · rw [if_pos h1]
      by_cases h2 : 0 ≤ p.2.1 ∧ p.2.1 ≤ 12106
      · rw [if_pos h2, if_pos ⟨h1, h2⟩]
      · rw [if_neg h2, if_neg (fun h => h2 h.2)]
    · rw [if_neg h1, if_neg (fun h => h1 h.1)]

theorem spec_PointNeg_eq (p : Pt) : spec_PointNeg.f p.1 p.2.1 p.2.2 = some (pNeg p) := by
  unfold spec_PointNeg.f pNeg
  split
  · rfl
  · rw [spec_FpSub_eq, Option.bind_some]

theorem spec_PointTimes_l (f : Nat) : ∀ (n : Nat) (b acc : Pt), n < 2 ^ f → n < 1000000 → pRight b → pRight acc →
    Ev (fun k => spec_PointTimes.l0 k (n : Int) b.1 b.2.1 b.2.2 acc.1 acc.2.1 acc.2.2) (pLoop f n b acc) := by
  induction f with
  | zero =>
    intro n b acc hn _ _ _
    rw [pLoop]
    refine Ev.step (fun k => by rw [spec_PointTimes.l0, if_neg (by omega)]) (Ev.now _)
  | succ f ih =>
    intro n b acc hn hn2 hb ha
    rw [pLoop]
    by_cases h0 : n = 0
    · rw [if_pos h0]
      exact Ev.step (fun k => by rw [spec_PointTimes.l0, if_neg (by omega)]) (Ev.now _)
    rw [if_neg h0]
    have e1 : wrap64 (Int.tdiv (n : Int) 2) = ((n / 2 : Nat) : Int) := by rw [tdiv_pos (by omega), w64 (by omega)]; omega
    have e2 : Int.tmod (n : Int) 2 = ((n % 2 : Nat) : Int) := by rw [tmod_pos (by omega)]; omega
    have hf : n / 2 < 2 ^ f := by rw [Nat.pow_succ] at hn; omega
    by_cases h1 : n % 2 = 1
    · rw [if_pos h1]
      refine Ev.step (fun k => by rw [spec_PointTimes.l0, if_pos (by omega), e2, e1, if_pos (by omega)]) ?_
      exact Ev.bind (spec_l07Add_ev acc b) (Ev.bind (spec_l07Add_ev b b) (ih _ _ _ hf (by omega) (pAdd_right hb hb) (pAdd_right ha hb)))
    · rw [if_neg h1]
      refine Ev.step (fun k => by rw [spec_PointTimes.l0, if_pos (by omega), e2, e1, if_neg (by omega)]) ?_
      exact Ev.bind (spec_l07Add_ev b b) (ih _ _ _ hf (by omega) (pAdd_right hb hb) ha)
theorem spec_PointTimes_ev (n : Nat) (p : Pt) (hn : n < 12108) : Ev (fun k => spec_PointTimes.f k (n : Int) p.1 p.2.1 p.2.2) (pTimes n p) := by
  unfold spec_PointTimes.f pTimes
  refine Ev.bindc (spec_PointOk_eq p) ?_
  have e : Int.tmod (n : Int) 12108 = n := by rw [tmod_pos (by omega)]; omega
  rw [e]
  by_cases h : pOk p = true
  · rw [if_pos h]
    refine Ev.pos h (Ev.neg (by omega) ?_)
    refine Ev.step (fun k => by rw [spec_PointTimes.j0]) ?_
    exact spec_PointTimes_l 64 n p _ (by omega) (by omega) ((pOk_iff p).1 h) pRight_zero
  · rw [if_neg h]
    exact Ev.neg h (Ev.const rfl)

theorem spec_InGroup_ev (p : Pt) : Ev (fun k => spec_InGroup.f k p.1 p.2.1 p.2.2) (pIn p) := by
  unfold spec_InGroup.f pIn
  refine Ev.bindc (spec_PointOk_eq p) ?_
  by_cases h : pOk p = true
  · rw [if_pos h]
    exact Ev.pos h (Ev.bind (spec_PointTimes_ev 1009 p (by omega)) (Ev.now _))
  · rw [if_neg h]
    exact Ev.neg h (Ev.now _)

theorem spec_CommitteeOk_l (ks : List S28) (hb : ks.length ≤ 281474976710656) (n : Nat) : ∀ (i : Nat), i + n = ks.length →
    Ev (fun k => spec_CommitteeOk.l0 k (i : Int) ks) ((ks.drop i).all keyOk && decide (ks.length = 8)) := by
  induction n with
  | zero =>
    intro i hi
    refine Ev.step (fun k => by rw [spec_CommitteeOk.l0, if_neg (by omega)]) (Ev.some_ ?_)
    rw [List.drop_eq_nil_of_le (by omega), List.all_nil, Bool.true_and, beq_dec]
    exact decide_eq_decide.2 (by omega)
  | succ n ih =>
    intro i hi
    have hg : rd_T28 ks (i : Int) = ks[i]'(by omega) := getD_get' _ ks i (by omega)
    rw [drop_cons ks i (by omega), List.all_cons, keyOk]
    refine Ev.step (fun k => by rw [spec_CommitteeOk.l0, if_pos (by omega), if_pos (by omega), hg, wNat (by omega)]) ?_
    refine Ev.bind (spec_InGroup_ev (ptOf' (ks[i]'(by omega)))) ?_
    by_cases h1 : pIn (ptOf' (ks[i]'(by omega))) = true
    · refine Ev.pos h1 ?_
      rw [h1, Bool.true_and]
      by_cases h2 : (ks[i]'(by omega)).f2 = true
      · exact Ev.pos h2 (Ev.some_ (by rw [h2]; rfl))
      · refine Ev.neg h2 ?_
        rw [Bool.not_eq_true] at h2
        rw [h2]
        exact ih (i + 1) (by omega)
    · exact Ev.neg h1 (Ev.some_ (by rw [Bool.not_eq_true] at h1; rw [h1]; rfl))
theorem spec_CommitteeOk_ev (ks : List S28) (hb : ks.length ≤ 281474976710656) : Ev (fun k => spec_CommitteeOk.f k ks) (comOk ks) := by
  unfold spec_CommitteeOk.f
  exact (spec_CommitteeOk_l ks hb ks.length 0 (by omega)).eq (by rw [comOk, Bool.and_comm]; rfl)

theorem spec_ClientOk_ev (s : Int) (p t b : ByteArray) (now next : List S28) (has : Bool) (y0 y1 : Int) (y2 : Bool) (y3 y4 : Int) (y5 : Bool) (y6 y7 : Int) (y8 : Bool) (y9 y10 : Int) (y11 : Bool) (inp : List S28) (hn : now.length ≤ 281474976710656) (hx : next.length ≤ 281474976710656) :
    Ev (fun k => spec_ClientOk.f k s p t b now next has y0 y1 y2 y3 y4 y5 y6 y7 y8 y9 y10 y11 inp) (clientOk s p t b now next has) := by
  unfold spec_ClientOk.f clientOk
  have hz : Ev (fun k => spec_ClientOk.j0 k true s p t b now next has y0 y1 y2 y3 y4 y5 y6 y7 y8 y9 y10 y11 inp) false := by
    refine Ev.step (fun k => by rw [spec_ClientOk.j0, if_pos rfl]) (Ev.now _)
  refine Ev.bindc (spec_HeadOk_eq _ _ _ _) ?_
  by_cases h1 : headOk s p t b = true
  · refine Ev.pos h1 (Ev.bind (spec_CommitteeOk_ev now hn) ?_)
    rw [h1, Bool.true_and]
    by_cases h2 : comOk now = true
    · rw [h2, Bool.true_and]
      refine Ev.step (fun k => by rw [spec_ClientOk.j0, if_neg (by simp)]) ?_
      cases has with
      | true => exact Ev.pos rfl (Ev.bind (spec_CommitteeOk_ev next hx) (Ev.now _))
      | false =>
        refine Ev.neg (by simp) (Ev.some_ ?_)
        rw [beq_dec]
        exact decide_eq_decide.2 (by omega)
    · rw [Bool.not_eq_true] at h2
      rw [h2, Bool.false_and]
      exact hz
  · refine Ev.neg h1 ?_
    rw [Bool.not_eq_true] at h1
    rw [h1, Bool.false_and]
    exact hz

theorem impl_isDigest_eq (s : ByteArray) : impl_isDigest.f s = some (decide (s.size = 32)) := by
  unfold impl_isDigest.f
  congr 1
  rw [beq_dec]
  exact decide_eq_decide.2 (by omega)

theorem impl_isSlot_eq (n : Int) : impl_isSlot.f n = some (decide (0 ≤ n ∧ n ≤ 10000)) := by
  unfold impl_isSlot.f
  by_cases h : n ≥ 0
  · rw [if_pos h]; congr 1; exact decide_eq_decide.2 (by omega)
  · rw [if_neg h]; congr 1; rw [eq_comm, decide_eq_false_iff_not]; omega
theorem impl_HeadOk_eq (s : Int) (p t b : ByteArray) : impl_HeadOk.f s p t b = some (headOk s p t b) := by
  unfold impl_HeadOk.f headOk
  simp only [impl_isSlot_eq, impl_isDigest_eq, Option.bind_some]
  cases decide (0 ≤ s ∧ s ≤ 10000) <;> cases decide (p.size = 32) <;> cases decide (t.size = 32) <;> cases decide (b.size = 32) <;> rfl

theorem impl_remainder_eq (a m : Int) (hm : 0 < m) (hb : m < 9223372036854775807) : impl_remainder.f a m = some (a % m) := by
  unfold impl_remainder.f
  rw [if_neg (by omega)]
  exact tmod_wrap hm hb

theorem impl_FpOf_eq (a : Int) : impl_FpOf.f a = some (a % 12107) := by
  unfold impl_FpOf.f
  rw [impl_remainder_eq a 12107 (by omega) (by omega), Option.bind_some]

theorem impl_FpMul_eq (a b : Int) : impl_FpMul.f a b = some ((a * b) % 12107) := by
  unfold impl_FpMul.f
  simp only [impl_FpOf_eq, Option.bind_some]
  rw [fmod_mul]

theorem impl_powerMod_l (f : Nat) : ∀ (n : Nat) (r x : Int), n < 2 ^ f → n < 1000000 → (0 ≤ r ∧ r < 12107) → (0 ≤ x ∧ x < 12107) → Ev (fun k => impl_powerMod.l0 k x (n : Int) 12107 r) (r * x ^ n % 12107) := by
  induction f with
  | zero =>
    intro n r x hn _ hr _
    obtain rfl : n = 0 := by omega
    refine Ev.step (fun k => by rw [impl_powerMod.l0, if_neg (by omega)]) (Ev.some_ ?_)
    rw [Int.pow_zero]; omega
  | succ f ih =>
    intro n r x hn hn2 hr hx
    by_cases h0 : n = 0
    · subst h0
      refine Ev.step (fun k => by rw [impl_powerMod.l0, if_neg (by omega)]) (Ev.some_ ?_)
      rw [Int.pow_zero]; omega
    have e1 : wrap64 (Int.tdiv (n : Int) 2) = ((n / 2 : Nat) : Int) := by rw [tdiv_pos (by omega), w64 (by omega)]; omega
    have e2 : Int.tmod (n : Int) 2 = ((n % 2 : Nat) : Int) := by rw [tmod_pos (by omega)]; omega
    have hf : n / 2 < 2 ^ f := by rw [Nat.pow_succ] at hn; omega
    have s1 := sq_range hx hx
    have s2 := sq_range hr hx
    have e3 : Int.tmod (wrap64 (x * x)) 12107 = x * x % 12107 := by rw [w64 (by omega), tmod_pos (by omega)]
    have e4 : Int.tmod (wrap64 (r * x)) 12107 = r * x % 12107 := by rw [w64 (by omega), tmod_pos (by omega)]
    by_cases h1 : n % 2 = 1
    · refine Ev.step (fun k => by rw [impl_powerMod.l0, if_pos (by omega), e2, e1, if_pos (by omega), if_neg (by omega), e3, e4]) ?_
      refine (ih (n / 2) _ _ hf (by omega) (fmod_range _) (fmod_range _)).eq ?_
      rw [fpow_loop1, show 2 * (n / 2) + 1 = n by omega]
    · refine Ev.step (fun k => by rw [impl_powerMod.l0, if_pos (by omega), e2, e1, if_neg (by omega), if_neg (by omega), e3]) ?_
      refine (ih (n / 2) _ _ hf (by omega) hr (fmod_range _)).eq ?_
      rw [fpow_loop0, show 2 * (n / 2) = n by omega]
theorem impl_powerMod_ev (a : Int) (n : Nat) (hn : n < 1000000) : Ev (fun k => impl_powerMod.f k a (n : Int) 12107) (fpow a n) := by
  unfold impl_powerMod.f
  refine Ev.bindc (impl_remainder_eq a 12107 (by omega) (by omega)) ?_
  refine (impl_powerMod_l 20 n 1 (a % 12107) (by omega) hn (by omega) (fmod_range a)).eq (fpow_one a n)

theorem impl_FpInv_ev (a : Int) : Ev (fun k => impl_FpInv.f k a) (finv a) := by
  unfold impl_FpInv.f finv
  exact Ev.bind (impl_powerMod_ev a 12105 (by omega)) (Ev.now _)

theorem impl_FpAdd_eq (a b : Int) : impl_FpAdd.f a b = some ((a + b) % 12107) := by
  unfold impl_FpAdd.f
  simp only [impl_FpOf_eq, Option.bind_some]
  rw [fmod_add]

theorem impl_FpSub_eq (a b : Int) : impl_FpSub.f a b = some ((a - b) % 12107) := by
  unfold impl_FpSub.f
  simp only [impl_FpOf_eq, Option.bind_some]
  rw [fmod_sub]

theorem impl_slopeOf_ev (p r : Pt) (hp : pRight p) (hr : pRight r) (h1 : ¬ p.2.2 = true) (h2 : ¬ r.2.2 = true) : Ev (fun k => impl_slopeOf.f k p.1 p.2.1 p.2.2 r.1 r.2.1 r.2.2) (slope p r) := by
  unfold impl_slopeOf.f slope
  simp only [impl_FpMul_eq, impl_FpAdd_eq, impl_FpSub_eq, Option.bind_some]
  have hp' := hp.resolve_left (fun h => h1 h.1)
  have hr' := hr.resolve_left (fun h => h2 h.1)
  by_cases h : p.1 = r.1
  · rw [if_pos h]
    refine Ev.pos h ?_
    have hj : Ev (fun k => impl_slopeOf.j0 k true p.1 p.2.1 p.2.2) ((0 : Int), false) := Ev.step (fun k => by rw [impl_slopeOf.j0, if_pos rfl]) (Ev.now _)
    by_cases hy : p.2.1 = r.2.1
    · refine Ev.pos hy ?_
      by_cases h0 : p.2.1 = 0
      · have hz : (p.2.1 + r.2.1) % 12107 = 0 := by rw [← hy, h0]; rfl
        rw [if_pos hz, h0, beq_self_eq_true]
        rw [h0] at hj
        exact hj
      · have hz : ¬ (p.2.1 + r.2.1) % 12107 = 0 := y2_ne hy h0 hp'.2.2.1
        rw [if_neg hz, show (p.2.1 == 0) = false from beq_eq_false_iff_ne.2 h0]
        refine Ev.step (fun k => by rw [impl_slopeOf.j0, if_neg (by simp)]) ?_
        simp only [impl_FpMul_eq, impl_FpAdd_eq, impl_FpSub_eq, Option.bind_some]
        exact Ev.bind (impl_FpInv_ev _) (Ev.now _)
    · refine Ev.neg hy ?_
      have hz : (p.2.1 + r.2.1) % 12107 = 0 := by
        have hp2 : 0 ≤ p.2.1 ∧ p.2.1 < 12107 := ⟨hp'.2.2.1.1, Int.lt_of_le_of_lt hp'.2.2.1.2 (by decide)⟩
        have hr2 : 0 ≤ r.2.1 ∧ r.2.1 < 12107 := ⟨hr'.2.2.1.1, Int.lt_of_le_of_lt hr'.2.2.1.2 (by decide)⟩
        exact Classical.byContradiction fun hs => hy (ph_inj hp2 hr2 (right_y hp'.2.2.2 (by rw [h]; exact hr'.2.2.2) hs))
      rw [if_pos hz]
      exact hj
  · rw [if_neg h]
    exact Ev.neg h (Ev.bind (impl_FpInv_ev _) (Ev.now _))

theorem impl_add_ev (p r : Pt) (hp : pRight p) (hr : pRight r) : Ev (fun k => impl_add.f k p.1 p.2.1 p.2.2 r.1 r.2.1 r.2.2) (pAdd p r) := by
  unfold impl_add.f pAdd
  by_cases h1 : p.2.2 = true
  · rw [if_pos h1]; exact Ev.pos h1 (Ev.now _)
  rw [if_neg h1]
  refine Ev.neg h1 ?_
  by_cases h2 : r.2.2 = true
  · rw [if_pos h2]; exact Ev.pos h2 (Ev.now _)
  rw [if_neg h2]
  refine Ev.neg h2 (Ev.bind (impl_slopeOf_ev p r hp hr h1 h2) ?_)
  by_cases h3 : (slope p r).2 = true
  · refine Ev.pos h3 ?_
    rw [if_pos h3]
    simp only [impl_FpMul_eq, impl_FpSub_eq, Option.bind_some]
    exact Ev.now _
  · refine Ev.neg h3 ?_
    rw [if_neg h3]
    exact Ev.now _

theorem impl_FpOk_eq (a : Int) : impl_FpOk.f a = some (decide (0 ≤ a ∧ a ≤ 12106)) := by
  unfold impl_FpOk.f
  by_cases h : a ≥ 0
  · rw [if_pos h]
    congr 1
    rw [decide_eq_decide]
    omega
  · rw [if_neg h]
    congr 1
    symm
    rw [decide_eq_false_iff_not]
    omega

theorem impl_curveAt_eq (a : Int) : impl_curveAt.f a = some ((a * a % 12107 * a % 12107 + a) % 12107) := by
  unfold impl_curveAt.f
  simp only [impl_FpMul_eq, impl_FpAdd_eq, Option.bind_some]

theorem impl_PointOk_eq (p : Pt) : impl_PointOk.f p.1 p.2.1 p.2.2 = some (pOk p) := by
  unfold impl_PointOk.f pOk
  cases h : p.2.2 with
  | true =>
    rw [if_pos rfl, if_pos rfl]
    split <;> rfl
  | false =>
    rw [if_neg (by simp), if_neg (by simp)]
    simp only [impl_FpOk_eq, impl_FpMul_eq, impl_curveAt_eq, Option.bind_some, decide_eq_true_eq]
    by_cases h1 : 0 ≤ p.1 ∧ p.1 ≤ 12106
    · rw [if_pos h1]
      by_cases h2 : 0 ≤ p.2.1 ∧ p.2.1 ≤ 12106
      · rw [if_pos h2, if_pos ⟨h1, h2⟩]
      · rw [if_neg h2, if_neg (fun h => h2 h.2)]
    · rw [if_neg h1, if_neg (fun h => h1 h.1)]

theorem impl_PointTimes_l (f : Nat) : ∀ (n : Nat) (b acc : Pt), n < 2 ^ f → n < 1000000 → pRight b → pRight acc →
    Ev (fun k => impl_PointTimes.l0 k (n : Int) b.1 b.2.1 b.2.2 acc.1 acc.2.1 acc.2.2) (pLoop f n b acc) := by
  induction f with
  | zero =>
    intro n b acc hn _ _ _
    rw [pLoop]
    refine Ev.step (fun k => by rw [impl_PointTimes.l0, if_neg (by omega)]) (Ev.now _)
  | succ f ih =>
    intro n b acc hn hn2 hb ha
    rw [pLoop]
    by_cases h0 : n = 0
    · rw [if_pos h0]
      exact Ev.step (fun k => by rw [impl_PointTimes.l0, if_neg (by omega)]) (Ev.now _)
    rw [if_neg h0]
    have e1 : wrap64 (Int.tdiv (n : Int) 2) = ((n / 2 : Nat) : Int) := by rw [tdiv_pos (by omega), w64 (by omega)]; omega
    have e2 : Int.tmod (n : Int) 2 = ((n % 2 : Nat) : Int) := by rw [tmod_pos (by omega)]; omega
    have hf : n / 2 < 2 ^ f := by rw [Nat.pow_succ] at hn; omega
    by_cases h1 : n % 2 = 1
    · rw [if_pos h1]
      refine Ev.step (fun k => by rw [impl_PointTimes.l0, if_pos (by omega), e2, e1, if_pos (by omega)]) ?_
      exact Ev.bind (impl_add_ev acc b ha hb) (Ev.bind (impl_add_ev b b hb hb) (ih _ _ _ hf (by omega) (pAdd_right hb hb) (pAdd_right ha hb)))
    · rw [if_neg h1]
      refine Ev.step (fun k => by rw [impl_PointTimes.l0, if_pos (by omega), e2, e1, if_neg (by omega)]) ?_
      exact Ev.bind (impl_add_ev b b hb hb) (ih _ _ _ hf (by omega) (pAdd_right hb hb) ha)
theorem impl_PointTimes_ev (n : Nat) (p : Pt) (hn : n < 12108) : Ev (fun k => impl_PointTimes.f k (n : Int) p.1 p.2.1 p.2.2) (pTimes n p) := by
  unfold impl_PointTimes.f pTimes
  refine Ev.bindc (impl_PointOk_eq p) ?_
  have e : (n : Int) % 12108 = n := by omega
  by_cases h : pOk p = true
  · rw [if_pos h]
    refine Ev.pos h (Ev.bindc (impl_remainder_eq _ _ (by omega) (by omega)) ?_)
    rw [e]
    exact impl_PointTimes_l 64 n p (0, 0, true) (by omega) (by omega) ((pOk_iff p).1 h) pRight_zero
  · rw [if_neg h]
    exact Ev.neg h (Ev.now _)

theorem impl_InGroup_ev (p : Pt) : Ev (fun k => impl_InGroup.f k p.1 p.2.1 p.2.2) (pIn p) := by
  unfold impl_InGroup.f pIn
  refine Ev.bindc (impl_PointOk_eq p) ?_
  by_cases h : pOk p = true
  · rw [if_pos h]
    exact Ev.pos h (Ev.bind (impl_PointTimes_ev 1009 p (by omega)) (Ev.now _))
  · rw [if_neg h]
    exact Ev.neg h (Ev.now _)

theorem impl_CommitteeOk_l (ks : List S28) (hb : ks.length ≤ 281474976710656) (n : Nat) : ∀ (i : Nat), i + n = ks.length →
    Ev (fun k => impl_CommitteeOk.l0 k ks (ks.length : Int) (i : Int)) ((ks.drop i).all keyOk) := by
  induction n with
  | zero =>
    intro i hi
    refine Ev.step (fun k => by rw [impl_CommitteeOk.l0, if_neg (by omega)]) (Ev.some_ ?_)
    rw [List.drop_eq_nil_of_le (by omega), List.all_nil]
  | succ n ih =>
    intro i hi
    have hg : rd_T28 ks (i : Int) = ks[i]'(by omega) := getD_get' _ ks i (by omega)
    rw [drop_cons ks i (by omega), List.all_cons, keyOk]
    refine Ev.step (fun k => by rw [impl_CommitteeOk.l0, if_pos (by omega), if_pos (by omega), if_pos (by omega), hg, wNat (by omega)]) ?_
    by_cases h2 : (ks[i]'(by omega)).f2 = true
    · exact Ev.pos h2 (Ev.some_ (by rw [h2]; simp))
    · refine Ev.neg h2 (Ev.bind (impl_InGroup_ev (ptOf' (ks[i]'(by omega)))) ?_)
      rw [Bool.not_eq_true] at h2
      rw [h2]
      by_cases h1 : pIn (ptOf' (ks[i]'(by omega))) = true
      · refine Ev.pos h1 ?_
        rw [h1]
        exact ih (i + 1) (by omega)
      · exact Ev.neg h1 (Ev.some_ (by rw [Bool.not_eq_true] at h1; rw [h1]; rfl))
theorem impl_CommitteeOk_ev (ks : List S28) (hb : ks.length ≤ 281474976710656) : Ev (fun k => impl_CommitteeOk.f k ks) (comOk ks) := by
  unfold impl_CommitteeOk.f comOk
  by_cases h : ks.length = 8
  · rw [decide_eq_true h, Bool.true_and]
    exact Ev.pos (by omega) (impl_CommitteeOk_l ks hb ks.length 0 (by omega))
  · rw [decide_eq_false h, Bool.false_and]
    exact Ev.neg (by omega) (Ev.now _)

theorem impl_ClientOk_ev (s : Int) (p t b : ByteArray) (now next : List S28) (has : Bool) (y0 y1 : Int) (y2 : Bool) (y3 y4 : Int) (y5 : Bool) (y6 y7 : Int) (y8 : Bool) (y9 y10 : Int) (y11 : Bool) (inp : List S28) (hn : now.length ≤ 281474976710656) (hx : next.length ≤ 281474976710656) :
    Ev (fun k => impl_ClientOk.f k s p t b now next has y0 y1 y2 y3 y4 y5 y6 y7 y8 y9 y10 y11 inp) (clientOk s p t b now next has) := by
  unfold impl_ClientOk.f clientOk
  have hz : Ev (fun k => impl_ClientOk.j0 k true s p t b now next has y0 y1 y2 y3 y4 y5 y6 y7 y8 y9 y10 y11 inp) false := by
    refine Ev.step (fun k => by rw [impl_ClientOk.j0, if_pos rfl]) (Ev.now _)
  refine Ev.bindc (impl_HeadOk_eq _ _ _ _) ?_
  by_cases h1 : headOk s p t b = true
  · refine Ev.pos h1 (Ev.bind (impl_CommitteeOk_ev now hn) ?_)
    rw [h1, Bool.true_and]
    by_cases h2 : comOk now = true
    · rw [h2, Bool.true_and]
      refine Ev.step (fun k => by rw [impl_ClientOk.j0, if_neg (by simp)]) ?_
      cases has with
      | true => exact Ev.pos rfl (Ev.bind (impl_CommitteeOk_ev next hx) (Ev.now _))
      | false =>
        refine Ev.neg (by simp) (Ev.some_ ?_)
        rw [beq_dec]
        exact decide_eq_decide.2 (by omega)
    · rw [Bool.not_eq_true] at h2
      rw [h2, Bool.false_and]
      exact hz
  · refine Ev.neg h1 ?_
    rw [Bool.not_eq_true] at h1
    rw [h1, Bool.false_and]
    exact hz

theorem FnExactClientOk (x0 : ((Int × ByteArray × ByteArray × ByteArray) × ((List S23)) × ((List S23)) × Bool × (S23 × S23 × S23 × S23 × (List S23)))) : ((((((Lit.int .i64 x0.1.1).wf = true) ∧ ((x0.1.2.1.size ≤ 9223372036854775807) ∧ ((x0.1.2.2.1.size ≤ 9223372036854775807) ∧ (x0.1.2.2.2.size ≤ 9223372036854775807))))) ∧ ((((x0.2.1.length ≤ 9223372036854775807 ∧ ∀ y ∈ x0.2.1, wf23 y))) ∧ ((((x0.2.2.1.length ≤ 9223372036854775807 ∧ ∀ y ∈ x0.2.2.1, wf23 y))) ∧ ((True) ∧ (((wf23 x0.2.2.2.2.1) ∧ ((wf23 x0.2.2.2.2.2.1) ∧ ((wf23 x0.2.2.2.2.2.2.1) ∧ ((wf23 x0.2.2.2.2.2.2.2.1) ∧ ((x0.2.2.2.2.2.2.2.2.length ≤ 9223372036854775807 ∧ ∀ y ∈ x0.2.2.2.2.2.2.2.2, wf23 y)))))))))))) → ∃ k, laws_FnExactClientOk.f k x0.1.1 x0.1.2.1 x0.1.2.2.1 x0.1.2.2.2 x0.2.1 x0.2.2.1 x0.2.2.2.1 x0.2.2.2.2.1.f0 x0.2.2.2.2.1.f1 x0.2.2.2.2.1.f2 x0.2.2.2.2.2.1.f0 x0.2.2.2.2.2.1.f1 x0.2.2.2.2.2.1.f2 x0.2.2.2.2.2.2.1.f0 x0.2.2.2.2.2.2.1.f1 x0.2.2.2.2.2.2.1.f2 x0.2.2.2.2.2.2.2.1.f0 x0.2.2.2.2.2.2.2.1.f1 x0.2.2.2.2.2.2.2.1.f2 x0.2.2.2.2.2.2.2.2 = some true := by
  intro h
  apply Ev.rounds
  unfold laws_FnExactClientOk.f
  obtain ⟨r, e, p⟩ := szClient_ev x0.1.1 x0.1.2.1 x0.1.2.2.1 x0.1.2.2.2 x0.2.1 x0.2.2.1 x0.2.2.2.1 x0.2.2.2.2.1.f0 x0.2.2.2.2.1.f1 x0.2.2.2.2.1.f2 x0.2.2.2.2.2.1.f0 x0.2.2.2.2.2.1.f1 x0.2.2.2.2.2.1.f2 x0.2.2.2.2.2.2.1.f0 x0.2.2.2.2.2.2.1.f1 x0.2.2.2.2.2.2.1.f2 x0.2.2.2.2.2.2.2.1.f0 x0.2.2.2.2.2.2.2.1.f1 x0.2.2.2.2.2.2.2.1.f2 x0.2.2.2.2.2.2.2.2 h.1.2.1 h.1.2.2.1 h.1.2.2.2 h.2.1 h.2.2.1 h.2.2.2.2.2.2.2.2 1048576 (by omega) (by omega)
  refine Ev.bind e ?_
  by_cases h0 : r < 0
  · exact Ev.pos h0 (Ev.now _)
  refine Ev.neg h0 ?_
  have hs := (p (by omega)).2
  have l4 : x0.2.1.length ≤ 1048576 := by omega
  have l5 : x0.2.2.1.length ≤ 1048576 := by omega
  have l19 : x0.2.2.2.2.2.2.2.2.length ≤ 1048576 := by omega
  have m4 : (x0.2.1.map cvPoint).length = x0.2.1.length := List.length_map _
  have m5 : (x0.2.2.1.map cvPoint).length = x0.2.2.1.length := List.length_map _
  have m19 : (x0.2.2.2.2.2.2.2.2.map cvPoint).length = x0.2.2.2.2.2.2.2.2.length := List.length_map _
  have et := toClient_ev x0.1.1 x0.1.2.1 x0.1.2.2.1 x0.1.2.2.2 x0.2.1 x0.2.2.1 x0.2.2.2.1 x0.2.2.2.2.1.f0 x0.2.2.2.2.1.f1 x0.2.2.2.2.1.f2 x0.2.2.2.2.2.1.f0 x0.2.2.2.2.2.1.f1 x0.2.2.2.2.2.1.f2 x0.2.2.2.2.2.2.1.f0 x0.2.2.2.2.2.2.1.f1 x0.2.2.2.2.2.2.1.f2 x0.2.2.2.2.2.2.2.1.f0 x0.2.2.2.2.2.2.2.1.f1 x0.2.2.2.2.2.2.2.1.f2 x0.2.2.2.2.2.2.2.2 l4 l5 l19
  refine Ev.bind et (Ev.bind (spec_ClientOk_ev _ _ _ _ (x0.2.1.map cvPoint) (x0.2.2.1.map cvPoint) _ _ _ _ _ _ _ _ _ _ _ _ _ _ (by omega) (by omega)) (Ev.bind et (Ev.bind (impl_ClientOk_ev _ _ _ _ (x0.2.1.map cvPoint) (x0.2.2.1.map cvPoint) _ _ _ _ _ _ _ _ _ _ _ _ _ _ (by omega) (by omega)) ?_)))
  refine Ev.neg (by simp) (Ev.bind et (Ev.bind (eqClient_same _ _ _ _ (x0.2.1.map cvPoint) (x0.2.2.1.map cvPoint) _ _ _ _ _ _ _ _ _ _ _ _ _ (x0.2.2.2.2.2.2.2.2.map cvPoint) (by omega) (by omega) (by omega)) ?_))
  exact Ev.pos rfl (Ev.now _)

end Go.Proofs.Ytegchimmolpmeaa.Pure
