/- FnExactToxicOk, the pure part: both say the same of every system and five numbers. No conditions. -/
import Derived.Test.YtmhakjpjnnfidaaQFnExactToxicOkx7
import Derived.Test.YtmhakjpjnnfidaaKindsFnExactToxicOk
import Derived.Test.YtmhakjpjnnfidaaPLbaseFnExactToxicOk
namespace Go.Proofs.Ytmhakjpjnnfidaa.Pure
open Go Go.RowKit Go.Proofs.Ytmhakjpjnnfidaa.QFnExactToxicOk Go.Proofs.YtmhakjpjnnfidaaW.PrintWords Go.Proofs.YtmhakjpjnnfidaaW.PrintLast Go.Proofs.YtmhakjpjnnfidaaW.PrintMore Go.Proofs.Ytmhakjpjnnfidaa.PL
set_option linter.unusedVariables false
set_option linter.unusedSimpArgs false

-- gen.py
theorem szIntS_ev (l : List Int) (hl : l.length ≤ 9223372036854775807) (v : Int) (h0 : 0 ≤ v) (h1 : v ≤ 1048576) : ∃ r, Ev (fun k => laws_szIntS.f l v) r ∧ (0 ≤ r → r ≤ v ∧ l.length ≤ 1048576) := by
  unfold laws_szIntS.f
  have e : wrap64 (v - (l.length : Int)) = v - (l.length : Int) := w64 (by omega)
  rw [e]
  by_cases c : v - (l.length : Int) < 0
  · exact ⟨-1, Ev.pos c (Ev.now _), fun h => by omega⟩
  · exact ⟨_, Ev.neg c (Ev.now _), fun h => ⟨by omega, by omega⟩⟩

-- gen.py
theorem szRow_ev (x0 : List Int) (x1 : List Int) (x2 : List Int) (h_x0 : (x0.length ≤ 9223372036854775807 ∧ ∀ y ∈ x0, (Lit.int .i64 y).wf = true)) (h_x1 : (x1.length ≤ 9223372036854775807 ∧ ∀ y ∈ x1, (Lit.int .i64 y).wf = true)) (h_x2 : (x2.length ≤ 9223372036854775807 ∧ ∀ y ∈ x2, (Lit.int .i64 y).wf = true)) (v : Int) (h0 : 0 ≤ v) (h1 : v ≤ 1048576) :
    ∃ r, Ev (fun k => laws_szRow.f x0 x1 x2 v) r ∧ (0 ≤ r → r ≤ v ∧ x0.length ≤ 1048576 ∧ x1.length ≤ 1048576 ∧ x2.length ≤ 1048576) := by
  unfold laws_szRow.f
  obtain ⟨r1, e1, p1⟩ := szIntS_ev x0 h_x0.1 v (by omega) (by omega)
  by_cases c1 : r1 < 0
  · exact ⟨-1, Ev.bind e1 (Ev.pos c1 (Ev.now _)), fun h => by omega⟩
  obtain ⟨g1, s1⟩ := p1 (by omega)
  obtain ⟨r2, e2, p2⟩ := szIntS_ev x1 h_x1.1 r1 (by omega) (by omega)
  by_cases c2 : r2 < 0
  · exact ⟨-1, Ev.bind e1 (Ev.neg c1 (Ev.bind e2 (Ev.pos c2 (Ev.now _)))), fun h => by omega⟩
  obtain ⟨g2, s2⟩ := p2 (by omega)
  obtain ⟨r3, e3, p3⟩ := szIntS_ev x2 h_x2.1 r2 (by omega) (by omega)
  by_cases c3 : r3 < 0
  · exact ⟨-1, Ev.bind e1 (Ev.neg c1 (Ev.bind e2 (Ev.neg c2 (Ev.bind e3 (Ev.pos c3 (Ev.now _)))))), fun h => by omega⟩
  obtain ⟨g3, s3⟩ := p3 (by omega)
  exact ⟨r3, Ev.bind e1 (Ev.neg c1 (Ev.bind e2 (Ev.neg c2 (Ev.bind e3 (Ev.neg c3 (Ev.now _)))))), fun h => ⟨by omega, s1, s2, s3⟩⟩

-- gen.py
def smRow (x : S161) : Prop := x.f0.length ≤ 1048576 ∧ x.f1.length ≤ 1048576 ∧ x.f2.length ≤ 1048576
theorem szRowS_l (x0 : List S161) (hb : x0.length ≤ 281474976710656) (hs : ∀ s ∈ x0, wf161 s) (n : Nat) : ∀ (i : Nat) (v : Int), i + n = x0.length → 0 ≤ v → v ≤ 1048576 →
    ∃ r, Ev (fun k => laws_szRowS.l0 k x0 v (i : Int)) r ∧ (0 ≤ r → r ≤ v ∧ ∀ s ∈ x0.drop i, smRow s) := by
  induction n with
  | zero =>
    intro i v hi h0 h1
    refine ⟨v, Ev.step (fun k => by rw [laws_szRowS.l0, if_neg (by omega)]) (Ev.now _), fun _ => ⟨by omega, ?_⟩⟩
    rw [List.drop_eq_nil_of_le (by omega)]
    simp
  | succ n ih =>
    intro i v hi h0' h1'
    have hg : rd_T161 x0 (i : Int) = x0[i]'(by omega) := getD_get' _ x0 i (by omega)
    have hx := hs _ (List.getElem_mem (show i < x0.length by omega))
    obtain ⟨h0, h1, h2⟩ := hx
    obtain ⟨t, et, pt⟩ := szRow_ev (x0[i]'(by omega)).f0 (x0[i]'(by omega)).f1 (x0[i]'(by omega)).f2 h0 h1 h2 v h0' h1'
    by_cases hc : t < 0
    · exact ⟨-1, Ev.step (fun k => by rw [laws_szRowS.l0, if_pos (by omega), if_pos (by omega), hg]) (Ev.bind et (Ev.pos hc (Ev.now _))), fun h => by omega⟩
    · obtain ⟨ht, hq⟩ := pt (by omega)
      obtain ⟨r, hr, hp⟩ := ih (i + 1) t (by omega) (by omega) (by omega)
      refine ⟨r, Ev.step (fun k => by rw [laws_szRowS.l0, if_pos (by omega), if_pos (by omega), hg, wNat (by omega)]) (Ev.bind et (Ev.neg hc hr)), fun h => ?_⟩
      obtain ⟨h2, h3⟩ := hp h
      refine ⟨by omega, ?_⟩
      rw [drop_cons x0 i (by omega)]
      intro s hs'
      rcases List.mem_cons.1 hs' with rfl | hs'
      · exact hq
      · exact h3 s hs'
theorem szRowS_ev (x0 : List S161) (hl : x0.length ≤ 9223372036854775807) (hs : ∀ s ∈ x0, wf161 s) (v : Int) (h0 : 0 ≤ v) (h1 : v ≤ 1048576) :
    ∃ r, Ev (fun k => laws_szRowS.f k x0 v) r ∧ (0 ≤ r → r ≤ v ∧ (x0.length ≤ 1048576 ∧ ∀ s ∈ x0, smRow s)) := by
  unfold laws_szRowS.f
  have e : wrap64 (v - (x0.length : Int)) = v - (x0.length : Int) := w64 (by omega)
  rw [e]
  by_cases hc : v - (x0.length : Int) < 0
  · exact ⟨-1, Ev.pos hc (Ev.now _), fun h => by omega⟩
  · obtain ⟨r, hr, hp⟩ := szRowS_l x0 (by omega) hs x0.length 0 (v - (x0.length : Int)) (by omega) (by omega) (by omega)
    refine ⟨r, Ev.neg hc hr, fun h => ?_⟩
    obtain ⟨h2, h3⟩ := hp h
    exact ⟨by omega, by omega, by simpa using h3⟩

-- gen.py
theorem szSystem_ev (x0 : Int) (x1 : Int) (x2 : List S161) (h_x2 : (x2.length ≤ 9223372036854775807 ∧ ∀ y ∈ x2, wf161 y)) (v : Int) (h0 : 0 ≤ v) (h1 : v ≤ 1048576) :
    ∃ r, Ev (fun k => laws_szSystem.f k x0 x1 x2 v) r ∧ (0 ≤ r → r ≤ v ∧ (x2.length ≤ 1048576 ∧ ∀ s ∈ x2, smRow s)) := by
  unfold laws_szSystem.f
  obtain ⟨r3, e3, p3⟩ := szRowS_ev x2 h_x2.1 h_x2.2 v (by omega) (by omega)
  by_cases c3 : r3 < 0
  · exact ⟨-1, Ev.bind e3 (Ev.pos c3 (Ev.now _)), fun h => by omega⟩
  obtain ⟨g3, s3⟩ := p3 (by omega)
  exact ⟨r3, Ev.bind e3 (Ev.neg c3 (Ev.now _)), fun h => ⟨by omega, s3⟩⟩

theorem toIntS_l (x0 : List Int) (hb : x0.length ≤ 281474976710656) (n : Nat) : ∀ (i : Nat) (x3 : List Int), i + n = x0.length → x3.length = x0.length → x3.take i = x0.take i →
    Ev (fun k => laws_toIntS.l0 k x0 x3 (i : Int)) x0 := by
  induction n with
  | zero =>
    intro i x3 hi hl ht
    refine Ev.step (fun k => by rw [laws_toIntS.l0, if_neg (by omega)]) (Ev.some_ ?_)
    have hi' : i = x0.length := by omega
    subst hi'
    rw [List.take_length, List.take_of_length_le (by omega)] at ht
    exact ht
  | succ n ih =>
    intro i x3 hi hl ht
    refine Ev.step (fun k => by rw [laws_toIntS.l0, if_pos (by omega), if_pos (by omega), if_pos (by omega)]) ?_
    rw [wNat (by omega)]
    refine ih (i + 1) _ (by omega) (by simp [hl]) ?_
    rw [Int.toNat_natCast, rd_get x0 i (by omega), List.take_add_one, List.take_set_of_le (Nat.le_refl _), ht, List.take_add_one]
    congr 1
    rw [List.getElem?_set_self (by omega), List.getElem?_eq_getElem (by omega)]
theorem toIntS_ev (x0 : List Int) (hb : x0.length ≤ 35184372088832) : Ev (fun k => laws_toIntS.f k x0) x0 := by
  unfold laws_toIntS.f
  refine Ev.pos (by omega) (Ev.pos (by omega) ?_)
  exact toIntS_l x0 (by omega) x0.length 0 _ (by omega) (by simp) (by simp)

-- gen.py
theorem toRow_ev (x0 : List Int) (x1 : List Int) (x2 : List Int) (h_x0 : x0.length ≤ 1048576) (h_x1 : x1.length ≤ 1048576) (h_x2 : x2.length ≤ 1048576) : Ev (fun k => laws_toRow.f k x0 x1 x2) (x0, x1, x2) := by
  unfold laws_toRow.f
  exact Ev.bind (toIntS_ev x0 (by omega)) (Ev.bind (toIntS_ev x1 (by omega)) (Ev.bind (toIntS_ev x2 (by omega)) (Ev.now _)))

-- gen.py
def cvRow (x : S161) : S162 := ⟨x.f0, x.f1, x.f2⟩
theorem toRowS_l (x0 : List S161) (hb : x0.length ≤ 1048576) (hs : ∀ s ∈ x0, smRow s) (n : Nat) : ∀ (i : Nat) (x3 : List S162), i + n = x0.length → x3.length = x0.length → x3.take i = (x0.map cvRow).take i →
    Ev (fun k => laws_toRowS.l0 k x0 x3 (i : Int)) (x0.map cvRow) := by
  induction n with
  | zero =>
    intro i x3 hi hl ht
    refine Ev.step (fun k => by rw [laws_toRowS.l0, if_neg (by omega)]) (Ev.some_ ?_)
    have hi' : i = x0.length := by omega
    subst hi'
    exact fill_done cvRow x0 x3 hl ht
  | succ n ih =>
    intro i x3 hi hl ht
    have hg : rd_T161 x0 (i : Int) = x0[i]'(by omega) := getD_get' _ x0 i (by omega)
    obtain ⟨q0, q1, q2⟩ := hs _ (List.getElem_mem (show i < x0.length by omega))
    have et := toRow_ev (x0[i]'(by omega)).f0 (x0[i]'(by omega)).f1 (x0[i]'(by omega)).f2 q0 q1 q2
    refine Ev.step (fun k => by rw [laws_toRowS.l0, if_pos (by omega), if_pos (by omega), hg]) ?_
    refine Ev.bind et (Ev.pos (by omega) ?_)
    rw [wNat (by omega), Int.toNat_natCast]
    exact ih (i + 1) _ (by omega) (by simp [hl]) (fill_step cvRow x0 x3 i (by omega) hl ht)
theorem toRowS_ev (x0 : List S161) (hb : x0.length ≤ 1048576) (hs : ∀ s ∈ x0, smRow s) : Ev (fun k => laws_toRowS.f k x0) (x0.map cvRow) := by
  unfold laws_toRowS.f
  refine Ev.pos (by omega) (Ev.pos (by omega) ?_)
  exact toRowS_l x0 hb hs x0.length 0 _ (by omega) (by simp) (by simp)

-- gen.py
theorem toSystem_ev (x0 : Int) (x1 : Int) (x2 : List S161) (h_x2 : (x2.length ≤ 1048576 ∧ ∀ s ∈ x2, smRow s)) : Ev (fun k => laws_toSystem.f k x0 x1 x2) (x0, x1, (x2.map cvRow)) := by
  unfold laws_toSystem.f
  exact Ev.bind (toRowS_ev x2 h_x2.1 h_x2.2) (Ev.now _)

theorem eqIntS_l (x0 x1 : List Int) (hb : x0.length ≤ 281474976710656) (hl : x0.length = x1.length) (n : Nat) : ∀ (i : Nat), i + n = x0.length →
    Ev (fun k => laws_eqIntS.l0 k x0 x1 (i : Int)) (decide (x0.drop i = x1.drop i)) := by
  induction n with
  | zero =>
    intro i hi
    refine Ev.step (fun k => by rw [laws_eqIntS.l0, if_neg (by omega)]) (Ev.some_ ?_)
    rw [List.drop_eq_nil_of_le (by omega), List.drop_eq_nil_of_le (by omega)]
    rfl
  | succ n ih =>
    intro i hi
    rw [drop_cons x0 i (by omega), drop_cons x1 i (by omega)]
    by_cases hc : x0[i]'(by omega) = x1[i]'(by omega)
    · refine Ev.step (fun k => by rw [laws_eqIntS.l0, if_pos (by omega), if_pos (by omega), if_pos (by omega), if_pos (by rw [rd_get x0 i (by omega), rd_get x1 i (by omega)]; exact hc)]) ?_
      rw [wNat (by omega)]
      exact (ih (i + 1) (by omega)).eq (dec_cons hc _ _)
    · refine Ev.step (fun k => by rw [laws_eqIntS.l0, if_pos (by omega), if_pos (by omega), if_pos (by omega), if_neg (by rw [rd_get x0 i (by omega), rd_get x1 i (by omega)]; exact hc)]) (Ev.some_ (dec_ne hc _ _))
theorem eqIntS_ev (x0 x1 : List Int) (hb : x0.length ≤ 281474976710656) : Ev (fun k => laws_eqIntS.f k x0 x1) (decide (x0 = x1)) := by
  unfold laws_eqIntS.f
  by_cases hl : x0.length = x1.length
  · refine Ev.pos (by omega) ?_
    exact eqIntS_l x0 x1 hb hl x0.length 0 (by omega)
  · refine Ev.neg (by omega) (Ev.some_ ?_)
    rw [eq_comm, decide_eq_false_iff_not]
    intro h
    rw [h] at hl
    exact hl rfl
theorem eqIntS_same (x0 : List Int) (hb : x0.length ≤ 281474976710656) : Ev (fun k => laws_eqIntS.f k x0 x0) true := (eqIntS_ev x0 x0 hb).eq (by simp)

-- gen.py
theorem eqRow_same (x0 : List Int) (x1 : List Int) (x2 : List Int) (h_x0 : x0.length ≤ 281474976710656) (h_x1 : x1.length ≤ 281474976710656) (h_x2 : x2.length ≤ 281474976710656) : Ev (fun k => laws_eqRow.f k x0 x1 x2 x0 x1 x2) true := by
  unfold laws_eqRow.f
  exact Ev.bind (eqIntS_same x0 h_x0) (Ev.pos rfl (Ev.bind (eqIntS_same x1 h_x1) (Ev.pos rfl (Ev.bind (eqIntS_same x2 h_x2) (Ev.pos rfl (Ev.now _))))))

-- gen.py
def leRow (x : S162) : Prop := x.f0.length ≤ 281474976710656 ∧ x.f1.length ≤ 281474976710656 ∧ x.f2.length ≤ 281474976710656
theorem eqRowS_l (x0 : List S162) (hb : x0.length ≤ 281474976710656) (hs : ∀ s ∈ x0, leRow s) (n : Nat) : ∀ (i : Nat), i + n = x0.length → Ev (fun k => laws_eqRowS.l0 k x0 x0 (i : Int)) true := by
  induction n with
  | zero =>
    intro i hi
    exact Ev.step (fun k => by rw [laws_eqRowS.l0, if_neg (by omega)]) (Ev.now _)
  | succ n ih =>
    intro i hi
    have hg : rd_T162 x0 (i : Int) = x0[i]'(by omega) := getD_get' _ x0 i (by omega)
    obtain ⟨q0, q1, q2⟩ := hs _ (List.getElem_mem (show i < x0.length by omega))
    have et := eqRow_same (x0[i]'(by omega)).f0 (x0[i]'(by omega)).f1 (x0[i]'(by omega)).f2 q0 q1 q2
    refine Ev.step (fun k => by rw [laws_eqRowS.l0, if_pos (by omega), if_pos (by omega), if_pos (by omega), hg, wNat (by omega)]) ?_
    refine Ev.bind et (Ev.pos rfl ?_)
    exact ih (i + 1) (by omega)
theorem eqRowS_same (x0 : List S162) (hb : x0.length ≤ 281474976710656) (hs : ∀ s ∈ x0, leRow s) : Ev (fun k => laws_eqRowS.f k x0 x0) true := by
  unfold laws_eqRowS.f
  exact Ev.pos rfl (eqRowS_l x0 hb hs x0.length 0 (by omega))

-- gen.py
theorem eqSystem_same (x0 : Int) (x1 : Int) (x2 : List S162) (h_x2 : (x2.length ≤ 281474976710656 ∧ ∀ s ∈ x2, leRow s)) : Ev (fun k => laws_eqSystem.f k x0 x1 x2 x0 x1 x2) true := by
  unfold laws_eqSystem.f
  exact Ev.pos rfl (Ev.pos rfl (Ev.bind (eqRowS_same x2 h_x2.1 h_x2.2) (Ev.pos rfl (Ev.now _))))

-- gen.py
theorem toToxic_ev (x0 : Int) (x1 : Int) (x2 : Int) (x3 : Int) (x4 : Int)  : Ev (fun k => laws_toToxic.f x0 x1 x2 x3 x4) (x0, x1, x2, x3, x4) := by
  unfold laws_toToxic.f
  exact Ev.now _

def scOk (n : Int) : Bool := decide (0 ≤ n ∧ n ≤ 1008)
def wide (l : List Int) (n : Int) : Bool := l.all scOk && decide ((l.length : Int) = n)
def rowWide (n : Int) (r : S162) : Bool := wide r.f0 n && (wide r.f1 n && wide r.f2 n)
def sysOk (w p : Int) (rows : List S162) : Bool :=
  decide (1 ≤ w ∧ w ≤ 20) && (decide (0 ≤ p ∧ p ≤ w - 1) && (decide (1 ≤ rows.length ∧ rows.length ≤ 16) && rows.all (rowWide w)))

def scPos (n : Int) : Bool := decide (1 ≤ n ∧ n ≤ 1008)
def toxOk (w p : Int) (rows : List S162) (t a b c d : Int) : Bool :=
  sysOk w p rows && (scPos t && (scPos a && (scPos b && (scPos c && (scPos d && decide (t > (rows.length : Int)))))))

theorem spec_l01In_eq (a b c : Int) : spec_l01In.f a b c = some (decide (b ≤ a ∧ a ≤ c)) := by
  unfold spec_l01In.f
  by_cases h : a ≥ b
  · rw [if_pos h]; congr 1; simp [show b ≤ a from h]
  · rw [if_neg h]; congr 1; rw [eq_comm, decide_eq_false_iff_not]; omega

theorem spec_l13Wide_l (x0 : List Int) (m : Int) (hb : x0.length ≤ 281474976710656) (n : Nat) : ∀ (i : Nat), i + n = x0.length →
    Ev (fun k => spec_l13Wide.l0 k x0 m (i : Int)) ((x0.drop i).all scOk && decide ((x0.length : Int) = m)) := by
  induction n with
  | zero =>
    intro i hi
    refine Ev.step (fun k => by rw [spec_l13Wide.l0, if_neg (by omega)]) (Ev.some_ ?_)
    rw [List.drop_eq_nil_of_le (by omega), List.all_nil, Bool.true_and, beq_dec]
  | succ n ih =>
    intro i hi
    rw [drop_cons x0 i (by omega), List.all_cons]
    by_cases hc : 0 ≤ x0[i]'(by omega) ∧ x0[i]'(by omega) ≤ 1008
    · refine Ev.step (fun k => by rw [spec_l13Wide.l0, if_pos (by omega), if_pos (by omega), spec_l01In_eq, Option.bind_some, if_pos (by rw [rd_get x0 i (by omega)]; exact decide_eq_true hc)]) ?_
      rw [wNat (by omega), scOk, decide_eq_true hc, Bool.true_and]
      exact ih (i + 1) (by omega)
    · refine Ev.step (fun k => by rw [spec_l13Wide.l0, if_pos (by omega), if_pos (by omega), spec_l01In_eq, Option.bind_some, if_neg (by rw [rd_get x0 i (by omega)]; simpa using hc)]) (Ev.some_ ?_)
      rw [scOk, decide_eq_false hc, Bool.false_and, Bool.false_and]
theorem spec_l13Wide_ev (x0 : List Int) (m : Int) (hb : x0.length ≤ 281474976710656) : Ev (fun k => spec_l13Wide.f k x0 m) (wide x0 m) := by
  unfold spec_l13Wide.f
  exact spec_l13Wide_l x0 m hb x0.length 0 (by omega)
theorem spec_SystemOk_l (a b : Int) (rows : List S162) (hb : rows.length ≤ 281474976710656) (hr : ∀ s ∈ rows, leRow s) (n : Nat) : ∀ (i : Nat), i + n = rows.length →
    Ev (fun k => spec_SystemOk.l0 k (i : Int) a b rows) ((rows.drop i).all (rowWide a)) := by
  induction n with
  | zero =>
    intro i hi
    refine Ev.step (fun k => by rw [spec_SystemOk.l0, if_neg (by omega)]) (Ev.some_ ?_)
    rw [List.drop_eq_nil_of_le (by omega), List.all_nil]
  | succ n ih =>
    intro i hi
    have hg : rd_T162 rows (i : Int) = rows[i]'(by omega) := getD_get' _ rows i (by omega)
    obtain ⟨h0, h1, h2⟩ := hr (rows[i]'(by omega)) (List.getElem_mem _)
    rw [drop_cons rows i (by omega), List.all_cons, rowWide]
    refine Ev.step (fun k => by rw [spec_SystemOk.l0, if_pos (by omega), if_pos (by omega), hg, wNat (by omega)]) ?_
    refine Ev.bind (spec_l13Wide_ev _ a h0) ?_
    by_cases c0 : wide (rows[i]'(by omega)).f0 a = true
    · refine Ev.pos c0 (Ev.bind (spec_l13Wide_ev _ a h1) ?_)
      by_cases c1 : wide (rows[i]'(by omega)).f1 a = true
      · refine Ev.pos c1 (Ev.bind (spec_l13Wide_ev _ a h2) ?_)
        by_cases c2 : wide (rows[i]'(by omega)).f2 a = true
        · refine Ev.pos c2 ?_
          rw [c0, c1, c2]
          simp only [Bool.true_and]
          exact ih (i + 1) (by omega)
        · exact Ev.neg c2 (Ev.some_ (by simp only [Bool.not_eq_true] at c2; rw [c2]; simp))
      · exact Ev.neg c1 (Ev.some_ (by simp only [Bool.not_eq_true] at c1; rw [c1]; simp))
    · exact Ev.neg c0 (Ev.some_ (by simp only [Bool.not_eq_true] at c0; rw [c0]; simp))
theorem spec_SystemOk_ev (a b : Int) (rows : List S162) (hb : rows.length ≤ 281474976710656) (hr : ∀ s ∈ rows, leRow s) : Ev (fun k => spec_SystemOk.f k a b rows) (sysOk a b rows) := by
  unfold spec_SystemOk.f sysOk
  have hz : Ev (fun k => spec_SystemOk.j0 k true a b rows) false := by
    refine Ev.step (fun k => by rw [spec_SystemOk.j0, if_pos rfl]) (Ev.now _)
  refine Ev.bindc (spec_l01In_eq _ _ _) ?_
  by_cases c0 : 1 ≤ a ∧ a ≤ 20
  · refine Ev.pos (decide_eq_true c0) (Ev.bindc (spec_l01In_eq _ _ _) ?_)
    rw [w64 (by omega)]
    by_cases c1 : 0 ≤ b ∧ b ≤ a - 1
    · refine Ev.pos (decide_eq_true c1) (Ev.bindc (spec_l01In_eq _ _ _) ?_)
      by_cases c2 : 1 ≤ rows.length ∧ rows.length ≤ 16
      · have e : decide (1 ≤ (rows.length : Int) ∧ (rows.length : Int) ≤ 16) = true := decide_eq_true (by omega)
        rw [e, decide_eq_true c0, decide_eq_true c1, decide_eq_true c2]
        simp only [Bool.true_and]
        refine Ev.step (fun k => by rw [spec_SystemOk.j0, if_neg (by simp)]) ?_
        exact spec_SystemOk_l a b rows hb hr rows.length 0 (by omega)
      · have e : decide (1 ≤ (rows.length : Int) ∧ (rows.length : Int) ≤ 16) = false := decide_eq_false (by omega)
        rw [e]
        exact hz.eq (by rw [decide_eq_false c2]; simp)
    · exact Ev.neg (by simpa using c1) (hz.eq (by rw [decide_eq_false c1]; simp))
  · exact Ev.neg (by simpa using c0) (hz.eq (by rw [decide_eq_false c0]; simp))

theorem spec_l16Scalar_eq (n : Int) : spec_l16Scalar.f n = some (scPos n) := by
  unfold spec_l16Scalar.f
  rw [spec_l01In_eq]; rfl
theorem spec_ToxicOk_ev (w p : Int) (rows : List S162) (hb : rows.length ≤ 281474976710656) (hr : ∀ s ∈ rows, leRow s) (t a b c d : Int) : Ev (fun k => spec_ToxicOk.f k w p rows t a b c d) (toxOk w p rows t a b c d) := by
  unfold spec_ToxicOk.f toxOk
  refine Ev.bind (spec_SystemOk_ev w p rows hb hr) ?_
  simp only [spec_l16Scalar_eq, Option.bind_some]
  cases sysOk w p rows <;> cases scPos t <;> cases scPos a <;> cases scPos b <;> cases scPos c <;> cases scPos d <;> simp <;> exact Ev.now _

theorem impl_isScalar_eq (n : Int) : impl_isScalar.f n = some (scOk n) := by
  unfold impl_isScalar.f scOk
  by_cases h : n ≥ 0
  · rw [if_pos h]; congr 1; exact decide_eq_decide.2 (by omega)
  · rw [if_neg h]; congr 1; rw [eq_comm, decide_eq_false_iff_not]; omega
theorem impl_areScalars_l (x : List Int) (hb : x.length ≤ 281474976710656) (n : Nat) : ∀ (i : Nat), i + n = x.length →
    Ev (fun k => impl_areScalars.l0 k x (x.length : Int) (i : Int)) ((x.drop i).all scOk) := by
  induction n with
  | zero =>
    intro i hi
    refine Ev.step (fun k => by rw [impl_areScalars.l0, if_neg (by omega)]) (Ev.some_ ?_)
    rw [List.drop_eq_nil_of_le (by omega), List.all_nil]
  | succ n ih =>
    intro i hi
    rw [drop_cons x i (by omega), List.all_cons]
    by_cases hc : scOk (x[i]'(by omega)) = true
    · refine Ev.step (fun k => by rw [impl_areScalars.l0, if_pos (by omega), if_pos (by omega), if_pos (by omega), impl_isScalar_eq, Option.bind_some, if_pos (by rw [rd_get x i (by omega)]; exact hc)]) ?_
      rw [wNat (by omega), hc, Bool.true_and]
      exact ih (i + 1) (by omega)
    · refine Ev.step (fun k => by rw [impl_areScalars.l0, if_pos (by omega), if_pos (by omega), if_pos (by omega), impl_isScalar_eq, Option.bind_some, if_neg (by rw [rd_get x i (by omega)]; exact hc)]) (Ev.some_ ?_)
      rw [Bool.not_eq_true] at hc
      rw [hc, Bool.false_and]
theorem impl_areScalars_ev (x : List Int) (hb : x.length ≤ 281474976710656) : Ev (fun k => impl_areScalars.f k x) (x.all scOk) := by
  unfold impl_areScalars.f
  exact impl_areScalars_l x hb x.length 0 (by omega)
theorem wide_of (l : List Int) (n : Int) : wide l n = (decide ((l.length : Int) = n) && l.all scOk) := by rw [wide, Bool.and_comm]
/-- the three rows of a round, from the j-th on; r: what comes behind. -/
theorem impl_SystemOk_l1 (a b : Int) (rows : List S162) (y : List (List Int)) (i : Int) (hl : y.length ≤ 3) (hy : ∀ l ∈ y, l.length ≤ 281474976710656) (r : Bool)
    (hn : Ev (fun k => impl_SystemOk.l0 k rows (rows.length : Int) (wrap64 (i + 1)) a b rows) r) (n : Nat) : ∀ (j : Nat), j + n = y.length →
    Ev (fun k => impl_SystemOk.l1 k rows (rows.length : Int) i y (y.length : Int) (j : Int) a b rows) ((y.drop j).all (fun l => wide l a) && r) := by
  induction n with
  | zero =>
    intro j hj
    refine Ev.step (fun k => by rw [impl_SystemOk.l1, if_neg (by omega)]) ?_
    rw [List.drop_eq_nil_of_le (by omega), List.all_nil, Bool.true_and]
    exact hn
  | succ n ih =>
    intro j hj
    have hg : rd_L1 y (j : Int) = y[j]'(by omega) := getD_get' _ y j (by omega)
    rw [drop_cons y j (by omega), List.all_cons, wide_of]
    refine Ev.step (fun k => by rw [impl_SystemOk.l1, if_pos (by omega), if_pos (by omega), if_pos (by omega), hg, wNat (by omega)]) ?_
    by_cases c0 : ((y[j]'(by omega)).length : Int) = a
    · refine Ev.pos c0 (Ev.bind (impl_areScalars_ev _ (hy _ (List.getElem_mem _))) ?_)
      by_cases c1 : (y[j]'(by omega)).all scOk = true
      · refine Ev.pos c1 ?_
        rw [decide_eq_true c0, c1, Bool.true_and, Bool.true_and]
        exact ih (j + 1) (by omega)
      · exact Ev.neg c1 (Ev.some_ (by rw [Bool.not_eq_true] at c1; rw [c1]; simp))
    · exact Ev.neg c0 (Ev.some_ (by rw [decide_eq_false c0]; simp))
theorem impl_SystemOk_l (a b : Int) (rows : List S162) (hb : rows.length ≤ 281474976710656) (hr : ∀ s ∈ rows, leRow s) (n : Nat) : ∀ (i : Nat), i + n = rows.length →
    Ev (fun k => impl_SystemOk.l0 k rows (rows.length : Int) (i : Int) a b rows) ((rows.drop i).all (rowWide a)) := by
  induction n with
  | zero =>
    intro i hi
    refine Ev.step (fun k => by rw [impl_SystemOk.l0, if_neg (by omega)]) (Ev.some_ ?_)
    rw [List.drop_eq_nil_of_le (by omega), List.all_nil]
  | succ n ih =>
    intro i hi
    have hg : rd_T162 rows (i : Int) = rows[i]'(by omega) := getD_get' _ rows i (by omega)
    obtain ⟨h0, h1, h2⟩ := hr (rows[i]'(by omega)) (List.getElem_mem _)
    rw [drop_cons rows i (by omega), List.all_cons]
    refine Ev.step (fun k => by rw [impl_SystemOk.l0, if_pos (by omega), if_pos (by omega), if_pos (by omega), hg]) (Ev.bindc rfl ?_)
    have hs := ih (i + 1) (by omega)
    rw [← wNat (by omega)] at hs
    refine (impl_SystemOk_l1 a b rows [(rows[i]'(by omega)).f0, (rows[i]'(by omega)).f1, (rows[i]'(by omega)).f2] (i : Int) (by simp) ?_ _ hs 3 0 (by simp)).eq ?_
    · intro l hl
      simp only [List.mem_cons, List.not_mem_nil, or_false] at hl
      rcases hl with rfl | rfl | rfl <;> assumption
    · simp only [List.drop_zero, List.all_cons, List.all_nil, Bool.and_true, rowWide]
theorem impl_SystemOk_ev (a b : Int) (rows : List S162) (hb : rows.length ≤ 281474976710656) (hr : ∀ s ∈ rows, leRow s) : Ev (fun k => impl_SystemOk.f k a b rows) (sysOk a b rows) := by
  unfold impl_SystemOk.f sysOk
  have hz : Ev (fun k => impl_SystemOk.j0 k true a b rows) false := by
    refine Ev.step (fun k => by rw [impl_SystemOk.j0, if_pos rfl]) (Ev.now _)
  by_cases c0 : 1 ≤ a ∧ a ≤ 20
  · refine Ev.neg (by omega) (Ev.neg (by omega) ?_)
    by_cases c1 : 0 ≤ b ∧ b ≤ a - 1
    · refine Ev.neg (by omega) ?_
      rw [w64 (by omega), show decide (b > a - 1) = false from decide_eq_false (by omega)]
      refine Ev.step (fun k => by rw [impl_SystemOk.j0, if_neg (by simp)]) ?_
      have hz1 : Ev (fun k => impl_SystemOk.j1 k true a b rows) false := by
        refine Ev.step (fun k => by rw [impl_SystemOk.j1, if_pos rfl]) (Ev.now _)
      by_cases c2 : 1 ≤ rows.length ∧ rows.length ≤ 16
      · refine Ev.neg (by omega) ?_
        rw [show decide ((rows.length : Int) > 16) = false from decide_eq_false (by omega), decide_eq_true c0, decide_eq_true c1, decide_eq_true c2]
        simp only [Bool.true_and]
        refine Ev.step (fun k => by rw [impl_SystemOk.j1, if_neg (by simp)]) ?_
        exact impl_SystemOk_l a b rows hb hr rows.length 0 (by omega)
      · refine Ev.eq (r := false) ?_ (by rw [decide_eq_false c2]; simp)
        by_cases c3 : (rows.length : Int) < 1
        · exact Ev.pos c3 hz1
        · refine Ev.neg c3 ?_
          rw [show decide ((rows.length : Int) > 16) = true from decide_eq_true (by omega)]
          exact hz1
    · refine Ev.eq (r := false) ?_ (by rw [decide_eq_false c1]; simp)
      by_cases c3 : b < 0
      · exact Ev.pos c3 hz
      · refine Ev.neg c3 ?_
        rw [w64 (by omega), show decide (b > a - 1) = true from decide_eq_true (by omega)]
        exact hz
  · refine Ev.eq (r := false) ?_ (by rw [decide_eq_false c0]; simp)
    by_cases c3 : a < 1
    · exact Ev.pos c3 hz
    · exact Ev.neg c3 (Ev.pos (by omega) hz)

theorem impl_ToxicOk_l (y : List Int) (hb : y.length ≤ 281474976710656) (n : Nat) : ∀ (i : Nat), i + n = y.length →
    Ev (fun k => impl_ToxicOk.l0 k y (y.length : Int) (i : Int)) ((y.drop i).all scPos) := by
  induction n with
  | zero =>
    intro i hi
    refine Ev.step (fun k => by rw [impl_ToxicOk.l0, if_neg (by omega)]) (Ev.some_ ?_)
    rw [List.drop_eq_nil_of_le (by omega), List.all_nil]
  | succ n ih =>
    intro i hi
    rw [drop_cons y i (by omega), List.all_cons]
    refine Ev.step (fun k => by rw [impl_ToxicOk.l0, if_pos (by omega), if_pos (by omega), if_pos (by omega), rd_get y i (by omega), impl_isScalar_eq, Option.bind_some, wNat (by omega)]) ?_
    by_cases h1 : y[i]'(by omega) < 1
    · refine Ev.pos h1 (Ev.some_ ?_)
      rw [scPos, decide_eq_false (by omega), Bool.false_and]
    · refine Ev.neg h1 ?_
      by_cases h2 : scOk (y[i]'(by omega)) = true
      · refine Ev.pos h2 ?_
        have h3 := h2
        rw [scOk, decide_eq_true_eq] at h3
        rw [scPos, decide_eq_true (by omega), Bool.true_and]
        exact ih (i + 1) (by omega)
      · refine Ev.neg h2 (Ev.some_ ?_)
        have h3 := h2
        rw [scOk, decide_eq_true_eq] at h3
        rw [scPos, decide_eq_false (by omega), Bool.false_and]
theorem impl_ToxicOk_ev (w p : Int) (rows : List S162) (hb : rows.length ≤ 281474976710656) (hr : ∀ s ∈ rows, leRow s) (t a b c d : Int) : Ev (fun k => impl_ToxicOk.f k w p rows t a b c d) (toxOk w p rows t a b c d) := by
  unfold impl_ToxicOk.f toxOk
  have hz : Ev (fun k => impl_ToxicOk.j0 k true t a b c d) false := by
    refine Ev.step (fun k => by rw [impl_ToxicOk.j0, if_pos rfl]) (Ev.now _)
  refine Ev.bind (impl_SystemOk_ev w p rows hb hr) ?_
  by_cases h : sysOk w p rows = true
  · refine Ev.pos h ?_
    rw [h, Bool.true_and]
    by_cases h1 : t ≤ (rows.length : Int)
    · rw [decide_eq_true h1]
      refine hz.eq ?_
      rw [show decide (t > (rows.length : Int)) = false from decide_eq_false (by omega)]
      simp
    · rw [decide_eq_false h1]
      refine Ev.step (fun k => by rw [impl_ToxicOk.j0, if_neg (by simp)]) (Ev.bindc rfl ?_)
      refine (impl_ToxicOk_l [t, a, b, c, d] (by simp) 5 0 (by simp)).eq ?_
      rw [show decide (t > (rows.length : Int)) = true from decide_eq_true (by omega)]
      simp
  · refine Ev.neg h ?_
    rw [Bool.not_eq_true] at h
    rw [h]
    exact hz.eq (by simp)

theorem FnExactToxicOk (x0 : (Int × Int × (List S161))) (x1 : (Int × Int × Int × Int × Int)) : ((((Lit.int .i64 x0.1).wf = true) ∧ (((Lit.int .i64 x0.2.1).wf = true) ∧ ((x0.2.2.length ≤ 9223372036854775807 ∧ ∀ y ∈ x0.2.2, wf161 y))))) → ((((Lit.int .i64 x1.1).wf = true) ∧ (((Lit.int .i64 x1.2.1).wf = true) ∧ (((Lit.int .i64 x1.2.2.1).wf = true) ∧ (((Lit.int .i64 x1.2.2.2.1).wf = true) ∧ ((Lit.int .i64 x1.2.2.2.2).wf = true)))))) → ∃ k, laws_FnExactToxicOk.f k x0.1 x0.2.1 x0.2.2 x1.1 x1.2.1 x1.2.2.1 x1.2.2.2.1 x1.2.2.2.2 = some true := by
  intro h _
  apply Ev.rounds
  unfold laws_FnExactToxicOk.f
  obtain ⟨r, e, p⟩ := szSystem_ev x0.1 x0.2.1 x0.2.2 h.2.2 1048576 (by omega) (by omega)
  refine Ev.bind e ?_
  by_cases h0 : r < 0
  · exact Ev.pos h0 (Ev.now _)
  refine Ev.neg h0 ?_
  have hs := (p (by omega)).2
  have et := toSystem_ev x0.1 x0.2.1 x0.2.2 hs
  have ex := toToxic_ev x1.1 x1.2.1 x1.2.2.1 x1.2.2.2.1 x1.2.2.2.2
  have hm : (x0.2.2.map cvRow).length = x0.2.2.length := List.length_map _
  have hle : ∀ s ∈ x0.2.2.map cvRow, leRow s := by
    intro s hs'
    obtain ⟨y, hy, rfl⟩ := List.mem_map.1 hs'
    obtain ⟨h3, h4, h5⟩ := hs.2 y hy
    exact ⟨by show y.f0.length ≤ _; omega, by show y.f1.length ≤ _; omega, by show y.f2.length ≤ _; omega⟩
  have hb := hs.1
  refine Ev.bind et (Ev.bind ex (Ev.bind (spec_ToxicOk_ev x0.1 x0.2.1 (x0.2.2.map cvRow) (by omega) hle _ _ _ _ _) (Ev.bind et (Ev.bind ex (Ev.bind (impl_ToxicOk_ev x0.1 x0.2.1 (x0.2.2.map cvRow) (by omega) hle _ _ _ _ _) ?_)))))
  exact Ev.neg (by simp) (Ev.bind et (Ev.bind (eqSystem_same x0.1 x0.2.1 (x0.2.2.map cvRow) ⟨by omega, hle⟩) (Ev.pos rfl (Ev.now _))))

end Go.Proofs.Ytmhakjpjnnfidaa.Pure
