/- FnExactAccountsOk, the pure part: both say the same of every list of accounts. No conditions. -/
import Derived.Test.YtmhakjpjnnfidaaQFnExactAccountsOkx6
import Derived.Test.YtmhakjpjnnfidaaKindsFnExactAccountsOk
import Derived.Test.YtmhakjpjnnfidaaPLbase
namespace Go.Proofs.Ytmhakjpjnnfidaa.Pure
open Go Go.RowKit Go.Proofs.Ytmhakjpjnnfidaa.QFnExactAccountsOk Go.Proofs.YtmhakjpjnnfidaaW.PrintWords Go.Proofs.YtmhakjpjnnfidaaW.PrintLast Go.Proofs.YtmhakjpjnnfidaaW.PrintMore Go.Proofs.Ytmhakjpjnnfidaa.PL
set_option linter.unusedVariables false
set_option linter.unusedSimpArgs false

-- gen.py
theorem szPair_ev (x0 : ByteArray) (x1 : ByteArray) (h_x0 : x0.size ≤ 9223372036854775807) (h_x1 : x1.size ≤ 9223372036854775807) (v : Int) (h0 : 0 ≤ v) (h1 : v ≤ 1048576) :
    ∃ r, Ev (fun k => laws_szPair.f x0 x1 v) r ∧ (0 ≤ r → r ≤ v ∧ x0.size ≤ 1048576 ∧ x1.size ≤ 1048576) := by
  unfold laws_szPair.f
  have e1 : wrap64 (v - (x0.size : Int)) = v - (x0.size : Int) := w64 (by omega)
  simp only [e1]
  by_cases c1 : v - (x0.size : Int) < 0
  · exact ⟨-1, Ev.pos c1 (Ev.now _), fun h => by omega⟩
  have e2 : wrap64 ((v - (x0.size : Int)) - (x1.size : Int)) = (v - (x0.size : Int)) - (x1.size : Int) := w64 (by omega)
  simp only [e2]
  by_cases c2 : (v - (x0.size : Int)) - (x1.size : Int) < 0
  · exact ⟨-1, Ev.neg c1 (Ev.pos c2 (Ev.now _)), fun h => by omega⟩
  exact ⟨((v - (x0.size : Int)) - (x1.size : Int)), Ev.neg c1 (Ev.neg c2 (Ev.now _)), fun h => ⟨by omega, (by omega), (by omega)⟩⟩

-- gen.py
def smPair (x : S172) : Prop := x.f0.size ≤ 1048576 ∧ x.f1.size ≤ 1048576
theorem szPairS_l (x0 : List S172) (hb : x0.length ≤ 281474976710656) (hs : ∀ s ∈ x0, wf172 s) (n : Nat) : ∀ (i : Nat) (v : Int), i + n = x0.length → 0 ≤ v → v ≤ 1048576 →
    ∃ r, Ev (fun k => laws_szPairS.l0 k x0 v (i : Int)) r ∧ (0 ≤ r → r ≤ v ∧ ∀ s ∈ x0.drop i, smPair s) := by
  induction n with
  | zero =>
    intro i v hi h0 h1
    refine ⟨v, Ev.step (fun k => by rw [laws_szPairS.l0, if_neg (by omega)]) (Ev.now _), fun _ => ⟨by omega, ?_⟩⟩
    rw [List.drop_eq_nil_of_le (by omega)]
    simp
  | succ n ih =>
    intro i v hi h0' h1'
    have hg : rd_T172 x0 (i : Int) = x0[i]'(by omega) := getD_get' _ x0 i (by omega)
    have hx := hs _ (List.getElem_mem (show i < x0.length by omega))
    obtain ⟨h0, h1⟩ := hx
    obtain ⟨t, et, pt⟩ := szPair_ev (x0[i]'(by omega)).f0 (x0[i]'(by omega)).f1 h0 h1 v h0' h1'
    by_cases hc : t < 0
    · exact ⟨-1, Ev.step (fun k => by rw [laws_szPairS.l0, if_pos (by omega), if_pos (by omega), hg]) (Ev.bind et (Ev.pos hc (Ev.now _))), fun h => by omega⟩
    · obtain ⟨ht, hq⟩ := pt (by omega)
      obtain ⟨r, hr, hp⟩ := ih (i + 1) t (by omega) (by omega) (by omega)
      refine ⟨r, Ev.step (fun k => by rw [laws_szPairS.l0, if_pos (by omega), if_pos (by omega), hg, wNat (by omega)]) (Ev.bind et (Ev.neg hc hr)), fun h => ?_⟩
      obtain ⟨h2, h3⟩ := hp h
      refine ⟨by omega, ?_⟩
      rw [drop_cons x0 i (by omega)]
      intro s hs'
      rcases List.mem_cons.1 hs' with rfl | hs'
      · exact hq
      · exact h3 s hs'
theorem szPairS_ev (x0 : List S172) (hl : x0.length ≤ 9223372036854775807) (hs : ∀ s ∈ x0, wf172 s) (v : Int) (h0 : 0 ≤ v) (h1 : v ≤ 1048576) :
    ∃ r, Ev (fun k => laws_szPairS.f k x0 v) r ∧ (0 ≤ r → r ≤ v ∧ (x0.length ≤ 1048576 ∧ ∀ s ∈ x0, smPair s)) := by
  unfold laws_szPairS.f
  have e : wrap64 (v - (x0.length : Int)) = v - (x0.length : Int) := w64 (by omega)
  rw [e]
  by_cases hc : v - (x0.length : Int) < 0
  · exact ⟨-1, Ev.pos hc (Ev.now _), fun h => by omega⟩
  · obtain ⟨r, hr, hp⟩ := szPairS_l x0 (by omega) hs x0.length 0 (v - (x0.length : Int)) (by omega) (by omega) (by omega)
    refine ⟨r, Ev.neg hc hr, fun h => ?_⟩
    obtain ⟨h2, h3⟩ := hp h
    exact ⟨by omega, by omega, by simpa using h3⟩

-- gen.py
theorem szAccount_ev (x0 : ByteArray) (x1 : Int) (x2 : Int) (x3 : List S172) (h_x0 : x0.size ≤ 9223372036854775807) (h_x3 : (x3.length ≤ 9223372036854775807 ∧ ∀ y ∈ x3, wf172 y)) (v : Int) (h0 : 0 ≤ v) (h1 : v ≤ 1048576) :
    ∃ r, Ev (fun k => laws_szAccount.f k x0 x1 x2 x3 v) r ∧ (0 ≤ r → r ≤ v ∧ x0.size ≤ 1048576 ∧ (x3.length ≤ 1048576 ∧ ∀ s ∈ x3, smPair s)) := by
  unfold laws_szAccount.f
  have e1 : wrap64 (v - (x0.size : Int)) = v - (x0.size : Int) := w64 (by omega)
  simp only [e1]
  by_cases c1 : v - (x0.size : Int) < 0
  · exact ⟨-1, Ev.pos c1 (Ev.now _), fun h => by omega⟩
  obtain ⟨r4, e4, p4⟩ := szPairS_ev x3 h_x3.1 h_x3.2 (v - (x0.size : Int)) (by omega) (by omega)
  by_cases c4 : r4 < 0
  · exact ⟨-1, Ev.neg c1 (Ev.bind e4 (Ev.pos c4 (Ev.now _))), fun h => by omega⟩
  obtain ⟨g4, s4⟩ := p4 (by omega)
  exact ⟨r4, Ev.neg c1 (Ev.bind e4 (Ev.neg c4 (Ev.now _))), fun h => ⟨by omega, (by omega), s4⟩⟩

-- gen.py
def smAccount (x : S99) : Prop := x.f0.size ≤ 1048576 ∧ (x.f3.length ≤ 1048576 ∧ ∀ s ∈ x.f3, smPair s)
theorem szAccountS_l (x0 : List S99) (hb : x0.length ≤ 281474976710656) (hs : ∀ s ∈ x0, wf99 s) (n : Nat) : ∀ (i : Nat) (v : Int), i + n = x0.length → 0 ≤ v → v ≤ 1048576 →
    ∃ r, Ev (fun k => laws_szAccountS.l0 k x0 v (i : Int)) r ∧ (0 ≤ r → r ≤ v ∧ ∀ s ∈ x0.drop i, smAccount s) := by
  induction n with
  | zero =>
    intro i v hi h0 h1
    refine ⟨v, Ev.step (fun k => by rw [laws_szAccountS.l0, if_neg (by omega)]) (Ev.now _), fun _ => ⟨by omega, ?_⟩⟩
    rw [List.drop_eq_nil_of_le (by omega)]
    simp
  | succ n ih =>
    intro i v hi h0' h1'
    have hg : rd_T99 x0 (i : Int) = x0[i]'(by omega) := getD_get' _ x0 i (by omega)
    have hx := hs _ (List.getElem_mem (show i < x0.length by omega))
    obtain ⟨h0, _, _, h3⟩ := hx
    obtain ⟨t, et, pt⟩ := szAccount_ev (x0[i]'(by omega)).f0 (x0[i]'(by omega)).f1 (x0[i]'(by omega)).f2 (x0[i]'(by omega)).f3 h0 h3 v h0' h1'
    by_cases hc : t < 0
    · exact ⟨-1, Ev.step (fun k => by rw [laws_szAccountS.l0, if_pos (by omega), if_pos (by omega), hg]) (Ev.bind et (Ev.pos hc (Ev.now _))), fun h => by omega⟩
    · obtain ⟨ht, hq⟩ := pt (by omega)
      obtain ⟨r, hr, hp⟩ := ih (i + 1) t (by omega) (by omega) (by omega)
      refine ⟨r, Ev.step (fun k => by rw [laws_szAccountS.l0, if_pos (by omega), if_pos (by omega), hg, wNat (by omega)]) (Ev.bind et (Ev.neg hc hr)), fun h => ?_⟩
      obtain ⟨h2, h3⟩ := hp h
      refine ⟨by omega, ?_⟩
      rw [drop_cons x0 i (by omega)]
      intro s hs'
      rcases List.mem_cons.1 hs' with rfl | hs'
      · exact hq
      · exact h3 s hs'
theorem szAccountS_ev (x0 : List S99) (hl : x0.length ≤ 9223372036854775807) (hs : ∀ s ∈ x0, wf99 s) (v : Int) (h0 : 0 ≤ v) (h1 : v ≤ 1048576) :
    ∃ r, Ev (fun k => laws_szAccountS.f k x0 v) r ∧ (0 ≤ r → r ≤ v ∧ (x0.length ≤ 1048576 ∧ ∀ s ∈ x0, smAccount s)) := by
  unfold laws_szAccountS.f
  have e : wrap64 (v - (x0.length : Int)) = v - (x0.length : Int) := w64 (by omega)
  rw [e]
  by_cases hc : v - (x0.length : Int) < 0
  · exact ⟨-1, Ev.pos hc (Ev.now _), fun h => by omega⟩
  · obtain ⟨r, hr, hp⟩ := szAccountS_l x0 (by omega) hs x0.length 0 (v - (x0.length : Int)) (by omega) (by omega) (by omega)
    refine ⟨r, Ev.neg hc hr, fun h => ?_⟩
    obtain ⟨h2, h3⟩ := hp h
    exact ⟨by omega, by omega, by simpa using h3⟩

-- gen.py
theorem toPair_ev (x0 : ByteArray) (x1 : ByteArray)  : Ev (fun k => laws_toPair.f x0 x1) (x0, x1) := by
  unfold laws_toPair.f
  exact Ev.now _

-- gen.py
def cvPair (x : S172) : S145 := ⟨x.f0, x.f1⟩
theorem toPairS_l (x0 : List S172) (hb : x0.length ≤ 1048576) (hs : ∀ s ∈ x0, smPair s) (n : Nat) : ∀ (i : Nat) (x3 : List S145), i + n = x0.length → x3.length = x0.length → x3.take i = (x0.map cvPair).take i →
    Ev (fun k => laws_toPairS.l0 k x0 x3 (i : Int)) (x0.map cvPair) := by
  induction n with
  | zero =>
    intro i x3 hi hl ht
    refine Ev.step (fun k => by rw [laws_toPairS.l0, if_neg (by omega)]) (Ev.some_ ?_)
    have hi' : i = x0.length := by omega
    subst hi'
    exact fill_done cvPair x0 x3 hl ht
  | succ n ih =>
    intro i x3 hi hl ht
    have hg : rd_T172 x0 (i : Int) = x0[i]'(by omega) := getD_get' _ x0 i (by omega)
    have et := toPair_ev (x0[i]'(by omega)).f0 (x0[i]'(by omega)).f1 
    refine Ev.step (fun k => by rw [laws_toPairS.l0, if_pos (by omega), if_pos (by omega), hg]) ?_
    refine Ev.bind et (Ev.pos (by omega) ?_)
    rw [wNat (by omega), Int.toNat_natCast]
    exact ih (i + 1) _ (by omega) (by simp [hl]) (fill_step cvPair x0 x3 i (by omega) hl ht)
theorem toPairS_ev (x0 : List S172) (hb : x0.length ≤ 1048576) (hs : ∀ s ∈ x0, smPair s) : Ev (fun k => laws_toPairS.f k x0) (x0.map cvPair) := by
  unfold laws_toPairS.f
  refine Ev.pos (by omega) (Ev.pos (by omega) ?_)
  exact toPairS_l x0 hb hs x0.length 0 _ (by omega) (by simp) (by simp)

-- gen.py
theorem toAccount_ev (x0 : ByteArray) (x1 : Int) (x2 : Int) (x3 : List S172) (h_x3 : (x3.length ≤ 1048576 ∧ ∀ s ∈ x3, smPair s)) : Ev (fun k => laws_toAccount.f k x0 x1 x2 x3) (x0, x1, x2, (x3.map cvPair)) := by
  unfold laws_toAccount.f
  exact Ev.bind (toPairS_ev x3 h_x3.1 h_x3.2) (Ev.now _)

-- gen.py
def cvAccount (x : S99) : S102 := ⟨x.f0, x.f1, x.f2, (x.f3.map cvPair)⟩
theorem toAccountS_l (x0 : List S99) (hb : x0.length ≤ 1048576) (hs : ∀ s ∈ x0, smAccount s) (n : Nat) : ∀ (i : Nat) (x3 : List S102), i + n = x0.length → x3.length = x0.length → x3.take i = (x0.map cvAccount).take i →
    Ev (fun k => laws_toAccountS.l0 k x0 x3 (i : Int)) (x0.map cvAccount) := by
  induction n with
  | zero =>
    intro i x3 hi hl ht
    refine Ev.step (fun k => by rw [laws_toAccountS.l0, if_neg (by omega)]) (Ev.some_ ?_)
    have hi' : i = x0.length := by omega
    subst hi'
    exact fill_done cvAccount x0 x3 hl ht
  | succ n ih =>
    intro i x3 hi hl ht
    have hg : rd_T99 x0 (i : Int) = x0[i]'(by omega) := getD_get' _ x0 i (by omega)
    obtain ⟨q0, q3⟩ := hs _ (List.getElem_mem (show i < x0.length by omega))
    have et := toAccount_ev (x0[i]'(by omega)).f0 (x0[i]'(by omega)).f1 (x0[i]'(by omega)).f2 (x0[i]'(by omega)).f3 q3
    refine Ev.step (fun k => by rw [laws_toAccountS.l0, if_pos (by omega), if_pos (by omega), hg]) ?_
    refine Ev.bind et (Ev.pos (by omega) ?_)
    rw [wNat (by omega), Int.toNat_natCast]
    exact ih (i + 1) _ (by omega) (by simp [hl]) (fill_step cvAccount x0 x3 i (by omega) hl ht)
theorem toAccountS_ev (x0 : List S99) (hb : x0.length ≤ 1048576) (hs : ∀ s ∈ x0, smAccount s) : Ev (fun k => laws_toAccountS.f k x0) (x0.map cvAccount) := by
  unfold laws_toAccountS.f
  refine Ev.pos (by omega) (Ev.pos (by omega) ?_)
  exact toAccountS_l x0 hb hs x0.length 0 _ (by omega) (by simp) (by simp)

-- gen.py
theorem eqPair_same (x0 : ByteArray) (x1 : ByteArray)  : Ev (fun k => laws_eqPair.f x0 x1 x0 x1) true := by
  unfold laws_eqPair.f
  exact Ev.pos rfl (Ev.pos rfl (Ev.now _))

-- gen.py
theorem eqPairS_l (x0 : List S145) (hb : x0.length ≤ 281474976710656) (n : Nat) : ∀ (i : Nat), i + n = x0.length → Ev (fun k => laws_eqPairS.l0 k x0 x0 (i : Int)) true := by
  induction n with
  | zero =>
    intro i hi
    exact Ev.step (fun k => by rw [laws_eqPairS.l0, if_neg (by omega)]) (Ev.now _)
  | succ n ih =>
    intro i hi
    have hg : rd_T145 x0 (i : Int) = x0[i]'(by omega) := getD_get' _ x0 i (by omega)
    have et := eqPair_same (x0[i]'(by omega)).f0 (x0[i]'(by omega)).f1 
    refine Ev.step (fun k => by rw [laws_eqPairS.l0, if_pos (by omega), if_pos (by omega), if_pos (by omega), hg, wNat (by omega)]) ?_
    refine Ev.bind et (Ev.pos rfl ?_)
    exact ih (i + 1) (by omega)
theorem eqPairS_same (x0 : List S145) (hb : x0.length ≤ 281474976710656) : Ev (fun k => laws_eqPairS.f k x0 x0) true := by
  unfold laws_eqPairS.f
  exact Ev.pos rfl (eqPairS_l x0 hb x0.length 0 (by omega))

-- gen.py
theorem eqAccount_same (x0 : ByteArray) (x1 : Int) (x2 : Int) (x3 : List S145) (h_x3 : x3.length ≤ 281474976710656) : Ev (fun k => laws_eqAccount.f k x0 x1 x2 x3 x0 x1 x2 x3) true := by
  unfold laws_eqAccount.f
  exact Ev.pos rfl (Ev.pos rfl (Ev.pos rfl (Ev.bind (eqPairS_same x3 h_x3) (Ev.pos rfl (Ev.now _)))))

-- gen.py
def leAccount (x : S102) : Prop := x.f3.length ≤ 281474976710656
theorem eqAccountS_l (x0 : List S102) (hb : x0.length ≤ 281474976710656) (hs : ∀ s ∈ x0, leAccount s) (n : Nat) : ∀ (i : Nat), i + n = x0.length → Ev (fun k => laws_eqAccountS.l0 k x0 x0 (i : Int)) true := by
  induction n with
  | zero =>
    intro i hi
    exact Ev.step (fun k => by rw [laws_eqAccountS.l0, if_neg (by omega)]) (Ev.now _)
  | succ n ih =>
    intro i hi
    have hg : rd_T102 x0 (i : Int) = x0[i]'(by omega) := getD_get' _ x0 i (by omega)
    obtain q3 := hs _ (List.getElem_mem (show i < x0.length by omega))
    have et := eqAccount_same (x0[i]'(by omega)).f0 (x0[i]'(by omega)).f1 (x0[i]'(by omega)).f2 (x0[i]'(by omega)).f3 q3
    refine Ev.step (fun k => by rw [laws_eqAccountS.l0, if_pos (by omega), if_pos (by omega), if_pos (by omega), hg, wNat (by omega)]) ?_
    refine Ev.bind et (Ev.pos rfl ?_)
    exact ih (i + 1) (by omega)
theorem eqAccountS_same (x0 : List S102) (hb : x0.length ≤ 281474976710656) (hs : ∀ s ∈ x0, leAccount s) : Ev (fun k => laws_eqAccountS.f k x0 x0) true := by
  unfold laws_eqAccountS.f
  exact Ev.pos rfl (eqAccountS_l x0 hb hs x0.length 0 (by omega))

def keyAfter (prev : Option ByteArray) (key : ByteArray) : Bool :=
  match prev with
  | none => true
  | some q => Op.bytesLess q.toList key.toList
theorem keyAfter_none (key : ByteArray) : keyAfter none key = true := rfl
theorem keyAfter_some (q key : ByteArray) : keyAfter (some q) key = Op.bytesLess q.toList key.toList := rfl
def pairsGo (prev : Option ByteArray) : List S145 → Bool
  | [] => true
  | p :: r => (decide (p.f0.size = 4) && decide (1 ≤ p.f1.size ∧ p.f1.size ≤ 60)) && (keyAfter prev p.f0 && pairsGo (some p.f0) r)
theorem pairsGo_nil (prev : Option ByteArray) : pairsGo prev [] = true := rfl
theorem pairsGo_cons (prev : Option ByteArray) (p : S145) (r : List S145) : pairsGo prev (p :: r) = ((decide (p.f0.size = 4) && decide (1 ≤ p.f1.size ∧ p.f1.size ≤ 60)) && (keyAfter prev p.f0 && pairsGo (some p.f0) r)) := rfl
def pairsOk (l : List S145) : Bool := pairsGo none l && decide (l.length ≤ 12)
def prevKey (l : List S145) (i : Nat) : Option ByteArray := if 0 < i then some (rd_T145 l ((i - 1 : Nat) : Int)).f0 else none
theorem prevKey_succ (l : List S145) (i : Nat) (h : i < l.length) : prevKey l (i + 1) = some (l[i]).f0 := by
  unfold prevKey
  rw [if_pos (by omega), Nat.add_sub_cancel]
  congr 1
  rw [show rd_T145 l (i : Int) = l[i] from getD_get' _ l i h]

def accOne (p : S102) : Bool := decide (p.f0.size = 4) && (decide (0 ≤ p.f1 ∧ p.f1 ≤ 1000) && (decide (0 ≤ p.f2 ∧ p.f2 ≤ 1000000000) && pairsOk p.f3))
def accGo (prev : Option ByteArray) : List S102 → Bool
  | [] => true
  | p :: r => (keyAfter prev p.f0 && accOne p) && accGo (some p.f0) r
theorem accGo_nil (prev : Option ByteArray) : accGo prev [] = true := rfl
theorem accGo_cons (prev : Option ByteArray) (p : S102) (r : List S102) : accGo prev (p :: r) = ((keyAfter prev p.f0 && accOne p) && accGo (some p.f0) r) := rfl
def accountsOk (l : List S102) : Bool := accGo none l && decide (l.length ≤ 12)
def prevName (l : List S102) (i : Nat) : Option ByteArray := if 0 < i then some (rd_T102 l ((i - 1 : Nat) : Int)).f0 else none
theorem prevName_succ (l : List S102) (i : Nat) (h : i < l.length) : prevName l (i + 1) = some (l[i]).f0 := by
  unfold prevName
  rw [if_pos (by omega), Nat.add_sub_cancel]
  congr 1
  rw [show rd_T102 l (i : Int) = l[i] from getD_get' _ l i h]
theorem accOne_size {p : S102} (h : ¬ p.f0.size = 4) : accOne p = false := by unfold accOne; rw [decide_eq_false h, Bool.false_and]

theorem spec_l01In_eq (a b c : Int) : spec_l01In.f a b c = some (decide (b ≤ a ∧ a ≤ c)) := by
  unfold spec_l01In.f
  by_cases h : a ≥ b
  · rw [if_pos h]; congr 1; simp [show b ≤ a from h]
  · rw [if_neg h]; congr 1; rw [eq_comm, decide_eq_false_iff_not]; omega

theorem spec_PairsOk_l (x0 : List S145) (hb : x0.length ≤ 281474976710656) (n : Nat) : ∀ (i : Nat), i + n = x0.length →
    Ev (fun k => spec_PairsOk.l0 k x0 (i : Int)) (pairsGo (prevKey x0 i) (x0.drop i) && decide (x0.length ≤ 12)) := by
  induction n with
  | zero =>
    intro i hi
    refine Ev.step (fun k => by rw [spec_PairsOk.l0, if_neg (by omega)]) (Ev.some_ ?_)
    rw [List.drop_eq_nil_of_le (by omega), pairsGo_nil, Bool.true_and]
    exact decide_eq_decide.2 (by omega)
  | succ n ih =>
    intro i hi
    have hg : rd_T145 x0 (i : Int) = x0[i]'(by omega) := getD_get' _ x0 i (by omega)
    rw [drop_cons x0 i (by omega), pairsGo_cons]
    have hih := ih (i + 1) (by omega)
    rw [prevKey_succ x0 i (by omega)] at hih
    by_cases h4 : (x0[i]'(by omega)).f0.size = 4
    · by_cases h6 : 1 ≤ (x0[i]'(by omega)).f1.size ∧ (x0[i]'(by omega)).f1.size ≤ 60
      · rw [decide_eq_true h4, decide_eq_true h6, Bool.true_and, Bool.true_and]
        refine Ev.step (fun k => by rw [spec_PairsOk.l0, if_pos (by omega), if_pos (by omega), hg, if_pos (by omega), spec_l01In_eq, Option.bind_some, if_pos (decide_eq_true (by omega)), wNat (by omega)]) ?_
        by_cases h0 : 0 < i
        · have e : wrap64 ((i : Int) - 1) = ((i - 1 : Nat) : Int) := by rw [w64 (by omega)]; omega
          refine Ev.pos (by omega) ?_
          rw [e]
          refine Ev.pos (by omega) (Ev.pos (by omega) ?_)
          rw [show prevKey x0 i = some (rd_T145 x0 ((i - 1 : Nat) : Int)).f0 by unfold prevKey; rw [if_pos h0], keyAfter_some]
          cases hc : Op.bytesLess (rd_T145 x0 ((i - 1 : Nat) : Int)).f0.toList (x0[i]'(by omega)).f0.toList with
          | true => rw [Bool.true_and]; exact Ev.pos rfl hih
          | false => exact Ev.neg (by simp) (Ev.now _)
        · rw [show prevKey x0 i = none by unfold prevKey; rw [if_neg h0], keyAfter_none, Bool.true_and]
          exact Ev.neg (by omega) hih
      · rw [decide_eq_false h6, Bool.and_false, Bool.false_and, Bool.false_and]
        exact Ev.step (fun k => by rw [spec_PairsOk.l0, if_pos (by omega), if_pos (by omega), hg, if_pos (by omega), spec_l01In_eq, Option.bind_some, if_neg (by rw [decide_eq_true_eq]; omega)]) (Ev.now _)
    · rw [decide_eq_false h4, Bool.false_and, Bool.false_and, Bool.false_and]
      exact Ev.step (fun k => by rw [spec_PairsOk.l0, if_pos (by omega), if_pos (by omega), hg, if_neg (by omega)]) (Ev.now _)
theorem spec_PairsOk_ev (x0 : List S145) (hb : x0.length ≤ 281474976710656) : Ev (fun k => spec_PairsOk.f k x0) (pairsOk x0) := by
  unfold spec_PairsOk.f
  exact spec_PairsOk_l x0 hb x0.length 0 (by omega)

theorem spec_acc_tail (p : S102) (hp : p.f3.length ≤ 281474976710656) (h4 : p.f0.size = 4) (g : Nat → Option Bool) (b : Bool) (hg : Ev g b) :
    Ev (fun k => (spec_l01In.f p.f1 0 1000).bind fun t116 => (if t116 = true then ((spec_l01In.f p.f2 0 1000000000).bind fun t117 => (if t117 = true then ((spec_PairsOk.f k p.f3).bind fun t118 => (if t118 = true then g k else (some false))) else (some false))) else (some false))) (accOne p && b) := by
  unfold accOne
  rw [decide_eq_true h4, Bool.true_and]
  refine Ev.bindc (spec_l01In_eq _ _ _) ?_
  by_cases h1 : 0 ≤ p.f1 ∧ p.f1 ≤ 1000
  · rw [decide_eq_true h1, Bool.true_and]
    refine Ev.pos rfl (Ev.bindc (spec_l01In_eq _ _ _) ?_)
    by_cases h2 : 0 ≤ p.f2 ∧ p.f2 ≤ 1000000000
    · rw [decide_eq_true h2, Bool.true_and]
      refine Ev.pos rfl (Ev.bind (spec_PairsOk_ev _ hp) ?_)
      cases hc : pairsOk p.f3 with
      | true => rw [Bool.true_and]; exact Ev.pos rfl hg
      | false => exact Ev.neg (by simp) (Ev.now _)
    · rw [decide_eq_false h2, Bool.false_and, Bool.false_and]
      exact Ev.neg (by simp) (Ev.now _)
  · rw [decide_eq_false h1, Bool.false_and, Bool.false_and]
    exact Ev.neg (by simp) (Ev.now _)
theorem spec_AccountsOk_l (x0 : List S102) (hb : x0.length ≤ 281474976710656) (hs : ∀ s ∈ x0, leAccount s) (n : Nat) : ∀ (i : Nat), i + n = x0.length →
    Ev (fun k => spec_AccountsOk.l0 k x0 (i : Int)) (accGo (prevName x0 i) (x0.drop i) && decide (x0.length ≤ 12)) := by
  induction n with
  | zero =>
    intro i hi
    refine Ev.step (fun k => by rw [spec_AccountsOk.l0, if_neg (by omega)]) (Ev.some_ ?_)
    rw [List.drop_eq_nil_of_le (by omega), accGo_nil, Bool.true_and]
    exact decide_eq_decide.2 (by omega)
  | succ n ih =>
    intro i hi
    have hg : rd_T102 x0 (i : Int) = x0[i]'(by omega) := getD_get' _ x0 i (by omega)
    have hp : (x0[i]'(by omega)).f3.length ≤ 281474976710656 := hs _ (List.getElem_mem (show i < x0.length by omega))
    rw [drop_cons x0 i (by omega), accGo_cons]
    have hih := ih (i + 1) (by omega)
    rw [prevName_succ x0 i (by omega)] at hih
    by_cases h4 : (x0[i]'(by omega)).f0.size = 4
    · by_cases h0 : 0 < i
      · have e : wrap64 ((i : Int) - 1) = ((i - 1 : Nat) : Int) := by rw [w64 (by omega)]; omega
        rw [show prevName x0 i = some (rd_T102 x0 ((i - 1 : Nat) : Int)).f0 by unfold prevName; rw [if_pos h0], keyAfter_some]
        refine Ev.step (fun k => by rw [spec_AccountsOk.l0, if_pos (by omega), if_pos (by omega), hg, if_pos (by omega), if_pos (by omega), e, if_pos (by omega), if_pos (by omega), wNat (by omega)]) ?_
        cases hc : Op.bytesLess (rd_T102 x0 ((i - 1 : Nat) : Int)).f0.toList (x0[i]'(by omega)).f0.toList with
        | true =>
          rw [Bool.true_and, Bool.and_assoc]
          exact Ev.pos rfl (spec_acc_tail _ hp h4 _ _ hih)
        | false => exact Ev.neg (by simp) (Ev.now _)
      · rw [show prevName x0 i = none by unfold prevName; rw [if_neg h0], keyAfter_none, Bool.true_and, Bool.and_assoc]
        refine Ev.step (fun k => by rw [spec_AccountsOk.l0, if_pos (by omega), if_pos (by omega), hg, if_pos (by omega), if_neg (by omega), wNat (by omega)]) ?_
        exact spec_acc_tail _ hp h4 _ _ hih
    · rw [accOne_size h4, Bool.and_false, Bool.false_and, Bool.false_and]
      exact Ev.step (fun k => by rw [spec_AccountsOk.l0, if_pos (by omega), if_pos (by omega), hg, if_neg (by omega)]) (Ev.now _)
theorem spec_AccountsOk_ev (x0 : List S102) (hb : x0.length ≤ 281474976710656) (hs : ∀ s ∈ x0, leAccount s) : Ev (fun k => spec_AccountsOk.f k x0) (accountsOk x0) := by
  unfold spec_AccountsOk.f
  exact spec_AccountsOk_l x0 hb hs x0.length 0 (by omega)

theorem impl_PairsOk_l (x0 : List S145) (hb : x0.length ≤ 12) (n : Nat) : ∀ (i : Nat), i + n = x0.length →
    Ev (fun k => impl_PairsOk.l0 k x0 x0 (x0.length : Int) (i : Int)) (pairsGo (prevKey x0 i) (x0.drop i)) := by
  induction n with
  | zero =>
    intro i hi
    refine Ev.step (fun k => by rw [impl_PairsOk.l0, if_neg (by omega)]) (Ev.some_ ?_)
    rw [List.drop_eq_nil_of_le (by omega), pairsGo_nil]
  | succ n ih =>
    intro i hi
    have hg : rd_T145 x0 (i : Int) = x0[i]'(by omega) := getD_get' _ x0 i (by omega)
    rw [drop_cons x0 i (by omega), pairsGo_cons]
    have hih := ih (i + 1) (by omega)
    rw [prevKey_succ x0 i (by omega)] at hih
    have hj : ∀ b : Bool, b = true → ∀ y, Ev (fun k => impl_PairsOk.j1 k x0 (i : Int) x0 (x0.length : Int) (i : Int) b (x0[i]'(by omega)).f0 y) false := fun b hb y =>
      Ev.step (fun k => by rw [impl_PairsOk.j1, if_pos hb]) (Ev.now _)
    by_cases h4 : (x0[i]'(by omega)).f0.size = 4
    · by_cases h6 : 1 ≤ (x0[i]'(by omega)).f1.size
      · by_cases h7 : (x0[i]'(by omega)).f1.size ≤ 60
        · rw [decide_eq_true h4, decide_eq_true (show 1 ≤ (x0[i]'(by omega)).f1.size ∧ (x0[i]'(by omega)).f1.size ≤ 60 from ⟨h6, h7⟩), Bool.true_and, Bool.true_and]
          refine Ev.step (fun k => by rw [impl_PairsOk.l0, if_pos (by omega), if_pos (by omega), if_pos (by omega), hg, if_pos (by omega), if_neg (by omega)]) ?_
          refine Ev.step (fun k => by rw [impl_PairsOk.j1, if_neg (by rw [decide_eq_true_eq]; omega), wNat (by omega)]) ?_
          by_cases h0 : 0 < i
          · have e : wrap64 ((i : Int) - 1) = ((i - 1 : Nat) : Int) := by rw [w64 (by omega)]; omega
            refine Ev.pos (by omega) ?_
            rw [e]
            refine Ev.pos (by omega) (Ev.pos (by omega) ?_)
            rw [show prevKey x0 i = some (rd_T145 x0 ((i - 1 : Nat) : Int)).f0 by unfold prevKey; rw [if_pos h0], keyAfter_some]
            cases hc : Op.bytesLess (rd_T145 x0 ((i - 1 : Nat) : Int)).f0.toList (x0[i]'(by omega)).f0.toList with
            | true => rw [Bool.true_and]; exact Ev.pos rfl hih
            | false => exact Ev.neg (by simp) (Ev.now _)
          · rw [show prevKey x0 i = none by unfold prevKey; rw [if_neg h0], keyAfter_none, Bool.true_and]
            exact Ev.neg (by omega) hih
        · rw [decide_eq_false (show ¬ (1 ≤ (x0[i]'(by omega)).f1.size ∧ (x0[i]'(by omega)).f1.size ≤ 60) by omega), Bool.and_false, Bool.false_and]
          exact Ev.step (fun k => by rw [impl_PairsOk.l0, if_pos (by omega), if_pos (by omega), if_pos (by omega), hg, if_pos (by omega), if_neg (by omega)]) (hj _ (decide_eq_true (by omega)) _)
      · rw [decide_eq_false (show ¬ (1 ≤ (x0[i]'(by omega)).f1.size ∧ (x0[i]'(by omega)).f1.size ≤ 60) by omega), Bool.and_false, Bool.false_and]
        exact Ev.step (fun k => by rw [impl_PairsOk.l0, if_pos (by omega), if_pos (by omega), if_pos (by omega), hg, if_pos (by omega), if_pos (by omega)]) (hj _ rfl _)
    · rw [decide_eq_false h4, Bool.false_and, Bool.false_and]
      exact Ev.step (fun k => by rw [impl_PairsOk.l0, if_pos (by omega), if_pos (by omega), if_pos (by omega), hg, if_neg (by omega)]) (hj _ rfl _)
theorem impl_PairsOk_ev (x0 : List S145) (hb : x0.length ≤ 281474976710656) : Ev (fun k => impl_PairsOk.f k x0) (pairsOk x0) := by
  unfold impl_PairsOk.f pairsOk
  by_cases h : x0.length ≤ 12
  · rw [decide_eq_true h, Bool.and_true]
    exact Ev.neg (by omega) (impl_PairsOk_l x0 h x0.length 0 (by omega))
  · rw [decide_eq_false h, Bool.and_false]
    exact Ev.pos (by omega) (Ev.now _)

theorem impl_acc_j (x0 : List S102) (i : Nat) (hi : i < 12) (p : S102) (hp : p.f3.length ≤ 281474976710656) (c : Bool) (b : Bool) (hg : Ev (fun k => impl_AccountsOk.l0 k x0 x0 (x0.length : Int) ((i + 1 : Nat) : Int)) b) :
    Ev (fun k => impl_AccountsOk.j1 k x0 x0 (x0.length : Int) (i : Int) c p.f0 p.f1 p.f2 p.f3) (!c && ((decide (0 ≤ p.f1 ∧ p.f1 ≤ 1000) && (decide (0 ≤ p.f2 ∧ p.f2 ≤ 1000000000) && pairsOk p.f3)) && b)) := by
  cases c with
  | true => exact Ev.step (fun k => by rw [impl_AccountsOk.j1, if_pos rfl]) (Ev.some_ (by simp))
  | false =>
    rw [Bool.not_false, Bool.true_and]
    refine Ev.step (fun k => by rw [impl_AccountsOk.j1, if_neg (by simp), wNat (by omega)]) ?_
    by_cases h1 : p.f1 < 0
    · rw [decide_eq_false (show ¬ (0 ≤ p.f1 ∧ p.f1 ≤ 1000) by omega), Bool.false_and, Bool.false_and]; exact Ev.pos h1 (Ev.now _)
    refine Ev.neg h1 ?_
    by_cases h2 : p.f1 > 1000
    · rw [decide_eq_false (show ¬ (0 ≤ p.f1 ∧ p.f1 ≤ 1000) by omega), Bool.false_and, Bool.false_and]; exact Ev.pos h2 (Ev.now _)
    refine Ev.neg h2 ?_
    rw [decide_eq_true (show 0 ≤ p.f1 ∧ p.f1 ≤ 1000 by omega), Bool.true_and]
    by_cases h3 : p.f2 < 0
    · rw [decide_eq_false (show ¬ (0 ≤ p.f2 ∧ p.f2 ≤ 1000000000) by omega), Bool.false_and, Bool.false_and]; exact Ev.pos h3 (Ev.now _)
    refine Ev.neg h3 ?_
    by_cases h4 : p.f2 > 1000000000
    · rw [decide_eq_false (show ¬ (0 ≤ p.f2 ∧ p.f2 ≤ 1000000000) by omega), Bool.false_and, Bool.false_and]; exact Ev.pos h4 (Ev.now _)
    refine Ev.neg h4 ?_
    rw [decide_eq_true (show 0 ≤ p.f2 ∧ p.f2 ≤ 1000000000 by omega), Bool.true_and]
    refine Ev.bind (impl_PairsOk_ev _ hp) ?_
    cases hc : pairsOk p.f3 with
    | true => rw [Bool.true_and]; exact Ev.pos rfl hg
    | false => exact Ev.neg (by simp) (Ev.now _)
theorem impl_AccountsOk_l (x0 : List S102) (hb : x0.length ≤ 12) (hs : ∀ s ∈ x0, leAccount s) (n : Nat) : ∀ (i : Nat), i + n = x0.length →
    Ev (fun k => impl_AccountsOk.l0 k x0 x0 (x0.length : Int) (i : Int)) (accGo (prevName x0 i) (x0.drop i)) := by
  induction n with
  | zero =>
    intro i hi
    refine Ev.step (fun k => by rw [impl_AccountsOk.l0, if_neg (by omega)]) (Ev.some_ ?_)
    rw [List.drop_eq_nil_of_le (by omega), accGo_nil]
  | succ n ih =>
    intro i hi
    have hg : rd_T102 x0 (i : Int) = x0[i]'(by omega) := getD_get' _ x0 i (by omega)
    have hp : (x0[i]'(by omega)).f3.length ≤ 281474976710656 := hs _ (List.getElem_mem (show i < x0.length by omega))
    rw [drop_cons x0 i (by omega), accGo_cons]
    have hih := ih (i + 1) (by omega)
    rw [prevName_succ x0 i (by omega)] at hih
    have hj := fun c => impl_acc_j x0 i (by omega) (x0[i]'(by omega)) hp c _ hih
    by_cases h4 : (x0[i]'(by omega)).f0.size = 4
    · by_cases h0 : 0 < i
      · have e : wrap64 ((i : Int) - 1) = ((i - 1 : Nat) : Int) := by rw [w64 (by omega)]; omega
        rw [show prevName x0 i = some (rd_T102 x0 ((i - 1 : Nat) : Int)).f0 by unfold prevName; rw [if_pos h0], keyAfter_some]
        refine Ev.step (fun k => by rw [impl_AccountsOk.l0, if_pos (by omega), if_pos (by omega), if_pos (by omega), hg, if_pos (by omega), if_pos (by omega), e, if_pos (by omega), if_pos (by omega)]) ((hj _).eq ?_)
        unfold accOne
        rw [decide_eq_true h4, Bool.true_and, Bool.not_not]
        simp only [Bool.and_assoc]
      · rw [show prevName x0 i = none by unfold prevName; rw [if_neg h0], keyAfter_none, Bool.true_and]
        refine Ev.step (fun k => by rw [impl_AccountsOk.l0, if_pos (by omega), if_pos (by omega), if_pos (by omega), hg, if_pos (by omega), if_neg (by omega)]) ((hj _).eq ?_)
        unfold accOne
        rw [decide_eq_true h4, Bool.true_and, Bool.not_false, Bool.true_and]
    · rw [accOne_size h4, Bool.and_false, Bool.false_and]
      exact Ev.step (fun k => by rw [impl_AccountsOk.l0, if_pos (by omega), if_pos (by omega), if_pos (by omega), hg, if_neg (by omega)]) ((hj _).eq (by simp))
theorem impl_AccountsOk_ev (x0 : List S102) (hb : x0.length ≤ 281474976710656) (hs : ∀ s ∈ x0, leAccount s) : Ev (fun k => impl_AccountsOk.f k x0) (accountsOk x0) := by
  unfold impl_AccountsOk.f accountsOk
  by_cases h : x0.length ≤ 12
  · rw [decide_eq_true h, Bool.and_true]
    exact Ev.neg (by omega) (impl_AccountsOk_l x0 h hs x0.length 0 (by omega))
  · rw [decide_eq_false h, Bool.and_false]
    exact Ev.pos (by omega) (Ev.now _)

theorem FnExactAccountsOk (x0 : List S99) : (x0.length ≤ 9223372036854775807 ∧ ∀ y ∈ x0, wf99 y) → ∃ k, laws_FnExactAccountsOk.f k x0 = some true := by
  rintro ⟨hl, hs⟩
  apply Ev.rounds
  unfold laws_FnExactAccountsOk.f
  obtain ⟨r, hr, hp⟩ := szAccountS_ev x0 hl hs 1048576 (by omega) (by omega)
  refine Ev.bind hr ?_
  by_cases h0 : r < 0
  · exact Ev.pos h0 (Ev.now _)
  obtain ⟨_, h1, h2⟩ := hp (by omega)
  have hm : (x0.map cvAccount).length = x0.length := List.length_map _
  have hle : ∀ s ∈ x0.map cvAccount, leAccount s := by
    intro s hs'
    obtain ⟨y, hy, rfl⟩ := List.mem_map.1 hs'
    obtain ⟨_, h3, _⟩ := h2 y hy
    show (y.f3.map cvPair).length ≤ 281474976710656
    rw [List.length_map]
    omega
  have t0 := toAccountS_ev x0 h1 h2
  refine Ev.neg h0 (Ev.bind t0 (Ev.bind (spec_AccountsOk_ev _ (by omega) hle) (Ev.bind t0 (Ev.bind (impl_AccountsOk_ev _ (by omega) hle) ?_))))
  exact Ev.neg (by simp) (Ev.bind t0 (Ev.bind (eqAccountS_same _ (by omega) hle) (Ev.pos rfl (Ev.now _))))

end Go.Proofs.Ytmhakjpjnnfidaa.Pure
