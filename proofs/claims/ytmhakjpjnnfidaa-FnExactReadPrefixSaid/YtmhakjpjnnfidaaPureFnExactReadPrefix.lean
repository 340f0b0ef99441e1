/- FnExactReadPrefix, the pure part: both read the same halves; what is made is no other's memory. No conditions. -/
import Derived.Test.YtmhakjpjnnfidaaQFnExactReadPrefixx6
import Derived.Test.YtmhakjpjnnfidaaPLbaseFnExactReadPrefix
namespace Go.Proofs.Ytmhakjpjnnfidaa.Pure
open Go Go.RowKit Go.Proofs.Ytmhakjpjnnfidaa.QFnExactReadPrefix Go.Proofs.YtmhakjpjnnfidaaW.PrintWords Go.Proofs.YtmhakjpjnnfidaaW.PrintLast Go.Proofs.YtmhakjpjnnfidaaW.PrintMore Go.Proofs.Ytmhakjpjnnfidaa.PL
set_option linter.unusedVariables false
set_option linter.unusedSimpArgs false

theorem eqIntS_l (x0 x1 : List Int) (hb : x0.length ≤ 281474976710656) (hl : x0.length = x1.length) (n : Nat) : ∀ (i : Nat), i + n = x0.length →
    Ev (fun k => laws_eqIntS.l0 k x0 x1 (i : Int)) (decide (x0.drop i = x1.drop i)) := by
  induction n with
  | zero =>
    intro i hi
    refine Ev.step (fun k => by rw [laws_eqIntS.l0, if_neg (by omega)]) (Ev.some_ ?_)
    rw [List.drop_eq_nil_of_le (by omega), List.drop_eq_nil_of_le (by omega)]
    rfl
  | succ n ih =>
    intro i hi
    rw [drop_cons x0 i (by omega), drop_cons x1 i (by omega)]
    by_cases hc : x0[i]'(by omega) = x1[i]'(by omega)
    · refine Ev.step (fun k => by rw [laws_eqIntS.l0, if_pos (by omega), if_pos (by omega), if_pos (by omega), if_pos (by rw [rd_get x0 i (by omega), rd_get x1 i (by omega)]; exact hc)]) ?_
      rw [wNat (by omega)]
      exact (ih (i + 1) (by omega)).eq (dec_cons hc _ _)
    · refine Ev.step (fun k => by rw [laws_eqIntS.l0, if_pos (by omega), if_pos (by omega), if_pos (by omega), if_neg (by rw [rd_get x0 i (by omega), rd_get x1 i (by omega)]; exact hc)]) (Ev.some_ (dec_ne hc _ _))
theorem eqIntS_ev (x0 x1 : List Int) (hb : x0.length ≤ 281474976710656) : Ev (fun k => laws_eqIntS.f k x0 x1) (decide (x0 = x1)) := by
  unfold laws_eqIntS.f
  by_cases hl : x0.length = x1.length
  · refine Ev.pos (by omega) ?_
    exact eqIntS_l x0 x1 hb hl x0.length 0 (by omega)
  · refine Ev.neg (by omega) (Ev.some_ ?_)
    rw [eq_comm, decide_eq_false_iff_not]
    intro h
    rw [h] at hl
    exact hl rfl
theorem eqIntS_same (x0 : List Int) (hb : x0.length ≤ 281474976710656) : Ev (fun k => laws_eqIntS.f k x0 x0) true := (eqIntS_ev x0 x0 hb).eq (by simp)

theorem heldIntS_l (m : Int) (hm : 0 ≤ m) (x : List Int) (hb : m + x.length ≤ 281474976710656) (h : ∀ j : Nat, j < x.length → rd x j = m + j) (n : Nat) : ∀ (i : Nat), i + n = x.length →
    Ev (fun k => laws_heldIntS.l0 k x (m + i) (i : Int)) (m + x.length) := by
  induction n with
  | zero =>
    intro i hi
    exact Ev.step (fun k => by rw [laws_heldIntS.l0, if_neg (by omega)]) (Ev.some_ (by rw [show i = x.length by omega]))
  | succ n ih =>
    intro i hi
    refine Ev.step (fun k => by rw [laws_heldIntS.l0, if_pos (by omega), if_pos (by omega), if_pos (h i (by omega))]) ?_
    rw [wNat (by omega), w64 (by omega)]
    have e : m + (i : Int) + 1 = m + ((i + 1 : Nat) : Int) := by omega
    rw [e]
    exact ih (i + 1) (by omega)

theorem markIntS_l (m : Int) (hm : 0 ≤ m) (n : Nat) : ∀ (i : Nat) (x0 : List Int), i + n = x0.length → m + x0.length ≤ 281474976710656 →
    (∀ j : Nat, j < i → rd x0 j = m + j) →
    ∃ x' : List Int, Ev (fun k => laws_markIntS.l0 k x0 (m + i) (i : Int)) (m + x0.length, x') ∧ x'.length = x0.length ∧ ∀ j : Nat, j < x0.length → rd x' j = m + j := by
  induction n with
  | zero =>
    intro i x0 hi hb h
    refine ⟨x0, Ev.step (fun k => by rw [laws_markIntS.l0, if_neg (by omega)]) (Ev.some_ (by rw [show i = x0.length by omega])), rfl, fun j hj => h j (by omega)⟩
  | succ n ih =>
    intro i x0 hi hb h
    obtain ⟨x', he, hl, hx⟩ := ih (i + 1) (x0.set i (m + i)) (by simp; omega) (by simp; omega) (by
      intro j hj
      by_cases hji : j = i
      · subst hji
        rw [rd_nat, List.getD_eq_getElem?_getD, List.getElem?_set_self (by omega)]
        rfl
      · rw [rd_nat, List.getD_eq_getElem?_getD, List.getElem?_set_ne (by omega), ← List.getD_eq_getElem?_getD]
        exact h j (by omega))
    refine ⟨x', ?_, by simpa using hl, by simpa using hx⟩
    refine Ev.step (fun k => by rw [laws_markIntS.l0, if_pos (by omega), if_pos (by omega)]) ?_
    rw [wNat (by omega), w64 (by omega), Int.toNat_natCast]
    rw [List.length_set] at he
    have e : m + (i : Int) + 1 = m + ((i + 1 : Nat) : Int) := by omega
    rw [e]
    exact he
theorem markIntS_ev (x0 : List Int) (m : Int) (hm : 0 ≤ m) (hb : m + x0.length ≤ 281474976710656) :
    ∃ (x' : List Int) (q : Int), Ev (fun k => laws_markIntS.f k x0 m) (q, x') ∧ Ev (fun k => laws_heldIntS.f k x' m) q ∧ m ≤ q ∧ q ≤ m + x0.length := by
  obtain ⟨x', he, hl, hx⟩ := markIntS_l m hm x0.length 0 x0 (by omega) hb (fun j hj => by omega)
  refine ⟨x', m + x0.length, ?_, ?_, by omega, by omega⟩
  · simpa [laws_markIntS.f] using he
  · have := heldIntS_l m hm x' (by omega) (by rw [hl]; exact hx) x'.length 0 (by omega)
    rw [hl] at this
    simpa [laws_heldIntS.f] using this

def nibs : List Int → List Int
  | [] => []
  | b :: r => b / 16 :: b % 16 :: nibs r
def nibblesOf (t : ByteArray) : List Int := nibs (bytesOf t)
theorem nibs_length (l : List Int) : (nibs l).length = 2 * l.length := by
  induction l with
  | nil => rfl
  | cons a l ih => simp only [nibs, List.length_cons, ih]; omega
theorem nibblesOf_length (t : ByteArray) : (nibblesOf t).length = 2 * t.size := by rw [nibblesOf, nibs_length, bytesOf_length]
theorem nibs_range (l : List Int) (h : ∀ x ∈ l, 0 ≤ x ∧ x < 256) : ∀ x ∈ nibs l, 0 ≤ x ∧ x ≤ 15 := by
  induction l with
  | nil => intro x hx; simp [nibs] at hx
  | cons a l ih =>
    intro x hx
    have ha := h a List.mem_cons_self
    simp only [nibs, List.mem_cons] at hx
    rcases hx with rfl | rfl | hx
    · omega
    · omega
    · exact ih (fun y hy => h y (List.mem_cons_of_mem _ hy)) x hx
theorem nibblesOf_range (t : ByteArray) : ∀ x ∈ nibblesOf t, 0 ≤ x ∧ x ≤ 15 := nibs_range _ (fun _ hx => bytesOf_range hx)

def nibblesOk (x : List Int) : Bool := x.all (fun n => decide (0 ≤ n ∧ n ≤ 15)) && decide (x.length ≤ 64)

def pairs16 : List Int → List Int
  | a :: b :: r => (16 * a + b) :: pairs16 r
  | _ => []
def prefixNums (l : List Int) (leaf : Bool) : List Int :=
  if l.length % 2 = 1 then ((if leaf then 32 else 0) + (16 + rd l 0)) :: pairs16 (l.drop 1) else (if leaf then 32 else 0) :: pairs16 l
def prefixText (l : List Int) (leaf : Bool) : ByteArray × Bool := if nibblesOk l then (strOfNums (prefixNums l leaf), true) else ((⟨#[]⟩ : ByteArray), false)
theorem nibblesOk_iff {l : List Int} : nibblesOk l = true ↔ (∀ x ∈ l, 0 ≤ x ∧ x ≤ 15) ∧ l.length ≤ 64 := by
  unfold nibblesOk
  rw [Bool.and_eq_true, List.all_eq_true, decide_eq_true_eq]
  constructor
  · rintro ⟨h, h2⟩
    exact ⟨fun x hx => of_decide_eq_true (h x hx), h2⟩
  · rintro ⟨h, h2⟩
    exact ⟨fun x hx => decide_eq_true (h x hx), h2⟩
theorem pairs16_length : ∀ (n : Nat) (l : List Int), l.length ≤ n → (pairs16 l).length = l.length / 2 := by
  intro n
  induction n using Nat.strongRecOn with
  | _ n ih =>
    intro l hl
    match l with
    | [] => rfl
    | [a] => simp [pairs16]
    | a :: b :: r =>
      simp only [pairs16, List.length_cons] at hl ⊢
      rw [ih (n - 1) (by omega) r (by omega)]
      omega

def rpOut (t : ByteArray) : List Int := (if bt t 0 / 16 % 2 = 1 then [bt t 0 % 16] else []) ++ nibblesOf (t.extract 1 t.size)
def rpLeaf (t : ByteArray) : Bool := decide (32 ≤ bt t 0)
def rpOk (t : ByteArray) : Bool := (prefixText (rpOut t) (rpLeaf t)).2 && decide ((prefixText (rpOut t) (rpLeaf t)).1 = t)
def readPrefix (t : ByteArray) : List Int × Bool × Bool :=
  if t.size = 0 then ([], false, false) else if 64 ≤ bt t 0 then ([], false, false) else if rpOk t = true then (rpOut t, rpLeaf t, true) else ([], false, false)
theorem bt0_range {t : ByteArray} (h : 0 < t.size) : 0 ≤ bt t 0 ∧ bt t 0 < 256 := by
  rw [bt_eq]
  exact bytesOf_range (rd_mem (by omega) (by rw [bytesOf_length]; omega))
theorem nibblesOf_cons {t : ByteArray} (h : 0 < t.size) : nibblesOf t = bt t 0 / 16 :: bt t 0 % 16 :: nibblesOf (t.extract 1 t.size) := by
  unfold nibblesOf
  rw [bytesOf_extract, bt_eq]
  have hl : 0 < (bytesOf t).length := by rw [bytesOf_length]; exact h
  have h1 : ((bytesOf t).drop 1).take (t.size - 1) = (bytesOf t).drop 1 := List.take_of_length_le (by rw [List.length_drop, bytesOf_length]; omega)
  rw [h1]
  match hb : bytesOf t, hl with
  | b :: r, _ => rfl
theorem rpOut_length (t : ByteArray) (h : 0 < t.size) : (rpOut t).length ≤ 2 * t.size ∧ 2 * t.size ≤ (rpOut t).length + 2 := by
  unfold rpOut
  rw [List.length_append, nibblesOf_length]
  have : (t.extract 1 t.size).size = t.size - 1 := by simp [ByteArray.size_extract]
  rw [this]
  split <;> simp <;> omega
theorem rpOk_long {t : ByteArray} (h : t.size > 40) : rpOk t = false := by
  have hl := (rpOut_length t (by omega)).2
  unfold rpOk prefixText
  have : nibblesOk (rpOut t) = false := by
    rw [← Bool.not_eq_true, nibblesOk_iff]
    intro h2
    omega
  rw [this]
  rfl

theorem spec_NibblesOf_l (x0 : ByteArray) (hb : x0.size ≤ 2097152) (n : Nat) : ∀ (i : Nat) (x3 : List Int), i + n = x0.size → x3.length = 2 * i →
    Ev (fun k => spec_NibblesOf.l0 k x0 x3 (i : Int)) (x3 ++ nibs ((bytesOf x0).drop i)) := by
  have hl := bytesOf_length x0
  induction n with
  | zero =>
    intro i x3 hi h3
    refine Ev.step (fun k => by rw [spec_NibblesOf.l0, if_neg (by omega)]) (Ev.some_ ?_)
    rw [List.drop_eq_nil_of_le (by omega), nibs, List.append_nil]
  | succ n ih =>
    intro i x3 hi h3
    rw [drop_cons (bytesOf x0) i (by omega), nibs]
    have hr := rd_get (bytesOf x0) i (by omega)
    have hg := bt_range x0 (i : Int)
    have e : wrap64 (bt x0 (i : Int)) = bt x0 (i : Int) := w64 (by omega)
    refine Ev.step (fun k => by rw [spec_NibblesOf.l0, if_pos (by omega), if_pos (by omega), e, Option.bind_some, if_pos (by simp; omega), tdiv_pos hg.1, tmod_pos hg.1, w64 (by omega), bt_eq, hr, wNat (by omega)]) ?_
    refine (ih (i + 1) _ (by omega) (by simp; omega)).eq ?_
    simp
theorem spec_NibblesOf_ev (x0 : ByteArray) (hb : x0.size ≤ 2097152) : Ev (fun k => spec_NibblesOf.f k x0) (nibblesOf x0) := by
  unfold spec_NibblesOf.f
  refine (spec_NibblesOf_l x0 hb x0.size 0 [] (by omega) rfl).eq ?_
  rfl

theorem spec_l01In_eq (a b c : Int) : spec_l01In.f a b c = some (decide (b ≤ a ∧ a ≤ c)) := by
  unfold spec_l01In.f
  by_cases h : a ≥ b
  · rw [if_pos h]; congr 1; simp [show b ≤ a from h]
  · rw [if_neg h]; congr 1; rw [eq_comm, decide_eq_false_iff_not]; omega

theorem spec_NibblesOk_l (x0 : List Int) (hb : x0.length ≤ 281474976710656) (n : Nat) : ∀ (i : Nat), i + n = x0.length →
    Ev (fun k => spec_NibblesOk.l0 k x0 (i : Int)) ((x0.drop i).all (fun n => decide (0 ≤ n ∧ n ≤ 15)) && decide (x0.length ≤ 64)) := by
  induction n with
  | zero =>
    intro i hi
    refine Ev.step (fun k => by rw [spec_NibblesOk.l0, if_neg (by omega)]) (Ev.some_ ?_)
    rw [List.drop_eq_nil_of_le (by omega), List.all_nil, Bool.true_and]
    exact decide_eq_decide.2 (by omega)
  | succ n ih =>
    intro i hi
    rw [drop_cons x0 i (by omega), List.all_cons]
    by_cases hc : 0 ≤ x0[i]'(by omega) ∧ x0[i]'(by omega) ≤ 15
    · refine Ev.step (fun k => by rw [spec_NibblesOk.l0, if_pos (by omega), if_pos (by omega), spec_l01In_eq, Option.bind_some, if_pos (by rw [rd_get x0 i (by omega)]; exact decide_eq_true hc)]) ?_
      rw [wNat (by omega), decide_eq_true hc, Bool.true_and]
      exact ih (i + 1) (by omega)
    · refine Ev.step (fun k => by rw [spec_NibblesOk.l0, if_pos (by omega), if_pos (by omega), spec_l01In_eq, Option.bind_some, if_neg (by rw [rd_get x0 i (by omega)]; simpa using hc)]) (Ev.some_ ?_)
      rw [decide_eq_false hc, Bool.false_and, Bool.false_and]
theorem spec_NibblesOk_ev (x0 : List Int) (hb : x0.length ≤ 281474976710656) : Ev (fun k => spec_NibblesOk.f k x0) (nibblesOk x0) := by
  unfold spec_NibblesOk.f
  exact spec_NibblesOk_l x0 hb x0.length 0 (by omega)

theorem spec_PrefixText_l (x0 : List Int) (hb : x0.length ≤ 64) (hr : ∀ x ∈ x0, 0 ≤ x ∧ x ≤ 15) (n : Nat) : ∀ (i : Nat) (x8 : ByteArray), i + 2 * n = x0.length → x8.size ≤ 1 + i →
    Ev (fun k => spec_PrefixText.l0 k x0 x8 (i : Int)) (x8 ++ strOfNums (pairs16 (x0.drop i)), true) := by
  induction n with
  | zero =>
    intro i x8 hi h8
    refine Ev.step (fun k => by rw [spec_PrefixText.l0, wNat (by omega), if_neg (by omega)]) (Ev.some_ ?_)
    rw [List.drop_eq_nil_of_le (by omega), pairs16, strOf_nil, ba_append_nil]
    · simp
  | succ n ih =>
    intro i x8 hi h8
    have g0 := rd_get x0 i (by omega)
    have g1 := rd_get x0 (i + 1) (by omega)
    have r0 := hr _ (List.getElem_mem (show i < x0.length by omega))
    have r1 := hr _ (List.getElem_mem (show i + 1 < x0.length by omega))
    rw [drop_cons x0 i (by omega), drop_cons x0 (i + 1) (by omega), pairs16]
    have hsz : (strOfNums [16 * x0[i]'(by omega) + x0[i + 1]'(by omega)]).size = 1 := by rw [strOfNums_size]; rfl
    have e2 : wrap64 ((i : Int) + 2) = ((i + 2 : Nat) : Int) := by rw [w64 (by omega)]; omega
    refine Ev.step (fun k => by rw [spec_PrefixText.l0, wNat (by omega), if_pos (by omega), if_pos (by omega), if_pos (by omega), if_pos (by omega), Option.bind_some, g0, g1, w64 (n := 16 * _) (by omega), w64 (n := _ + _) (by omega), Int.emod_eq_of_lt (by omega) (by omega), if_pos (by rw [hsz]; omega), e2]) ?_
    refine (ih (i + 2) _ (by omega) (by rw [size_append, hsz]; omega)).eq ?_
    rw [ba_append_assoc, ← strOf_append]
    rfl
theorem spec_PrefixText_ev (l : List Int) (leaf : Bool) (hb : l.length ≤ 281474976710656) : Ev (fun k => spec_PrefixText.f k l leaf) (prefixText l leaf) := by
  unfold spec_PrefixText.f prefixText
  refine Ev.bind (spec_NibblesOk_ev l hb) ?_
  by_cases h : nibblesOk l = true
  · rw [if_pos h]
    refine Ev.pos h ?_
    obtain ⟨hr, h64⟩ := nibblesOk_iff.1 h
    have key : ∀ b : Int, 0 ≤ b → b ≤ 32 → Ev (fun k => spec_PrefixText.j0 k l b) (strOfNums (if l.length % 2 = 1 then (b + (16 + rd l 0)) :: pairs16 (l.drop 1) else b :: pairs16 l), true) := by
      intro b hb0 hb1
      by_cases ho : l.length % 2 = 1
      · have hm := hr _ (rd_mem (i := 0) (xs := l) (by omega) (by omega))
        rw [if_pos ho]
        refine Ev.step (fun k => by rw [spec_PrefixText.j0, if_pos (by omega), if_pos (by omega), w64 (n := b + 16) (by omega), w64 (by omega)]) ?_
        refine Ev.step (fun k => by rw [spec_PrefixText.j1, Int.emod_eq_of_lt (by omega) (by omega)]) ?_
        refine (spec_PrefixText_l l h64 hr (l.length / 2) 1 _ (by omega) (by rw [strOfNums_size]; simp)).eq ?_
        rw [← strOf_append, Int.add_assoc]
        rfl
      · rw [if_neg ho]
        refine Ev.step (fun k => by rw [spec_PrefixText.j0, if_neg (by omega)]) ?_
        refine Ev.step (fun k => by rw [spec_PrefixText.j1, Int.emod_eq_of_lt (by omega) (by omega)]) ?_
        refine (spec_PrefixText_l l h64 hr (l.length / 2) 0 _ (by omega) (by rw [strOfNums_size]; simp)).eq ?_
        rw [← strOf_append]
        rfl
    cases leaf with
    | true => exact Ev.pos rfl (key 32 (by omega) (by omega))
    | false => exact Ev.neg (by simp) (key 0 (by omega) (by omega))
  · rw [if_neg h]
    exact Ev.neg h (Ev.now _)

theorem spec_ReadPrefix_ev (t : ByteArray) (hb : t.size ≤ 1048576) : Ev (fun k => spec_ReadPrefix.f k t) (readPrefix t) := by
  unfold spec_ReadPrefix.f readPrefix
  refine Ev.bindc rfl ?_
  have hz : Ev (fun k => spec_ReadPrefix.j0 k t [] true) (([], false, false) : List Int × Bool × Bool) := by
    refine Ev.step (fun k => by rw [spec_ReadPrefix.j0, if_pos rfl]) (Ev.now _)
  by_cases h0 : t.size = 0
  · rw [if_pos h0]
    exact Ev.pos (toList_nil.2 h0) hz
  rw [if_neg h0]
  refine Ev.neg (fun h => h0 (toList_nil.1 h)) (Ev.pos (by omega) ?_)
  by_cases h1 : 64 ≤ bt t 0
  · rw [if_pos h1]; exact Ev.pos h1 hz
  rw [if_neg h1]
  refine Ev.neg h1 ?_
  by_cases h2 : t.size > 40
  · rw [rpOk_long h2, if_neg (by decide)]
    have : decide ((t.size : Int) > 40) = true := decide_eq_true (by omega)
    rw [this]
    exact hz
  have e2 : decide ((t.size : Int) > 40) = false := decide_eq_false (by omega)
  rw [e2]
  have hr := bt0_range (t := t) (by omega)
  have e3 : Int.tmod (wrap64 (bt t 0)) 16 = bt t 0 % 16 := by rw [w64 (by omega), tmod_pos hr.1]
  have e4 : Int.tdiv (bt t 0) 16 % 256 % 2 = bt t 0 / 16 % 2 := by rw [tdiv_pos hr.1]; omega
  refine Ev.step (fun k => by rw [spec_ReadPrefix.j0, if_neg (by decide), if_pos (by omega), e3, e4]) ?_
  refine Ev.bindc rfl ?_
  have hx : (t.extract 1 t.size).size = t.size - 1 := by simp [ByteArray.size_extract]
  have en := spec_NibblesOf_ev (t.extract 1 t.size) (by omega)
  have hlen := nibblesOf_length (t.extract 1 t.size)
  have key : ∀ l : List Int, l.length ≤ 1 → rpOut t = l ++ nibblesOf (t.extract 1 t.size) →
      Ev (fun k => spec_ReadPrefix.j1 k t [] (rpLeaf t) l) (if rpOk t = true then (rpOut t, rpLeaf t, true) else ([], false, false)) := by
    intro l hl he
    refine Ev.step (fun k => by rw [spec_ReadPrefix.j1, if_pos (by omega)]) ?_
    refine Ev.bind en (Ev.pos (by omega) ?_)
    rw [← he]
    refine Ev.bindc rfl (Ev.bind (spec_PrefixText_ev (rpOut t) (rpLeaf t) (by have := (rpOut_length t (by omega)).1; omega)) ?_)
    unfold rpOk
    by_cases c1 : (prefixText (rpOut t) (rpLeaf t)).2 = true
    · refine Ev.pos c1 ?_
      rw [c1, Bool.true_and]
      by_cases c2 : (prefixText (rpOut t) (rpLeaf t)).1 = t
      · rw [if_pos (decide_eq_true c2)]
        exact Ev.pos (ba_eq.2 c2) (Ev.now _)
      · exact (Ev.neg (fun h => c2 (ba_eq.1 h)) (Ev.now _)).eq (by rw [decide_eq_false c2]; rfl)
    · refine Ev.neg c1 ?_
      rw [Bool.not_eq_true] at c1
      rw [c1, if_neg (by simp)]
      exact Ev.now _
  by_cases c : bt t 0 / 16 % 2 = 1
  · refine Ev.pos c (Ev.pos (by simp) ?_)
    exact key [bt t 0 % 16] (by simp) (by unfold rpOut; rw [if_pos c])
  · refine Ev.neg c ?_
    exact key [] (by simp) (by unfold rpOut; rw [if_neg c])

theorem impl_NibblesOf_l (x0 : ByteArray) (hb : x0.size ≤ 2097152) (n : Nat) : ∀ (i : Nat) (x3 : List Int), i + n = x0.size → x3.length = 2 * i →
    Ev (fun k => impl_NibblesOf.l0 k x0 x3 (i : Int)) (x3 ++ nibs ((bytesOf x0).drop i)) := by
  have hl := bytesOf_length x0
  induction n with
  | zero =>
    intro i x3 hi h3
    refine Ev.step (fun k => by rw [impl_NibblesOf.l0, if_neg (by omega)]) (Ev.some_ ?_)
    rw [List.drop_eq_nil_of_le (by omega), nibs, List.append_nil]
  | succ n ih =>
    intro i x3 hi h3
    rw [drop_cons (bytesOf x0) i (by omega), nibs]
    have hr := rd_get (bytesOf x0) i (by omega)
    have hg := bt_range x0 (i : Int)
    refine Ev.step (fun k => by rw [impl_NibblesOf.l0, if_pos (by omega), if_pos (by omega), Option.bind_some, if_pos (by simp; omega), u8_and15 _ hg.1 (by omega), w64 (by omega), w64 (by omega), bt_eq, hr, wNat (by omega)]) ?_
    refine (ih (i + 1) _ (by omega) (by simp; omega)).eq ?_
    simp
theorem impl_NibblesOf_ev (x0 : ByteArray) (hb : x0.size ≤ 2097152) : Ev (fun k => impl_NibblesOf.f k x0) (nibblesOf x0) := by
  unfold impl_NibblesOf.f
  refine (impl_NibblesOf_l x0 hb x0.size 0 [] (by omega) rfl).eq ?_
  rfl

theorem impl_NibblesOk_l (x0 : List Int) (hb : x0.length ≤ 281474976710656) (n : Nat) : ∀ (i : Nat), i + n = x0.length →
    Ev (fun k => impl_NibblesOk.l0 k x0 x0 (x0.length : Int) (i : Int)) ((x0.drop i).all (fun n => decide (0 ≤ n ∧ n ≤ 15)) && decide (x0.length ≤ 64)) := by
  induction n with
  | zero =>
    intro i hi
    refine Ev.step (fun k => by rw [impl_NibblesOk.l0, if_neg (by omega)]) (Ev.some_ ?_)
    rw [List.drop_eq_nil_of_le (by omega), List.all_nil, Bool.true_and]
    exact decide_eq_decide.2 (by omega)
  | succ n ih =>
    intro i hi
    rw [drop_cons x0 i (by omega), List.all_cons]
    have hr := rd_get x0 i (by omega)
    by_cases hc : 0 ≤ x0[i]'(by omega) ∧ x0[i]'(by omega) ≤ 15
    · refine Ev.step (fun k => by rw [impl_NibblesOk.l0, if_pos (by omega), if_pos (by omega), if_pos (by omega), if_neg (by omega), if_neg (by omega)]) ?_
      rw [wNat (by omega), decide_eq_true hc, Bool.true_and]
      exact ih (i + 1) (by omega)
    · refine Ev.step (f := fun _ => some false) (fun k => ?_) (Ev.some_ ?_)
      · rw [impl_NibblesOk.l0, if_pos (by omega), if_pos (by omega), if_pos (by omega)]
        by_cases h1 : rd x0 (i : Int) < 0
        · rw [if_pos h1]
        · rw [if_neg h1, if_pos (by omega)]
      · rw [decide_eq_false hc, Bool.false_and, Bool.false_and]
theorem impl_NibblesOk_ev (x0 : List Int) (hb : x0.length ≤ 281474976710656) : Ev (fun k => impl_NibblesOk.f k x0) (nibblesOk x0) := by
  unfold impl_NibblesOk.f
  exact impl_NibblesOk_l x0 hb x0.length 0 (by omega)

theorem impl_PrefixText_l (x0 : List Int) (hb : x0.length ≤ 64) (hr : ∀ x ∈ x0, 0 ≤ x ∧ x ≤ 15) (n : Nat) : ∀ (i : Nat) (x7 : List Int), i + 2 * n = x0.length → x7.length ≤ 1 + i →
    Ev (fun k => impl_PrefixText.l0 k x0 x7 (i : Int)) (strOfNums (x7 ++ pairs16 (x0.drop i)), true) := by
  induction n with
  | zero =>
    intro i x7 hi h8
    refine Ev.step (fun k => by rw [impl_PrefixText.l0, if_neg (by omega)]) (Ev.some_ ?_)
    rw [List.drop_eq_nil_of_le (by omega), pairs16, List.append_nil]
    · simp
  | succ n ih =>
    intro i x7 hi h8
    have g0 := rd_get x0 i (by omega)
    have g1 := rd_get x0 (i + 1) (by omega)
    have r0 := hr _ (List.getElem_mem (show i < x0.length by omega))
    have r1 := hr _ (List.getElem_mem (show i + 1 < x0.length by omega))
    rw [drop_cons x0 i (by omega), drop_cons x0 (i + 1) (by omega), pairs16]
    have e2 : wrap64 ((i : Int) + 2) = ((i + 2 : Nat) : Int) := by rw [w64 (by omega)]; omega
    refine Ev.step (fun k => by rw [impl_PrefixText.l0, if_pos (by omega), if_pos (by omega), wNat (by omega), if_pos (by omega), if_pos (by omega), if_pos (by omega), g0, g1, w64 (n := _ * 16) (by omega), or64 4 (by omega) (by omega) (by omega) (by omega) (by omega) (by omega), Int.emod_eq_of_lt (by omega) (by omega), e2, Int.mul_comm _ 16]) ?_
    refine (ih (i + 2) _ (by omega) (by rw [List.length_append]; show x7.length + 1 ≤ _; omega)).eq ?_
    rw [List.append_assoc]
    rfl
theorem impl_PrefixText_ev (l : List Int) (leaf : Bool) (hb : l.length ≤ 281474976710656) : Ev (fun k => impl_PrefixText.f k l leaf) (prefixText l leaf) := by
  unfold impl_PrefixText.f prefixText
  refine Ev.bind (impl_NibblesOk_ev l hb) ?_
  by_cases h : nibblesOk l = true
  · rw [if_pos h]
    refine Ev.pos h ?_
    obtain ⟨hr, h64⟩ := nibblesOk_iff.1 h
    have key : ∀ b : Int, 0 ≤ b → b ≤ 32 → Ev (fun k => impl_PrefixText.j0 k l b) (strOfNums (if l.length % 2 = 1 then (b + (16 + rd l 0)) :: pairs16 (l.drop 1) else b :: pairs16 l), true) := by
      intro b hb0 hb1
      by_cases ho : l.length % 2 = 1
      · have hm := hr _ (rd_mem (i := 0) (xs := l) (by omega) (by omega))
        rw [if_pos ho]
        refine Ev.step (fun k => by rw [impl_PrefixText.j0, if_pos (by omega), if_pos (by omega), if_pos (by omega), w64 (n := 16 + rd l 0) (by omega), w64 (by omega)]) ?_
        refine Ev.step (fun k => by rw [impl_PrefixText.j1, Int.emod_eq_of_lt (by omega) (by omega)]) ?_
        refine (impl_PrefixText_l (l.drop 1) (by rw [List.length_drop]; omega) (fun x hx => hr x (List.mem_of_mem_drop hx)) (l.length / 2) 0 _ (by rw [List.length_drop]; omega) (by simp)).eq ?_
        rfl
      · rw [if_neg ho]
        refine Ev.step (fun k => by rw [impl_PrefixText.j0, if_neg (by omega)]) ?_
        refine Ev.step (fun k => by rw [impl_PrefixText.j1, Int.emod_eq_of_lt (by omega) (by omega)]) ?_
        exact impl_PrefixText_l l h64 hr (l.length / 2) 0 _ (by omega) (by simp)
    cases leaf with
    | true => exact Ev.pos rfl (key 32 (by omega) (by omega))
    | false => exact Ev.neg (by simp) (key 0 (by omega) (by omega))
  · rw [if_neg h]
    exact Ev.neg h (Ev.now _)

theorem impl_ReadPrefix_ev (t : ByteArray) (hb : t.size ≤ 1048576) : Ev (fun k => impl_ReadPrefix.f k t) (readPrefix t) := by
  unfold impl_ReadPrefix.f readPrefix
  have hz : Ev (fun k => impl_ReadPrefix.j0 k t true) (([], false, false) : List Int × Bool × Bool) := by
    refine Ev.step (fun k => by rw [impl_ReadPrefix.j0, if_pos rfl]) (Ev.now _)
  by_cases h0 : t.size = 0
  · rw [if_pos h0]
    exact Ev.pos (toList_nil.2 h0) hz
  rw [if_neg h0]
  refine Ev.neg (fun h => h0 (toList_nil.1 h)) (Ev.pos (by omega) ?_)
  by_cases h1 : 64 ≤ bt t 0
  · rw [if_pos h1]
    have : decide (bt t 0 > 63) = true := decide_eq_true (by omega)
    rw [this]
    exact hz
  rw [if_neg h1]
  have e2 : decide (bt t 0 > 63) = false := decide_eq_false (by omega)
  rw [e2]
  have hr := bt0_range (t := t) (by omega)
  have en := impl_NibblesOf_ev t (by omega)
  have hc := nibblesOf_cons (t := t) (by omega)
  have hlen := nibblesOf_length t
  have hx : (t.extract 1 t.size).size = t.size - 1 := by simp [ByteArray.size_extract]
  have hlx := nibblesOf_length (t.extract 1 t.size)
  refine Ev.step (fun k => by rw [impl_ReadPrefix.j0, if_neg (by decide)]) ?_
  refine Ev.bind en (Ev.pos (by omega) ?_)
  have e5 : rd (nibblesOf t) 0 = bt t 0 / 16 := by rw [hc]; rfl
  rw [e5]
  have ebits : (Go.bits .and .i64 (bt t 0 / 16) 1 = if bt t 0 / 16 % 2 = 1 then 1 else 0) ∧ ((Go.bits .and .i64 (bt t 0 / 16) 2 != 0) = rpLeaf t) := by
    unfold rpLeaf
    have h3 : bt t 0 / 16 = 0 ∨ bt t 0 / 16 = 1 ∨ bt t 0 / 16 = 2 ∨ bt t 0 / 16 = 3 := by omega
    rcases h3 with h3 | h3 | h3 | h3 <;> rw [h3]
    · exact ⟨by decide, by rw [decide_eq_false (by omega)]; decide⟩
    · exact ⟨by decide, by rw [decide_eq_false (by omega)]; decide⟩
    · exact ⟨by decide, by rw [decide_eq_true (by omega)]; decide⟩
    · exact ⟨by decide, by rw [decide_eq_true (by omega)]; decide⟩
  rw [ebits.1, ebits.2]
  have key : ∀ l : List Int, rpOut t = l →
      Ev (fun k => (impl_PrefixText.f k l (rpLeaf t)).bind fun bt169 => (if bt169.2 = true then (if bt169.1.toList = t.toList then (if ([] : List Int).length + l.length < 17592186044416 then (some ((([] : List Int) ++ l), (rpLeaf t), true)) else (none)) else (some (([] : List Int), false, false))) else (some (([] : List Int), false, false)))) (if rpOk t = true then (rpOut t, rpLeaf t, true) else ([], false, false)) := by
    intro l he
    subst he
    have hl1 := (rpOut_length t (by omega)).1
    refine Ev.bind (impl_PrefixText_ev (rpOut t) (rpLeaf t) (by omega)) ?_
    unfold rpOk
    by_cases c1 : (prefixText (rpOut t) (rpLeaf t)).2 = true
    · refine Ev.pos c1 ?_
      rw [c1, Bool.true_and]
      by_cases c2 : (prefixText (rpOut t) (rpLeaf t)).1 = t
      · rw [if_pos (decide_eq_true c2)]
        exact Ev.pos (ba_eq.2 c2) (Ev.pos (by simp only [List.length_nil]; omega) (Ev.now _))
      · exact (Ev.neg (fun h => c2 (ba_eq.1 h)) (Ev.now _)).eq (by rw [decide_eq_false c2]; rfl)
    · refine Ev.neg c1 ?_
      rw [Bool.not_eq_true] at c1
      rw [c1, if_neg (by simp)]
      exact Ev.now _
  by_cases c : bt t 0 / 16 % 2 = 1
  · rw [if_pos c]
    refine Ev.pos rfl (Ev.pos (by omega) (Ev.bindc rfl ?_))
    exact key _ (by unfold rpOut; rw [if_pos c, hc]; rfl)
  · rw [if_neg c]
    refine Ev.neg (by decide) (Ev.pos (by omega) (Ev.bindc rfl ?_))
    exact key _ (by unfold rpOut; rw [if_neg c, hc]; rfl)

theorem FnExactReadPrefix (x0 : ByteArray) : (x0.size ≤ 9223372036854775807) → ∃ k, laws_FnExactReadPrefix.f k x0 = some true := by
  intro hs
  apply Ev.rounds
  unfold laws_FnExactReadPrefix.f
  by_cases h0 : (x0.size : Int) > 1048576
  · exact Ev.pos h0 (Ev.now _)
  refine Ev.neg h0 ?_
  have hl : (readPrefix x0).1.length ≤ 2097152 := by
    unfold readPrefix
    split
    · simp
    · split
      · simp
      · split
        · have := (rpOut_length x0 (by omega)).1; simp only; omega
        · simp
  have es := spec_ReadPrefix_ev x0 (by omega)
  have ei := impl_ReadPrefix_ev x0 (by omega)
  have eq := eqIntS_same (readPrefix x0).1 (by omega)
  obtain ⟨x', q, em, eh, hq, hq'⟩ := markIntS_ev (readPrefix x0).1 1 (by omega) (by omega)
  refine Ev.bind es (Ev.bind ei (Ev.bind eq (Ev.pos rfl (Ev.neg (by simp) ?_))))
  refine Ev.step (fun k => by rw [laws_FnExactReadPrefix.j0]) (Ev.neg (by simp) ?_)
  refine Ev.bind em (Ev.bind eh (Ev.neg (by omega) (Ev.pos rfl ?_)))
  refine Ev.bind ei (Ev.bind eq (Ev.pos rfl (Ev.neg (by simp) ?_)))
  refine Ev.step (fun k => by rw [laws_FnExactReadPrefix.j1]) (Ev.neg (by simp) ?_)
  exact Ev.bind eh (Ev.neg (by omega) (Ev.pos rfl (Ev.now _)))

end Go.Proofs.Ytmhakjpjnnfidaa.Pure
