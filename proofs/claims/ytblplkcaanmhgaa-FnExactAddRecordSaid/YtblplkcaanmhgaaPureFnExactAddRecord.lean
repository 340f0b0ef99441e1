/- FnExactAddRecord, the pure part: both write the same behind every journal. No conditions. -/
import Derived.Test.YtblplkcaanmhgaaQFnExactAddRecordx2
import Derived.Test.YtblplkcaanmhgaaKindsFnExactAddRecord
import Derived.Test.YtblplkcaanmhgaaPLbase
namespace Go.Proofs.Ytblplkcaanmhgaa.Pure
open Go Go.RowKit Go.Proofs.Ytblplkcaanmhgaa.QFnExactAddRecord Go.Proofs.YtblplkcaanmhgaaW.PrintWords Go.Proofs.YtblplkcaanmhgaaW.PrintLast Go.Proofs.YtblplkcaanmhgaaW.PrintMore Go.Proofs.Ytblplkcaanmhgaa.PL
set_option linter.unusedVariables false
set_option linter.unusedSimpArgs false

theorem u32_range (n : Int) : 0 ≤ IntKind.u32.wrap n ∧ IntKind.u32.wrap n < 4294967296 := by rw [IntKind.wrap_u32]; omega
theorem xor32_range (x y : Int) : 0 ≤ Go.bits .xor .u32 x y ∧ Go.bits .xor .u32 x y < 4294967296 := u32_range _
def half (x : Int) : Int := if x % 2 = 1 then Go.bits .xor .u32 (x / 2) 3558460437 else x / 2
def halves (n : Nat) (x : Int) : Int := Nat.rec (motive := fun _ => Int → Int) (fun x => x) (fun _ f x => f (half x)) n x
theorem halves_zero (x : Int) : halves 0 x = x := rfl
theorem halves_succ (n : Nat) (x : Int) : halves (n + 1) x = halves n (half x) := rfl
def sumByte (s b : Int) : Int := (fun n => halves n (Go.bits .xor .u32 s b)) 8
def sumMore (s : Int) (l : List Int) : Int := l.foldl sumByte s
theorem sumMore_nil (s : Int) : sumMore s [] = s := by rw [sumMore, List.foldl_nil]
theorem sumMore_cons (s b : Int) (l : List Int) : sumMore s (b :: l) = sumMore (sumByte s b) l := by rw [sumMore, List.foldl_cons, sumMore]
theorem half_range {x : Int} (h : 0 ≤ x ∧ x < 4294967296) : 0 ≤ half x ∧ half x < 4294967296 := by
  unfold half
  split
  · exact xor32_range _ _
  · omega
theorem halves_range (n : Nat) : ∀ {x : Int}, 0 ≤ x ∧ x < 4294967296 → 0 ≤ halves n x ∧ halves n x < 4294967296 := by
  induction n with
  | zero => intro x h; exact h
  | succ n ih => intro x h; exact ih (half_range h)
theorem sumMore_range (l : List Int) : ∀ {s : Int}, 0 ≤ s ∧ s < 4294967296 → 0 ≤ sumMore s l ∧ sumMore s l < 4294967296 := by
  induction l with
  | nil => intro s h; exact h
  | cons b l ih => intro s h; rw [sumMore_cons]; exact ih (halves_range 8 (xor32_range _ _))
def sumOf (t : ByteArray) : Int := sumMore 4294967295 (bytesOf t)
theorem sumOf_range (t : ByteArray) : 0 ≤ sumOf t ∧ sumOf t < 4294967296 := sumMore_range _ (by decide)
def four (x : Int) : ByteArray := strOfNums [(x / 16777216) % 256, (x / 65536) % 256, (x / 256) % 256, x % 256]
theorem four_size (x : Int) : (four x).size = 4 := by rw [four, strOfNums_size]; rfl
def sealed (t : ByteArray) : ByteArray × Bool := if t.size > 20000 then ((⟨#[]⟩ : ByteArray), false) else (t ++ four (sumOf t), true)

def varNums (n : Nat) : List Int := if h : n ≤ 127 then [(n : Int)] else ((n % 128 + 128 : Nat) : Int) :: varNums (n / 128)
theorem varNums_small {n : Nat} (h : n ≤ 127) : varNums n = [(n : Int)] := by rw [varNums]; simp [h]
theorem varNums_big {n : Nat} (h : 127 < n) : varNums n = ((n % 128 + 128 : Nat) : Int) :: varNums (n / 128) := by rw [varNums]; simp [show ¬ n ≤ 127 by omega]
theorem varNums_range (n : Nat) : ∀ x ∈ varNums n, 0 ≤ x ∧ x < 256 := by
  induction n using Nat.strongRecOn with
  | _ n ih =>
    intro x hx
    by_cases h : n ≤ 127
    · rw [varNums_small h] at hx
      rw [List.mem_singleton.1 hx]; omega
    · rw [varNums_big (by omega)] at hx
      rcases List.mem_cons.1 hx with rfl | hx
      · omega
      · exact ih (n / 128) (by omega) x hx
theorem varNums_length (j : Nat) : ∀ n : Nat, n < 128 ^ (j + 1) → (varNums n).length ≤ j + 1 := by
  induction j with
  | zero =>
    intro n h
    rw [varNums_small (by omega)]; simp
  | succ j ih =>
    intro n h
    by_cases h0 : n ≤ 127
    · rw [varNums_small h0]; simp
    · rw [varNums_big (by omega), List.length_cons]
      have := ih (n / 128) (by rw [Nat.pow_succ] at h; omega)
      omega
def varText (n : Int) : ByteArray := strOfNums (varNums n.toNat)
theorem varText_size {n : Int} (h : n ≤ 34359738367) : (varText n).size ≤ 5 := by
  rw [varText, strOfNums_size]
  exact varNums_length 4 _ (by omega)
theorem varText_size9 {n : Int} (h : n ≤ 9223372036854775807) : (varText n).size ≤ 9 := by
  rw [varText, strOfNums_size]
  exact varNums_length 8 _ (by omega)

def recordText (t : ByteArray) : ByteArray × Bool := if 1 ≤ t.size ∧ t.size ≤ 700 then sealed (varText (t.size : Int) ++ t) else ((⟨#[]⟩ : ByteArray), false)
theorem sealed_size (t : ByteArray) : (sealed t).1.size ≤ 20004 := by
  unfold sealed
  split
  · show 0 ≤ 20004; omega
  · show (t ++ four (sumOf t)).size ≤ 20004
    rw [size_append, four_size]; omega
theorem recordText_size (t : ByteArray) : (recordText t).1.size ≤ 20004 := by
  unfold recordText
  split
  · exact sealed_size _
  · show 0 ≤ 20004; omega

theorem spec_SumMore_l1 (t : ByteArray) (i : Nat) (hi : i ≤ 281474976710655) (r : Int) (n : Nat) : ∀ (j : Nat) (x : Int), j + n = 8 → 0 ≤ x ∧ x < 4294967296 →
    Ev (fun k => spec_SumMore.l0 k (halves n x) t ((i + 1 : Nat) : Int)) r → Ev (fun k => spec_SumMore.l1 k x t (i : Int) (j : Int)) r := by
  induction n with
  | zero =>
    intro j x hj hx he
    have he' : Ev (fun k => spec_SumMore.l0 k x t ((i + 1 : Nat) : Int)) r := he
    exact Ev.step (fun k => by rw [spec_SumMore.l1, if_neg (by omega), wNat (by omega)]) he'
  | succ n ih =>
    intro j x hj hx he
    by_cases h : x % 2 = 1
    · refine Ev.step (fun k => by rw [spec_SumMore.l1, if_pos (by omega), if_pos (show Int.tmod x 2 = 1 by rw [tmod_pos hx.1]; exact h), tdiv_pos hx.1, Int.emod_eq_of_lt (a := x / 2) (by omega) (by omega), wNat (by omega)]) ?_
      refine ih (j + 1) _ (by omega) (xor32_range _ _) ?_
      rw [halves_succ, half, if_pos h] at he
      exact he
    · refine Ev.step (fun k => by rw [spec_SumMore.l1, if_pos (by omega), if_neg (show ¬ Int.tmod x 2 = 1 by rw [tmod_pos hx.1]; exact h), tdiv_pos hx.1, Int.emod_eq_of_lt (a := x / 2) (by omega) (by omega), wNat (by omega)]) ?_
      refine ih (j + 1) _ (by omega) (by omega) ?_
      rw [halves_succ, half, if_neg h] at he
      exact he
theorem spec_SumMore_l (t : ByteArray) (hb : t.size ≤ 281474976710655) (n : Nat) : ∀ (i : Nat) (x : Int), i + n = t.size → 0 ≤ x ∧ x < 4294967296 →
    Ev (fun k => spec_SumMore.l0 k x t (i : Int)) (sumMore x ((bytesOf t).drop i)) := by
  have hl := bytesOf_length t
  induction n with
  | zero =>
    intro i x hi hx
    refine Ev.step (fun k => by rw [spec_SumMore.l0, if_neg (by omega)]) (Ev.some_ ?_)
    rw [List.drop_eq_nil_of_le (by omega), sumMore_nil]
  | succ n ih =>
    intro i x hi hx
    have hg := bt_range t (i : Int)
    refine Ev.step (fun k => by rw [spec_SumMore.l0, if_pos (by omega), if_pos (by omega), Int.emod_eq_of_lt (by omega) (by omega), bt_eq, rd_get (bytesOf t) i (by omega)]) ?_
    rw [drop_cons (bytesOf t) i (by omega), sumMore_cons, sumByte]
    refine spec_SumMore_l1 t i (by omega) _ 8 0 _ (by omega) (xor32_range _ _) ?_
    exact ih (i + 1) _ (by omega) (halves_range 8 (xor32_range _ _))
theorem spec_SumOf_ev (t : ByteArray) (hb : t.size ≤ 281474976710655) : Ev (fun k => spec_SumOf.f k t) (sumOf t) := by
  unfold spec_SumOf.f spec_SumMore.f
  exact Ev.bind (spec_SumMore_l t hb t.size 0 4294967295 (by omega) (by decide)) (Ev.now _)

theorem spec_Sealed_ev (t : ByteArray) (hb : t.size ≤ 281474976710655) : Ev (fun k => spec_Sealed.f k t) (sealed t) := by
  unfold spec_Sealed.f sealed
  by_cases h : t.size > 20000
  · rw [if_pos h]; exact Ev.pos (by omega) (Ev.now _)
  · rw [if_neg h]
    refine Ev.neg (by omega) (Ev.bind (spec_SumOf_ev t hb) ?_)
    exact Ev.bindc (a := four (sumOf t)) rfl (Ev.pos (by rw [four_size]; omega) (Ev.now _))

theorem spec_l01Var_l (j : Nat) : ∀ (n : Nat) (x3 : List Int), n < 128 ^ (j + 1) → n ≤ 9223372036854775807 → x3.length + j ≤ 1000 →
    Ev (fun k => spec_l01Var.l0 k (n : Int) x3) (strOfNums (x3 ++ varNums n)) := by
  induction j with
  | zero =>
    intro n x3 h hn hs
    refine Ev.step (fun k => by rw [spec_l01Var.l0, if_neg (by omega), if_pos (by omega), Int.emod_eq_of_lt (by omega) (by omega)]) (Ev.some_ ?_)
    rw [varNums_small (by omega)]
  | succ j ih =>
    intro n x3 h hn hs
    by_cases h0 : n ≤ 127
    · refine Ev.step (fun k => by rw [spec_l01Var.l0, if_neg (by omega), if_pos (by omega), Int.emod_eq_of_lt (by omega) (by omega)]) (Ev.some_ ?_)
      rw [varNums_small (by omega)]
    · have e1 : wrap64 ((Int.tmod (n : Int) 128) + 128) % 256 = ((n % 128 + 128 : Nat) : Int) := by rw [tmod_pos (by omega), w64 (by omega)]; omega
      have e2 : wrap64 (Int.tdiv (n : Int) 128) = ((n / 128 : Nat) : Int) := by rw [tdiv_pos (by omega), w64 (by omega)]; omega
      refine Ev.step (fun k => by rw [spec_l01Var.l0, if_pos (by omega), if_pos (by omega), e1, e2]) ?_
      refine (ih (n / 128) _ (by rw [Nat.pow_succ] at h; omega) (by omega) (by rw [List.length_append]; show x3.length + 1 + j ≤ 1000; omega)).eq ?_
      rw [varNums_big (show 127 < n by omega), List.append_assoc]
      rfl
theorem spec_l01Var_ev (n : Int) (h0 : 0 ≤ n) (h : n ≤ 9223372036854775807) : Ev (fun k => spec_l01Var.f k n) (varText n) := by
  unfold spec_l01Var.f
  obtain ⟨m, rfl⟩ := Int.eq_ofNat_of_zero_le h0
  exact spec_l01Var_l 8 m [] (by omega) (by omega) (by show 0 + 8 ≤ 1000; omega)

theorem spec_l01In_eq (a b c : Int) : spec_l01In.f a b c = some (decide (b ≤ a ∧ a ≤ c)) := by
  unfold spec_l01In.f
  by_cases h : a ≥ b
  · rw [if_pos h]; congr 1; simp [show b ≤ a from h]
  · rw [if_neg h]; congr 1; rw [eq_comm, decide_eq_false_iff_not]; omega

theorem spec_RecordText_ev (t : ByteArray) (hb : t.size ≤ 281474976710655) : Ev (fun k => spec_RecordText.f k t) (recordText t) := by
  unfold spec_RecordText.f recordText
  refine Ev.bindc (spec_l01In_eq _ _ _) ?_
  by_cases h : 1 ≤ t.size ∧ t.size ≤ 700
  · rw [if_pos h]
    have hv := varText_size (n := (t.size : Int)) (by omega)
    refine Ev.pos (decide_eq_true (by omega)) (Ev.bind (spec_l01Var_ev _ (by omega) (by omega)) (Ev.pos (by omega) ?_))
    exact Ev.bind (spec_Sealed_ev _ (by rw [size_append]; omega)) (Ev.now _)
  · rw [if_neg h]
    exact Ev.neg (by rw [decide_eq_true_eq]; omega) (Ev.now _)

def addRecord (j t : ByteArray) : ByteArray × Bool := if (recordText t).2 = true ∧ (recordText t).1.size + j.size ≤ 20000 then (j ++ (recordText t).1, true) else (j, false)

theorem spec_AddRecord_ev (j t : ByteArray) (hj : j.size ≤ 281474976710655) (hb : t.size ≤ 281474976710655) : Ev (fun k => spec_AddRecord.f k j t) (addRecord j t) := by
  unfold spec_AddRecord.f addRecord
  refine Ev.bind (spec_RecordText_ev t hb) ?_
  have hs := recordText_size t
  cases hc : (recordText t).2 with
  | false =>
    refine Ev.neg (by simp) (Ev.some_ (by rw [if_neg (by simp)]))
  | true =>
    refine Ev.pos rfl ?_
    rw [w64 (by omega)]
    by_cases h : (recordText t).1.size + j.size ≤ 20000
    · refine Ev.neg (by omega) (Ev.pos (by omega) (Ev.some_ (by rw [if_pos ⟨rfl, h⟩])))
    · exact Ev.pos (by omega) (Ev.some_ (by rw [if_neg (by rintro ⟨_, h'⟩; exact h h')]))

theorem wraps_u32' (n : Int) (h₀ : 0 ≤ n) (h₁ : n < 2 ^ 32) : IntKind.u32.wrap n = n := by rw [IntKind.wrap_u32]; omega
theorem u32_and1 {x : Int} (h : 0 ≤ x ∧ x < 4294967296) : Go.bits .and .u32 x 1 = x % 2 := bits_mask .u32 32 (by decide) wraps_u32' 1 (by decide) x h.1 h.2
theorem impl_SumMore_l1 (t : ByteArray) (i : Nat) (hi : i ≤ 281474976710655) (r : Int) (n : Nat) : ∀ (j : Nat) (x : Int), j + n = 8 → 0 ≤ x ∧ x < 4294967296 →
    Ev (fun k => impl_SumMore.l0 k (halves n x) t ((i + 1 : Nat) : Int)) r → Ev (fun k => impl_SumMore.l1 k x t (i : Int) (j : Int)) r := by
  induction n with
  | zero =>
    intro j x hj hx he
    have he' : Ev (fun k => impl_SumMore.l0 k x t ((i + 1 : Nat) : Int)) r := he
    exact Ev.step (fun k => by rw [impl_SumMore.l1, if_neg (by omega), wNat (by omega)]) he'
  | succ n ih =>
    intro j x hj hx he
    by_cases h : x % 2 = 1
    · refine Ev.step (fun k => by rw [impl_SumMore.l1, if_pos (by omega), if_pos (show Go.bits .and .u32 x 1 = 1 by rw [u32_and1 hx]; exact h), wNat (by omega)]) ?_
      refine ih (j + 1) _ (by omega) (xor32_range _ _) ?_
      rw [halves_succ, half, if_pos h] at he
      exact he
    · refine Ev.step (fun k => by rw [impl_SumMore.l1, if_pos (by omega), if_neg (show ¬ Go.bits .and .u32 x 1 = 1 by rw [u32_and1 hx]; exact h), wNat (by omega)]) ?_
      refine ih (j + 1) _ (by omega) (by omega) ?_
      rw [halves_succ, half, if_neg h] at he
      exact he
theorem impl_SumMore_l (t : ByteArray) (hb : t.size ≤ 281474976710655) (n : Nat) : ∀ (i : Nat) (x : Int), i + n = t.size → 0 ≤ x ∧ x < 4294967296 →
    Ev (fun k => impl_SumMore.l0 k x t (i : Int)) (sumMore x ((bytesOf t).drop i)) := by
  have hl := bytesOf_length t
  induction n with
  | zero =>
    intro i x hi hx
    refine Ev.step (fun k => by rw [impl_SumMore.l0, if_neg (by omega)]) (Ev.some_ ?_)
    rw [List.drop_eq_nil_of_le (by omega), sumMore_nil]
  | succ n ih =>
    intro i x hi hx
    have hg := bt_range t (i : Int)
    refine Ev.step (fun k => by rw [impl_SumMore.l0, if_pos (by omega), if_pos (by omega), Int.emod_eq_of_lt (by omega) (by omega), bt_eq, rd_get (bytesOf t) i (by omega)]) ?_
    rw [drop_cons (bytesOf t) i (by omega), sumMore_cons, sumByte]
    refine impl_SumMore_l1 t i (by omega) _ 8 0 _ (by omega) (xor32_range _ _) ?_
    exact ih (i + 1) _ (by omega) (halves_range 8 (xor32_range _ _))
theorem impl_SumOf_ev (t : ByteArray) (hb : t.size ≤ 281474976710655) : Ev (fun k => impl_SumOf.f k t) (sumOf t) := by
  unfold impl_SumOf.f impl_SumMore.f
  exact Ev.bind (impl_SumMore_l t hb t.size 0 4294967295 (by omega) (by decide)) (Ev.now _)

theorem impl_sumText_ev (t : ByteArray) (hb : t.size ≤ 281474976710655) : Ev (fun k => impl_sumText.f k t) (four (sumOf t)) := by
  unfold impl_sumText.f
  exact Ev.bind (impl_SumOf_ev t hb) (Ev.now _)
theorem impl_Sealed_ev (t : ByteArray) (hb : t.size ≤ 281474976710655) : Ev (fun k => impl_Sealed.f k t) (sealed t) := by
  unfold impl_Sealed.f sealed
  by_cases h : t.size > 20000
  · rw [if_pos h]; exact Ev.pos (by omega) (Ev.now _)
  · rw [if_neg h]
    exact Ev.neg (by omega) (Ev.bind (impl_sumText_ev t hb) (Ev.pos (by rw [four_size]; omega) (Ev.now _)))

theorem impl_varText_l (j : Nat) : ∀ (n : Nat) (x3 : List Int), n < 128 ^ (j + 1) → n ≤ 9223372036854775807 → x3.length + j ≤ 1000 →
    Ev (fun k => impl_varText.l0 k (n : Int) x3) (strOfNums (x3 ++ varNums n)) := by
  induction j with
  | zero =>
    intro n x3 h hn hs
    refine Ev.step (fun k => by rw [impl_varText.l0, if_neg (by omega), if_pos (by omega), Int.emod_eq_of_lt (by omega) (by omega)]) (Ev.some_ ?_)
    rw [varNums_small (by omega)]
  | succ j ih =>
    intro n x3 h hn hs
    by_cases h0 : n ≤ 127
    · refine Ev.step (fun k => by rw [impl_varText.l0, if_neg (by omega), if_pos (by omega), Int.emod_eq_of_lt (by omega) (by omega)]) (Ev.some_ ?_)
      rw [varNums_small (by omega)]
    · have e1 : wrap64 (128 + (Int.tmod (n : Int) 128)) % 256 = ((n % 128 + 128 : Nat) : Int) := by rw [tmod_pos (by omega), w64 (by omega)]; omega
      have e2 : wrap64 (Int.tdiv (n : Int) 128) = ((n / 128 : Nat) : Int) := by rw [tdiv_pos (by omega), w64 (by omega)]; omega
      refine Ev.step (fun k => by rw [impl_varText.l0, if_pos (by omega), if_pos (by omega), e1, e2]) ?_
      refine (ih (n / 128) _ (by rw [Nat.pow_succ] at h; omega) (by omega) (by rw [List.length_append]; show x3.length + 1 + j ≤ 1000; omega)).eq ?_
      rw [varNums_big (show 127 < n by omega), List.append_assoc]
      rfl
theorem impl_varText_ev (n : Int) (h0 : 0 ≤ n) (h : n ≤ 9223372036854775807) : Ev (fun k => impl_varText.f k n) (varText n) := by
  unfold impl_varText.f
  obtain ⟨m, rfl⟩ := Int.eq_ofNat_of_zero_le h0
  exact impl_varText_l 8 m [] (by omega) (by omega) (by show 0 + 8 ≤ 1000; omega)

theorem impl_RecordText_ev (t : ByteArray) (hb : t.size ≤ 281474976710655) : Ev (fun k => impl_RecordText.f k t) (recordText t) := by
  unfold impl_RecordText.f recordText
  by_cases h : 1 ≤ t.size ∧ t.size ≤ 700
  · rw [if_pos h]
    have hv := varText_size (n := (t.size : Int)) (by omega)
    refine Ev.neg (by rw [toList_nil]; omega) ?_
    refine Ev.step (fun k => by rw [impl_RecordText.j0, if_neg (by rw [decide_eq_true_eq]; omega)]) ?_
    refine Ev.bind (impl_varText_ev _ (by omega) (by omega)) (Ev.pos (by omega) ?_)
    exact Ev.bind (impl_Sealed_ev _ (by rw [size_append]; omega)) (Ev.now _)
  · rw [if_neg h]
    by_cases h0 : t.size = 0
    · exact Ev.pos (toList_nil.2 h0) (Ev.step (fun k => by rw [impl_RecordText.j0, if_pos rfl]) (Ev.now _))
    · refine Ev.neg (by rw [toList_nil]; exact h0) ?_
      exact Ev.step (fun k => by rw [impl_RecordText.j0, if_pos (decide_eq_true (by omega))]) (Ev.now _)

theorem impl_AddRecord_ev (j t : ByteArray) (hj : j.size ≤ 281474976710655) (hb : t.size ≤ 281474976710655) : Ev (fun k => impl_AddRecord.f k j t) (addRecord j t) := by
  unfold impl_AddRecord.f addRecord
  refine Ev.bind (impl_RecordText_ev t hb) ?_
  have hs := recordText_size t
  cases hc : (recordText t).2 with
  | false =>
    refine Ev.neg (by simp) (Ev.some_ (by rw [if_neg (by simp)]))
  | true =>
    refine Ev.pos rfl ?_
    rw [w64 (by omega)]
    by_cases h : (recordText t).1.size + j.size ≤ 20000
    · refine Ev.neg (by omega) (Ev.pos (by omega) (Ev.some_ (by rw [if_pos ⟨rfl, h⟩])))
    · exact Ev.pos (by omega) (Ev.some_ (by rw [if_neg (by rintro ⟨_, h'⟩; exact h h')]))

theorem FnExactAddRecord (a0 a1 : ByteArray) : a0.size ≤ 9223372036854775807 → a1.size ≤ 9223372036854775807 → ∃ k, laws_FnExactAddRecord.f k a0 a1 = some true := by
  intro hs0 hs1
  apply Ev.rounds
  unfold laws_FnExactAddRecord.f
  by_cases h0 : (a0.size : Int) > 1048576
  · exact Ev.pos h0 (Ev.now _)
  refine Ev.neg h0 ?_
  by_cases h1 : (a1.size : Int) > 1048576
  · exact Ev.pos h1 (Ev.now _)
  refine Ev.neg h1 (Ev.bind (spec_AddRecord_ev a0 a1 (by omega) (by omega)) (Ev.bind (impl_AddRecord_ev a0 a1 (by omega) (by omega)) (Ev.pos rfl (Ev.neg (by simp) (Ev.now _)))))

end Go.Proofs.Ytblplkcaanmhgaa.Pure
