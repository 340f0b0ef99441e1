/- FnExactReadNum, the pure part: both read the same number, or none. No conditions. -/
import Derived.Test.YtblplkcaanmhgaaPFnExactReadNumx1
import Derived.Test.YtblplkcaanmhgaaPLbase
namespace Go.Proofs.Ytblplkcaanmhgaa.Pure
open Go Go.RowKit Go.Proofs.Ytblplkcaanmhgaa.PFnExactReadNum Go.Proofs.YtblplkcaanmhgaaW.PrintWords Go.Proofs.YtblplkcaanmhgaaW.PrintLast Go.Proofs.YtblplkcaanmhgaaW.PrintMore Go.Proofs.Ytblplkcaanmhgaa.PL
set_option linter.unusedVariables false
set_option linter.unusedSimpArgs false

def numLE (n : Nat) : List Int := if h : n = 0 then [] else ((n % 256 : Nat) : Int) :: numLE (n / 256)
theorem numLE_zero : numLE 0 = [] := by rw [numLE]; simp
theorem numLE_pos {n : Nat} (h : 0 < n) : numLE n = ((n % 256 : Nat) : Int) :: numLE (n / 256) := by rw [numLE]; simp [show n ≠ 0 by omega]
theorem numLE_range (n : Nat) : ∀ x ∈ numLE n, 0 ≤ x ∧ x < 256 := by
  induction n using Nat.strongRecOn with
  | _ n ih =>
    intro x hx
    by_cases h : n = 0
    · subst h; rw [numLE_zero] at hx; simp at hx
    · rw [numLE_pos (by omega)] at hx
      rcases List.mem_cons.1 hx with rfl | hx
      · omega
      · exact ih (n / 256) (by omega) x hx
theorem numLE_length (j : Nat) : ∀ n : Nat, n < 256 ^ j → (numLE n).length ≤ j := by
  induction j with
  | zero => 
    intro n h
    obtain rfl : n = 0 := by simpa using h
    rw [numLE_zero]; simp
  | succ j ih =>
    intro n h
    by_cases h0 : n = 0
    · subst h0; rw [numLE_zero]; simp
    · rw [numLE_pos (by omega), List.length_cons]
      have := ih (n / 256) (by rw [Nat.pow_succ] at h; omega)
      omega
def numText (n : Int) : ByteArray := strOfNums (numLE n.toNat).reverse
theorem numText_bytes (n : Int) : bytesOf (numText n) = (numLE n.toNat).reverse := bytesOf_strOf (fun x hx => numLE_range _ x (List.mem_reverse.1 hx))
theorem numText_size (n : Int) : (numText n).size = (numLE n.toNat).length := by rw [size_eq, numText_bytes, List.length_reverse]
theorem numText_size8 {n : Int} (h : n ≤ 9223372036854775807) : (numText n).size ≤ 8 := by
  rw [numText_size]
  exact numLE_length 8 _ (by omega)
theorem numText_size4 {n : Int} (h : n ≤ 4294967295) : (numText n).size ≤ 4 := by
  rw [numText_size]
  exact numLE_length 4 _ (by omega)
theorem numText_nonpos {n : Int} (h : n ≤ 0) : numText n = (⟨#[]⟩ : ByteArray) := by
  unfold numText
  rw [show n.toNat = 0 by omega, numLE_zero]
  rfl

def beVal (l : List Int) (a : Int) : Int := l.foldl (fun a b => 256 * a + b) a
theorem beVal_cons (b : Int) (l : List Int) (a : Int) : beVal (b :: l) a = beVal l (256 * a + b) := rfl
theorem beVal_nil (a : Int) : beVal [] a = a := rfl
theorem beVal_bound (l : List Int) : ∀ (a : Int), 0 ≤ a → (∀ x ∈ l, 0 ≤ x ∧ x < 256) → 0 ≤ beVal l a ∧ beVal l a < (a + 1) * 256 ^ l.length := by
  induction l with
  | nil => intro a ha h; rw [beVal_nil]; simp only [List.length_nil, Int.pow_zero]; omega
  | cons b l ih =>
    intro a ha h
    have hb := h b List.mem_cons_self
    have := ih (256 * a + b) (by omega) (fun x hx => h x (List.mem_cons_of_mem _ hx))
    rw [beVal_cons]
    refine ⟨this.1, Int.lt_of_lt_of_le this.2 ?_⟩
    rw [List.length_cons, Int.pow_succ, Int.mul_comm (256 ^ l.length) 256, ← Int.mul_assoc]
    exact Int.mul_le_mul_of_nonneg_right (by omega) (Int.pow_nonneg (by decide))
def readNum (t : ByteArray) : Int × Bool :=
  if t.size > 4 then (0, false) else if numText (beVal (bytesOf t) 0) = t ∧ beVal (bytesOf t) 0 ≤ 1000000000 then (beVal (bytesOf t) 0, true) else (0, false)

theorem spec_NumText_l (j : Nat) : ∀ (n : Nat) (x3 : ByteArray), n < 256 ^ j → n ≤ 9223372036854775807 → x3.size + j ≤ 1000 →
    Ev (fun k => spec_NumText.l0 k (n : Int) x3) (strOfNums (numLE n).reverse ++ x3) := by
  induction j with
  | zero =>
    intro n x3 h hn hs
    obtain rfl : n = 0 := by simpa using h
    refine Ev.step (fun k => by rw [spec_NumText.l0, if_neg (by omega)]) (Ev.some_ ?_)
    rw [numLE_zero, List.reverse_nil, strOf_nil, ba_nil_append]
  | succ j ih =>
    intro n x3 h hn hs
    by_cases h0 : n = 0
    · subst h0
      refine Ev.step (fun k => by rw [spec_NumText.l0, if_neg (by omega)]) (Ev.some_ ?_)
      rw [numLE_zero, List.reverse_nil, strOf_nil, ba_nil_append]
    · have e1 : Int.tmod (n : Int) 256 % 256 = ((n % 256 : Nat) : Int) := by rw [tmod_pos (by omega)]; omega
      have e2 : wrap64 (Int.tdiv (n : Int) 256) = ((n / 256 : Nat) : Int) := by rw [tdiv_pos (by omega), w64 (by omega)]; omega
      have hsz : (strOfNums [((n % 256 : Nat) : Int)]).size = 1 := by rw [strOfNums_size]; rfl
      refine Ev.step (fun k => by rw [spec_NumText.l0, if_pos (by omega), e1, e2, Option.bind_some, if_pos (by rw [hsz]; omega)]) ?_
      refine (ih (n / 256) _ (by rw [Nat.pow_succ] at h; omega) (by omega) (by rw [size_append, hsz]; omega)).eq ?_
      rw [numLE_pos (show 0 < n by omega), List.reverse_cons, strOf_append, ba_append_assoc]
theorem spec_NumText_ev (n : Int) (h : n ≤ 9223372036854775807) : Ev (fun k => spec_NumText.f k n) (numText n) := by
  unfold spec_NumText.f
  by_cases h0 : 0 ≤ n
  · obtain ⟨m, rfl⟩ := Int.eq_ofNat_of_zero_le h0
    refine (spec_NumText_l 8 m _ (by omega) (by omega) (by show 0 + 8 ≤ 1000; omega)).eq ?_
    rw [ba_append_nil]
    rfl
  · refine Ev.step (fun k => by rw [spec_NumText.l0, if_neg (by omega)]) (Ev.some_ ?_)
    rw [numText_nonpos (by omega)]

theorem spec_ReadNum_l (t : ByteArray) (ht : t.size ≤ 4) (n : Nat) : ∀ (i : Nat) (v : Int), i + n = t.size → 0 ≤ v → v < ((256 ^ i : Nat) : Int) →
    Ev (fun k => spec_ReadNum.l0 k t v (i : Int)) (if numText (beVal ((bytesOf t).drop i) v) = t ∧ beVal ((bytesOf t).drop i) v ≤ 1000000000 then (beVal ((bytesOf t).drop i) v, true) else (0, false)) := by
  have hl := bytesOf_length t
  induction n with
  | zero =>
    intro i v hi hv hv2
    have hv3 : 256 ^ i ≤ 256 ^ 4 := Nat.pow_le_pow_right (by decide) (by omega)
    refine Ev.step (fun k => by rw [spec_ReadNum.l0, if_neg (by omega)]) (Ev.bind (spec_NumText_ev v (by omega)) ?_)
    rw [List.drop_eq_nil_of_le (by omega), beVal_nil]
    by_cases h1 : numText v = t
    · refine Ev.pos (ba_eq.2 h1) ?_
      by_cases h2 : v > 1000000000
      · exact Ev.pos h2 (Ev.some_ (by rw [if_neg (by omega)]))
      · exact Ev.neg h2 (Ev.some_ (by rw [if_pos ⟨h1, by omega⟩]))
    · exact Ev.neg (fun h => h1 (ba_eq.1 h)) (Ev.some_ (by rw [if_neg (fun h => h1 h.1)]))
  | succ n ih =>
    intro i v hi hv hv2
    have hv3 : 256 ^ i ≤ 256 ^ 3 := Nat.pow_le_pow_right (by decide) (by omega)
    have hg := bt_range t (i : Int)
    refine Ev.step (fun k => by rw [spec_ReadNum.l0, if_pos (by omega), if_pos (by omega), w64 (n := 256 * v) (by omega), w64 (n := bt t (i : Int)) (by omega), w64 (by omega), wNat (by omega)]) ?_
    rw [drop_cons (bytesOf t) i (by omega), beVal_cons]
    rw [bt_eq, rd_get (bytesOf t) i (by omega)] at hg ⊢
    exact ih (i + 1) _ (by omega) (by omega) (by rw [Nat.pow_succ]; omega)
theorem spec_ReadNum_ev (t : ByteArray) : Ev (fun k => spec_ReadNum.f k t) (readNum t) := by
  unfold spec_ReadNum.f readNum
  by_cases h : t.size > 4
  · rw [if_pos h]; exact Ev.pos (by omega) (Ev.now _)
  · rw [if_neg h]
    refine Ev.neg (by omega) ?_
    exact spec_ReadNum_l t (by omega) t.size 0 0 (by omega) (by omega) (by decide)

theorem reverse_l (o : List Int) (hb : o.length ≤ 281474976710656) (m : Nat) : ∀ (i : Nat) (x : List Int), o.length - 2 * i ≤ m → 2 * i ≤ o.length + 1 → x.length = o.length →
    (∀ j : Nat, j < o.length → rd x (j : Int) = if j < i ∨ o.length ≤ j + i then rd o ((o.length - 1 - j : Nat) : Int) else rd o (j : Int)) →
    Ev (fun k => slices_Reverse_byte_byte.l0 k x (i : Int) ((o.length : Int) - 1 - i)) o.reverse := by
  induction m with
  | zero =>
    intro i x hm hi hl hx
    refine Ev.step (fun k => by rw [slices_Reverse_byte_byte.l0, if_neg (by omega)]) (Ev.some_ ?_)
    refine rd_ext (by simp [hl]) fun j hj => ?_
    rw [hx j (by omega), rd_reverse (by omega)]
    split
    · rfl
    · congr 1; omega
  | succ m ih =>
    intro i x hm hi hl hx
    by_cases hij : (i : Int) < (o.length : Int) - 1 - i
    · refine Ev.step (fun k => by rw [slices_Reverse_byte_byte.l0, if_pos hij, if_pos (by omega), if_pos (by omega), if_pos (by omega), if_pos (by omega)]) ?_
      rw [wNat (by omega), w64 (by omega)]
      have e : (o.length : Int) - 1 - i - 1 = (o.length : Int) - 1 - ((i + 1 : Nat) : Int) := by omega
      have e2 : ((o.length : Int) - 1 - i) = ((o.length - 1 - i : Nat) : Int) := by omega
      rw [e, e2]
      refine ih (i + 1) _ (by omega) (by omega) (by simp [hl]) ?_
      intro j hj
      rw [Int.toNat_natCast, Int.toNat_natCast, rd_set _ _ (by rw [List.length_set]; omega), rd_set _ _ (by omega), hx i (by omega), hx (o.length - 1 - i) (by omega), hx j hj]
      by_cases h1 : j = o.length - 1 - i
      · rw [if_pos h1, if_neg (by omega), if_pos (by omega)]
        congr 1; omega
      · rw [if_neg h1]
        by_cases h2 : j = i
        · rw [if_pos h2, if_neg (by omega), if_pos (by omega)]
          congr 1; omega
        · rw [if_neg h2]
          by_cases h3 : j < i ∨ o.length ≤ j + i
          · rw [if_pos h3, if_pos (by omega)]
          · rw [if_neg h3, if_neg (by omega)]
    · refine Ev.step (fun k => by rw [slices_Reverse_byte_byte.l0, if_neg hij]) (Ev.some_ ?_)
      refine rd_ext (by simp [hl]) fun j hj => ?_
      rw [hx j (by omega), rd_reverse (by omega)]
      split
      · rfl
      · congr 1; omega
theorem reverse_ev (o : List Int) (hb : o.length ≤ 281474976710656) : Ev (fun k => slices_Reverse_byte_byte.f k o) o.reverse := by
  unfold slices_Reverse_byte_byte.f
  rw [w64 (by omega)]
  have := reverse_l o hb o.length 0 o (by omega) (by omega) rfl (by intro j hj; rw [if_neg (by omega)])
  simpa using this

theorem impl_NumText_l (j : Nat) : ∀ (n : Nat) (x3 : List Int), n < 256 ^ j → x3.length + j ≤ 1000 →
    Ev (fun k => impl_NumText.l0 k (n : Int) x3) (strOfNums (x3 ++ numLE n).reverse) := by
  induction j with
  | zero =>
    intro n x3 h hs
    obtain rfl : n = 0 := by simpa using h
    refine Ev.step (fun k => by rw [impl_NumText.l0, if_neg (by omega)]) ?_
    refine Ev.bind (reverse_ev x3 (by omega)) (Ev.some_ ?_)
    rw [numLE_zero, List.append_nil]
  | succ j ih =>
    intro n x3 h hs
    by_cases h0 : n = 0
    · subst h0
      refine Ev.step (fun k => by rw [impl_NumText.l0, if_neg (by omega)]) ?_
      refine Ev.bind (reverse_ev x3 (by omega)) (Ev.some_ ?_)
      rw [numLE_zero, List.append_nil]
    · have e1 : (n : Int) % 256 = ((n % 256 : Nat) : Int) := by omega
      have e2 : (n : Int) / 256 = ((n / 256 : Nat) : Int) := by omega
      refine Ev.step (fun k => by rw [impl_NumText.l0, if_pos (by omega), if_pos (by omega), e1, e2]) ?_
      refine (ih (n / 256) _ (by rw [Nat.pow_succ] at h; omega) (by rw [List.length_append]; show x3.length + 1 + j ≤ 1000; omega)).eq ?_
      rw [numLE_pos (show 0 < n by omega), List.append_assoc]
      rfl
theorem impl_NumText_ev (n : Int) (h : n ≤ 9223372036854775807) : Ev (fun k => impl_NumText.f k n) (numText n) := by
  unfold impl_NumText.f
  by_cases h0 : 0 ≤ n
  · obtain ⟨m, rfl⟩ := Int.eq_ofNat_of_zero_le h0
    exact impl_NumText_l 8 m [] (by omega) (by show 0 + 8 ≤ 1000; omega)
  · refine Ev.step (fun k => by rw [impl_NumText.l0, if_neg (by omega)]) ?_
    refine Ev.bind (reverse_ev [] (by simp)) (Ev.some_ ?_)
    rw [numText_nonpos (by omega)]
    rfl

theorem impl_ReadNum_l (t : ByteArray) (ht : t.size ≤ 4) (n : Nat) : ∀ (i : Nat) (v : Int), i + n = t.size → 0 ≤ v → v < ((256 ^ i : Nat) : Int) →
    Ev (fun k => impl_ReadNum.l0 k t v (i : Int)) (if numText (beVal ((bytesOf t).drop i) v) = t ∧ beVal ((bytesOf t).drop i) v ≤ 1000000000 then (beVal ((bytesOf t).drop i) v, true) else (0, false)) := by
  have hl := bytesOf_length t
  induction n with
  | zero =>
    intro i v hi hv hv2
    have hv3 : 256 ^ i ≤ 256 ^ 4 := Nat.pow_le_pow_right (by decide) (by omega)
    refine Ev.step (fun k => by rw [impl_ReadNum.l0, if_neg (by omega)]) ?_
    rw [List.drop_eq_nil_of_le (by omega), beVal_nil]
    by_cases h2 : v > 1000000000
    · exact Ev.pos h2 (Ev.some_ (by rw [if_neg (by omega)]))
    · refine Ev.neg h2 (Ev.bind (impl_NumText_ev v (by omega)) ?_)
      by_cases h1 : numText v = t
      · exact Ev.pos (ba_eq.2 h1) (Ev.some_ (by rw [if_pos ⟨h1, by omega⟩]))
      · exact Ev.neg (fun h => h1 (ba_eq.1 h)) (Ev.some_ (by rw [if_neg (fun h => h1 h.1)]))
  | succ n ih =>
    intro i v hi hv hv2
    have hv3 : 256 ^ i ≤ 256 ^ 3 := Nat.pow_le_pow_right (by decide) (by omega)
    have hg := bt_range t (i : Int)
    refine Ev.step (fun k => by rw [impl_ReadNum.l0, if_pos (by omega), if_pos (by omega), w64 (n := v * 256) (by omega), w64 (n := bt t (i : Int)) (by omega), or64 8 (by omega) (by omega) (by omega) (by omega) (by omega) (by omega), wNat (by omega), Int.mul_comm v 256]) ?_
    rw [drop_cons (bytesOf t) i (by omega), beVal_cons]
    rw [bt_eq, rd_get (bytesOf t) i (by omega)] at hg ⊢
    exact ih (i + 1) _ (by omega) (by omega) (by rw [Nat.pow_succ]; omega)
theorem impl_ReadNum_ev (t : ByteArray) : Ev (fun k => impl_ReadNum.f k t) (readNum t) := by
  unfold impl_ReadNum.f readNum
  by_cases h : t.size > 4
  · rw [if_pos h]; exact Ev.pos (by omega) (Ev.now _)
  · rw [if_neg h]
    refine Ev.neg (by omega) ?_
    exact impl_ReadNum_l t (by omega) t.size 0 0 (by omega) (by omega) (by decide)

theorem FnExactReadNum : laws_FnExactReadNum.Pure := by
  intro a0 hs
  apply Ev.rounds
  unfold laws_FnExactReadNum.f
  by_cases h0 : (a0.size : Int) > 1048576
  · exact Ev.pos h0 (Ev.now _)
  refine Ev.neg h0 (Ev.bind (spec_ReadNum_ev a0) (Ev.bind (impl_ReadNum_ev a0) (Ev.pos rfl (Ev.neg (by simp) (Ev.now _)))))

end Go.Proofs.Ytblplkcaanmhgaa.Pure
