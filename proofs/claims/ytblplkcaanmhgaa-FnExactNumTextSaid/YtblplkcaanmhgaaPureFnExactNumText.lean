/- FnExactNumText, the pure part: both write the same bytes of every number. No conditions. -/
import Derived.Test.YtblplkcaanmhgaaPFnExactNumTextx1
import Derived.Test.YtblplkcaanmhgaaPLbase
namespace Go.Proofs.Ytblplkcaanmhgaa.Pure
open Go Go.RowKit Go.Proofs.Ytblplkcaanmhgaa.PFnExactNumText Go.Proofs.YtblplkcaanmhgaaW.PrintWords Go.Proofs.YtblplkcaanmhgaaW.PrintLast Go.Proofs.YtblplkcaanmhgaaW.PrintMore Go.Proofs.Ytblplkcaanmhgaa.PL
set_option linter.unusedVariables false
set_option linter.unusedSimpArgs false

def numLE (n : Nat) : List Int := if h : n = 0 then [] else ((n % 256 : Nat) : Int) :: numLE (n / 256)
theorem numLE_zero : numLE 0 = [] := by rw [numLE]; simp
theorem numLE_pos {n : Nat} (h : 0 < n) : numLE n = ((n % 256 : Nat) : Int) :: numLE (n / 256) := by rw [numLE]; simp [show n ≠ 0 by omega]
theorem numLE_range (n : Nat) : ∀ x ∈ numLE n, 0 ≤ x ∧ x < 256 := by
  induction n using Nat.strongRecOn with
  | _ n ih =>
    intro x hx
    by_cases h : n = 0
    · subst h; rw [numLE_zero] at hx; simp at hx
    · rw [numLE_pos (by omega)] at hx
      rcases List.mem_cons.1 hx with rfl | hx
      · omega
      · exact ih (n / 256) (by omega) x hx
theorem numLE_length (j : Nat) : ∀ n : Nat, n < 256 ^ j → (numLE n).length ≤ j := by
  induction j with
  | zero => 
    intro n h
    obtain rfl : n = 0 := by simpa using h
    rw [numLE_zero]; simp
  | succ j ih =>
    intro n h
    by_cases h0 : n = 0
    · subst h0; rw [numLE_zero]; simp
    · rw [numLE_pos (by omega), List.length_cons]
      have := ih (n / 256) (by rw [Nat.pow_succ] at h; omega)
      omega
def numText (n : Int) : ByteArray := strOfNums (numLE n.toNat).reverse
theorem numText_bytes (n : Int) : bytesOf (numText n) = (numLE n.toNat).reverse := bytesOf_strOf (fun x hx => numLE_range _ x (List.mem_reverse.1 hx))
theorem numText_size (n : Int) : (numText n).size = (numLE n.toNat).length := by rw [size_eq, numText_bytes, List.length_reverse]
theorem numText_size8 {n : Int} (h : n ≤ 9223372036854775807) : (numText n).size ≤ 8 := by
  rw [numText_size]
  exact numLE_length 8 _ (by omega)
theorem numText_size4 {n : Int} (h : n ≤ 4294967295) : (numText n).size ≤ 4 := by
  rw [numText_size]
  exact numLE_length 4 _ (by omega)
theorem numText_nonpos {n : Int} (h : n ≤ 0) : numText n = (⟨#[]⟩ : ByteArray) := by
  unfold numText
  rw [show n.toNat = 0 by omega, numLE_zero]
  rfl

theorem spec_NumText_l (j : Nat) : ∀ (n : Nat) (x3 : ByteArray), n < 256 ^ j → n ≤ 9223372036854775807 → x3.size + j ≤ 1000 →
    Ev (fun k => spec_NumText.l0 k (n : Int) x3) (strOfNums (numLE n).reverse ++ x3) := by
  induction j with
  | zero =>
    intro n x3 h hn hs
    obtain rfl : n = 0 := by simpa using h
    refine Ev.step (fun k => by rw [spec_NumText.l0, if_neg (by omega)]) (Ev.some_ ?_)
    rw [numLE_zero, List.reverse_nil, strOf_nil, ba_nil_append]
  | succ j ih =>
    intro n x3 h hn hs
    by_cases h0 : n = 0
    · subst h0
      refine Ev.step (fun k => by rw [spec_NumText.l0, if_neg (by omega)]) (Ev.some_ ?_)
      rw [numLE_zero, List.reverse_nil, strOf_nil, ba_nil_append]
    · have e1 : Int.tmod (n : Int) 256 % 256 = ((n % 256 : Nat) : Int) := by rw [tmod_pos (by omega)]; omega
      have e2 : wrap64 (Int.tdiv (n : Int) 256) = ((n / 256 : Nat) : Int) := by rw [tdiv_pos (by omega), w64 (by omega)]; omega
      have hsz : (strOfNums [((n % 256 : Nat) : Int)]).size = 1 := by rw [strOfNums_size]; rfl
      refine Ev.step (fun k => by rw [spec_NumText.l0, if_pos (by omega), e1, e2, Option.bind_some, if_pos (by rw [hsz]; omega)]) ?_
      refine (ih (n / 256) _ (by rw [Nat.pow_succ] at h; omega) (by omega) (by rw [size_append, hsz]; omega)).eq ?_
      rw [numLE_pos (show 0 < n by omega), List.reverse_cons, strOf_append, ba_append_assoc]
theorem spec_NumText_ev (n : Int) (h : n ≤ 9223372036854775807) : Ev (fun k => spec_NumText.f k n) (numText n) := by
  unfold spec_NumText.f
  by_cases h0 : 0 ≤ n
  · obtain ⟨m, rfl⟩ := Int.eq_ofNat_of_zero_le h0
    refine (spec_NumText_l 8 m _ (by omega) (by omega) (by show 0 + 8 ≤ 1000; omega)).eq ?_
    rw [ba_append_nil]
    rfl
  · refine Ev.step (fun k => by rw [spec_NumText.l0, if_neg (by omega)]) (Ev.some_ ?_)
    rw [numText_nonpos (by omega)]

theorem reverse_l (o : List Int) (hb : o.length ≤ 281474976710656) (m : Nat) : ∀ (i : Nat) (x : List Int), o.length - 2 * i ≤ m → 2 * i ≤ o.length + 1 → x.length = o.length →
    (∀ j : Nat, j < o.length → rd x (j : Int) = if j < i ∨ o.length ≤ j + i then rd o ((o.length - 1 - j : Nat) : Int) else rd o (j : Int)) →
    Ev (fun k => slices_Reverse_byte_byte.l0 k x (i : Int) ((o.length : Int) - 1 - i)) o.reverse := by
  induction m with
  | zero =>
    intro i x hm hi hl hx
    refine Ev.step (fun k => by rw [slices_Reverse_byte_byte.l0, if_neg (by omega)]) (Ev.some_ ?_)
    refine rd_ext (by simp [hl]) fun j hj => ?_
    rw [hx j (by omega), rd_reverse (by omega)]
    split
    · rfl
    · congr 1; omega
  | succ m ih =>
    intro i x hm hi hl hx
    by_cases hij : (i : Int) < (o.length : Int) - 1 - i
    · refine Ev.step (fun k => by rw [slices_Reverse_byte_byte.l0, if_pos hij, if_pos (by omega), if_pos (by omega), if_pos (by omega), if_pos (by omega)]) ?_
      rw [wNat (by omega), w64 (by omega)]
      have e : (o.length : Int) - 1 - i - 1 = (o.length : Int) - 1 - ((i + 1 : Nat) : Int) := by omega
      have e2 : ((o.length : Int) - 1 - i) = ((o.length - 1 - i : Nat) : Int) := by omega
      rw [e, e2]
      refine ih (i + 1) _ (by omega) (by omega) (by simp [hl]) ?_
      intro j hj
      rw [Int.toNat_natCast, Int.toNat_natCast, rd_set _ _ (by rw [List.length_set]; omega), rd_set _ _ (by omega), hx i (by omega), hx (o.length - 1 - i) (by omega), hx j hj]
      by_cases h1 : j = o.length - 1 - i
      · rw [if_pos h1, if_neg (by omega), if_pos (by omega)]
        congr 1; omega
      · rw [if_neg h1]
        by_cases h2 : j = i
        · rw [if_pos h2, if_neg (by omega), if_pos (by omega)]
          congr 1; omega
        · rw [if_neg h2]
          by_cases h3 : j < i ∨ o.length ≤ j + i
          · rw [if_pos h3, if_pos (by omega)]
          · rw [if_neg h3, if_neg (by omega)]
    · refine Ev.step (fun k => by rw [slices_Reverse_byte_byte.l0, if_neg hij]) (Ev.some_ ?_)
      refine rd_ext (by simp [hl]) fun j hj => ?_
      rw [hx j (by omega), rd_reverse (by omega)]
      split
      · rfl
      · congr 1; omega
theorem reverse_ev (o : List Int) (hb : o.length ≤ 281474976710656) : Ev (fun k => slices_Reverse_byte_byte.f k o) o.reverse := by
  unfold slices_Reverse_byte_byte.f
  rw [w64 (by omega)]
  have := reverse_l o hb o.length 0 o (by omega) (by omega) rfl (by intro j hj; rw [if_neg (by omega)])
  simpa using this

theorem impl_NumText_l (j : Nat) : ∀ (n : Nat) (x3 : List Int), n < 256 ^ j → x3.length + j ≤ 1000 →
    Ev (fun k => impl_NumText.l0 k (n : Int) x3) (strOfNums (x3 ++ numLE n).reverse) := by
  induction j with
  | zero =>
    intro n x3 h hs
    obtain rfl : n = 0 := by simpa using h
    refine Ev.step (fun k => by rw [impl_NumText.l0, if_neg (by omega)]) ?_
    refine Ev.bind (reverse_ev x3 (by omega)) (Ev.some_ ?_)
    rw [numLE_zero, List.append_nil]
  | succ j ih =>
    intro n x3 h hs
    by_cases h0 : n = 0
    · subst h0
      refine Ev.step (fun k => by rw [impl_NumText.l0, if_neg (by omega)]) ?_
      refine Ev.bind (reverse_ev x3 (by omega)) (Ev.some_ ?_)
      rw [numLE_zero, List.append_nil]
    · have e1 : (n : Int) % 256 = ((n % 256 : Nat) : Int) := by omega
      have e2 : (n : Int) / 256 = ((n / 256 : Nat) : Int) := by omega
      refine Ev.step (fun k => by rw [impl_NumText.l0, if_pos (by omega), if_pos (by omega), e1, e2]) ?_
      refine (ih (n / 256) _ (by rw [Nat.pow_succ] at h; omega) (by rw [List.length_append]; show x3.length + 1 + j ≤ 1000; omega)).eq ?_
      rw [numLE_pos (show 0 < n by omega), List.append_assoc]
      rfl
theorem impl_NumText_ev (n : Int) (h : n ≤ 9223372036854775807) : Ev (fun k => impl_NumText.f k n) (numText n) := by
  unfold impl_NumText.f
  by_cases h0 : 0 ≤ n
  · obtain ⟨m, rfl⟩ := Int.eq_ofNat_of_zero_le h0
    exact impl_NumText_l 8 m [] (by omega) (by show 0 + 8 ≤ 1000; omega)
  · refine Ev.step (fun k => by rw [impl_NumText.l0, if_neg (by omega)]) ?_
    refine Ev.bind (reverse_ev [] (by simp)) (Ev.some_ ?_)
    rw [numText_nonpos (by omega)]
    rfl

theorem FnExactNumText : laws_FnExactNumText.Pure := by
  intro a0 h
  have h' := wf64.1 h
  apply Ev.rounds
  unfold laws_FnExactNumText.f
  refine Ev.bind (spec_NumText_ev a0 h'.2) (Ev.bind (impl_NumText_ev a0 h'.2) (Ev.pos rfl (Ev.now _)))

end Go.Proofs.Ytblplkcaanmhgaa.Pure
