/- Plain lemmas on 64-bit numbers, texts and lists. No conditions. -/
import Derived.Test.YtlbapjocadmaeaaDoorEVb
import Derived.Laws.BitsLemmas
import Derived.Laws.Strings
namespace Go.Proofs.YtlbapjocadmaeaaDoor.EV
set_option linter.unusedVariables false
set_option linter.unusedSimpArgs false
open Go Go.RowKit
set_option linter.unusedVariables false
set_option linter.unusedSimpArgs false

def wrap64 (n : Int) : Int := (n + 9223372036854775808) % 18446744073709551616 - 9223372036854775808
theorem wr_64 (n : Int) : wr .i64 n = wrap64 n := by unfold wr wrap64; rw [IntKind.wrap_i64]
def rd (xs : List Int) (i : Int) : Int := xs.getD i.toNat 0
def bt (s : ByteArray) (i : Int) : Int := if h : i.toNat < s.size then ((s[i.toNat]'h).toNat : Int) else 0
def bts (s : ByteArray) : List Int := s.data.toList.map fun b => (b.toNat : Int)
def strOfNums (xs : List Int) : ByteArray := ⟨(xs.map fun n => UInt8.ofNat n.toNat).toArray⟩
def rdOf {α : Type} (d : α) (xs : List α) (i : Int) : α := xs.getD i.toNat d
theorem strOfNums_data (xs : List Int) : (strOfNums xs).data.toList = xs.map fun n => UInt8.ofNat n.toNat := rfl
theorem strOfNums_size (xs : List Int) : (strOfNums xs).size = xs.length := by
  show (strOfNums xs).data.size = _
  rw [← Array.length_toList, strOfNums_data, List.length_map]
theorem bts_length (s : ByteArray) : (bts s).length = s.size := by rw [bts, List.length_map, Array.length_toList]; rfl
theorem rd_bts (s : ByteArray) (i : Int) : rd (bts s) i = bt s i := by
  unfold rd bt bts
  rw [List.getD_eq_getElem?_getD, List.getElem?_map]
  by_cases h : i.toNat < s.size
  · rw [dif_pos h, List.getElem?_eq_getElem (by rw [Array.length_toList]; exact h)]
    rfl
  · rw [dif_neg h, List.getElem?_eq_none (by rw [Array.length_toList]; exact Nat.le_of_not_lt h)]
    rfl
theorem getS_bt (s : ByteArray) (i : Int) : getS s i = bt s i := by
  unfold getS bt
  by_cases h : i.toNat < s.size
  · rw [dif_pos h, getElem?_pos s i.toNat h]
  · rw [dif_neg h, getElem?_neg s i.toNat h]
/-! ### numbers -/
theorem w64 {n : Int} (h : -9223372036854775808 ≤ n ∧ n ≤ 9223372036854775807) : wrap64 n = n := by unfold wrap64; omega
theorem w64_range (n : Int) : -9223372036854775808 ≤ wrap64 n ∧ wrap64 n ≤ 9223372036854775807 := by unfold wrap64; omega
theorem wSucc {i : Int} {n : Nat} (h0 : 0 ≤ i) (h : i ≤ n) (hn : n ≤ 281474976710656) : wrap64 (i + 1) = i + 1 := w64 (by omega)
theorem wNat {i : Nat} (h : i ≤ 281474976710656) : wrap64 ((i : Int) + 1) = ((i + 1 : Nat) : Int) := by unfold wrap64; omega
theorem wraps_i64 (n : Int) (h₀ : 0 ≤ n) (h₁ : n < 2 ^ 63) : IntKind.i64.wrap n = n := by rw [IntKind.wrap_i64]; omega
theorem beq_dec (a b : Int) : (a == b) = decide (a = b) := by rw [Bool.eq_iff_iff]; simp
theorem tmod_pos {a b : Int} (h : 0 ≤ a) : Int.tmod a b = a % b := Int.tmod_eq_emod_of_nonneg h
theorem tdiv_pos {a b : Int} (h : 0 ≤ a) : Int.tdiv a b = a / b := Int.tdiv_eq_ediv_of_nonneg h

/-! ### texts -/
theorem ba_toList (s : ByteArray) : s.toList = s.data.toList := ByteArray.toList_eq s
theorem ba_ext {a b : ByteArray} (h : a.data.toList = b.data.toList) : a = b := by
  cases a; cases b; congr 1; exact Array.toList_inj.1 h
theorem ba_eq {a b : ByteArray} : a.toList = b.toList ↔ a = b := by
  rw [ba_toList, ba_toList]
  exact ⟨ba_ext, fun h => by rw [h]⟩
theorem bts_inj {a b : ByteArray} (h : bts a = bts b) : a = b := by
  apply ba_ext
  unfold bts at h
  have h' := congrArg (List.map (fun n : Int => UInt8.ofNat n.toNat)) h
  simpa [Function.comp_def] using h'
theorem bts_eq {a b : ByteArray} : bts a = bts b ↔ a = b := ⟨bts_inj, fun h => by rw [h]⟩
theorem bts_range {s : ByteArray} {x : Int} (h : x ∈ bts s) : 0 ≤ x ∧ x < 256 := by
  unfold bts at h
  obtain ⟨b, _, rfl⟩ := List.mem_map.1 h
  have := b.toNat_lt
  omega
theorem strOf_bts (s : ByteArray) : strOfNums (bts s) = s := by
  apply ba_ext
  rw [strOfNums_data]
  simp [bts, Function.comp_def]
theorem bts_strOf {xs : List Int} (h : ∀ x ∈ xs, 0 ≤ x ∧ x < 256) : bts (strOfNums xs) = xs := by
  unfold bts
  rw [strOfNums_data, List.map_map]
  conv => rhs; rw [← List.map_id xs]
  refine List.map_congr_left fun x hx => ?_
  have h' := h x hx
  have h2 : x.toNat % 256 = x.toNat := Nat.mod_eq_of_lt (by omega)
  simp [h2]
  omega
theorem strOf_inj {a b : List Int} (ha : ∀ x ∈ a, 0 ≤ x ∧ x < 256) (hb : ∀ x ∈ b, 0 ≤ x ∧ x < 256) (h : strOfNums a = strOfNums b) : a = b := by
  rw [← bts_strOf ha, ← bts_strOf hb, h]
theorem bts_append (a b : ByteArray) : bts (a ++ b) = bts a ++ bts b := by
  unfold bts
  rw [← List.map_append]
  congr 1
theorem strOf_append (a b : List Int) : strOfNums (a ++ b) = strOfNums a ++ strOfNums b := by
  apply ba_ext
  rw [strOfNums_data, ByteArray.data_append, Array.toList_append, strOfNums_data, strOfNums_data, List.map_append]
theorem strOf_nil : strOfNums [] = (⟨#[]⟩ : ByteArray) := rfl
theorem bts_nil : bts (⟨#[]⟩ : ByteArray) = [] := rfl
theorem bts_empty : bts ByteArray.empty = [] := rfl
theorem bts_extract (s : ByteArray) (i j : Nat) : bts (s.extract i j) = ((bts s).drop i).take (j - i) := by
  unfold bts
  rw [← List.map_drop, ← List.map_take]
  congr 1
  rw [ByteArray.data_extract]
  simp [Array.toList_extract, List.extract_eq_take_drop]
theorem bt_eq (s : ByteArray) (i : Int) : bt s i = rd (bts s) i := (rd_bts s i).symm
theorem size_eq (s : ByteArray) : s.size = (bts s).length := (bts_length s).symm
theorem toList_nil {s : ByteArray} : s.toList = ([] : List UInt8) ↔ s.size = 0 := by
  rw [ba_toList]
  show _ ↔ s.data.size = 0
  rw [← Array.length_toList, List.length_eq_zero_iff]
theorem ba_append_nil (a : ByteArray) : a ++ (⟨#[]⟩ : ByteArray) = a := by
  apply bts_inj; rw [bts_append, bts_nil, List.append_nil]
theorem ba_nil_append (a : ByteArray) : (⟨#[]⟩ : ByteArray) ++ a = a := by
  apply bts_inj; rw [bts_append, bts_nil, List.nil_append]
theorem ba_append_assoc (a b c : ByteArray) : a ++ b ++ c = a ++ (b ++ c) := by
  apply bts_inj; simp only [bts_append, List.append_assoc]
theorem size_append (a b : ByteArray) : (a ++ b).size = a.size + b.size := ByteArray.size_append
theorem size_zero {s : ByteArray} (h : s.size = 0) : s = (⟨#[]⟩ : ByteArray) := by
  apply bts_inj
  rw [bts_nil]
  apply List.eq_nil_of_length_eq_zero
  rw [bts_length, h]

/-! ### lists -/
theorem dec_cons {α : Type} [DecidableEq α] {a b : α} (h : a = b) (x y : List α) : decide (x = y) = decide (a :: x = b :: y) := by subst h; simp
theorem dec_ne {α : Type} [DecidableEq α] {a b : α} (h : ¬ a = b) (x y : List α) : false = decide (a :: x = b :: y) := by
  rw [eq_comm, decide_eq_false_iff_not]
  intro e
  injection e with e
  exact h e
theorem rd_nat (xs : List Int) (i : Nat) : rd xs (i : Int) = xs.getD i 0 := rfl
theorem rd_get (xs : List Int) (i : Nat) (h : i < xs.length) : rd xs (i : Int) = xs[i] := by
  unfold rd; simp [List.getD_eq_getElem?_getD, List.getElem?_eq_getElem h]
theorem getD_get {α : Type} (xs : List α) (i : Nat) (d : α) (h : i < xs.length) : xs.getD i d = xs[i] := by
  simp [List.getD_eq_getElem?_getD, List.getElem?_eq_getElem h]
theorem rd_mem {xs : List Int} {i : Int} (h0 : 0 ≤ i) (h : i < xs.length) : rd xs i ∈ xs := by
  obtain ⟨n, rfl⟩ := Int.eq_ofNat_of_zero_le h0
  rw [rd_get xs n (by omega)]
  exact List.getElem_mem _
theorem drop_cons {α : Type} (xs : List α) (i : Nat) (h : i < xs.length) : xs.drop i = xs[i] :: xs.drop (i + 1) := List.drop_eq_getElem_cons h

theorem rd_set {xs : List Int} {i : Nat} (v : Int) (j : Nat) (h : i < xs.length) : rd (xs.set i v) (j : Int) = if j = i then v else rd xs (j : Int) := by
  rw [rd_nat, rd_nat, List.getD_eq_getElem?_getD, List.getD_eq_getElem?_getD, List.getElem?_set]
  by_cases hj : j = i
  · subst hj; simp [h]
  · rw [if_neg (Ne.symm hj), if_neg hj]
theorem rd_ext {xs ys : List Int} (hl : xs.length = ys.length) (h : ∀ j : Nat, j < xs.length → rd xs (j : Int) = rd ys (j : Int)) : xs = ys := by
  refine List.ext_getElem hl fun i h1 h2 => ?_
  have := h i h1
  rwa [rd_get xs i h1, rd_get ys i h2] at this
theorem rd_reverse {xs : List Int} {j : Nat} (h : j < xs.length) : rd xs.reverse (j : Int) = rd xs ((xs.length - 1 - j : Nat) : Int) := by
  rw [rd_get _ j (by simpa using h), rd_get xs _ (by omega), List.getElem_reverse]

theorem rdOf_get {α : Type} (d : α) (xs : List α) (i : Nat) (h : i < xs.length) : rdOf d xs (i : Int) = xs[i] := by
  unfold rdOf; simp [List.getD_eq_getElem?_getD, List.getElem?_eq_getElem h]
theorem getD_get' {α : Type} (d : α) (xs : List α) (i : Nat) (h : i < xs.length) : xs.getD (i : Int).toNat d = xs[i] := by
  simp [List.getD_eq_getElem?_getD, List.getElem?_eq_getElem h]
/-- One round of a loop that fills a row with what comes of another's elements. -/
theorem fillm_step {α β : Type} (f : α → β) (xs : List α) (ys : List β) (i : Nat) (hi : i < xs.length) (hl : ys.length = xs.length) (h : ys.take i = (xs.map f).take i) :
    (ys.set i (f (xs[i]))).take (i + 1) = (xs.map f).take (i + 1) := by
  rw [List.take_add_one, List.take_set_of_le (Nat.le_refl _), h, List.take_add_one]
  congr 1
  rw [List.getElem?_set_self (by omega), List.getElem?_eq_getElem (by simpa using hi)]
  simp
theorem fillm_done {α β : Type} (f : α → β) (xs : List α) (ys : List β) (hl : ys.length = xs.length) (h : ys.take xs.length = (xs.map f).take xs.length) : ys = xs.map f := by
  rw [List.take_of_length_le (by omega), List.take_of_length_le (by simp)] at h
  exact h

end Go.Proofs.YtlbapjocadmaeaaDoor.EV
