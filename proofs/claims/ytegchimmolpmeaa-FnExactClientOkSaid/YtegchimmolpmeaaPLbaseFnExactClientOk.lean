/- Plain lemmas on rounds, 64-bit numbers, texts and lists, for the pure statements of this seat. No conditions. -/
import Derived.Test.YtegchimmolpmeaaVFnExactClientOk
import Derived.Laws.BitsLemmas
import Derived.Laws.Strings
namespace Go.Proofs.Ytegchimmolpmeaa.PL
open Go Go.RowKit Go.Proofs.YtegchimmolpmeaaW.PrintWords
set_option linter.unusedVariables false
set_option linter.unusedSimpArgs false

/-! ### numbers -/
theorem wf64 {n : Int} : (Lit.int .i64 n).wf = true ↔ (-9223372036854775808 ≤ n ∧ n ≤ 9223372036854775807) := by
  simp only [Lit.wf, IntKind.min, IntKind.max, IntKind.signed, IntKind.bits, Bool.and_eq_true, decide_eq_true_eq, if_true]
  omega
theorem w64 {n : Int} (h : -9223372036854775808 ≤ n ∧ n ≤ 9223372036854775807) : wrap64 n = n := by unfold wrap64; omega
theorem w64_range (n : Int) : -9223372036854775808 ≤ wrap64 n ∧ wrap64 n ≤ 9223372036854775807 := by unfold wrap64; omega
theorem wSucc {i : Int} {n : Nat} (h0 : 0 ≤ i) (h : i ≤ n) (hn : n ≤ 281474976710656) : wrap64 (i + 1) = i + 1 := w64 (by omega)
theorem wNat {i : Nat} (h : i ≤ 281474976710656) : wrap64 ((i : Int) + 1) = ((i + 1 : Nat) : Int) := by unfold wrap64; omega
theorem wraps_i64 (n : Int) (h₀ : 0 ≤ n) (h₁ : n < 2 ^ 63) : IntKind.i64.wrap n = n := by rw [IntKind.wrap_i64]; omega
theorem or64 (i : Nat) {x y : Int} (hx : 0 ≤ x) (hm : x % 2 ^ i = 0) (hx1 : x < 9223372036854775808) (hy : 0 ≤ y) (hy1 : y < 2 ^ i) (hy2 : y < 9223372036854775808) : bits .or .i64 x y = x + y :=
  bits_join .i64 63 (by decide) wraps_i64 i x y hx hm hx1 hy hy1 hy2
theorem beq_dec (a b : Int) : (a == b) = decide (a = b) := by rw [Bool.eq_iff_iff]; simp
theorem mx_eq (a b : Int) : mx a b = max a b := by unfold mx; omega
theorem mn_eq (a b : Int) : mn a b = min a b := by unfold mn; omega
theorem tmod_pos {a b : Int} (h : 0 ≤ a) : Int.tmod a b = a % b := Int.tmod_eq_emod_of_nonneg h
theorem tdiv_pos {a b : Int} (h : 0 ≤ a) : Int.tdiv a b = a / b := Int.tdiv_eq_ediv_of_nonneg h

/-! ### rounds -/
end Go.Proofs.Ytegchimmolpmeaa.PL
namespace Go.Proofs.YtegchimmolpmeaaW.PrintWords
theorem Ev.pos {α : Type} {c : Prop} [Decidable c] {g f : Nat → Option α} {r : α} (h : c) (k : Ev g r) : Ev (fun n => if c then g n else f n) r := by
  simpa only [if_pos h] using k
theorem Ev.neg {α : Type} {c : Prop} [Decidable c] {g f : Nat → Option α} {r : α} (h : ¬ c) (k : Ev f r) : Ev (fun n => if c then g n else f n) r := by
  simpa only [if_neg h] using k
theorem Ev.ite {α : Type} {c : Prop} [Decidable c] {g f : Nat → Option α} {r s : α} (h : c → Ev g r) (k : ¬ c → Ev f s) : Ev (fun n => if c then g n else f n) (if c then r else s) := by
  by_cases hc : c
  · rw [if_pos hc]; exact Ev.pos hc (h hc)
  · rw [if_neg hc]; exact Ev.neg hc (k hc)
theorem Ev.some_ {α : Type} {r s : α} (h : r = s) : Ev (fun _ => some r) s := h ▸ Ev.now r
theorem Ev.eq {α : Type} {g : Nat → Option α} {r s : α} (h : Ev g r) (e : r = s) : Ev g s := e ▸ h
theorem Ev.const {α : Type} {o : Option α} {r : α} (h : o = some r) : Ev (fun _ => o) r := ⟨0, fun _ _ => h⟩
theorem Ev.bindc {α β : Type} {o : Option α} {f : Nat → α → Option β} {a : α} {r : β} (h : o = some a) (k : Ev (fun n => f n a) r) : Ev (fun n => o.bind (f n)) r := by
  subst h; simpa only [Option.bind_some] using k
theorem Ev.uniq {α : Type} {g : Nat → Option α} {r s : α} (h : Ev g r) (k : Ev g s) : r = s := by
  obtain ⟨K, h⟩ := h
  obtain ⟨K', k⟩ := k
  have h1 := h (max K K') (by omega)
  have h2 := k (max K K') (by omega)
  rw [h1] at h2
  exact Option.some.inj h2
theorem Ev.succ {α : Type} {g : Nat → Option α} {r : α} (k : Ev g r) : Ev (fun n => g (n + 1)) r := by
  obtain ⟨K, k⟩ := k
  exact ⟨K, fun n hn => k (n + 1) (by omega)⟩
theorem Ev.unsucc {α : Type} {g : Nat → Option α} {r : α} (k : Ev (fun n => g (n + 1)) r) : Ev g r := Ev.step (fun _ => rfl) k

end Go.Proofs.YtegchimmolpmeaaW.PrintWords
namespace Go.Proofs.Ytegchimmolpmeaa.PL
open Go Go.RowKit Go.Proofs.YtegchimmolpmeaaW.PrintWords
/-! ### texts -/
theorem ba_toList (s : ByteArray) : s.toList = s.data.toList := ByteArray.toList_eq s
theorem ba_ext {a b : ByteArray} (h : a.data.toList = b.data.toList) : a = b := by
  cases a; cases b; congr 1; exact Array.toList_inj.1 h
theorem ba_eq {a b : ByteArray} : a.toList = b.toList ↔ a = b := by
  rw [ba_toList, ba_toList]
  exact ⟨ba_ext, fun h => by rw [h]⟩
theorem bytesOf_inj {a b : ByteArray} (h : bytesOf a = bytesOf b) : a = b := by
  apply ba_ext
  unfold bytesOf at h
  have h' := congrArg (List.map (fun n : Int => UInt8.ofNat n.toNat)) h
  simpa [Function.comp_def] using h'
theorem bytesOf_eq {a b : ByteArray} : bytesOf a = bytesOf b ↔ a = b := ⟨bytesOf_inj, fun h => by rw [h]⟩
theorem bytesOf_range {s : ByteArray} {x : Int} (h : x ∈ bytesOf s) : 0 ≤ x ∧ x < 256 := by
  unfold bytesOf at h
  obtain ⟨b, _, rfl⟩ := List.mem_map.1 h
  have := b.toNat_lt
  omega
theorem strOf_bytesOf (s : ByteArray) : strOfNums (bytesOf s) = s := by
  apply ba_ext
  rw [strOfNums_data]
  simp [bytesOf, Function.comp_def]
theorem bytesOf_strOf {xs : List Int} (h : ∀ x ∈ xs, 0 ≤ x ∧ x < 256) : bytesOf (strOfNums xs) = xs := by
  unfold bytesOf
  rw [strOfNums_data, List.map_map]
  conv => rhs; rw [← List.map_id xs]
  refine List.map_congr_left fun x hx => ?_
  have h' := h x hx
  have h2 : x.toNat % 256 = x.toNat := Nat.mod_eq_of_lt (by omega)
  simp [h2]
  omega
theorem strOf_inj {a b : List Int} (ha : ∀ x ∈ a, 0 ≤ x ∧ x < 256) (hb : ∀ x ∈ b, 0 ≤ x ∧ x < 256) (h : strOfNums a = strOfNums b) : a = b := by
  rw [← bytesOf_strOf ha, ← bytesOf_strOf hb, h]
theorem bytesOf_append (a b : ByteArray) : bytesOf (a ++ b) = bytesOf a ++ bytesOf b := by
  unfold bytesOf
  rw [← List.map_append]
  congr 1
theorem strOf_append (a b : List Int) : strOfNums (a ++ b) = strOfNums a ++ strOfNums b := by
  apply ba_ext
  rw [strOfNums_data, ByteArray.data_append, Array.toList_append, strOfNums_data, strOfNums_data, List.map_append]
theorem strOf_nil : strOfNums [] = (⟨#[]⟩ : ByteArray) := rfl
theorem bytesOf_nil : bytesOf (⟨#[]⟩ : ByteArray) = [] := rfl
theorem bytesOf_empty : bytesOf ByteArray.empty = [] := rfl
theorem bytesOf_extract (s : ByteArray) (i j : Nat) : bytesOf (s.extract i j) = ((bytesOf s).drop i).take (j - i) := by
  unfold bytesOf
  rw [← List.map_drop, ← List.map_take]
  congr 1
  rw [ByteArray.data_extract]
  simp [Array.toList_extract, List.extract_eq_take_drop]
theorem bt_eq (s : ByteArray) (i : Int) : bt s i = rd (bytesOf s) i := (rd_bytesOf s i).symm
theorem size_eq (s : ByteArray) : s.size = (bytesOf s).length := (bytesOf_length s).symm
theorem toList_nil {s : ByteArray} : s.toList = ([] : List UInt8) ↔ s.size = 0 := by
  rw [ba_toList]
  show _ ↔ s.data.size = 0
  rw [← Array.length_toList, List.length_eq_zero_iff]
theorem ba_append_nil (a : ByteArray) : a ++ (⟨#[]⟩ : ByteArray) = a := by
  apply bytesOf_inj; rw [bytesOf_append, bytesOf_nil, List.append_nil]
theorem ba_nil_append (a : ByteArray) : (⟨#[]⟩ : ByteArray) ++ a = a := by
  apply bytesOf_inj; rw [bytesOf_append, bytesOf_nil, List.nil_append]
theorem ba_append_assoc (a b c : ByteArray) : a ++ b ++ c = a ++ (b ++ c) := by
  apply bytesOf_inj; simp only [bytesOf_append, List.append_assoc]
theorem size_append (a b : ByteArray) : (a ++ b).size = a.size + b.size := ByteArray.size_append
theorem size_zero {s : ByteArray} (h : s.size = 0) : s = (⟨#[]⟩ : ByteArray) := by
  apply bytesOf_inj
  rw [bytesOf_nil]
  apply List.eq_nil_of_length_eq_zero
  rw [bytesOf_length, h]

/-! ### lists -/
theorem dec_cons {α : Type} [DecidableEq α] {a b : α} (h : a = b) (x y : List α) : decide (x = y) = decide (a :: x = b :: y) := by subst h; simp
theorem dec_ne {α : Type} [DecidableEq α] {a b : α} (h : ¬ a = b) (x y : List α) : false = decide (a :: x = b :: y) := by
  rw [eq_comm, decide_eq_false_iff_not]
  intro e
  injection e with e
  exact h e
theorem rd_nat (xs : List Int) (i : Nat) : rd xs (i : Int) = xs.getD i 0 := rfl
theorem rd_get (xs : List Int) (i : Nat) (h : i < xs.length) : rd xs (i : Int) = xs[i] := by
  unfold rd; simp [List.getD_eq_getElem?_getD, List.getElem?_eq_getElem h]
theorem getD_get {α : Type} (xs : List α) (i : Nat) (d : α) (h : i < xs.length) : xs.getD i d = xs[i] := by
  simp [List.getD_eq_getElem?_getD, List.getElem?_eq_getElem h]
theorem rd_mem {xs : List Int} {i : Int} (h0 : 0 ≤ i) (h : i < xs.length) : rd xs i ∈ xs := by
  obtain ⟨n, rfl⟩ := Int.eq_ofNat_of_zero_le h0
  rw [rd_get xs n (by omega)]
  exact List.getElem_mem _
theorem drop_cons {α : Type} (xs : List α) (i : Nat) (h : i < xs.length) : xs.drop i = xs[i] :: xs.drop (i + 1) := List.drop_eq_getElem_cons h

theorem rd_set {xs : List Int} {i : Nat} (v : Int) (j : Nat) (h : i < xs.length) : rd (xs.set i v) (j : Int) = if j = i then v else rd xs (j : Int) := by
  rw [rd_nat, rd_nat, List.getD_eq_getElem?_getD, List.getD_eq_getElem?_getD, List.getElem?_set]
  by_cases hj : j = i
  · subst hj; simp [h]
  · rw [if_neg (Ne.symm hj), if_neg hj]
theorem rd_ext {xs ys : List Int} (hl : xs.length = ys.length) (h : ∀ j : Nat, j < xs.length → rd xs (j : Int) = rd ys (j : Int)) : xs = ys := by
  refine List.ext_getElem hl fun i h1 h2 => ?_
  have := h i h1
  rwa [rd_get xs i h1, rd_get ys i h2] at this
theorem rd_reverse {xs : List Int} {j : Nat} (h : j < xs.length) : rd xs.reverse (j : Int) = rd xs ((xs.length - 1 - j : Nat) : Int) := by
  rw [rd_get _ j (by simpa using h), rd_get xs _ (by omega), List.getElem_reverse]

theorem rdOf_get {α : Type} (d : α) (xs : List α) (i : Nat) (h : i < xs.length) : rdOf d xs (i : Int) = xs[i] := by
  unfold rdOf; simp [List.getD_eq_getElem?_getD, List.getElem?_eq_getElem h]
theorem getD_get' {α : Type} (d : α) (xs : List α) (i : Nat) (h : i < xs.length) : xs.getD (i : Int).toNat d = xs[i] := by
  simp [List.getD_eq_getElem?_getD, List.getElem?_eq_getElem h]
/-- One round of a loop that fills a row with what comes of another's elements. -/
theorem fill_step {α β : Type} (f : α → β) (xs : List α) (ys : List β) (i : Nat) (hi : i < xs.length) (hl : ys.length = xs.length) (h : ys.take i = (xs.map f).take i) :
    (ys.set i (f (xs[i]))).take (i + 1) = (xs.map f).take (i + 1) := by
  rw [List.take_add_one, List.take_set_of_le (Nat.le_refl _), h, List.take_add_one]
  congr 1
  rw [List.getElem?_set_self (by omega), List.getElem?_eq_getElem (by simpa using hi)]
  simp
theorem fill_done {α β : Type} (f : α → β) (xs : List α) (ys : List β) (hl : ys.length = xs.length) (h : ys.take xs.length = (xs.map f).take xs.length) : ys = xs.map f := by
  rw [List.take_of_length_le (by omega), List.take_of_length_le (by simp)] at h
  exact h

end Go.Proofs.Ytegchimmolpmeaa.PL
