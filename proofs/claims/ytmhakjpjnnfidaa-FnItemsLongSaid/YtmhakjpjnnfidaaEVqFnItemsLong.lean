/- FnItemsLong, the plain part: for every argument the law answers true. No conditions. -/
import Derived.Test.YtmhakjpjnnfidaaEVcFnItemsLong
namespace Go.Proofs.Ytmhakjpjnnfidaa.FnItemsLong
open Go Go.Proofs Go.Proofs.Ytmhakjpjnnfidaa.EV
set_option linter.unusedVariables false
set_option linter.unusedSimpArgs false
set_option maxRecDepth 100000
def eI (n : Int) : List AV := [.int .i64 n]
theorem eI_len (n : Int) : (eI n).length = 1 := rfl
def eS (s : ByteArray) : List AV := [.str s]
theorem eS_len (s : ByteArray) : (eS s).length = 1 := rfl
theorem notB_to {b : Bool} (h : notB b = true) : b = false := by cases b <;> first | rfl | cases h
theorem notB_fo {b : Bool} (h : notB b = false) : b = true := by cases b <;> first | rfl | cases h
theorem Ev.an {a b : Bool} {X : Nat → Nat → Nat → Nat → Option (List AV)} (h : a = true → Ev X [.bool b]) : Ev (fun k m p q => br (notB a) (some [.bool false]) (X k m p q)) [.bool (a && b)] := by
  cases a with
  | true => exact Ev.f rfl (h rfl)
  | false => exact Ev.t rfl (Ev.now _)
theorem Ev.ap {a b : Bool} {X : Nat → Nat → Nat → Nat → Option (List AV)} (h : a = true → Ev X [.bool b]) : Ev (fun k m p q => br a (X k m p q) (some [.bool false])) [.bool (a && b)] := by
  cases a with
  | true => exact Ev.t rfl (h rfl)
  | false => exact Ev.f rfl (Ev.now _)
theorem Ev.na {a b : Bool} {X : Nat → Nat → Nat → Nat → Option (List AV)} (h : a = false → Ev X [.bool b]) : Ev (fun k m p q => br a (some [.bool false]) (X k m p q)) [.bool (!a && b)] := by
  cases a with
  | false => exact Ev.f rfl (h rfl)
  | true => exact Ev.t rfl (Ev.now _)


def eItem : Tree → List AV := Tree.cells
theorem eItem_len (x : Tree) : (eItem x).length = 3 := encItem.len x
theorem eItem_eq (x : Tree) : eItem x = [.bool x.b, .str x.t, .fs x.ks.length (x.ks.flatMap eItem)] := by
  cases x
  show Tree.cells _ = _
  rw [Tree.cells, Tree.cellsL_eq]
  rfl
theorem okItem_kids {x : Tree} (h : okItem x) : okStr x.t ∧ x.ks.length ≤ 9223372036854775807 ∧ ∀ y ∈ x.ks, okItem y := by
  cases x
  rw [okItem] at h
  exact ⟨h.1, h.2.1, okItems_mem _ h.2.2⟩
theorem ci0 {xs : List Tree} {i : Nat} (hi : i < xs.length) : cellAt (xs.flatMap eItem) (mulN (natI (i : Int)) 3) = .bool (xs[i]).b := by rw [cell_enc0 eItem_len hi (by decide), eItem_eq]; rfl
theorem ci1 {xs : List Tree} {i : Nat} (hi : i < xs.length) : cellAt (xs.flatMap eItem) (addN (mulN (natI (i : Int)) 3) 1) = .str (xs[i]).t := by rw [cell_enc eItem_len hi 1 (by decide), eItem_eq]; rfl
theorem ci2 {xs : List Tree} {i : Nat} (hi : i < xs.length) : cellAt (xs.flatMap eItem) (addN (mulN (natI (i : Int)) 3) 2) = .fs (xs[i]).ks.length ((xs[i]).ks.flatMap eItem) := by rw [cell_enc eItem_len hi 2 (by decide), eItem_eq]; rfl
/-- An item as an argument. -/
def aItem (x : Tree) : AV := .agg [.bool x.b, .str x.t, .fs x.ks.length (x.ks.flatMap eItem)]
theorem sm_kids {x : Tree} (h : x.wt ≤ 1048576) : x.ks.length ≤ 1048576 ∧ ∀ y ∈ x.ks, y.wt ≤ 1048576 := by
  rw [wt_eq] at h
  exact ⟨by omega, fun y hy => by have := wtL_mem _ y hy; omega⟩


def leafOk (x : Tree) : Bool := decide (x.t.size ≤ 600) && decide (x.ks.length = 0)
def fits : Nat → Tree → Bool
  | 0, x => !x.b && leafOk x
  | d + 1, x => if x.b then decide (x.t = ByteArray.mk (Array.mk [])) && (decide (x.ks.length ≤ 17) && x.ks.all (fits d)) else leafOk x
theorem fits_leaf {x : Tree} (h : x.b = false) (d : Nat) : fits d x = leafOk x := by cases d <;> simp [fits, h]
theorem fits_text {x : Tree} (h : x.b = true) (h2 : ¬ x.t = ByteArray.mk (Array.mk [])) (d : Nat) : fits d x = false := by cases d <;> simp [fits, h, h2]
theorem fits_wide {x : Tree} (h : x.b = true) (h2 : 17 < x.ks.length) (d : Nat) : fits d x = false := by cases d <;> simp [fits, h]; omega
theorem fits_list {x : Tree} (h : x.b = true) (h2 : x.t = ByteArray.mk (Array.mk [])) (h3 : ¬ 17 < x.ks.length) (d : Nat) : fits (d + 1) x = x.ks.all (fits d) := by
  have : x.ks.length ≤ 17 := by omega
  simp [fits, h, h2, this]


theorem impl_itemFits_l (v : Int) (xs : List Tree) (hl : xs.length ≤ 17) (f : Tree → Bool) (hs : ∀ y ∈ xs, Does cp n_impl_itemFits [aItem y, .int .i64 (wr .i64 (subI v 1))] [.bool (f y)]) (d : Nat) : ∀ i : Nat, i + d = xs.length →
    Ev (fun k m _ _ => L_impl_itemFits_0 k m v xs.length (xs.flatMap eItem) (lenI xs.length) (i : Int)) [.bool ((xs.drop i).all f)] := by
  induction d with
  | zero =>
    intro i hi
    refine Ev.step (fun k m _ _ => L_impl_itemFits_0_s k m _ _ _ _ _) (Ev.f (ltI_f (by rw [lenI_c]; omega)) (Ev.some_ ?_))
    rw [List.drop_eq_nil_of_le (by omega)]; rfl
  | succ d ih =>
    intro i hi
    have hi' : i < xs.length := by omega
    have hm := List.getElem_mem hi'
    refine Ev.step (fun k m _ _ => L_impl_itemFits_0_s k m _ _ _ _ _) (Ev.t (ltI_t (by rw [lenI_c]; omega)) (Ev.g (inR_n (by omega)) ?_))
    simp only [ci0 hi', ci1 hi', ci2 hi', hdV_c, tlV_c, parts1_a, asInt_i, asBool_b, asStr_s, asLen_f, asCells_f, tupL_t, refCells_r, ownLen_o]
    refine Ev.g rfl (Ev.c (hs _ hm) ?_)
    rw [List.drop_eq_getElem_cons hi', List.all_cons]
    simp only [hdV_c, tlV_c, parts1_a, asInt_i, asBool_b, asStr_s, asLen_f, asCells_f, tupL_t, refCells_r, ownLen_o, wrS (show i < 9223372036854775807 by omega)]
    exact Ev.an fun _ => ih (i + 1) (by omega)
theorem impl_leaf {x : Tree} (h' : x.b = false) (d : Nat) : Ev (fun k m p q => br (leI (lenI (lenS x.t)) 600) (Option.some [AV.bool (eqI (lenI x.ks.length) 0)]) (Option.some [AV.bool Bool.false])) [.bool (fits d x)] := by
  refine Ev.b (fun h2 => Ev.some_ ?_) (fun h2 => Ev.some_ ?_)
  · have := leI_to h2; rw [lenI_c, lenS_d] at this
    rw [fits_leaf h', leafOk, eqI_d, lenI_c]
    have h3 : x.t.size ≤ 600 := by omega
    simp only [h3, decide_true, Bool.true_and]
    congr 3
    refine propext ?_
    omega
  · have := leI_fo h2; rw [lenI_c, lenS_d] at this
    rw [fits_leaf h', leafOk]
    have h3 : ¬ x.t.size ≤ 600 := by omega
    simp [h3]
theorem impl_itemFits_ev (d : Nat) : ∀ (x : Tree), d ≤ 4 → Does cp n_impl_itemFits [aItem x, .int .i64 (d : Int)] [.bool (fits d x)] := by
  induction d with
  | zero =>
    intro x hd
    refine Ev.fn (fun k => F_impl_itemFits k _ _ _ _ _) ?_
    by_cases h : x.b = true
    · refine Ev.f (by rw [h]; rfl) (Ev.b (fun h2 => Ev.some_ ?_) (fun h2 => Ev.b (fun h3 => Ev.some_ ?_) (fun h3 => Ev.t (eqI_t rfl) (Ev.some_ ?_))))
      all_goals simp [fits, h]
    · have h' : x.b = false := by simpa using h
      exact Ev.t (by rw [h']; rfl) (impl_leaf h' _)
  | succ d ih =>
    intro x hd
    refine Ev.fn (fun k => F_impl_itemFits k _ _ _ _ _) ?_
    by_cases h : x.b = true
    · refine Ev.f (by rw [h]; rfl) (Ev.b (fun h2 => Ev.some_ ?_) (fun h2 => Ev.b (fun h3 => Ev.some_ ?_) (fun h3 => ?_)))
      · have := notB_to h2; rw [eqS_d] at this
        rw [fits_text h (of_decide_eq_false this)]
      · have := ltI_to h3; rw [lenI_c] at this
        rw [fits_wide h (by omega)]
      · have h2' := notB_fo h2; rw [eqS_d] at h2'
        have h3' := ltI_fo h3; rw [lenI_c] at h3'
        refine Ev.f (eqI_f (by push_cast; omega)) ?_
        rw [fits_list h (of_decide_eq_true h2') (by omega)]
        have e : wr .i64 (subI ((d + 1 : Nat) : Int) 1) = (d : Int) := by rw [subI_d, wr64 (by push_cast; omega)]; push_cast; omega
        exact (impl_itemFits_l _ x.ks (by omega) (fits d) (fun y _ => by rw [e]; exact ih y (by omega)) x.ks.length 0 (by omega)).l0
    · have h' : x.b = false := by simpa using h
      exact Ev.t (by rw [h']; rfl) (impl_leaf h' _)
theorem impl_ItemOk_ev (x : Tree) : Does cp n_impl_ItemOk [aItem x] [.bool (fits 4 x)] := Ev.fn (fun k => F_impl_ItemOk k _ _ _ _) (Ev.c (impl_itemFits_ev 4 x (by omega)) (Ev.now _))


def eB (n : Int) : List AV := [.int .u8 n]
theorem eB_len (n : Int) : (eB n).length = 1 := rfl
theorem ei {xs : List Int} {i : Nat} (hi : i < xs.length) : cellAt (xs.flatMap eI) (mulN (natI (i : Int)) 1) = .int .i64 xs[i] := cell_enc0 eI_len hi (by decide)
theorem ebi {xs : List Int} {i : Nat} (hi : i < xs.length) : cellAt (xs.flatMap eB) (mulN (natI (i : Int)) 1) = .int .u8 xs[i] := cell_enc0 eB_len hi (by decide)
theorem catE (xs : List Int) (n : Int) : catC (cutC (xs.flatMap eI) 0 (mulN xs.length 1)) (cutC [.int .i64 n] 0 1) = (xs ++ [n]).flatMap eI := by rw [cut_all eI_len, List.flatMap_append]; rfl
theorem catB (xs : List Int) (n : Int) : catC (cutC (xs.flatMap eB) 0 (mulN xs.length 1)) (cutC [.int .u8 n] 0 1) = (xs ++ [n]).flatMap eB := by rw [cut_all eB_len, List.flatMap_append]; rfl
theorem fitN_small {n b : Nat} (h : n ≤ 1048576) (hb : b ≤ 4096) : Bool.and (fitN n b) Bool.true = true := by
  have : n * b ≤ 1048576 * 4096 := Nat.mul_le_mul h hb
  rw [Bool.and_true]
  exact Nat.ble_eq_true_of_le (by omega)
theorem addN1 (xs : List Int) (n : Int) : addN xs.length 1 = (xs ++ [n]).length := by rw [List.length_append]; rfl
theorem isBytes_e (xs : List Int) : isBytes (xs.flatMap eB) = true := by
  unfold isBytes
  rw [List.all_eq_true]
  intro v hv
  obtain ⟨n, _, hn⟩ := List.mem_flatMap.1 hv
  rw [eB, List.mem_singleton] at hn
  subst hn; rfl
theorem strOf_e (xs : List Int) : strOf (xs.flatMap eB) = EV.strOfNums xs := by
  unfold strOf EV.strOfNums
  congr 2
  induction xs with
  | nil => rfl
  | cons x r ih => rw [List.flatMap_cons, List.map_append, ih]; rfl
theorem and_range (a b : Int) (n : Nat) (hb : (BitVec.ofInt 64 b).toNat = n) (hn : n < 4294967296) : 0 ≤ bitsOp .and .i64 a b ∧ bitsOp .and .i64 a b ≤ n := by
  have h : bitsOp .and .i64 a b = wr .i64 (((BitVec.ofInt 64 a) &&& (BitVec.ofInt 64 b)).toNat : Int) := rfl
  have h2 : ((BitVec.ofInt 64 a) &&& (BitVec.ofInt 64 b)).toNat ≤ n := by rw [BitVec.toNat_and, hb]; exact Nat.and_le_right
  rw [h, wr64 (by omega)]
  omega
theorem and255 (a : Int) : 0 ≤ bitsOp .and .i64 a 255 ∧ bitsOp .and .i64 a 255 < 256 := by
  have := and_range a 255 255 (by decide) (by decide)
  omega
theorem getS_n' {t : ByteArray} {i : Nat} (hi : i < t.size) : getS t (i : Int) = (bts t)[i]'(by rw [bts_length]; exact hi) := by
  rw [getS_bt, bt_eq, rd_get _ _ (by rw [bts_length]; exact hi)]


def numLE (n : Nat) : List Int := if h : n = 0 then [] else ((n % 256 : Nat) : Int) :: numLE (n / 256)
theorem numLE_zero : numLE 0 = [] := by rw [numLE]; simp
theorem numLE_pos {n : Nat} (h : 0 < n) : numLE n = ((n % 256 : Nat) : Int) :: numLE (n / 256) := by rw [numLE]; simp [show n ≠ 0 by omega]
theorem numLE_range (n : Nat) : ∀ x ∈ numLE n, 0 ≤ x ∧ x < 256 := by
  induction n using Nat.strongRecOn with
  | _ n ih =>
    intro x hx
    by_cases h : n = 0
    · subst h; rw [numLE_zero] at hx; simp at hx
    · rw [numLE_pos (by omega)] at hx
      rcases List.mem_cons.1 hx with rfl | hx
      · omega
      · exact ih (n / 256) (by omega) x hx
theorem numLE_length (j : Nat) : ∀ n : Nat, n < 256 ^ j → (numLE n).length ≤ j := by
  induction j with
  | zero => 
    intro n h
    obtain rfl : n = 0 := by simpa using h
    rw [numLE_zero]; simp
  | succ j ih =>
    intro n h
    by_cases h0 : n = 0
    · subst h0; rw [numLE_zero]; simp
    · rw [numLE_pos (by omega), List.length_cons]
      have := ih (n / 256) (by rw [Nat.pow_succ] at h; omega)
      omega
def numText (n : Int) : ByteArray := EV.strOfNums (numLE n.toNat).reverse
theorem numText_bytes (n : Int) : bts (numText n) = (numLE n.toNat).reverse := bts_strOf (fun x hx => numLE_range _ x (List.mem_reverse.1 hx))
theorem numText_size (n : Int) : (numText n).size = (numLE n.toNat).length := by rw [size_eq, numText_bytes, List.length_reverse]
theorem numText_size8 {n : Int} (h : n ≤ 9223372036854775807) : (numText n).size ≤ 8 := by
  rw [numText_size]
  exact numLE_length 8 _ (by omega)
theorem numText_size4 {n : Int} (h : n ≤ 4294967295) : (numText n).size ≤ 4 := by
  rw [numText_size]
  exact numLE_length 4 _ (by omega)
theorem numText_nonpos {n : Int} (h : n ≤ 0) : numText n = (⟨#[]⟩ : ByteArray) := by
  unfold numText
  rw [show n.toNat = 0 by omega, numLE_zero]
  rfl


theorem wr_u8' (n : Int) : wr .u8 n = n % 256 := by unfold wr; rw [IntKind.wrap_u8]
theorem shr8' (a : Int) : shrI .i64 a 8 = a / 256 := by
  show a.fdiv (2 ^ 8) = a / 256
  rw [Int.fdiv_eq_ediv_of_nonneg _ (by omega)]
  rfl
theorem setB {x : List Int} {i : Nat} (v : Int) (h : i < x.length) : setMany (x.flatMap eB) (mulN (natI (i : Int)) 1) [.int .u8 v] = (x.set i v).flatMap eB := by
  rw [natI_c, mulN_d]
  exact set_encs eB_len x i v h
theorem ebr {x : List Int} {i : Nat} (h : i < x.length) : cellAt (x.flatMap eB) (mulN (natI (i : Int)) 1) = .int .u8 (rd x (i : Int)) := by rw [ebi h, rd_get x i h]
theorem Reverse_l (o : List Int) (hb : o.length ≤ 1048576) (m : Nat) : ∀ (i : Nat) (x : List Int), o.length - 2 * i ≤ m → 2 * i ≤ o.length + 1 → x.length = o.length →
    (∀ j : Nat, j < o.length → rd x (j : Int) = if j < i ∨ o.length ≤ j + i then rd o ((o.length - 1 - j : Nat) : Int) else rd o (j : Int)) →
    Ev (fun k m _ _ => L_slices_Reverse_byte_a_0 k m o.length ((o.length : Int) - 1 - i) (i : Int) (x.flatMap eB)) [.tup [.ref true 5 (o.reverse.flatMap eB)]] := by
  have fin : ∀ (i : Nat) (x : List Int), o.length - 2 * i ≤ 1 → 2 * i ≤ o.length + 1 → x.length = o.length →
      (∀ j : Nat, j < o.length → rd x (j : Int) = if j < i ∨ o.length ≤ j + i then rd o ((o.length - 1 - j : Nat) : Int) else rd o (j : Int)) → x = o.reverse := by
    intro i x hm hi hl hx
    refine rd_ext (by simp [hl]) fun j hj => ?_
    rw [hx j (by omega), rd_reverse (by omega)]
    split
    · rfl
    · congr 1; omega
  induction m with
  | zero =>
    intro i x hm hi hl hx
    refine Ev.step (fun k m _ _ => L_slices_Reverse_byte_a_0_s k m _ _ _ _) (Ev.f (ltI_f (by omega)) (Ev.some_ ?_))
    rw [fin i x (by omega) hi hl hx]
  | succ m ih =>
    intro i x hm hi hl hx
    by_cases hij : (i : Int) < (o.length : Int) - 1 - i
    · have e2 : ((o.length : Int) - 1 - i) = ((o.length - 1 - i : Nat) : Int) := by omega
      have w1 : wr .i64 (addI (i : Int) 1) = ((i + 1 : Nat) : Int) := wrS (by omega)
      have w2 : wr .i64 (subI ((o.length - 1 - i : Nat) : Int) 1) = (o.length : Int) - 1 - ((i + 1 : Nat) : Int) := by rw [subI_d, wr64 (by omega)]; omega
      have hlen : (x.flatMap eB).length = o.length := by rw [encs_len eB_len, hl, Nat.mul_one]
      refine Ev.step (fun k m _ _ => L_slices_Reverse_byte_a_0_s k m _ _ _ _) (Ev.t (ltI_t hij) ?_)
      rw [e2, w1, w2]
      simp only [addN_d, Nat.zero_add]
      rw [ebr (x := x) (i := o.length - 1 - i) (by omega), ebr (x := x) (i := i) (by omega)]
      simp only [hdV_c, tlV_c, parts1_a, asInt_i, asBool_b, asStr_s, asLen_f, asCells_f, tupL_t, refCells_r, ownLen_o]
      rw [setB _ (by omega), setB _ (by rw [List.length_set]; omega)]
      refine Ev.g (inR_n (by omega)) (Ev.g rfl (Ev.g (inR_n (by omega)) (Ev.g rfl (Ev.g (inR_n (by omega)) (Ev.g ?_ (Ev.g (inR_n (by omega)) (Ev.g ?_ ?_)))))))
      · rw [hlen]; exact Nat.ble_eq_true_of_le (by rw [natI_c, mulN_d]; omega)
      · rw [encs_len eB_len, List.length_set, hl]; exact Nat.ble_eq_true_of_le (by rw [natI_c, mulN_d]; omega)
      refine ih (i + 1) _ (by omega) (by omega) (by simp [hl]) ?_
      intro j hj
      rw [rd_set _ _ (by rw [List.length_set]; omega), rd_set _ _ (by omega), hx i (by omega), hx (o.length - 1 - i) (by omega), hx j hj]
      by_cases h1 : j = o.length - 1 - i
      · rw [if_pos h1, if_neg (by omega), if_pos (by omega)]
        congr 1; omega
      · rw [if_neg h1]
        by_cases h2 : j = i
        · rw [if_pos h2, if_neg (by omega), if_pos (by omega)]
          congr 1; omega
        · rw [if_neg h2]
          by_cases h3 : j < i ∨ o.length ≤ j + i
          · rw [if_pos h3, if_pos (by omega)]
          · rw [if_neg h3, if_neg (by omega)]
    · refine Ev.step (fun k m _ _ => L_slices_Reverse_byte_a_0_s k m _ _ _ _) (Ev.f (ltI_f hij) (Ev.some_ ?_))
      rw [fin i x (by omega) hi hl hx]
theorem Reverse_ev (o : List Int) (hb : o.length ≤ 1048576) : Does cp n_slices_Reverse_byte [.tup [.ref true 5 (o.flatMap eB)], .own 0 0 o.length] [.tup [.ref true 5 (o.reverse.flatMap eB)]] := by
  have := (Reverse_l o hb o.length 0 o (by omega) (by omega) rfl (by intro j hj; rw [if_neg (by omega)])).l0
  refine Ev.fn (fun k => F_slices_Reverse_byte_a k _ _) ?_
  have e : wr .i64 (subI (lenI o.length) 1) = (o.length : Int) - 1 - ((0 : Nat) : Int) := by rw [subI_d, lenI_c, wr64 (by omega)]; omega
  rw [e]
  exact this
theorem impl_NumText_l (j : Nat) : ∀ (n : Nat) (xs : List Int), n < 256 ^ j → xs.length + j ≤ 1000 →
    Ev (fun k m _ _ => L_impl_NumText_0 k m (n : Int) xs.length (xs.flatMap eB)) [.str (EV.strOfNums (xs ++ numLE n).reverse)] := by
  have fin : ∀ xs : List Int, xs.length ≤ 1000 → Ev (fun k m _ _ => L_impl_NumText_0 k m ((0 : Nat) : Int) xs.length (xs.flatMap eB)) [.str (EV.strOfNums (xs ++ numLE 0).reverse)] := by
    intro xs hs
    have hc : cutC (xs.reverse.flatMap eB) 0 (mulN xs.length 1) = xs.reverse.flatMap eB := by
      have := cut_all eB_len xs.reverse
      rw [List.length_reverse] at this
      exact this
    refine Ev.step (fun k m _ _ => L_impl_NumText_0_s k m _ _ _) (Ev.f (ltI_f (by omega)) (Ev.c (Reverse_ev xs (by omega)) (Ev.g rfl ?_)))
    simp only [hdV_c, tlV_c, parts1_a, asInt_i, asBool_b, asStr_s, asLen_f, asCells_f, tupL_t, refCells_r, ownLen_o, hc]
    refine Ev.g (isBytes_e _) (Ev.some_ ?_)
    rw [strOf_e, numLE_zero, List.append_nil]
  induction j with
  | zero =>
    intro n xs h hs
    obtain rfl : n = 0 := by simpa using h
    exact fin xs (by omega)
  | succ j ih =>
    intro n xs h hs
    by_cases h0 : n = 0
    · subst h0; exact fin xs (by omega)
    · have e1 : wr .u8 (n : Int) = ((n % 256 : Nat) : Int) := by rw [wr_u8']; omega
      have e2 : shrI .i64 (n : Int) 8 = ((n / 256 : Nat) : Int) := by rw [shr8']; omega
      refine Ev.step (fun k m _ _ => L_impl_NumText_0_s k m _ _ _) (Ev.t (ltI_t (by omega)) (Ev.g (fitN_small (by rw [addN_d]; omega) (by decide)) ?_))
      rw [e1, e2, catB, addN1 xs ((n % 256 : Nat) : Int)]
      refine (ih (n / 256) _ (by rw [Nat.pow_succ] at h; omega) (by rw [List.length_append]; show xs.length + 1 + j ≤ 1000; omega)).to ?_
      rw [numLE_pos (show 0 < n by omega), List.append_assoc]
      rfl
theorem impl_NumText_ev (n : Nat) (h : n ≤ 9223372036854775807) : Does cp n_impl_NumText [.int .i64 (n : Int)] [.str (numText (n : Int))] :=
  Ev.fn (fun k => F_impl_NumText k _) (impl_NumText_l 8 n [] (by omega) (by show 0 + 8 ≤ 1000; omega)).l0
theorem one_byte (v : Int) : strOf (cutC [AV.int .u8 v] 0 1) = EV.strOfNums [v] := rfl
/-- What stands ahead of so many bytes. -/
def headT (base : Int) (n : Nat) : ByteArray :=
  if n ≤ 55 then EV.strOfNums [wr .u8 (wr .i64 (addI base (n : Int)))] else EV.strOfNums [wr .u8 (wr .i64 (addI (wr .i64 (addI base 55)) (lenI (lenS (numText (n : Int))))))] ++ numText (n : Int)
theorem headT_size {base : Int} {n : Nat} (h : n ≤ 9223372036854775807) : 1 ≤ (headT base n).size ∧ (headT base n).size ≤ 9 := by
  unfold headT
  have := numText_size8 (n := (n : Int)) (by omega)
  split
  · rw [EV.strOfNums_size]; exact ⟨Nat.le_refl _, by show 1 ≤ 9; omega⟩
  · rw [size_append, EV.strOfNums_size, List.length_singleton]; omega
theorem impl_lengthText_ev (base : Int) (n : Nat) (h : n ≤ 9223372036854775807) : Does cp n_impl_lengthText [.int .i64 base, .int .i64 (n : Int)] [.str (headT base n)] := by
  refine Ev.fn (fun k => F_impl_lengthText k _ _) ?_
  have := numText_size8 (n := (n : Int)) (by omega)
  unfold headT
  by_cases h1 : n ≤ 55
  · rw [if_pos h1]; exact Ev.t (leI_t (by omega)) (Ev.g rfl (Ev.now _))
  · rw [if_neg h1]
    refine Ev.f (leI_f (by omega)) (Ev.c (impl_NumText_ev n h) ?_)
    simp only [hdV_c, tlV_c, parts1_a, asInt_i, asBool_b, asStr_s, asLen_f, asCells_f, tupL_t, refCells_r, ownLen_o, one_byte]
    exact Ev.g rfl (Ev.g (fitS_small (by rw [EV.strOfNums_size, List.length_singleton]; omega)) (Ev.now _))


theorem bytesOf_e (s : ByteArray) : bytesOf s = (bts s).flatMap eB := by
  unfold bytesOf bts
  rw [List.flatMap_def, List.map_map]
  induction s.data.toList with
  | nil => rfl
  | cons b r ih => rw [List.map_cons, List.map_cons, List.flatten_cons, ← ih]; rfl
/-- A builder that has been written to, and its bytes. -/
def bldB (l : List Int) : AV := .tup [.ref false 152 [.ptr 0 0, .own 1 0 l.length], .ref true 5 (l.flatMap eB)]
def bldN (l : List Int) : AV := .tup [.ref false 152 [.ptr 0 0, .own 2 0 l.length], .any, .ref true 5 (l.flatMap eB)]
theorem Builder_WriteString_a_ev (s : ByteArray) (hs : s.size ≤ 1048576000) : Does cp n_strings_Builder_WriteString [.tup [.ref false 152 [.nilp, .nils]], .ptr 0 0, .str s] [bldB (bts s), .int .i64 (s.size : Int), .any] := by
  refine Ev.fn (fun k => F_strings_Builder_WriteString_a k s) (Ev.c (Ev.fn (fun k => F_strings_Builder_copyCheck_a k) (Ev.now _)) (Ev.g rfl (Ev.g ?_ (Ev.some_ ?_))))
  · unfold fitN lenS
    rw [Nat.mul_one]
    rw [Nat.ble_eq_true_of_le (by omega)]; rfl
  · unfold bldB
    rw [bytesOf_e, bts_length]; rfl
theorem Builder_copyCheck_b_ev (l : List Int) : Does cp n_strings_Builder_copyCheck [bldB l, .ptr 0 0] [bldB l] := Ev.fn (fun k => F_strings_Builder_copyCheck_b k _ _) (Ev.now _)
theorem Builder_WriteString_b_ev (l : List Int) (s : ByteArray) (hl : l.length + s.size ≤ 1048576000) : Does cp n_strings_Builder_WriteString [bldB l, .ptr 0 0, .str s] [bldN (l ++ bts s), .int .i64 (s.size : Int), .any] := by
  refine Ev.fn (fun k => F_strings_Builder_WriteString_b k _ _ s) (Ev.c (Builder_copyCheck_b_ev l) (Ev.g rfl ?_))
  simp only [bldB, hdV_c, tlV_c, parts1_a, asInt_i, asBool_b, asStr_s, asLen_f, asCells_f, tupL_t, refCells_r, ownLen_o]
  refine Ev.g ?_ (Ev.some_ ?_)
  · unfold fitN lenS addN
    rw [Nat.mul_one]
    rw [Nat.ble_eq_true_of_le (by omega)]; rfl
  · unfold bldN
    rw [bytesOf_e, cut_all eB_len, cat_encs, List.length_append, bts_length]; rfl


theorem Builder_String_a_ev (l : List Int) (h0 : l ≠ []) (hl : l.length ≤ 1048576000) : Does cp n_strings_Builder_String [bldB l, .ptr 0 0] [.tup [.ref false 152 [.ptr 0 0, .own 1 0 l.length], .any], .str (EV.strOfNums l)] := by
  have hc : cutC (l.flatMap eB) 0 l.length = l.flatMap eB := by
    have := cut_all eB_len l
    rw [mulN_d, Nat.mul_one] at this
    exact this
  have hp : 0 < l.length := List.length_pos_iff.2 h0
  have hle : (l.flatMap eB).length = l.length := by rw [encs_len eB_len, Nat.mul_one]
  refine Ev.fn (fun k => F_strings_Builder_String_b k _ _) ?_
  simp only [lenI_c, natI_c, addN_d, Nat.zero_add, hc, hle]
  refine Ev.g ?_ (Ev.g ?_ (Ev.some_ ?_))
  · cases hb : Nat.beq l.length 0 with
    | true => have := Nat.eq_of_beq_eq_true hb; omega
    | false => rfl
  · rw [ltI_t (by omega), leI_t (by omega), Nat.ble_eq_true_of_le (Nat.le_refl _), isBytes_e]; rfl
  · rw [strOf_e]


mutual
/-- The text of an item. -/
def itxt : Tree → ByteArray
  | .mk l t ks => if l = true then headT 192 (itxtL ks).size ++ itxtL ks else if t.size = 1 ∧ getS t 0 < 128 then t else headT 128 t.size ++ t
def itxtL : List Tree → ByteArray
  | [] => (⟨#[]⟩ : ByteArray)
  | x :: xs => itxt x ++ itxtL xs
end
theorem itxt_eq (x : Tree) : itxt x = if x.b = true then headT 192 (itxtL x.ks).size ++ itxtL x.ks else if x.t.size = 1 ∧ getS x.t 0 < 128 then x.t else headT 128 x.t.size ++ x.t := by cases x; rw [itxt]; rfl
theorem itxtL_nil : itxtL [] = (⟨#[]⟩ : ByteArray) := by rw [itxtL]
theorem itxtL_cons (x : Tree) (xs : List Tree) : itxtL (x :: xs) = itxt x ++ itxtL xs := by rw [itxtL]
theorem itxtL_append : ∀ (xs ys : List Tree), itxtL (xs ++ ys) = itxtL xs ++ itxtL ys
  | [], ys => by rw [List.nil_append, itxtL_nil, ba_nil_append]
  | x :: xs, ys => by rw [List.cons_append, itxtL_cons, itxtL_cons, itxtL_append xs ys, ba_append_assoc]
theorem itxtL_take (xs : List Tree) (i : Nat) (hi : i < xs.length) : itxtL (xs.take (i + 1)) = itxtL (xs.take i) ++ itxt xs[i] := by
  rw [← take_next xs i hi, itxtL_append, itxtL_cons, itxtL_nil, ba_append_nil]
theorem itxtL_part (xs : List Tree) (i : Nat) : (itxtL (xs.take i)).size ≤ (itxtL xs).size := by
  have : itxtL xs = itxtL (xs.take i) ++ itxtL (xs.drop i) := by rw [← itxtL_append, List.take_append_drop]
  rw [this, size_append]
  omega
def PSi (x : Tree) : Prop := x.wt ≤ 1048576 → 1 ≤ (itxt x).size ∧ (itxt x).size ≤ 9 + 9 * x.wt
theorem itxtL_size (xs : List Tree) (hw : ∀ y ∈ xs, y.wt ≤ 1048576) (h : ∀ y ∈ xs, PSi y) : (itxtL xs).size ≤ 9 * xs.length + 9 * Tree.wtL xs := by
  induction xs with
  | nil => rw [itxtL_nil]; exact Nat.zero_le _
  | cons x xs ih =>
    have h1 := (h x (by simp) (hw x (by simp))).2
    have h2 := ih (fun y hy => hw y (by simp [hy])) (fun y hy => h y (by simp [hy]))
    rw [itxtL_cons, size_append, List.length_cons, wtL_cons]
    omega
theorem itxt_size : ∀ x : Tree, PSi x := Tree.ind1 fun x hx w => by
  obtain ⟨k1, k2⟩ := sm_kids w
  have hs := itxtL_size x.ks k2 hx
  have hwt := wt_eq x
  rw [itxt_eq]
  split
  · have := headT_size (base := 192) (n := (itxtL x.ks).size) (by omega)
    rw [size_append]; omega
  · split
    · rename_i h; omega
    · have := headT_size (base := 128) (n := x.t.size) (by omega)
      rw [size_append]; omega
/-! the program -/
/-- What comes of an item: its text, or nothing where it is too long. -/
def Good (r : ByteArray × Bool) (t : ByteArray) : Prop := (r.2 = true → r.1 = t) ∧ (r.2 = false → r.1 = (⟨#[]⟩ : ByteArray) ∧ 900 < t.size)
def PIm (x : Tree) : Prop := x.wt ≤ 1048576 → ∃ r, Good r (itxt x) ∧ Does cp n_impl_itemText [aItem x] [.str r.1, .bool r.2]
theorem Builder_Len_w_ev (l : List Int) : Does cp n_strings_Builder_Len [bldB l, .ptr 0 0] [bldB l, .int .i64 (l.length : Int)] := Ev.fn (fun k => F_strings_Builder_Len_b k _ _) (Ev.now _)
theorem Builder_Len_n_ev : Does cp n_strings_Builder_Len [.tup [.ref false 152 [.nilp, .nils]], .ptr 0 0] [.tup [.ref false 152 [.nilp, .nils]], .int .i64 0] := Ev.fn (fun k => F_strings_Builder_Len_a k) (Ev.now _)
theorem Builder_String_n_ev : Does cp n_strings_Builder_String [.tup [.ref false 152 [.nilp, .nils]], .ptr 0 0] [.tup [.ref false 152 [.nilp, .nils]], .str (⟨#[]⟩ : ByteArray)] := Ev.fn (fun k => F_strings_Builder_String_a k) (Ev.now _)
theorem impl_itemText_l (xs : List Tree) (hl : xs.length ≤ 1048576) (hw : ∀ y ∈ xs, y.wt ≤ 1048576) (hwt : Tree.wtL xs ≤ 1048576) (hs : ∀ y ∈ xs, PIm y) (d : Nat) : ∀ (i : Nat) (l : List Int), i + d = xs.length → l ≠ [] → l = bts (itxtL (xs.take i)) → l.length ≤ 900 →
    ∃ r, Good r (headT 192 (itxtL xs).size ++ itxtL xs) ∧ Ev (fun k m _ _ => L_impl_itemText_0a k m xs.length (xs.flatMap eItem) (lenI xs.length) (i : Int) l.length (l.flatMap eB)) [.str r.1, .bool r.2] := by
  have hsz := itxtL_size xs hw (fun y _ => itxt_size y)
  induction d with
  | zero =>
    intro i l hi h0 hb h9
    rw [List.take_of_length_le (by omega)] at hb
    have hll : l.length = (itxtL xs).size := by rw [hb, bts_length]
    have hh := headT_size (base := 192) (n := l.length) (by omega)
    refine ⟨(headT 192 (itxtL xs).size ++ itxtL xs, true), ⟨fun _ => rfl, fun q => by cases q⟩, ?_⟩
    refine Ev.step (fun k m _ _ => L_impl_itemText_0a_s k m _ _ _ _ _ _) (Ev.f (ltI_f (by rw [lenI_c]; omega)) (Ev.c (Builder_Len_w_ev l) (Ev.g rfl (Ev.c (impl_lengthText_ev 192 l.length (by omega)) (Ev.c (Builder_String_a_ev l h0 (by omega)) (Ev.g rfl ?_))))))
    have hst : EV.strOfNums l = itxtL xs := by rw [hb, strOf_bts]
    simp only [hdV_c, tlV_c, parts1_a, asInt_i, asBool_b, asStr_s, asLen_f, asCells_f, tupL_t, refCells_r, ownLen_o, hst]
    exact Ev.g (fitS_small (by omega)) (Ev.some_ (by rw [hll]; rfl))
  | succ d ih =>
    intro i l hi h0 hb h9
    have hi' : i < xs.length := by omega
    have hm := List.getElem_mem hi'
    have h2 := itxtL_part xs (i + 1)
    have hst := itxt_size _ (hw _ hm)
    have htk := itxtL_take xs i hi'
    rw [htk, size_append] at h2
    have hll : l.length = (itxtL (xs.take i)).size := by rw [hb, bts_length]
    have hwhole : (headT 192 (itxtL xs).size ++ itxtL xs).size = (headT 192 (itxtL xs).size).size + (itxtL xs).size := size_append _ _
    obtain ⟨r0, ⟨g1, g2⟩, e0⟩ := hs _ hm (hw _ hm)
    cases hr : r0.2 with
    | false =>
      obtain ⟨g3, g4⟩ := g2 hr
      refine ⟨((⟨#[]⟩ : ByteArray), false), ⟨(fun q => by cases q), fun _ => ⟨rfl, by omega⟩⟩, ?_⟩
      refine Ev.step (fun k m _ _ => L_impl_itemText_0a_s k m _ _ _ _ _ _) (Ev.t (ltI_t (by rw [lenI_c]; omega)) (Ev.g (inR_n (by omega)) ?_))
      simp only [ci0 hi', ci1 hi', ci2 hi', hdV_c, tlV_c, parts1_a, asInt_i, asBool_b, asStr_s, asLen_f, asCells_f, tupL_t, refCells_r, ownLen_o]
      exact Ev.g rfl (Ev.c e0 (Ev.t (by simp only [hdV_c, tlV_c, parts1_a, asInt_i, asBool_b, asStr_s, asLen_f, asCells_f, tupL_t, refCells_r, ownLen_o]; rw [hr]; rfl) (Ev.now _)))
    | true =>
      have g3 := g1 hr
      have ew : wr .i64 (addI (l.length : Int) (lenI (lenS (itxt xs[i])))) = ((l.length + (itxt xs[i]).size : Nat) : Int) := by rw [addI_d, lenI_c, lenS_d, wr64 (by omega)]; omega
      by_cases hbig : 900 < l.length + (itxt xs[i]).size
      · refine ⟨((⟨#[]⟩ : ByteArray), false), ⟨(fun q => by cases q), fun _ => ⟨rfl, by omega⟩⟩, ?_⟩
        refine Ev.step (fun k m _ _ => L_impl_itemText_0a_s k m _ _ _ _ _ _) (Ev.t (ltI_t (by rw [lenI_c]; omega)) (Ev.g (inR_n (by omega)) ?_))
        simp only [ci0 hi', ci1 hi', ci2 hi', hdV_c, tlV_c, parts1_a, asInt_i, asBool_b, asStr_s, asLen_f, asCells_f, tupL_t, refCells_r, ownLen_o]
        refine Ev.g rfl (Ev.c e0 (Ev.f (by simp only [hdV_c, tlV_c, parts1_a, asInt_i, asBool_b, asStr_s, asLen_f, asCells_f, tupL_t, refCells_r, ownLen_o]; rw [hr]; rfl) (Ev.c (Builder_Len_w_ev l) (Ev.g rfl ?_))))
        simp only [hdV_c, tlV_c, parts1_a, asInt_i, asBool_b, asStr_s, asLen_f, asCells_f, tupL_t, refCells_r, ownLen_o, g3, ew]
        exact Ev.t (ltI_t (by omega)) (Ev.now _)
      · obtain ⟨r, gr, er⟩ := ih (i + 1) (l ++ bts (itxt xs[i])) (by omega) (by simp [h0]) (by rw [htk, bts_append, hb]) (by rw [List.length_append, bts_length]; omega)
        refine ⟨r, gr, ?_⟩
        refine Ev.step (fun k m _ _ => L_impl_itemText_0a_s k m _ _ _ _ _ _) (Ev.t (ltI_t (by rw [lenI_c]; omega)) (Ev.g (inR_n (by omega)) ?_))
        simp only [ci0 hi', ci1 hi', ci2 hi', hdV_c, tlV_c, parts1_a, asInt_i, asBool_b, asStr_s, asLen_f, asCells_f, tupL_t, refCells_r, ownLen_o]
        refine Ev.g rfl (Ev.c e0 (Ev.f (by simp only [hdV_c, tlV_c, parts1_a, asInt_i, asBool_b, asStr_s, asLen_f, asCells_f, tupL_t, refCells_r, ownLen_o]; rw [hr]; rfl) (Ev.c (Builder_Len_w_ev l) (Ev.g rfl ?_))))
        simp only [hdV_c, tlV_c, parts1_a, asInt_i, asBool_b, asStr_s, asLen_f, asCells_f, tupL_t, refCells_r, ownLen_o, g3, ew]
        refine Ev.f (ltI_f (by omega)) (Ev.c (Builder_WriteString_b_ev l (itxt xs[i]) (by omega)) (Ev.g rfl ?_))
        simp only [bldN, hdV_c, tlV_c, parts1_a, asInt_i, asBool_b, asStr_s, asLen_f, asCells_f, tupL_t, refCells_r, ownLen_o, wrS (show i < 9223372036854775807 by omega)]
        exact er
theorem impl_itemText_ev : ∀ x : Tree, PIm x := Tree.ind1 fun x hx w => by
  obtain ⟨k1, k2⟩ := sm_kids w
  have hwt := wt_eq x
  unfold PIm at hx
  rw [itxt_eq]
  cases hb : x.b with
  | false =>
    rw [if_neg (by simp)]
    have hh := headT_size (base := 128) (n := x.t.size) (by omega)
    have fin : Ev (fun k _ _ _ => bnd (evF cp k n_impl_lengthText [AV.int IntKind.i64 128, AV.int IntKind.i64 (lenI (lenS x.t))]) (fun r0 => gd (fitS (AV.asStr (hdV r0)) x.t) (some [AV.str (catS (AV.asStr (hdV r0)) x.t), AV.bool true]))) [.str (headT 128 x.t.size ++ x.t), .bool true] :=
      Ev.c (impl_lengthText_ev 128 x.t.size (by omega)) (Ev.g (fitS_small (by simp only [hdV_c, tlV_c, parts1_a, asInt_i, asBool_b, asStr_s, asLen_f, asCells_f, tupL_t, refCells_r, ownLen_o]; omega)) (Ev.now _))
    refine ⟨(if x.t.size = 1 ∧ getS x.t 0 < 128 then x.t else headT 128 x.t.size ++ x.t, true), ⟨fun _ => rfl, fun q => by cases q⟩, Ev.fn (fun k => F_impl_itemText k _ _ _ _) ?_⟩
    rw [hb]
    refine Ev.t rfl ?_
    by_cases h1 : x.t.size = 1
    · refine Ev.t (eqI_t (by rw [lenI_c, lenS_d]; omega)) (Ev.g (inR_t (by omega) (by rw [lenS_d]; omega)) ?_)
      by_cases h2 : getS x.t 0 < 128
      · rw [if_pos ⟨h1, h2⟩]; exact Ev.t (ltI_t h2) (Ev.now _)
      · rw [if_neg (fun q => h2 q.2)]; exact Ev.f (ltI_f h2) fin
    · rw [if_neg (fun q => h1 q.1)]; exact Ev.f (eqI_f (by rw [lenI_c, lenS_d]; omega)) fin
  | true =>
    rw [if_pos rfl]
    have hsz := itxtL_size x.ks k2 (fun y _ => itxt_size y)
    have hwl : Tree.wtL x.ks ≤ 1048576 := by omega
    generalize hks : x.ks = ks at *
    have go : ∃ r, Good r (headT 192 (itxtL ks).size ++ itxtL ks) ∧ Ev (fun k m _ _ => L_impl_itemText_0 k m ks.length (ks.flatMap eItem) (lenI ks.length) ((0 : Nat) : Int)) [.str r.1, .bool r.2] := by
      have hwhole : (headT 192 (itxtL ks).size ++ itxtL ks).size = (headT 192 (itxtL ks).size).size + (itxtL ks).size := size_append _ _
      cases ks with
      | nil =>
        have n0 : (⟨#[]⟩ : ByteArray).size = 0 := rfl
        refine ⟨(headT 192 (itxtL []).size ++ itxtL [], true), ⟨fun _ => rfl, fun q => by cases q⟩, ?_⟩
        rw [itxtL_nil, n0]
        have hh := headT_size (base := 192) (n := 0) (by omega)
        refine Ev.step (fun k m _ _ => L_impl_itemText_0_s k m _ _ _ _) (Ev.f (ltI_f (by rw [lenI_c]; show ¬ (0 : Int) < ((0 : Nat) : Int); omega)) (Ev.c Builder_Len_n_ev (Ev.g rfl (Ev.c (impl_lengthText_ev 192 0 (by omega)) (Ev.c Builder_String_n_ev (Ev.g rfl ?_))))))
        simp only [hdV_c, tlV_c, parts1_a, asInt_i, asBool_b, asStr_s, asLen_f, asCells_f, tupL_t, refCells_r, ownLen_o]
        exact Ev.g (fitS_small (by omega)) (Ev.now _)
      | cons y ys =>
        have hi' : 0 < (y :: ys).length := by simp
        have hm := List.getElem_mem hi'
        have h2 := itxtL_part (y :: ys) (0 + 1)
        have htk := itxtL_take (y :: ys) 0 hi'
        have hst := itxt_size _ (k2 _ hm)
        rw [List.take_zero, itxtL_nil, ba_nil_append] at htk
        rw [htk] at h2
        obtain ⟨r0, ⟨g1, g2⟩, e0⟩ := hx _ hm (k2 _ hm)
        cases hr : r0.2 with
        | false =>
          obtain ⟨g3, g4⟩ := g2 hr
          refine ⟨((⟨#[]⟩ : ByteArray), false), ⟨(fun q => by cases q), fun _ => ⟨rfl, by omega⟩⟩, ?_⟩
          refine Ev.step (fun k m _ _ => L_impl_itemText_0_s k m _ _ _ _) (Ev.t (ltI_t (by rw [lenI_c]; omega)) (Ev.g (inR_n (by omega)) ?_))
          simp only [ci0 hi', ci1 hi', ci2 hi', hdV_c, tlV_c, parts1_a, asInt_i, asBool_b, asStr_s, asLen_f, asCells_f, tupL_t, refCells_r, ownLen_o]
          exact Ev.g rfl (Ev.c e0 (Ev.t (by simp only [hdV_c, tlV_c, parts1_a, asInt_i, asBool_b, asStr_s, asLen_f, asCells_f, tupL_t, refCells_r, ownLen_o]; rw [hr]; rfl) (Ev.now _)))
        | true =>
          have g3 := g1 hr
          have ew : wr .i64 (addI 0 (lenI (lenS (itxt (y :: ys)[0])))) = (((itxt (y :: ys)[0]).size : Nat) : Int) := by rw [addI_d, lenI_c, lenS_d, wr64 (by omega)]; omega
          by_cases hbig : 900 < (itxt (y :: ys)[0]).size
          · refine ⟨((⟨#[]⟩ : ByteArray), false), ⟨(fun q => by cases q), fun _ => ⟨rfl, by omega⟩⟩, ?_⟩
            refine Ev.step (fun k m _ _ => L_impl_itemText_0_s k m _ _ _ _) (Ev.t (ltI_t (by rw [lenI_c]; omega)) (Ev.g (inR_n (by omega)) ?_))
            simp only [ci0 hi', ci1 hi', ci2 hi', hdV_c, tlV_c, parts1_a, asInt_i, asBool_b, asStr_s, asLen_f, asCells_f, tupL_t, refCells_r, ownLen_o]
            refine Ev.g rfl (Ev.c e0 (Ev.f (by simp only [hdV_c, tlV_c, parts1_a, asInt_i, asBool_b, asStr_s, asLen_f, asCells_f, tupL_t, refCells_r, ownLen_o]; rw [hr]; rfl) (Ev.c Builder_Len_n_ev (Ev.g rfl ?_))))
            simp only [hdV_c, tlV_c, parts1_a, asInt_i, asBool_b, asStr_s, asLen_f, asCells_f, tupL_t, refCells_r, ownLen_o, g3, ew]
            exact Ev.t (ltI_t (by omega)) (Ev.now _)
          · obtain ⟨r, gr, er⟩ := impl_itemText_l (y :: ys) k1 k2 hwl hx ys.length 1 (bts (itxt (y :: ys)[0])) (by simp; omega) (fun q => by
              have := congrArg List.length q
              rw [bts_length, List.length_nil] at this
              omega) (by rw [← htk]) (by rw [bts_length]; omega)
            refine ⟨r, gr, ?_⟩
            refine Ev.step (fun k m _ _ => L_impl_itemText_0_s k m _ _ _ _) (Ev.t (ltI_t (by rw [lenI_c]; omega)) (Ev.g (inR_n (by omega)) ?_))
            simp only [ci0 hi', ci1 hi', ci2 hi', hdV_c, tlV_c, parts1_a, asInt_i, asBool_b, asStr_s, asLen_f, asCells_f, tupL_t, refCells_r, ownLen_o]
            refine Ev.g rfl (Ev.c e0 (Ev.f (by simp only [hdV_c, tlV_c, parts1_a, asInt_i, asBool_b, asStr_s, asLen_f, asCells_f, tupL_t, refCells_r, ownLen_o]; rw [hr]; rfl) (Ev.c Builder_Len_n_ev (Ev.g rfl ?_))))
            simp only [hdV_c, tlV_c, parts1_a, asInt_i, asBool_b, asStr_s, asLen_f, asCells_f, tupL_t, refCells_r, ownLen_o, g3, ew]
            refine Ev.f (ltI_f (by omega)) (Ev.c (Builder_WriteString_a_ev (itxt (y :: ys)[0]) (by omega)) (Ev.g rfl ?_))
            simp only [bldB, hdV_c, tlV_c, parts1_a, asInt_i, asBool_b, asStr_s, asLen_f, asCells_f, tupL_t, refCells_r, ownLen_o, wrS (show 0 < 9223372036854775807 by omega)]
            exact er
    obtain ⟨r, gr, er⟩ := go
    refine ⟨r, gr, Ev.fn (fun k => F_impl_itemText k _ _ _ _) ?_⟩
    rw [hb, hks]
    exact Ev.f rfl er.l0


def itemText (x : Tree) : ByteArray × Bool := if fits 4 x = true ∧ (itxt x).size ≤ 900 then (itxt x, true) else ((⟨#[]⟩ : ByteArray), false)
theorem impl_ItemText_ev (x : Tree) (w : x.wt ≤ 1048576) : Does cp n_impl_ItemText [aItem x] [.str (itemText x).1, .bool (itemText x).2] := by
  unfold itemText
  refine Ev.fn (fun k => F_impl_ItemText k _ _ _ _) (Ev.c (impl_ItemOk_ev x) ?_)
  cases ho : fits 4 x with
  | false =>
    rw [if_neg (fun q => by cases q.1)]
    exact Ev.t rfl (Ev.now _)
  | true =>
    obtain ⟨r, ⟨g1, g2⟩, e⟩ := impl_itemText_ev x w
    refine Ev.f rfl (Ev.c e ?_)
    simp only [hdV_c, tlV_c, parts1_a, asInt_i, asBool_b, asStr_s, asLen_f, asCells_f, tupL_t, refCells_r, ownLen_o]
    cases hr : r.2 with
    | false =>
      obtain ⟨_, g3⟩ := g2 hr
      rw [if_neg (fun q => by have := q.2; omega)]
      exact Ev.t rfl (Ev.now _)
    | true =>
      rw [g1 hr]
      refine Ev.f rfl ?_
      by_cases h : (itxt x).size ≤ 900
      · rw [if_pos ⟨by simp, h⟩]; exact Ev.f (ltI_f (by rw [lenI_c, lenS_d]; omega)) (Ev.now _)
      · rw [if_neg (fun q => h q.2)]; exact Ev.t (ltI_t (by rw [lenI_c, lenS_d]; omega)) (Ev.now _)


/-- What stands ahead of a text of n bytes, as numbers. -/
def hl (n : Nat) : List Int := if n ≤ 55 then [((128 + n : Nat) : Int)] else if n ≤ 255 then [184, (n : Int)] else [185, ((n / 256 : Nat) : Int), ((n % 256 : Nat) : Int)]
theorem hl_len {n : Nat} : 1 ≤ (hl n).length ∧ (hl n).length ≤ 3 := by
  unfold hl
  split
  · simp
  · split <;> simp
theorem numLE_1 {n : Nat} (h0 : 0 < n) (h : n ≤ 255) : numLE n = [(n : Int)] := by
  rw [numLE_pos h0, show n / 256 = 0 by omega, numLE_zero, show n % 256 = n by omega]
theorem numLE_2 {n : Nat} (h0 : 255 < n) (h : n ≤ 65535) : numLE n = [((n % 256 : Nat) : Int), ((n / 256 : Nat) : Int)] := by
  rw [numLE_pos (by omega), numLE_1 (by omega) (by omega)]
theorem headT_hl {n : Nat} (h : n ≤ 599) : headT 128 n = EV.strOfNums (hl n) := by
  unfold headT hl
  by_cases h1 : n ≤ 55
  · rw [if_pos h1, if_pos h1]
    have e : wr .u8 (wr .i64 (addI 128 (n : Int))) = ((128 + n : Nat) : Int) := by rw [addI_d, wr64 (by omega), wr_u8']; omega
    rw [e]
  · rw [if_neg h1, if_neg h1]
    have e0 : wr .i64 (addI 128 55) = 183 := by decide
    rw [e0]
    by_cases h2 : n ≤ 255
    · rw [if_pos h2]
      have e1 : numText (n : Int) = EV.strOfNums [(n : Int)] := by unfold numText; rw [Int.toNat_natCast, numLE_1 (by omega) h2]; rfl
      rw [e1, ← strOf_append]
      have e2 : wr .u8 (wr .i64 (addI 183 (lenI (lenS (EV.strOfNums [(n : Int)]))))) = 184 := by
        rw [lenI_c, lenS_d, EV.strOfNums_size]
        show wr .u8 (wr .i64 (addI 183 ((1 : Nat) : Int))) = 184
        decide
      rw [e2]
      rfl
    · rw [if_neg h2]
      have e1 : numText (n : Int) = EV.strOfNums [((n / 256 : Nat) : Int), ((n % 256 : Nat) : Int)] := by unfold numText; rw [Int.toNat_natCast, numLE_2 (by omega) (by omega)]; rfl
      rw [e1, ← strOf_append]
      have e2 : wr .u8 (wr .i64 (addI 183 (lenI (lenS (EV.strOfNums [((n / 256 : Nat) : Int), ((n % 256 : Nat) : Int)]))))) = 185 := by
        rw [lenI_c, lenS_d, EV.strOfNums_size]
        show wr .u8 (wr .i64 (addI 183 ((2 : Nat) : Int))) = 185
        decide
      rw [e2]
      rfl
def inB (l : List Int) : Prop := ∀ x ∈ l, 0 ≤ x ∧ x < 256
theorem hl_inB {n : Nat} (h : n ≤ 599) : inB (hl n) := by
  unfold hl inB
  intro x hx
  split at hx
  · simp only [List.mem_singleton] at hx; omega
  · split at hx
    · simp only [List.mem_cons, List.not_mem_nil, or_false] at hx
      rcases hx with rfl | rfl <;> omega
    · simp only [List.mem_cons, List.not_mem_nil, or_false] at hx
      rcases hx with rfl | rfl | rfl <;> omega
theorem inB_app {a b : List Int} (h1 : inB a) (h2 : inB b) : inB (a ++ b) := fun x hx => (List.mem_append.1 hx).elim (h1 x) (h2 x)
theorem getS_nums {l : List Int} (h : inB l) (i : Int) : getS (EV.strOfNums l) i = rd l i := by rw [getS_bt, bt_eq, bts_strOf h]
theorem sub_nums {l : List Int} (a b : Nat) (h : inB l) : subS (EV.strOfNums l) a b = EV.strOfNums ((l.drop a).take (b - a)) := by
  apply bts_inj
  unfold subS
  rw [bts_extract, bts_strOf h, bts_strOf]
  intro x hx
  exact h x (List.mem_of_mem_drop (List.mem_of_mem_take hx))
theorem size_nums (l : List Int) : lenI (lenS (EV.strOfNums l)) = (l.length : Int) := by rw [lenI_c, lenS_d, EV.strOfNums_size]
theorem or_small : ∀ a : Fin 3, ∀ b : Fin 256, bitsOp .or .i64 (wr .i64 (shlI .i64 ((a.val : Nat) : Int) 8)) ((b.val : Nat) : Int) = ((a.val * 256 + b.val : Nat) : Int) := by decide +kernel
theorem or_nat {a b : Nat} (ha : a < 3) (hb : b < 256) : bitsOp .or .i64 (wr .i64 (shlI .i64 (a : Int) 8)) (b : Int) = ((a * 256 + b : Nat) : Int) := or_small ⟨a, ha⟩ ⟨b, hb⟩
theorem wrB {x : Int} (h : 0 ≤ x ∧ x < 256) : wr .i64 x = x := wr64 (by omega)
theorem ReadNum_end (n : Nat) (h : n ≤ 599) (t : ByteArray) (ht : numText (n : Int) = t) (i : Int) (hi : ¬ i < (t.size : Int)) : Ev (fun k m _ _ => L_impl_ReadNum_0 k m t i (n : Int)) [.int .i64 (n : Int), .bool true] := by
  refine Ev.step (fun k m _ _ => L_impl_ReadNum_0_s k m _ _ _) (Ev.f (ltI_f (by rw [lenI_c, lenS_d]; exact hi)) (Ev.f (ltI_f (by omega)) (Ev.c (impl_NumText_ev n (by omega)) ?_)))
  simp only [hdV_c, tlV_c, parts1_a, asInt_i, asBool_b, asStr_s, asLen_f, asCells_f, tupL_t, refCells_r, ownLen_o, ht]
  exact Ev.f (by rw [eqS_t rfl]; rfl) (Ev.now _)
theorem ReadNum_1 (n : Nat) (h0 : 0 < n) (h : n ≤ 255) : Does cp n_impl_ReadNum [.str (EV.strOfNums [(n : Int)])] [.int .i64 (n : Int), .bool true] := by
  have hb : inB [(n : Int)] := fun x hx => by rw [List.mem_singleton] at hx; omega
  have ht : numText (n : Int) = EV.strOfNums [(n : Int)] := by unfold numText; rw [Int.toNat_natCast, numLE_1 h0 h]; rfl
  refine Ev.fn (fun k => F_impl_ReadNum k _) (Ev.f (ltI_f (by rw [size_nums]; show ¬ (4 : Int) < ((1 : Nat) : Int); omega)) ?_)
  have e := ReadNum_end n (by omega) _ ht 1 (by rw [EV.strOfNums_size]; show ¬ (1 : Int) < ((1 : Nat) : Int); omega)
  have l : Ev (fun k m _ _ => L_impl_ReadNum_0 k m (EV.strOfNums [(n : Int)]) 0 0) [.int .i64 (n : Int), .bool true] := by
    refine Ev.step (fun k m _ _ => L_impl_ReadNum_0_s k m _ _ _) (Ev.t (ltI_t (by rw [size_nums]; show (0 : Int) < ((1 : Nat) : Int); omega)) (Ev.g (inR_t (by omega) (by rw [lenS_d, EV.strOfNums_size]; show (0 : Int) < ((1 : Nat) : Int); omega)) ?_))
    have g0 : getS (EV.strOfNums [(n : Int)]) 0 = (n : Int) := by rw [getS_nums hb]; rfl
    have o := or_nat (a := 0) (b := n) (by omega) (by omega)
    rw [Nat.zero_mul, Nat.zero_add] at o
    have w1 : wr .i64 (addI 0 1) = 1 := by decide
    rw [g0, wrB (x := (n : Int)) (by omega), w1]
    show Ev (fun k m _ _ => L_impl_ReadNum_0 k m _ 1 (bitsOp .or .i64 (wr .i64 (shlI .i64 ((0 : Nat) : Int) 8)) (n : Int))) _
    rw [o]
    exact e
  exact l.l0
theorem ReadNum_2 (n : Nat) (h0 : 255 < n) (h : n ≤ 599) : Does cp n_impl_ReadNum [.str (EV.strOfNums [((n / 256 : Nat) : Int), ((n % 256 : Nat) : Int)])] [.int .i64 (n : Int), .bool true] := by
  have hb : inB [((n / 256 : Nat) : Int), ((n % 256 : Nat) : Int)] := fun x hx => by
    simp only [List.mem_cons, List.not_mem_nil, or_false] at hx
    rcases hx with rfl | rfl <;> omega
  have ht : numText (n : Int) = EV.strOfNums [((n / 256 : Nat) : Int), ((n % 256 : Nat) : Int)] := by unfold numText; rw [Int.toNat_natCast, numLE_2 h0 (by omega)]; rfl
  refine Ev.fn (fun k => F_impl_ReadNum k _) (Ev.f (ltI_f (by rw [size_nums]; show ¬ (4 : Int) < ((2 : Nat) : Int); omega)) ?_)
  have e := ReadNum_end n (by omega) _ ht 2 (by rw [EV.strOfNums_size]; show ¬ (2 : Int) < ((2 : Nat) : Int); omega)
  have l : Ev (fun k m _ _ => L_impl_ReadNum_0 k m (EV.strOfNums [((n / 256 : Nat) : Int), ((n % 256 : Nat) : Int)]) 0 0) [.int .i64 (n : Int), .bool true] := by
    refine Ev.step (fun k m _ _ => L_impl_ReadNum_0_s k m _ _ _) (Ev.t (ltI_t (by rw [size_nums]; show (0 : Int) < ((2 : Nat) : Int); omega)) (Ev.g (inR_t (by omega) (by rw [lenS_d, EV.strOfNums_size]; show (0 : Int) < ((2 : Nat) : Int); omega)) ?_))
    have g0 : getS (EV.strOfNums [((n / 256 : Nat) : Int), ((n % 256 : Nat) : Int)]) 0 = ((n / 256 : Nat) : Int) := by rw [getS_nums hb]; rfl
    have g1 : getS (EV.strOfNums [((n / 256 : Nat) : Int), ((n % 256 : Nat) : Int)]) 1 = ((n % 256 : Nat) : Int) := by rw [getS_nums hb]; rfl
    have o := or_nat (a := 0) (b := n / 256) (by omega) (by omega)
    rw [Nat.zero_mul, Nat.zero_add] at o
    have o2 := or_nat (a := n / 256) (b := n % 256) (by omega) (by omega)
    rw [show n / 256 * 256 + n % 256 = n by omega] at o2
    have w1 : wr .i64 (addI 0 1) = 1 := by decide
    have w2 : wr .i64 (addI 1 1) = 2 := by decide
    rw [g0, wrB (x := ((n / 256 : Nat) : Int)) (by omega), w1]
    show Ev (fun k m _ _ => L_impl_ReadNum_0 k m _ 1 (bitsOp .or .i64 (wr .i64 (shlI .i64 ((0 : Nat) : Int) 8)) ((n / 256 : Nat) : Int))) _
    rw [o]
    refine Ev.step (fun k m _ _ => L_impl_ReadNum_0_s k m _ _ _) (Ev.t (ltI_t (by rw [size_nums]; show (1 : Int) < ((2 : Nat) : Int); omega)) (Ev.g (inR_t (by omega) (by rw [lenS_d, EV.strOfNums_size]; show (1 : Int) < ((2 : Nat) : Int); omega)) ?_))
    rw [g1, wrB (x := ((n % 256 : Nat) : Int)) (by omega), w2, o2]
    exact e
  exact l.l0
theorem rd_app0 (a : Int) (l r : List Int) : rd ((a :: l) ++ r) 0 = a := rfl
theorem payload_ev (n : Nat) (h : n ≤ 599) (r : List Int) (hr : inB r) (hrl : r.length ≤ 5000) (hb : hl n = hl n) :
    Does cp n_impl_payload [.str (EV.strOfNums (hl n ++ r)), .int .i64 0, .int .i64 128] [.int .i64 ((hl n).length : Int), .int .i64 (n : Int), .bool true] := by
  have hB := inB_app (hl_inB h) hr
  refine Ev.fn (fun k => F_impl_payload k _ _ _) ?_
  have hL : (EV.strOfNums (hl n ++ r)).size = (hl n).length + r.length := by rw [EV.strOfNums_size, List.length_append]
  have h1 := hl_len (n := n)
  refine Ev.g (inR_t (by omega) (by rw [lenS_d, hL]; omega)) ?_
  have g0 := getS_nums hB 0
  rw [g0]
  have w01 : wr .i64 (addI 0 1) = 1 := by decide
  unfold hl at *
  by_cases c1 : n ≤ 55
  · simp only [if_pos c1] at *
    rw [rd_app0]
    have e : wr .i64 (subI (wr .i64 ((128 + n : Nat) : Int)) 128) = (n : Int) := by rw [wr64 (n := ((128 + n : Nat) : Int)) (by omega), subI_d, wr64 (by omega)]; omega
    rw [e, w01]
    exact Ev.t (leI_t (by omega)) (Ev.now _)
  · simp only [if_neg c1] at *
    by_cases c2 : n ≤ 255
    · simp only [if_pos c2] at *
      rw [rd_app0]
      have e : wr .i64 (subI (wr .i64 (184 : Int)) 128) = 56 := by decide
      have e2 : wr .i64 (subI 56 55) = 1 := by decide
      have e3 : wr .i64 (addI 1 1) = 2 := by decide
      have e4 : wr .i64 (subI (wr .i64 (subI (lenI (lenS (EV.strOfNums ([184, (n : Int)] ++ r)))) 0)) 1) = (r.length : Int) + 1 := by
        have hq : (([184, (n : Int)] ++ r).length : Int) = (r.length : Int) + 2 := by simp; omega
        rw [size_nums, hq]
        simp only [subI_d]
        rw [wr64 (n := (r.length : Int) + 2 - 0) (by omega), wr64 (by omega)]
        omega
      rw [e, e2, w01, e3, e4]
      refine Ev.f (leI_f (by omega)) (Ev.f (ltI_f (by omega)) (Ev.g (inS_t (by omega) (by omega) (by rw [lenS_d, hL]; show (2 : Int) ≤ ((2 + r.length : Nat) : Int); omega)) ?_))
      have hs : subS (EV.strOfNums ([184, (n : Int)] ++ r)) (natI 1) (natI 2) = EV.strOfNums [(n : Int)] := by
        rw [sub_nums _ _ hB]; rfl
      rw [hs]
      exact Ev.c (ReadNum_1 n (by omega) c2) (Ev.now _)
    · simp only [if_neg c2] at *
      rw [rd_app0]
      have e : wr .i64 (subI (wr .i64 (185 : Int)) 128) = 57 := by decide
      have e2 : wr .i64 (subI 57 55) = 2 := by decide
      have e3 : wr .i64 (addI 1 2) = 3 := by decide
      have e4 : wr .i64 (subI (wr .i64 (subI (lenI (lenS (EV.strOfNums ([185, ((n / 256 : Nat) : Int), ((n % 256 : Nat) : Int)] ++ r)))) 0)) 1) = (r.length : Int) + 2 := by
        have hq : (([185, ((n / 256 : Nat) : Int), ((n % 256 : Nat) : Int)] ++ r).length : Int) = (r.length : Int) + 3 := by simp; omega
        rw [size_nums, hq]
        simp only [subI_d]
        rw [wr64 (n := (r.length : Int) + 3 - 0) (by omega), wr64 (by omega)]
        omega
      rw [e, e2, w01, e3, e4]
      refine Ev.f (leI_f (by omega)) (Ev.f (ltI_f (by omega)) (Ev.g (inS_t (by omega) (by omega) (by rw [lenS_d, hL]; show (3 : Int) ≤ ((3 + r.length : Nat) : Int); omega)) ?_))
      have hs : subS (EV.strOfNums ([185, ((n / 256 : Nat) : Int), ((n % 256 : Nat) : Int)] ++ r)) (natI 1) (natI 3) = EV.strOfNums [((n / 256 : Nat) : Int), ((n % 256 : Nat) : Int)] := by
        rw [sub_nums _ _ hB]; rfl
      rw [hs]
      exact Ev.c (ReadNum_2 n (by omega) h) (Ev.now _)
theorem hl_first {n : Nat} (h : n ≤ 599) (r : List Int) : 128 ≤ rd (hl n ++ r) 0 ∧ rd (hl n ++ r) 0 < 192 := by
  unfold hl
  split
  · rw [rd_app0]; omega
  · split
    · rw [rd_app0]; omega
    · rw [rd_app0]; omega
theorem itemAt_ev (n : Nat) (h : n ≤ 599) (r : List Int) (hr : inB r) (hrl : r.length ≤ 5000) :
    Does cp n_impl_itemAt [.str (EV.strOfNums (hl n ++ r)), .int .i64 0, .int .i64 4] (if r.length < n then [.agg [.bool false, .str (⟨#[]⟩ : ByteArray), .fs 0 []], .int .i64 0, .bool false] else [.agg [.bool false, .str (EV.strOfNums (r.take n)), .fs 0 []], .int .i64 (((hl n).length + n : Nat) : Int), .bool true]) := by
  have hB := inB_app (hl_inB h) hr
  have hL : (EV.strOfNums (hl n ++ r)).size = (hl n).length + r.length := by rw [EV.strOfNums_size, List.length_append]
  have h1 := hl_len (n := n)
  have hf := hl_first h r
  have hp := payload_ev n h r hr hrl rfl
  have g0 := getS_nums hB 0
  refine Ev.fn (fun k => F_impl_itemAt k _ _ _) (Ev.f (leI_f (by rw [lenI_c, lenS_d, hL]; omega)) (Ev.g (inR_t (by omega) (by rw [lenS_d, hL]; omega)) ?_))
  rw [g0]
  refine Ev.f (ltI_f (by omega)) (Ev.g (inR_t (by omega) (by rw [lenS_d, hL]; omega)) (Ev.f (leI_f (by omega)) (Ev.c hp (Ev.f rfl ?_))))
  have e1 : wr .i64 (subI (lenI (lenS (EV.strOfNums (hl n ++ r)))) ((hl n).length : Int)) = (r.length : Int) := by
    rw [size_nums, List.length_append, subI_d, wr64 (by omega)]; omega
  have e2 : wr .i64 (addI ((hl n).length : Int) (n : Int)) = (((hl n).length + n : Nat) : Int) := by rw [addI_d, wr64 (by omega)]; omega
  simp only [hdV_c, tlV_c, parts1_a, asInt_i, asBool_b, asStr_s, asLen_f, asCells_f, tupL_t, refCells_r, ownLen_o, e1, e2]
  by_cases c : r.length < n
  · rw [if_pos c]
    exact Ev.t (ltI_t (by omega)) (Ev.now _)
  · rw [if_neg c]
    refine Ev.f (ltI_f (by omega)) (Ev.g (inS_t (by omega) (by omega) (by rw [lenS_d, hL]; omega)) (Ev.some_ ?_))
    have hs : subS (EV.strOfNums (hl n ++ r)) (natI ((hl n).length : Int)) (natI (((hl n).length + n : Nat) : Int)) = EV.strOfNums (r.take n) := by
      rw [sub_nums _ _ hB, natI_c, natI_c, List.drop_left]
      congr 2
      omega
    rw [hs]
/-- A text that is no item. -/
theorem ReadItem_no (n : Nat) (h : n ≤ 599) (r : List Int) (hr : inB r) (hrl : r.length ≤ 800) (hne : r.length ≠ n) :
    ∃ a, Does cp n_impl_ReadItem [.str (EV.strOfNums (hl n ++ r))] [.agg a, .bool false] := by
  have hL : (EV.strOfNums (hl n ++ r)).size = (hl n).length + r.length := by rw [EV.strOfNums_size, List.length_append]
  have h1 := hl_len (n := n)
  have hi := itemAt_ev n h r hr (by omega)
  refine ⟨[.bool false, .str (⟨#[]⟩ : ByteArray), .fs 0 []], Ev.fn (fun k => F_impl_ReadItem k _) (Ev.f (ltI_f (by rw [lenI_c, lenS_d, hL]; omega)) (Ev.c hi ?_))⟩
  by_cases c : r.length < n
  · rw [if_pos c]
    exact Ev.t rfl (Ev.now _)
  · rw [if_neg c]
    refine Ev.f rfl (Ev.t ?_ (Ev.now _))
    simp only [hdV_c, tlV_c, parts1_a, asInt_i, asBool_b, asStr_s, asLen_f, asCells_f, tupL_t, refCells_r, ownLen_o, size_nums, List.length_append]
    rw [eqI_f (by omega)]; rfl
theorem ReadItem_empty : ∃ a, Does cp n_impl_ReadItem [.str (⟨#[]⟩ : ByteArray)] [.agg a, .bool false] :=
  ⟨[.bool false, .str (⟨#[]⟩ : ByteArray), .fs 0 []], Ev.fn (fun k => F_impl_ReadItem k _) (Ev.f rfl (Ev.c (Ev.fn (fun k => F_impl_itemAt k _ _ _) (Ev.t rfl (Ev.now _))) (Ev.t rfl (Ev.now _))))⟩
/-- A text of bytes from 128 on comes back. -/
theorem itemText_long (n : Nat) (h : n ≤ 599) (r : List Int) (hr : inB r) (hrl : r.length = n) (h1 : n = 1 → 128 ≤ rd r 0) :
    itemText (.mk false (EV.strOfNums r) []) = (EV.strOfNums (hl n ++ r), true) := by
  have hsz : (EV.strOfNums r).size = n := by rw [EV.strOfNums_size, hrl]
  have e : itxt (.mk false (EV.strOfNums r) []) = EV.strOfNums (hl n ++ r) := by
    rw [itxt_eq, if_neg (by simp [Tree.b]), if_neg (fun q => by
      have q1 : (EV.strOfNums r).size = 1 := q.1
      have q2 : getS (EV.strOfNums r) 0 < 128 := q.2
      rw [getS_nums hr] at q2
      have := h1 (by omega)
      omega)]
    show headT 128 (EV.strOfNums r).size ++ EV.strOfNums r = _
    rw [hsz, headT_hl h, strOf_append]
  have hlen := hl_len (n := n)
  unfold itemText
  rw [e, if_pos]
  refine ⟨?_, by rw [EV.strOfNums_size, List.length_append]; omega⟩
  rw [fits_leaf rfl]
  simp only [leafOk, Bool.and_eq_true, decide_eq_true_eq]
  exact ⟨by show (EV.strOfNums r).size ≤ 600; omega, rfl⟩
theorem ReadItem_yes (n : Nat) (h : n ≤ 599) (r : List Int) (hr : inB r) (hrl : r.length = n) (h1 : n = 1 → 128 ≤ rd r 0) :
    Does cp n_impl_ReadItem [.str (EV.strOfNums (hl n ++ r))] [.agg [.bool false, .str (EV.strOfNums r), .fs 0 []], .bool true] := by
  have hL : (EV.strOfNums (hl n ++ r)).size = (hl n).length + r.length := by rw [EV.strOfNums_size, List.length_append]
  have hlen := hl_len (n := n)
  have hi := itemAt_ev n h r hr (by omega)
  rw [if_neg (by omega), List.take_of_length_le (by omega)] at hi
  have ht := impl_ItemText_ev (.mk false (EV.strOfNums r) []) (by rw [wt_eq]; show (EV.strOfNums r).size + (0 + Tree.wtL []) ≤ _; rw [wtL_nil, EV.strOfNums_size]; omega)
  rw [itemText_long n h r hr hrl h1] at ht
  refine Ev.fn (fun k => F_impl_ReadItem k _) (Ev.f (ltI_f (by rw [lenI_c, lenS_d, hL]; omega)) (Ev.c hi (Ev.f rfl (Ev.f ?_ (Ev.c ht (Ev.f rfl (Ev.f ?_ (Ev.now _))))))))
  · simp only [hdV_c, tlV_c, parts1_a, asInt_i, asBool_b, asStr_s, asLen_f, asCells_f, tupL_t, refCells_r, ownLen_o, size_nums, List.length_append]
    rw [eqI_t (by omega)]; rfl
  · simp only [hdV_c, tlV_c, parts1_a, asInt_i, asBool_b, asStr_s, asLen_f, asCells_f, tupL_t, refCells_r, ownLen_o]
    rw [eqS_t rfl]; rfl


/-- The cursor of a draw, as it is handed by reference, and as it comes back. -/
def cR (xs : List Int) (i h : Int) : AV := .ref false 169 [.fs xs.length (xs.flatMap eB), .int .i64 i, .int .i64 h]
def cA (xs : List Int) (i h : Int) : AV := .agg [.fs xs.length (xs.flatMap eB), .int .i64 i, .int .i64 h]
theorem refCells_r (b : Bool) (t : TypeId) (l : List AV) : AV.refCells (.ref b t l) = l := rfl
theorem l01New_l (xs : List Int) (hl : xs.length ≤ 1048576) (d : Nat) : ∀ (i : Nat) (h : Int), i + d = xs.length → ∃ g, Ev (fun k m _ _ => L_spec_l01New_0 k m xs.length (xs.flatMap eB) (i : Int) h) [cR xs 0 g] := by
  induction d with
  | zero =>
    intro i h hi
    exact ⟨h, Ev.step (fun k m _ _ => L_spec_l01New_0_s k m _ _ _ _) (Ev.f (ltI_f (by rw [lenI_c]; omega)) (Ev.now _))⟩
  | succ d ih =>
    intro i h hi
    have hi' : i < xs.length := by omega
    by_cases c : (i : Int) < 4000
    · obtain ⟨g, e⟩ := ih (i + 1) (bitsOp .and .i64 (wr .i64 (addI (wr .i64 (addI (wr .i64 (mulI h 131)) (wr .i64 xs[i]))) 7)) 1073741823) (by omega)
      refine ⟨g, Ev.step (fun k m _ _ => L_spec_l01New_0_s k m _ _ _ _) (Ev.t (ltI_t (by rw [lenI_c]; omega)) (Ev.t (ltI_t c) (Ev.g (inR_n hi') ?_)))⟩
      simp only [ebi hi', hdV_c, tlV_c, parts1_a, asInt_i, asBool_b, asStr_s, asLen_f, asCells_f, tupL_t, refCells_r, ownLen_o, wrS (show i < 9223372036854775807 by omega)]
      exact Ev.g rfl e
    · exact ⟨h, Ev.step (fun k m _ _ => L_spec_l01New_0_s k m _ _ _ _) (Ev.t (ltI_t (by rw [lenI_c]; omega)) (Ev.f (ltI_f c) (Ev.now _)))⟩
theorem l01New_ev (xs : List Int) (hl : xs.length ≤ 1048576) : ∃ h, Does cp n_spec_l01New [.fs xs.length (xs.flatMap eB)] [cR xs 0 h] := by
  obtain ⟨g, e⟩ := l01New_l xs hl xs.length 0 (wr .i64 (addI 76801 (lenI xs.length))) (by omega)
  exact ⟨g, Ev.fn (fun k => F_spec_l01New k _ _) e.l0⟩
def nextH (h : Int) : Int := wr .i64 (addI (wr .i64 (mulI h 6364136223846793005)) 1442695040888963407)
def drawX (h : Int) : Int := bitsOp .and .i64 (bitsOp .xor .i64 (shrI .i64 (nextH h) 33) (shrI .i64 (nextH h) 45)) 255
theorem l01Byte_ev (xs : List Int) (hl : xs.length ≤ 1048576) (i h : Int) (h0 : 0 ≤ i) : ∃ x j g, Does cp n_spec_l01Byte [cR xs i h] [.int .i64 x, cA xs j g] ∧ 0 ≤ j ∧ 0 ≤ x ∧ x < 256 := by
  obtain ⟨i, rfl⟩ := Int.eq_ofNat_of_zero_le h0
  by_cases c : i < xs.length
  · refine ⟨bitsOp .and .i64 (wr .i64 (addI (drawX h) (wr .i64 xs[i]))) 255, ((i + 1 : Nat) : Int), nextH h, Ev.fn (fun k => F_spec_l01Byte k _ _ _ _) (Ev.t (ltI_t (by rw [lenI_c]; omega)) (Ev.g (inR_n c) ?_)), by omega, and255 _⟩
    simp only [ebi c, hdV_c, tlV_c, parts1_a, asInt_i, asBool_b, asStr_s, asLen_f, asCells_f, tupL_t, refCells_r, ownLen_o, wrS (show i < 9223372036854775807 by omega)]
    exact Ev.g rfl (Ev.now _)
  · exact ⟨drawX h, (i : Int), nextH h, Ev.fn (fun k => F_spec_l01Byte k _ _ _ _) (Ev.f (ltI_f (by rw [lenI_c]; omega)) (Ev.now _)), by omega, and255 _⟩
theorem l01Below_ev (xs : List Int) (hl : xs.length ≤ 1048576) (i h : Int) (h0 : 0 ≤ i) (n : Int) : ∃ x j g, Does cp n_spec_l01Below [cR xs i h, .int .i64 n] [.int .i64 x, cA xs j g] ∧ 0 ≤ j ∧ 0 ≤ x ∧ (0 < n → x < n) := by
  by_cases c : n ≤ 0
  · exact ⟨0, i, h, Ev.fn (fun k => F_spec_l01Below k _ _ _ _ _) (Ev.t (leI_t c) (Ev.now _)), h0, by omega, fun q => by omega⟩
  by_cases c2 : n ≤ 256
  · obtain ⟨x, j, g, e, hj, hx0, hx1⟩ := l01Byte_ev xs hl i h h0
    refine ⟨Int.tmod x n, j, g, Ev.fn (fun k => F_spec_l01Below k _ _ _ _ _) (Ev.f (leI_f c) (Ev.t (leI_t c2) (Ev.c e (Ev.g ?_ (Ev.now _))))), hj, ?_, fun _ => ?_⟩
    · rw [eqI_f (by omega)]; rfl
    · exact Int.tmod_nonneg _ hx0
    · exact Int.tmod_lt_of_pos _ (by omega)
  · obtain ⟨x, j, g, e, hj, hx0, hx1⟩ := l01Byte_ev xs hl i h h0
    obtain ⟨y, j, g, e1, hj, hy0, hy1⟩ := l01Byte_ev xs hl j g hj
    obtain ⟨z, j, g, e2, hj, hz0, hz1⟩ := l01Byte_ev xs hl j g hj
    obtain ⟨w, j, g, e3, hj, hw0, hw1⟩ := l01Byte_ev xs hl j g hj
    refine ⟨Int.tmod (x * 16777216 + y * 65536 + z * 256 + w) n, j, g, Ev.fn (fun k => F_spec_l01Below k _ _ _ _ _) (Ev.f (leI_f c) (Ev.f (leI_f c2) (Ev.c e (Ev.c e1 (Ev.c e2 (Ev.c e3 (Ev.g ?_ (Ev.some_ ?_)))))))), hj, ?_, fun _ => ?_⟩
    · rw [eqI_f (by omega)]; rfl
    · simp only [hdV_c, tlV_c, parts1_a, asInt_i, asBool_b, asStr_s, asLen_f, asCells_f, tupL_t, refCells_r, ownLen_o, mulI_d, addI_d, remI_d, cA]
      rw [wr64 (n := x * 16777216) (by omega), wr64 (n := y * 65536) (by omega), wr64 (n := z * 256) (by omega), wr64 (n := x * 16777216 + y * 65536) (by omega), wr64 (n := x * 16777216 + y * 65536 + z * 256) (by omega), wr64 (n := x * 16777216 + y * 65536 + z * 256 + w) (by omega)]
    · exact Int.tmod_nonneg _ (by omega)
    · exact Int.tmod_lt_of_pos _ (by omega)


theorem DrawPlaces_l (xs : List Int) (hl : xs.length ≤ 1048576) (d : Nat) : ∀ (ys : List Int) (i h : Int), ys.length + d = 12 → 0 ≤ i → (∀ y ∈ ys, 0 ≤ y ∧ y < 10000) →
    ∃ zs : List Int, Ev (fun k m _ _ => L_spec_DrawPlaces_0 k m (ys.length : Int) ys.length xs.length (xs.flatMap eB) i h (ys.flatMap eI)) [.fs zs.length (zs.flatMap eI)] ∧ zs.length = 12 ∧ (∀ y ∈ zs, 0 ≤ y ∧ y < 10000) := by
  induction d with
  | zero =>
    intro ys i h hy h0 hr
    refine ⟨ys, Ev.step (fun k m _ _ => L_spec_DrawPlaces_0_s k m _ _ _ _ _ _ _) (Ev.f (ltI_f (by omega)) (Ev.some_ ?_)), by omega, hr⟩
    rw [cut_all eI_len]
  | succ d ih =>
    intro ys i h hy h0 hr
    obtain ⟨x, j, g, e, hj, hx0, hx1⟩ := l01Below_ev xs hl i h h0 10000
    have hx := hx1 (by omega)
    obtain ⟨zs, e', hz⟩ := ih (ys ++ [x]) j g (by rw [List.length_append, List.length_singleton]; omega) hj (fun y hy => by
      rcases List.mem_append.1 hy with hy | hy
      · exact hr y hy
      · rw [List.mem_singleton] at hy; omega)
    refine ⟨zs, Ev.step (fun k m _ _ => L_spec_DrawPlaces_0_s k m _ _ _ _ _ _ _) (Ev.t (ltI_t (by omega)) (Ev.c e (Ev.g (fitN_small (by rw [addN_d]; omega) (by decide)) ?_))), hz⟩
    simp only [cA, hdV_c, tlV_c, parts1_a, asInt_i, asBool_b, asStr_s, asLen_f, asCells_f, tupL_t, refCells_r, ownLen_o, wrS (show ys.length < 9223372036854775807 by omega), catE, addN1 ys x]
    rw [show ((ys.length + 1 : Nat) : Int) = ((ys ++ [x]).length : Nat) by rw [List.length_append]; rfl]
    exact e'
theorem DrawPlaces_ev (xs : List Int) (hl : xs.length ≤ 1048576) : ∃ zs : List Int, Does cp n_spec_DrawPlaces [.fs xs.length (xs.flatMap eB)] [.fs zs.length (zs.flatMap eI)] ∧ zs.length = 12 ∧ (∀ y ∈ zs, 0 ≤ y ∧ y < 10000) := by
  obtain ⟨h, e⟩ := l01New_ev xs hl
  obtain ⟨x, j, g, e1, hj, _⟩ := l01Byte_ev xs hl 0 h (by omega)
  obtain ⟨zs, e', hz⟩ := DrawPlaces_l xs hl 12 [] j g rfl hj (by simp)
  exact ⟨zs, Ev.fn (fun k => F_spec_DrawPlaces k _ _) (Ev.c e (Ev.c e1 e'.l0)), hz⟩


theorem fill_l (v : Int) (n : Nat) (hn : n ≤ 599) (zs : List Int) (hz : zs.length = 12) (hv : wr .u8 (wr .i64 (addI (remI (zs[1]'(by omega)) 100) 130)) = v) (R : List AV)
    (hR : Ev (fun k m _ _ => L_laws_FnItemsLong_0 k m zs.length (zs.flatMap eI) n (n : Int) (n : Int) ((List.replicate n v).flatMap eB)) R) (d : Nat) : ∀ i : Nat, i + d = n →
    Ev (fun k m _ _ => L_laws_FnItemsLong_0 k m zs.length (zs.flatMap eI) n (n : Int) (i : Int) ((List.replicate i v ++ List.replicate d 0).flatMap eB)) R := by
  induction d with
  | zero =>
    intro i hi
    have : i = n := by omega
    subst this
    rw [List.replicate_zero, List.append_nil]
    exact hR
  | succ d ih =>
    intro i hi
    have hlen : ((List.replicate i v ++ List.replicate (d + 1) 0).flatMap eB).length = n := by rw [encs_len eB_len, List.length_append, List.length_replicate, List.length_replicate]; omega
    have hset : setMany ((List.replicate i v ++ List.replicate (d + 1) 0).flatMap eB) (mulN (natI (i : Int)) 1) [.int .u8 v] = (List.replicate (i + 1) v ++ List.replicate d 0).flatMap eB := by
      rw [setB v (by rw [List.length_append, List.length_replicate, List.length_replicate]; omega)]
      congr 1
      rw [List.set_append, if_neg (by simp), List.length_replicate, Nat.sub_self, List.replicate_succ, List.set_cons_zero, List.replicate_succ' (n := i), List.append_assoc]
      rfl
    have c1 : cellAt (zs.flatMap eI) 1 = .int .i64 (zs[1]'(by omega)) := by
      have := ei (xs := zs) (i := 1) (by omega)
      exact this
    refine Ev.step (fun k m _ _ => L_laws_FnItemsLong_0_s k m _ _ _ _ _ _) (Ev.t (ltI_t (by omega)) (Ev.g (inR_t (by omega) (by omega)) ?_))
    simp only [c1, hdV_c, tlV_c, parts1_a, asInt_i, asBool_b, asStr_s, asLen_f, asCells_f, tupL_t, refCells_r, ownLen_o, hv, wrS (show i < 9223372036854775807 by omega), addN_d, Nat.zero_add, hset, hlen]
    exact Ev.g rfl (Ev.g (inR_n (by omega)) (Ev.g (Nat.ble_eq_true_of_le (by rw [natI_c, mulN_d]; omega)) (ih (i + 1) (by omega))))
theorem law_ItemsLong (xs : List Int) : ∃ k, evF cp k n_laws_FnItemsLong [.fs xs.length (xs.flatMap eB)] = some [.bool true] := by
  apply Ev.rounds
  refine Ev.fn (fun k => F_laws_FnItemsLong k _ _) (Ev.c (Ev.fn (fun k => F_laws_big k _ _) (Ev.now _)) (Ev.b (fun h => Ev.now _) (fun h => ?_)))
  have hl1 : xs.length ≤ 1048576 := by
    have := ltI_fo h
    rw [lenI_c] at this
    omega
  obtain ⟨zs, e, hp, hr⟩ := DrawPlaces_ev xs hl1
  refine Ev.c e ?_
  have c0 : cellAt (zs.flatMap eI) 0 = .int .i64 (zs[0]'(by omega)) := ei (xs := zs) (i := 0) (by omega)
  have r0 := hr (zs[0]'(by omega)) (List.getElem_mem _)
  have r1 := hr (zs[1]'(by omega)) (List.getElem_mem _)
  obtain ⟨n, hn, hn9⟩ : ∃ n : Nat, remI (zs[0]'(by omega)) 600 = (n : Int) ∧ n ≤ 599 := by
    rw [remI_d, tmod_pos (by omega)]
    exact ⟨((zs[0]'(by omega)) % 600).toNat, by omega, by omega⟩
  obtain ⟨v, hv, hv1, hv2⟩ : ∃ v : Int, wr .u8 (wr .i64 (addI (remI (zs[1]'(by omega)) 100) 130)) = v ∧ 130 ≤ v ∧ v < 256 := by
    refine ⟨_, rfl, ?_⟩
    rw [remI_d, tmod_pos (by omega), addI_d, wr64 (by omega), wr_u8']
    omega
  simp only [hdV_c, tlV_c, parts1_a, asInt_i, asBool_b, asStr_s, asLen_f, asCells_f, tupL_t, refCells_r, ownLen_o, c0, hn, natI_c]
  refine Ev.g (inR_t (by omega) (by omega)) (Ev.g rfl (Ev.g (fit_small (n := n) (by omega) (by decide)) ?_))
  have hrep : repC n [AV.int .u8 0] = (List.replicate n (0 : Int)).flatMap eB := rep_encs (e := eB) (0 : Int) rfl n
  rw [hrep]
  have hin : inB (List.replicate n v) := fun x hx => by have := List.eq_of_mem_replicate hx; omega
  have hrl : (List.replicate n v).length = n := List.length_replicate
  have hone : n = 1 → 128 ≤ rd (List.replicate n v) 0 := fun q => by subst q; show 128 ≤ v; omega
  refine (fill_l v n hn9 zs hp hv _ ?_ n 0 (by omega)).l0
  refine Ev.step (fun k m _ _ => L_laws_FnItemsLong_0_s k m _ _ _ _ _ _) (Ev.f (ltI_f (by omega)) ?_)
  have hcut : cutC ((List.replicate n v).flatMap eB) 0 (mulN n 1) = (List.replicate n v).flatMap eB := by
    have := cut_all eB_len (List.replicate n v)
    rw [hrl] at this
    exact this
  have it := impl_ItemText_ev (.mk false (EV.strOfNums (List.replicate n v)) []) (by rw [wt_eq]; show (EV.strOfNums (List.replicate n v)).size + (0 + Tree.wtL []) ≤ _; rw [wtL_nil, EV.strOfNums_size, hrl]; omega)
  rw [itemText_long n hn9 _ hin hrl hone] at it
  have ra := ReadItem_yes n hn9 _ hin hrl hone
  obtain ⟨a1, rb⟩ := ReadItem_no n hn9 (List.replicate n v ++ [120]) (inB_app hin (fun x hx => by rw [List.mem_singleton] at hx; omega)) (by simp; omega) (by simp)
  have hlen := hl_len (n := n)
  have hX : (EV.strOfNums (hl n ++ List.replicate n v)).size = (hl n).length + n := by rw [EV.strOfNums_size, List.length_append, hrl]
  obtain ⟨a2, rc⟩ : ∃ a, Does cp n_impl_ReadItem [.str (subS (EV.strOfNums (hl n ++ List.replicate n v)) 0 (natI (wr .i64 (subI (lenI (lenS (EV.strOfNums (hl n ++ List.replicate n v)))) 1))))] [.agg a, .bool false] := by
    have hw : natI (wr .i64 (subI (lenI (lenS (EV.strOfNums (hl n ++ List.replicate n v)))) 1)) = (hl n).length + n - 1 := by
      rw [lenI_c, lenS_d, hX, subI_d, wr64 (by omega)]
      unfold natI
      omega
    rw [hw, sub_nums _ _ (inB_app (hl_inB hn9) hin), List.drop_zero, Nat.sub_zero]
    by_cases hn0 : n = 0
    · subst hn0
      have : (hl 0 ++ List.replicate 0 v).take ((hl 0).length + 0 - 1) = [] := rfl
      rw [this]
      exact ReadItem_empty
    · have : (hl n ++ List.replicate n v).take ((hl n).length + n - 1) = hl n ++ List.replicate (n - 1) v := by
        rw [List.take_append, List.take_of_length_le (by omega), List.take_replicate]
        congr 2
        omega
      rw [this]
      exact ReadItem_no n hn9 _ (fun x hx => by have := List.eq_of_mem_replicate hx; omega) (by simp; omega) (by simp; omega)
  have hcat : catS (EV.strOfNums (hl n ++ List.replicate n v)) (ByteArray.mk (Array.mk [120])) = EV.strOfNums (hl n ++ (List.replicate n v ++ [120])) := by
    rw [← List.append_assoc, strOf_append (hl n ++ List.replicate n v) [120]]
    rfl
  simp only [hcut, strOf_e]
  refine Ev.g (isBytes_e _) (Ev.c it ?_)
  simp only [hdV_c, tlV_c, parts1_a, asInt_i, asBool_b, asStr_s, asLen_f, asCells_f, tupL_t, refCells_r, ownLen_o, hcat]
  have hin2 : inS 0 (wr .i64 (subI (lenI (lenS (EV.strOfNums (hl n ++ List.replicate n v)))) 1)) (lenS (EV.strOfNums (hl n ++ List.replicate n v))) = true := by
    have : wr .i64 (subI (lenI (lenS (EV.strOfNums (hl n ++ List.replicate n v)))) 1) = (((hl n).length + n - 1 : Nat) : Int) := by
      rw [lenI_c, lenS_d, hX, subI_d, wr64 (by omega)]; omega
    rw [this]
    exact inS_t (by omega) (by omega) (by rw [lenS_d, hX]; omega)
  have hfit : fitS (EV.strOfNums (hl n ++ List.replicate n v)) (ByteArray.mk (Array.mk [120])) = true := fitS_small (by rw [hX]; show _ + 1 ≤ _; omega)
  have hs1 : lenI (lenS (EV.strOfNums (hl n ++ List.replicate n v))) = (((hl n).length + n : Nat) : Int) := by rw [lenI_c, lenS_d, hX]
  have heq : ∀ q : Int, q = ((hl n).length : Int) → eqI (lenI (lenS (EV.strOfNums (hl n ++ List.replicate n v)))) (wr .i64 (addI q (n : Int))) = true := fun q hq => by
    subst hq
    exact eqI_t (by rw [hs1, addI_d, wr64 (by omega)]; omega)
  have hh : ((hl n).length : Int) = if n ≤ 55 then 1 else if n ≤ 255 then 2 else 3 := by
    unfold hl
    split
    · rfl
    · split <;> rfl
  by_cases q1 : n ≤ 55
  · rw [if_pos q1] at hh
    refine Ev.f (ltI_f (by omega)) (Ev.f (ltI_f (by omega)) (Ev.c ra (Ev.g hfit (Ev.c rb (Ev.g hin2 (Ev.c rc ?_))))))
    simp only [hdV_c, tlV_c, parts1_a, asInt_i, asBool_b, asStr_s, asLen_f, asCells_f, tupL_t, refCells_r, ownLen_o]
    exact Ev.t rfl (Ev.t (heq 1 hh.symm) (Ev.t rfl (Ev.g (isBytes_e _) (Ev.t (eqS_t rfl) (Ev.t rfl (Ev.now _))))))
  · rw [if_neg q1] at hh
    by_cases q2 : n ≤ 255
    · rw [if_pos q2] at hh
      refine Ev.t (ltI_t (by omega)) (Ev.f (ltI_f (by omega)) (Ev.c ra (Ev.g hfit (Ev.c rb (Ev.g hin2 (Ev.c rc ?_))))))
      simp only [hdV_c, tlV_c, parts1_a, asInt_i, asBool_b, asStr_s, asLen_f, asCells_f, tupL_t, refCells_r, ownLen_o]
      exact Ev.t rfl (Ev.t (heq 2 hh.symm) (Ev.t rfl (Ev.g (isBytes_e _) (Ev.t (eqS_t rfl) (Ev.t rfl (Ev.now _))))))
    · rw [if_neg q2] at hh
      refine Ev.t (ltI_t (by omega)) (Ev.t (ltI_t (by omega)) (Ev.c ra (Ev.g hfit (Ev.c rb (Ev.g hin2 (Ev.c rc ?_))))))
      simp only [hdV_c, tlV_c, parts1_a, asInt_i, asBool_b, asStr_s, asLen_f, asCells_f, tupL_t, refCells_r, ownLen_o]
      exact Ev.t rfl (Ev.t (heq 3 hh.symm) (Ev.t rfl (Ev.g (isBytes_e _) (Ev.t (eqS_t rfl) (Ev.t rfl (Ev.now _))))))


end Go.Proofs.Ytmhakjpjnnfidaa.FnItemsLong
