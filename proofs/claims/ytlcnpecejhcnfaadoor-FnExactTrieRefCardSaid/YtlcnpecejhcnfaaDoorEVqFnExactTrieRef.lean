/- FnExactTrieRef, the plain part: for every argument the law answers true. No conditions. -/
import Derived.Test.YtlcnpecejhcnfaaDoorEVcFnExactTrieRef
namespace Go.Proofs.YtlcnpecejhcnfaaDoor.FnExactTrieRef
open Go Go.Proofs Go.Proofs.YtlcnpecejhcnfaaDoor.EV
set_option linter.unusedVariables false
set_option linter.unusedSimpArgs false
set_option maxRecDepth 100000
def eI (n : Int) : List AV := [.int .i64 n]
theorem eI_len (n : Int) : (eI n).length = 1 := rfl
theorem notB_to {b : Bool} (h : notB b = true) : b = false := by cases b <;> first | rfl | cases h
theorem notB_fo {b : Bool} (h : notB b = false) : b = true := by cases b <;> first | rfl | cases h
theorem Ev.an {a b : Bool} {X : Nat → Nat → Nat → Nat → Option (List AV)} (h : a = true → Ev X [.bool b]) : Ev (fun k m p q => br (notB a) (some [.bool false]) (X k m p q)) [.bool (a && b)] := by
  cases a with
  | true => exact Ev.f rfl (h rfl)
  | false => exact Ev.t rfl (Ev.now _)
def eItem : Tree → List AV := Tree.cells
theorem eItem_len (x : Tree) : (eItem x).length = 3 := encItem.len x
theorem eItem_eq (x : Tree) : eItem x = [.bool x.b, .str x.t, .fs x.ks.length (x.ks.flatMap eItem)] := by
  cases x
  show Tree.cells _ = _
  rw [Tree.cells, Tree.cellsL_eq]
  rfl
theorem okItem_kids {x : Tree} (h : okItem x) : okStr x.t ∧ x.ks.length ≤ 9223372036854775807 ∧ ∀ y ∈ x.ks, okItem y := by
  cases x
  rw [okItem] at h
  exact ⟨h.1, h.2.1, okItems_mem _ h.2.2⟩
theorem ci0 {xs : List Tree} {i : Nat} (hi : i < xs.length) : cellAt (xs.flatMap eItem) (mulN (natI (i : Int)) 3) = .bool (xs[i]).b := by rw [cell_enc0 eItem_len hi (by decide), eItem_eq]; rfl
theorem ci1 {xs : List Tree} {i : Nat} (hi : i < xs.length) : cellAt (xs.flatMap eItem) (addN (mulN (natI (i : Int)) 3) 1) = .str (xs[i]).t := by rw [cell_enc eItem_len hi 1 (by decide), eItem_eq]; rfl
theorem ci2 {xs : List Tree} {i : Nat} (hi : i < xs.length) : cellAt (xs.flatMap eItem) (addN (mulN (natI (i : Int)) 3) 2) = .fs (xs[i]).ks.length ((xs[i]).ks.flatMap eItem) := by rw [cell_enc eItem_len hi 2 (by decide), eItem_eq]; rfl
/-- An item as an argument. -/
def aItem (x : Tree) : AV := .agg [.bool x.b, .str x.t, .fs x.ks.length (x.ks.flatMap eItem)]
theorem sm_kids {x : Tree} (h : x.wt ≤ 1048576) : x.ks.length ≤ 1048576 ∧ ∀ y ∈ x.ks, y.wt ≤ 1048576 := by
  rw [wt_eq] at h
  exact ⟨by omega, fun y hy => by have := wtL_mem _ y hy; omega⟩


def szw (w : Nat) (v : Int) : Int := if (w : Int) ≤ v then v - w else -1
def PSz (x : Tree) : Prop := okItem x → ∀ v : Int, 0 ≤ v → v ≤ 1048576 → Does cp n_laws_szItem [aItem x, .int .i64 v] [.int .i64 (szw x.wt v)]
theorem laws_szItemS_l (xs : List Tree) (hl : xs.length ≤ 1048576) (hk : ∀ y ∈ xs, okItem y) (hs : ∀ y ∈ xs, PSz y) (d : Nat) : ∀ (i : Nat) (v : Int), i + d = xs.length → 0 ≤ v → v ≤ 1048576 →
    Ev (fun k m _ _ => L_laws_szItemS_0 k m xs.length (xs.flatMap eItem) (i : Int) v) [.int .i64 (szw (Tree.wtL (xs.drop i)) v)] := by
  induction d with
  | zero =>
    intro i v hi h0 h1
    refine Ev.step (fun k m _ _ => L_laws_szItemS_0_s k m _ _ _ _) (Ev.f (ltI_f (by rw [lenI_c]; omega)) (Ev.some_ ?_))
    rw [List.drop_eq_nil_of_le (by omega), wtL_nil, szw, if_pos (by omega)]
    simp
  | succ d ih =>
    intro i v hi h0 h1
    have hi' : i < xs.length := by omega
    have hm := List.getElem_mem hi'
    refine Ev.step (fun k m _ _ => L_laws_szItemS_0_s k m _ _ _ _) (Ev.t (ltI_t (by rw [lenI_c]; omega)) (Ev.g (inR_n (by omega)) ?_))
    simp only [ci0 hi', ci1 hi', ci2 hi', hdV_c, tlV_c, parts1_a, asInt_i, asBool_b, asStr_s, asLen_f, asCells_f, tupL_t, refCells_r, ownLen_o]
    refine Ev.g rfl (Ev.c (hs _ hm (hk _ hm) v h0 h1) ?_)
    simp only [hdV_c, tlV_c, parts1_a, asInt_i, asBool_b, asStr_s, asLen_f, asCells_f, tupL_t, refCells_r, ownLen_o]
    rw [List.drop_eq_getElem_cons hi', wtL_cons]
    by_cases hc : ((xs[i]).wt : Int) ≤ v
    · refine Ev.f (ltI_f (by rw [szw, if_pos hc]; omega)) ?_
      rw [szw, if_pos hc, wrS (by omega)]
      refine (ih (i + 1) _ (by omega) (by omega) (by omega)).to ?_
      simp only [szw]
      congr 2
      by_cases h2 : ((Tree.wtL (xs.drop (i + 1)) : Nat) : Int) ≤ v - (xs[i]).wt
      · rw [if_pos h2, if_pos (by push_cast; omega)]; push_cast; omega
      · rw [if_neg h2, if_neg (by push_cast; omega)]
    · refine Ev.t (ltI_t (by rw [szw, if_neg hc]; omega)) (Ev.some_ ?_)
      rw [szw, if_neg (by push_cast; omega)]
theorem laws_szItemS_ev (xs : List Tree) (hl : xs.length ≤ 9223372036854775807) (hk : ∀ y ∈ xs, okItem y) (hs : ∀ y ∈ xs, PSz y) (v : Int) (h0 : 0 ≤ v) (h1 : v ≤ 1048576) :
    Does cp n_laws_szItemS [.fs xs.length (xs.flatMap eItem), .int .i64 v] [.int .i64 (szw (xs.length + Tree.wtL xs) v)] := by
  have e : wr .i64 (subI v (lenI xs.length)) = v - (xs.length : Int) := by rw [subI_d, lenI_c, wr64 (by omega)]
  by_cases c : v - (xs.length : Int) < 0
  · refine Ev.fn (fun k => F_laws_szItemS k _ _ _) (Ev.t (ltI_t (by rw [e]; exact c)) (Ev.some_ ?_))
    rw [szw, if_neg (by push_cast; omega)]
  · refine Ev.fn (fun k => F_laws_szItemS k _ _ _) (Ev.f (ltI_f (by rw [e]; exact c)) ?_)
    simp only [e]
    refine (laws_szItemS_l xs (by omega) hk hs xs.length 0 (v - (xs.length : Int)) (by omega) (by omega) (by omega)).l0.to ?_
    rw [List.drop_zero]
    simp only [szw]
    congr 2
    by_cases h2 : ((Tree.wtL xs : Nat) : Int) ≤ v - xs.length
    · rw [if_pos h2, if_pos (by push_cast; omega)]; push_cast; omega
    · rw [if_neg h2, if_neg (by push_cast; omega)]
theorem laws_szItem_ev : ∀ x : Tree, PSz x := Tree.ind1 fun x hx ok v h0 h1 => by
  obtain ⟨o1, o2, o3⟩ := okItem_kids ok
  have o1' : x.t.size ≤ 9223372036854775807 := o1
  have e : wr .i64 (subI v (lenI (lenS x.t))) = v - (x.t.size : Int) := by rw [subI_d, lenI_c, lenS_d, wr64 (by omega)]
  refine Ev.fn (fun k => F_laws_szItem k _ _ _ _ _) ?_
  rw [wt_eq]
  by_cases c : v - (x.t.size : Int) < 0
  · refine Ev.t (ltI_t (by rw [e]; exact c)) (Ev.some_ ?_)
    rw [szw, if_neg (by push_cast; omega)]
  · refine Ev.f (ltI_f (by rw [e]; exact c)) ?_
    simp only [e]
    refine Ev.c (laws_szItemS_ev x.ks o2 o3 hx _ (by omega) (by omega)) ?_
    simp only [hdV_c, tlV_c, parts1_a, asInt_i, asBool_b, asStr_s, asLen_f, asCells_f, tupL_t, refCells_r, ownLen_o]
    by_cases h2 : ((x.ks.length + Tree.wtL x.ks : Nat) : Int) ≤ v - x.t.size
    · refine Ev.f (ltI_f (by rw [szw, if_pos h2]; omega)) (Ev.some_ ?_)
      rw [szw, if_pos h2, szw, if_pos (by push_cast at h2 ⊢; omega)]
      push_cast
      congr 2
      omega
    · refine Ev.t (ltI_t (by rw [szw, if_neg h2]; omega)) (Ev.some_ ?_)
      rw [szw, if_neg (by push_cast at h2 ⊢; omega)]
def PTo (x : Tree) : Prop := x.wt ≤ 1048576 → Does cp n_laws_toItem [aItem x] [aItem x]
theorem laws_toItemS_l (xs : List Tree) (hl : xs.length ≤ 1048576) (hw : ∀ y ∈ xs, y.wt ≤ 1048576) (hs : ∀ y ∈ xs, PTo y) (d : Nat) : ∀ i : Nat, i + d = xs.length →
    Ev (fun k m _ _ => L_laws_toItemS_0 k m xs.length (xs.flatMap eItem) xs.length (i : Int) ((xs.take i).flatMap eItem ++ (List.replicate d ([.bool false, .str (ByteArray.mk (Array.mk [])), .fs 0 []] : List AV)).flatten)) [.fs xs.length (xs.flatMap eItem)] := by
  induction d with
  | zero =>
    intro i hi
    refine Ev.step (fun k m _ _ => L_laws_toItemS_0_s k m _ _ _ _ _) (Ev.f (ltI_f (by rw [lenI_c]; omega)) (Ev.some_ ?_))
    rw [List.replicate_zero, List.flatten_nil, List.append_nil, List.take_of_length_le (by omega), cut_all eItem_len]
  | succ d ih =>
    intro i hi
    have hi' : i < xs.length := by omega
    have hm := List.getElem_mem hi'
    have hset : setMany ((xs.take i).flatMap eItem ++ (List.replicate (d + 1) ([.bool false, .str (ByteArray.mk (Array.mk [])), .fs 0 []] : List AV)).flatten) (addN 0 (mulN (natI (i : Int)) 3)) ([.bool (xs[i]).b, .str (xs[i]).t, .fs (xs[i]).ks.length ((xs[i]).ks.flatMap eItem)] : List AV) = (xs.take (i + 1)).flatMap eItem ++ (List.replicate d ([.bool false, .str (ByteArray.mk (Array.mk [])), .fs 0 []] : List AV)).flatten := by
      rw [addN_d, Nat.zero_add, natI_c, mulN_d, ← take_next xs i (by omega)]
      have hp : (xs.take i).length = i := by rw [List.length_take]; omega
      have := fill_at eItem_len (z := ([.bool false, .str (ByteArray.mk (Array.mk [])), .fs 0 []] : List AV)) rfl (xs.take i) (xs[i]) d
      rw [hp, eItem_eq (xs[i])] at this
      exact this
    have hb : Nat.ble (Nat.succ (Nat.succ (Nat.succ (addN 0 (mulN (natI (i : Int)) 3))))) (List.length ((xs.take i).flatMap eItem ++ (List.replicate (d + 1) ([.bool false, .str (ByteArray.mk (Array.mk [])), .fs 0 []] : List AV)).flatten)) = true := by
      rw [fill_len eItem_len rfl, List.length_take]
      exact Nat.ble_eq_true_of_le (by rw [addN_d, natI_c, mulN_d, Nat.min_eq_left (by omega)]; omega)
    refine Ev.step (fun k m _ _ => L_laws_toItemS_0_s k m _ _ _ _ _) (Ev.t (ltI_t (by rw [lenI_c]; omega)) (Ev.g (inR_n (by omega)) ?_))
    simp only [ci0 hi', ci1 hi', ci2 hi', hdV_c, tlV_c, parts1_a, asInt_i, asBool_b, asStr_s, asLen_f, asCells_f, tupL_t, refCells_r, ownLen_o]
    refine Ev.g rfl (Ev.c (hs _ hm (hw _ hm)) (Ev.g (inR_n (by omega)) (Ev.g hb ?_)))
    simp only [aItem, hdV_c, tlV_c, parts1_a, asInt_i, asBool_b, asStr_s, asLen_f, asCells_f, tupL_t, refCells_r, ownLen_o, cut_all eItem_len, wrS (show i < 9223372036854775807 by omega), hset]
    exact ih (i + 1) (by omega)
theorem laws_toItemS_ev (xs : List Tree) (hl : xs.length ≤ 1048576) (hw : ∀ y ∈ xs, y.wt ≤ 1048576) (hs : ∀ y ∈ xs, PTo y) : Does cp n_laws_toItemS [.fs xs.length (xs.flatMap eItem)] [.fs xs.length (xs.flatMap eItem)] :=
  Ev.fn (fun k => F_laws_toItemS k _ _) (Ev.g (fit_small hl (by decide)) (laws_toItemS_l xs hl hw hs xs.length 0 (by omega)).l0)
theorem laws_toItem_ev : ∀ x : Tree, PTo x := Tree.ind1 fun x hx w =>
  Ev.fn (fun k => F_laws_toItem k _ _ _ _) (Ev.c (laws_toItemS_ev x.ks (sm_kids w).1 (sm_kids w).2 hx) (Ev.some_ (by simp only [aItem, hdV_c, tlV_c, parts1_a, asInt_i, asBool_b, asStr_s, asLen_f, asCells_f, tupL_t, refCells_r, ownLen_o, cut_all eItem_len])))
def PEq (x : Tree) : Prop := x.wt ≤ 1048576 → Does cp n_laws_eqItem [aItem x, aItem x] [.bool true]
theorem laws_eqItemS_l (xs : List Tree) (hl : xs.length ≤ 1048576) (hw : ∀ y ∈ xs, y.wt ≤ 1048576) (hs : ∀ y ∈ xs, PEq y) (d : Nat) : ∀ i : Nat, i + d = xs.length →
    Ev (fun k m _ _ => L_laws_eqItemS_0 k m xs.length (xs.flatMap eItem) xs.length (xs.flatMap eItem) (i : Int)) [.bool true] := by
  induction d with
  | zero =>
    intro i hi
    exact Ev.step (fun k m _ _ => L_laws_eqItemS_0_s k m _ _ _ _ _) (Ev.f (ltI_f (by rw [lenI_c]; omega)) (Ev.now _))
  | succ d ih =>
    intro i hi
    have hi' : i < xs.length := by omega
    have hm := List.getElem_mem hi'
    refine Ev.step (fun k m _ _ => L_laws_eqItemS_0_s k m _ _ _ _ _) (Ev.t (ltI_t (by rw [lenI_c]; omega)) (Ev.g (inR_n (by omega)) ?_))
    simp only [ci0 hi', ci1 hi', ci2 hi', hdV_c, tlV_c, parts1_a, asInt_i, asBool_b, asStr_s, asLen_f, asCells_f, tupL_t, refCells_r, ownLen_o]
    refine Ev.g rfl (Ev.g (inR_n (by omega)) (Ev.g rfl (Ev.c (hs _ hm (hw _ hm)) (Ev.f rfl ?_))))
    simp only [wrS (show i < 9223372036854775807 by omega)]
    exact ih (i + 1) (by omega)
theorem laws_eqItemS_same (xs : List Tree) (hl : xs.length ≤ 1048576) (hw : ∀ y ∈ xs, y.wt ≤ 1048576) (hs : ∀ y ∈ xs, PEq y) : Does cp n_laws_eqItemS [.fs xs.length (xs.flatMap eItem), .fs xs.length (xs.flatMap eItem)] [.bool true] :=
  Ev.fn (fun k => F_laws_eqItemS k _ _ _ _) (Ev.f (by rw [eqI_t rfl]; rfl) (laws_eqItemS_l xs hl hw hs xs.length 0 (by omega)).l0)
theorem laws_eqItem_same : ∀ x : Tree, PEq x := Tree.ind1 fun x hx w =>
  Ev.fn (fun k => F_laws_eqItem k _ _ _ _ _ _ _ _) (Ev.f (by rw [eqB_d]; simp [notB]) (Ev.f (by rw [eqS_t rfl]; rfl) (Ev.c (laws_eqItemS_same x.ks (sm_kids w).1 (sm_kids w).2 hx) (Ev.f rfl (Ev.now _)))))


def eB (n : Int) : List AV := [.int .u8 n]
theorem eB_len (n : Int) : (eB n).length = 1 := rfl
theorem ei {xs : List Int} {i : Nat} (hi : i < xs.length) : cellAt (xs.flatMap eI) (mulN (natI (i : Int)) 1) = .int .i64 xs[i] := cell_enc0 eI_len hi (by decide)
theorem ebi {xs : List Int} {i : Nat} (hi : i < xs.length) : cellAt (xs.flatMap eB) (mulN (natI (i : Int)) 1) = .int .u8 xs[i] := cell_enc0 eB_len hi (by decide)
theorem catB (xs : List Int) (n : Int) : catC (cutC (xs.flatMap eB) 0 (mulN xs.length 1)) (cutC [.int .u8 n] 0 1) = (xs ++ [n]).flatMap eB := by rw [cut_all eB_len, List.flatMap_append]; rfl
theorem fitN_small {n b : Nat} (h : n ≤ 1048576) (hb : b ≤ 4096) : Bool.and (fitN n b) Bool.true = true := by
  have : n * b ≤ 1048576 * 4096 := Nat.mul_le_mul h hb
  rw [Bool.and_true]
  exact Nat.ble_eq_true_of_le (by omega)
theorem addN1 (xs : List Int) (n : Int) : addN xs.length 1 = (xs ++ [n]).length := by rw [List.length_append]; rfl
theorem isBytes_e (xs : List Int) : isBytes (xs.flatMap eB) = true := by
  unfold isBytes
  rw [List.all_eq_true]
  intro v hv
  obtain ⟨n, _, hn⟩ := List.mem_flatMap.1 hv
  rw [eB, List.mem_singleton] at hn
  subst hn; rfl
theorem strOf_e (xs : List Int) : strOf (xs.flatMap eB) = EV.strOfNums xs := by
  unfold strOf EV.strOfNums
  congr 2
  induction xs with
  | nil => rfl
  | cons x r ih => rw [List.flatMap_cons, List.map_append, ih]; rfl
def leafOk (x : Tree) : Bool := decide (x.t.size ≤ 600) && decide (x.ks.length = 0)
def fits : Nat → Tree → Bool
  | 0, x => !x.b && leafOk x
  | d + 1, x => if x.b then decide (x.t = ByteArray.mk (Array.mk [])) && (decide (x.ks.length ≤ 17) && x.ks.all (fits d)) else leafOk x
theorem fits_leaf {x : Tree} (h : x.b = false) (d : Nat) : fits d x = leafOk x := by cases d <;> simp [fits, h]
theorem fits_text {x : Tree} (h : x.b = true) (h2 : ¬ x.t = ByteArray.mk (Array.mk [])) (d : Nat) : fits d x = false := by cases d <;> simp [fits, h, h2]
theorem fits_wide {x : Tree} (h : x.b = true) (h2 : 17 < x.ks.length) (d : Nat) : fits d x = false := by cases d <;> simp [fits, h]; omega
theorem fits_list {x : Tree} (h : x.b = true) (h2 : x.t = ByteArray.mk (Array.mk [])) (h3 : ¬ 17 < x.ks.length) (d : Nat) : fits (d + 1) x = x.ks.all (fits d) := by
  have : x.ks.length ≤ 17 := by omega
  simp [fits, h, h2, this]


theorem impl_itemFits_l (v : Int) (xs : List Tree) (hl : xs.length ≤ 17) (f : Tree → Bool) (hs : ∀ y ∈ xs, Does cp n_impl_itemFits [aItem y, .int .i64 (wr .i64 (subI v 1))] [.bool (f y)]) (d : Nat) : ∀ i : Nat, i + d = xs.length →
    Ev (fun k m _ _ => L_impl_itemFits_0 k m v xs.length (xs.flatMap eItem) (lenI xs.length) (i : Int)) [.bool ((xs.drop i).all f)] := by
  induction d with
  | zero =>
    intro i hi
    refine Ev.step (fun k m _ _ => L_impl_itemFits_0_s k m _ _ _ _ _) (Ev.f (ltI_f (by rw [lenI_c]; omega)) (Ev.some_ ?_))
    rw [List.drop_eq_nil_of_le (by omega)]; rfl
  | succ d ih =>
    intro i hi
    have hi' : i < xs.length := by omega
    have hm := List.getElem_mem hi'
    refine Ev.step (fun k m _ _ => L_impl_itemFits_0_s k m _ _ _ _ _) (Ev.t (ltI_t (by rw [lenI_c]; omega)) (Ev.g (inR_n (by omega)) ?_))
    simp only [ci0 hi', ci1 hi', ci2 hi', hdV_c, tlV_c, parts1_a, asInt_i, asBool_b, asStr_s, asLen_f, asCells_f, tupL_t, refCells_r, ownLen_o]
    refine Ev.g rfl (Ev.c (hs _ hm) ?_)
    rw [List.drop_eq_getElem_cons hi', List.all_cons]
    simp only [hdV_c, tlV_c, parts1_a, asInt_i, asBool_b, asStr_s, asLen_f, asCells_f, tupL_t, refCells_r, ownLen_o, wrS (show i < 9223372036854775807 by omega)]
    exact Ev.an fun _ => ih (i + 1) (by omega)
theorem impl_leaf {x : Tree} (h' : x.b = false) (d : Nat) : Ev (fun k m p q => br (leI (lenI (lenS x.t)) 600) (Option.some [AV.bool (eqI (lenI x.ks.length) 0)]) (Option.some [AV.bool Bool.false])) [.bool (fits d x)] := by
  refine Ev.b (fun h2 => Ev.some_ ?_) (fun h2 => Ev.some_ ?_)
  · have := leI_to h2; rw [lenI_c, lenS_d] at this
    rw [fits_leaf h', leafOk, eqI_d, lenI_c]
    have h3 : x.t.size ≤ 600 := by omega
    simp only [h3, decide_true, Bool.true_and]
    congr 3
    refine propext ?_
    omega
  · have := leI_fo h2; rw [lenI_c, lenS_d] at this
    rw [fits_leaf h', leafOk]
    have h3 : ¬ x.t.size ≤ 600 := by omega
    simp [h3]
theorem impl_itemFits_ev (d : Nat) : ∀ (x : Tree), d ≤ 4 → Does cp n_impl_itemFits [aItem x, .int .i64 (d : Int)] [.bool (fits d x)] := by
  induction d with
  | zero =>
    intro x hd
    refine Ev.fn (fun k => F_impl_itemFits k _ _ _ _ _) ?_
    by_cases h : x.b = true
    · refine Ev.f (by rw [h]; rfl) (Ev.b (fun h2 => Ev.some_ ?_) (fun h2 => Ev.b (fun h3 => Ev.some_ ?_) (fun h3 => Ev.t (eqI_t rfl) (Ev.some_ ?_))))
      all_goals simp [fits, h]
    · have h' : x.b = false := by simpa using h
      exact Ev.t (by rw [h']; rfl) (impl_leaf h' _)
  | succ d ih =>
    intro x hd
    refine Ev.fn (fun k => F_impl_itemFits k _ _ _ _ _) ?_
    by_cases h : x.b = true
    · refine Ev.f (by rw [h]; rfl) (Ev.b (fun h2 => Ev.some_ ?_) (fun h2 => Ev.b (fun h3 => Ev.some_ ?_) (fun h3 => ?_)))
      · have := notB_to h2; rw [eqS_d] at this
        rw [fits_text h (of_decide_eq_false this)]
      · have := ltI_to h3; rw [lenI_c] at this
        rw [fits_wide h (by omega)]
      · have h2' := notB_fo h2; rw [eqS_d] at h2'
        have h3' := ltI_fo h3; rw [lenI_c] at h3'
        refine Ev.f (eqI_f (by push_cast; omega)) ?_
        rw [fits_list h (of_decide_eq_true h2') (by omega)]
        have e : wr .i64 (subI ((d + 1 : Nat) : Int) 1) = (d : Int) := by rw [subI_d, wr64 (by push_cast; omega)]; push_cast; omega
        exact (impl_itemFits_l _ x.ks (by omega) (fits d) (fun y _ => by rw [e]; exact ih y (by omega)) x.ks.length 0 (by omega)).l0
    · have h' : x.b = false := by simpa using h
      exact Ev.t (by rw [h']; rfl) (impl_leaf h' _)
theorem impl_ItemOk_ev (x : Tree) : Does cp n_impl_ItemOk [aItem x] [.bool (fits 4 x)] := Ev.fn (fun k => F_impl_ItemOk k _ _ _ _) (Ev.c (impl_itemFits_ev 4 x (by omega)) (Ev.now _))


def numLE (n : Nat) : List Int := if h : n = 0 then [] else ((n % 256 : Nat) : Int) :: numLE (n / 256)
theorem numLE_zero : numLE 0 = [] := by rw [numLE]; simp
theorem numLE_pos {n : Nat} (h : 0 < n) : numLE n = ((n % 256 : Nat) : Int) :: numLE (n / 256) := by rw [numLE]; simp [show n ≠ 0 by omega]
theorem numLE_range (n : Nat) : ∀ x ∈ numLE n, 0 ≤ x ∧ x < 256 := by
  induction n using Nat.strongRecOn with
  | _ n ih =>
    intro x hx
    by_cases h : n = 0
    · subst h; rw [numLE_zero] at hx; simp at hx
    · rw [numLE_pos (by omega)] at hx
      rcases List.mem_cons.1 hx with rfl | hx
      · omega
      · exact ih (n / 256) (by omega) x hx
theorem numLE_length (j : Nat) : ∀ n : Nat, n < 256 ^ j → (numLE n).length ≤ j := by
  induction j with
  | zero => 
    intro n h
    obtain rfl : n = 0 := by simpa using h
    rw [numLE_zero]; simp
  | succ j ih =>
    intro n h
    by_cases h0 : n = 0
    · subst h0; rw [numLE_zero]; simp
    · rw [numLE_pos (by omega), List.length_cons]
      have := ih (n / 256) (by rw [Nat.pow_succ] at h; omega)
      omega
def numText (n : Int) : ByteArray := EV.strOfNums (numLE n.toNat).reverse
theorem numText_bytes (n : Int) : bts (numText n) = (numLE n.toNat).reverse := bts_strOf (fun x hx => numLE_range _ x (List.mem_reverse.1 hx))
theorem numText_size (n : Int) : (numText n).size = (numLE n.toNat).length := by rw [size_eq, numText_bytes, List.length_reverse]
theorem numText_size8 {n : Int} (h : n ≤ 9223372036854775807) : (numText n).size ≤ 8 := by
  rw [numText_size]
  exact numLE_length 8 _ (by omega)
theorem wr_u8' (n : Int) : wr .u8 n = n % 256 := by unfold wr; rw [IntKind.wrap_u8]
theorem shr8' (a : Int) : shrI .i64 a 8 = a / 256 := by
  show a.fdiv (2 ^ 8) = a / 256
  rw [Int.fdiv_eq_ediv_of_nonneg _ (by omega)]
  rfl
theorem setB {x : List Int} {i : Nat} (v : Int) (h : i < x.length) : setMany (x.flatMap eB) (mulN (natI (i : Int)) 1) [.int .u8 v] = (x.set i v).flatMap eB := by
  rw [natI_c, mulN_d]
  exact set_encs eB_len x i v h
theorem ebr {x : List Int} {i : Nat} (h : i < x.length) : cellAt (x.flatMap eB) (mulN (natI (i : Int)) 1) = .int .u8 (rd x (i : Int)) := by rw [ebi h, rd_get x i h]
theorem Reverse_l (o : List Int) (hb : o.length ≤ 1048576) (m : Nat) : ∀ (i : Nat) (x : List Int), o.length - 2 * i ≤ m → 2 * i ≤ o.length + 1 → x.length = o.length →
    (∀ j : Nat, j < o.length → rd x (j : Int) = if j < i ∨ o.length ≤ j + i then rd o ((o.length - 1 - j : Nat) : Int) else rd o (j : Int)) →
    Ev (fun k m _ _ => L_slices_Reverse_byte_a_0 k m o.length ((o.length : Int) - 1 - i) (i : Int) (x.flatMap eB)) [.tup [.ref true 5 (o.reverse.flatMap eB)]] := by
  have fin : ∀ (i : Nat) (x : List Int), o.length - 2 * i ≤ 1 → 2 * i ≤ o.length + 1 → x.length = o.length →
      (∀ j : Nat, j < o.length → rd x (j : Int) = if j < i ∨ o.length ≤ j + i then rd o ((o.length - 1 - j : Nat) : Int) else rd o (j : Int)) → x = o.reverse := by
    intro i x hm hi hl hx
    refine rd_ext (by simp [hl]) fun j hj => ?_
    rw [hx j (by omega), rd_reverse (by omega)]
    split
    · rfl
    · congr 1; omega
  induction m with
  | zero =>
    intro i x hm hi hl hx
    refine Ev.step (fun k m _ _ => L_slices_Reverse_byte_a_0_s k m _ _ _ _) (Ev.f (ltI_f (by omega)) (Ev.some_ ?_))
    rw [fin i x (by omega) hi hl hx]
  | succ m ih =>
    intro i x hm hi hl hx
    by_cases hij : (i : Int) < (o.length : Int) - 1 - i
    · have e2 : ((o.length : Int) - 1 - i) = ((o.length - 1 - i : Nat) : Int) := by omega
      have w1 : wr .i64 (addI (i : Int) 1) = ((i + 1 : Nat) : Int) := wrS (by omega)
      have w2 : wr .i64 (subI ((o.length - 1 - i : Nat) : Int) 1) = (o.length : Int) - 1 - ((i + 1 : Nat) : Int) := by rw [subI_d, wr64 (by omega)]; omega
      have hlen : (x.flatMap eB).length = o.length := by rw [encs_len eB_len, hl, Nat.mul_one]
      refine Ev.step (fun k m _ _ => L_slices_Reverse_byte_a_0_s k m _ _ _ _) (Ev.t (ltI_t hij) ?_)
      rw [e2, w1, w2]
      simp only [addN_d, Nat.zero_add]
      rw [ebr (x := x) (i := o.length - 1 - i) (by omega), ebr (x := x) (i := i) (by omega)]
      simp only [hdV_c, tlV_c, parts1_a, asInt_i, asBool_b, asStr_s, asLen_f, asCells_f, tupL_t, refCells_r, ownLen_o]
      rw [setB _ (by omega), setB _ (by rw [List.length_set]; omega)]
      refine Ev.g (inR_n (by omega)) (Ev.g rfl (Ev.g (inR_n (by omega)) (Ev.g rfl (Ev.g (inR_n (by omega)) (Ev.g ?_ (Ev.g (inR_n (by omega)) (Ev.g ?_ ?_)))))))
      · rw [hlen]; exact Nat.ble_eq_true_of_le (by rw [natI_c, mulN_d]; omega)
      · rw [encs_len eB_len, List.length_set, hl]; exact Nat.ble_eq_true_of_le (by rw [natI_c, mulN_d]; omega)
      refine ih (i + 1) _ (by omega) (by omega) (by simp [hl]) ?_
      intro j hj
      rw [rd_set _ _ (by rw [List.length_set]; omega), rd_set _ _ (by omega), hx i (by omega), hx (o.length - 1 - i) (by omega), hx j hj]
      by_cases h1 : j = o.length - 1 - i
      · rw [if_pos h1, if_neg (by omega), if_pos (by omega)]
        congr 1; omega
      · rw [if_neg h1]
        by_cases h2 : j = i
        · rw [if_pos h2, if_neg (by omega), if_pos (by omega)]
          congr 1; omega
        · rw [if_neg h2]
          by_cases h3 : j < i ∨ o.length ≤ j + i
          · rw [if_pos h3, if_pos (by omega)]
          · rw [if_neg h3, if_neg (by omega)]
    · refine Ev.step (fun k m _ _ => L_slices_Reverse_byte_a_0_s k m _ _ _ _) (Ev.f (ltI_f hij) (Ev.some_ ?_))
      rw [fin i x (by omega) hi hl hx]
theorem Reverse_ev (o : List Int) (hb : o.length ≤ 1048576) : Does cp n_slices_Reverse_byte [.tup [.ref true 5 (o.flatMap eB)], .own 0 0 o.length] [.tup [.ref true 5 (o.reverse.flatMap eB)]] := by
  have := (Reverse_l o hb o.length 0 o (by omega) (by omega) rfl (by intro j hj; rw [if_neg (by omega)])).l0
  refine Ev.fn (fun k => F_slices_Reverse_byte_a k _ _) ?_
  have e : wr .i64 (subI (lenI o.length) 1) = (o.length : Int) - 1 - ((0 : Nat) : Int) := by rw [subI_d, lenI_c, wr64 (by omega)]; omega
  rw [e]
  exact this
theorem impl_NumText_l (j : Nat) : ∀ (n : Nat) (xs : List Int), n < 256 ^ j → xs.length + j ≤ 1000 →
    Ev (fun k m _ _ => L_impl_NumText_0 k m (n : Int) xs.length (xs.flatMap eB)) [.str (EV.strOfNums (xs ++ numLE n).reverse)] := by
  have fin : ∀ xs : List Int, xs.length ≤ 1000 → Ev (fun k m _ _ => L_impl_NumText_0 k m ((0 : Nat) : Int) xs.length (xs.flatMap eB)) [.str (EV.strOfNums (xs ++ numLE 0).reverse)] := by
    intro xs hs
    have hc : cutC (xs.reverse.flatMap eB) 0 (mulN xs.length 1) = xs.reverse.flatMap eB := by
      have := cut_all eB_len xs.reverse
      rw [List.length_reverse] at this
      exact this
    refine Ev.step (fun k m _ _ => L_impl_NumText_0_s k m _ _ _) (Ev.f (ltI_f (by omega)) (Ev.c (Reverse_ev xs (by omega)) (Ev.g rfl ?_)))
    simp only [hdV_c, tlV_c, parts1_a, asInt_i, asBool_b, asStr_s, asLen_f, asCells_f, tupL_t, refCells_r, ownLen_o, hc]
    refine Ev.g (isBytes_e _) (Ev.some_ ?_)
    rw [strOf_e, numLE_zero, List.append_nil]
  induction j with
  | zero =>
    intro n xs h hs
    obtain rfl : n = 0 := by simpa using h
    exact fin xs (by omega)
  | succ j ih =>
    intro n xs h hs
    by_cases h0 : n = 0
    · subst h0; exact fin xs (by omega)
    · have e1 : wr .u8 (n : Int) = ((n % 256 : Nat) : Int) := by rw [wr_u8']; omega
      have e2 : shrI .i64 (n : Int) 8 = ((n / 256 : Nat) : Int) := by rw [shr8']; omega
      refine Ev.step (fun k m _ _ => L_impl_NumText_0_s k m _ _ _) (Ev.t (ltI_t (by omega)) (Ev.g (fitN_small (by rw [addN_d]; omega) (by decide)) ?_))
      rw [e1, e2, catB, addN1 xs ((n % 256 : Nat) : Int)]
      refine (ih (n / 256) _ (by rw [Nat.pow_succ] at h; omega) (by rw [List.length_append]; show xs.length + 1 + j ≤ 1000; omega)).to ?_
      rw [numLE_pos (show 0 < n by omega), List.append_assoc]
      rfl
theorem impl_NumText_ev (n : Nat) (h : n ≤ 9223372036854775807) : Does cp n_impl_NumText [.int .i64 (n : Int)] [.str (numText (n : Int))] :=
  Ev.fn (fun k => F_impl_NumText k _) (impl_NumText_l 8 n [] (by omega) (by show 0 + 8 ≤ 1000; omega)).l0
theorem one_byte (v : Int) : strOf (cutC [AV.int .u8 v] 0 1) = EV.strOfNums [v] := rfl
/-- What stands ahead of so many bytes. -/
def headT (base : Int) (n : Nat) : ByteArray :=
  if n ≤ 55 then EV.strOfNums [wr .u8 (wr .i64 (addI base (n : Int)))] else EV.strOfNums [wr .u8 (wr .i64 (addI (wr .i64 (addI base 55)) (lenI (lenS (numText (n : Int))))))] ++ numText (n : Int)
theorem headT_size {base : Int} {n : Nat} (h : n ≤ 9223372036854775807) : 1 ≤ (headT base n).size ∧ (headT base n).size ≤ 9 := by
  unfold headT
  have := numText_size8 (n := (n : Int)) (by omega)
  split
  · rw [EV.strOfNums_size]; exact ⟨Nat.le_refl _, by show 1 ≤ 9; omega⟩
  · rw [size_append, EV.strOfNums_size, List.length_singleton]; omega
theorem impl_lengthText_ev (base : Int) (n : Nat) (h : n ≤ 9223372036854775807) : Does cp n_impl_lengthText [.int .i64 base, .int .i64 (n : Int)] [.str (headT base n)] := by
  refine Ev.fn (fun k => F_impl_lengthText k _ _) ?_
  have := numText_size8 (n := (n : Int)) (by omega)
  unfold headT
  by_cases h1 : n ≤ 55
  · rw [if_pos h1]; exact Ev.t (leI_t (by omega)) (Ev.g rfl (Ev.now _))
  · rw [if_neg h1]
    refine Ev.f (leI_f (by omega)) (Ev.c (impl_NumText_ev n h) ?_)
    simp only [hdV_c, tlV_c, parts1_a, asInt_i, asBool_b, asStr_s, asLen_f, asCells_f, tupL_t, refCells_r, ownLen_o, one_byte]
    exact Ev.g rfl (Ev.g (fitS_small (by rw [EV.strOfNums_size, List.length_singleton]; omega)) (Ev.now _))


theorem bytesOf_e (s : ByteArray) : bytesOf s = (bts s).flatMap eB := by
  unfold bytesOf bts
  rw [List.flatMap_def, List.map_map]
  induction s.data.toList with
  | nil => rfl
  | cons b r ih => rw [List.map_cons, List.map_cons, List.flatten_cons, ← ih]; rfl
/-- A builder that has been written to, and its bytes. -/
def bldB (l : List Int) : AV := .tup [.ref false 104 [.ptr 0 0, .own 1 0 l.length], .ref true 5 (l.flatMap eB)]
def bldN (l : List Int) : AV := .tup [.ref false 104 [.ptr 0 0, .own 2 0 l.length], .any, .ref true 5 (l.flatMap eB)]
theorem Builder_WriteString_a_ev (s : ByteArray) (hs : s.size ≤ 1048576000) : Does cp n_strings_Builder_WriteString [.tup [.ref false 104 [.nilp, .nils]], .ptr 0 0, .str s] [bldB (bts s), .int .i64 (s.size : Int), .any] := by
  refine Ev.fn (fun k => F_strings_Builder_WriteString_a k s) (Ev.c (Ev.fn (fun k => F_strings_Builder_copyCheck_a k) (Ev.now _)) (Ev.g rfl (Ev.g ?_ (Ev.some_ ?_))))
  · unfold fitN lenS
    rw [Nat.mul_one]
    rw [Nat.ble_eq_true_of_le (by omega)]; rfl
  · unfold bldB
    rw [bytesOf_e, bts_length]; rfl
theorem Builder_copyCheck_b_ev (l : List Int) : Does cp n_strings_Builder_copyCheck [bldB l, .ptr 0 0] [bldB l] := Ev.fn (fun k => F_strings_Builder_copyCheck_b k _ _) (Ev.now _)
theorem Builder_WriteString_b_ev (l : List Int) (s : ByteArray) (hl : l.length + s.size ≤ 1048576000) : Does cp n_strings_Builder_WriteString [bldB l, .ptr 0 0, .str s] [bldN (l ++ bts s), .int .i64 (s.size : Int), .any] := by
  refine Ev.fn (fun k => F_strings_Builder_WriteString_b k _ _ s) (Ev.c (Builder_copyCheck_b_ev l) (Ev.g rfl ?_))
  simp only [bldB, hdV_c, tlV_c, parts1_a, asInt_i, asBool_b, asStr_s, asLen_f, asCells_f, tupL_t, refCells_r, ownLen_o]
  refine Ev.g ?_ (Ev.some_ ?_)
  · unfold fitN lenS addN
    rw [Nat.mul_one]
    rw [Nat.ble_eq_true_of_le (by omega)]; rfl
  · unfold bldN
    rw [bytesOf_e, cut_all eB_len, cat_encs, List.length_append, bts_length]; rfl


theorem Builder_String_a_ev (l : List Int) (h0 : l ≠ []) (hl : l.length ≤ 1048576000) : Does cp n_strings_Builder_String [bldB l, .ptr 0 0] [.tup [.ref false 104 [.ptr 0 0, .own 1 0 l.length], .any], .str (EV.strOfNums l)] := by
  have hc : cutC (l.flatMap eB) 0 l.length = l.flatMap eB := by
    have := cut_all eB_len l
    rw [mulN_d, Nat.mul_one] at this
    exact this
  have hp : 0 < l.length := List.length_pos_iff.2 h0
  have hle : (l.flatMap eB).length = l.length := by rw [encs_len eB_len, Nat.mul_one]
  refine Ev.fn (fun k => F_strings_Builder_String_b k _ _) ?_
  simp only [lenI_c, natI_c, addN_d, Nat.zero_add, hc, hle]
  refine Ev.g ?_ (Ev.g ?_ (Ev.some_ ?_))
  · cases hb : Nat.beq l.length 0 with
    | true => have := Nat.eq_of_beq_eq_true hb; omega
    | false => rfl
  · rw [ltI_t (by omega), leI_t (by omega), Nat.ble_eq_true_of_le (Nat.le_refl _), isBytes_e]; rfl
  · rw [strOf_e]


mutual
/-- The text of an item. -/
def itxt : Tree → ByteArray
  | .mk l t ks => if l = true then headT 192 (itxtL ks).size ++ itxtL ks else if t.size = 1 ∧ getS t 0 < 128 then t else headT 128 t.size ++ t
def itxtL : List Tree → ByteArray
  | [] => (⟨#[]⟩ : ByteArray)
  | x :: xs => itxt x ++ itxtL xs
end
theorem itxt_eq (x : Tree) : itxt x = if x.b = true then headT 192 (itxtL x.ks).size ++ itxtL x.ks else if x.t.size = 1 ∧ getS x.t 0 < 128 then x.t else headT 128 x.t.size ++ x.t := by cases x; rw [itxt]; rfl
theorem itxtL_nil : itxtL [] = (⟨#[]⟩ : ByteArray) := by rw [itxtL]
theorem itxtL_cons (x : Tree) (xs : List Tree) : itxtL (x :: xs) = itxt x ++ itxtL xs := by rw [itxtL]
theorem itxtL_append : ∀ (xs ys : List Tree), itxtL (xs ++ ys) = itxtL xs ++ itxtL ys
  | [], ys => by rw [List.nil_append, itxtL_nil, ba_nil_append]
  | x :: xs, ys => by rw [List.cons_append, itxtL_cons, itxtL_cons, itxtL_append xs ys, ba_append_assoc]
theorem itxtL_take (xs : List Tree) (i : Nat) (hi : i < xs.length) : itxtL (xs.take (i + 1)) = itxtL (xs.take i) ++ itxt xs[i] := by
  rw [← take_next xs i hi, itxtL_append, itxtL_cons, itxtL_nil, ba_append_nil]
theorem itxtL_part (xs : List Tree) (i : Nat) : (itxtL (xs.take i)).size ≤ (itxtL xs).size := by
  have : itxtL xs = itxtL (xs.take i) ++ itxtL (xs.drop i) := by rw [← itxtL_append, List.take_append_drop]
  rw [this, size_append]
  omega
def PSi (x : Tree) : Prop := x.wt ≤ 1048576 → 1 ≤ (itxt x).size ∧ (itxt x).size ≤ 9 + 9 * x.wt
theorem itxtL_size (xs : List Tree) (hw : ∀ y ∈ xs, y.wt ≤ 1048576) (h : ∀ y ∈ xs, PSi y) : (itxtL xs).size ≤ 9 * xs.length + 9 * Tree.wtL xs := by
  induction xs with
  | nil => rw [itxtL_nil]; exact Nat.zero_le _
  | cons x xs ih =>
    have h1 := (h x (by simp) (hw x (by simp))).2
    have h2 := ih (fun y hy => hw y (by simp [hy])) (fun y hy => h y (by simp [hy]))
    rw [itxtL_cons, size_append, List.length_cons, wtL_cons]
    omega
theorem itxt_size : ∀ x : Tree, PSi x := Tree.ind1 fun x hx w => by
  obtain ⟨k1, k2⟩ := sm_kids w
  have hs := itxtL_size x.ks k2 hx
  have hwt := wt_eq x
  rw [itxt_eq]
  split
  · have := headT_size (base := 192) (n := (itxtL x.ks).size) (by omega)
    rw [size_append]; omega
  · split
    · rename_i h; omega
    · have := headT_size (base := 128) (n := x.t.size) (by omega)
      rw [size_append]; omega
/-! the program -/
/-- What comes of an item: its text, or nothing where it is too long. -/
def Good (r : ByteArray × Bool) (t : ByteArray) : Prop := (r.2 = true → r.1 = t) ∧ (r.2 = false → r.1 = (⟨#[]⟩ : ByteArray) ∧ 900 < t.size)
def PIm (x : Tree) : Prop := x.wt ≤ 1048576 → ∃ r, Good r (itxt x) ∧ Does cp n_impl_itemText [aItem x] [.str r.1, .bool r.2]
theorem Builder_Len_w_ev (l : List Int) : Does cp n_strings_Builder_Len [bldB l, .ptr 0 0] [bldB l, .int .i64 (l.length : Int)] := Ev.fn (fun k => F_strings_Builder_Len_b k _ _) (Ev.now _)
theorem Builder_Len_n_ev : Does cp n_strings_Builder_Len [.tup [.ref false 104 [.nilp, .nils]], .ptr 0 0] [.tup [.ref false 104 [.nilp, .nils]], .int .i64 0] := Ev.fn (fun k => F_strings_Builder_Len_a k) (Ev.now _)
theorem Builder_String_n_ev : Does cp n_strings_Builder_String [.tup [.ref false 104 [.nilp, .nils]], .ptr 0 0] [.tup [.ref false 104 [.nilp, .nils]], .str (⟨#[]⟩ : ByteArray)] := Ev.fn (fun k => F_strings_Builder_String_a k) (Ev.now _)
theorem impl_itemText_l (xs : List Tree) (hl : xs.length ≤ 1048576) (hw : ∀ y ∈ xs, y.wt ≤ 1048576) (hwt : Tree.wtL xs ≤ 1048576) (hs : ∀ y ∈ xs, PIm y) (d : Nat) : ∀ (i : Nat) (l : List Int), i + d = xs.length → l ≠ [] → l = bts (itxtL (xs.take i)) → l.length ≤ 900 →
    ∃ r, Good r (headT 192 (itxtL xs).size ++ itxtL xs) ∧ Ev (fun k m _ _ => L_impl_itemText_0a k m xs.length (xs.flatMap eItem) (lenI xs.length) (i : Int) l.length (l.flatMap eB)) [.str r.1, .bool r.2] := by
  have hsz := itxtL_size xs hw (fun y _ => itxt_size y)
  induction d with
  | zero =>
    intro i l hi h0 hb h9
    rw [List.take_of_length_le (by omega)] at hb
    have hll : l.length = (itxtL xs).size := by rw [hb, bts_length]
    have hh := headT_size (base := 192) (n := l.length) (by omega)
    refine ⟨(headT 192 (itxtL xs).size ++ itxtL xs, true), ⟨fun _ => rfl, fun q => by cases q⟩, ?_⟩
    refine Ev.step (fun k m _ _ => L_impl_itemText_0a_s k m _ _ _ _ _ _) (Ev.f (ltI_f (by rw [lenI_c]; omega)) (Ev.c (Builder_Len_w_ev l) (Ev.g rfl (Ev.c (impl_lengthText_ev 192 l.length (by omega)) (Ev.c (Builder_String_a_ev l h0 (by omega)) (Ev.g rfl ?_))))))
    have hst : EV.strOfNums l = itxtL xs := by rw [hb, strOf_bts]
    simp only [hdV_c, tlV_c, parts1_a, asInt_i, asBool_b, asStr_s, asLen_f, asCells_f, tupL_t, refCells_r, ownLen_o, hst]
    exact Ev.g (fitS_small (by omega)) (Ev.some_ (by rw [hll]; rfl))
  | succ d ih =>
    intro i l hi h0 hb h9
    have hi' : i < xs.length := by omega
    have hm := List.getElem_mem hi'
    have h2 := itxtL_part xs (i + 1)
    have hst := itxt_size _ (hw _ hm)
    have htk := itxtL_take xs i hi'
    rw [htk, size_append] at h2
    have hll : l.length = (itxtL (xs.take i)).size := by rw [hb, bts_length]
    have hwhole : (headT 192 (itxtL xs).size ++ itxtL xs).size = (headT 192 (itxtL xs).size).size + (itxtL xs).size := size_append _ _
    obtain ⟨r0, ⟨g1, g2⟩, e0⟩ := hs _ hm (hw _ hm)
    cases hr : r0.2 with
    | false =>
      obtain ⟨g3, g4⟩ := g2 hr
      refine ⟨((⟨#[]⟩ : ByteArray), false), ⟨(fun q => by cases q), fun _ => ⟨rfl, by omega⟩⟩, ?_⟩
      refine Ev.step (fun k m _ _ => L_impl_itemText_0a_s k m _ _ _ _ _ _) (Ev.t (ltI_t (by rw [lenI_c]; omega)) (Ev.g (inR_n (by omega)) ?_))
      simp only [ci0 hi', ci1 hi', ci2 hi', hdV_c, tlV_c, parts1_a, asInt_i, asBool_b, asStr_s, asLen_f, asCells_f, tupL_t, refCells_r, ownLen_o]
      exact Ev.g rfl (Ev.c e0 (Ev.t (by simp only [hdV_c, tlV_c, parts1_a, asInt_i, asBool_b, asStr_s, asLen_f, asCells_f, tupL_t, refCells_r, ownLen_o]; rw [hr]; rfl) (Ev.now _)))
    | true =>
      have g3 := g1 hr
      have ew : wr .i64 (addI (l.length : Int) (lenI (lenS (itxt xs[i])))) = ((l.length + (itxt xs[i]).size : Nat) : Int) := by rw [addI_d, lenI_c, lenS_d, wr64 (by omega)]; omega
      by_cases hbig : 900 < l.length + (itxt xs[i]).size
      · refine ⟨((⟨#[]⟩ : ByteArray), false), ⟨(fun q => by cases q), fun _ => ⟨rfl, by omega⟩⟩, ?_⟩
        refine Ev.step (fun k m _ _ => L_impl_itemText_0a_s k m _ _ _ _ _ _) (Ev.t (ltI_t (by rw [lenI_c]; omega)) (Ev.g (inR_n (by omega)) ?_))
        simp only [ci0 hi', ci1 hi', ci2 hi', hdV_c, tlV_c, parts1_a, asInt_i, asBool_b, asStr_s, asLen_f, asCells_f, tupL_t, refCells_r, ownLen_o]
        refine Ev.g rfl (Ev.c e0 (Ev.f (by simp only [hdV_c, tlV_c, parts1_a, asInt_i, asBool_b, asStr_s, asLen_f, asCells_f, tupL_t, refCells_r, ownLen_o]; rw [hr]; rfl) (Ev.c (Builder_Len_w_ev l) (Ev.g rfl ?_))))
        simp only [hdV_c, tlV_c, parts1_a, asInt_i, asBool_b, asStr_s, asLen_f, asCells_f, tupL_t, refCells_r, ownLen_o, g3, ew]
        exact Ev.t (ltI_t (by omega)) (Ev.now _)
      · obtain ⟨r, gr, er⟩ := ih (i + 1) (l ++ bts (itxt xs[i])) (by omega) (by simp [h0]) (by rw [htk, bts_append, hb]) (by rw [List.length_append, bts_length]; omega)
        refine ⟨r, gr, ?_⟩
        refine Ev.step (fun k m _ _ => L_impl_itemText_0a_s k m _ _ _ _ _ _) (Ev.t (ltI_t (by rw [lenI_c]; omega)) (Ev.g (inR_n (by omega)) ?_))
        simp only [ci0 hi', ci1 hi', ci2 hi', hdV_c, tlV_c, parts1_a, asInt_i, asBool_b, asStr_s, asLen_f, asCells_f, tupL_t, refCells_r, ownLen_o]
        refine Ev.g rfl (Ev.c e0 (Ev.f (by simp only [hdV_c, tlV_c, parts1_a, asInt_i, asBool_b, asStr_s, asLen_f, asCells_f, tupL_t, refCells_r, ownLen_o]; rw [hr]; rfl) (Ev.c (Builder_Len_w_ev l) (Ev.g rfl ?_))))
        simp only [hdV_c, tlV_c, parts1_a, asInt_i, asBool_b, asStr_s, asLen_f, asCells_f, tupL_t, refCells_r, ownLen_o, g3, ew]
        refine Ev.f (ltI_f (by omega)) (Ev.c (Builder_WriteString_b_ev l (itxt xs[i]) (by omega)) (Ev.g rfl ?_))
        simp only [bldN, hdV_c, tlV_c, parts1_a, asInt_i, asBool_b, asStr_s, asLen_f, asCells_f, tupL_t, refCells_r, ownLen_o, wrS (show i < 9223372036854775807 by omega)]
        exact er
theorem impl_itemText_ev : ∀ x : Tree, PIm x := Tree.ind1 fun x hx w => by
  obtain ⟨k1, k2⟩ := sm_kids w
  have hwt := wt_eq x
  unfold PIm at hx
  rw [itxt_eq]
  cases hb : x.b with
  | false =>
    rw [if_neg (by simp)]
    have hh := headT_size (base := 128) (n := x.t.size) (by omega)
    have fin : Ev (fun k _ _ _ => bnd (evF cp k n_impl_lengthText [AV.int IntKind.i64 128, AV.int IntKind.i64 (lenI (lenS x.t))]) (fun r0 => gd (fitS (AV.asStr (hdV r0)) x.t) (some [AV.str (catS (AV.asStr (hdV r0)) x.t), AV.bool true]))) [.str (headT 128 x.t.size ++ x.t), .bool true] :=
      Ev.c (impl_lengthText_ev 128 x.t.size (by omega)) (Ev.g (fitS_small (by simp only [hdV_c, tlV_c, parts1_a, asInt_i, asBool_b, asStr_s, asLen_f, asCells_f, tupL_t, refCells_r, ownLen_o]; omega)) (Ev.now _))
    refine ⟨(if x.t.size = 1 ∧ getS x.t 0 < 128 then x.t else headT 128 x.t.size ++ x.t, true), ⟨fun _ => rfl, fun q => by cases q⟩, Ev.fn (fun k => F_impl_itemText k _ _ _ _) ?_⟩
    rw [hb]
    refine Ev.t rfl ?_
    by_cases h1 : x.t.size = 1
    · refine Ev.t (eqI_t (by rw [lenI_c, lenS_d]; omega)) (Ev.g (inR_t (by omega) (by rw [lenS_d]; omega)) ?_)
      by_cases h2 : getS x.t 0 < 128
      · rw [if_pos ⟨h1, h2⟩]; exact Ev.t (ltI_t h2) (Ev.now _)
      · rw [if_neg (fun q => h2 q.2)]; exact Ev.f (ltI_f h2) fin
    · rw [if_neg (fun q => h1 q.1)]; exact Ev.f (eqI_f (by rw [lenI_c, lenS_d]; omega)) fin
  | true =>
    rw [if_pos rfl]
    have hsz := itxtL_size x.ks k2 (fun y _ => itxt_size y)
    have hwl : Tree.wtL x.ks ≤ 1048576 := by omega
    generalize hks : x.ks = ks at *
    have go : ∃ r, Good r (headT 192 (itxtL ks).size ++ itxtL ks) ∧ Ev (fun k m _ _ => L_impl_itemText_0 k m ks.length (ks.flatMap eItem) (lenI ks.length) ((0 : Nat) : Int)) [.str r.1, .bool r.2] := by
      have hwhole : (headT 192 (itxtL ks).size ++ itxtL ks).size = (headT 192 (itxtL ks).size).size + (itxtL ks).size := size_append _ _
      cases ks with
      | nil =>
        have n0 : (⟨#[]⟩ : ByteArray).size = 0 := rfl
        refine ⟨(headT 192 (itxtL []).size ++ itxtL [], true), ⟨fun _ => rfl, fun q => by cases q⟩, ?_⟩
        rw [itxtL_nil, n0]
        have hh := headT_size (base := 192) (n := 0) (by omega)
        refine Ev.step (fun k m _ _ => L_impl_itemText_0_s k m _ _ _ _) (Ev.f (ltI_f (by rw [lenI_c]; show ¬ (0 : Int) < ((0 : Nat) : Int); omega)) (Ev.c Builder_Len_n_ev (Ev.g rfl (Ev.c (impl_lengthText_ev 192 0 (by omega)) (Ev.c Builder_String_n_ev (Ev.g rfl ?_))))))
        simp only [hdV_c, tlV_c, parts1_a, asInt_i, asBool_b, asStr_s, asLen_f, asCells_f, tupL_t, refCells_r, ownLen_o]
        exact Ev.g (fitS_small (by omega)) (Ev.now _)
      | cons y ys =>
        have hi' : 0 < (y :: ys).length := by simp
        have hm := List.getElem_mem hi'
        have h2 := itxtL_part (y :: ys) (0 + 1)
        have htk := itxtL_take (y :: ys) 0 hi'
        have hst := itxt_size _ (k2 _ hm)
        rw [List.take_zero, itxtL_nil, ba_nil_append] at htk
        rw [htk] at h2
        obtain ⟨r0, ⟨g1, g2⟩, e0⟩ := hx _ hm (k2 _ hm)
        cases hr : r0.2 with
        | false =>
          obtain ⟨g3, g4⟩ := g2 hr
          refine ⟨((⟨#[]⟩ : ByteArray), false), ⟨(fun q => by cases q), fun _ => ⟨rfl, by omega⟩⟩, ?_⟩
          refine Ev.step (fun k m _ _ => L_impl_itemText_0_s k m _ _ _ _) (Ev.t (ltI_t (by rw [lenI_c]; omega)) (Ev.g (inR_n (by omega)) ?_))
          simp only [ci0 hi', ci1 hi', ci2 hi', hdV_c, tlV_c, parts1_a, asInt_i, asBool_b, asStr_s, asLen_f, asCells_f, tupL_t, refCells_r, ownLen_o]
          exact Ev.g rfl (Ev.c e0 (Ev.t (by simp only [hdV_c, tlV_c, parts1_a, asInt_i, asBool_b, asStr_s, asLen_f, asCells_f, tupL_t, refCells_r, ownLen_o]; rw [hr]; rfl) (Ev.now _)))
        | true =>
          have g3 := g1 hr
          have ew : wr .i64 (addI 0 (lenI (lenS (itxt (y :: ys)[0])))) = (((itxt (y :: ys)[0]).size : Nat) : Int) := by rw [addI_d, lenI_c, lenS_d, wr64 (by omega)]; omega
          by_cases hbig : 900 < (itxt (y :: ys)[0]).size
          · refine ⟨((⟨#[]⟩ : ByteArray), false), ⟨(fun q => by cases q), fun _ => ⟨rfl, by omega⟩⟩, ?_⟩
            refine Ev.step (fun k m _ _ => L_impl_itemText_0_s k m _ _ _ _) (Ev.t (ltI_t (by rw [lenI_c]; omega)) (Ev.g (inR_n (by omega)) ?_))
            simp only [ci0 hi', ci1 hi', ci2 hi', hdV_c, tlV_c, parts1_a, asInt_i, asBool_b, asStr_s, asLen_f, asCells_f, tupL_t, refCells_r, ownLen_o]
            refine Ev.g rfl (Ev.c e0 (Ev.f (by simp only [hdV_c, tlV_c, parts1_a, asInt_i, asBool_b, asStr_s, asLen_f, asCells_f, tupL_t, refCells_r, ownLen_o]; rw [hr]; rfl) (Ev.c Builder_Len_n_ev (Ev.g rfl ?_))))
            simp only [hdV_c, tlV_c, parts1_a, asInt_i, asBool_b, asStr_s, asLen_f, asCells_f, tupL_t, refCells_r, ownLen_o, g3, ew]
            exact Ev.t (ltI_t (by omega)) (Ev.now _)
          · obtain ⟨r, gr, er⟩ := impl_itemText_l (y :: ys) k1 k2 hwl hx ys.length 1 (bts (itxt (y :: ys)[0])) (by simp; omega) (fun q => by
              have := congrArg List.length q
              rw [bts_length, List.length_nil] at this
              omega) (by rw [← htk]) (by rw [bts_length]; omega)
            refine ⟨r, gr, ?_⟩
            refine Ev.step (fun k m _ _ => L_impl_itemText_0_s k m _ _ _ _) (Ev.t (ltI_t (by rw [lenI_c]; omega)) (Ev.g (inR_n (by omega)) ?_))
            simp only [ci0 hi', ci1 hi', ci2 hi', hdV_c, tlV_c, parts1_a, asInt_i, asBool_b, asStr_s, asLen_f, asCells_f, tupL_t, refCells_r, ownLen_o]
            refine Ev.g rfl (Ev.c e0 (Ev.f (by simp only [hdV_c, tlV_c, parts1_a, asInt_i, asBool_b, asStr_s, asLen_f, asCells_f, tupL_t, refCells_r, ownLen_o]; rw [hr]; rfl) (Ev.c Builder_Len_n_ev (Ev.g rfl ?_))))
            simp only [hdV_c, tlV_c, parts1_a, asInt_i, asBool_b, asStr_s, asLen_f, asCells_f, tupL_t, refCells_r, ownLen_o, g3, ew]
            refine Ev.f (ltI_f (by omega)) (Ev.c (Builder_WriteString_a_ev (itxt (y :: ys)[0]) (by omega)) (Ev.g rfl ?_))
            simp only [bldB, hdV_c, tlV_c, parts1_a, asInt_i, asBool_b, asStr_s, asLen_f, asCells_f, tupL_t, refCells_r, ownLen_o, wrS (show 0 < 9223372036854775807 by omega)]
            exact er
    obtain ⟨r, gr, er⟩ := go
    refine ⟨r, gr, Ev.fn (fun k => F_impl_itemText k _ _ _ _) ?_⟩
    rw [hb, hks]
    exact Ev.f rfl er.l0


theorem spec_l17Deep_l (v : Int) (b : Bool) (t : ByteArray) (xs : List Tree) (hl : xs.length ≤ 17) (f : Tree → Bool) (hs : ∀ y ∈ xs, Does cp n_spec_l17Deep [aItem y, .int .i64 (wr .i64 (addI v 1))] [.bool (f y)]) (d : Nat) : ∀ i : Nat, i + d = xs.length →
    Ev (fun k m _ _ => L_spec_l17Deep_0 k m v (i : Int) b t xs.length (xs.flatMap eItem)) [.bool ((xs.drop i).all f)] := by
  induction d with
  | zero =>
    intro i hi
    refine Ev.step (fun k m _ _ => L_spec_l17Deep_0_s k m _ _ _ _ _ _) (Ev.f (ltI_f (by rw [lenI_c]; omega)) (Ev.some_ ?_))
    rw [List.drop_eq_nil_of_le (by omega)]; rfl
  | succ d ih =>
    intro i hi
    have hi' : i < xs.length := by omega
    have hm := List.getElem_mem hi'
    refine Ev.step (fun k m _ _ => L_spec_l17Deep_0_s k m _ _ _ _ _ _) (Ev.t (ltI_t (by rw [lenI_c]; omega)) (Ev.g (inR_n (by omega)) ?_))
    simp only [ci0 hi', ci1 hi', ci2 hi', hdV_c, tlV_c, parts1_a, asInt_i, asBool_b, asStr_s, asLen_f, asCells_f, tupL_t, refCells_r, ownLen_o]
    refine Ev.g rfl (Ev.c (hs _ hm) ?_)
    rw [List.drop_eq_getElem_cons hi', List.all_cons]
    simp only [hdV_c, tlV_c, parts1_a, asInt_i, asBool_b, asStr_s, asLen_f, asCells_f, tupL_t, refCells_r, ownLen_o, wrS (show i < 9223372036854775807 by omega)]
    exact Ev.an fun _ => ih (i + 1) (by omega)
theorem spec_l17Deep_ev (d : Nat) : ∀ (x : Tree), d ≤ 4 → Does cp n_spec_l17Deep [aItem x, .int .i64 (4 - (d : Int))] [.bool (fits d x)] := by
  induction d with
  | zero =>
    intro x hd
    refine Ev.fn (fun k => F_spec_l17Deep k _ _ _ _ _) ?_
    by_cases h : x.b = true
    · refine Ev.f (by rw [h]; rfl) (Ev.b (fun h2 => Ev.some_ ?_) (fun h2 => Ev.b (fun h3 => Ev.some_ ?_) (fun h3 => Ev.t (leI_t (by simp)) (Ev.some_ ?_))))
      all_goals simp [fits, h]
    · have h' : x.b = false := by simpa using h
      refine Ev.t (by rw [h']; rfl) (Ev.b (fun h2 => Ev.some_ ?_) (fun h2 => Ev.some_ ?_))
      · have := eqI_to h2; rw [lenI_c] at this
        rw [fits_leaf h', leafOk, leI_d, lenI_c, lenS_d]
        have h3 : x.ks.length = 0 := by omega
        simp only [h3, decide_true, Bool.and_true]
        congr 3
        refine propext ?_
        omega
      · have := eqI_fo h2; rw [lenI_c] at this
        rw [fits_leaf h', leafOk]
        have h3 : ¬ x.ks.length = 0 := by omega
        simp [h3]
  | succ d ih =>
    intro x hd
    refine Ev.fn (fun k => F_spec_l17Deep k _ _ _ _ _) ?_
    by_cases h : x.b = true
    · refine Ev.f (by rw [h]; rfl) (Ev.b (fun h2 => Ev.some_ ?_) (fun h2 => Ev.b (fun h3 => Ev.some_ ?_) (fun h3 => ?_)))
      · have := notB_to h2; rw [eqS_d] at this
        rw [fits_text h (of_decide_eq_false this)]
      · have := ltI_to h3; rw [lenI_c] at this
        rw [fits_wide h (by omega)]
      · have h2' := notB_fo h2; rw [eqS_d] at h2'
        have h3' := ltI_fo h3; rw [lenI_c] at h3'
        refine Ev.f (leI_f (by push_cast; omega)) ?_
        rw [fits_list h (of_decide_eq_true h2') (by omega)]
        have e : wr .i64 (addI (4 - ((d + 1 : Nat) : Int)) 1) = 4 - (d : Int) := by rw [addI_d, wr64 (by push_cast; omega)]; push_cast; omega
        exact (spec_l17Deep_l _ _ _ x.ks (by omega) (fits d) (fun y _ => by rw [e]; exact ih y (by omega)) x.ks.length 0 (by omega)).l0
    · have h' : x.b = false := by simpa using h
      refine Ev.t (by rw [h']; rfl) (Ev.b (fun h2 => Ev.some_ ?_) (fun h2 => Ev.some_ ?_))
      · have := eqI_to h2; rw [lenI_c] at this
        rw [fits_leaf h', leafOk, leI_d, lenI_c, lenS_d]
        have h3 : x.ks.length = 0 := by omega
        simp only [h3, decide_true, Bool.and_true]
        congr 3
        refine propext ?_
        omega
      · have := eqI_fo h2; rw [lenI_c] at this
        rw [fits_leaf h', leafOk]
        have h3 : ¬ x.ks.length = 0 := by omega
        simp [h3]
theorem spec_ItemOk_ev (x : Tree) : Does cp n_spec_ItemOk [aItem x] [.bool (fits 4 x)] := Ev.fn (fun k => F_spec_ItemOk k _ _ _ _) (Ev.c (spec_l17Deep_ev 4 x (by omega)) (Ev.now _))


theorem spec_NumText_l (j : Nat) : ∀ (n : Nat) (s : ByteArray), n < 256 ^ j → n ≤ 9223372036854775807 → s.size + j ≤ 1000 →
    Ev (fun k m _ _ => L_spec_NumText_0 k m (n : Int) s) [.str (EV.strOfNums (numLE n).reverse ++ s)] := by
  have fin : ∀ s : ByteArray, Ev (fun k m _ _ => L_spec_NumText_0 k m ((0 : Nat) : Int) s) [.str (EV.strOfNums (numLE 0).reverse ++ s)] := by
    intro s
    refine Ev.step (fun k m _ _ => L_spec_NumText_0_s k m _ _) (Ev.f (ltI_f (by omega)) (Ev.some_ ?_))
    rw [numLE_zero, List.reverse_nil, strOf_nil, ba_nil_append]
  induction j with
  | zero =>
    intro n s h hn hs
    obtain rfl : n = 0 := by simpa using h
    exact fin s
  | succ j ih =>
    intro n s h hn hs
    by_cases h0 : n = 0
    · subst h0; exact fin s
    · have e1 : wr .u8 (remI (n : Int) 256) = ((n % 256 : Nat) : Int) := by rw [wr_u8', remI_d, tmod_pos (by omega)]; omega
      have e2 : wr .i64 (quoI (n : Int) 256) = ((n / 256 : Nat) : Int) := by rw [quoI_d, tdiv_pos (by omega), wr64 (by omega)]; omega
      have hsz : (EV.strOfNums [((n % 256 : Nat) : Int)]).size = 1 := by rw [EV.strOfNums_size]; rfl
      refine Ev.step (fun k m _ _ => L_spec_NumText_0_s k m _ _) (Ev.t (ltI_t (by omega)) ?_)
      rw [e1, e2, one_byte]
      refine Ev.g rfl (Ev.g (fitS_small (by rw [hsz]; omega)) ?_)
      refine (ih (n / 256) _ (by rw [Nat.pow_succ] at h; omega) (by omega) (by show (catS _ _).size + j ≤ 1000; simp only [catS, ByteArray.size_append, hsz]; omega)).to ?_
      rw [numLE_pos (show 0 < n by omega), List.reverse_cons, strOf_append]
      show [AV.str (_ ++ (_ ++ _))] = _
      rw [ba_append_assoc]
theorem spec_NumText_ev (n : Nat) (h : n ≤ 9223372036854775807) : Does cp n_spec_NumText [.int .i64 (n : Int)] [.str (numText (n : Int))] :=
  Ev.fn (fun k => F_spec_NumText k _) ((spec_NumText_l 8 n (⟨#[]⟩ : ByteArray) (by omega) (by omega) (by show 0 + 8 ≤ 1000; omega)).l0.to (by rw [ba_append_nil]; rfl))
theorem spec_l17Head_ev (base : Int) (n : Nat) (h : n ≤ 9223372036854775807) : Does cp n_spec_l17Head [.int .i64 (n : Int), .int .i64 base] [.str (headT base n)] := by
  refine Ev.fn (fun k => F_spec_l17Head k _ _) ?_
  have := numText_size8 (n := (n : Int)) (by omega)
  unfold headT
  by_cases h1 : n ≤ 55
  · rw [if_pos h1]; exact Ev.t (leI_t (by omega)) (Ev.g rfl (Ev.now _))
  · rw [if_neg h1]
    refine Ev.f (leI_f (by omega)) (Ev.c (spec_NumText_ev n h) ?_)
    simp only [hdV_c, tlV_c, parts1_a, asInt_i, asBool_b, asStr_s, asLen_f, asCells_f, tupL_t, refCells_r, ownLen_o, one_byte]
    exact Ev.g rfl (Ev.g (fitS_small (by rw [EV.strOfNums_size, List.length_singleton]; omega)) (Ev.now _))


/-! the given reading -/
def PSp (x : Tree) : Prop := x.wt ≤ 1048576 → Does cp n_spec_l17Text [aItem x] [.str (itxt x)]
theorem spec_l17Text_l (xs : List Tree) (hl : xs.length ≤ 1048576) (hw : ∀ y ∈ xs, y.wt ≤ 1048576) (hwt : Tree.wtL xs ≤ 1048576) (hs : ∀ y ∈ xs, PSp y) (b : Bool) (t : ByteArray) (d : Nat) : ∀ i : Nat, i + d = xs.length →
    Ev (fun k m _ _ => L_spec_l17Text_0 k m (i : Int) (itxtL (xs.take i)) b t xs.length (xs.flatMap eItem)) [.str (headT 192 (itxtL xs).size ++ itxtL xs)] := by
  have hsz := itxtL_size xs hw (fun y _ => itxt_size y)
  induction d with
  | zero =>
    intro i hi
    have hh := headT_size (base := 192) (n := (itxtL xs).size) (by omega)
    rw [List.take_of_length_le (by omega)]
    refine Ev.step (fun k m _ _ => L_spec_l17Text_0_s k m _ _ _ _ _ _) (Ev.f (ltI_f (by rw [lenI_c]; omega)) (Ev.c (spec_l17Head_ev 192 (itxtL xs).size (by omega)) (Ev.g (fitS_small (by simp only [hdV_c, tlV_c, parts1_a, asInt_i, asBool_b, asStr_s, asLen_f, asCells_f, tupL_t, refCells_r, ownLen_o]; omega)) (Ev.now _))))
  | succ d ih =>
    intro i hi
    have hi' : i < xs.length := by omega
    have hm := List.getElem_mem hi'
    have h1 := itxtL_part xs i
    have h2 := itxtL_part xs (i + 1)
    have hst := itxt_size _ (hw _ hm)
    rw [itxtL_take xs i hi', size_append] at h2
    refine Ev.step (fun k m _ _ => L_spec_l17Text_0_s k m _ _ _ _ _ _) (Ev.t (ltI_t (by rw [lenI_c]; omega)) (Ev.g (inR_n (by omega)) ?_))
    simp only [ci0 hi', ci1 hi', ci2 hi', hdV_c, tlV_c, parts1_a, asInt_i, asBool_b, asStr_s, asLen_f, asCells_f, tupL_t, refCells_r, ownLen_o]
    refine Ev.g rfl (Ev.c (hs _ hm (hw _ hm)) (Ev.g (fitS_small (by simp only [hdV_c, tlV_c, parts1_a, asInt_i, asBool_b, asStr_s, asLen_f, asCells_f, tupL_t, refCells_r, ownLen_o]; omega)) ?_))
    have e : catS (itxtL (xs.take i)) (itxt xs[i]) = itxtL (xs.take (i + 1)) := (itxtL_take xs i hi').symm
    simp only [hdV_c, tlV_c, parts1_a, asInt_i, asBool_b, asStr_s, asLen_f, asCells_f, tupL_t, refCells_r, ownLen_o, wrS (show i < 9223372036854775807 by omega), e]
    exact ih (i + 1) (by omega)
theorem spec_l17Text_ev : ∀ x : Tree, PSp x := Tree.ind1 fun x hx w => by
  obtain ⟨k1, k2⟩ := sm_kids w
  have hwt := wt_eq x
  refine Ev.fn (fun k => F_spec_l17Text k _ _ _ _) ?_
  rw [itxt_eq]
  cases hb : x.b with
  | true =>
    rw [if_pos rfl]
    refine Ev.f rfl ?_
    have := (spec_l17Text_l x.ks k1 k2 (by omega) hx true x.t x.ks.length 0 (by omega)).l0
    rw [List.take_zero, itxtL_nil] at this
    exact this
  | false =>
    rw [if_neg (by simp)]
    have hh := headT_size (base := 128) (n := x.t.size) (by omega)
    have fin : Ev (fun k _ _ _ => bnd (evF cp k n_spec_l17Head [AV.int IntKind.i64 (lenI (lenS x.t)), AV.int IntKind.i64 128]) (fun r0 => gd (fitS (AV.asStr (hdV r0)) x.t) (some [AV.str (catS (AV.asStr (hdV r0)) x.t)]))) [.str (headT 128 x.t.size ++ x.t)] :=
      Ev.c (spec_l17Head_ev 128 x.t.size (by omega)) (Ev.g (fitS_small (by simp only [hdV_c, tlV_c, parts1_a, asInt_i, asBool_b, asStr_s, asLen_f, asCells_f, tupL_t, refCells_r, ownLen_o]; omega)) (Ev.now _))
    refine Ev.t rfl ?_
    by_cases h1 : x.t.size = 1
    · refine Ev.t (eqI_t (by rw [lenI_c, lenS_d]; omega)) (Ev.g (inR_t (by omega) (by rw [lenS_d]; omega)) ?_)
      by_cases h2 : getS x.t 0 < 128
      · rw [if_pos ⟨h1, h2⟩]; exact Ev.t (ltI_t h2) (Ev.now _)
      · rw [if_neg (fun q => h2 q.2)]; exact Ev.f (ltI_f h2) fin
    · rw [if_neg (fun q => h1 q.1)]; exact Ev.f (eqI_f (by rw [lenI_c, lenS_d]; omega)) fin


theorem spec_ItemText_ev (x : Tree) (w : x.wt ≤ 1048576) : ∃ r : ByteArray × Bool, r = (if fits 4 x = true ∧ (itxt x).size ≤ 900 then (itxt x, true) else ((⟨#[]⟩ : ByteArray), false)) ∧ Does cp n_spec_ItemText [aItem x] [.str r.1, .bool r.2] ∧ Does cp n_impl_ItemText [aItem x] [.str r.1, .bool r.2] := by
  refine ⟨_, rfl, ?_, ?_⟩
  · refine Ev.fn (fun k => F_spec_ItemText k _ _ _ _) (Ev.c (spec_ItemOk_ev x) ?_)
    cases ho : fits 4 x with
    | false =>
      rw [if_neg (fun q => by cases q.1)]
      exact Ev.t rfl (Ev.now _)
    | true =>
      refine Ev.f rfl (Ev.c (spec_l17Text_ev x w) ?_)
      simp only [hdV_c, tlV_c, parts1_a, asInt_i, asBool_b, asStr_s, asLen_f, asCells_f, tupL_t, refCells_r, ownLen_o]
      by_cases h : (itxt x).size ≤ 900
      · rw [if_pos ⟨by simp, h⟩]; exact Ev.f (ltI_f (by rw [lenI_c, lenS_d]; omega)) (Ev.now _)
      · rw [if_neg (fun q => h q.2)]; exact Ev.t (ltI_t (by rw [lenI_c, lenS_d]; omega)) (Ev.now _)
  · refine Ev.fn (fun k => F_impl_ItemText k _ _ _ _) (Ev.c (impl_ItemOk_ev x) ?_)
    cases ho : fits 4 x with
    | false =>
      rw [if_neg (fun q => by cases q.1)]
      exact Ev.t rfl (Ev.now _)
    | true =>
      obtain ⟨r, ⟨g1, g2⟩, e⟩ := impl_itemText_ev x w
      refine Ev.f rfl (Ev.c e ?_)
      simp only [hdV_c, tlV_c, parts1_a, asInt_i, asBool_b, asStr_s, asLen_f, asCells_f, tupL_t, refCells_r, ownLen_o]
      cases hr : r.2 with
      | false =>
        obtain ⟨_, g3⟩ := g2 hr
        rw [if_neg (fun q => by have := q.2; omega)]
        exact Ev.t rfl (Ev.now _)
      | true =>
        rw [g1 hr]
        refine Ev.f rfl ?_
        by_cases h : (itxt x).size ≤ 900
        · rw [if_pos ⟨by simp, h⟩]; exact Ev.f (ltI_f (by rw [lenI_c, lenS_d]; omega)) (Ev.now _)
        · rw [if_neg (fun q => h q.2)]; exact Ev.t (ltI_t (by rw [lenI_c, lenS_d]; omega)) (Ev.now _)


theorem arrA_len (k : IntKind) (a : List Int) : (arrC k a).length = a.length := by unfold arrC; simp
theorem cellA (k : IntKind) (a : List Int) {i : Nat} (h : i < a.length) : cellAt (arrC k a) i = .int k (nthI a i) := by
  unfold cellAt arrC nthI
  rw [List.getD_eq_getElem?_getD, List.getElem?_map, List.getElem?_eq_getElem h, List.getD_eq_getElem?_getD, List.getElem?_eq_getElem h]
  rfl
theorem setA (k : IntKind) (a : List Int) {i : Nat} (v : Int) (h : i < a.length) : setMany (arrC k a) i [.int k v] = arrC k (a.set i v) := by
  show (arrC k a).set i (.int k v) = _
  unfold arrC
  rw [List.map_set]
theorem cutA (k : IntKind) (a : List Int) : cutC (arrC k a) 0 a.length = arrC k a := by
  unfold cutC
  rw [List.drop_zero, List.take_of_length_le (by rw [arrA_len]; exact Nat.le_refl _)]
theorem intsA (k : IntKind) {a : List Int} {n : Nat} (h : a.length = n) : intsC (arrC k a) 0 n = a := by
  subst h
  unfold intsC
  rw [cutA]
  unfold arrC
  rw [List.map_map]
  exact List.map_id' a
theorem kindA (k : IntKind) {a : List Int} {n : Nat} (h : a.length = n) : kindC k (arrC k a) 0 n = true := by
  subst h
  unfold kindC
  rw [cutA, arrA_len, Nat.beq_refl, Bool.true_and]
  unfold arrC
  rw [List.all_map, List.all_eq_true]
  intro x _
  exact decide_eq_true rfl
theorem putA (k : IntKind) {cs : List AV} {a : List Int} (h : cs.length = a.length) : putC cs 0 k a = arrC k a := by
  unfold putC
  rw [List.take_zero, List.nil_append, Nat.zero_add, List.drop_eq_nil_of_le (by omega), List.append_nil]
theorem lenA {a : List Int} {n : Nat} (h : a.length = n) : lenL a n = true := by unfold lenL; rw [h]; exact Nat.beq_refl _
theorem okA (k : IntKind) (n : Int) : okAll [Sc.int k] [AV.int k n] = true := by rw [okAll1]; exact decide_eq_true rfl
theorem bleA (k : IntKind) {a : List Int} {i : Nat} (h : i < a.length) : Nat.ble (Nat.succ i) (List.length (arrC k a)) = true := Nat.ble_eq_true_of_le (by rw [arrA_len]; exact h)
theorem wrU (n : Int) : wr .u64 n = n % 18446744073709551616 := rfl
def bx (a b : Int) : Int := bitsOp .xor .u64 a b
theorem bx_range (a b : Int) : 0 ≤ bx a b ∧ bx a b < 18446744073709551616 := by
  have h : bx a b = (((BitVec.ofInt 64 a) ^^^ (BitVec.ofInt 64 b)).toNat : Int) % 18446744073709551616 := rfl
  omega
theorem bx_comm (a b : Int) : bx a b = bx b a := by
  show IntKind.u64.wrap ((BitVec.ofInt 64 a ^^^ BitVec.ofInt 64 b).toNat : Int) = IntKind.u64.wrap ((BitVec.ofInt 64 b ^^^ BitVec.ofInt 64 a).toNat : Int)
  rw [BitVec.xor_comm]
def rotl (v k : Int) : Int := bitsOp .or .u64 (wr .u64 (shlI .u64 v k)) (shrI .u64 v (wr .u64 (subI 64 k)))
theorem rotl0 {v : Int} (h : 0 ≤ v ∧ v < 18446744073709551616) : rotl v 0 = v := by
  unfold rotl
  have h1 : wr .u64 (subI 64 0) = 64 := rfl
  have h2 : shlI .u64 v 0 = v := by show v * 1 = v; omega
  have h3 : shrI .u64 v 64 = 0 := by
    show v.fdiv (2 ^ (min 64 64)) = 0
    rw [Int.fdiv_eq_ediv_of_nonneg _ (by decide)]
    exact Int.ediv_eq_zero_of_lt h.1 (by show v < 2 ^ 64; omega)
  have h4 : v % 18446744073709551616 = v := Int.emod_eq_of_lt h.1 h.2
  rw [h1, h2, h3, wrU, h4]
  show (((BitVec.ofInt 64 v) ||| (BitVec.ofInt 64 0)).toNat : Int) % 18446744073709551616 = v
  have h5 : BitVec.ofInt 64 0 = 0#64 := rfl
  rw [h5, BitVec.or_zero, BitVec.toNat_ofInt]
  have h6 : ((v % (2 ^ 64 : Nat)).toNat : Int) = v := by
    have : (((2 : Nat) ^ 64 : Nat) : Int) = 18446744073709551616 := rfl
    rw [this, h4]; omega
  rw [h6, h4]
theorem and63_ : ∀ k : Fin 64, bitsOp .and .u64 (wr .u64 (k.val : Int)) 63 = (k.val : Int) := by decide +kernel
theorem and63 {k : Int} (h : 0 ≤ k ∧ k < 64) : bitsOp .and .u64 (wr .u64 k) 63 = k := by
  have := and63_ ⟨k.toNat, by omega⟩
  simp only at this
  rwa [show ((k.toNat : Nat) : Int) = k by omega] at this
/-- Places filled, one behind the other. -/
def setsF (g : Nat → Nat × Int) : Nat → Nat → List Int → List Int
  | _, 0, c => c
  | x, n + 1, c => setsF g (x + 1) n (c.set (g x).1 (g x).2)
theorem setsF_len (g : Nat → Nat × Int) : ∀ (n x : Nat) (c : List Int), (setsF g x n c).length = c.length
  | 0, _, _ => rfl
  | n + 1, x, c => by rw [setsF, setsF_len g n, List.length_set]
def z25 : List Int := List.replicate 25 0
def z5 : List Int := [0, 0, 0, 0, 0]
def colX (a : List Int) (x : Nat) : Int := bx (bx (bx (bx (nthI a x) (nthI a (x + 5))) (nthI a (x + 10))) (nthI a (x + 15))) (nthI a (x + 20))
def kC (a : List Int) : List Int := setsF (fun x => (x, colX a x)) 0 5 z5
def kD (c : List Int) (x : Nat) : Int := bx (nthI c ((x + 4) % 5)) (rotl (nthI c ((x + 1) % 5)) 1)
def kV (a c : List Int) (x y : Nat) : Int := rotl (bx (nthI a (x + 5 * y)) (kD c x)) (nthI kecOff (x + 5 * y))
def kPos (x y : Nat) : Nat := y + 5 * ((2 * x + 3 * y) % 5)
theorem kPos_lt {x y : Nat} (h : y < 5) : kPos x y < 25 := by unfold kPos; omega
def setsX (v : Nat → Nat → Int) : Nat → Nat → List Int → List Int
  | _, 0, b => b
  | x, n + 1, b => setsX v (x + 1) n (setsF (fun y => (kPos x y, v x y)) 0 5 b)
def setsY (v : Nat → Nat → Int) : Nat → Nat → List Int → List Int
  | _, 0, b => b
  | y, n + 1, b => setsY v (y + 1) n (setsF (fun x => (kPos x y, v x y)) 0 5 b)
def kB (v : Nat → Nat → Int) : List Int := setsX v 0 5 z25
theorem kB_eq (v : Nat → Nat → Int) : setsY v 0 5 z25 = kB v := by kernel_rfl
theorem setsX_len (v : Nat → Nat → Int) : ∀ (n x : Nat) (b : List Int), (setsX v x n b).length = b.length
  | 0, _, _ => rfl
  | n + 1, x, b => by rw [setsX, setsX_len v n, setsF_len]
def kChi (b : List Int) (x y : Nat) : Int := bx (nthI b (x + 5 * y)) (bitsOp .and .u64 (bx (nthI b ((x + 1) % 5 + 5 * y)) 18446744073709551615) (nthI b ((x + 2) % 5 + 5 * y)))
def setsZ (b : List Int) : Nat → Nat → List Int → List Int
  | _, 0, a => a
  | y, n + 1, a => setsZ b (y + 1) n (setsF (fun x => (x + 5 * y, kChi b x y)) 0 5 a)
theorem setsZ_len (b : List Int) : ∀ (n x : Nat) (a : List Int), (setsZ b x n a).length = a.length
  | 0, _, _ => rfl
  | n + 1, x, a => by rw [setsZ, setsZ_len b n, setsF_len]
def kEnd (a : List Int) (rc : Int) : List Int := a.set 0 (bx (nthI a 0) rc)
def kR (a : List Int) (rc : Int) : List Int := kEnd (setsZ (kB (kV a (kC a))) 0 5 a) rc
theorem kR_len (a : List Int) (rc : Int) : (kR a rc).length = a.length := by unfold kR kEnd; rw [List.length_set, setsZ_len]
def kIt : Nat → Nat → List Int → List Int
  | _, 0, a => a
  | n, d + 1, a => kIt (n + 1) d (kR a (nthI kecRC n))
theorem kIt_len : ∀ (d n : Nat) (a : List Int), (kIt n d a).length = a.length
  | 0, _, _ => rfl
  | d + 1, n, a => by rw [kIt, kIt_len d, kR_len]
def kAll (a : List Int) : List Int := kIt 0 24 a
theorem kAll_len (a : List Int) : (kAll a).length = a.length := by unfold kAll; rw [kIt_len]
theorem kAll_eq (a : List Int) : kIt 0 24 a = kAll a := rfl
attribute [irreducible] kAll
/-- A word of a text. -/
def kWd (s : ByteArray) (at_ : Nat) : Nat → Int → Int
  | 0, w => w
  | i + 1, w => kWd s at_ i (bitsOp .or .u64 (wr .u64 (shlI .u64 w 8)) (wr .u64 (getS s ((at_ + i : Nat) : Int))))
def kW (s : ByteArray) (at_ : Nat) : Int := kWd s at_ 8 0
def kAbs (s : ByteArray) (at_ : Nat) : Nat → Nat → List Int → List Int
  | _, 0, a => a
  | i, n + 1, a => kAbs s at_ (i + 1) n (a.set i (bx (nthI a i) (kW s (at_ + 8 * i))))
theorem kAbs_len (s : ByteArray) (at_ : Nat) : ∀ (n i : Nat) (a : List Int), (kAbs s at_ i n a).length = a.length
  | 0, _, _ => rfl
  | n + 1, i, a => by rw [kAbs, kAbs_len s at_ n, List.length_set]
def kSp (s : ByteArray) : Nat → Nat → List Int → List Int
  | _, 0, a => a
  | at_, d + 1, a => kSp s (at_ + 136) d (kAll (kAbs s at_ 0 17 a))
def kByte (a : List Int) (i : Nat) : Int := wr .u8 (shrI .u64 (nthI a (i / 8)) ((8 * (i % 8) : Nat) : Int))
def kT (a : List Int) : List Int := (List.range 200).map (kByte a)
def kPad0 (l : List Int) : List Int := l ++ (1 :: List.replicate (135 - l.length % 136) 0)
def kLast (l : List Int) : List Int := l.set (l.length - 1) (bitsOp .or .u8 (nthI l (l.length - 1)) 128)
def kPad (l : List Int) : List Int := kLast (kPad0 l)
theorem kPad_len (l : List Int) : (kPad l).length = (l.length / 136 + 1) * 136 := by
  unfold kPad kLast kPad0
  rw [List.length_set, List.length_append, List.length_cons, List.length_replicate]
  omega
def dig (s : ByteArray) : ByteArray := subS (EV.strOfNums (kT (kSp (EV.strOfNums (kPad (bts s))) 0 (s.size / 136 + 1) z25))) 0 32
theorem kT_len (a : List Int) : (kT a).length = 200 := by unfold kT; rw [List.length_map, List.length_range]
theorem dig_len (s : ByteArray) : (dig s).size = 32 := by
  unfold dig subS
  rw [ByteArray.size_extract]
  have : (EV.strOfNums (kT (kSp (EV.strOfNums (kPad (bts s))) 0 (s.size / 136 + 1) z25))).size = 200 := by rw [EV.strOfNums_size, kT_len]
  omega


theorem iAdd {x c' : Nat} {c : Int} (hc : c = (c' : Int)) (h : x + c' < 1152921504606846976) : wr .i64 (addI (x : Int) c) = ((x + c' : Nat) : Int) := by subst hc; rw [addI_d, wr64 (by omega)]; omega
theorem iMul {y c' : Nat} {c : Int} (hc : c = (c' : Int)) (h : c' * y < 1152921504606846976) : wr .i64 (mulI c (y : Int)) = ((c' * y : Nat) : Int) := by
  subst hc
  have e : ((c' : Int) * (y : Int)) = ((c' * y : Nat) : Int) := by push_cast; rfl
  rw [mulI_d, e, wr64 (by omega)]
theorem iRem (x : Nat) : remI (x : Int) 5 = ((x % 5 : Nat) : Int) := by rw [remI_d, tmod_pos (by omega)]; omega
theorem ixA (n : Nat) : addN 0 (mulN (natI (n : Int)) 1) = n := by rw [natI_c, mulN_d, addN_d]; omega
theorem spec_l03Word_l (s : ByteArray) (a : Nat) (ha : a + 8 ≤ s.size) (hs : s.size < 1152921504606846976) : ∀ (i : Nat) (w : Int), i ≤ 8 → Ev (fun k m _ _ => L_spec_l03Word_0 k m (a : Int) s ((i : Int) - 1) w) [.int .u64 (kWd s a i w)]
  | 0, w, _ => Ev.step (fun k m _ _ => L_spec_l03Word_0_s k m _ _ _ _) (Ev.f (leI_f (by omega)) (Ev.now _))
  | i + 1, w, hi => by
    have e1 : wr .i64 (addI (a : Int) (((i + 1 : Nat) : Int) - 1)) = ((a + i : Nat) : Int) := by rw [addI_d, wr64 (by omega)]; omega
    have e2 : wr .i64 (subI (((i + 1 : Nat) : Int) - 1) 1) = (i : Int) - 1 := by rw [subI_d, wr64 (by omega)]; omega
    refine Ev.step (fun k m _ _ => L_spec_l03Word_0_s k m _ _ _ _) (Ev.t (leI_t (by omega)) ?_)
    simp only [e1, e2]
    exact Ev.g (inR_n (by show a + i < s.size; omega)) (spec_l03Word_l s a ha hs i _ (by omega))
theorem spec_l03Word_ev (s : ByteArray) (a : Nat) (ha : a + 8 ≤ s.size) (hs : s.size < 1152921504606846976) : Does cp n_spec_l03Word [.str s, .int .i64 (a : Int)] [.int .u64 (kW s a)] :=
  Ev.fn (fun k => F_spec_l03Word k s a) (Ev.l0 (spec_l03Word_l s a ha hs 8 0 (by omega)))
theorem impl_wordAt_l (s : ByteArray) (a : Nat) (ha : a + 8 ≤ s.size) (hs : s.size < 1152921504606846976) : ∀ (i : Nat) (w : Int), i ≤ 8 → Ev (fun k m _ _ => L_impl_wordAt_0 k m (a : Int) s ((i : Int) - 1) w) [.int .u64 (kWd s a i w)]
  | 0, w, _ => Ev.step (fun k m _ _ => L_impl_wordAt_0_s k m _ _ _ _) (Ev.f (leI_f (by omega)) (Ev.now _))
  | i + 1, w, hi => by
    have e1 : wr .i64 (addI (a : Int) (((i + 1 : Nat) : Int) - 1)) = ((a + i : Nat) : Int) := by rw [addI_d, wr64 (by omega)]; omega
    have e2 : wr .i64 (subI (((i + 1 : Nat) : Int) - 1) 1) = (i : Int) - 1 := by rw [subI_d, wr64 (by omega)]; omega
    refine Ev.step (fun k m _ _ => L_impl_wordAt_0_s k m _ _ _ _) (Ev.t (leI_t (by omega)) ?_)
    simp only [e1, e2]
    exact Ev.g (inR_n (by show a + i < s.size; omega)) (impl_wordAt_l s a ha hs i _ (by omega))
theorem impl_wordAt_ev (s : ByteArray) (a : Nat) (ha : a + 8 ≤ s.size) (hs : s.size < 1152921504606846976) : Does cp n_impl_wordAt [.str s, .int .i64 (a : Int)] [.int .u64 (kW s a)] :=
  Ev.fn (fun k => F_impl_wordAt k s a) (Ev.l0 (impl_wordAt_l s a ha hs 8 0 (by omega)))
theorem spec_l03Turn_ev (v k : Int) (h : 0 ≤ k ∧ k < 64) : Does cp n_spec_l03Turn [.int .u64 v, .int .u64 k] [.int .u64 (rotl v k)] :=
  Ev.fn (fun q => F_spec_l03Turn q v k) (Ev.g (leI_t h.1) (Ev.g (leI_t (by rw [wrU]; omega)) (Ev.now _)))
theorem rotateLeft_ev (v k : Int) (h : 0 ≤ k ∧ k < 64) : Does cp n_math_bits_RotateLeft64 [.int .u64 v, .int .i64 k] [.int .u64 (rotl v k)] := by
  refine Ev.fn (fun q => F_math_bits_RotateLeft64 q v k) ?_
  simp only [and63 h]
  exact Ev.g (leI_t h.1) (Ev.g (leI_t (by rw [wrU]; omega)) (Ev.now _))
theorem off_range_ : ∀ i : Fin 25, 0 ≤ nthI kecOff i.val ∧ nthI kecOff i.val < 64 := by decide
theorem off_range {i : Nat} (h : i < 25) : 0 ≤ nthI kecOff i ∧ nthI kecOff i < 64 := off_range_ ⟨i, h⟩


section
variable {a : List Int} {rc : Int} {r : List AV}
theorem spec_round4 {b : List Int} (hb : b.length = 25) {y : Nat} (hy : y < 5) : ∀ (n x : Nat) (a : List Int), x + n = 5 → a.length = 25 →
    Ev (fun k m _ _ => L_spec_l03Round_3 k m ((y + 1 : Nat) : Int) rc (arrC .u64 (setsF (fun x => (x + 5 * y, kChi b x y)) x n a)) (arrC .u64 b) (arrC .u64 z25)) r →
    Ev (fun k m p _ => L_spec_l03Round_4 k m p (y : Int) rc (x : Int) (arrC .u64 a) (arrC .u64 b) (arrC .u64 z25)) r
  | 0, x, a, hx, ha, h => by
    refine Ev.step (fun k m p _ => L_spec_l03Round_4_s k m p _ _ _ _ _ _) (Ev.f (ltI_f (by omega)) ?_)
    have q9 : wr .i64 (addI (y : Int) 1) = ((y + 1 : Nat) : Int) := iAdd rfl (by omega)
    simp only [q9]
    exact Ev.o1 h
  | n + 1, x, a, hx, ha, h => by
    have q1 : wr .i64 (mulI 5 (y : Int)) = ((5 * y : Nat) : Int) := iMul rfl (by omega)
    have q2 : wr .i64 (addI (x : Int) ((5 * y : Nat) : Int)) = ((x + 5 * y : Nat) : Int) := iAdd rfl (by omega)
    have q3 : wr .i64 (addI (x : Int) 1) = ((x + 1 : Nat) : Int) := iAdd rfl (by omega)
    have q4 : wr .i64 (addI (x : Int) 2) = ((x + 2 : Nat) : Int) := iAdd rfl (by omega)
    have q5 : wr .i64 (addI (((x + 1) % 5 : Nat) : Int) ((5 * y : Nat) : Int)) = (((x + 1) % 5 + 5 * y : Nat) : Int) := iAdd rfl (by omega)
    have q6 : wr .i64 (addI (((x + 2) % 5 : Nat) : Int) ((5 * y : Nat) : Int)) = (((x + 2) % 5 + 5 * y : Nat) : Int) := iAdd rfl (by omega)
    refine Ev.step (fun k m p _ => L_spec_l03Round_4_s k m p _ _ _ _ _ _) (Ev.t (ltI_t (by omega)) ?_)
    simp only [q1, q2, q3, q4, iRem, q5, q6, ixA, cellA .u64 b (show x + 5 * y < b.length by omega), cellA .u64 b (show (x + 1) % 5 + 5 * y < b.length by omega), cellA .u64 b (show (x + 2) % 5 + 5 * y < b.length by omega), asInt_i, setA .u64 a _ (show x + 5 * y < a.length by omega)]
    exact Ev.g (inR_n (by omega)) (Ev.g (okA _ _) (Ev.g (inR_n (by omega)) (Ev.g (okA _ _) (Ev.g (inR_n (by omega)) (Ev.g (okA _ _) (Ev.g (inR_n (by omega)) (Ev.g (bleA .u64 (by omega)) (spec_round4 hb hy n (x + 1) _ (by omega) (by rw [List.length_set]; exact ha) h))))))))
theorem spec_round3 {b : List Int} (hb : b.length = 25) : ∀ (n y : Nat) (a : List Int), y + n = 5 → a.length = 25 →
    Ev (fun k m _ _ => L_spec_l03Round_3 k m (y : Int) rc (arrC .u64 a) (arrC .u64 b) (arrC .u64 z25)) [.arr .u64 (kEnd (setsZ b y n a) rc)]
  | 0, y, a, hy, ha => by
    refine Ev.step (fun k m _ _ => L_spec_l03Round_3_s k m _ _ _ _ _) (Ev.f (ltI_f (by omega)) ?_)
    have h1 : (a.set 0 (bitsOp .xor .u64 (nthI a 0) rc)).length = 25 := by rw [List.length_set]; exact ha
    simp only [cellA .u64 a (show 0 < a.length by omega), asInt_i, setA .u64 a _ (show 0 < a.length by omega), intsA .u64 h1, putA .u64 (show (arrC .u64 z25).length = (a.set 0 (bitsOp .xor .u64 (nthI a 0) rc)).length by rw [h1]; rfl)]
    exact Ev.g (okA _ _) (Ev.g (Nat.ble_eq_true_of_le (by rw [arrA_len]; omega)) (Ev.g (kindA .u64 h1) (Ev.g (by rw [lenA h1]; rfl) (Ev.g (by rw [kindA .u64 h1]; rfl) (Ev.now _)))))
  | n + 1, y, a, hy, ha =>
    Ev.step (fun k m _ _ => L_spec_l03Round_3_s k m _ _ _ _ _) (Ev.t (ltI_t (by omega)) (Ev.l1 (spec_round4 hb (by omega) 5 0 a rfl ha (spec_round3 hb n (y + 1) _ (by omega) (by rw [setsF_len]; exact ha)))))
theorem spec_round2 {c : List Int} (ha : a.length = 25) (hc : c.length = 5) {x : Nat} (hx : x < 5) : ∀ (n y : Nat) (b : List Int), y + n = 5 → b.length = 25 →
    Ev (fun k m _ _ => L_spec_l03Round_1 k m ((x + 1 : Nat) : Int) rc (arrC .u64 (setsF (fun y => (kPos x y, kV a c x y)) y n b)) (arrC .u64 kecOff) (arrC .u64 a) (arrC .u64 c) (arrC .u64 z25)) r →
    Ev (fun k m p _ => L_spec_l03Round_2 k m p (x : Int) (kD c x) rc (y : Int) (arrC .u64 b) (arrC .u64 kecOff) (arrC .u64 a) (arrC .u64 c) (arrC .u64 z25)) r
  | 0, y, b, hy, hb, h => by
    refine Ev.step (fun k m p _ => L_spec_l03Round_2_s k m p _ _ _ _ _ _ _ _ _) (Ev.f (ltI_f (by omega)) ?_)
    have q9 : wr .i64 (addI (x : Int) 1) = ((x + 1 : Nat) : Int) := iAdd rfl (by omega)
    simp only [q9]
    exact Ev.o1 h
  | n + 1, y, b, hy, hb, h => by
    have q1 : wr .i64 (mulI 5 (y : Int)) = ((5 * y : Nat) : Int) := iMul rfl (by omega)
    have q2 : wr .i64 (addI (x : Int) ((5 * y : Nat) : Int)) = ((x + 5 * y : Nat) : Int) := iAdd rfl (by omega)
    have p1 : wr .i64 (mulI 2 (x : Int)) = ((2 * x : Nat) : Int) := iMul rfl (by omega)
    have p2 : wr .i64 (mulI 3 (y : Int)) = ((3 * y : Nat) : Int) := iMul rfl (by omega)
    have p3 : wr .i64 (addI ((2 * x : Nat) : Int) ((3 * y : Nat) : Int)) = ((2 * x + 3 * y : Nat) : Int) := iAdd rfl (by omega)
    have p4 : wr .i64 (mulI 5 (((2 * x + 3 * y) % 5 : Nat) : Int)) = ((5 * ((2 * x + 3 * y) % 5) : Nat) : Int) := iMul rfl (by omega)
    have p5 : wr .i64 (addI (y : Int) ((5 * ((2 * x + 3 * y) % 5) : Nat) : Int)) = ((kPos x y : Nat) : Int) := iAdd rfl (by omega)
    have q3 : wr .i64 (addI (y : Int) 1) = ((y + 1 : Nat) : Int) := iAdd rfl (by omega)
    have hp := kPos_lt (x := x) (show y < 5 by omega)
    refine Ev.step (fun k m p _ => L_spec_l03Round_2_s k m p _ _ _ _ _ _ _ _ _) (Ev.t (ltI_t (by omega)) ?_)
    simp only [q1, q2, q3, p1, p2, p3, iRem, p4, p5, ixA, cellA .u64 a (show x + 5 * y < a.length by omega), cellA .u64 kecOff (show x + 5 * y < kecOff.length by show _ < 25; omega), asInt_i]
    have ho := off_range (show x + 5 * y < 25 by omega)
    refine Ev.g (inR_n (by omega)) (Ev.g (okA _ _) (Ev.g (inR_n (by omega)) (Ev.g (okA _ _) (Ev.b (fun _ => Ev.c (spec_l03Turn_ev _ _ ho) ?_) (fun h0 => ?_)))))
    · simp only [hdV_c, tlV_c, parts1_a, asInt_i, asBool_b, asStr_s, asLen_f, asCells_f, tupL_t, refCells_r, ownLen_o, setA .u64 b _ (show kPos x y < b.length by omega)]
      exact Ev.g (inR_n hp) (Ev.g (bleA .u64 (by omega)) (spec_round2 ha hc hx n (y + 1) _ (by omega) (by rw [List.length_set]; exact hb) h))
    · have hz : nthI kecOff (x + 5 * y) = 0 := by have := ltI_fo h0; omega
      have hv : bitsOp .xor .u64 (nthI a (x + 5 * y)) (kD c x) = kV a c x y := by
        show bx _ _ = _
        unfold kV
        rw [hz, rotl0 (bx_range _ _)]
      simp only [hv, setA .u64 b _ (show kPos x y < b.length by omega)]
      exact Ev.g (inR_n hp) (Ev.g (bleA .u64 (by omega)) (spec_round2 ha hc hx n (y + 1) _ (by omega) (by rw [List.length_set]; exact hb) h))
theorem spec_round1 {c : List Int} (ha : a.length = 25) (hc : c.length = 5) : ∀ (n x : Nat) (b : List Int), x + n = 5 → b.length = 25 →
    Ev (fun k m _ _ => L_spec_l03Round_3 k m 0 rc (arrC .u64 a) (arrC .u64 (setsX (kV a c) x n b)) (arrC .u64 z25)) r →
    Ev (fun k m _ _ => L_spec_l03Round_1 k m (x : Int) rc (arrC .u64 b) (arrC .u64 kecOff) (arrC .u64 a) (arrC .u64 c) (arrC .u64 z25)) r
  | 0, x, b, hx, hb, h => Ev.step (fun k m _ _ => L_spec_l03Round_1_s k m _ _ _ _ _ _ _) (Ev.f (ltI_f (by omega)) (Ev.l0 h))
  | n + 1, x, b, hx, hb, h => by
    have q3 : wr .i64 (addI (x : Int) 1) = ((x + 1 : Nat) : Int) := iAdd rfl (by omega)
    have q4 : wr .i64 (addI (x : Int) 4) = ((x + 4 : Nat) : Int) := iAdd rfl (by omega)
    refine Ev.step (fun k m _ _ => L_spec_l03Round_1_s k m _ _ _ _ _ _ _) (Ev.t (ltI_t (by omega)) ?_)
    simp only [q3, q4, iRem, ixA, cellA .u64 c (show (x + 1) % 5 < c.length by omega), cellA .u64 c (show (x + 4) % 5 < c.length by omega), asInt_i]
    refine Ev.g (inR_n (by omega)) (Ev.g (okA _ _) (Ev.g (inR_n (by omega)) (Ev.g (okA _ _) (Ev.c (spec_l03Turn_ev _ _ (by decide)) ?_))))
    simp only [hdV_c, tlV_c, parts1_a, asInt_i, asBool_b, asStr_s, asLen_f, asCells_f, tupL_t, refCells_r, ownLen_o]
    exact Ev.l1 (spec_round2 ha hc (show x < 5 by omega) 5 0 b rfl hb (spec_round1 ha hc n (x + 1) _ (by omega) (by rw [setsF_len]; exact hb) h))
theorem spec_round0 (ha : a.length = 25) : ∀ (n x : Nat) (c : List Int), x + n = 5 → c.length = 5 →
    Ev (fun k m _ _ => L_spec_l03Round_1 k m 0 rc (arrC .u64 z25) (arrC .u64 kecOff) (arrC .u64 a) (arrC .u64 (setsF (fun x => (x, colX a x)) x n c)) (arrC .u64 z25)) r →
    Ev (fun k m _ _ => L_spec_l03Round_0 k m rc (x : Int) (arrC .u64 c) (arrC .u64 a) (arrC .u64 kecOff) (arrC .u64 z25)) r
  | 0, x, c, hx, hc, h => by
    refine Ev.step (fun k m _ _ => L_spec_l03Round_0_s k m _ _ _ _ _ _) (Ev.f (ltI_f (by omega)) ?_)
    exact Ev.l0 h
  | n + 1, x, c, hx, hc, h => by
    have q1 : wr .i64 (addI (x : Int) 1) = ((x + 1 : Nat) : Int) := iAdd rfl (by omega)
    have q5 : wr .i64 (addI (x : Int) 5) = ((x + 5 : Nat) : Int) := iAdd rfl (by omega)
    have q10 : wr .i64 (addI (x : Int) 10) = ((x + 10 : Nat) : Int) := iAdd rfl (by omega)
    have q15 : wr .i64 (addI (x : Int) 15) = ((x + 15 : Nat) : Int) := iAdd rfl (by omega)
    have q20 : wr .i64 (addI (x : Int) 20) = ((x + 20 : Nat) : Int) := iAdd rfl (by omega)
    refine Ev.step (fun k m _ _ => L_spec_l03Round_0_s k m _ _ _ _ _ _) (Ev.t (ltI_t (by omega)) ?_)
    simp only [q1, q5, q10, q15, q20, ixA, cellA .u64 a (show x < a.length by omega), cellA .u64 a (show x + 5 < a.length by omega), cellA .u64 a (show x + 10 < a.length by omega), cellA .u64 a (show x + 15 < a.length by omega), cellA .u64 a (show x + 20 < a.length by omega), asInt_i, setA .u64 c _ (show x < c.length by omega)]
    exact Ev.g (inR_n (by omega)) (Ev.g (okA _ _) (Ev.g (inR_n (by omega)) (Ev.g (okA _ _) (Ev.g (inR_n (by omega)) (Ev.g (okA _ _) (Ev.g (inR_n (by omega)) (Ev.g (okA _ _) (Ev.g (inR_n (by omega)) (Ev.g (okA _ _) (Ev.g (inR_n (by omega)) (Ev.g (bleA .u64 (by omega)) (spec_round0 ha n (x + 1) _ (by omega) (by rw [List.length_set]; exact hc) h))))))))))))
end
theorem kC_len (a : List Int) : (kC a).length = 5 := by unfold kC; rw [setsF_len]; rfl
theorem kB_len (v : Nat → Nat → Int) : (kB v).length = 25 := by unfold kB; rw [setsX_len]; rfl
theorem spec_l03Round_ev {a : List Int} (ha : a.length = 25) (rc : Int) : Does cp n_spec_l03Round [.arr .u64 a, .arr .u64 kecOff, .int .u64 rc] [.arr .u64 (kR a rc)] := by
  refine Ev.fn (fun k => F_spec_l03Round k a kecOff rc) (Ev.g (lenA ha) (Ev.g (lenA rfl) ?_))
  exact Ev.l0 (spec_round0 ha 5 0 z5 rfl rfl (spec_round1 ha (kC_len a) 5 0 z25 rfl rfl (spec_round3 (kB_len _) 5 0 a rfl ha)))


theorem kecT_eq : kecTurns = arrC .i64 kecOff := rfl
theorem kecRo_eq : kecRounds = arrC .u64 kecRC := rfl
section
variable {n : Int} {r : List AV}
theorem impl_round4 {b : List Int} (hb : b.length = 25) {y : Nat} (hy : y < 5) : ∀ (d x : Nat) (a : List Int), x + d = 5 → a.length = 25 →
    Ev (fun k m _ _ => L_impl_sponge_round_a_3 k m n ((y + 1 : Nat) : Int) (arrC .u64 (setsF (fun x => (x + 5 * y, kChi b x y)) x d a)) (arrC .u64 b)) r →
    Ev (fun k m p _ => L_impl_sponge_round_a_4 k m p (y : Int) n (y : Int) (x : Int) (arrC .u64 a) (arrC .u64 b)) r
  | 0, x, a, hx, ha, h => by
    refine Ev.step (fun k m p _ => L_impl_sponge_round_a_4_s k m p _ _ _ _ _ _) (Ev.f (ltI_f (by omega)) ?_)
    have q9 : wr .i64 (addI (y : Int) 1) = ((y + 1 : Nat) : Int) := iAdd rfl (by omega)
    simp only [q9]
    exact Ev.o1 h
  | d + 1, x, a, hx, ha, h => by
    have q1 : wr .i64 (mulI 5 (y : Int)) = ((5 * y : Nat) : Int) := iMul rfl (by omega)
    have q2 : wr .i64 (addI (x : Int) ((5 * y : Nat) : Int)) = ((x + 5 * y : Nat) : Int) := iAdd rfl (by omega)
    have q3 : wr .i64 (addI (x : Int) 1) = ((x + 1 : Nat) : Int) := iAdd rfl (by omega)
    have q4 : wr .i64 (addI (x : Int) 2) = ((x + 2 : Nat) : Int) := iAdd rfl (by omega)
    have q5 : wr .i64 (addI (((x + 1) % 5 : Nat) : Int) ((5 * y : Nat) : Int)) = (((x + 1) % 5 + 5 * y : Nat) : Int) := iAdd rfl (by omega)
    have q6 : wr .i64 (addI (((x + 2) % 5 : Nat) : Int) ((5 * y : Nat) : Int)) = (((x + 2) % 5 + 5 * y : Nat) : Int) := iAdd rfl (by omega)
    have hv : bitsOp .xor .u64 (nthI b (x + 5 * y)) (bitsOp .and .u64 (bitsOp .xor .u64 18446744073709551615 (nthI b ((x + 1) % 5 + 5 * y))) (nthI b ((x + 2) % 5 + 5 * y))) = kChi b x y := by
      unfold kChi
      rw [bx_comm (nthI b ((x + 1) % 5 + 5 * y))]
      rfl
    refine Ev.step (fun k m p _ => L_impl_sponge_round_a_4_s k m p _ _ _ _ _ _) (Ev.t (ltI_t (by omega)) ?_)
    simp only [q1, q2, q3, q4, iRem, q5, q6, ixA, cellA .u64 b (show x + 5 * y < b.length by omega), cellA .u64 b (show (x + 1) % 5 + 5 * y < b.length by omega), cellA .u64 b (show (x + 2) % 5 + 5 * y < b.length by omega), asInt_i, hv, setA .u64 a _ (show x + 5 * y < a.length by omega)]
    exact Ev.g (inR_n (by omega)) (Ev.g (okA _ _) (Ev.g (inR_n (by omega)) (Ev.g (okA _ _) (Ev.g (inR_n (by omega)) (Ev.g (okA _ _) (Ev.g (inR_n (by omega)) (Ev.g (bleA .u64 (by omega)) (impl_round4 hb hy d (x + 1) _ (by omega) (by rw [List.length_set]; exact ha) h))))))))
theorem impl_round3 {b : List Int} (hb : b.length = 25) {j : Nat} (hj : j < 24) (hn : n = (j : Int)) : ∀ (d y : Nat) (a : List Int), y + d = 5 → a.length = 25 →
    Ev (fun k m _ _ => L_impl_sponge_round_a_3 k m n (y : Int) (arrC .u64 a) (arrC .u64 b)) [.tup [.ref true 84 (arrC .u64 (kEnd (setsZ b y d a) (nthI kecRC j)))]]
  | 0, y, a, hy, ha => by
    subst hn
    refine Ev.step (fun k m _ _ => L_impl_sponge_round_a_3_s k m _ _ _ _) (Ev.f (ltI_f (by omega)) ?_)
    simp only [kecRo_eq, ixA, cellA .u64 kecRC (show j < kecRC.length by show j < 24; exact hj), cellA .u64 a (show 0 < a.length by omega), asInt_i, setA .u64 a _ (show 0 < a.length by omega)]
    exact Ev.g (okA _ _) (Ev.g (inR_n hj) (Ev.g (okA _ _) (Ev.g (Nat.ble_eq_true_of_le (by rw [arrA_len]; omega)) (Ev.now _))))
  | d + 1, y, a, hy, ha =>
    Ev.step (fun k m _ _ => L_impl_sponge_round_a_3_s k m _ _ _ _) (Ev.t (ltI_t (by omega)) (Ev.l1 (impl_round4 hb (by omega) 5 0 a rfl ha (impl_round3 hb hj hn d (y + 1) _ (by omega) (by rw [setsF_len]; exact ha)))))
theorem impl_round2 {a c : List Int} (ha : a.length = 25) (hc : c.length = 5) {y : Nat} (hy : y < 5) : ∀ (d x : Nat) (b : List Int), x + d = 5 → b.length = 25 →
    Ev (fun k m _ _ => L_impl_sponge_round_a_1 k m n ((y + 1 : Nat) : Int) (arrC .u64 a) (arrC .u64 (setsF (fun x => (kPos x y, kV a c x y)) x d b)) (arrC .u64 c)) r →
    Ev (fun k m p _ => L_impl_sponge_round_a_2 k m p (y : Int) n (y : Int) (x : Int) (arrC .u64 a) (arrC .u64 b) (arrC .u64 c)) r
  | 0, x, b, hx, hb, h => by
    refine Ev.step (fun k m p _ => L_impl_sponge_round_a_2_s k m p _ _ _ _ _ _ _) (Ev.f (ltI_f (by omega)) ?_)
    have q9 : wr .i64 (addI (y : Int) 1) = ((y + 1 : Nat) : Int) := iAdd rfl (by omega)
    simp only [q9]
    exact Ev.o1 h
  | d + 1, x, b, hx, hb, h => by
    have q1 : wr .i64 (mulI 5 (y : Int)) = ((5 * y : Nat) : Int) := iMul rfl (by omega)
    have q2 : wr .i64 (addI (x : Int) ((5 * y : Nat) : Int)) = ((x + 5 * y : Nat) : Int) := iAdd rfl (by omega)
    have p1 : wr .i64 (mulI 2 (x : Int)) = ((2 * x : Nat) : Int) := iMul rfl (by omega)
    have p2 : wr .i64 (mulI 3 (y : Int)) = ((3 * y : Nat) : Int) := iMul rfl (by omega)
    have p3 : wr .i64 (addI ((2 * x : Nat) : Int) ((3 * y : Nat) : Int)) = ((2 * x + 3 * y : Nat) : Int) := iAdd rfl (by omega)
    have p4 : wr .i64 (mulI 5 (((2 * x + 3 * y) % 5 : Nat) : Int)) = ((5 * ((2 * x + 3 * y) % 5) : Nat) : Int) := iMul rfl (by omega)
    have p5 : wr .i64 (addI (y : Int) ((5 * ((2 * x + 3 * y) % 5) : Nat) : Int)) = ((kPos x y : Nat) : Int) := iAdd rfl (by omega)
    have q3 : wr .i64 (addI (x : Int) 1) = ((x + 1 : Nat) : Int) := iAdd rfl (by omega)
    have q4 : wr .i64 (addI (x : Int) 4) = ((x + 4 : Nat) : Int) := iAdd rfl (by omega)
    have hp := kPos_lt (x := x) hy
    have ho := off_range (show x + 5 * y < 25 by omega)
    refine Ev.step (fun k m p _ => L_impl_sponge_round_a_2_s k m p _ _ _ _ _ _ _) (Ev.t (ltI_t (by omega)) ?_)
    simp only [q1, q2, q3, q4, p1, p2, p3, iRem, p4, p5, ixA, kecT_eq, cellA .u64 a (show x + 5 * y < a.length by omega), cellA .u64 c (show (x + 1) % 5 < c.length by omega), cellA .u64 c (show (x + 4) % 5 < c.length by omega), cellA .i64 kecOff (show x + 5 * y < kecOff.length by show _ < 25; omega), asInt_i]
    refine Ev.g (inR_n (by omega)) (Ev.g (okA _ _) (Ev.g (inR_n (by omega)) (Ev.g (okA _ _) (Ev.c (rotateLeft_ev _ _ (by decide)) ?_))))
    simp only [hdV_c, tlV_c, parts1_a, asInt_i, asBool_b, asStr_s, asLen_f, asCells_f, tupL_t, refCells_r, ownLen_o]
    refine Ev.g (inR_n (by omega)) (Ev.g (okA _ _) (Ev.g (inR_n (by omega)) (Ev.g (okA _ _) (Ev.c (rotateLeft_ev _ _ ho) ?_))))
    simp only [hdV_c, tlV_c, parts1_a, asInt_i, asBool_b, asStr_s, asLen_f, asCells_f, tupL_t, refCells_r, ownLen_o, setA .u64 b _ (show kPos x y < b.length by omega)]
    exact Ev.g (inR_n hp) (Ev.g (bleA .u64 (by omega)) (impl_round2 ha hc hy d (x + 1) _ (by omega) (by rw [List.length_set]; exact hb) h))
theorem impl_round1 {a c : List Int} (ha : a.length = 25) (hc : c.length = 5) : ∀ (d y : Nat) (b : List Int), y + d = 5 → b.length = 25 →
    Ev (fun k m _ _ => L_impl_sponge_round_a_3 k m n 0 (arrC .u64 a) (arrC .u64 (setsY (kV a c) y d b))) r →
    Ev (fun k m _ _ => L_impl_sponge_round_a_1 k m n (y : Int) (arrC .u64 a) (arrC .u64 b) (arrC .u64 c)) r
  | 0, y, b, hy, hb, h => Ev.step (fun k m _ _ => L_impl_sponge_round_a_1_s k m _ _ _ _ _) (Ev.f (ltI_f (by omega)) (Ev.l0 h))
  | d + 1, y, b, hy, hb, h =>
    Ev.step (fun k m _ _ => L_impl_sponge_round_a_1_s k m _ _ _ _ _) (Ev.t (ltI_t (by omega)) (Ev.l1 (impl_round2 ha hc (show y < 5 by omega) 5 0 b rfl hb (impl_round1 ha hc d (y + 1) _ (by omega) (by rw [setsF_len]; exact hb) h))))
theorem impl_round0 {a : List Int} (ha : a.length = 25) : ∀ (d x : Nat) (c : List Int), x + d = 5 → c.length = 5 →
    Ev (fun k m _ _ => L_impl_sponge_round_a_1 k m n 0 (arrC .u64 a) (arrC .u64 z25) (arrC .u64 (setsF (fun x => (x, colX a x)) x d c))) r →
    Ev (fun k m _ _ => L_impl_sponge_round_a_0 k m n (x : Int) (arrC .u64 a) (arrC .u64 c)) r
  | 0, x, c, hx, hc, h => Ev.step (fun k m _ _ => L_impl_sponge_round_a_0_s k m _ _ _ _) (Ev.f (ltI_f (by omega)) (Ev.l0 h))
  | d + 1, x, c, hx, hc, h => by
    have q1 : wr .i64 (addI (x : Int) 1) = ((x + 1 : Nat) : Int) := iAdd rfl (by omega)
    have q5 : wr .i64 (addI (x : Int) 5) = ((x + 5 : Nat) : Int) := iAdd rfl (by omega)
    have q10 : wr .i64 (addI (x : Int) 10) = ((x + 10 : Nat) : Int) := iAdd rfl (by omega)
    have q15 : wr .i64 (addI (x : Int) 15) = ((x + 15 : Nat) : Int) := iAdd rfl (by omega)
    have q20 : wr .i64 (addI (x : Int) 20) = ((x + 20 : Nat) : Int) := iAdd rfl (by omega)
    refine Ev.step (fun k m _ _ => L_impl_sponge_round_a_0_s k m _ _ _ _) (Ev.t (ltI_t (by omega)) ?_)
    simp only [q1, q5, q10, q15, q20, ixA, cellA .u64 a (show x < a.length by omega), cellA .u64 a (show x + 5 < a.length by omega), cellA .u64 a (show x + 10 < a.length by omega), cellA .u64 a (show x + 15 < a.length by omega), cellA .u64 a (show x + 20 < a.length by omega), asInt_i, setA .u64 c _ (show x < c.length by omega)]
    exact Ev.g (inR_n (by omega)) (Ev.g (okA _ _) (Ev.g (inR_n (by omega)) (Ev.g (okA _ _) (Ev.g (inR_n (by omega)) (Ev.g (okA _ _) (Ev.g (inR_n (by omega)) (Ev.g (okA _ _) (Ev.g (inR_n (by omega)) (Ev.g (okA _ _) (Ev.g (inR_n (by omega)) (Ev.g (bleA .u64 (by omega)) (impl_round0 ha d (x + 1) _ (by omega) (by rw [List.length_set]; exact hc) h))))))))))))
end
theorem impl_round_ev {a : List Int} (ha : a.length = 25) {j : Nat} (hj : j < 24) : Does cp n_impl_sponge_round [.tup [.ref true 84 (arrC .u64 a)], .ptr 0 0, .int .i64 (j : Int)] [.tup [.ref true 84 (arrC .u64 (kR a (nthI kecRC j)))]] := by
  refine Ev.fn (fun k => F_impl_sponge_round_a k (arrC .u64 a) j) ?_
  exact Ev.l0 (impl_round0 ha 5 0 z5 rfl rfl (impl_round1 ha (kC_len a) 5 0 z25 rfl rfl (by
    rw [kB_eq]
    exact impl_round3 (kB_len _) hj rfl 5 0 a rfl ha)))
theorem impl_rounds_l : ∀ (d j : Nat) (a : List Int), j + d = 24 → a.length = 25 → Ev (fun k m _ _ => L_impl_sponge_rounds_a_0 k m (j : Int) (arrC .u64 a)) [.tup [.ref true 84 (arrC .u64 (kIt j d a))]]
  | 0, j, a, hj, ha => Ev.step (fun k m _ _ => L_impl_sponge_rounds_a_0_s k m _ _) (Ev.f (ltI_f (by omega)) (Ev.now _))
  | d + 1, j, a, hj, ha => by
    have q1 : wr .i64 (addI (j : Int) 1) = ((j + 1 : Nat) : Int) := iAdd rfl (by omega)
    refine Ev.step (fun k m _ _ => L_impl_sponge_rounds_a_0_s k m _ _) (Ev.t (ltI_t (by omega)) (Ev.c (impl_round_ev ha (show j < 24 by omega)) (Ev.g rfl ?_)))
    simp only [hdV_c, tlV_c, parts1_a, asInt_i, asBool_b, asStr_s, asLen_f, asCells_f, tupL_t, refCells_r, ownLen_o, q1]
    exact impl_rounds_l d (j + 1) _ (by omega) (by rw [kR_len]; exact ha)
theorem impl_rounds_ev {a : List Int} (ha : a.length = 25) : Does cp n_impl_sponge_rounds [.tup [.ref true 84 (arrC .u64 a)], .ptr 0 0] [.tup [.ref true 84 (arrC .u64 (kAll a))]] := by
  rw [← kAll_eq]
  exact Ev.fn (fun k => F_impl_sponge_rounds_a k (arrC .u64 a)) (Ev.l0 (impl_rounds_l 24 0 a rfl ha))


theorem arrI_a (k : IntKind) (l : List Int) : arrI (.arr k l) = l := rfl
theorem spec_l03Offsets_ev : Does cp n_spec_l03Offsets [] [.arr .u64 kecOff] := Ev.fn (fun k => F_spec_l03Offsets k) (Ev.some_ (by kernel_rfl))
theorem spec_l03Rounds_ev : Does cp n_spec_l03Rounds [] [.arr .u64 kecRC] := Ev.fn (fun k => F_spec_l03Rounds k) (Ev.some_ (by kernel_rfl))
theorem spec_all_l : ∀ (d j : Nat) (a : List Int), j + d = 24 → a.length = 25 → Ev (fun k m _ _ => L_spec_l03All_0 k m (j : Int) (arrC .u64 a) (arrC .u64 kecRC) (arrC .u64 kecOff) (arrC .u64 z25)) [.arr .u64 (kIt j d a)]
  | 0, j, a, hj, ha => by
    refine Ev.step (fun k m _ _ => L_spec_l03All_0_s k m _ _ _ _ _) (Ev.f (ltI_f (by omega)) ?_)
    simp only [intsA .u64 ha, putA .u64 (show (arrC .u64 z25).length = a.length by rw [ha]; rfl)]
    exact Ev.g (kindA .u64 ha) (Ev.g (by rw [lenA ha]; rfl) (Ev.g (by rw [kindA .u64 ha]; rfl) (Ev.now _)))
  | d + 1, j, a, hj, ha => by
    have q1 : wr .i64 (addI (j : Int) 1) = ((j + 1 : Nat) : Int) := iAdd rfl (by omega)
    have hk := kR_len a (nthI kecRC j)
    refine Ev.step (fun k m _ _ => L_spec_l03All_0_s k m _ _ _ _ _) (Ev.t (ltI_t (by omega)) ?_)
    simp only [q1, ixA, cellA .u64 kecRC (show j < kecRC.length by show j < 24; omega), asInt_i, intsA .u64 ha, intsA .u64 (show kecOff.length = 25 from rfl)]
    refine Ev.g (kindA .u64 ha) (Ev.g (kindA .u64 rfl) (Ev.g (inR_n (by omega)) (Ev.g (okA _ _) (Ev.c (spec_l03Round_ev ha _) ?_))))
    simp only [hdV_c, tlV_c, parts1_a, asInt_i, asBool_b, asStr_s, asLen_f, asCells_f, tupL_t, refCells_r, ownLen_o, arrI_a, putA .u64 (show (arrC .u64 a).length = (kR a (nthI kecRC j)).length by rw [arrA_len, hk])]
    refine Ev.g ?_ (spec_all_l d (j + 1) _ (by omega) (by rw [hk]; exact ha))
    rw [lenA (by rw [hk]; exact ha), arrA_len, ha]; rfl
theorem spec_l03All_ev {a : List Int} (ha : a.length = 25) : Does cp n_spec_l03All [.arr .u64 a] [.arr .u64 (kAll a)] := by
  rw [← kAll_eq]
  refine Ev.fn (fun k => F_spec_l03All k a) (Ev.g (lenA ha) (Ev.c spec_l03Offsets_ev ?_))
  simp only [hdV_c, tlV_c, parts1_a, asInt_i, asBool_b, asStr_s, asLen_f, asCells_f, tupL_t, refCells_r, ownLen_o, arrI_a]
  refine Ev.g rfl (Ev.c spec_l03Rounds_ev ?_)
  simp only [hdV_c, tlV_c, parts1_a, asInt_i, asBool_b, asStr_s, asLen_f, asCells_f, tupL_t, refCells_r, ownLen_o, arrI_a, putA .u64 (show ([AV.int .u64 0, AV.int .u64 0, AV.int .u64 0, AV.int .u64 0, AV.int .u64 0, AV.int .u64 0, AV.int .u64 0, AV.int .u64 0, AV.int .u64 0, AV.int .u64 0, AV.int .u64 0, AV.int .u64 0, AV.int .u64 0, AV.int .u64 0, AV.int .u64 0, AV.int .u64 0, AV.int .u64 0, AV.int .u64 0, AV.int .u64 0, AV.int .u64 0, AV.int .u64 0, AV.int .u64 0, AV.int .u64 0, AV.int .u64 0] : List AV).length = kecRC.length from rfl)]
  exact Ev.g rfl (Ev.l0 (spec_all_l 24 0 a rfl ha))
theorem arrB (l : List Int) : arrC .u8 l = l.flatMap eB := by
  unfold arrC eB
  induction l with
  | nil => rfl
  | cons x r ih => rw [List.map_cons, ih]; rfl
theorem cutA1 (k : IntKind) {l : List Int} {n : Nat} (h : l.length = n) : cutC (arrC k l) 0 (mulN n 1) = arrC k l := by subst h; rw [mulN_d, Nat.mul_one]; exact cutA k l
theorem catA (k : IntKind) (l : List Int) (v : Int) : catC (arrC k l) (cutC [.int k v] 0 1) = arrC k (l ++ [v]) := by unfold catC arrC; rw [List.map_append]; rfl
theorem bytesA (s : ByteArray) : bytesOf s = arrC .u8 (bts s) := by rw [bytesOf_e, arrB]
theorem isB (l : List Int) : isBytes (arrC .u8 l) = true := by rw [arrB]; exact isBytes_e l
theorem strB (l : List Int) : strOf (arrC .u8 l) = EV.strOfNums l := by rw [arrB]; exact strOf_e l
theorem setsF_id (f : Nat → Int) : ∀ (n i : Nat) (c : List Int), c.length = i + n → setsF (fun i => (i, f i)) i n c = c.take i ++ (List.range' i n).map f
  | 0, i, c, h => by rw [setsF, List.take_of_length_le (by omega)]; simp
  | n + 1, i, c, h => by
    rw [setsF, setsF_id f n (i + 1) _ (by rw [List.length_set]; omega), List.range'_succ, List.map_cons, List.take_add_one, List.take_set_of_le (Nat.le_refl _), List.getElem?_set_self (by omega)]
    simp
theorem spec_text_l {a : List Int} (ha : a.length = 25) : ∀ (d i : Nat) (l : List Int), i + d = 200 → l.length = 200 → Ev (fun k m _ _ => L_spec_l03Text_0 k m 200 (i : Int) (arrC .u64 a) (arrC .u8 l)) [.str (EV.strOfNums (setsF (fun i => (i, kByte a i)) i d l))]
  | 0, i, l, hi, hl => by
    refine Ev.step (fun k m _ _ => L_spec_l03Text_0_s k m _ _ _ _) (Ev.f (ltI_f (by omega)) ?_)
    simp only [cutA1 .u8 hl, strB]
    exact Ev.g (isB l) (Ev.now _)
  | d + 1, i, l, hi, hl => by
    have q1 : wr .i64 (addI (i : Int) 1) = ((i + 1 : Nat) : Int) := iAdd rfl (by omega)
    have q2 : wr .i64 (quoI (i : Int) 8) = ((i / 8 : Nat) : Int) := by rw [quoI_d, tdiv_pos (by omega), wr64 (by omega)]; omega
    have q3 : wr .u64 (remI (i : Int) 8) = ((i % 8 : Nat) : Int) := by rw [remI_d, tmod_pos (by omega), wrU]; omega
    have q4 : wr .u64 (mulI 8 ((i % 8 : Nat) : Int)) = ((8 * (i % 8) : Nat) : Int) := by rw [mulI_d, wrU]; omega
    refine Ev.step (fun k m _ _ => L_spec_l03Text_0_s k m _ _ _ _) (Ev.t (ltI_t (by omega)) ?_)
    simp only [q1, q2, q3, q4, ixA, cellA .u64 a (show i / 8 < a.length by omega), asInt_i, setA .u8 l _ (show i < l.length by omega)]
    exact Ev.g (inR_n (by omega)) (Ev.g (okA _ _) (Ev.g (leI_t (by omega)) (Ev.g (inR_n (by omega)) (Ev.g (bleA .u8 (by omega)) (spec_text_l ha d (i + 1) _ (by omega) (by rw [List.length_set]; exact hl))))))
theorem rep200 : repC 200 [AV.int .u8 0] = arrC .u8 (List.replicate 200 0) := by kernel_rfl
theorem spec_l03Text_ev {a : List Int} (ha : a.length = 25) : Does cp n_spec_l03Text [.arr .u64 a] [.str (EV.strOfNums (kT a))] := by
  refine Ev.fn (fun k => F_spec_l03Text k a) (Ev.g (lenA ha) ?_)
  rw [rep200]
  refine Ev.to (Ev.l0 (spec_text_l ha 200 0 _ rfl (List.length_replicate ..))) ?_
  rw [setsF_id (kByte a) 200 0 _ (by rw [List.length_replicate])]
  unfold kT
  rw [List.range_eq_range']
  rfl
def kWB : Nat → Int → List Int
  | 0, _ => []
  | d + 1, w => wr .u8 w :: kWB d (shrI .u64 w 8)
theorem kWB_len : ∀ (d : Nat) (w : Int), (kWB d w).length = d
  | 0, _ => rfl
  | d + 1, w => by rw [kWB, List.length_cons, kWB_len d]
theorem shr_shr (w : Int) {j : Nat} (h : j < 8) : shrI .u64 (shrI .u64 w ((8 * j : Nat) : Int)) 8 = shrI .u64 w ((8 * (j + 1) : Nat) : Int) := by
  have e1 : min (((8 * j : Nat) : Int)).toNat IntKind.u64.bits = 8 * j := by show min (((8 * j : Nat) : Int)).toNat 64 = _; omega
  have e2 : min (((8 * (j + 1) : Nat) : Int)).toNat IntKind.u64.bits = 8 * j + 8 := by show min (((8 * (j + 1) : Nat) : Int)).toNat 64 = _; omega
  have e3 : min ((8 : Int)).toNat IntKind.u64.bits = 8 := rfl
  unfold shrI
  rw [e1, e2, e3, Int.fdiv_eq_ediv_of_nonneg _ (by apply Int.pow_nonneg; decide), Int.fdiv_eq_ediv_of_nonneg _ (by apply Int.pow_nonneg; decide), Int.fdiv_eq_ediv_of_nonneg _ (by apply Int.pow_nonneg; decide), Int.ediv_ediv_of_nonneg (by apply Int.pow_nonneg; decide), Int.pow_add]
theorem kWB_map (w : Int) : ∀ (d j : Nat), j + d ≤ 8 → kWB d (shrI .u64 w ((8 * j : Nat) : Int)) = (List.range' j d).map fun j => wr .u8 (shrI .u64 w ((8 * j : Nat) : Int))
  | 0, _, _ => rfl
  | d + 1, j, h => by rw [kWB, shr_shr w (by omega), kWB_map w d (j + 1) (by omega), List.range'_succ, List.map_cons]
theorem kWB8 (w : Int) : kWB 8 w = (List.range 8).map fun j => wr .u8 (shrI .u64 w ((8 * j : Nat) : Int)) := by
  have h0 : shrI .u64 w ((8 * 0 : Nat) : Int) = w := by show w.fdiv 1 = w; rw [Int.fdiv_one]
  have := kWB_map w 8 0 (by omega)
  rw [h0] at this
  rw [this, List.range_eq_range']
def kTx (a : List Int) : Nat → Nat → List Int
  | _, 0 => []
  | i, d + 1 => kWB 8 (nthI a i) ++ kTx a (i + 1) d
theorem kTx_flat (a : List Int) : ∀ (d i : Nat), kTx a i d = (List.range' i d).flatMap fun i => kWB 8 (nthI a i)
  | 0, _ => rfl
  | d + 1, i => by rw [kTx, kTx_flat a d, List.range'_succ, List.flatMap_cons]
theorem flat200 (f : Nat → Nat → Int) : ((List.range 25).flatMap fun i => (List.range 8).map (f i)) = (List.range 200).map fun t => f (t / 8) (t % 8) := by kernel_rfl
theorem kTx_eq (a : List Int) : kTx a 0 25 = kT a := by
  rw [kTx_flat, ← List.range_eq_range']
  simp only [kWB8]
  exact flat200 fun i j => wr .u8 (shrI .u64 (nthI a i) ((8 * j : Nat) : Int))
theorem fitA {n : Nat} (h : n ≤ 35184372088832) : Bool.and (fitN n 1) true = true := by rw [Bool.and_true]; exact Nat.ble_eq_true_of_le (by omega)
theorem wordBytes_l (b0 : List AV) : ∀ (d j : Nat) (w : Int) (l : List Int), j + d = 8 → l.length + d ≤ 1000 → Ev (fun k m _ _ => L_impl_wordBytes_a_0a k m (j : Int) w l.length b0 (arrC .u8 l)) [.tup [.any, .ref true 5 (arrC .u8 (l ++ kWB d w))], .own 1 0 (l ++ kWB d w).length]
  | 0, j, w, l, hj, hl => Ev.step (fun k m _ _ => L_impl_wordBytes_a_0a_s k m _ _ _ _ _) (Ev.f (ltI_f (by omega)) (Ev.some_ (by rw [kWB, List.append_nil])))
  | d + 1, j, w, l, hj, hl => by
    have q1 : wr .i64 (addI (j : Int) 1) = ((j + 1 : Nat) : Int) := iAdd rfl (by omega)
    have q2 : addN l.length 1 = (l ++ [wr .u8 w]).length := by rw [List.length_append]; rfl
    have q3 : l ++ kWB (d + 1) w = (l ++ [wr .u8 w]) ++ kWB d (shrI .u64 w 8) := by rw [List.append_assoc]; rfl
    refine Ev.step (fun k m _ _ => L_impl_wordBytes_a_0a_s k m _ _ _ _ _) (Ev.t (ltI_t (by omega)) ?_)
    simp only [q1, cutA1 .u8 (rfl : l.length = l.length), catA, q2]
    rw [q3]
    exact Ev.g (fitA (by rw [List.length_append]; show l.length + 1 ≤ _; omega)) (wordBytes_l b0 d (j + 1) _ _ (by omega) (by rw [List.length_append]; show l.length + 1 + d ≤ 1000; omega))
theorem wordBytes_ev {b0 : List AV} {l : List Int} (hb : cutC b0 0 (mulN l.length 1) = arrC .u8 l) (hl : l.length ≤ 900) (w : Int) : Does cp n_impl_wordBytes [.tup [.ref true 5 b0], .own 0 0 l.length, .int .u64 w] [.tup [.any, .ref true 5 (arrC .u8 (l ++ kWB 8 w))], .own 1 0 (l ++ kWB 8 w).length] := by
  have q1 : wr .i64 (addI 0 1) = ((1 : Nat) : Int) := rfl
  have q2 : addN l.length 1 = (l ++ [wr .u8 w]).length := by rw [List.length_append]; rfl
  have q3 : l ++ kWB 8 w = (l ++ [wr .u8 w]) ++ kWB 7 (shrI .u64 w 8) := by rw [List.append_assoc]; rfl
  refine Ev.fn (fun k => F_impl_wordBytes_a k b0 l.length w) (Ev.l0 (L := fun k m => L_impl_wordBytes_a_0 k m 0 w l.length b0) ?_)
  refine Ev.step (fun k m _ _ => L_impl_wordBytes_a_0_s k m 0 w l.length b0) (Ev.t (ltI_t (by decide)) ?_)
  have hl2 : (l ++ [wr .u8 w]).length = l.length + 1 := by rw [List.length_append]; rfl
  simp only [q1, hb, catA, q2]
  rw [q3]
  refine Ev.g (fitA (by omega)) ?_
  exact wordBytes_l b0 7 1 (shrI .u64 w 8) (l ++ [wr .u8 w]) rfl (by omega)
theorem impl_text_l {a : List Int} (ha : a.length = 25) : ∀ (d i : Nat) (b1 : List AV) (l : List Int), i + d = 25 → cutC b1 0 (mulN l.length 1) = arrC .u8 l → l.length = 8 * i → Ev (fun k m _ _ => L_impl_sponge_text_a_0 k m (i : Int) l.length (arrC .u64 a) b1) [.tup [.ref true 84 (arrC .u64 a)], .str (EV.strOfNums (l ++ kTx a i d))]
  | 0, i, b1, l, hi, hb, hl => by
    refine Ev.step (fun k m _ _ => L_impl_sponge_text_a_0_s k m _ _ _ _) (Ev.f (ltI_f (by omega)) ?_)
    simp only [hb, strB]
    exact Ev.g (isB l) (Ev.some_ (by rw [kTx, List.append_nil]))
  | d + 1, i, b1, l, hi, hb, hl => by
    have q1 : wr .i64 (addI (i : Int) 1) = ((i + 1 : Nat) : Int) := iAdd rfl (by omega)
    refine Ev.step (fun k m _ _ => L_impl_sponge_text_a_0_s k m _ _ _ _) (Ev.t (ltI_t (by omega)) ?_)
    simp only [q1, ixA, cellA .u64 a (show i < a.length by omega), asInt_i]
    refine Ev.g (inR_n (by omega)) (Ev.g (okA _ _) (Ev.c (wordBytes_ev hb (by omega) _) (Ev.g rfl ?_)))
    simp only [hdV_c, tlV_c, parts1_a, asInt_i, asBool_b, asStr_s, asLen_f, asCells_f, tupL_t, refCells_r, ownLen_o]
    refine Ev.to (impl_text_l ha d (i + 1) _ (l ++ kWB 8 (nthI a i)) (by omega) (cutA1 .u8 rfl) (by rw [List.length_append, kWB_len]; omega)) ?_
    rw [kTx, List.append_assoc]
theorem impl_text_ev {a : List Int} (ha : a.length = 25) : Does cp n_impl_sponge_text [.tup [.ref true 84 (arrC .u64 a)], .ptr 0 0] [.tup [.ref true 84 (arrC .u64 a)], .str (EV.strOfNums (kT a))] := by
  refine Ev.fn (fun k => F_impl_sponge_text_a k (arrC .u64 a)) (Ev.to (Ev.l0 (impl_text_l ha 25 0 _ [] rfl ?_ rfl)) ?_)
  · rw [rep200]; rfl
  · rw [List.nil_append, kTx_eq]


/-- The last byte marked. -/
theorem last_ok {l : List Int} (h : 0 < l.length) (hl : l.length < 1152921504606846976) : wr .i64 (subI (lenI l.length) 1) = ((l.length - 1 : Nat) : Int) := by rw [subI_d, lenI_c, wr64 (by omega)]; omega
theorem spec_pad_l : ∀ (d : Nat) (l : List Int), (l.length + d) % 136 = 0 → d < 136 → 0 < l.length → l.length + d ≤ 35184372088832 → Ev (fun k m _ _ => L_spec_KeccakPad_0 k m l.length (arrC .u8 l)) [.str (EV.strOfNums (kLast (l ++ List.replicate d 0)))]
  | 0, l, hm, hd, hp, hl => by
    have h0 : remI (lenI l.length) 136 = 0 := by rw [remI_d, lenI_c, tmod_pos (by omega)]; omega
    refine Ev.step (fun k m _ _ => L_spec_KeccakPad_0_s k m _ _) (Ev.f (by rw [h0]; rfl) ?_)
    have hlt : l.length - 1 < l.length := by omega
    simp only [last_ok hp (by omega), ixA, cellA .u8 l hlt, asInt_i, setA .u8 l _ hlt, cutA1 .u8 (show (l.set (l.length - 1) (bitsOp .or .u8 (nthI l (l.length - 1)) 128)).length = l.length by rw [List.length_set]), strB]
    refine Ev.g (inR_n hlt) (Ev.g (okA _ _) (Ev.g (inR_n hlt) (Ev.g (bleA .u8 hlt) (Ev.g (isB _) (Ev.some_ ?_)))))
    rw [List.replicate_zero, List.append_nil]
    rfl
  | d + 1, l, hm, hd, hp, hl => by
    have h0 : notB (eqI (remI (lenI l.length) 136) 0) = true := by
      rw [eqI_f (by rw [remI_d, lenI_c, tmod_pos (by omega)]; omega)]; rfl
    have q2 : addN l.length 1 = (l ++ [(0 : Int)]).length := by rw [List.length_append]; rfl
    have hl2 : (l ++ [(0 : Int)]).length = l.length + 1 := by rw [List.length_append]; rfl
    refine Ev.step (fun k m _ _ => L_spec_KeccakPad_0_s k m _ _) (Ev.t h0 ?_)
    simp only [cutA1 .u8 (rfl : l.length = l.length), catA, q2]
    refine Ev.g (fitA (by omega)) (Ev.to (spec_pad_l d (l ++ [0]) (by omega) (by omega) (by omega) (by omega)) ?_)
    rw [List.append_assoc]
    rfl
theorem spec_KeccakPad_ev {s : ByteArray} (hs : s.size ≤ 1099511627776) : Does cp n_spec_KeccakPad [.str s] [.str (EV.strOfNums (kPad (bts s)))] := by
  have hb := bts_length s
  have q2 : addN (lenS s) 1 = (bts s ++ [(1 : Int)]).length := by rw [List.length_append, hb]; rfl
  have hl2 : (bts s ++ [(1 : Int)]).length = s.size + 1 := by rw [List.length_append, hb]; rfl
  refine Ev.fn (fun k => F_spec_KeccakPad k s) ?_
  simp only [bytesA, cutA1 .u8 (show (bts s).length = lenS s from hb), catA, q2]
  refine Ev.g (fitA (by omega)) (Ev.to (Ev.l0 (spec_pad_l (135 - s.size % 136) (bts s ++ [1]) (by omega) (by omega) (by omega) (by omega))) ?_)
  unfold kPad kPad0
  rw [List.append_assoc, hb]
  rfl
theorem repeat_ev {s : ByteArray} {n : Int} (h : repOk s n = true) : Does cp n_strings_Repeat [.str s, .int .i64 n] [.str (repS s n)] :=
  Ev.fn (fun k => F_strings_Repeat k s n) (Ev.g h (Ev.now _))
theorem bts_zero (n : Nat) : bts (repS ⟨#[0]⟩ (n : Int)) = List.replicate n 0 := by
  unfold bts repS
  show List.map _ ((List.replicate ((n : Int)).toNat [(0 : UInt8)]).flatten).toArray.toList = _
  rw [Int.toNat_natCast]
  induction n with
  | zero => rfl
  | succ n ih =>
    rw [List.replicate_succ, List.flatten_cons, List.replicate_succ]
    simp
theorem impl_KeccakPad_ev {s : ByteArray} (hs : s.size ≤ 1099511627776) : Does cp n_impl_KeccakPad [.str s] [.str (EV.strOfNums (kPad (bts s)))] := by
  have q1 : wr .i64 (subI 135 (remI (lenI (lenS s)) 136)) = ((135 - s.size % 136 : Nat) : Int) := by
    rw [subI_d, remI_d, lenI_c, tmod_pos (by omega)]
    show wr .i64 (135 - (s.size : Int) % 136) = _
    rw [wr64 (by omega)]; omega
  have ht : bts (catS (catS s ⟨#[1]⟩) (repS ⟨#[0]⟩ ((135 - s.size % 136 : Nat) : Int))) = kPad0 (bts s) := by
    unfold catS kPad0
    rw [bts_append, bts_append, bts_zero, List.append_assoc, bts_length]
    rfl
  have hz : (repS ⟨#[0]⟩ ((135 - s.size % 136 : Nat) : Int)).size = 135 - s.size % 136 := by
    rw [← bts_length, bts_zero, List.length_replicate]
  refine Ev.fn (fun k => F_impl_KeccakPad k s) (Ev.g (Nat.ble_eq_true_of_le (by show s.size + 1 ≤ _; omega)) ?_)
  simp only [q1]
  refine Ev.c (repeat_ev ?_) ?_
  · unfold repOk
    rw [Bool.and_eq_true]
    refine ⟨decide_eq_true (by omega), Nat.ble_eq_true_of_le ?_⟩
    show (1 + 1) * ((135 - s.size % 136 : Nat) : Int).toNat ≤ _
    omega
  simp only [hdV_c, tlV_c, parts1_a, asInt_i, asBool_b, asStr_s, asLen_f, asCells_f, tupL_t, refCells_r, ownLen_o]
  generalize htt : catS (catS s ⟨#[1]⟩) (repS ⟨#[0]⟩ ((135 - s.size % 136 : Nat) : Int)) = t at ht
  have hlen : lenS t = (kPad0 (bts s)).length := by rw [← ht, bts_length]; rfl
  have hl : (kPad0 (bts s)).length = s.size + 1 + (135 - s.size % 136) := by unfold kPad0; rw [List.length_append, List.length_cons, List.length_replicate, bts_length]; omega
  have hlt : (kPad0 (bts s)).length - 1 < (kPad0 (bts s)).length := by omega
  refine Ev.g (Nat.ble_eq_true_of_le ?_) ?_
  · show (s ++ (⟨#[1]⟩ : ByteArray)).size + (repS ⟨#[0]⟩ ((135 - s.size % 136 : Nat) : Int)).size ≤ _
    rw [hz, ByteArray.size_append]
    show s.size + 1 + _ ≤ _
    omega
  simp only [bytesA, ht, hlen, last_ok (show 0 < (kPad0 (bts s)).length by omega) (by omega), ixA, cellA .u8 (kPad0 (bts s)) hlt, asInt_i, setA .u8 (kPad0 (bts s)) _ hlt, cutA1 .u8 (show ((kPad0 (bts s)).set ((kPad0 (bts s)).length - 1) (bitsOp .or .u8 (nthI (kPad0 (bts s)) ((kPad0 (bts s)).length - 1)) 128)).length = (kPad0 (bts s)).length by rw [List.length_set]), strB]
  exact Ev.g (inR_n hlt) (Ev.g (okA _ _) (Ev.g (inR_n hlt) (Ev.g (bleA .u8 hlt) (Ev.g (isB _) (Ev.now _)))))


section
variable {p : ByteArray} {r : List AV}
theorem spec_abs_l (hp : p.size < 1152921504606846976) {t : Nat} (ht : t + 136 ≤ p.size) : ∀ (n i : Nat) (a : List Int), i + n = 17 → a.length = 25 →
    Ev (fun k m _ _ => L_spec_Digest_0 k m ((t + 136 : Nat) : Int) p (arrC .u64 (kAll (kAbs p t i n a)))) r →
    Ev (fun k m q _ => L_spec_Digest_1 k m q (t : Int) p (i : Int) (arrC .u64 a)) r
  | 0, i, a, hi, ha, h => by
    rw [show kAbs p t i 0 a = a from rfl] at h
    have q1 : wr .i64 (addI (t : Int) 136) = ((t + 136 : Nat) : Int) := iAdd rfl (by omega)
    have hk : (kAll a).length = 25 := by rw [kAll_len]; exact ha
    refine Ev.step (fun k m q _ => L_spec_Digest_1_s k m q _ _ _ _) (Ev.f (ltI_f (by omega)) ?_)
    simp only [q1, intsA .u64 ha]
    refine Ev.g (kindA .u64 ha) (Ev.c (spec_l03All_ev ha) ?_)
    simp only [hdV_c, tlV_c, parts1_a, asInt_i, asBool_b, asStr_s, asLen_f, asCells_f, tupL_t, refCells_r, ownLen_o, arrI_a, putA .u64 (show (arrC .u64 a).length = (kAll a).length by rw [arrA_len, hk, ha])]
    refine Ev.g ?_ (Ev.o1 h)
    rw [lenA hk, arrA_len, ha]; rfl
  | n + 1, i, a, hi, ha, h => by
    rw [show kAbs p t i (n + 1) a = kAbs p t (i + 1) n (a.set i (bx (nthI a i) (kW p (t + 8 * i)))) from rfl] at h
    have q1 : wr .i64 (addI (i : Int) 1) = ((i + 1 : Nat) : Int) := iAdd rfl (by omega)
    have q2 : wr .i64 (mulI 8 (i : Int)) = ((8 * i : Nat) : Int) := iMul rfl (by omega)
    have q3 : wr .i64 (addI (t : Int) ((8 * i : Nat) : Int)) = ((t + 8 * i : Nat) : Int) := iAdd rfl (by omega)
    refine Ev.step (fun k m q _ => L_spec_Digest_1_s k m q _ _ _ _) (Ev.t (ltI_t (by omega)) ?_)
    simp only [q1, q2, q3, ixA, cellA .u64 a (show i < a.length by omega), asInt_i]
    refine Ev.g (inR_n (by omega)) (Ev.g (okA _ _) (Ev.c (spec_l03Word_ev p (t + 8 * i) (by omega) hp) ?_))
    simp only [hdV_c, tlV_c, parts1_a, asInt_i, asBool_b, asStr_s, asLen_f, asCells_f, tupL_t, refCells_r, ownLen_o, setA .u64 a _ (show i < a.length by omega)]
    exact Ev.g (inR_n (by omega)) (Ev.g (bleA .u64 (by omega)) (spec_abs_l hp ht n (i + 1) _ (by omega) (by rw [List.length_set]; exact ha) h))
theorem sub32 (a : List Int) : inS 0 32 (lenS (EV.strOfNums (kT a))) = true := inS_t (by omega) (by omega) (by show (32 : Int) ≤ ((EV.strOfNums (kT a)).size : Nat); rw [EV.strOfNums_size, kT_len]; decide)
theorem spec_sp_l (hp : p.size < 1152921504606846976) : ∀ (d t : Nat) (a : List Int), t + 136 * d = p.size → a.length = 25 → Ev (fun k m _ _ => L_spec_Digest_0 k m (t : Int) p (arrC .u64 a)) [.str (subS (EV.strOfNums (kT (kSp p t d a))) 0 32)]
  | 0, t, a, ht, ha => by
    refine Ev.step (fun k m _ _ => L_spec_Digest_0_s k m _ _ _) (Ev.f (ltI_f (by rw [lenI_c]; show ¬ (t : Int) < (p.size : Int); omega)) ?_)
    simp only [intsA .u64 ha]
    refine Ev.g (kindA .u64 ha) (Ev.c (spec_l03Text_ev ha) ?_)
    simp only [hdV_c, tlV_c, parts1_a, asInt_i, asBool_b, asStr_s, asLen_f, asCells_f, tupL_t, refCells_r, ownLen_o]
    exact Ev.g (sub32 a) (Ev.now _)
  | d + 1, t, a, ht, ha => by
    refine Ev.step (fun k m _ _ => L_spec_Digest_0_s k m _ _ _) (Ev.t (ltI_t (by rw [lenI_c]; show (t : Int) < (p.size : Int); omega)) ?_)
    rw [show kSp p t (d + 1) a = kSp p (t + 136) d (kAll (kAbs p t 0 17 a)) from rfl]
    exact Ev.l1 (spec_abs_l hp (by omega) 17 0 a rfl ha (spec_sp_l hp d (t + 136) _ (by omega) (by rw [kAll_len, kAbs_len]; exact ha)))
theorem impl_abs_l (hp : p.size < 1152921504606846976) {t : Nat} (ht : t + 136 ≤ p.size) : ∀ (n i : Nat) (a : List Int), i + n = 17 → a.length = 25 →
    Ev (fun k m _ _ => L_impl_Digest_0 k m ((t + 136 : Nat) : Int) p (arrC .u64 (kAll (kAbs p t i n a)))) r →
    Ev (fun k m q _ => L_impl_Digest_1 k m q (t : Int) p (i : Int) (arrC .u64 a)) r
  | 0, i, a, hi, ha, h => by
    rw [show kAbs p t i 0 a = a from rfl] at h
    have q1 : wr .i64 (addI (t : Int) 136) = ((t + 136 : Nat) : Int) := iAdd rfl (by omega)
    refine Ev.step (fun k m q _ => L_impl_Digest_1_s k m q _ _ _ _) (Ev.f (ltI_f (by omega)) (Ev.c (impl_rounds_ev ha) (Ev.g rfl ?_)))
    simp only [hdV_c, tlV_c, parts1_a, asInt_i, asBool_b, asStr_s, asLen_f, asCells_f, tupL_t, refCells_r, ownLen_o, q1]
    exact Ev.o1 h
  | n + 1, i, a, hi, ha, h => by
    rw [show kAbs p t i (n + 1) a = kAbs p t (i + 1) n (a.set i (bx (nthI a i) (kW p (t + 8 * i)))) from rfl] at h
    have q1 : wr .i64 (addI (i : Int) 1) = ((i + 1 : Nat) : Int) := iAdd rfl (by omega)
    have q2 : wr .i64 (mulI 8 (i : Int)) = ((8 * i : Nat) : Int) := iMul rfl (by omega)
    have q3 : wr .i64 (addI (t : Int) ((8 * i : Nat) : Int)) = ((t + 8 * i : Nat) : Int) := iAdd rfl (by omega)
    refine Ev.step (fun k m q _ => L_impl_Digest_1_s k m q _ _ _ _) (Ev.t (ltI_t (by omega)) ?_)
    simp only [q1, q2, q3, ixA, cellA .u64 a (show i < a.length by omega), asInt_i]
    refine Ev.g (inR_n (by omega)) (Ev.g (okA _ _) (Ev.c (impl_wordAt_ev p (t + 8 * i) (by omega) hp) ?_))
    simp only [hdV_c, tlV_c, parts1_a, asInt_i, asBool_b, asStr_s, asLen_f, asCells_f, tupL_t, refCells_r, ownLen_o, setA .u64 a _ (show i < a.length by omega)]
    exact Ev.g (inR_n (by omega)) (Ev.g (bleA .u64 (by omega)) (impl_abs_l hp ht n (i + 1) _ (by omega) (by rw [List.length_set]; exact ha) h))
theorem impl_sp_l (hp : p.size < 1152921504606846976) : ∀ (d t : Nat) (a : List Int), t + 136 * d = p.size → a.length = 25 → Ev (fun k m _ _ => L_impl_Digest_0 k m (t : Int) p (arrC .u64 a)) [.str (subS (EV.strOfNums (kT (kSp p t d a))) 0 32)]
  | 0, t, a, ht, ha => by
    refine Ev.step (fun k m _ _ => L_impl_Digest_0_s k m _ _ _) (Ev.f (ltI_f (by rw [lenI_c]; show ¬ (t : Int) < (p.size : Int); omega)) (Ev.c (impl_text_ev ha) (Ev.g rfl ?_)))
    simp only [hdV_c, tlV_c, parts1_a, asInt_i, asBool_b, asStr_s, asLen_f, asCells_f, tupL_t, refCells_r, ownLen_o]
    exact Ev.g (sub32 a) (Ev.now _)
  | d + 1, t, a, ht, ha => by
    refine Ev.step (fun k m _ _ => L_impl_Digest_0_s k m _ _ _) (Ev.t (ltI_t (by rw [lenI_c]; show (t : Int) < (p.size : Int); omega)) ?_)
    rw [show kSp p t (d + 1) a = kSp p (t + 136) d (kAll (kAbs p t 0 17 a)) from rfl]
    exact Ev.l1 (impl_abs_l hp (by omega) 17 0 a rfl ha (impl_sp_l hp d (t + 136) _ (by omega) (by rw [kAll_len, kAbs_len]; exact ha)))
end
theorem pad_size (s : ByteArray) : (EV.strOfNums (kPad (bts s))).size = (s.size / 136 + 1) * 136 := by rw [EV.strOfNums_size, kPad_len, bts_length]
theorem spec_Digest_ev {s : ByteArray} (hs : s.size ≤ 1099511627776) : Does cp n_spec_Digest [.str s] [.str (dig s)] := by
  have h := pad_size s
  refine Ev.fn (fun k => F_spec_Digest k s) (Ev.c (spec_KeccakPad_ev hs) ?_)
  simp only [hdV_c, tlV_c, parts1_a, asInt_i, asBool_b, asStr_s, asLen_f, asCells_f, tupL_t, refCells_r, ownLen_o]
  exact Ev.l0 (spec_sp_l (by omega) (s.size / 136 + 1) 0 z25 (by omega) rfl)
theorem impl_Digest_ev {s : ByteArray} (hs : s.size ≤ 1099511627776) : Does cp n_impl_Digest [.str s] [.str (dig s)] := by
  have h := pad_size s
  refine Ev.fn (fun k => F_impl_Digest k s) (Ev.c (impl_KeccakPad_ev hs) ?_)
  simp only [hdV_c, tlV_c, parts1_a, asInt_i, asBool_b, asStr_s, asLen_f, asCells_f, tupL_t, refCells_r, ownLen_o]
  exact Ev.l0 (impl_sp_l (by omega) (s.size / 136 + 1) 0 z25 (by omega) rfl)


def emptyTree : Tree := .mk false ⟨#[]⟩ []



/-! wt and text -/
theorem fits_wt : ∀ (d : Nat) (x : Tree), fits d x = true → x.wt ≤ 1048576 → x.wt + 1 ≤ 2 * (itxt x).size
  | d, x, h, hw => by
    have hwx := wt_eq x
    cases hb : x.b with
    | false =>
      rw [fits_leaf hb] at h
      unfold leafOk at h
      simp only [Bool.and_eq_true, decide_eq_true_eq] at h
      have hk : x.ks = [] := List.eq_nil_of_length_eq_zero h.2
      rw [hk, wtL_nil] at hwx
      rw [itxt_eq, hb]
      simp only [Bool.false_eq_true, if_false]
      split
      · rename_i q; have := q.1; simp only [List.length_nil] at hwx; omega
      · rw [size_append]
        have := (headT_size (base := 128) (n := x.t.size) (by omega)).1
        simp only [List.length_nil] at hwx
        omega
    | true =>
      cases d with
      | zero => simp [fits, hb] at h
      | succ d =>
        by_cases ht : x.t = ByteArray.mk (Array.mk [])
        · by_cases h17 : 17 < x.ks.length
          · rw [fits_wide hb h17] at h; cases h
          · rw [fits_list hb ht h17, List.all_eq_true] at h
            have hks : ∀ y ∈ x.ks, y.wt + 1 ≤ 2 * (itxt y).size := fun y hy => fits_wt d y (h y hy) (by have := wtL_mem _ y hy; omega)
            have hsum : ∀ l : List Tree, (∀ y ∈ l, y.wt + 1 ≤ 2 * (itxt y).size) → l.length + Tree.wtL l ≤ 2 * (itxtL l).size := by
              intro l
              induction l with
              | nil => intro _; rw [wtL_nil]; simp
              | cons y l ih =>
                intro hl
                rw [wtL_cons, itxtL_cons, size_append, List.length_cons]
                have h1 := hl y (by simp)
                have h2 := ih fun z hz => hl z (by simp [hz])
                omega
            have h3 := hsum _ hks
            have hz : x.t.size = 0 := by rw [ht]; rfl
            rw [itxt_eq, hb]
            simp only [if_true]
            rw [size_append]
            have hh := itxtL_size x.ks (fun y hy => by have := wtL_mem _ y hy; omega) (fun y _ => itxt_size y)
            have := (headT_size (base := 192) (n := (itxtL x.ks).size) (by omega)).1
            omega
        · rw [fits_text hb ht] at h; cases h
/-! copies -/
theorem catIt (ws : List Tree) (y : Tree) : catC (cutC (ws.flatMap eItem) 0 (mulN ws.length 3)) (cutC [.bool y.b, .str y.t, .fs y.ks.length (y.ks.flatMap eItem)] 0 3) = (ws ++ [y]).flatMap eItem := by
  rw [cut_all eItem_len, ← eItem_eq, List.flatMap_append, List.flatMap_singleton]
  have : cutC (eItem y) 0 3 = eItem y := by
    unfold cutC
    rw [List.drop_zero, List.take_of_length_le (by rw [eItem_len]; exact Nat.le_refl _)]
  rw [this]; rfl
theorem addIt (ws : List Tree) (y : Tree) : addN ws.length 1 = (ws ++ [y]).length := by rw [List.length_append]; rfl
theorem spec_copy_l (b : Bool) (t : ByteArray) (xs : List Tree) (hl : xs.length ≤ 1048576) (hs : ∀ y ∈ xs, Does cp n_spec_l19Copy [aItem y] [aItem y]) {b' : Bool} {t' : ByteArray} {u : Bool} {v : ByteArray} {w : Nat} {z : List AV} (d : Nat) : ∀ i : Nat, i + d = xs.length →
    Ev (fun k m _ _ => L_spec_l19Copy_0 k m (i : Int) b t (xs.take i).length b' t' xs.length (xs.flatMap eItem) u v w ((xs.take i).flatMap eItem) z) [.agg [.bool b, .str t, .fs xs.length (xs.flatMap eItem)]] := by
  induction d with
  | zero =>
    intro i hi
    rw [List.take_of_length_le (by omega)]
    exact Ev.step (fun k m _ _ => L_spec_l19Copy_0_s k m _ _ _ _ _ _ _ _ _ _ _ _ _) (Ev.f (ltI_f (by rw [lenI_c]; omega)) (Ev.some_ (by rw [cut_all eItem_len])))
  | succ d ih =>
    intro i hi
    have hi' : i < xs.length := by omega
    have e : catC ((xs.take i).flatMap eItem) (cutC [.bool (xs[i]).b, .str (xs[i]).t, .fs (xs[i]).ks.length ((xs[i]).ks.flatMap eItem)] 0 3) = (xs.take (i + 1)).flatMap eItem := by
      have := catIt (xs.take i) xs[i]
      rw [cut_all eItem_len, take_next xs i hi'] at this
      exact this
    have e2 : addN (xs.take i).length 1 = (xs.take (i + 1)).length := by rw [addIt (xs.take i) xs[i], take_next xs i hi']
    have hle : (xs.take (i + 1)).length ≤ 1048576 := by rw [List.length_take]; omega
    refine Ev.step (fun k m _ _ => L_spec_l19Copy_0_s k m _ _ _ _ _ _ _ _ _ _ _ _ _) (Ev.t (ltI_t (by rw [lenI_c]; omega)) (Ev.g (inR_n hi') ?_))
    simp only [ci0 hi', ci1 hi', ci2 hi', hdV_c, tlV_c, parts1_a, asInt_i, asBool_b, asStr_s, asLen_f, asCells_f, tupL_t, refCells_r, ownLen_o]
    refine Ev.g rfl (Ev.c (hs _ (List.getElem_mem hi')) ?_)
    simp only [aItem, hdV_c, tlV_c, parts1_a, asInt_i, asBool_b, asStr_s, asLen_f, asCells_f, tupL_t, refCells_r, ownLen_o, cut_all eItem_len, e, e2, wrS (show i < 9223372036854775807 by omega)]
    exact Ev.g (by have := fitN_small (b := 48) hle (by decide); rwa [Bool.and_true] at this) (ih (i + 1) (by omega))
theorem spec_l19Copy_ev : ∀ x : Tree, x.wt ≤ 1048576 → Does cp n_spec_l19Copy [aItem x] [aItem x] := Tree.ind1 fun x hx w => by
  obtain ⟨k1, k2⟩ := sm_kids w
  refine Ev.fn (fun k => F_spec_l19Copy k _ _ _ _) ?_
  exact (spec_copy_l x.b x.t x.ks k1 (fun y hy => hx y hy (k2 y hy)) x.ks.length 0 (by omega)).l0
theorem impl_copy_l (b : Bool) (t : ByteArray) (xs : List Tree) (hl : xs.length ≤ 1048576) (hs : ∀ y ∈ xs, Does cp n_impl_copyItem [aItem y] [aItem y]) {u : Bool} {v : ByteArray} {w : Nat} {z : List AV} (d : Nat) : ∀ i : Nat, i + d = xs.length →
    Ev (fun k m _ _ => L_impl_copyItem_0 k m xs.length (xs.flatMap eItem) (lenI xs.length) (i : Int) b t (xs.take i).length u v w ((xs.take i).flatMap eItem) z) [.agg [.bool b, .str t, .fs xs.length (xs.flatMap eItem)]] := by
  induction d with
  | zero =>
    intro i hi
    rw [List.take_of_length_le (by omega)]
    exact Ev.step (fun k m _ _ => L_impl_copyItem_0_s k m _ _ _ _ _ _ _ _ _ _ _ _) (Ev.f (ltI_f (by rw [lenI_c]; omega)) (Ev.some_ (by rw [cut_all eItem_len])))
  | succ d ih =>
    intro i hi
    have hi' : i < xs.length := by omega
    have e : catC ((xs.take i).flatMap eItem) (cutC [.bool (xs[i]).b, .str (xs[i]).t, .fs (xs[i]).ks.length ((xs[i]).ks.flatMap eItem)] 0 3) = (xs.take (i + 1)).flatMap eItem := by
      have := catIt (xs.take i) xs[i]
      rw [cut_all eItem_len, take_next xs i hi'] at this
      exact this
    have e2 : addN (xs.take i).length 1 = (xs.take (i + 1)).length := by rw [addIt (xs.take i) xs[i], take_next xs i hi']
    have hle : (xs.take (i + 1)).length ≤ 1048576 := by rw [List.length_take]; omega
    refine Ev.step (fun k m _ _ => L_impl_copyItem_0_s k m _ _ _ _ _ _ _ _ _ _ _ _) (Ev.t (ltI_t (by rw [lenI_c]; omega)) (Ev.g (inR_n hi') ?_))
    simp only [ci0 hi', ci1 hi', ci2 hi', hdV_c, tlV_c, parts1_a, asInt_i, asBool_b, asStr_s, asLen_f, asCells_f, tupL_t, refCells_r, ownLen_o]
    refine Ev.g rfl (Ev.c (hs _ (List.getElem_mem hi')) ?_)
    simp only [aItem, hdV_c, tlV_c, parts1_a, asInt_i, asBool_b, asStr_s, asLen_f, asCells_f, tupL_t, refCells_r, ownLen_o, cut_all eItem_len, e, e2, wrS (show i < 9223372036854775807 by omega)]
    exact Ev.g (by have := fitN_small (b := 48) hle (by decide); rwa [Bool.and_true] at this) (ih (i + 1) (by omega))
theorem impl_copyItem_ev : ∀ x : Tree, x.wt ≤ 1048576 → Does cp n_impl_copyItem [aItem x] [aItem x] := Tree.ind1 fun x hx w => by
  obtain ⟨k1, k2⟩ := sm_kids w
  refine Ev.fn (fun k => F_impl_copyItem k _ _ _ _) ?_
  exact (impl_copy_l x.b x.t x.ks k1 (fun y hy => hx y hy (k2 y hy)) x.ks.length 0 (by omega)).l0
theorem spec_l19Text_ev (s : ByteArray) : Does cp n_spec_l19Text [.str s] [.agg [.bool false, .str s, .fs 0 []]] := Ev.fn (fun k => F_spec_l19Text k s) (Ev.now _)
theorem empty_txt : (itxt emptyTree).size < 32 := by
  rw [itxt_eq]
  rw [if_neg (by decide), if_neg (by decide)]
  decide
/-- What stands for an item in another. -/
theorem trieRef_sh (x : Tree) (w : x.wt ≤ 1048576) : ∃ y : Tree, (y.wt ≤ 62 ∧ (x = emptyTree → y = emptyTree) ∧ (x.b = true → y.b = true ∨ y.t.size = 32)) ∧ Does cp n_spec_TrieRef [aItem x] [aItem y] ∧ Does cp n_impl_TrieRef [aItem x] [aItem y] := by
  obtain ⟨r, hr, es, ei⟩ := spec_ItemText_ev x w
  by_cases hok : fits 4 x = true ∧ (itxt x).size ≤ 900
  · rw [if_pos hok] at hr
    subst hr
    by_cases h32 : (itxt x).size < 32
    · have := fits_wt 4 x hok.1 w
      refine ⟨x, ⟨by omega, id, Or.inl⟩, ?_, ?_⟩
      · refine Ev.fn (fun k => F_spec_TrieRef k _ _ _ _) (Ev.c es ?_)
        simp only [hdV_c, tlV_c, parts1_a, asInt_i, asBool_b, asStr_s, asLen_f, asCells_f, tupL_t, refCells_r, ownLen_o]
        refine Ev.t rfl (Ev.t (ltI_t (by rw [lenI_c, lenS_d]; omega)) (Ev.c (spec_l19Copy_ev x w) ?_))
        simp only [aItem, hdV_c, tlV_c, parts1_a, asInt_i, asBool_b, asStr_s, asLen_f, asCells_f, tupL_t, refCells_r, ownLen_o, cut_all eItem_len]
        exact Ev.now _
      · refine Ev.fn (fun k => F_impl_TrieRef k _ _ _ _) (Ev.c ei ?_)
        simp only [hdV_c, tlV_c, parts1_a, asInt_i, asBool_b, asStr_s, asLen_f, asCells_f, tupL_t, refCells_r, ownLen_o]
        refine Ev.t rfl (Ev.t (leI_t (by rw [lenI_c, lenS_d]; omega)) (Ev.c (impl_copyItem_ev x w) ?_))
        simp only [aItem, hdV_c, tlV_c, parts1_a, asInt_i, asBool_b, asStr_s, asLen_f, asCells_f, tupL_t, refCells_r, ownLen_o, cut_all eItem_len]
        exact Ev.now _
    · refine ⟨.mk false (dig (itxt x)) [], ⟨by rw [wt_eq]; show (dig (itxt x)).size + (0 + Tree.wtL []) ≤ 62; rw [dig_len, wtL_nil]; omega, fun q => absurd (by rw [q]; exact empty_txt) h32, fun _ => Or.inr (dig_len _)⟩, ?_, ?_⟩
      · refine Ev.fn (fun k => F_spec_TrieRef k _ _ _ _) (Ev.c es ?_)
        simp only [hdV_c, tlV_c, parts1_a, asInt_i, asBool_b, asStr_s, asLen_f, asCells_f, tupL_t, refCells_r, ownLen_o]
        refine Ev.t rfl (Ev.f (ltI_f (by rw [lenI_c, lenS_d]; omega)) (Ev.c (spec_Digest_ev (by omega)) ?_))
        simp only [hdV_c, tlV_c, parts1_a, asInt_i, asBool_b, asStr_s, asLen_f, asCells_f, tupL_t, refCells_r, ownLen_o]
        refine Ev.c (spec_l19Text_ev _) ?_
        simp only [hdV_c, tlV_c, parts1_a, asInt_i, asBool_b, asStr_s, asLen_f, asCells_f, tupL_t, refCells_r, ownLen_o]
        exact Ev.some_ rfl
      · refine Ev.fn (fun k => F_impl_TrieRef k _ _ _ _) (Ev.c ei ?_)
        simp only [hdV_c, tlV_c, parts1_a, asInt_i, asBool_b, asStr_s, asLen_f, asCells_f, tupL_t, refCells_r, ownLen_o]
        refine Ev.t rfl (Ev.f (leI_f (by rw [lenI_c, lenS_d]; omega)) (Ev.c (impl_Digest_ev (by omega)) ?_))
        simp only [hdV_c, tlV_c, parts1_a, asInt_i, asBool_b, asStr_s, asLen_f, asCells_f, tupL_t, refCells_r, ownLen_o]
        exact Ev.now _
  · rw [if_neg hok] at hr
    subst hr
    refine ⟨.mk false (dig (⟨#[]⟩ : ByteArray)) [], ⟨by rw [wt_eq]; show (dig (⟨#[]⟩ : ByteArray)).size + (0 + Tree.wtL []) ≤ 62; rw [dig_len, wtL_nil]; omega, fun q => absurd (by rw [q]; exact ⟨by decide, by have := empty_txt; omega⟩) hok, fun _ => Or.inr (dig_len _)⟩, ?_, ?_⟩
    · refine Ev.fn (fun k => F_spec_TrieRef k _ _ _ _) (Ev.c es ?_)
      simp only [hdV_c, tlV_c, parts1_a, asInt_i, asBool_b, asStr_s, asLen_f, asCells_f, tupL_t, refCells_r, ownLen_o]
      refine Ev.f rfl (Ev.c (spec_Digest_ev (by decide)) ?_)
      simp only [hdV_c, tlV_c, parts1_a, asInt_i, asBool_b, asStr_s, asLen_f, asCells_f, tupL_t, refCells_r, ownLen_o]
      refine Ev.c (spec_l19Text_ev _) ?_
      simp only [hdV_c, tlV_c, parts1_a, asInt_i, asBool_b, asStr_s, asLen_f, asCells_f, tupL_t, refCells_r, ownLen_o]
      exact Ev.some_ rfl
    · refine Ev.fn (fun k => F_impl_TrieRef k _ _ _ _) (Ev.c ei ?_)
      simp only [hdV_c, tlV_c, parts1_a, asInt_i, asBool_b, asStr_s, asLen_f, asCells_f, tupL_t, refCells_r, ownLen_o]
      refine Ev.f rfl (Ev.c (impl_Digest_ev (by decide)) ?_)
      simp only [hdV_c, tlV_c, parts1_a, asInt_i, asBool_b, asStr_s, asLen_f, asCells_f, tupL_t, refCells_r, ownLen_o]
      exact Ev.now _
theorem laws_markText_l (f : Nat) : ∀ (n : Nat) (s : ByteArray), n < 10 ^ f → n ≤ 1000000000 → s.size + f ≤ 1000 → ∃ r, Ev (fun k m _ _ => L_laws_markText_0 k m (n : Int) s) [.str r] := by
  have fin : ∀ (s : ByteArray), s.size ≤ 1000 → ∃ r, Ev (fun k m _ _ => L_laws_markText_0 k m ((0 : Nat) : Int) s) [.str r] := fun s hs =>
    ⟨_, Ev.step (fun k m _ _ => L_laws_markText_0_s k m _ _) (Ev.f (ltI_f (by omega)) (Ev.g (fitS_small (by show 1 + s.size ≤ _; omega)) (Ev.now _)))⟩
  induction f with
  | zero =>
    intro n s h _ hs
    have : n = 0 := by rw [Nat.pow_zero] at h; omega
    subst this
    exact fin s (by omega)
  | succ f ih =>
    intro n s h hn hs
    rcases Nat.eq_zero_or_pos n with rfl | hp
    · exact fin s (by omega)
    · have e2 : wr .i64 (quoI (n : Int) 10) = ((n / 10 : Nat) : Int) := by rw [quoI_d, tdiv_pos (by omega), wr64 (by omega)]; omega
      obtain ⟨r, e⟩ := ih (n / 10) (catS (strOf (cutC [.int .u8 (wr .u8 (wr .i64 (addI 48 (remI (n : Int) 10))))] 0 1)) s) (by rw [Nat.pow_succ] at h; omega) (by omega) (by
        show (_ ++ _ : ByteArray).size + f ≤ _
        rw [ByteArray.size_append, show (strOf (cutC [.int .u8 (wr .u8 (wr .i64 (addI 48 (remI (n : Int) 10))))] 0 1)).size = 1 from rfl]
        omega)
      refine ⟨r, Ev.step (fun k m _ _ => L_laws_markText_0_s k m _ _) (Ev.t (ltI_t (by omega)) (Ev.g rfl (Ev.g (fitS_small (by rw [show (strOf (cutC [.int .u8 (wr .u8 (wr .i64 (addI 48 (remI (n : Int) 10))))] 0 1)).size = 1 from rfl]; omega)) ?_)))⟩
      rw [e2]
      exact e
theorem laws_markText_ex (n : Nat) (hn : n ≤ 1000000000) : ∃ r, Does cp n_laws_markText [.int .i64 (n : Int)] [.str r] := by
  rcases Nat.eq_zero_or_pos n with rfl | hp
  · exact ⟨_, Ev.fn (fun k => F_laws_markText k _) (Ev.t (leI_t (by omega)) (Ev.now _))⟩
  · obtain ⟨r, e⟩ := laws_markText_l 10 n (⟨#[]⟩ : ByteArray) (by omega) hn (by decide)
    exact ⟨r, Ev.fn (fun k => F_laws_markText k _) (Ev.f (leI_f (by omega)) e.l0)⟩
open Classical in
/-- The text of a mark. -/
noncomputable def mT (n : Nat) : ByteArray := if h : ∃ r, Does cp n_laws_markText [.int .i64 (n : Int)] [.str r] then Classical.choose h else (⟨#[]⟩ : ByteArray)
theorem laws_markText_ev (n : Nat) (hn : n ≤ 1000000000) : Does cp n_laws_markText [.int .i64 (n : Int)] [.str (mT n)] := by
  unfold mT
  rw [dif_pos (laws_markText_ex n hn)]
  exact Classical.choose_spec (laws_markText_ex n hn)
theorem fpCells_f (c : List AV) (e : Nat) : AV.fpCells (.fp c e) = c := rfl
theorem set_pre (P l : List AV) (k : Nat) (v : AV) : (P ++ l).set (P.length + k) v = P ++ l.set k v := by
  rw [List.set_append_right _ _ (by omega), Nat.add_sub_cancel_left]
theorem cell_pre (P l : List AV) (k : Nat) : cellAt (P ++ l) (P.length + k) = cellAt l k := by
  unfold cellAt
  rw [List.getD_eq_getElem?_getD, List.getD_eq_getElem?_getD, List.getElem?_append_right (by omega), Nat.add_sub_cancel_left]
theorem setMany1 (cs : List AV) (o : Nat) (v : AV) : setMany cs o [v] = cs.set o v := rfl
theorem cutN_of (n : Nat) (zs : List Tree) (h : zs.length = n) : cutN n (zs.flatMap eItem) = zs.flatMap eItem := by
  cases n with
  | zero => rw [List.eq_nil_of_length_eq_zero h]; rfl
  | succ n => rfl
/-- What a mark on an item's kids comes to. -/
def MkL (xs : List Tree) : Prop := ∀ v : Nat, v + 2 * (xs.length + Tree.wtL xs) ≤ 900000000 → ∃ (zs : List Tree) (v' : Nat), zs.length = xs.length ∧ v ≤ v' ∧ v' ≤ v + 2 * (xs.length + Tree.wtL xs) ∧
  Does cp n_laws_markItemS [.tup [.fp (xs.flatMap eItem) 0], .own 0 0 xs.length, .int .i64 (v : Int)] [.tup [.fp (zs.flatMap eItem) 0], .int .i64 (v' : Int)] ∧
  Does cp n_laws_markItemS [.tup [.fp (xs.flatMap eItem) 28], .own 0 0 xs.length, .int .i64 (v : Int)] [.tup [.fp (zs.flatMap eItem) 28], .int .i64 (v' : Int)] ∧
  Does cp n_laws_heldItemS [.fs zs.length (zs.flatMap eItem), .int .i64 (v : Int)] [.int .i64 (v' : Int)]
theorem pos_i (i : Nat) : addN 0 (mulN (natI (i : Int)) 3) = i * 3 := by rw [addN_d, natI_c, mulN_d, Nat.zero_add]
theorem mkL_l : ∀ (xs : List Tree) (ys zs0 : List Tree) (n v : Nat), (∀ y ∈ xs, MkL y.ks) → ys.length = zs0.length → n = ys.length + xs.length → n ≤ 1048576 → v + 2 * (xs.length + Tree.wtL xs) ≤ 900000000 →
    ∃ (zs : List Tree) (v' : Nat), zs.length = xs.length ∧ v ≤ v' ∧ v' ≤ v + 2 * (xs.length + Tree.wtL xs) ∧
      Ev (fun k m _ _ => L_laws_markItemS_b_0 k m n (ys.length : Int) (v : Int) ((zs0 ++ xs).flatMap eItem)) [.tup [.fp ((zs0 ++ zs).flatMap eItem) 0], .int .i64 (v' : Int)] ∧
      Ev (fun k m _ _ => L_laws_markItemS_a_0 k m n (ys.length : Int) (v : Int) ((zs0 ++ xs).flatMap eItem)) [.tup [.fp ((zs0 ++ zs).flatMap eItem) 28], .int .i64 (v' : Int)] ∧
      Ev (fun k m _ _ => L_laws_heldItemS_0 k m n ((zs0 ++ zs).flatMap eItem) (ys.length : Int) (v : Int)) [.int .i64 (v' : Int)]
  | [], ys, zs0, n, v, _, hz, hn, hle, hv => by
    refine ⟨[], v, rfl, Nat.le_refl _, by omega, ?_, ?_, ?_⟩
    · exact Ev.step (fun k m _ _ => L_laws_markItemS_b_0_s k m _ _ _ _) (Ev.f (ltI_f (by rw [lenI_c]; simp at hn; omega)) (Ev.now _))
    · exact Ev.step (fun k m _ _ => L_laws_markItemS_a_0_s k m _ _ _ _) (Ev.f (ltI_f (by rw [lenI_c]; simp at hn; omega)) (Ev.now _))
    · exact Ev.step (fun k m _ _ => L_laws_heldItemS_0_s k m _ _ _ _) (Ev.f (ltI_f (by rw [lenI_c]; simp at hn; omega)) (Ev.now _))
  | x :: xs, ys, zs0, n, v, hx, hz, hn, hle, hv => by
    rw [List.length_cons, wtL_cons] at hv
    have hwx := wt_eq x
    obtain ⟨ks', v1, k1, k2, k3, kb, ka, kh⟩ := hx x (by simp) (v + 2) (by omega)
    have hn' : n = (ys ++ [x]).length + xs.length := by simp at hn ⊢; omega
    let z : Tree := .mk (eqI (remI (v : Int) 3) 0) (mT (v + 1)) ks'
    obtain ⟨zs, v', a1, a2, a3, ab, aa, ah⟩ := mkL_l xs (ys ++ [x]) (zs0 ++ [z]) n v1 (fun y hy => hx y (by simp [hy])) (by simp [hz]) hn' hle (by omega)
    have hlen : (ys ++ [x]).length = ys.length + 1 := by simp
    have hP : (zs0.flatMap eItem).length = ys.length * 3 := by rw [encs_len eItem_len, hz]
    have hcs : (zs0 ++ x :: xs).flatMap eItem = zs0.flatMap eItem ++ (AV.bool x.b :: AV.str x.t :: AV.fs x.ks.length (x.ks.flatMap eItem) :: xs.flatMap eItem) := by
      rw [List.flatMap_append, List.flatMap_cons, eItem_eq x]; rfl
    have hzz : (zs0 ++ [z] ++ xs).flatMap eItem = zs0.flatMap eItem ++ (AV.bool (eqI (remI (v : Int) 3) 0) :: AV.str (mT (v + 1)) :: AV.fs ks'.length (ks'.flatMap eItem) :: xs.flatMap eItem) := by
      rw [List.append_assoc, List.flatMap_append, List.singleton_append, List.flatMap_cons, eItem_eq z]; rfl
    have hzh : (zs0 ++ z :: zs).flatMap eItem = zs0.flatMap eItem ++ (AV.bool (eqI (remI (v : Int) 3) 0) :: AV.str (mT (v + 1)) :: AV.fs ks'.length (ks'.flatMap eItem) :: zs.flatMap eItem) := by
      rw [List.flatMap_append, List.flatMap_cons, eItem_eq z]; rfl
    have hap : zs0 ++ [z] ++ zs = zs0 ++ z :: zs := by simp
    have hilt : ltI (ys.length : Int) (lenI n) = true := ltI_t (by rw [lenI_c]; simp at hn; omega)
    have hin : inR (ys.length : Int) n = true := inR_n (by simp at hn; omega)
    have w1 : wr .i64 (addI (v : Int) 1) = ((v + 1 : Nat) : Int) := wrS (by omega)
    have w2 : wr .i64 (addI ((v + 1 : Nat) : Int) 1) = ((v + 2 : Nat) : Int) := wrS (by omega)
    have w3 : wr .i64 (addI (ys.length : Int) 1) = ((ys.length + 1 : Nat) : Int) := wrS (by simp at hn; omega)
    have hmt := laws_markText_ev (v + 1) (by omega)
    have s0 : setMany ((zs0 ++ x :: xs).flatMap eItem) (addN 0 (mulN (natI (ys.length : Int)) 3)) [AV.bool (eqI (remI (v : Int) 3) 0)] = zs0.flatMap eItem ++ (AV.bool (eqI (remI (v : Int) 3) 0) :: AV.str x.t :: AV.fs x.ks.length (x.ks.flatMap eItem) :: xs.flatMap eItem) := by
      rw [setMany1, pos_i, hcs, ← hP, ← Nat.add_zero (zs0.flatMap eItem).length, set_pre]; rfl
    have s1 : ∀ t : ByteArray, setMany (zs0.flatMap eItem ++ (AV.bool (eqI (remI (v : Int) 3) 0) :: AV.str x.t :: AV.fs x.ks.length (x.ks.flatMap eItem) :: xs.flatMap eItem)) (addN (addN 0 (mulN (natI (ys.length : Int)) 3)) 1) [AV.str t] = zs0.flatMap eItem ++ (AV.bool (eqI (remI (v : Int) 3) 0) :: AV.str t :: AV.fs x.ks.length (x.ks.flatMap eItem) :: xs.flatMap eItem) := fun t => by
      rw [setMany1, pos_i, addN_d, ← hP, set_pre]; rfl
    have s2 : ∀ (t : ByteArray) (a : AV), setMany (zs0.flatMap eItem ++ (AV.bool (eqI (remI (v : Int) 3) 0) :: AV.str t :: AV.fs x.ks.length (x.ks.flatMap eItem) :: xs.flatMap eItem)) (addN (addN 0 (mulN (natI (ys.length : Int)) 3)) 2) [a] = zs0.flatMap eItem ++ (AV.bool (eqI (remI (v : Int) 3) 0) :: AV.str t :: a :: xs.flatMap eItem) := fun t a => by
      rw [setMany1, pos_i, addN_d, ← hP, set_pre]; rfl
    have g2 : ∀ (t : ByteArray) (a : AV), cellAt (zs0.flatMap eItem ++ (AV.bool (eqI (remI (v : Int) 3) 0) :: AV.str t :: a :: xs.flatMap eItem)) (addN (addN 0 (mulN (natI (ys.length : Int)) 3)) 2) = a := fun t a => by
      rw [pos_i, addN_d, ← hP, cell_pre]; rfl
    have q0 : Nat.ble (Nat.succ (addN 0 (mulN (natI (ys.length : Int)) 3))) (List.length ((zs0 ++ x :: xs).flatMap eItem)) = true := Nat.ble_eq_true_of_le (by rw [pos_i, hcs, List.length_append, hP]; simp only [List.length_cons]; omega)
    have q1 : Nat.ble (Nat.succ (addN (addN 0 (mulN (natI (ys.length : Int)) 3)) 1)) (List.length (zs0.flatMap eItem ++ (AV.bool (eqI (remI (v : Int) 3) 0) :: AV.str x.t :: AV.fs x.ks.length (x.ks.flatMap eItem) :: xs.flatMap eItem))) = true := Nat.ble_eq_true_of_le (by rw [pos_i, addN_d, List.length_append, hP]; simp only [List.length_cons]; omega)
    refine ⟨z :: zs, v', by simp [a1], by omega, by rw [List.length_cons, wtL_cons]; omega, ?_, ?_, ?_⟩
    · refine Ev.step (fun k m _ _ => L_laws_markItemS_b_0_s k m _ _ _ _) (Ev.t hilt (Ev.g hin (Ev.g q0 ?_)))
      simp only [w1, s0]
      refine Ev.c hmt ?_
      simp only [hdV_c, tlV_c, parts1_a, asInt_i, asBool_b, asStr_s, asLen_f, asCells_f, tupL_t, refCells_r, ownLen_o, w2, s1, g2]
      refine Ev.g hin (Ev.g q1 (Ev.g hin (Ev.g rfl (Ev.c kb (Ev.g rfl ?_)))))
      simp only [hdV_c, tlV_c, parts1_a, asInt_i, asBool_b, asStr_s, asLen_f, asCells_f, tupL_t, refCells_r, ownLen_o, w3, s2, fpCells_f, cutN_of _ _ k1]
      rw [← k1, ← hzz, ← hlen, ← hap]
      exact ab
    · refine Ev.step (fun k m _ _ => L_laws_markItemS_a_0_s k m _ _ _ _) (Ev.t hilt (Ev.g hin (Ev.g q0 ?_)))
      simp only [w1, s0]
      refine Ev.c hmt ?_
      simp only [hdV_c, tlV_c, parts1_a, asInt_i, asBool_b, asStr_s, asLen_f, asCells_f, tupL_t, refCells_r, ownLen_o, w2, s1, g2]
      refine Ev.g hin (Ev.g q1 (Ev.g hin (Ev.g rfl (Ev.c kb (Ev.g rfl ?_)))))
      simp only [hdV_c, tlV_c, parts1_a, asInt_i, asBool_b, asStr_s, asLen_f, asCells_f, tupL_t, refCells_r, ownLen_o, w3, s2, fpCells_f, cutN_of _ _ k1]
      rw [← k1, ← hzz, ← hlen, ← hap]
      exact aa
    · have hi' : ys.length < (zs0 ++ z :: zs).length := by simp; omega
      have hg : (zs0 ++ z :: zs)[ys.length]'hi' = z := by simp [hz]
      have c0 := ci0 hi'
      have c1 := ci1 hi'
      have c2 := ci2 hi'
      rw [hg] at c0 c1 c2
      have zb : z.b = eqI (remI (v : Int) 3) 0 := rfl
      have zt : z.t = mT (v + 1) := rfl
      have zk : z.ks = ks' := rfl
      rw [zb] at c0
      rw [zt] at c1
      rw [zk] at c2
      refine Ev.step (fun k m _ _ => L_laws_heldItemS_0_s k m _ _ _ _) (Ev.t hilt (Ev.g hin ?_))
      simp only [c0, c1, c2, w1, w2, w3, hdV_c, tlV_c, parts1_a, asInt_i, asBool_b, asStr_s, asLen_f, asCells_f, tupL_t, refCells_r, ownLen_o]
      refine Ev.g rfl (Ev.f (by rw [eqB_d]; simp [notB]) (Ev.g hin (Ev.g rfl (Ev.c hmt ?_))))
      simp only [hdV_c, tlV_c, parts1_a, asInt_i, asBool_b, asStr_s, asLen_f, asCells_f, tupL_t, refCells_r, ownLen_o]
      refine Ev.f (by rw [eqS_t rfl]; rfl) (Ev.g hin (Ev.g rfl (Ev.c kh ?_)))
      simp only [hdV_c, tlV_c, parts1_a, asInt_i, asBool_b, asStr_s, asLen_f, asCells_f, tupL_t, refCells_r, ownLen_o]
      refine Ev.f (ltI_f (by omega)) ?_
      rw [← hlen, ← hap]
      exact ah
theorem mkL_of (xs : List Tree) (hl : xs.length ≤ 1048576) (h : ∀ y ∈ xs, MkL y.ks) : MkL xs := fun v hv => by
  obtain ⟨zs, v', a1, a2, a3, ab, aa, ah⟩ := mkL_l xs [] [] xs.length v h rfl (by simp) hl hv
  refine ⟨zs, v', a1, a2, a3, Ev.fn (fun k => F_laws_markItemS_b k _ _ _) ab.l0, Ev.fn (fun k => F_laws_markItemS_a k _ _ _) aa.l0, Ev.fn (fun k => F_laws_heldItemS k _ _ _) ?_⟩
  rw [a1]; exact ah.l0
theorem mkL_item : ∀ x : Tree, x.wt ≤ 1048576 → MkL x.ks := Tree.ind1 fun x hx w => mkL_of x.ks (sm_kids w).1 fun y hy => hx y hy ((sm_kids w).2 y hy)
/-- A mark on an item, and that it is held. -/
theorem mark_item (x : Tree) (w : x.wt ≤ 1048576) : ∃ (zs : List Tree) (v' : Nat), Does cp n_laws_markItem [.tup [.fp (x.ks.flatMap eItem) 28], .agg [.bool x.b, .str x.t, .own 0 0 x.ks.length], .int .i64 1] [.tup [.fp (zs.flatMap eItem) 28], .int .i64 (v' : Int)] ∧ zs.length = x.ks.length ∧
    Does cp n_laws_heldItem [.agg [.bool x.b, .str x.t, .fs zs.length (zs.flatMap eItem)], .int .i64 1] [.int .i64 (v' : Int)] := by
  have hw := wt_eq x
  obtain ⟨zs, v', a1, a2, a3, _, aa, ah⟩ := mkL_item x w 1 (by omega)
  refine ⟨zs, v', Ev.fn (fun k => F_laws_markItem_a k _ _ _ _ _) (Ev.c aa (Ev.g rfl (Ev.some_ (by simp only [hdV_c, tlV_c, parts1_a, asInt_i, asBool_b, asStr_s, asLen_f, asCells_f, tupL_t, refCells_r, ownLen_o, fpCells_f])))), a1, Ev.fn (fun k => F_laws_heldItem k _ _ _ _ _) (Ev.c ah ?_)⟩
  simp only [hdV_c, tlV_c, parts1_a, asInt_i, asBool_b, asStr_s, asLen_f, asCells_f, tupL_t, refCells_r, ownLen_o]
  exact Ev.f (ltI_f (by omega)) (Ev.now _)


theorem law_TrieRef (x : Tree) (ok : okItem x) : ∃ k, evF cp k n_laws_FnExactTrieRef [.agg (encItem.enc x)] = some [.bool true] := by
  apply Ev.rounds
  show Does cp n_laws_FnExactTrieRef [.agg (eItem x)] _
  rw [eItem_eq]
  refine Ev.fn (fun k => F_laws_FnExactTrieRef k _ _ _ _) (Ev.c (laws_szItem_ev x ok 1048576 (by omega) (by omega)) ?_)
  simp only [hdV_c, tlV_c, parts1_a, asInt_i, asBool_b, asStr_s, asLen_f, asCells_f, tupL_t, refCells_r, ownLen_o]
  by_cases h : (x.wt : Int) ≤ 1048576
  · refine Ev.f (ltI_f (by rw [szw, if_pos h]; omega)) ?_
    have w : x.wt ≤ 1048576 := by omega
    have et := laws_toItem_ev x w
    obtain ⟨y, ⟨wy, _, _⟩, es, ei⟩ := trieRef_sh x w
    have wy' : y.wt ≤ 1048576 := by omega
    obtain ⟨ms, mv, m1, _, _⟩ := mark_item x w
    obtain ⟨zs, v', n1, n2, n3⟩ := mark_item y wy'
    have hcut : cutC (zs.flatMap eItem) 0 (mulN y.ks.length 3) = zs.flatMap eItem := by rw [← n2, cut_all eItem_len]
    rw [n2] at n3
    have eqx := laws_eqItem_same x w
    have eqy := laws_eqItem_same y wy'
    unfold aItem at et es ei eqx eqy
    refine Ev.c et ?_
    simp only [hdV_c, tlV_c, parts1_a, asInt_i, asBool_b, asStr_s, asLen_f, asCells_f, tupL_t, refCells_r, ownLen_o, cut_all eItem_len]
    refine Ev.c es ?_
    simp only [hdV_c, tlV_c, parts1_a, asInt_i, asBool_b, asStr_s, asLen_f, asCells_f, tupL_t, refCells_r, ownLen_o, cut_all eItem_len]
    refine Ev.c et ?_
    simp only [hdV_c, tlV_c, parts1_a, asInt_i, asBool_b, asStr_s, asLen_f, asCells_f, tupL_t, refCells_r, ownLen_o, cut_all eItem_len]
    refine Ev.c ei ?_
    simp only [hdV_c, tlV_c, parts1_a, asInt_i, asBool_b, asStr_s, asLen_f, asCells_f, tupL_t, refCells_r, ownLen_o, cut_all eItem_len]
    refine Ev.c eqy (Ev.f rfl (Ev.c et ?_))
    simp only [hdV_c, tlV_c, parts1_a, asInt_i, asBool_b, asStr_s, asLen_f, asCells_f, tupL_t, refCells_r, ownLen_o, cut_all eItem_len]
    refine Ev.c eqx (Ev.f rfl (Ev.c m1 (Ev.g rfl (Ev.f (ltI_f (by simp only [hdV_c, tlV_c, parts1_a, asInt_i, asBool_b, asStr_s, asLen_f, asCells_f, tupL_t, refCells_r, ownLen_o]; omega)) (Ev.c eqy (Ev.f rfl (Ev.c n1 (Ev.g rfl ?_))))))))
    simp only [hdV_c, tlV_c, parts1_a, asInt_i, asBool_b, asStr_s, asLen_f, asCells_f, tupL_t, refCells_r, ownLen_o, fpCells_f]
    simp only [hcut]
    refine Ev.c n3 ?_
    simp only [hdV_c, tlV_c, parts1_a, asInt_i, asBool_b, asStr_s, asLen_f, asCells_f, tupL_t, refCells_r, ownLen_o]
    refine Ev.f (ltI_f (by omega)) (Ev.f (by rw [eqI_t rfl]; rfl) (Ev.c et ?_))
    simp only [hdV_c, tlV_c, parts1_a, asInt_i, asBool_b, asStr_s, asLen_f, asCells_f, tupL_t, refCells_r, ownLen_o, cut_all eItem_len]
    refine Ev.c ei ?_
    simp only [hdV_c, tlV_c, parts1_a, asInt_i, asBool_b, asStr_s, asLen_f, asCells_f, tupL_t, refCells_r, ownLen_o, cut_all eItem_len]
    refine Ev.c eqy (Ev.f rfl (Ev.c n3 ?_))
    simp only [hdV_c, tlV_c, parts1_a, asInt_i, asBool_b, asStr_s, asLen_f, asCells_f, tupL_t, refCells_r, ownLen_o]
    exact Ev.f (ltI_f (by omega)) (Ev.f (by rw [eqI_t rfl]; rfl) (Ev.now _))
  · exact Ev.t (ltI_t (by rw [szw, if_neg h]; omega)) (Ev.now _)


end Go.Proofs.YtlcnpecejhcnfaaDoor.FnExactTrieRef
