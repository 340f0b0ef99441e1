/- FnExactItemOk, the plain part: for every argument the law answers true. No conditions. -/
import Derived.Test.YtmhakjpjnnfidaaEVcFnExactItemOk
namespace Go.Proofs.Ytmhakjpjnnfidaa.FnExactItemOk
open Go Go.Proofs Go.Proofs.Ytmhakjpjnnfidaa.EV
set_option linter.unusedVariables false
set_option linter.unusedSimpArgs false
set_option maxRecDepth 100000
def eI (n : Int) : List AV := [.int .i64 n]
theorem eI_len (n : Int) : (eI n).length = 1 := rfl
def eS (s : ByteArray) : List AV := [.str s]
theorem eS_len (s : ByteArray) : (eS s).length = 1 := rfl
theorem notB_to {b : Bool} (h : notB b = true) : b = false := by cases b <;> first | rfl | cases h
theorem notB_fo {b : Bool} (h : notB b = false) : b = true := by cases b <;> first | rfl | cases h
theorem Ev.an {a b : Bool} {X : Nat → Nat → Nat → Nat → Option (List AV)} (h : a = true → Ev X [.bool b]) : Ev (fun k m p q => br (notB a) (some [.bool false]) (X k m p q)) [.bool (a && b)] := by
  cases a with
  | true => exact Ev.f rfl (h rfl)
  | false => exact Ev.t rfl (Ev.now _)
theorem Ev.ap {a b : Bool} {X : Nat → Nat → Nat → Nat → Option (List AV)} (h : a = true → Ev X [.bool b]) : Ev (fun k m p q => br a (X k m p q) (some [.bool false])) [.bool (a && b)] := by
  cases a with
  | true => exact Ev.t rfl (h rfl)
  | false => exact Ev.f rfl (Ev.now _)
theorem Ev.na {a b : Bool} {X : Nat → Nat → Nat → Nat → Option (List AV)} (h : a = false → Ev X [.bool b]) : Ev (fun k m p q => br a (some [.bool false]) (X k m p q)) [.bool (!a && b)] := by
  cases a with
  | false => exact Ev.f rfl (h rfl)
  | true => exact Ev.t rfl (Ev.now _)

def eItem : Tree → List AV := Tree.cells
theorem eItem_len (x : Tree) : (eItem x).length = 3 := encItem.len x
theorem eItem_eq (x : Tree) : eItem x = [.bool x.b, .str x.t, .fs x.ks.length (x.ks.flatMap eItem)] := by
  cases x
  show Tree.cells _ = _
  rw [Tree.cells, Tree.cellsL_eq]
  rfl
theorem okItem_kids {x : Tree} (h : okItem x) : okStr x.t ∧ x.ks.length ≤ 9223372036854775807 ∧ ∀ y ∈ x.ks, okItem y := by
  cases x
  rw [okItem] at h
  exact ⟨h.1, h.2.1, okItems_mem _ h.2.2⟩
theorem ci0 {xs : List Tree} {i : Nat} (hi : i < xs.length) : cellAt (xs.flatMap eItem) (mulN (natI (i : Int)) 3) = .bool (xs[i]).b := by rw [cell_enc0 eItem_len hi (by decide), eItem_eq]; rfl
theorem ci1 {xs : List Tree} {i : Nat} (hi : i < xs.length) : cellAt (xs.flatMap eItem) (addN (mulN (natI (i : Int)) 3) 1) = .str (xs[i]).t := by rw [cell_enc eItem_len hi 1 (by decide), eItem_eq]; rfl
theorem ci2 {xs : List Tree} {i : Nat} (hi : i < xs.length) : cellAt (xs.flatMap eItem) (addN (mulN (natI (i : Int)) 3) 2) = .fs (xs[i]).ks.length ((xs[i]).ks.flatMap eItem) := by rw [cell_enc eItem_len hi 2 (by decide), eItem_eq]; rfl
/-- An item as an argument. -/
def aItem (x : Tree) : AV := .agg [.bool x.b, .str x.t, .fs x.ks.length (x.ks.flatMap eItem)]
def szw (w : Nat) (v : Int) : Int := if (w : Int) ≤ v then v - w else -1
def PSz (x : Tree) : Prop := okItem x → ∀ v : Int, 0 ≤ v → v ≤ 1048576 → Does cp n_laws_szItem [aItem x, .int .i64 v] [.int .i64 (szw x.wt v)]
theorem laws_szItemS_l (xs : List Tree) (hl : xs.length ≤ 1048576) (hk : ∀ y ∈ xs, okItem y) (hs : ∀ y ∈ xs, PSz y) (d : Nat) : ∀ (i : Nat) (v : Int), i + d = xs.length → 0 ≤ v → v ≤ 1048576 →
    Ev (fun k m _ _ => L_laws_szItemS_0 k m xs.length (xs.flatMap eItem) (i : Int) v) [.int .i64 (szw (Tree.wtL (xs.drop i)) v)] := by
  induction d with
  | zero =>
    intro i v hi h0 h1
    refine Ev.step (fun k m _ _ => L_laws_szItemS_0_s k m _ _ _ _) (Ev.f (ltI_f (by rw [lenI_c]; omega)) (Ev.some_ ?_))
    rw [List.drop_eq_nil_of_le (by omega), wtL_nil, szw, if_pos (by omega)]
    simp
  | succ d ih =>
    intro i v hi h0 h1
    have hi' : i < xs.length := by omega
    have hm := List.getElem_mem hi'
    refine Ev.step (fun k m _ _ => L_laws_szItemS_0_s k m _ _ _ _) (Ev.t (ltI_t (by rw [lenI_c]; omega)) (Ev.g (inR_n (by omega)) ?_))
    simp only [ci0 hi', ci1 hi', ci2 hi', hdV_c, tlV_c, parts1_a, asInt_i, asBool_b, asStr_s, asLen_f, asCells_f]
    refine Ev.g rfl (Ev.c (hs _ hm (hk _ hm) v h0 h1) ?_)
    simp only [hdV_c, tlV_c, parts1_a, asInt_i, asBool_b, asStr_s, asLen_f, asCells_f]
    rw [List.drop_eq_getElem_cons hi', wtL_cons]
    by_cases hc : ((xs[i]).wt : Int) ≤ v
    · refine Ev.f (ltI_f (by rw [szw, if_pos hc]; omega)) ?_
      rw [szw, if_pos hc, wrS (by omega)]
      refine (ih (i + 1) _ (by omega) (by omega) (by omega)).to ?_
      simp only [szw]
      congr 2
      by_cases h2 : ((Tree.wtL (xs.drop (i + 1)) : Nat) : Int) ≤ v - (xs[i]).wt
      · rw [if_pos h2, if_pos (by push_cast; omega)]; push_cast; omega
      · rw [if_neg h2, if_neg (by push_cast; omega)]
    · refine Ev.t (ltI_t (by rw [szw, if_neg hc]; omega)) (Ev.some_ ?_)
      rw [szw, if_neg (by push_cast; omega)]
theorem laws_szItemS_ev (xs : List Tree) (hl : xs.length ≤ 9223372036854775807) (hk : ∀ y ∈ xs, okItem y) (hs : ∀ y ∈ xs, PSz y) (v : Int) (h0 : 0 ≤ v) (h1 : v ≤ 1048576) :
    Does cp n_laws_szItemS [.fs xs.length (xs.flatMap eItem), .int .i64 v] [.int .i64 (szw (xs.length + Tree.wtL xs) v)] := by
  have e : wr .i64 (subI v (lenI xs.length)) = v - (xs.length : Int) := by rw [subI_d, lenI_c, wr64 (by omega)]
  by_cases c : v - (xs.length : Int) < 0
  · refine Ev.fn (fun k => F_laws_szItemS k _ _ _) (Ev.t (ltI_t (by rw [e]; exact c)) (Ev.some_ ?_))
    rw [szw, if_neg (by push_cast; omega)]
  · refine Ev.fn (fun k => F_laws_szItemS k _ _ _) (Ev.f (ltI_f (by rw [e]; exact c)) ?_)
    simp only [e]
    refine (laws_szItemS_l xs (by omega) hk hs xs.length 0 (v - (xs.length : Int)) (by omega) (by omega) (by omega)).l0.to ?_
    rw [List.drop_zero]
    simp only [szw]
    congr 2
    by_cases h2 : ((Tree.wtL xs : Nat) : Int) ≤ v - xs.length
    · rw [if_pos h2, if_pos (by push_cast; omega)]; push_cast; omega
    · rw [if_neg h2, if_neg (by push_cast; omega)]
theorem laws_szItem_ev : ∀ x : Tree, PSz x := Tree.ind1 fun x hx ok v h0 h1 => by
  obtain ⟨o1, o2, o3⟩ := okItem_kids ok
  have o1' : x.t.size ≤ 9223372036854775807 := o1
  have e : wr .i64 (subI v (lenI (lenS x.t))) = v - (x.t.size : Int) := by rw [subI_d, lenI_c, lenS_d, wr64 (by omega)]
  refine Ev.fn (fun k => F_laws_szItem k _ _ _ _ _) ?_
  rw [wt_eq]
  by_cases c : v - (x.t.size : Int) < 0
  · refine Ev.t (ltI_t (by rw [e]; exact c)) (Ev.some_ ?_)
    rw [szw, if_neg (by push_cast; omega)]
  · refine Ev.f (ltI_f (by rw [e]; exact c)) ?_
    simp only [e]
    refine Ev.c (laws_szItemS_ev x.ks o2 o3 hx _ (by omega) (by omega)) ?_
    simp only [hdV_c, tlV_c, parts1_a, asInt_i, asBool_b, asStr_s, asLen_f, asCells_f]
    by_cases h2 : ((x.ks.length + Tree.wtL x.ks : Nat) : Int) ≤ v - x.t.size
    · refine Ev.f (ltI_f (by rw [szw, if_pos h2]; omega)) (Ev.some_ ?_)
      rw [szw, if_pos h2, szw, if_pos (by push_cast at h2 ⊢; omega)]
      push_cast
      congr 2
      omega
    · refine Ev.t (ltI_t (by rw [szw, if_neg h2]; omega)) (Ev.some_ ?_)
      rw [szw, if_neg (by push_cast at h2 ⊢; omega)]
theorem sm_kids {x : Tree} (h : x.wt ≤ 1048576) : x.ks.length ≤ 1048576 ∧ ∀ y ∈ x.ks, y.wt ≤ 1048576 := by
  rw [wt_eq] at h
  exact ⟨by omega, fun y hy => by have := wtL_mem _ y hy; omega⟩
def PTo (x : Tree) : Prop := x.wt ≤ 1048576 → Does cp n_laws_toItem [aItem x] [aItem x]
theorem laws_toItemS_l (xs : List Tree) (hl : xs.length ≤ 1048576) (hw : ∀ y ∈ xs, y.wt ≤ 1048576) (hs : ∀ y ∈ xs, PTo y) (d : Nat) : ∀ i : Nat, i + d = xs.length →
    Ev (fun k m _ _ => L_laws_toItemS_0 k m xs.length (xs.flatMap eItem) xs.length (i : Int) ((xs.take i).flatMap eItem ++ (List.replicate d ([.bool false, .str (ByteArray.mk (Array.mk [])), .nils] : List AV)).flatten)) [.fs xs.length (xs.flatMap eItem)] := by
  induction d with
  | zero =>
    intro i hi
    refine Ev.step (fun k m _ _ => L_laws_toItemS_0_s k m _ _ _ _ _) (Ev.f (ltI_f (by rw [lenI_c]; omega)) (Ev.some_ ?_))
    rw [List.replicate_zero, List.flatten_nil, List.append_nil, List.take_of_length_le (by omega), cut_all eItem_len]
  | succ d ih =>
    intro i hi
    have hi' : i < xs.length := by omega
    have hm := List.getElem_mem hi'
    have hset : setMany ((xs.take i).flatMap eItem ++ (List.replicate (d + 1) ([.bool false, .str (ByteArray.mk (Array.mk [])), .nils] : List AV)).flatten) (addN 0 (mulN (natI (i : Int)) 3)) ([.bool (xs[i]).b, .str (xs[i]).t, .fs (xs[i]).ks.length ((xs[i]).ks.flatMap eItem)] : List AV) = (xs.take (i + 1)).flatMap eItem ++ (List.replicate d ([.bool false, .str (ByteArray.mk (Array.mk [])), .nils] : List AV)).flatten := by
      rw [addN_d, Nat.zero_add, natI_c, mulN_d, ← take_next xs i (by omega)]
      have hp : (xs.take i).length = i := by rw [List.length_take]; omega
      have := fill_at eItem_len (z := ([.bool false, .str (ByteArray.mk (Array.mk [])), .nils] : List AV)) rfl (xs.take i) (xs[i]) d
      rw [hp, eItem_eq (xs[i])] at this
      exact this
    have hb : Nat.ble (Nat.succ (Nat.succ (Nat.succ (addN 0 (mulN (natI (i : Int)) 3))))) (List.length ((xs.take i).flatMap eItem ++ (List.replicate (d + 1) ([.bool false, .str (ByteArray.mk (Array.mk [])), .nils] : List AV)).flatten)) = true := by
      rw [fill_len eItem_len rfl, List.length_take]
      exact Nat.ble_eq_true_of_le (by rw [addN_d, natI_c, mulN_d, Nat.min_eq_left (by omega)]; omega)
    refine Ev.step (fun k m _ _ => L_laws_toItemS_0_s k m _ _ _ _ _) (Ev.t (ltI_t (by rw [lenI_c]; omega)) (Ev.g (inR_n (by omega)) ?_))
    simp only [ci0 hi', ci1 hi', ci2 hi', hdV_c, tlV_c, parts1_a, asInt_i, asBool_b, asStr_s, asLen_f, asCells_f]
    refine Ev.g rfl (Ev.c (hs _ hm (hw _ hm)) (Ev.g (inR_n (by omega)) (Ev.g hb ?_)))
    simp only [aItem, hdV_c, tlV_c, parts1_a, asInt_i, asBool_b, asStr_s, asLen_f, asCells_f, wrS (show i < 9223372036854775807 by omega), hset]
    exact ih (i + 1) (by omega)
theorem laws_toItemS_ev (xs : List Tree) (hl : xs.length ≤ 1048576) (hw : ∀ y ∈ xs, y.wt ≤ 1048576) (hs : ∀ y ∈ xs, PTo y) : Does cp n_laws_toItemS [.fs xs.length (xs.flatMap eItem)] [.fs xs.length (xs.flatMap eItem)] :=
  Ev.fn (fun k => F_laws_toItemS k _ _) (Ev.g (fit_small hl (by decide)) (laws_toItemS_l xs hl hw hs xs.length 0 (by omega)).l0)
theorem laws_toItem_ev : ∀ x : Tree, PTo x := Tree.ind1 fun x hx w =>
  Ev.fn (fun k => F_laws_toItem k _ _ _ _) (Ev.c (laws_toItemS_ev x.ks (sm_kids w).1 (sm_kids w).2 hx) (Ev.now _))
def PEq (x : Tree) : Prop := x.wt ≤ 1048576 → Does cp n_laws_eqItem [aItem x, aItem x] [.bool true]
theorem laws_eqItemS_l (xs : List Tree) (hl : xs.length ≤ 1048576) (hw : ∀ y ∈ xs, y.wt ≤ 1048576) (hs : ∀ y ∈ xs, PEq y) (d : Nat) : ∀ i : Nat, i + d = xs.length →
    Ev (fun k m _ _ => L_laws_eqItemS_0 k m xs.length (xs.flatMap eItem) xs.length (xs.flatMap eItem) (i : Int)) [.bool true] := by
  induction d with
  | zero =>
    intro i hi
    exact Ev.step (fun k m _ _ => L_laws_eqItemS_0_s k m _ _ _ _ _) (Ev.f (ltI_f (by rw [lenI_c]; omega)) (Ev.now _))
  | succ d ih =>
    intro i hi
    have hi' : i < xs.length := by omega
    have hm := List.getElem_mem hi'
    refine Ev.step (fun k m _ _ => L_laws_eqItemS_0_s k m _ _ _ _ _) (Ev.t (ltI_t (by rw [lenI_c]; omega)) (Ev.g (inR_n (by omega)) ?_))
    simp only [ci0 hi', ci1 hi', ci2 hi', hdV_c, tlV_c, parts1_a, asInt_i, asBool_b, asStr_s, asLen_f, asCells_f]
    refine Ev.g rfl (Ev.g (inR_n (by omega)) (Ev.g rfl (Ev.c (hs _ hm (hw _ hm)) (Ev.f rfl ?_))))
    simp only [wrS (show i < 9223372036854775807 by omega)]
    exact ih (i + 1) (by omega)
theorem laws_eqItemS_same (xs : List Tree) (hl : xs.length ≤ 1048576) (hw : ∀ y ∈ xs, y.wt ≤ 1048576) (hs : ∀ y ∈ xs, PEq y) : Does cp n_laws_eqItemS [.fs xs.length (xs.flatMap eItem), .fs xs.length (xs.flatMap eItem)] [.bool true] :=
  Ev.fn (fun k => F_laws_eqItemS k _ _ _ _) (Ev.f (by rw [eqI_t rfl]; rfl) (laws_eqItemS_l xs hl hw hs xs.length 0 (by omega)).l0)
theorem laws_eqItem_same : ∀ x : Tree, PEq x := Tree.ind1 fun x hx w =>
  Ev.fn (fun k => F_laws_eqItem k _ _ _ _ _ _ _ _) (Ev.f (by rw [eqB_d]; simp [notB]) (Ev.f (by rw [eqS_t rfl]; rfl) (Ev.c (laws_eqItemS_same x.ks (sm_kids w).1 (sm_kids w).2 hx) (Ev.f rfl (Ev.now _)))))

def leafOk (x : Tree) : Bool := decide (x.t.size ≤ 600) && decide (x.ks.length = 0)
def fits : Nat → Tree → Bool
  | 0, x => !x.b && leafOk x
  | d + 1, x => if x.b then decide (x.t = ByteArray.mk (Array.mk [])) && (decide (x.ks.length ≤ 17) && x.ks.all (fits d)) else leafOk x
theorem fits_leaf {x : Tree} (h : x.b = false) (d : Nat) : fits d x = leafOk x := by cases d <;> simp [fits, h]
theorem fits_text {x : Tree} (h : x.b = true) (h2 : ¬ x.t = ByteArray.mk (Array.mk [])) (d : Nat) : fits d x = false := by cases d <;> simp [fits, h, h2]
theorem fits_wide {x : Tree} (h : x.b = true) (h2 : 17 < x.ks.length) (d : Nat) : fits d x = false := by cases d <;> simp [fits, h]; omega
theorem fits_list {x : Tree} (h : x.b = true) (h2 : x.t = ByteArray.mk (Array.mk [])) (h3 : ¬ 17 < x.ks.length) (d : Nat) : fits (d + 1) x = x.ks.all (fits d) := by
  have : x.ks.length ≤ 17 := by omega
  simp [fits, h, h2, this]
theorem spec_l17Deep_l (v : Int) (b : Bool) (t : ByteArray) (xs : List Tree) (hl : xs.length ≤ 17) (f : Tree → Bool) (hs : ∀ y ∈ xs, Does cp n_spec_l17Deep [aItem y, .int .i64 (wr .i64 (addI v 1))] [.bool (f y)]) (d : Nat) : ∀ i : Nat, i + d = xs.length →
    Ev (fun k m _ _ => L_spec_l17Deep_0 k m v (i : Int) b t xs.length (xs.flatMap eItem)) [.bool ((xs.drop i).all f)] := by
  induction d with
  | zero =>
    intro i hi
    refine Ev.step (fun k m _ _ => L_spec_l17Deep_0_s k m _ _ _ _ _ _) (Ev.f (ltI_f (by rw [lenI_c]; omega)) (Ev.some_ ?_))
    rw [List.drop_eq_nil_of_le (by omega)]; rfl
  | succ d ih =>
    intro i hi
    have hi' : i < xs.length := by omega
    have hm := List.getElem_mem hi'
    refine Ev.step (fun k m _ _ => L_spec_l17Deep_0_s k m _ _ _ _ _ _) (Ev.t (ltI_t (by rw [lenI_c]; omega)) (Ev.g (inR_n (by omega)) ?_))
    simp only [ci0 hi', ci1 hi', ci2 hi', hdV_c, tlV_c, parts1_a, asInt_i, asBool_b, asStr_s, asLen_f, asCells_f]
    refine Ev.g rfl (Ev.c (hs _ hm) ?_)
    rw [List.drop_eq_getElem_cons hi', List.all_cons]
    simp only [hdV_c, tlV_c, parts1_a, asInt_i, asBool_b, asStr_s, asLen_f, asCells_f, wrS (show i < 9223372036854775807 by omega)]
    exact Ev.an fun _ => ih (i + 1) (by omega)
theorem spec_l17Deep_ev (d : Nat) : ∀ (x : Tree), d ≤ 4 → Does cp n_spec_l17Deep [aItem x, .int .i64 (4 - (d : Int))] [.bool (fits d x)] := by
  induction d with
  | zero =>
    intro x hd
    refine Ev.fn (fun k => F_spec_l17Deep k _ _ _ _ _) ?_
    by_cases h : x.b = true
    · refine Ev.f (by rw [h]; rfl) (Ev.b (fun h2 => Ev.some_ ?_) (fun h2 => Ev.b (fun h3 => Ev.some_ ?_) (fun h3 => Ev.t (leI_t (by simp)) (Ev.some_ ?_))))
      all_goals simp [fits, h]
    · have h' : x.b = false := by simpa using h
      refine Ev.t (by rw [h']; rfl) (Ev.b (fun h2 => Ev.some_ ?_) (fun h2 => Ev.some_ ?_))
      · have := eqI_to h2; rw [lenI_c] at this
        rw [fits_leaf h', leafOk, leI_d, lenI_c, lenS_d]
        have h3 : x.ks.length = 0 := by omega
        simp only [h3, decide_true, Bool.and_true]
        congr 3
        refine propext ?_
        omega
      · have := eqI_fo h2; rw [lenI_c] at this
        rw [fits_leaf h', leafOk]
        have h3 : ¬ x.ks.length = 0 := by omega
        simp [h3]
  | succ d ih =>
    intro x hd
    refine Ev.fn (fun k => F_spec_l17Deep k _ _ _ _ _) ?_
    by_cases h : x.b = true
    · refine Ev.f (by rw [h]; rfl) (Ev.b (fun h2 => Ev.some_ ?_) (fun h2 => Ev.b (fun h3 => Ev.some_ ?_) (fun h3 => ?_)))
      · have := notB_to h2; rw [eqS_d] at this
        rw [fits_text h (of_decide_eq_false this)]
      · have := ltI_to h3; rw [lenI_c] at this
        rw [fits_wide h (by omega)]
      · have h2' := notB_fo h2; rw [eqS_d] at h2'
        have h3' := ltI_fo h3; rw [lenI_c] at h3'
        refine Ev.f (leI_f (by push_cast; omega)) ?_
        rw [fits_list h (of_decide_eq_true h2') (by omega)]
        have e : wr .i64 (addI (4 - ((d + 1 : Nat) : Int)) 1) = 4 - (d : Int) := by rw [addI_d, wr64 (by push_cast; omega)]; push_cast; omega
        exact (spec_l17Deep_l _ _ _ x.ks (by omega) (fits d) (fun y _ => by rw [e]; exact ih y (by omega)) x.ks.length 0 (by omega)).l0
    · have h' : x.b = false := by simpa using h
      refine Ev.t (by rw [h']; rfl) (Ev.b (fun h2 => Ev.some_ ?_) (fun h2 => Ev.some_ ?_))
      · have := eqI_to h2; rw [lenI_c] at this
        rw [fits_leaf h', leafOk, leI_d, lenI_c, lenS_d]
        have h3 : x.ks.length = 0 := by omega
        simp only [h3, decide_true, Bool.and_true]
        congr 3
        refine propext ?_
        omega
      · have := eqI_fo h2; rw [lenI_c] at this
        rw [fits_leaf h', leafOk]
        have h3 : ¬ x.ks.length = 0 := by omega
        simp [h3]
theorem impl_itemFits_l (v : Int) (xs : List Tree) (hl : xs.length ≤ 17) (f : Tree → Bool) (hs : ∀ y ∈ xs, Does cp n_impl_itemFits [aItem y, .int .i64 (wr .i64 (subI v 1))] [.bool (f y)]) (d : Nat) : ∀ i : Nat, i + d = xs.length →
    Ev (fun k m _ _ => L_impl_itemFits_0 k m v xs.length (xs.flatMap eItem) (lenI xs.length) (i : Int)) [.bool ((xs.drop i).all f)] := by
  induction d with
  | zero =>
    intro i hi
    refine Ev.step (fun k m _ _ => L_impl_itemFits_0_s k m _ _ _ _ _) (Ev.f (ltI_f (by rw [lenI_c]; omega)) (Ev.some_ ?_))
    rw [List.drop_eq_nil_of_le (by omega)]; rfl
  | succ d ih =>
    intro i hi
    have hi' : i < xs.length := by omega
    have hm := List.getElem_mem hi'
    refine Ev.step (fun k m _ _ => L_impl_itemFits_0_s k m _ _ _ _ _) (Ev.t (ltI_t (by rw [lenI_c]; omega)) (Ev.g (inR_n (by omega)) ?_))
    simp only [ci0 hi', ci1 hi', ci2 hi', hdV_c, tlV_c, parts1_a, asInt_i, asBool_b, asStr_s, asLen_f, asCells_f]
    refine Ev.g rfl (Ev.c (hs _ hm) ?_)
    rw [List.drop_eq_getElem_cons hi', List.all_cons]
    simp only [hdV_c, tlV_c, parts1_a, asInt_i, asBool_b, asStr_s, asLen_f, asCells_f, wrS (show i < 9223372036854775807 by omega)]
    exact Ev.an fun _ => ih (i + 1) (by omega)
theorem impl_leaf {x : Tree} (h' : x.b = false) (d : Nat) : Ev (fun k m p q => br (leI (lenI (lenS x.t)) 600) (Option.some [AV.bool (eqI (lenI x.ks.length) 0)]) (Option.some [AV.bool Bool.false])) [.bool (fits d x)] := by
  refine Ev.b (fun h2 => Ev.some_ ?_) (fun h2 => Ev.some_ ?_)
  · have := leI_to h2; rw [lenI_c, lenS_d] at this
    rw [fits_leaf h', leafOk, eqI_d, lenI_c]
    have h3 : x.t.size ≤ 600 := by omega
    simp only [h3, decide_true, Bool.true_and]
    congr 3
    refine propext ?_
    omega
  · have := leI_fo h2; rw [lenI_c, lenS_d] at this
    rw [fits_leaf h', leafOk]
    have h3 : ¬ x.t.size ≤ 600 := by omega
    simp [h3]
theorem impl_itemFits_ev (d : Nat) : ∀ (x : Tree), d ≤ 4 → Does cp n_impl_itemFits [aItem x, .int .i64 (d : Int)] [.bool (fits d x)] := by
  induction d with
  | zero =>
    intro x hd
    refine Ev.fn (fun k => F_impl_itemFits k _ _ _ _ _) ?_
    by_cases h : x.b = true
    · refine Ev.f (by rw [h]; rfl) (Ev.b (fun h2 => Ev.some_ ?_) (fun h2 => Ev.b (fun h3 => Ev.some_ ?_) (fun h3 => Ev.t (eqI_t rfl) (Ev.some_ ?_))))
      all_goals simp [fits, h]
    · have h' : x.b = false := by simpa using h
      exact Ev.t (by rw [h']; rfl) (impl_leaf h' _)
  | succ d ih =>
    intro x hd
    refine Ev.fn (fun k => F_impl_itemFits k _ _ _ _ _) ?_
    by_cases h : x.b = true
    · refine Ev.f (by rw [h]; rfl) (Ev.b (fun h2 => Ev.some_ ?_) (fun h2 => Ev.b (fun h3 => Ev.some_ ?_) (fun h3 => ?_)))
      · have := notB_to h2; rw [eqS_d] at this
        rw [fits_text h (of_decide_eq_false this)]
      · have := ltI_to h3; rw [lenI_c] at this
        rw [fits_wide h (by omega)]
      · have h2' := notB_fo h2; rw [eqS_d] at h2'
        have h3' := ltI_fo h3; rw [lenI_c] at h3'
        refine Ev.f (eqI_f (by push_cast; omega)) ?_
        rw [fits_list h (of_decide_eq_true h2') (by omega)]
        have e : wr .i64 (subI ((d + 1 : Nat) : Int) 1) = (d : Int) := by rw [subI_d, wr64 (by push_cast; omega)]; push_cast; omega
        exact (impl_itemFits_l _ x.ks (by omega) (fits d) (fun y _ => by rw [e]; exact ih y (by omega)) x.ks.length 0 (by omega)).l0
    · have h' : x.b = false := by simpa using h
      exact Ev.t (by rw [h']; rfl) (impl_leaf h' _)
theorem spec_ItemOk_ev (x : Tree) : Does cp n_spec_ItemOk [aItem x] [.bool (fits 4 x)] := Ev.fn (fun k => F_spec_ItemOk k _ _ _ _) (Ev.c (spec_l17Deep_ev 4 x (by omega)) (Ev.now _))
theorem impl_ItemOk_ev (x : Tree) : Does cp n_impl_ItemOk [aItem x] [.bool (fits 4 x)] := Ev.fn (fun k => F_impl_ItemOk k _ _ _ _) (Ev.c (impl_itemFits_ev 4 x (by omega)) (Ev.now _))

theorem law_ItemOk (x : Tree) (ok : okItem x) : ∃ k, evF cp k n_laws_FnExactItemOk [.agg (encItem.enc x)] = some [.bool true] := by
  apply Ev.rounds
  show Does cp n_laws_FnExactItemOk [.agg (eItem x)] _
  rw [eItem_eq]
  refine Ev.fn (fun k => F_laws_FnExactItemOk k _ _ _ _) (Ev.c (laws_szItem_ev x ok 1048576 (by omega) (by omega)) ?_)
  simp only [hdV_c, tlV_c, parts1_a, asInt_i, asBool_b, asStr_s, asLen_f, asCells_f]
  by_cases h : (x.wt : Int) ≤ 1048576
  · refine Ev.f (ltI_f (by rw [szw, if_pos h]; omega)) ?_
    have w : x.wt ≤ 1048576 := by omega
    have et := laws_toItem_ev x w
    refine Ev.c et (Ev.c (spec_ItemOk_ev x) (Ev.c et (Ev.c (impl_ItemOk_ev x) (Ev.f ?_ (Ev.c et (Ev.c (laws_eqItem_same x w) (Ev.f rfl (Ev.now _))))))))
    simp only [hdV_c, tlV_c, parts1_a, asInt_i, asBool_b, asStr_s, asLen_f, asCells_f, eqB_d]
    simp [notB]
  · exact Ev.t (ltI_t (by rw [szw, if_neg h]; omega)) (Ev.now _)

end Go.Proofs.Ytmhakjpjnnfidaa.FnExactItemOk
