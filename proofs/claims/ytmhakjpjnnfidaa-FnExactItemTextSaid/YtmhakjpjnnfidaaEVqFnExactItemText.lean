/- FnExactItemText, the plain part: for every argument the law answers true. No conditions. -/
import Derived.Test.YtmhakjpjnnfidaaEVcFnExactItemText
namespace Go.Proofs.Ytmhakjpjnnfidaa.FnExactItemText
open Go Go.Proofs Go.Proofs.Ytmhakjpjnnfidaa.EV
set_option linter.unusedVariables false
set_option linter.unusedSimpArgs false
set_option maxRecDepth 100000
def eI (n : Int) : List AV := [.int .i64 n]
theorem eI_len (n : Int) : (eI n).length = 1 := rfl
def eS (s : ByteArray) : List AV := [.str s]
theorem eS_len (s : ByteArray) : (eS s).length = 1 := rfl
theorem notB_to {b : Bool} (h : notB b = true) : b = false := by cases b <;> first | rfl | cases h
theorem notB_fo {b : Bool} (h : notB b = false) : b = true := by cases b <;> first | rfl | cases h
theorem Ev.an {a b : Bool} {X : Nat → Nat → Nat → Nat → Option (List AV)} (h : a = true → Ev X [.bool b]) : Ev (fun k m p q => br (notB a) (some [.bool false]) (X k m p q)) [.bool (a && b)] := by
  cases a with
  | true => exact Ev.f rfl (h rfl)
  | false => exact Ev.t rfl (Ev.now _)
theorem Ev.ap {a b : Bool} {X : Nat → Nat → Nat → Nat → Option (List AV)} (h : a = true → Ev X [.bool b]) : Ev (fun k m p q => br a (X k m p q) (some [.bool false])) [.bool (a && b)] := by
  cases a with
  | true => exact Ev.t rfl (h rfl)
  | false => exact Ev.f rfl (Ev.now _)
theorem Ev.na {a b : Bool} {X : Nat → Nat → Nat → Nat → Option (List AV)} (h : a = false → Ev X [.bool b]) : Ev (fun k m p q => br a (some [.bool false]) (X k m p q)) [.bool (!a && b)] := by
  cases a with
  | false => exact Ev.f rfl (h rfl)
  | true => exact Ev.t rfl (Ev.now _)


def eItem : Tree → List AV := Tree.cells
theorem eItem_len (x : Tree) : (eItem x).length = 3 := encItem.len x
theorem eItem_eq (x : Tree) : eItem x = [.bool x.b, .str x.t, .fs x.ks.length (x.ks.flatMap eItem)] := by
  cases x
  show Tree.cells _ = _
  rw [Tree.cells, Tree.cellsL_eq]
  rfl
theorem okItem_kids {x : Tree} (h : okItem x) : okStr x.t ∧ x.ks.length ≤ 9223372036854775807 ∧ ∀ y ∈ x.ks, okItem y := by
  cases x
  rw [okItem] at h
  exact ⟨h.1, h.2.1, okItems_mem _ h.2.2⟩
theorem ci0 {xs : List Tree} {i : Nat} (hi : i < xs.length) : cellAt (xs.flatMap eItem) (mulN (natI (i : Int)) 3) = .bool (xs[i]).b := by rw [cell_enc0 eItem_len hi (by decide), eItem_eq]; rfl
theorem ci1 {xs : List Tree} {i : Nat} (hi : i < xs.length) : cellAt (xs.flatMap eItem) (addN (mulN (natI (i : Int)) 3) 1) = .str (xs[i]).t := by rw [cell_enc eItem_len hi 1 (by decide), eItem_eq]; rfl
theorem ci2 {xs : List Tree} {i : Nat} (hi : i < xs.length) : cellAt (xs.flatMap eItem) (addN (mulN (natI (i : Int)) 3) 2) = .fs (xs[i]).ks.length ((xs[i]).ks.flatMap eItem) := by rw [cell_enc eItem_len hi 2 (by decide), eItem_eq]; rfl
/-- An item as an argument. -/
def aItem (x : Tree) : AV := .agg [.bool x.b, .str x.t, .fs x.ks.length (x.ks.flatMap eItem)]
def szw (w : Nat) (v : Int) : Int := if (w : Int) ≤ v then v - w else -1
def PSz (x : Tree) : Prop := okItem x → ∀ v : Int, 0 ≤ v → v ≤ 1048576 → Does cp n_laws_szItem [aItem x, .int .i64 v] [.int .i64 (szw x.wt v)]
theorem laws_szItemS_l (xs : List Tree) (hl : xs.length ≤ 1048576) (hk : ∀ y ∈ xs, okItem y) (hs : ∀ y ∈ xs, PSz y) (d : Nat) : ∀ (i : Nat) (v : Int), i + d = xs.length → 0 ≤ v → v ≤ 1048576 →
    Ev (fun k m _ _ => L_laws_szItemS_0 k m xs.length (xs.flatMap eItem) (i : Int) v) [.int .i64 (szw (Tree.wtL (xs.drop i)) v)] := by
  induction d with
  | zero =>
    intro i v hi h0 h1
    refine Ev.step (fun k m _ _ => L_laws_szItemS_0_s k m _ _ _ _) (Ev.f (ltI_f (by rw [lenI_c]; omega)) (Ev.some_ ?_))
    rw [List.drop_eq_nil_of_le (by omega), wtL_nil, szw, if_pos (by omega)]
    simp
  | succ d ih =>
    intro i v hi h0 h1
    have hi' : i < xs.length := by omega
    have hm := List.getElem_mem hi'
    refine Ev.step (fun k m _ _ => L_laws_szItemS_0_s k m _ _ _ _) (Ev.t (ltI_t (by rw [lenI_c]; omega)) (Ev.g (inR_n (by omega)) ?_))
    simp only [ci0 hi', ci1 hi', ci2 hi', hdV_c, tlV_c, parts1_a, asInt_i, asBool_b, asStr_s, asLen_f, asCells_f, tupL_t, refCells_r, ownLen_o]
    refine Ev.g rfl (Ev.c (hs _ hm (hk _ hm) v h0 h1) ?_)
    simp only [hdV_c, tlV_c, parts1_a, asInt_i, asBool_b, asStr_s, asLen_f, asCells_f, tupL_t, refCells_r, ownLen_o]
    rw [List.drop_eq_getElem_cons hi', wtL_cons]
    by_cases hc : ((xs[i]).wt : Int) ≤ v
    · refine Ev.f (ltI_f (by rw [szw, if_pos hc]; omega)) ?_
      rw [szw, if_pos hc, wrS (by omega)]
      refine (ih (i + 1) _ (by omega) (by omega) (by omega)).to ?_
      simp only [szw]
      congr 2
      by_cases h2 : ((Tree.wtL (xs.drop (i + 1)) : Nat) : Int) ≤ v - (xs[i]).wt
      · rw [if_pos h2, if_pos (by push_cast; omega)]; push_cast; omega
      · rw [if_neg h2, if_neg (by push_cast; omega)]
    · refine Ev.t (ltI_t (by rw [szw, if_neg hc]; omega)) (Ev.some_ ?_)
      rw [szw, if_neg (by push_cast; omega)]
theorem laws_szItemS_ev (xs : List Tree) (hl : xs.length ≤ 9223372036854775807) (hk : ∀ y ∈ xs, okItem y) (hs : ∀ y ∈ xs, PSz y) (v : Int) (h0 : 0 ≤ v) (h1 : v ≤ 1048576) :
    Does cp n_laws_szItemS [.fs xs.length (xs.flatMap eItem), .int .i64 v] [.int .i64 (szw (xs.length + Tree.wtL xs) v)] := by
  have e : wr .i64 (subI v (lenI xs.length)) = v - (xs.length : Int) := by rw [subI_d, lenI_c, wr64 (by omega)]
  by_cases c : v - (xs.length : Int) < 0
  · refine Ev.fn (fun k => F_laws_szItemS k _ _ _) (Ev.t (ltI_t (by rw [e]; exact c)) (Ev.some_ ?_))
    rw [szw, if_neg (by push_cast; omega)]
  · refine Ev.fn (fun k => F_laws_szItemS k _ _ _) (Ev.f (ltI_f (by rw [e]; exact c)) ?_)
    simp only [e]
    refine (laws_szItemS_l xs (by omega) hk hs xs.length 0 (v - (xs.length : Int)) (by omega) (by omega) (by omega)).l0.to ?_
    rw [List.drop_zero]
    simp only [szw]
    congr 2
    by_cases h2 : ((Tree.wtL xs : Nat) : Int) ≤ v - xs.length
    · rw [if_pos h2, if_pos (by push_cast; omega)]; push_cast; omega
    · rw [if_neg h2, if_neg (by push_cast; omega)]
theorem laws_szItem_ev : ∀ x : Tree, PSz x := Tree.ind1 fun x hx ok v h0 h1 => by
  obtain ⟨o1, o2, o3⟩ := okItem_kids ok
  have o1' : x.t.size ≤ 9223372036854775807 := o1
  have e : wr .i64 (subI v (lenI (lenS x.t))) = v - (x.t.size : Int) := by rw [subI_d, lenI_c, lenS_d, wr64 (by omega)]
  refine Ev.fn (fun k => F_laws_szItem k _ _ _ _ _) ?_
  rw [wt_eq]
  by_cases c : v - (x.t.size : Int) < 0
  · refine Ev.t (ltI_t (by rw [e]; exact c)) (Ev.some_ ?_)
    rw [szw, if_neg (by push_cast; omega)]
  · refine Ev.f (ltI_f (by rw [e]; exact c)) ?_
    simp only [e]
    refine Ev.c (laws_szItemS_ev x.ks o2 o3 hx _ (by omega) (by omega)) ?_
    simp only [hdV_c, tlV_c, parts1_a, asInt_i, asBool_b, asStr_s, asLen_f, asCells_f, tupL_t, refCells_r, ownLen_o]
    by_cases h2 : ((x.ks.length + Tree.wtL x.ks : Nat) : Int) ≤ v - x.t.size
    · refine Ev.f (ltI_f (by rw [szw, if_pos h2]; omega)) (Ev.some_ ?_)
      rw [szw, if_pos h2, szw, if_pos (by push_cast at h2 ⊢; omega)]
      push_cast
      congr 2
      omega
    · refine Ev.t (ltI_t (by rw [szw, if_neg h2]; omega)) (Ev.some_ ?_)
      rw [szw, if_neg (by push_cast at h2 ⊢; omega)]
theorem sm_kids {x : Tree} (h : x.wt ≤ 1048576) : x.ks.length ≤ 1048576 ∧ ∀ y ∈ x.ks, y.wt ≤ 1048576 := by
  rw [wt_eq] at h
  exact ⟨by omega, fun y hy => by have := wtL_mem _ y hy; omega⟩
def PTo (x : Tree) : Prop := x.wt ≤ 1048576 → Does cp n_laws_toItem [aItem x] [aItem x]
theorem laws_toItemS_l (xs : List Tree) (hl : xs.length ≤ 1048576) (hw : ∀ y ∈ xs, y.wt ≤ 1048576) (hs : ∀ y ∈ xs, PTo y) (d : Nat) : ∀ i : Nat, i + d = xs.length →
    Ev (fun k m _ _ => L_laws_toItemS_0 k m xs.length (xs.flatMap eItem) xs.length (i : Int) ((xs.take i).flatMap eItem ++ (List.replicate d ([.bool false, .str (ByteArray.mk (Array.mk [])), .nils] : List AV)).flatten)) [.fs xs.length (xs.flatMap eItem)] := by
  induction d with
  | zero =>
    intro i hi
    refine Ev.step (fun k m _ _ => L_laws_toItemS_0_s k m _ _ _ _ _) (Ev.f (ltI_f (by rw [lenI_c]; omega)) (Ev.some_ ?_))
    rw [List.replicate_zero, List.flatten_nil, List.append_nil, List.take_of_length_le (by omega), cut_all eItem_len]
  | succ d ih =>
    intro i hi
    have hi' : i < xs.length := by omega
    have hm := List.getElem_mem hi'
    have hset : setMany ((xs.take i).flatMap eItem ++ (List.replicate (d + 1) ([.bool false, .str (ByteArray.mk (Array.mk [])), .nils] : List AV)).flatten) (addN 0 (mulN (natI (i : Int)) 3)) ([.bool (xs[i]).b, .str (xs[i]).t, .fs (xs[i]).ks.length ((xs[i]).ks.flatMap eItem)] : List AV) = (xs.take (i + 1)).flatMap eItem ++ (List.replicate d ([.bool false, .str (ByteArray.mk (Array.mk [])), .nils] : List AV)).flatten := by
      rw [addN_d, Nat.zero_add, natI_c, mulN_d, ← take_next xs i (by omega)]
      have hp : (xs.take i).length = i := by rw [List.length_take]; omega
      have := fill_at eItem_len (z := ([.bool false, .str (ByteArray.mk (Array.mk [])), .nils] : List AV)) rfl (xs.take i) (xs[i]) d
      rw [hp, eItem_eq (xs[i])] at this
      exact this
    have hb : Nat.ble (Nat.succ (Nat.succ (Nat.succ (addN 0 (mulN (natI (i : Int)) 3))))) (List.length ((xs.take i).flatMap eItem ++ (List.replicate (d + 1) ([.bool false, .str (ByteArray.mk (Array.mk [])), .nils] : List AV)).flatten)) = true := by
      rw [fill_len eItem_len rfl, List.length_take]
      exact Nat.ble_eq_true_of_le (by rw [addN_d, natI_c, mulN_d, Nat.min_eq_left (by omega)]; omega)
    refine Ev.step (fun k m _ _ => L_laws_toItemS_0_s k m _ _ _ _ _) (Ev.t (ltI_t (by rw [lenI_c]; omega)) (Ev.g (inR_n (by omega)) ?_))
    simp only [ci0 hi', ci1 hi', ci2 hi', hdV_c, tlV_c, parts1_a, asInt_i, asBool_b, asStr_s, asLen_f, asCells_f, tupL_t, refCells_r, ownLen_o]
    refine Ev.g rfl (Ev.c (hs _ hm (hw _ hm)) (Ev.g (inR_n (by omega)) (Ev.g hb ?_)))
    simp only [aItem, hdV_c, tlV_c, parts1_a, asInt_i, asBool_b, asStr_s, asLen_f, asCells_f, tupL_t, refCells_r, ownLen_o, wrS (show i < 9223372036854775807 by omega), hset]
    exact ih (i + 1) (by omega)
theorem laws_toItemS_ev (xs : List Tree) (hl : xs.length ≤ 1048576) (hw : ∀ y ∈ xs, y.wt ≤ 1048576) (hs : ∀ y ∈ xs, PTo y) : Does cp n_laws_toItemS [.fs xs.length (xs.flatMap eItem)] [.fs xs.length (xs.flatMap eItem)] :=
  Ev.fn (fun k => F_laws_toItemS k _ _) (Ev.g (fit_small hl (by decide)) (laws_toItemS_l xs hl hw hs xs.length 0 (by omega)).l0)
theorem laws_toItem_ev : ∀ x : Tree, PTo x := Tree.ind1 fun x hx w =>
  Ev.fn (fun k => F_laws_toItem k _ _ _ _) (Ev.c (laws_toItemS_ev x.ks (sm_kids w).1 (sm_kids w).2 hx) (Ev.now _))
def PEq (x : Tree) : Prop := x.wt ≤ 1048576 → Does cp n_laws_eqItem [aItem x, aItem x] [.bool true]
theorem laws_eqItemS_l (xs : List Tree) (hl : xs.length ≤ 1048576) (hw : ∀ y ∈ xs, y.wt ≤ 1048576) (hs : ∀ y ∈ xs, PEq y) (d : Nat) : ∀ i : Nat, i + d = xs.length →
    Ev (fun k m _ _ => L_laws_eqItemS_0 k m xs.length (xs.flatMap eItem) xs.length (xs.flatMap eItem) (i : Int)) [.bool true] := by
  induction d with
  | zero =>
    intro i hi
    exact Ev.step (fun k m _ _ => L_laws_eqItemS_0_s k m _ _ _ _ _) (Ev.f (ltI_f (by rw [lenI_c]; omega)) (Ev.now _))
  | succ d ih =>
    intro i hi
    have hi' : i < xs.length := by omega
    have hm := List.getElem_mem hi'
    refine Ev.step (fun k m _ _ => L_laws_eqItemS_0_s k m _ _ _ _ _) (Ev.t (ltI_t (by rw [lenI_c]; omega)) (Ev.g (inR_n (by omega)) ?_))
    simp only [ci0 hi', ci1 hi', ci2 hi', hdV_c, tlV_c, parts1_a, asInt_i, asBool_b, asStr_s, asLen_f, asCells_f, tupL_t, refCells_r, ownLen_o]
    refine Ev.g rfl (Ev.g (inR_n (by omega)) (Ev.g rfl (Ev.c (hs _ hm (hw _ hm)) (Ev.f rfl ?_))))
    simp only [wrS (show i < 9223372036854775807 by omega)]
    exact ih (i + 1) (by omega)
theorem laws_eqItemS_same (xs : List Tree) (hl : xs.length ≤ 1048576) (hw : ∀ y ∈ xs, y.wt ≤ 1048576) (hs : ∀ y ∈ xs, PEq y) : Does cp n_laws_eqItemS [.fs xs.length (xs.flatMap eItem), .fs xs.length (xs.flatMap eItem)] [.bool true] :=
  Ev.fn (fun k => F_laws_eqItemS k _ _ _ _) (Ev.f (by rw [eqI_t rfl]; rfl) (laws_eqItemS_l xs hl hw hs xs.length 0 (by omega)).l0)
theorem laws_eqItem_same : ∀ x : Tree, PEq x := Tree.ind1 fun x hx w =>
  Ev.fn (fun k => F_laws_eqItem k _ _ _ _ _ _ _ _) (Ev.f (by rw [eqB_d]; simp [notB]) (Ev.f (by rw [eqS_t rfl]; rfl) (Ev.c (laws_eqItemS_same x.ks (sm_kids w).1 (sm_kids w).2 hx) (Ev.f rfl (Ev.now _)))))


def leafOk (x : Tree) : Bool := decide (x.t.size ≤ 600) && decide (x.ks.length = 0)
def fits : Nat → Tree → Bool
  | 0, x => !x.b && leafOk x
  | d + 1, x => if x.b then decide (x.t = ByteArray.mk (Array.mk [])) && (decide (x.ks.length ≤ 17) && x.ks.all (fits d)) else leafOk x
theorem fits_leaf {x : Tree} (h : x.b = false) (d : Nat) : fits d x = leafOk x := by cases d <;> simp [fits, h]
theorem fits_text {x : Tree} (h : x.b = true) (h2 : ¬ x.t = ByteArray.mk (Array.mk [])) (d : Nat) : fits d x = false := by cases d <;> simp [fits, h, h2]
theorem fits_wide {x : Tree} (h : x.b = true) (h2 : 17 < x.ks.length) (d : Nat) : fits d x = false := by cases d <;> simp [fits, h]; omega
theorem fits_list {x : Tree} (h : x.b = true) (h2 : x.t = ByteArray.mk (Array.mk [])) (h3 : ¬ 17 < x.ks.length) (d : Nat) : fits (d + 1) x = x.ks.all (fits d) := by
  have : x.ks.length ≤ 17 := by omega
  simp [fits, h, h2, this]
theorem spec_l17Deep_l (v : Int) (b : Bool) (t : ByteArray) (xs : List Tree) (hl : xs.length ≤ 17) (f : Tree → Bool) (hs : ∀ y ∈ xs, Does cp n_spec_l17Deep [aItem y, .int .i64 (wr .i64 (addI v 1))] [.bool (f y)]) (d : Nat) : ∀ i : Nat, i + d = xs.length →
    Ev (fun k m _ _ => L_spec_l17Deep_0 k m v (i : Int) b t xs.length (xs.flatMap eItem)) [.bool ((xs.drop i).all f)] := by
  induction d with
  | zero =>
    intro i hi
    refine Ev.step (fun k m _ _ => L_spec_l17Deep_0_s k m _ _ _ _ _ _) (Ev.f (ltI_f (by rw [lenI_c]; omega)) (Ev.some_ ?_))
    rw [List.drop_eq_nil_of_le (by omega)]; rfl
  | succ d ih =>
    intro i hi
    have hi' : i < xs.length := by omega
    have hm := List.getElem_mem hi'
    refine Ev.step (fun k m _ _ => L_spec_l17Deep_0_s k m _ _ _ _ _ _) (Ev.t (ltI_t (by rw [lenI_c]; omega)) (Ev.g (inR_n (by omega)) ?_))
    simp only [ci0 hi', ci1 hi', ci2 hi', hdV_c, tlV_c, parts1_a, asInt_i, asBool_b, asStr_s, asLen_f, asCells_f, tupL_t, refCells_r, ownLen_o]
    refine Ev.g rfl (Ev.c (hs _ hm) ?_)
    rw [List.drop_eq_getElem_cons hi', List.all_cons]
    simp only [hdV_c, tlV_c, parts1_a, asInt_i, asBool_b, asStr_s, asLen_f, asCells_f, tupL_t, refCells_r, ownLen_o, wrS (show i < 9223372036854775807 by omega)]
    exact Ev.an fun _ => ih (i + 1) (by omega)
theorem spec_l17Deep_ev (d : Nat) : ∀ (x : Tree), d ≤ 4 → Does cp n_spec_l17Deep [aItem x, .int .i64 (4 - (d : Int))] [.bool (fits d x)] := by
  induction d with
  | zero =>
    intro x hd
    refine Ev.fn (fun k => F_spec_l17Deep k _ _ _ _ _) ?_
    by_cases h : x.b = true
    · refine Ev.f (by rw [h]; rfl) (Ev.b (fun h2 => Ev.some_ ?_) (fun h2 => Ev.b (fun h3 => Ev.some_ ?_) (fun h3 => Ev.t (leI_t (by simp)) (Ev.some_ ?_))))
      all_goals simp [fits, h]
    · have h' : x.b = false := by simpa using h
      refine Ev.t (by rw [h']; rfl) (Ev.b (fun h2 => Ev.some_ ?_) (fun h2 => Ev.some_ ?_))
      · have := eqI_to h2; rw [lenI_c] at this
        rw [fits_leaf h', leafOk, leI_d, lenI_c, lenS_d]
        have h3 : x.ks.length = 0 := by omega
        simp only [h3, decide_true, Bool.and_true]
        congr 3
        refine propext ?_
        omega
      · have := eqI_fo h2; rw [lenI_c] at this
        rw [fits_leaf h', leafOk]
        have h3 : ¬ x.ks.length = 0 := by omega
        simp [h3]
  | succ d ih =>
    intro x hd
    refine Ev.fn (fun k => F_spec_l17Deep k _ _ _ _ _) ?_
    by_cases h : x.b = true
    · refine Ev.f (by rw [h]; rfl) (Ev.b (fun h2 => Ev.some_ ?_) (fun h2 => Ev.b (fun h3 => Ev.some_ ?_) (fun h3 => ?_)))
      · have := notB_to h2; rw [eqS_d] at this
        rw [fits_text h (of_decide_eq_false this)]
      · have := ltI_to h3; rw [lenI_c] at this
        rw [fits_wide h (by omega)]
      · have h2' := notB_fo h2; rw [eqS_d] at h2'
        have h3' := ltI_fo h3; rw [lenI_c] at h3'
        refine Ev.f (leI_f (by push_cast; omega)) ?_
        rw [fits_list h (of_decide_eq_true h2') (by omega)]
        have e : wr .i64 (addI (4 - ((d + 1 : Nat) : Int)) 1) = 4 - (d : Int) := by rw [addI_d, wr64 (by push_cast; omega)]; push_cast; omega
        exact (spec_l17Deep_l _ _ _ x.ks (by omega) (fits d) (fun y _ => by rw [e]; exact ih y (by omega)) x.ks.length 0 (by omega)).l0
    · have h' : x.b = false := by simpa using h
      refine Ev.t (by rw [h']; rfl) (Ev.b (fun h2 => Ev.some_ ?_) (fun h2 => Ev.some_ ?_))
      · have := eqI_to h2; rw [lenI_c] at this
        rw [fits_leaf h', leafOk, leI_d, lenI_c, lenS_d]
        have h3 : x.ks.length = 0 := by omega
        simp only [h3, decide_true, Bool.and_true]
        congr 3
        refine propext ?_
        omega
      · have := eqI_fo h2; rw [lenI_c] at this
        rw [fits_leaf h', leafOk]
        have h3 : ¬ x.ks.length = 0 := by omega
        simp [h3]
theorem impl_itemFits_l (v : Int) (xs : List Tree) (hl : xs.length ≤ 17) (f : Tree → Bool) (hs : ∀ y ∈ xs, Does cp n_impl_itemFits [aItem y, .int .i64 (wr .i64 (subI v 1))] [.bool (f y)]) (d : Nat) : ∀ i : Nat, i + d = xs.length →
    Ev (fun k m _ _ => L_impl_itemFits_0 k m v xs.length (xs.flatMap eItem) (lenI xs.length) (i : Int)) [.bool ((xs.drop i).all f)] := by
  induction d with
  | zero =>
    intro i hi
    refine Ev.step (fun k m _ _ => L_impl_itemFits_0_s k m _ _ _ _ _) (Ev.f (ltI_f (by rw [lenI_c]; omega)) (Ev.some_ ?_))
    rw [List.drop_eq_nil_of_le (by omega)]; rfl
  | succ d ih =>
    intro i hi
    have hi' : i < xs.length := by omega
    have hm := List.getElem_mem hi'
    refine Ev.step (fun k m _ _ => L_impl_itemFits_0_s k m _ _ _ _ _) (Ev.t (ltI_t (by rw [lenI_c]; omega)) (Ev.g (inR_n (by omega)) ?_))
    simp only [ci0 hi', ci1 hi', ci2 hi', hdV_c, tlV_c, parts1_a, asInt_i, asBool_b, asStr_s, asLen_f, asCells_f, tupL_t, refCells_r, ownLen_o]
    refine Ev.g rfl (Ev.c (hs _ hm) ?_)
    rw [List.drop_eq_getElem_cons hi', List.all_cons]
    simp only [hdV_c, tlV_c, parts1_a, asInt_i, asBool_b, asStr_s, asLen_f, asCells_f, tupL_t, refCells_r, ownLen_o, wrS (show i < 9223372036854775807 by omega)]
    exact Ev.an fun _ => ih (i + 1) (by omega)
theorem impl_leaf {x : Tree} (h' : x.b = false) (d : Nat) : Ev (fun k m p q => br (leI (lenI (lenS x.t)) 600) (Option.some [AV.bool (eqI (lenI x.ks.length) 0)]) (Option.some [AV.bool Bool.false])) [.bool (fits d x)] := by
  refine Ev.b (fun h2 => Ev.some_ ?_) (fun h2 => Ev.some_ ?_)
  · have := leI_to h2; rw [lenI_c, lenS_d] at this
    rw [fits_leaf h', leafOk, eqI_d, lenI_c]
    have h3 : x.t.size ≤ 600 := by omega
    simp only [h3, decide_true, Bool.true_and]
    congr 3
    refine propext ?_
    omega
  · have := leI_fo h2; rw [lenI_c, lenS_d] at this
    rw [fits_leaf h', leafOk]
    have h3 : ¬ x.t.size ≤ 600 := by omega
    simp [h3]
theorem impl_itemFits_ev (d : Nat) : ∀ (x : Tree), d ≤ 4 → Does cp n_impl_itemFits [aItem x, .int .i64 (d : Int)] [.bool (fits d x)] := by
  induction d with
  | zero =>
    intro x hd
    refine Ev.fn (fun k => F_impl_itemFits k _ _ _ _ _) ?_
    by_cases h : x.b = true
    · refine Ev.f (by rw [h]; rfl) (Ev.b (fun h2 => Ev.some_ ?_) (fun h2 => Ev.b (fun h3 => Ev.some_ ?_) (fun h3 => Ev.t (eqI_t rfl) (Ev.some_ ?_))))
      all_goals simp [fits, h]
    · have h' : x.b = false := by simpa using h
      exact Ev.t (by rw [h']; rfl) (impl_leaf h' _)
  | succ d ih =>
    intro x hd
    refine Ev.fn (fun k => F_impl_itemFits k _ _ _ _ _) ?_
    by_cases h : x.b = true
    · refine Ev.f (by rw [h]; rfl) (Ev.b (fun h2 => Ev.some_ ?_) (fun h2 => Ev.b (fun h3 => Ev.some_ ?_) (fun h3 => ?_)))
      · have := notB_to h2; rw [eqS_d] at this
        rw [fits_text h (of_decide_eq_false this)]
      · have := ltI_to h3; rw [lenI_c] at this
        rw [fits_wide h (by omega)]
      · have h2' := notB_fo h2; rw [eqS_d] at h2'
        have h3' := ltI_fo h3; rw [lenI_c] at h3'
        refine Ev.f (eqI_f (by push_cast; omega)) ?_
        rw [fits_list h (of_decide_eq_true h2') (by omega)]
        have e : wr .i64 (subI ((d + 1 : Nat) : Int) 1) = (d : Int) := by rw [subI_d, wr64 (by push_cast; omega)]; push_cast; omega
        exact (impl_itemFits_l _ x.ks (by omega) (fits d) (fun y _ => by rw [e]; exact ih y (by omega)) x.ks.length 0 (by omega)).l0
    · have h' : x.b = false := by simpa using h
      exact Ev.t (by rw [h']; rfl) (impl_leaf h' _)
theorem spec_ItemOk_ev (x : Tree) : Does cp n_spec_ItemOk [aItem x] [.bool (fits 4 x)] := Ev.fn (fun k => F_spec_ItemOk k _ _ _ _) (Ev.c (spec_l17Deep_ev 4 x (by omega)) (Ev.now _))
theorem impl_ItemOk_ev (x : Tree) : Does cp n_impl_ItemOk [aItem x] [.bool (fits 4 x)] := Ev.fn (fun k => F_impl_ItemOk k _ _ _ _) (Ev.c (impl_itemFits_ev 4 x (by omega)) (Ev.now _))


def eB (n : Int) : List AV := [.int .u8 n]
theorem eB_len (n : Int) : (eB n).length = 1 := rfl
theorem ei {xs : List Int} {i : Nat} (hi : i < xs.length) : cellAt (xs.flatMap eI) (mulN (natI (i : Int)) 1) = .int .i64 xs[i] := cell_enc0 eI_len hi (by decide)
theorem ebi {xs : List Int} {i : Nat} (hi : i < xs.length) : cellAt (xs.flatMap eB) (mulN (natI (i : Int)) 1) = .int .u8 xs[i] := cell_enc0 eB_len hi (by decide)
theorem catE (xs : List Int) (n : Int) : catC (cutC (xs.flatMap eI) 0 (mulN xs.length 1)) (cutC [.int .i64 n] 0 1) = (xs ++ [n]).flatMap eI := by rw [cut_all eI_len, List.flatMap_append]; rfl
theorem catB (xs : List Int) (n : Int) : catC (cutC (xs.flatMap eB) 0 (mulN xs.length 1)) (cutC [.int .u8 n] 0 1) = (xs ++ [n]).flatMap eB := by rw [cut_all eB_len, List.flatMap_append]; rfl
theorem fitN_small {n b : Nat} (h : n ≤ 1048576) (hb : b ≤ 4096) : Bool.and (fitN n b) Bool.true = true := by
  have : n * b ≤ 1048576 * 4096 := Nat.mul_le_mul h hb
  rw [Bool.and_true]
  exact Nat.ble_eq_true_of_le (by omega)
theorem addN1 (xs : List Int) (n : Int) : addN xs.length 1 = (xs ++ [n]).length := by rw [List.length_append]; rfl
theorem isBytes_e (xs : List Int) : isBytes (xs.flatMap eB) = true := by
  unfold isBytes
  rw [List.all_eq_true]
  intro v hv
  obtain ⟨n, _, hn⟩ := List.mem_flatMap.1 hv
  rw [eB, List.mem_singleton] at hn
  subst hn; rfl
theorem strOf_e (xs : List Int) : strOf (xs.flatMap eB) = EV.strOfNums xs := by
  unfold strOf EV.strOfNums
  congr 2
  induction xs with
  | nil => rfl
  | cons x r ih => rw [List.flatMap_cons, List.map_append, ih]; rfl
theorem and_range (a b : Int) (n : Nat) (hb : (BitVec.ofInt 64 b).toNat = n) (hn : n < 4294967296) : 0 ≤ bitsOp .and .i64 a b ∧ bitsOp .and .i64 a b ≤ n := by
  have h : bitsOp .and .i64 a b = wr .i64 (((BitVec.ofInt 64 a) &&& (BitVec.ofInt 64 b)).toNat : Int) := rfl
  have h2 : ((BitVec.ofInt 64 a) &&& (BitVec.ofInt 64 b)).toNat ≤ n := by rw [BitVec.toNat_and, hb]; exact Nat.and_le_right
  rw [h, wr64 (by omega)]
  omega
theorem and255 (a : Int) : 0 ≤ bitsOp .and .i64 a 255 ∧ bitsOp .and .i64 a 255 < 256 := by
  have := and_range a 255 255 (by decide) (by decide)
  omega
theorem getS_n' {t : ByteArray} {i : Nat} (hi : i < t.size) : getS t (i : Int) = (bts t)[i]'(by rw [bts_length]; exact hi) := by
  rw [getS_bt, bt_eq, rd_get _ _ (by rw [bts_length]; exact hi)]


def numLE (n : Nat) : List Int := if h : n = 0 then [] else ((n % 256 : Nat) : Int) :: numLE (n / 256)
theorem numLE_zero : numLE 0 = [] := by rw [numLE]; simp
theorem numLE_pos {n : Nat} (h : 0 < n) : numLE n = ((n % 256 : Nat) : Int) :: numLE (n / 256) := by rw [numLE]; simp [show n ≠ 0 by omega]
theorem numLE_range (n : Nat) : ∀ x ∈ numLE n, 0 ≤ x ∧ x < 256 := by
  induction n using Nat.strongRecOn with
  | _ n ih =>
    intro x hx
    by_cases h : n = 0
    · subst h; rw [numLE_zero] at hx; simp at hx
    · rw [numLE_pos (by omega)] at hx
      rcases List.mem_cons.1 hx with rfl | hx
      · omega
      · exact ih (n / 256) (by omega) x hx
theorem numLE_length (j : Nat) : ∀ n : Nat, n < 256 ^ j → (numLE n).length ≤ j := by
  induction j with
  | zero => 
    intro n h
    obtain rfl : n = 0 := by simpa using h
    rw [numLE_zero]; simp
  | succ j ih =>
    intro n h
    by_cases h0 : n = 0
    · subst h0; rw [numLE_zero]; simp
    · rw [numLE_pos (by omega), List.length_cons]
      have := ih (n / 256) (by rw [Nat.pow_succ] at h; omega)
      omega
def numText (n : Int) : ByteArray := EV.strOfNums (numLE n.toNat).reverse
theorem numText_bytes (n : Int) : bts (numText n) = (numLE n.toNat).reverse := bts_strOf (fun x hx => numLE_range _ x (List.mem_reverse.1 hx))
theorem numText_size (n : Int) : (numText n).size = (numLE n.toNat).length := by rw [size_eq, numText_bytes, List.length_reverse]
theorem numText_size8 {n : Int} (h : n ≤ 9223372036854775807) : (numText n).size ≤ 8 := by
  rw [numText_size]
  exact numLE_length 8 _ (by omega)
theorem numText_size4 {n : Int} (h : n ≤ 4294967295) : (numText n).size ≤ 4 := by
  rw [numText_size]
  exact numLE_length 4 _ (by omega)
theorem numText_nonpos {n : Int} (h : n ≤ 0) : numText n = (⟨#[]⟩ : ByteArray) := by
  unfold numText
  rw [show n.toNat = 0 by omega, numLE_zero]
  rfl


theorem wr_u8' (n : Int) : wr .u8 n = n % 256 := by unfold wr; rw [IntKind.wrap_u8]
theorem shr8' (a : Int) : shrI .i64 a 8 = a / 256 := by
  show a.fdiv (2 ^ 8) = a / 256
  rw [Int.fdiv_eq_ediv_of_nonneg _ (by omega)]
  rfl
theorem setB {x : List Int} {i : Nat} (v : Int) (h : i < x.length) : setMany (x.flatMap eB) (mulN (natI (i : Int)) 1) [.int .u8 v] = (x.set i v).flatMap eB := by
  rw [natI_c, mulN_d]
  exact set_encs eB_len x i v h
theorem ebr {x : List Int} {i : Nat} (h : i < x.length) : cellAt (x.flatMap eB) (mulN (natI (i : Int)) 1) = .int .u8 (rd x (i : Int)) := by rw [ebi h, rd_get x i h]
theorem Reverse_l (o : List Int) (hb : o.length ≤ 1048576) (m : Nat) : ∀ (i : Nat) (x : List Int), o.length - 2 * i ≤ m → 2 * i ≤ o.length + 1 → x.length = o.length →
    (∀ j : Nat, j < o.length → rd x (j : Int) = if j < i ∨ o.length ≤ j + i then rd o ((o.length - 1 - j : Nat) : Int) else rd o (j : Int)) →
    Ev (fun k m _ _ => L_slices_Reverse_byte_a_0 k m o.length ((o.length : Int) - 1 - i) (i : Int) (x.flatMap eB)) [.tup [.ref true 5 (o.reverse.flatMap eB)]] := by
  have fin : ∀ (i : Nat) (x : List Int), o.length - 2 * i ≤ 1 → 2 * i ≤ o.length + 1 → x.length = o.length →
      (∀ j : Nat, j < o.length → rd x (j : Int) = if j < i ∨ o.length ≤ j + i then rd o ((o.length - 1 - j : Nat) : Int) else rd o (j : Int)) → x = o.reverse := by
    intro i x hm hi hl hx
    refine rd_ext (by simp [hl]) fun j hj => ?_
    rw [hx j (by omega), rd_reverse (by omega)]
    split
    · rfl
    · congr 1; omega
  induction m with
  | zero =>
    intro i x hm hi hl hx
    refine Ev.step (fun k m _ _ => L_slices_Reverse_byte_a_0_s k m _ _ _ _) (Ev.f (ltI_f (by omega)) (Ev.some_ ?_))
    rw [fin i x (by omega) hi hl hx]
  | succ m ih =>
    intro i x hm hi hl hx
    by_cases hij : (i : Int) < (o.length : Int) - 1 - i
    · have e2 : ((o.length : Int) - 1 - i) = ((o.length - 1 - i : Nat) : Int) := by omega
      have w1 : wr .i64 (addI (i : Int) 1) = ((i + 1 : Nat) : Int) := wrS (by omega)
      have w2 : wr .i64 (subI ((o.length - 1 - i : Nat) : Int) 1) = (o.length : Int) - 1 - ((i + 1 : Nat) : Int) := by rw [subI_d, wr64 (by omega)]; omega
      have hlen : (x.flatMap eB).length = o.length := by rw [encs_len eB_len, hl, Nat.mul_one]
      refine Ev.step (fun k m _ _ => L_slices_Reverse_byte_a_0_s k m _ _ _ _) (Ev.t (ltI_t hij) ?_)
      rw [e2, w1, w2]
      simp only [addN_d, Nat.zero_add]
      rw [ebr (x := x) (i := o.length - 1 - i) (by omega), ebr (x := x) (i := i) (by omega)]
      simp only [hdV_c, tlV_c, parts1_a, asInt_i, asBool_b, asStr_s, asLen_f, asCells_f, tupL_t, refCells_r, ownLen_o]
      rw [setB _ (by omega), setB _ (by rw [List.length_set]; omega)]
      refine Ev.g (inR_n (by omega)) (Ev.g rfl (Ev.g (inR_n (by omega)) (Ev.g rfl (Ev.g (inR_n (by omega)) (Ev.g ?_ (Ev.g (inR_n (by omega)) (Ev.g ?_ ?_)))))))
      · rw [hlen]; exact Nat.ble_eq_true_of_le (by rw [natI_c, mulN_d]; omega)
      · rw [encs_len eB_len, List.length_set, hl]; exact Nat.ble_eq_true_of_le (by rw [natI_c, mulN_d]; omega)
      refine ih (i + 1) _ (by omega) (by omega) (by simp [hl]) ?_
      intro j hj
      rw [rd_set _ _ (by rw [List.length_set]; omega), rd_set _ _ (by omega), hx i (by omega), hx (o.length - 1 - i) (by omega), hx j hj]
      by_cases h1 : j = o.length - 1 - i
      · rw [if_pos h1, if_neg (by omega), if_pos (by omega)]
        congr 1; omega
      · rw [if_neg h1]
        by_cases h2 : j = i
        · rw [if_pos h2, if_neg (by omega), if_pos (by omega)]
          congr 1; omega
        · rw [if_neg h2]
          by_cases h3 : j < i ∨ o.length ≤ j + i
          · rw [if_pos h3, if_pos (by omega)]
          · rw [if_neg h3, if_neg (by omega)]
    · refine Ev.step (fun k m _ _ => L_slices_Reverse_byte_a_0_s k m _ _ _ _) (Ev.f (ltI_f hij) (Ev.some_ ?_))
      rw [fin i x (by omega) hi hl hx]
theorem Reverse_ev (o : List Int) (hb : o.length ≤ 1048576) : Does cp n_slices_Reverse_byte [.tup [.ref true 5 (o.flatMap eB)], .own 0 0 o.length] [.tup [.ref true 5 (o.reverse.flatMap eB)]] := by
  have := (Reverse_l o hb o.length 0 o (by omega) (by omega) rfl (by intro j hj; rw [if_neg (by omega)])).l0
  refine Ev.fn (fun k => F_slices_Reverse_byte_a k _ _) ?_
  have e : wr .i64 (subI (lenI o.length) 1) = (o.length : Int) - 1 - ((0 : Nat) : Int) := by rw [subI_d, lenI_c, wr64 (by omega)]; omega
  rw [e]
  exact this
theorem impl_NumText_l (j : Nat) : ∀ (n : Nat) (xs : List Int), n < 256 ^ j → xs.length + j ≤ 1000 →
    Ev (fun k m _ _ => L_impl_NumText_0 k m (n : Int) xs.length (xs.flatMap eB)) [.str (EV.strOfNums (xs ++ numLE n).reverse)] := by
  have fin : ∀ xs : List Int, xs.length ≤ 1000 → Ev (fun k m _ _ => L_impl_NumText_0 k m ((0 : Nat) : Int) xs.length (xs.flatMap eB)) [.str (EV.strOfNums (xs ++ numLE 0).reverse)] := by
    intro xs hs
    have hc : cutC (xs.reverse.flatMap eB) 0 (mulN xs.length 1) = xs.reverse.flatMap eB := by
      have := cut_all eB_len xs.reverse
      rw [List.length_reverse] at this
      exact this
    refine Ev.step (fun k m _ _ => L_impl_NumText_0_s k m _ _ _) (Ev.f (ltI_f (by omega)) (Ev.c (Reverse_ev xs (by omega)) (Ev.g rfl ?_)))
    simp only [hdV_c, tlV_c, parts1_a, asInt_i, asBool_b, asStr_s, asLen_f, asCells_f, tupL_t, refCells_r, ownLen_o, hc]
    refine Ev.g (isBytes_e _) (Ev.some_ ?_)
    rw [strOf_e, numLE_zero, List.append_nil]
  induction j with
  | zero =>
    intro n xs h hs
    obtain rfl : n = 0 := by simpa using h
    exact fin xs (by omega)
  | succ j ih =>
    intro n xs h hs
    by_cases h0 : n = 0
    · subst h0; exact fin xs (by omega)
    · have e1 : wr .u8 (n : Int) = ((n % 256 : Nat) : Int) := by rw [wr_u8']; omega
      have e2 : shrI .i64 (n : Int) 8 = ((n / 256 : Nat) : Int) := by rw [shr8']; omega
      refine Ev.step (fun k m _ _ => L_impl_NumText_0_s k m _ _ _) (Ev.t (ltI_t (by omega)) (Ev.g (fitN_small (by rw [addN_d]; omega) (by decide)) ?_))
      rw [e1, e2, catB, addN1 xs ((n % 256 : Nat) : Int)]
      refine (ih (n / 256) _ (by rw [Nat.pow_succ] at h; omega) (by rw [List.length_append]; show xs.length + 1 + j ≤ 1000; omega)).to ?_
      rw [numLE_pos (show 0 < n by omega), List.append_assoc]
      rfl
theorem impl_NumText_ev (n : Nat) (h : n ≤ 9223372036854775807) : Does cp n_impl_NumText [.int .i64 (n : Int)] [.str (numText (n : Int))] :=
  Ev.fn (fun k => F_impl_NumText k _) (impl_NumText_l 8 n [] (by omega) (by show 0 + 8 ≤ 1000; omega)).l0
theorem one_byte (v : Int) : strOf (cutC [AV.int .u8 v] 0 1) = EV.strOfNums [v] := rfl
theorem spec_NumText_l (j : Nat) : ∀ (n : Nat) (s : ByteArray), n < 256 ^ j → n ≤ 9223372036854775807 → s.size + j ≤ 1000 →
    Ev (fun k m _ _ => L_spec_NumText_0 k m (n : Int) s) [.str (EV.strOfNums (numLE n).reverse ++ s)] := by
  have fin : ∀ s : ByteArray, Ev (fun k m _ _ => L_spec_NumText_0 k m ((0 : Nat) : Int) s) [.str (EV.strOfNums (numLE 0).reverse ++ s)] := by
    intro s
    refine Ev.step (fun k m _ _ => L_spec_NumText_0_s k m _ _) (Ev.f (ltI_f (by omega)) (Ev.some_ ?_))
    rw [numLE_zero, List.reverse_nil, strOf_nil, ba_nil_append]
  induction j with
  | zero =>
    intro n s h hn hs
    obtain rfl : n = 0 := by simpa using h
    exact fin s
  | succ j ih =>
    intro n s h hn hs
    by_cases h0 : n = 0
    · subst h0; exact fin s
    · have e1 : wr .u8 (remI (n : Int) 256) = ((n % 256 : Nat) : Int) := by rw [wr_u8', remI_d, tmod_pos (by omega)]; omega
      have e2 : wr .i64 (quoI (n : Int) 256) = ((n / 256 : Nat) : Int) := by rw [quoI_d, tdiv_pos (by omega), wr64 (by omega)]; omega
      have hsz : (EV.strOfNums [((n % 256 : Nat) : Int)]).size = 1 := by rw [EV.strOfNums_size]; rfl
      refine Ev.step (fun k m _ _ => L_spec_NumText_0_s k m _ _) (Ev.t (ltI_t (by omega)) ?_)
      rw [e1, e2, one_byte]
      refine Ev.g rfl (Ev.g (fitS_small (by rw [hsz]; omega)) ?_)
      refine (ih (n / 256) _ (by rw [Nat.pow_succ] at h; omega) (by omega) (by show (catS _ _).size + j ≤ 1000; simp only [catS, ByteArray.size_append, hsz]; omega)).to ?_
      rw [numLE_pos (show 0 < n by omega), List.reverse_cons, strOf_append]
      show [AV.str (_ ++ (_ ++ _))] = _
      rw [ba_append_assoc]
theorem spec_NumText_ev (n : Nat) (h : n ≤ 9223372036854775807) : Does cp n_spec_NumText [.int .i64 (n : Int)] [.str (numText (n : Int))] :=
  Ev.fn (fun k => F_spec_NumText k _) ((spec_NumText_l 8 n (⟨#[]⟩ : ByteArray) (by omega) (by omega) (by show 0 + 8 ≤ 1000; omega)).l0.to (by rw [ba_append_nil]; rfl))
/-- What stands ahead of so many bytes. -/
def headT (base : Int) (n : Nat) : ByteArray :=
  if n ≤ 55 then EV.strOfNums [wr .u8 (wr .i64 (addI base (n : Int)))] else EV.strOfNums [wr .u8 (wr .i64 (addI (wr .i64 (addI base 55)) (lenI (lenS (numText (n : Int))))))] ++ numText (n : Int)
theorem headT_size {base : Int} {n : Nat} (h : n ≤ 9223372036854775807) : 1 ≤ (headT base n).size ∧ (headT base n).size ≤ 9 := by
  unfold headT
  have := numText_size8 (n := (n : Int)) (by omega)
  split
  · rw [EV.strOfNums_size]; exact ⟨Nat.le_refl _, by show 1 ≤ 9; omega⟩
  · rw [size_append, EV.strOfNums_size, List.length_singleton]; omega
theorem impl_lengthText_ev (base : Int) (n : Nat) (h : n ≤ 9223372036854775807) : Does cp n_impl_lengthText [.int .i64 base, .int .i64 (n : Int)] [.str (headT base n)] := by
  refine Ev.fn (fun k => F_impl_lengthText k _ _) ?_
  have := numText_size8 (n := (n : Int)) (by omega)
  unfold headT
  by_cases h1 : n ≤ 55
  · rw [if_pos h1]; exact Ev.t (leI_t (by omega)) (Ev.g rfl (Ev.now _))
  · rw [if_neg h1]
    refine Ev.f (leI_f (by omega)) (Ev.c (impl_NumText_ev n h) ?_)
    simp only [hdV_c, tlV_c, parts1_a, asInt_i, asBool_b, asStr_s, asLen_f, asCells_f, tupL_t, refCells_r, ownLen_o, one_byte]
    exact Ev.g rfl (Ev.g (fitS_small (by rw [EV.strOfNums_size, List.length_singleton]; omega)) (Ev.now _))
theorem spec_l17Head_ev (base : Int) (n : Nat) (h : n ≤ 9223372036854775807) : Does cp n_spec_l17Head [.int .i64 (n : Int), .int .i64 base] [.str (headT base n)] := by
  refine Ev.fn (fun k => F_spec_l17Head k _ _) ?_
  have := numText_size8 (n := (n : Int)) (by omega)
  unfold headT
  by_cases h1 : n ≤ 55
  · rw [if_pos h1]; exact Ev.t (leI_t (by omega)) (Ev.g rfl (Ev.now _))
  · rw [if_neg h1]
    refine Ev.f (leI_f (by omega)) (Ev.c (spec_NumText_ev n h) ?_)
    simp only [hdV_c, tlV_c, parts1_a, asInt_i, asBool_b, asStr_s, asLen_f, asCells_f, tupL_t, refCells_r, ownLen_o, one_byte]
    exact Ev.g rfl (Ev.g (fitS_small (by rw [EV.strOfNums_size, List.length_singleton]; omega)) (Ev.now _))


theorem bytesOf_e (s : ByteArray) : bytesOf s = (bts s).flatMap eB := by
  unfold bytesOf bts
  rw [List.flatMap_def, List.map_map]
  induction s.data.toList with
  | nil => rfl
  | cons b r ih => rw [List.map_cons, List.map_cons, List.flatten_cons, ← ih]; rfl
/-- A builder that has been written to, and its bytes. -/
def bldB (l : List Int) : AV := .tup [.ref false 152 [.ptr 0 0, .own 1 0 l.length], .ref true 5 (l.flatMap eB)]
def bldN (l : List Int) : AV := .tup [.ref false 152 [.ptr 0 0, .own 2 0 l.length], .any, .ref true 5 (l.flatMap eB)]
theorem Builder_WriteString_a_ev (s : ByteArray) (hs : s.size ≤ 1048576000) : Does cp n_strings_Builder_WriteString [.tup [.ref false 152 [.nilp, .nils]], .ptr 0 0, .str s] [bldB (bts s), .int .i64 (s.size : Int), .any] := by
  refine Ev.fn (fun k => F_strings_Builder_WriteString_a k s) (Ev.c (Ev.fn (fun k => F_strings_Builder_copyCheck_a k) (Ev.now _)) (Ev.g rfl (Ev.g ?_ (Ev.some_ ?_))))
  · unfold fitN lenS
    rw [Nat.mul_one]
    rw [Nat.ble_eq_true_of_le (by omega)]; rfl
  · unfold bldB
    rw [bytesOf_e, bts_length]; rfl
theorem Builder_copyCheck_b_ev (l : List Int) : Does cp n_strings_Builder_copyCheck [bldB l, .ptr 0 0] [bldB l] := Ev.fn (fun k => F_strings_Builder_copyCheck_b k _ _) (Ev.now _)
theorem Builder_WriteString_b_ev (l : List Int) (s : ByteArray) (hl : l.length + s.size ≤ 1048576000) : Does cp n_strings_Builder_WriteString [bldB l, .ptr 0 0, .str s] [bldN (l ++ bts s), .int .i64 (s.size : Int), .any] := by
  refine Ev.fn (fun k => F_strings_Builder_WriteString_b k _ _ s) (Ev.c (Builder_copyCheck_b_ev l) (Ev.g rfl ?_))
  simp only [bldB, hdV_c, tlV_c, parts1_a, asInt_i, asBool_b, asStr_s, asLen_f, asCells_f, tupL_t, refCells_r, ownLen_o]
  refine Ev.g ?_ (Ev.some_ ?_)
  · unfold fitN lenS addN
    rw [Nat.mul_one]
    rw [Nat.ble_eq_true_of_le (by omega)]; rfl
  · unfold bldN
    rw [bytesOf_e, cut_all eB_len, cat_encs, List.length_append, bts_length]; rfl


theorem Builder_String_a_ev (l : List Int) (h0 : l ≠ []) (hl : l.length ≤ 1048576000) : Does cp n_strings_Builder_String [bldB l, .ptr 0 0] [.tup [.ref false 152 [.ptr 0 0, .own 1 0 l.length], .any], .str (EV.strOfNums l)] := by
  have hc : cutC (l.flatMap eB) 0 l.length = l.flatMap eB := by
    have := cut_all eB_len l
    rw [mulN_d, Nat.mul_one] at this
    exact this
  have hp : 0 < l.length := List.length_pos_iff.2 h0
  have hle : (l.flatMap eB).length = l.length := by rw [encs_len eB_len, Nat.mul_one]
  refine Ev.fn (fun k => F_strings_Builder_String_b k _ _) ?_
  simp only [lenI_c, natI_c, addN_d, Nat.zero_add, hc, hle]
  refine Ev.g ?_ (Ev.g ?_ (Ev.some_ ?_))
  · cases hb : Nat.beq l.length 0 with
    | true => have := Nat.eq_of_beq_eq_true hb; omega
    | false => rfl
  · rw [ltI_t (by omega), leI_t (by omega), Nat.ble_eq_true_of_le (Nat.le_refl _), isBytes_e]; rfl
  · rw [strOf_e]


mutual
/-- The text of an item. -/
def itxt : Tree → ByteArray
  | .mk l t ks => if l = true then headT 192 (itxtL ks).size ++ itxtL ks else if t.size = 1 ∧ getS t 0 < 128 then t else headT 128 t.size ++ t
def itxtL : List Tree → ByteArray
  | [] => (⟨#[]⟩ : ByteArray)
  | x :: xs => itxt x ++ itxtL xs
end
theorem itxt_eq (x : Tree) : itxt x = if x.b = true then headT 192 (itxtL x.ks).size ++ itxtL x.ks else if x.t.size = 1 ∧ getS x.t 0 < 128 then x.t else headT 128 x.t.size ++ x.t := by cases x; rw [itxt]; rfl
theorem itxtL_nil : itxtL [] = (⟨#[]⟩ : ByteArray) := by rw [itxtL]
theorem itxtL_cons (x : Tree) (xs : List Tree) : itxtL (x :: xs) = itxt x ++ itxtL xs := by rw [itxtL]
theorem itxtL_append : ∀ (xs ys : List Tree), itxtL (xs ++ ys) = itxtL xs ++ itxtL ys
  | [], ys => by rw [List.nil_append, itxtL_nil, ba_nil_append]
  | x :: xs, ys => by rw [List.cons_append, itxtL_cons, itxtL_cons, itxtL_append xs ys, ba_append_assoc]
theorem itxtL_take (xs : List Tree) (i : Nat) (hi : i < xs.length) : itxtL (xs.take (i + 1)) = itxtL (xs.take i) ++ itxt xs[i] := by
  rw [← take_next xs i hi, itxtL_append, itxtL_cons, itxtL_nil, ba_append_nil]
theorem itxtL_part (xs : List Tree) (i : Nat) : (itxtL (xs.take i)).size ≤ (itxtL xs).size := by
  have : itxtL xs = itxtL (xs.take i) ++ itxtL (xs.drop i) := by rw [← itxtL_append, List.take_append_drop]
  rw [this, size_append]
  omega
def PSi (x : Tree) : Prop := x.wt ≤ 1048576 → 1 ≤ (itxt x).size ∧ (itxt x).size ≤ 9 + 9 * x.wt
theorem itxtL_size (xs : List Tree) (hw : ∀ y ∈ xs, y.wt ≤ 1048576) (h : ∀ y ∈ xs, PSi y) : (itxtL xs).size ≤ 9 * xs.length + 9 * Tree.wtL xs := by
  induction xs with
  | nil => rw [itxtL_nil]; exact Nat.zero_le _
  | cons x xs ih =>
    have h1 := (h x (by simp) (hw x (by simp))).2
    have h2 := ih (fun y hy => hw y (by simp [hy])) (fun y hy => h y (by simp [hy]))
    rw [itxtL_cons, size_append, List.length_cons, wtL_cons]
    omega
theorem itxt_size : ∀ x : Tree, PSi x := Tree.ind1 fun x hx w => by
  obtain ⟨k1, k2⟩ := sm_kids w
  have hs := itxtL_size x.ks k2 hx
  have hwt := wt_eq x
  rw [itxt_eq]
  split
  · have := headT_size (base := 192) (n := (itxtL x.ks).size) (by omega)
    rw [size_append]; omega
  · split
    · rename_i h; omega
    · have := headT_size (base := 128) (n := x.t.size) (by omega)
      rw [size_append]; omega
/-! the given reading -/
def PSp (x : Tree) : Prop := x.wt ≤ 1048576 → Does cp n_spec_l17Text [aItem x] [.str (itxt x)]
theorem spec_l17Text_l (xs : List Tree) (hl : xs.length ≤ 1048576) (hw : ∀ y ∈ xs, y.wt ≤ 1048576) (hwt : Tree.wtL xs ≤ 1048576) (hs : ∀ y ∈ xs, PSp y) (b : Bool) (t : ByteArray) (d : Nat) : ∀ i : Nat, i + d = xs.length →
    Ev (fun k m _ _ => L_spec_l17Text_0 k m (i : Int) (itxtL (xs.take i)) b t xs.length (xs.flatMap eItem)) [.str (headT 192 (itxtL xs).size ++ itxtL xs)] := by
  have hsz := itxtL_size xs hw (fun y _ => itxt_size y)
  induction d with
  | zero =>
    intro i hi
    have hh := headT_size (base := 192) (n := (itxtL xs).size) (by omega)
    rw [List.take_of_length_le (by omega)]
    refine Ev.step (fun k m _ _ => L_spec_l17Text_0_s k m _ _ _ _ _ _) (Ev.f (ltI_f (by rw [lenI_c]; omega)) (Ev.c (spec_l17Head_ev 192 (itxtL xs).size (by omega)) (Ev.g (fitS_small (by simp only [hdV_c, tlV_c, parts1_a, asInt_i, asBool_b, asStr_s, asLen_f, asCells_f, tupL_t, refCells_r, ownLen_o]; omega)) (Ev.now _))))
  | succ d ih =>
    intro i hi
    have hi' : i < xs.length := by omega
    have hm := List.getElem_mem hi'
    have h1 := itxtL_part xs i
    have h2 := itxtL_part xs (i + 1)
    have hst := itxt_size _ (hw _ hm)
    rw [itxtL_take xs i hi', size_append] at h2
    refine Ev.step (fun k m _ _ => L_spec_l17Text_0_s k m _ _ _ _ _ _) (Ev.t (ltI_t (by rw [lenI_c]; omega)) (Ev.g (inR_n (by omega)) ?_))
    simp only [ci0 hi', ci1 hi', ci2 hi', hdV_c, tlV_c, parts1_a, asInt_i, asBool_b, asStr_s, asLen_f, asCells_f, tupL_t, refCells_r, ownLen_o]
    refine Ev.g rfl (Ev.c (hs _ hm (hw _ hm)) (Ev.g (fitS_small (by simp only [hdV_c, tlV_c, parts1_a, asInt_i, asBool_b, asStr_s, asLen_f, asCells_f, tupL_t, refCells_r, ownLen_o]; omega)) ?_))
    have e : catS (itxtL (xs.take i)) (itxt xs[i]) = itxtL (xs.take (i + 1)) := (itxtL_take xs i hi').symm
    simp only [hdV_c, tlV_c, parts1_a, asInt_i, asBool_b, asStr_s, asLen_f, asCells_f, tupL_t, refCells_r, ownLen_o, wrS (show i < 9223372036854775807 by omega), e]
    exact ih (i + 1) (by omega)
theorem spec_l17Text_ev : ∀ x : Tree, PSp x := Tree.ind1 fun x hx w => by
  obtain ⟨k1, k2⟩ := sm_kids w
  have hwt := wt_eq x
  refine Ev.fn (fun k => F_spec_l17Text k _ _ _ _) ?_
  rw [itxt_eq]
  cases hb : x.b with
  | true =>
    rw [if_pos rfl]
    refine Ev.f rfl ?_
    have := (spec_l17Text_l x.ks k1 k2 (by omega) hx true x.t x.ks.length 0 (by omega)).l0
    rw [List.take_zero, itxtL_nil] at this
    exact this
  | false =>
    rw [if_neg (by simp)]
    have hh := headT_size (base := 128) (n := x.t.size) (by omega)
    have fin : Ev (fun k _ _ _ => bnd (evF cp k n_spec_l17Head [AV.int IntKind.i64 (lenI (lenS x.t)), AV.int IntKind.i64 128]) (fun r0 => gd (fitS (AV.asStr (hdV r0)) x.t) (some [AV.str (catS (AV.asStr (hdV r0)) x.t)]))) [.str (headT 128 x.t.size ++ x.t)] :=
      Ev.c (spec_l17Head_ev 128 x.t.size (by omega)) (Ev.g (fitS_small (by simp only [hdV_c, tlV_c, parts1_a, asInt_i, asBool_b, asStr_s, asLen_f, asCells_f, tupL_t, refCells_r, ownLen_o]; omega)) (Ev.now _))
    refine Ev.t rfl ?_
    by_cases h1 : x.t.size = 1
    · refine Ev.t (eqI_t (by rw [lenI_c, lenS_d]; omega)) (Ev.g (inR_t (by omega) (by rw [lenS_d]; omega)) ?_)
      by_cases h2 : getS x.t 0 < 128
      · rw [if_pos ⟨h1, h2⟩]; exact Ev.t (ltI_t h2) (Ev.now _)
      · rw [if_neg (fun q => h2 q.2)]; exact Ev.f (ltI_f h2) fin
    · rw [if_neg (fun q => h1 q.1)]; exact Ev.f (eqI_f (by rw [lenI_c, lenS_d]; omega)) fin
/-! the program -/
/-- What comes of an item: its text, or nothing where it is too long. -/
def Good (r : ByteArray × Bool) (t : ByteArray) : Prop := (r.2 = true → r.1 = t) ∧ (r.2 = false → r.1 = (⟨#[]⟩ : ByteArray) ∧ 900 < t.size)
def PIm (x : Tree) : Prop := x.wt ≤ 1048576 → ∃ r, Good r (itxt x) ∧ Does cp n_impl_itemText [aItem x] [.str r.1, .bool r.2]
theorem Builder_Len_w_ev (l : List Int) : Does cp n_strings_Builder_Len [bldB l, .ptr 0 0] [bldB l, .int .i64 (l.length : Int)] := Ev.fn (fun k => F_strings_Builder_Len_b k _ _) (Ev.now _)
theorem Builder_Len_n_ev : Does cp n_strings_Builder_Len [.tup [.ref false 152 [.nilp, .nils]], .ptr 0 0] [.tup [.ref false 152 [.nilp, .nils]], .int .i64 0] := Ev.fn (fun k => F_strings_Builder_Len_a k) (Ev.now _)
theorem Builder_String_n_ev : Does cp n_strings_Builder_String [.tup [.ref false 152 [.nilp, .nils]], .ptr 0 0] [.tup [.ref false 152 [.nilp, .nils]], .str (⟨#[]⟩ : ByteArray)] := Ev.fn (fun k => F_strings_Builder_String_a k) (Ev.now _)
theorem impl_itemText_l (xs : List Tree) (hl : xs.length ≤ 1048576) (hw : ∀ y ∈ xs, y.wt ≤ 1048576) (hwt : Tree.wtL xs ≤ 1048576) (hs : ∀ y ∈ xs, PIm y) (d : Nat) : ∀ (i : Nat) (l : List Int), i + d = xs.length → l ≠ [] → l = bts (itxtL (xs.take i)) → l.length ≤ 900 →
    ∃ r, Good r (headT 192 (itxtL xs).size ++ itxtL xs) ∧ Ev (fun k m _ _ => L_impl_itemText_0a k m xs.length (xs.flatMap eItem) (lenI xs.length) (i : Int) l.length (l.flatMap eB)) [.str r.1, .bool r.2] := by
  have hsz := itxtL_size xs hw (fun y _ => itxt_size y)
  induction d with
  | zero =>
    intro i l hi h0 hb h9
    rw [List.take_of_length_le (by omega)] at hb
    have hll : l.length = (itxtL xs).size := by rw [hb, bts_length]
    have hh := headT_size (base := 192) (n := l.length) (by omega)
    refine ⟨(headT 192 (itxtL xs).size ++ itxtL xs, true), ⟨fun _ => rfl, fun q => by cases q⟩, ?_⟩
    refine Ev.step (fun k m _ _ => L_impl_itemText_0a_s k m _ _ _ _ _ _) (Ev.f (ltI_f (by rw [lenI_c]; omega)) (Ev.c (Builder_Len_w_ev l) (Ev.g rfl (Ev.c (impl_lengthText_ev 192 l.length (by omega)) (Ev.c (Builder_String_a_ev l h0 (by omega)) (Ev.g rfl ?_))))))
    have hst : EV.strOfNums l = itxtL xs := by rw [hb, strOf_bts]
    simp only [hdV_c, tlV_c, parts1_a, asInt_i, asBool_b, asStr_s, asLen_f, asCells_f, tupL_t, refCells_r, ownLen_o, hst]
    exact Ev.g (fitS_small (by omega)) (Ev.some_ (by rw [hll]; rfl))
  | succ d ih =>
    intro i l hi h0 hb h9
    have hi' : i < xs.length := by omega
    have hm := List.getElem_mem hi'
    have h2 := itxtL_part xs (i + 1)
    have hst := itxt_size _ (hw _ hm)
    have htk := itxtL_take xs i hi'
    rw [htk, size_append] at h2
    have hll : l.length = (itxtL (xs.take i)).size := by rw [hb, bts_length]
    have hwhole : (headT 192 (itxtL xs).size ++ itxtL xs).size = (headT 192 (itxtL xs).size).size + (itxtL xs).size := size_append _ _
    obtain ⟨r0, ⟨g1, g2⟩, e0⟩ := hs _ hm (hw _ hm)
    cases hr : r0.2 with
    | false =>
      obtain ⟨g3, g4⟩ := g2 hr
      refine ⟨((⟨#[]⟩ : ByteArray), false), ⟨(fun q => by cases q), fun _ => ⟨rfl, by omega⟩⟩, ?_⟩
      refine Ev.step (fun k m _ _ => L_impl_itemText_0a_s k m _ _ _ _ _ _) (Ev.t (ltI_t (by rw [lenI_c]; omega)) (Ev.g (inR_n (by omega)) ?_))
      simp only [ci0 hi', ci1 hi', ci2 hi', hdV_c, tlV_c, parts1_a, asInt_i, asBool_b, asStr_s, asLen_f, asCells_f, tupL_t, refCells_r, ownLen_o]
      exact Ev.g rfl (Ev.c e0 (Ev.t (by simp only [hdV_c, tlV_c, parts1_a, asInt_i, asBool_b, asStr_s, asLen_f, asCells_f, tupL_t, refCells_r, ownLen_o]; rw [hr]; rfl) (Ev.now _)))
    | true =>
      have g3 := g1 hr
      have ew : wr .i64 (addI (l.length : Int) (lenI (lenS (itxt xs[i])))) = ((l.length + (itxt xs[i]).size : Nat) : Int) := by rw [addI_d, lenI_c, lenS_d, wr64 (by omega)]; omega
      by_cases hbig : 900 < l.length + (itxt xs[i]).size
      · refine ⟨((⟨#[]⟩ : ByteArray), false), ⟨(fun q => by cases q), fun _ => ⟨rfl, by omega⟩⟩, ?_⟩
        refine Ev.step (fun k m _ _ => L_impl_itemText_0a_s k m _ _ _ _ _ _) (Ev.t (ltI_t (by rw [lenI_c]; omega)) (Ev.g (inR_n (by omega)) ?_))
        simp only [ci0 hi', ci1 hi', ci2 hi', hdV_c, tlV_c, parts1_a, asInt_i, asBool_b, asStr_s, asLen_f, asCells_f, tupL_t, refCells_r, ownLen_o]
        refine Ev.g rfl (Ev.c e0 (Ev.f (by simp only [hdV_c, tlV_c, parts1_a, asInt_i, asBool_b, asStr_s, asLen_f, asCells_f, tupL_t, refCells_r, ownLen_o]; rw [hr]; rfl) (Ev.c (Builder_Len_w_ev l) (Ev.g rfl ?_))))
        simp only [hdV_c, tlV_c, parts1_a, asInt_i, asBool_b, asStr_s, asLen_f, asCells_f, tupL_t, refCells_r, ownLen_o, g3, ew]
        exact Ev.t (ltI_t (by omega)) (Ev.now _)
      · obtain ⟨r, gr, er⟩ := ih (i + 1) (l ++ bts (itxt xs[i])) (by omega) (by simp [h0]) (by rw [htk, bts_append, hb]) (by rw [List.length_append, bts_length]; omega)
        refine ⟨r, gr, ?_⟩
        refine Ev.step (fun k m _ _ => L_impl_itemText_0a_s k m _ _ _ _ _ _) (Ev.t (ltI_t (by rw [lenI_c]; omega)) (Ev.g (inR_n (by omega)) ?_))
        simp only [ci0 hi', ci1 hi', ci2 hi', hdV_c, tlV_c, parts1_a, asInt_i, asBool_b, asStr_s, asLen_f, asCells_f, tupL_t, refCells_r, ownLen_o]
        refine Ev.g rfl (Ev.c e0 (Ev.f (by simp only [hdV_c, tlV_c, parts1_a, asInt_i, asBool_b, asStr_s, asLen_f, asCells_f, tupL_t, refCells_r, ownLen_o]; rw [hr]; rfl) (Ev.c (Builder_Len_w_ev l) (Ev.g rfl ?_))))
        simp only [hdV_c, tlV_c, parts1_a, asInt_i, asBool_b, asStr_s, asLen_f, asCells_f, tupL_t, refCells_r, ownLen_o, g3, ew]
        refine Ev.f (ltI_f (by omega)) (Ev.c (Builder_WriteString_b_ev l (itxt xs[i]) (by omega)) (Ev.g rfl ?_))
        simp only [bldN, hdV_c, tlV_c, parts1_a, asInt_i, asBool_b, asStr_s, asLen_f, asCells_f, tupL_t, refCells_r, ownLen_o, wrS (show i < 9223372036854775807 by omega)]
        exact er
theorem impl_itemText_ev : ∀ x : Tree, PIm x := Tree.ind1 fun x hx w => by
  obtain ⟨k1, k2⟩ := sm_kids w
  have hwt := wt_eq x
  unfold PIm at hx
  rw [itxt_eq]
  cases hb : x.b with
  | false =>
    rw [if_neg (by simp)]
    have hh := headT_size (base := 128) (n := x.t.size) (by omega)
    have fin : Ev (fun k _ _ _ => bnd (evF cp k n_impl_lengthText [AV.int IntKind.i64 128, AV.int IntKind.i64 (lenI (lenS x.t))]) (fun r0 => gd (fitS (AV.asStr (hdV r0)) x.t) (some [AV.str (catS (AV.asStr (hdV r0)) x.t), AV.bool true]))) [.str (headT 128 x.t.size ++ x.t), .bool true] :=
      Ev.c (impl_lengthText_ev 128 x.t.size (by omega)) (Ev.g (fitS_small (by simp only [hdV_c, tlV_c, parts1_a, asInt_i, asBool_b, asStr_s, asLen_f, asCells_f, tupL_t, refCells_r, ownLen_o]; omega)) (Ev.now _))
    refine ⟨(if x.t.size = 1 ∧ getS x.t 0 < 128 then x.t else headT 128 x.t.size ++ x.t, true), ⟨fun _ => rfl, fun q => by cases q⟩, Ev.fn (fun k => F_impl_itemText k _ _ _ _) ?_⟩
    rw [hb]
    refine Ev.t rfl ?_
    by_cases h1 : x.t.size = 1
    · refine Ev.t (eqI_t (by rw [lenI_c, lenS_d]; omega)) (Ev.g (inR_t (by omega) (by rw [lenS_d]; omega)) ?_)
      by_cases h2 : getS x.t 0 < 128
      · rw [if_pos ⟨h1, h2⟩]; exact Ev.t (ltI_t h2) (Ev.now _)
      · rw [if_neg (fun q => h2 q.2)]; exact Ev.f (ltI_f h2) fin
    · rw [if_neg (fun q => h1 q.1)]; exact Ev.f (eqI_f (by rw [lenI_c, lenS_d]; omega)) fin
  | true =>
    rw [if_pos rfl]
    have hsz := itxtL_size x.ks k2 (fun y _ => itxt_size y)
    have hwl : Tree.wtL x.ks ≤ 1048576 := by omega
    generalize hks : x.ks = ks at *
    have go : ∃ r, Good r (headT 192 (itxtL ks).size ++ itxtL ks) ∧ Ev (fun k m _ _ => L_impl_itemText_0 k m ks.length (ks.flatMap eItem) (lenI ks.length) ((0 : Nat) : Int)) [.str r.1, .bool r.2] := by
      have hwhole : (headT 192 (itxtL ks).size ++ itxtL ks).size = (headT 192 (itxtL ks).size).size + (itxtL ks).size := size_append _ _
      cases ks with
      | nil =>
        have n0 : (⟨#[]⟩ : ByteArray).size = 0 := rfl
        refine ⟨(headT 192 (itxtL []).size ++ itxtL [], true), ⟨fun _ => rfl, fun q => by cases q⟩, ?_⟩
        rw [itxtL_nil, n0]
        have hh := headT_size (base := 192) (n := 0) (by omega)
        refine Ev.step (fun k m _ _ => L_impl_itemText_0_s k m _ _ _ _) (Ev.f (ltI_f (by rw [lenI_c]; show ¬ (0 : Int) < ((0 : Nat) : Int); omega)) (Ev.c Builder_Len_n_ev (Ev.g rfl (Ev.c (impl_lengthText_ev 192 0 (by omega)) (Ev.c Builder_String_n_ev (Ev.g rfl ?_))))))
        simp only [hdV_c, tlV_c, parts1_a, asInt_i, asBool_b, asStr_s, asLen_f, asCells_f, tupL_t, refCells_r, ownLen_o]
        exact Ev.g (fitS_small (by omega)) (Ev.now _)
      | cons y ys =>
        have hi' : 0 < (y :: ys).length := by simp
        have hm := List.getElem_mem hi'
        have h2 := itxtL_part (y :: ys) (0 + 1)
        have htk := itxtL_take (y :: ys) 0 hi'
        have hst := itxt_size _ (k2 _ hm)
        rw [List.take_zero, itxtL_nil, ba_nil_append] at htk
        rw [htk] at h2
        obtain ⟨r0, ⟨g1, g2⟩, e0⟩ := hx _ hm (k2 _ hm)
        cases hr : r0.2 with
        | false =>
          obtain ⟨g3, g4⟩ := g2 hr
          refine ⟨((⟨#[]⟩ : ByteArray), false), ⟨(fun q => by cases q), fun _ => ⟨rfl, by omega⟩⟩, ?_⟩
          refine Ev.step (fun k m _ _ => L_impl_itemText_0_s k m _ _ _ _) (Ev.t (ltI_t (by rw [lenI_c]; omega)) (Ev.g (inR_n (by omega)) ?_))
          simp only [ci0 hi', ci1 hi', ci2 hi', hdV_c, tlV_c, parts1_a, asInt_i, asBool_b, asStr_s, asLen_f, asCells_f, tupL_t, refCells_r, ownLen_o]
          exact Ev.g rfl (Ev.c e0 (Ev.t (by simp only [hdV_c, tlV_c, parts1_a, asInt_i, asBool_b, asStr_s, asLen_f, asCells_f, tupL_t, refCells_r, ownLen_o]; rw [hr]; rfl) (Ev.now _)))
        | true =>
          have g3 := g1 hr
          have ew : wr .i64 (addI 0 (lenI (lenS (itxt (y :: ys)[0])))) = (((itxt (y :: ys)[0]).size : Nat) : Int) := by rw [addI_d, lenI_c, lenS_d, wr64 (by omega)]; omega
          by_cases hbig : 900 < (itxt (y :: ys)[0]).size
          · refine ⟨((⟨#[]⟩ : ByteArray), false), ⟨(fun q => by cases q), fun _ => ⟨rfl, by omega⟩⟩, ?_⟩
            refine Ev.step (fun k m _ _ => L_impl_itemText_0_s k m _ _ _ _) (Ev.t (ltI_t (by rw [lenI_c]; omega)) (Ev.g (inR_n (by omega)) ?_))
            simp only [ci0 hi', ci1 hi', ci2 hi', hdV_c, tlV_c, parts1_a, asInt_i, asBool_b, asStr_s, asLen_f, asCells_f, tupL_t, refCells_r, ownLen_o]
            refine Ev.g rfl (Ev.c e0 (Ev.f (by simp only [hdV_c, tlV_c, parts1_a, asInt_i, asBool_b, asStr_s, asLen_f, asCells_f, tupL_t, refCells_r, ownLen_o]; rw [hr]; rfl) (Ev.c Builder_Len_n_ev (Ev.g rfl ?_))))
            simp only [hdV_c, tlV_c, parts1_a, asInt_i, asBool_b, asStr_s, asLen_f, asCells_f, tupL_t, refCells_r, ownLen_o, g3, ew]
            exact Ev.t (ltI_t (by omega)) (Ev.now _)
          · obtain ⟨r, gr, er⟩ := impl_itemText_l (y :: ys) k1 k2 hwl hx ys.length 1 (bts (itxt (y :: ys)[0])) (by simp; omega) (fun q => by
              have := congrArg List.length q
              rw [bts_length, List.length_nil] at this
              omega) (by rw [← htk]) (by rw [bts_length]; omega)
            refine ⟨r, gr, ?_⟩
            refine Ev.step (fun k m _ _ => L_impl_itemText_0_s k m _ _ _ _) (Ev.t (ltI_t (by rw [lenI_c]; omega)) (Ev.g (inR_n (by omega)) ?_))
            simp only [ci0 hi', ci1 hi', ci2 hi', hdV_c, tlV_c, parts1_a, asInt_i, asBool_b, asStr_s, asLen_f, asCells_f, tupL_t, refCells_r, ownLen_o]
            refine Ev.g rfl (Ev.c e0 (Ev.f (by simp only [hdV_c, tlV_c, parts1_a, asInt_i, asBool_b, asStr_s, asLen_f, asCells_f, tupL_t, refCells_r, ownLen_o]; rw [hr]; rfl) (Ev.c Builder_Len_n_ev (Ev.g rfl ?_))))
            simp only [hdV_c, tlV_c, parts1_a, asInt_i, asBool_b, asStr_s, asLen_f, asCells_f, tupL_t, refCells_r, ownLen_o, g3, ew]
            refine Ev.f (ltI_f (by omega)) (Ev.c (Builder_WriteString_a_ev (itxt (y :: ys)[0]) (by omega)) (Ev.g rfl ?_))
            simp only [bldB, hdV_c, tlV_c, parts1_a, asInt_i, asBool_b, asStr_s, asLen_f, asCells_f, tupL_t, refCells_r, ownLen_o, wrS (show 0 < 9223372036854775807 by omega)]
            exact er
    obtain ⟨r, gr, er⟩ := go
    refine ⟨r, gr, Ev.fn (fun k => F_impl_itemText k _ _ _ _) ?_⟩
    rw [hb, hks]
    exact Ev.f rfl er.l0


theorem spec_ItemText_ev (x : Tree) (w : x.wt ≤ 1048576) : ∃ r : ByteArray × Bool, r = (if fits 4 x = true ∧ (itxt x).size ≤ 900 then (itxt x, true) else ((⟨#[]⟩ : ByteArray), false)) ∧ Does cp n_spec_ItemText [aItem x] [.str r.1, .bool r.2] ∧ Does cp n_impl_ItemText [aItem x] [.str r.1, .bool r.2] := by
  refine ⟨_, rfl, ?_, ?_⟩
  · refine Ev.fn (fun k => F_spec_ItemText k _ _ _ _) (Ev.c (spec_ItemOk_ev x) ?_)
    cases ho : fits 4 x with
    | false =>
      rw [if_neg (fun q => by cases q.1)]
      exact Ev.t rfl (Ev.now _)
    | true =>
      refine Ev.f rfl (Ev.c (spec_l17Text_ev x w) ?_)
      simp only [hdV_c, tlV_c, parts1_a, asInt_i, asBool_b, asStr_s, asLen_f, asCells_f, tupL_t, refCells_r, ownLen_o]
      by_cases h : (itxt x).size ≤ 900
      · rw [if_pos ⟨by simp, h⟩]; exact Ev.f (ltI_f (by rw [lenI_c, lenS_d]; omega)) (Ev.now _)
      · rw [if_neg (fun q => h q.2)]; exact Ev.t (ltI_t (by rw [lenI_c, lenS_d]; omega)) (Ev.now _)
  · refine Ev.fn (fun k => F_impl_ItemText k _ _ _ _) (Ev.c (impl_ItemOk_ev x) ?_)
    cases ho : fits 4 x with
    | false =>
      rw [if_neg (fun q => by cases q.1)]
      exact Ev.t rfl (Ev.now _)
    | true =>
      obtain ⟨r, ⟨g1, g2⟩, e⟩ := impl_itemText_ev x w
      refine Ev.f rfl (Ev.c e ?_)
      simp only [hdV_c, tlV_c, parts1_a, asInt_i, asBool_b, asStr_s, asLen_f, asCells_f, tupL_t, refCells_r, ownLen_o]
      cases hr : r.2 with
      | false =>
        obtain ⟨_, g3⟩ := g2 hr
        rw [if_neg (fun q => by have := q.2; omega)]
        exact Ev.t rfl (Ev.now _)
      | true =>
        rw [g1 hr]
        refine Ev.f rfl ?_
        by_cases h : (itxt x).size ≤ 900
        · rw [if_pos ⟨by simp, h⟩]; exact Ev.f (ltI_f (by rw [lenI_c, lenS_d]; omega)) (Ev.now _)
        · rw [if_neg (fun q => h q.2)]; exact Ev.t (ltI_t (by rw [lenI_c, lenS_d]; omega)) (Ev.now _)
theorem law_ItemText (x : Tree) (ok : okItem x) : ∃ k, evF cp k n_laws_FnExactItemText [.agg (encItem.enc x)] = some [.bool true] := by
  apply Ev.rounds
  show Does cp n_laws_FnExactItemText [.agg (eItem x)] _
  rw [eItem_eq]
  refine Ev.fn (fun k => F_laws_FnExactItemText k _ _ _ _) (Ev.c (laws_szItem_ev x ok 1048576 (by omega) (by omega)) ?_)
  simp only [hdV_c, tlV_c, parts1_a, asInt_i, asBool_b, asStr_s, asLen_f, asCells_f, tupL_t, refCells_r, ownLen_o]
  by_cases h : (x.wt : Int) ≤ 1048576
  · refine Ev.f (ltI_f (by rw [szw, if_pos h]; omega)) ?_
    have w : x.wt ≤ 1048576 := by omega
    have et := laws_toItem_ev x w
    obtain ⟨r, _, es, ei⟩ := spec_ItemText_ev x w
    refine Ev.c et (Ev.c es (Ev.c et (Ev.c ei (Ev.f ?_ (Ev.f ?_ (Ev.c et (Ev.c (laws_eqItem_same x w) (Ev.f rfl (Ev.now _)))))))))
    · simp only [hdV_c, tlV_c, parts1_a, asInt_i, asBool_b, asStr_s, asLen_f, asCells_f, tupL_t, refCells_r, ownLen_o]; rw [eqS_t rfl]; rfl
    · simp only [hdV_c, tlV_c, parts1_a, asInt_i, asBool_b, asStr_s, asLen_f, asCells_f, tupL_t, refCells_r, ownLen_o, eqB_d]; simp [notB]
  · exact Ev.t (ltI_t (by rw [szw, if_neg h]; omega)) (Ev.now _)


end Go.Proofs.Ytmhakjpjnnfidaa.FnExactItemText
