/- FnExactSigners, the plain part: for every argument the law answers true. No conditions. -/
import Derived.Test.YtegchimmolpmeaaEVcFnExactSigners
namespace Go.Proofs.Ytegchimmolpmeaa.FnExactSigners
open Go Go.Proofs Go.Proofs.Ytegchimmolpmeaa.EV
set_option linter.unusedVariables false
set_option linter.unusedSimpArgs false
set_option maxRecDepth 100000
def eI (n : Int) : List AV := [.int .i64 n]
theorem eI_len (n : Int) : (eI n).length = 1 := rfl
def eS (s : ByteArray) : List AV := [.str s]
theorem eS_len (s : ByteArray) : (eS s).length = 1 := rfl
theorem notB_to {b : Bool} (h : notB b = true) : b = false := by cases b <;> first | rfl | cases h
theorem notB_fo {b : Bool} (h : notB b = false) : b = true := by cases b <;> first | rfl | cases h
theorem Ev.an {a b : Bool} {X : Nat → Nat → Nat → Nat → Option (List AV)} (h : a = true → Ev X [.bool b]) : Ev (fun k m p q => br (notB a) (some [.bool false]) (X k m p q)) [.bool (a && b)] := by
  cases a with
  | true => exact Ev.f rfl (h rfl)
  | false => exact Ev.t rfl (Ev.now _)
theorem Ev.ap {a b : Bool} {X : Nat → Nat → Nat → Nat → Option (List AV)} (h : a = true → Ev X [.bool b]) : Ev (fun k m p q => br a (X k m p q) (some [.bool false])) [.bool (a && b)] := by
  cases a with
  | true => exact Ev.t rfl (h rfl)
  | false => exact Ev.f rfl (Ev.now _)
theorem Ev.na {a b : Bool} {X : Nat → Nat → Nat → Nat → Option (List AV)} (h : a = false → Ev X [.bool b]) : Ev (fun k m p q => br a (some [.bool false]) (X k m p q)) [.bool (!a && b)] := by
  cases a with
  | false => exact Ev.f rfl (h rfl)
  | true => exact Ev.t rfl (Ev.now _)


abbrev Pt := Int × Int × Bool
def eP (p : Pt) : List AV := [.int .i64 p.1, .int .i64 p.2.1, .bool p.2.2]
theorem eP_len (p : Pt) : (eP p).length = 3 := rfl


theorem fitN_small {n b : Nat} (h : n ≤ 1048576) (hb : b ≤ 4096) : fitN (addN 0 n) b = true := by
  unfold fitN addN
  have : (0 + n) * b ≤ 1048576 * 4096 := Nat.mul_le_mul (by omega) hb
  exact Nat.ble_eq_true_of_le (by omega)
theorem lenEq_encs {α : Type} {e : α → List AV} {sz : Nat} (h : ∀ a, (e a).length = sz) (xs : List α) : lenEq (xs.flatMap e) (mulN xs.length sz) = true := by
  unfold lenEq
  rw [encs_len h, mulN_d]
  simp
theorem cat_nil {α : Type} {e : α → List AV} {sz : Nat} (h : ∀ a, (e a).length = sz) (xs : List α) : cutC (catC (cutC [] 0 0) (xs.flatMap e)) 0 (mulN (addN 0 xs.length) sz) = xs.flatMap e := by
  have : catC (cutC [] 0 0) (xs.flatMap e) = xs.flatMap e := rfl
  rw [this, addN_d, Nat.zero_add]
  exact cut_all h xs
theorem slices_Clone_Point_ev (xs : List Pt) (hl : xs.length ≤ 1048576) : Does cp n_slices_Clone_Point [.fs xs.length (xs.flatMap eP)] [.fs xs.length (xs.flatMap eP)] := by
  refine Ev.fn (fun k => F_slices_Clone_Point k _ _) ?_
  have hg : Bool.and (fitN (addN 0 xs.length) 24) (lenEq (xs.flatMap eP) (mulN xs.length 3)) = true := by rw [fitN_small hl (by decide), lenEq_encs eP_len]; rfl
  have hv : Ev (fun _ _ _ _ => gd (Bool.and (fitN (addN 0 xs.length) 24) (lenEq (xs.flatMap eP) (mulN xs.length 3))) (some [AV.fs (addN 0 xs.length) (cutC (catC (cutC [] 0 0) (xs.flatMap eP)) 0 (mulN (addN 0 xs.length) 3))])) [.fs xs.length (xs.flatMap eP)] :=
    Ev.g hg (Ev.some_ (by rw [cat_nil eP_len, addN_d, Nat.zero_add]))
  refine Ev.b (fun h => ?_) (fun _ => hv)
  refine Ev.bw ?_ hv
  have : xs = [] := List.eq_nil_of_length_eq_zero (Nat.eq_of_beq_eq_true h)
  subst this
  exact Ev.now _
theorem impl_copyCommittee_ev (xs : List Pt) (hl : xs.length ≤ 1048576) : Does cp n_impl_copyCommittee [.agg [.fs xs.length (xs.flatMap eP)]] [.agg [.fs xs.length (xs.flatMap eP)]] :=
  Ev.fn (fun k => F_impl_copyCommittee k _ _) (Ev.c (slices_Clone_Point_ev xs hl) (Ev.some_ (by simp only [hdV_c, tlV_c, parts1_a, asInt_i, asBool_b, asStr_s, asLen_f, asCells_f, tupL_t, refCells_r, ownLen_o, cut_all eP_len])))


theorem spec_l22Committee_ev (xs : List Pt) (hl : xs.length ≤ 1048576) : Does cp n_spec_l22Committee [.agg [.fs xs.length (xs.flatMap eP)]] [.agg [.fs xs.length (xs.flatMap eP)]] :=
  Ev.fn (fun k => F_spec_l22Committee k _ _) (Ev.g (by rw [fitN_small hl (by decide), lenEq_encs eP_len]; rfl) (Ev.some_ (by rw [cat_nil eP_len, addN_d, Nat.zero_add])))
def pdv (x : Int) : Int := if x < 0 then 0 else wr .i64 (quoI x 8)
theorem spec_PeriodOf_ev (x : Int) : Does cp n_spec_PeriodOf [.int .i64 x] [.int .i64 (pdv x)] := by
  refine Ev.fn (fun k => F_spec_PeriodOf k _) ?_
  unfold pdv
  by_cases h : x < 0
  · rw [if_pos h]; exact Ev.t (ltI_t h) (Ev.now _)
  · rw [if_neg h]; exact Ev.f (ltI_f h) (Ev.now _)
theorem impl_PeriodOf_ev (x : Int) : Does cp n_impl_PeriodOf [.int .i64 x] [.int .i64 (pdv x)] := by
  refine Ev.fn (fun k => F_impl_PeriodOf k _) (Ev.some_ ?_)
  unfold pdv maxI
  by_cases h : x < 0
  · rw [if_pos h, if_pos h]; rfl
  · rw [if_neg h, if_neg h]
/-- Who signs: the keys, and whether there are any. -/
def sgn (now next : List Pt) (has : Bool) (slot signed : Int) : List Pt × Bool :=
  if eqI (pdv signed) (pdv slot) then (now, true) else if eqI (pdv signed) (wr .i64 (addI (pdv slot) 1)) && has then (next, true) else ([], false)
theorem sgn_len {now next : List Pt} {has : Bool} {slot signed : Int} (h1 : now.length ≤ 1048576) (h2 : next.length ≤ 1048576) : (sgn now next has slot signed).1.length ≤ 1048576 := by
  unfold sgn
  split
  · exact h1
  · split
    · exact h2
    · simp
theorem spec_Signers_ev (x0 : Int) (x1 x2 x3 : ByteArray) (x4 x5 : List Pt) (x6 : Bool) (x7 x8 : Int) (x9 : Bool) (x10 x11 : Int) (x12 : Bool) (x13 x14 : Int) (x15 : Bool) (x16 x17 : Int) (x18 : Bool) (x19 : List Pt) (s : Int) (h4 : x4.length ≤ 1048576) (h5 : x5.length ≤ 1048576) :
    Does cp n_spec_Signers [.agg [.int .i64 x0, .str x1, .str x2, .str x3, .fs x4.length (x4.flatMap eP), .fs x5.length (x5.flatMap eP), .bool x6, .int .i64 x7, .int .i64 x8, .bool x9, .int .i64 x10, .int .i64 x11, .bool x12, .int .i64 x13, .int .i64 x14, .bool x15, .int .i64 x16, .int .i64 x17, .bool x18, .fs x19.length (x19.flatMap eP)], .int .i64 s]
      [.agg [.fs (sgn x4 x5 x6 x0 s).1.length ((sgn x4 x5 x6 x0 s).1.flatMap eP)], .bool (sgn x4 x5 x6 x0 s).2] := by
  refine Ev.fn (fun k => F_spec_Signers k _ _ _ _ _ _ _ _ _ _ _ _ _ _ _ _ _ _ _ _ _ _ _ _) (Ev.c (spec_PeriodOf_ev s) (Ev.c (spec_PeriodOf_ev x0) ?_))
  simp only [hdV_c, tlV_c, parts1_a, asInt_i, asBool_b, asStr_s, asLen_f, asCells_f, tupL_t, refCells_r, ownLen_o]
  unfold sgn
  cases ha : eqI (pdv s) (pdv x0) with
  | true => rw [if_pos rfl]; exact Ev.t rfl (Ev.c (spec_l22Committee_ev x4 h4) (Ev.now _))
  | false =>
    rw [if_neg (by simp)]
    refine Ev.f rfl ?_
    cases hb : eqI (pdv s) (wr .i64 (addI (pdv x0) 1)) with
    | false => rw [if_neg (by simp)]; exact Ev.f rfl (Ev.now _)
    | true =>
      cases x6 with
      | true => rw [if_pos (by rfl)]; exact Ev.t rfl (Ev.t rfl (Ev.c (spec_l22Committee_ev x5 h5) (Ev.now _)))
      | false => rw [if_neg (by simp)]; exact Ev.t rfl (Ev.f rfl (Ev.now _))
theorem impl_Signers_ev (x0 : Int) (x1 x2 x3 : ByteArray) (x4 x5 : List Pt) (x6 : Bool) (x7 x8 : Int) (x9 : Bool) (x10 x11 : Int) (x12 : Bool) (x13 x14 : Int) (x15 : Bool) (x16 x17 : Int) (x18 : Bool) (x19 : List Pt) (s : Int) (h4 : x4.length ≤ 1048576) (h5 : x5.length ≤ 1048576) :
    Does cp n_impl_Signers [.agg [.int .i64 x0, .str x1, .str x2, .str x3, .fs x4.length (x4.flatMap eP), .fs x5.length (x5.flatMap eP), .bool x6, .int .i64 x7, .int .i64 x8, .bool x9, .int .i64 x10, .int .i64 x11, .bool x12, .int .i64 x13, .int .i64 x14, .bool x15, .int .i64 x16, .int .i64 x17, .bool x18, .fs x19.length (x19.flatMap eP)], .int .i64 s]
      [.agg [.fs (sgn x4 x5 x6 x0 s).1.length ((sgn x4 x5 x6 x0 s).1.flatMap eP)], .bool (sgn x4 x5 x6 x0 s).2] := by
  refine Ev.fn (fun k => F_impl_Signers k _ _ _ _ _ _ _ _ _ _ _ _ _ _ _ _ _ _ _ _ _ _ _ _) (Ev.c (impl_PeriodOf_ev x0) (Ev.c (impl_PeriodOf_ev s) ?_))
  simp only [hdV_c, tlV_c, parts1_a, asInt_i, asBool_b, asStr_s, asLen_f, asCells_f, tupL_t, refCells_r, ownLen_o]
  unfold sgn
  cases ha : eqI (pdv s) (pdv x0) with
  | true => rw [if_pos rfl]; exact Ev.t rfl (Ev.c (impl_copyCommittee_ev x4 h4) (Ev.some_ (by simp only [hdV_c, tlV_c, parts1_a, asInt_i, asBool_b, asStr_s, asLen_f, asCells_f, tupL_t, refCells_r, ownLen_o, cut_all eP_len])))
  | false =>
    rw [if_neg (by simp)]
    refine Ev.f rfl (Ev.c (impl_PeriodOf_ev s) ?_)
    simp only [hdV_c, tlV_c, parts1_a, asInt_i, asBool_b, asStr_s, asLen_f, asCells_f, tupL_t, refCells_r, ownLen_o]
    cases hb : eqI (pdv s) (wr .i64 (addI (pdv x0) 1)) with
    | false => rw [if_neg (by simp)]; exact Ev.f rfl (Ev.now _)
    | true =>
      cases x6 with
      | true => rw [if_pos (by rfl)]; exact Ev.t rfl (Ev.t rfl (Ev.c (impl_copyCommittee_ev x5 h5) (Ev.some_ (by simp only [hdV_c, tlV_c, parts1_a, asInt_i, asBool_b, asStr_s, asLen_f, asCells_f, tupL_t, refCells_r, ownLen_o, cut_all eP_len]))))
      | false => rw [if_neg (by simp)]; exact Ev.t rfl (Ev.f rfl (Ev.now _))


/-- A point marked from k on. -/
def mkP (k : Int) : Pt := (k, k + 1, eqI (remI (k + 2) 3) 0)
def mkL (n : Nat) (k : Int) : List Pt := (List.range n).map fun (j : Nat) => mkP (k + 3 * (j : Int))
theorem mkL_len (n : Nat) (k : Int) : (mkL n k).length = n := by simp [mkL]
theorem mkL_succ (n : Nat) (k : Int) : mkL (n + 1) k = mkL n k ++ [mkP (k + 3 * (n : Int))] := by simp [mkL, List.range_succ]
theorem mkL_get (n : Nat) (k : Int) (i : Nat) (h : i < (mkL n k).length) : (mkL n k)[i] = mkP (k + 3 * (i : Int)) := by simp [mkL]
theorem wrK {s : Int} (h : 0 ≤ s) (h2 : s ≤ 2199023255552) : wr .i64 (addI s 1) = s + 1 := by rw [addI_d, wr64 (by omega)]
theorem set_mid (xs : List Pt) (i : Nat) (k : Int) (hi : i < xs.length) : (mkL i k ++ xs.drop i).set i (mkP (k + 3 * (i : Int))) = mkL (i + 1) k ++ xs.drop (i + 1) := by
  have hl := mkL_len i k
  rw [mkL_succ, List.append_assoc, List.drop_eq_getElem_cons hi]
  rw [List.set_append, if_neg (by omega), hl, Nat.sub_self, List.set_cons_zero]
  rfl
theorem set3 (b : List AV) (o : Nat) (x y z : AV) : setMany (setMany (setMany b o [x]) (addN o 1) [y]) (addN o 2) [z] = setMany b o [x, y, z] := rfl
theorem set1_len (b : List AV) (o : Nat) (x : AV) : (setMany b o [x]).length = b.length := by show (b.set o x).length = _; rw [List.length_set]
theorem laws_markPointS_l (xs : List Pt) (hl : xs.length ≤ 1048576) (k0 : Int) (h0 : 0 ≤ k0) (h1 : k0 ≤ 1099511627776) (d : Nat) : ∀ i : Nat, i + d = xs.length →
    Ev (fun k m _ _ => L_laws_markPointS_a_0 k m xs.length (i : Int) (k0 + 3 * (i : Int)) ((mkL i k0 ++ xs.drop i).flatMap eP)) [.tup [.ref true 28 ((mkL xs.length k0).flatMap eP)], .int .i64 (k0 + 3 * (xs.length : Int))] := by
  induction d with
  | zero =>
    intro i hi
    refine Ev.step (fun k m _ _ => L_laws_markPointS_a_0_s k m _ _ _ _) (Ev.f (ltI_f (by rw [lenI_c]; omega)) (Ev.some_ ?_))
    have : i = xs.length := by omega
    subst this
    rw [List.drop_length, List.append_nil]
  | succ d ih =>
    intro i hi
    have hlen : ((mkL i k0 ++ xs.drop i).flatMap eP).length = xs.length * 3 := by
      rw [encs_len eP_len, List.length_append, mkL_len, List.length_drop, show i + (xs.length - i) = xs.length by omega]
    have hs : setMany ((mkL i k0 ++ xs.drop i).flatMap eP) (i * 3) (eP (mkP (k0 + 3 * (i : Int)))) = (mkL (i + 1) k0 ++ xs.drop (i + 1)).flatMap eP := by
      rw [set_encs eP_len _ _ _ (by rw [List.length_append, mkL_len, List.length_drop]; omega), set_mid xs i k0 (by omega)]
    have w1 : wr .i64 (addI (k0 + 3 * (i : Int)) 1) = k0 + 3 * (i : Int) + 1 := wrK (by omega) (by omega)
    have w2 : wr .i64 (addI (k0 + 3 * (i : Int) + 1) 1) = k0 + 3 * (i : Int) + 2 := by rw [wrK (by omega) (by omega)]; omega
    have w3 : wr .i64 (addI (k0 + 3 * (i : Int) + 2) 1) = k0 + 3 * ((i + 1 : Nat) : Int) := by rw [wrK (by omega) (by omega)]; omega
    have n1 := set1_len
    refine Ev.step (fun k m _ _ => L_laws_markPointS_a_0_s k m _ _ _ _) ?_
    simp only [w1, w2, w3, set1_len, hlen, set3, wrS (show i < 9223372036854775807 by omega), natI_c, mulN_d, addN_d, Nat.zero_add]
    refine Ev.t (ltI_t (by rw [lenI_c]; omega)) (Ev.g (inR_n (by omega)) (Ev.g (Nat.ble_eq_true_of_le (by omega)) (Ev.g (inR_n (by omega)) (Ev.g (Nat.ble_eq_true_of_le (by omega)) (Ev.g (inR_n (by omega)) (Ev.g (Nat.ble_eq_true_of_le (by omega)) ?_))))))
    have e3 : setMany (setMany (setMany ((mkL i k0 ++ xs.drop i).flatMap eP) (i * 3) [.int .i64 (k0 + 3 * (i : Int))]) (i * 3 + 1) [.int .i64 (k0 + 3 * (i : Int) + 1)]) (i * 3 + 2) [.bool (eqI (remI (k0 + 3 * (i : Int) + 2) 3) 0)] = (mkL (i + 1) k0 ++ xs.drop (i + 1)).flatMap eP := hs
    rw [e3]
    exact ih (i + 1) (by omega)
theorem laws_markPointS_ev (xs : List Pt) (hl : xs.length ≤ 1048576) (k0 : Int) (h0 : 0 ≤ k0) (h1 : k0 ≤ 1099511627776) : Does cp n_laws_markPointS [.tup [.ref true 28 (xs.flatMap eP)], .own 0 0 xs.length, .int .i64 k0] [.tup [.ref true 28 ((mkL xs.length k0).flatMap eP)], .int .i64 (k0 + 3 * (xs.length : Int))] := by
  have := (laws_markPointS_l xs hl k0 h0 h1 xs.length 0 (by omega)).l0
  refine Ev.fn (fun k => F_laws_markPointS_a k _ _ _) ?_
  have e : (mkL 0 k0 ++ xs.drop 0).flatMap eP = xs.flatMap eP := rfl
  rw [e] at this
  have e2 : k0 + 3 * ((0 : Nat) : Int) = k0 := by omega
  rw [e2] at this
  exact this
theorem laws_markCommittee_ev (xs : List Pt) (hl : xs.length ≤ 1048576) (k0 : Int) (h0 : 0 ≤ k0) (h1 : k0 ≤ 1099511627776) : Does cp n_laws_markCommittee [.tup [.ref true 28 (xs.flatMap eP)], .agg [.own 0 0 xs.length], .int .i64 k0] [.tup [.ref true 28 ((mkL xs.length k0).flatMap eP)], .int .i64 (k0 + 3 * (xs.length : Int))] :=
  Ev.fn (fun k => F_laws_markCommittee_a k _ _ _) (Ev.c (laws_markPointS_ev xs hl k0 h0 h1) (Ev.g rfl (Ev.now _)))
theorem laws_heldPointS_l (n : Nat) (hl : n ≤ 1048576) (k0 : Int) (h0 : 0 ≤ k0) (h1 : k0 ≤ 1099511627776) (d : Nat) : ∀ i : Nat, i + d = n →
    Ev (fun k m _ _ => L_laws_heldPointS_0 k m n ((mkL n k0).flatMap eP) (i : Int) (k0 + 3 * (i : Int))) [.int .i64 (k0 + 3 * (n : Int))] := by
  induction d with
  | zero =>
    intro i hi
    refine Ev.step (fun k m _ _ => L_laws_heldPointS_0_s k m _ _ _ _) (Ev.f (ltI_f (by rw [lenI_c]; omega)) (Ev.some_ ?_))
    have : i = n := by omega
    subst this; rfl
  | succ d ih =>
    intro i hi
    have hll := mkL_len n k0
    have hg := mkL_get n k0 i (by omega)
    have c0 : cellAt ((mkL n k0).flatMap eP) (mulN (natI (i : Int)) 3) = .int .i64 ((mkL n k0)[i]'(by omega)).1 := cell_enc0 eP_len (by omega) (by decide)
    have c1 : cellAt ((mkL n k0).flatMap eP) (addN (mulN (natI (i : Int)) 3) 1) = .int .i64 ((mkL n k0)[i]'(by omega)).2.1 := cell_enc eP_len (by omega) 1 (by decide)
    have c2 : cellAt ((mkL n k0).flatMap eP) (addN (mulN (natI (i : Int)) 3) 2) = .bool ((mkL n k0)[i]'(by omega)).2.2 := cell_enc eP_len (by omega) 2 (by decide)
    rw [hg] at c0 c1 c2
    have w1 : wr .i64 (addI (k0 + 3 * (i : Int)) 1) = k0 + 3 * (i : Int) + 1 := wrK (by omega) (by omega)
    have w2 : wr .i64 (addI (k0 + 3 * (i : Int) + 1) 1) = k0 + 3 * (i : Int) + 2 := by rw [wrK (by omega) (by omega)]; omega
    have w3 : wr .i64 (addI (k0 + 3 * (i : Int) + 2) 1) = k0 + 3 * ((i + 1 : Nat) : Int) := by rw [wrK (by omega) (by omega)]; omega
    refine Ev.step (fun k m _ _ => L_laws_heldPointS_0_s k m _ _ _ _) ?_
    simp only [c0, c1, c2, w1, w2, w3, hdV_c, tlV_c, parts1_a, asInt_i, asBool_b, asStr_s, asLen_f, asCells_f, tupL_t, refCells_r, ownLen_o, wrS (show i < 9223372036854775807 by omega), mkP]
    refine Ev.t (ltI_t (by rw [lenI_c]; omega)) (Ev.g (inR_n (by omega)) (Ev.g rfl (Ev.f (by rw [eqI_t rfl]; rfl) (Ev.g (inR_n (by omega)) (Ev.g rfl (Ev.f (by rw [eqI_t rfl]; rfl) (Ev.g (inR_n (by omega)) (Ev.g rfl (Ev.f (by rw [eqB_d]; simp [notB]) ?_)))))))))
    exact ih (i + 1) (by omega)
theorem laws_heldPointS_ev (n : Nat) (hl : n ≤ 1048576) (k0 : Int) (h0 : 0 ≤ k0) (h1 : k0 ≤ 1099511627776) : Does cp n_laws_heldPointS [.fs n ((mkL n k0).flatMap eP), .int .i64 k0] [.int .i64 (k0 + 3 * (n : Int))] := by
  have := (laws_heldPointS_l n hl k0 h0 h1 n 0 (by omega)).l0
  have e2 : k0 + 3 * ((0 : Nat) : Int) = k0 := by omega
  rw [e2] at this
  exact Ev.fn (fun k => F_laws_heldPointS k _ _ _) this
theorem laws_heldCommittee_ev (n : Nat) (hl : n ≤ 1048576) (k0 : Int) (h0 : 0 ≤ k0) (h1 : k0 ≤ 1099511627776) : Does cp n_laws_heldCommittee [.agg [.fs n ((mkL n k0).flatMap eP)], .int .i64 k0] [.int .i64 (k0 + 3 * (n : Int))] :=
  Ev.fn (fun k => F_laws_heldCommittee k _ _ _) (Ev.c (laws_heldPointS_ev n hl k0 h0 h1) (Ev.f (ltI_f (by simp only [hdV_c, tlV_c, parts1_a, asInt_i, asBool_b, asStr_s, asLen_f, asCells_f, tupL_t, refCells_r, ownLen_o]; omega)) (Ev.now _)))


theorem laws_szHead_ev (x0 : Int) (x1 : ByteArray) (x2 : ByteArray) (x3 : ByteArray) (h_x1 : x1.size ≤ 9223372036854775807) (h_x2 : x2.size ≤ 9223372036854775807) (h_x3 : x3.size ≤ 9223372036854775807) (v : Int) (h0 : 0 ≤ v) (h1 : v ≤ 1048576) :
    ∃ r, Does cp n_laws_szHead [.agg [.int .i64 x0, .str x1, .str x2, .str x3], .int .i64 v] [.int .i64 r] ∧ (0 ≤ r → r ≤ v ∧ x1.size ≤ 1048576 ∧ x2.size ≤ 1048576 ∧ x3.size ≤ 1048576) := by
  suffices h : ∃ r, Ev (fun k _ _ _ => evF cp (k + 1) n_laws_szHead [.agg [.int .i64 x0, .str x1, .str x2, .str x3], .int .i64 v]) [.int .i64 r] ∧ (0 ≤ r → r ≤ v ∧ x1.size ≤ 1048576 ∧ x2.size ≤ 1048576 ∧ x3.size ≤ 1048576) by
    obtain ⟨r, h, p⟩ := h; exact ⟨r, Ev.fn (fun _ => rfl) h, p⟩
  simp only [F_laws_szHead]
  have e2 : wr .i64 (subI v (lenI (lenS x1))) = v - (x1.size : Int) := by rw [subI_d, lenI_c, lenS_d, wr64 (by omega)]
  simp only [e2]
  by_cases c2 : v - (x1.size : Int) < 0
  · exact ⟨-1, Ev.t (ltI_t c2) (Ev.now _), fun h => by omega⟩
  have e3 : wr .i64 (subI (v - (x1.size : Int)) (lenI (lenS x2))) = (v - (x1.size : Int)) - (x2.size : Int) := by rw [subI_d, lenI_c, lenS_d, wr64 (by omega)]
  simp only [e3]
  by_cases c3 : (v - (x1.size : Int)) - (x2.size : Int) < 0
  · exact ⟨-1, Ev.f (ltI_f c2) (Ev.t (ltI_t c3) (Ev.now _)), fun h => by omega⟩
  have e4 : wr .i64 (subI ((v - (x1.size : Int)) - (x2.size : Int)) (lenI (lenS x3))) = ((v - (x1.size : Int)) - (x2.size : Int)) - (x3.size : Int) := by rw [subI_d, lenI_c, lenS_d, wr64 (by omega)]
  simp only [e4]
  by_cases c4 : ((v - (x1.size : Int)) - (x2.size : Int)) - (x3.size : Int) < 0
  · exact ⟨-1, Ev.f (ltI_f c2) (Ev.f (ltI_f c3) (Ev.t (ltI_t c4) (Ev.now _))), fun h => by omega⟩
  exact ⟨(((v - (x1.size : Int)) - (x2.size : Int)) - (x3.size : Int)), Ev.f (ltI_f c2) (Ev.f (ltI_f c3) (Ev.f (ltI_f c4) (Ev.now _))), fun h => ⟨by omega, (by omega), (by omega), (by omega)⟩⟩


theorem laws_szPointS_ev (xs : List Pt) (hl : xs.length ≤ 9223372036854775807) (v : Int) (h0 : 0 ≤ v) (h1 : v ≤ 1048576) : ∃ r, Does cp n_laws_szPointS [.fs xs.length (xs.flatMap eP), .int .i64 v] [.int .i64 r] ∧ (0 ≤ r → r ≤ v ∧ xs.length ≤ 1048576) := by
  have e : wr .i64 (subI v (lenI xs.length)) = v - (xs.length : Int) := by rw [subI_d, lenI_c, wr64 (by omega)]
  by_cases c : v - (xs.length : Int) < 0
  · exact ⟨-1, Ev.fn (fun k => F_laws_szPointS k _ _ _) (Ev.t (ltI_t (by rw [e]; exact c)) (Ev.now _)), fun h => by omega⟩
  · exact ⟨v - (xs.length : Int), Ev.fn (fun k => F_laws_szPointS k _ _ _) (Ev.f (ltI_f (by rw [e]; exact c)) (Ev.some_ (by rw [e]))), fun h => ⟨by omega, by omega⟩⟩


theorem laws_szCommittee_ev (x0 : List Pt) (h_x0 : (x0.length ≤ 9223372036854775807)) (v : Int) (h0 : 0 ≤ v) (h1 : v ≤ 1048576) :
    ∃ r, Does cp n_laws_szCommittee [.agg [.fs x0.length (x0.flatMap eP)], .int .i64 v] [.int .i64 r] ∧ (0 ≤ r → r ≤ v ∧ (x0.length ≤ 1048576)) := by
  suffices h : ∃ r, Ev (fun k _ _ _ => evF cp (k + 1) n_laws_szCommittee [.agg [.fs x0.length (x0.flatMap eP)], .int .i64 v]) [.int .i64 r] ∧ (0 ≤ r → r ≤ v ∧ (x0.length ≤ 1048576)) by
    obtain ⟨r, h, p⟩ := h; exact ⟨r, Ev.fn (fun _ => rfl) h, p⟩
  simp only [F_laws_szCommittee]
  obtain ⟨r1, e1, p1⟩ := laws_szPointS_ev x0 h_x0 v (by omega) (by omega)
  by_cases c1 : r1 < 0
  · exact ⟨-1, Ev.c e1 (Ev.t (ltI_t c1) (Ev.now _)), fun h => by omega⟩
  obtain ⟨g1, s1⟩ := p1 (by omega)
  exact ⟨r1, Ev.c e1 (Ev.f (ltI_f c1) (Ev.now _)), fun h => ⟨by omega, s1⟩⟩


theorem laws_szKeys_ev (x0 : Int) (x1 : Int) (x2 : Bool) (x3 : Int) (x4 : Int) (x5 : Bool) (x6 : Int) (x7 : Int) (x8 : Bool) (x9 : Int) (x10 : Int) (x11 : Bool) (x12 : List Pt) (h_x12 : (x12.length ≤ 9223372036854775807)) (v : Int) (h0 : 0 ≤ v) (h1 : v ≤ 1048576) :
    ∃ r, Does cp n_laws_szKeys [.agg [.int .i64 x0, .int .i64 x1, .bool x2, .int .i64 x3, .int .i64 x4, .bool x5, .int .i64 x6, .int .i64 x7, .bool x8, .int .i64 x9, .int .i64 x10, .bool x11, .fs x12.length (x12.flatMap eP)], .int .i64 v] [.int .i64 r] ∧ (0 ≤ r → r ≤ v ∧ (x12.length ≤ 1048576)) := by
  suffices h : ∃ r, Ev (fun k _ _ _ => evF cp (k + 1) n_laws_szKeys [.agg [.int .i64 x0, .int .i64 x1, .bool x2, .int .i64 x3, .int .i64 x4, .bool x5, .int .i64 x6, .int .i64 x7, .bool x8, .int .i64 x9, .int .i64 x10, .bool x11, .fs x12.length (x12.flatMap eP)], .int .i64 v]) [.int .i64 r] ∧ (0 ≤ r → r ≤ v ∧ (x12.length ≤ 1048576)) by
    obtain ⟨r, h, p⟩ := h; exact ⟨r, Ev.fn (fun _ => rfl) h, p⟩
  simp only [F_laws_szKeys]
  obtain ⟨r5, e5, p5⟩ := laws_szPointS_ev x12 h_x12 v (by omega) (by omega)
  by_cases c5 : r5 < 0
  · exact ⟨-1, Ev.c e5 (Ev.t (ltI_t c5) (Ev.now _)), fun h => by omega⟩
  obtain ⟨g5, s5⟩ := p5 (by omega)
  exact ⟨r5, Ev.c e5 (Ev.f (ltI_f c5) (Ev.now _)), fun h => ⟨by omega, s5⟩⟩


theorem laws_szClient_ev (x0 : Int) (x1 : ByteArray) (x2 : ByteArray) (x3 : ByteArray) (x4 : List Pt) (x5 : List Pt) (x6 : Bool) (x7 : Int) (x8 : Int) (x9 : Bool) (x10 : Int) (x11 : Int) (x12 : Bool) (x13 : Int) (x14 : Int) (x15 : Bool) (x16 : Int) (x17 : Int) (x18 : Bool) (x19 : List Pt) (h_x1 : x1.size ≤ 9223372036854775807) (h_x2 : x2.size ≤ 9223372036854775807) (h_x3 : x3.size ≤ 9223372036854775807) (h_x4 : (x4.length ≤ 9223372036854775807)) (h_x5 : (x5.length ≤ 9223372036854775807)) (h_x19 : (x19.length ≤ 9223372036854775807)) (v : Int) (h0 : 0 ≤ v) (h1 : v ≤ 1048576) :
    ∃ r, Does cp n_laws_szClient [.agg [.int .i64 x0, .str x1, .str x2, .str x3, .fs x4.length (x4.flatMap eP), .fs x5.length (x5.flatMap eP), .bool x6, .int .i64 x7, .int .i64 x8, .bool x9, .int .i64 x10, .int .i64 x11, .bool x12, .int .i64 x13, .int .i64 x14, .bool x15, .int .i64 x16, .int .i64 x17, .bool x18, .fs x19.length (x19.flatMap eP)], .int .i64 v] [.int .i64 r] ∧ (0 ≤ r → r ≤ v ∧ x1.size ≤ 1048576 ∧ x2.size ≤ 1048576 ∧ x3.size ≤ 1048576 ∧ (x4.length ≤ 1048576) ∧ (x5.length ≤ 1048576) ∧ (x19.length ≤ 1048576)) := by
  suffices h : ∃ r, Ev (fun k _ _ _ => evF cp (k + 1) n_laws_szClient [.agg [.int .i64 x0, .str x1, .str x2, .str x3, .fs x4.length (x4.flatMap eP), .fs x5.length (x5.flatMap eP), .bool x6, .int .i64 x7, .int .i64 x8, .bool x9, .int .i64 x10, .int .i64 x11, .bool x12, .int .i64 x13, .int .i64 x14, .bool x15, .int .i64 x16, .int .i64 x17, .bool x18, .fs x19.length (x19.flatMap eP)], .int .i64 v]) [.int .i64 r] ∧ (0 ≤ r → r ≤ v ∧ x1.size ≤ 1048576 ∧ x2.size ≤ 1048576 ∧ x3.size ≤ 1048576 ∧ (x4.length ≤ 1048576) ∧ (x5.length ≤ 1048576) ∧ (x19.length ≤ 1048576)) by
    obtain ⟨r, h, p⟩ := h; exact ⟨r, Ev.fn (fun _ => rfl) h, p⟩
  simp only [F_laws_szClient]
  obtain ⟨r1, e1, p1⟩ := laws_szHead_ev x0 x1 x2 x3 h_x1 h_x2 h_x3 v (by omega) (by omega)
  by_cases c1 : r1 < 0
  · exact ⟨-1, Ev.c e1 (Ev.t (ltI_t c1) (Ev.now _)), fun h => by omega⟩
  obtain ⟨g1, ⟨s1_1, s1_2, s1_3⟩⟩ := p1 (by omega)
  obtain ⟨r2, e2, p2⟩ := laws_szCommittee_ev x4 h_x4 r1 (by omega) (by omega)
  by_cases c2 : r2 < 0
  · exact ⟨-1, Ev.c e1 (Ev.f (ltI_f c1) (Ev.c e2 (Ev.t (ltI_t c2) (Ev.now _)))), fun h => by omega⟩
  obtain ⟨g2, s2_0⟩ := p2 (by omega)
  obtain ⟨r3, e3, p3⟩ := laws_szCommittee_ev x5 h_x5 r2 (by omega) (by omega)
  by_cases c3 : r3 < 0
  · exact ⟨-1, Ev.c e1 (Ev.f (ltI_f c1) (Ev.c e2 (Ev.f (ltI_f c2) (Ev.c e3 (Ev.t (ltI_t c3) (Ev.now _)))))), fun h => by omega⟩
  obtain ⟨g3, s3_0⟩ := p3 (by omega)
  obtain ⟨r5, e5, p5⟩ := laws_szKeys_ev x7 x8 x9 x10 x11 x12 x13 x14 x15 x16 x17 x18 x19 h_x19 r3 (by omega) (by omega)
  by_cases c5 : r5 < 0
  · exact ⟨-1, Ev.c e1 (Ev.f (ltI_f c1) (Ev.c e2 (Ev.f (ltI_f c2) (Ev.c e3 (Ev.f (ltI_f c3) (Ev.c e5 (Ev.t (ltI_t c5) (Ev.now _)))))))), fun h => by omega⟩
  obtain ⟨g5, s5_12⟩ := p5 (by omega)
  exact ⟨r5, Ev.c e1 (Ev.f (ltI_f c1) (Ev.c e2 (Ev.f (ltI_f c2) (Ev.c e3 (Ev.f (ltI_f c3) (Ev.c e5 (Ev.f (ltI_f c5) (Ev.now _)))))))), fun h => ⟨by omega, s1_1, s1_2, s1_3, s2_0, s3_0, s5_12⟩⟩


theorem laws_toHead_ev (x0 : Int) (x1 : ByteArray) (x2 : ByteArray) (x3 : ByteArray) : Does cp n_laws_toHead [.agg [.int .i64 x0, .str x1, .str x2, .str x3]] [.agg [.int .i64 x0, .str x1, .str x2, .str x3]] :=
  Ev.fn (fun k => F_laws_toHead k (x0) (x1) (x2) (x3) ) (Ev.now _)


theorem laws_toPoint_ev (x0 : Int) (x1 : Int) (x2 : Bool) : Does cp n_laws_toPoint [.agg [.int .i64 x0, .int .i64 x1, .bool x2]] [.agg [.int .i64 x0, .int .i64 x1, .bool x2]] :=
  Ev.fn (fun k => F_laws_toPoint k (x0) (x1) (x2) ) (Ev.now _)


theorem laws_toPointS_l (xs : List Pt) (hl : xs.length ≤ 1048576) (d : Nat) : ∀ i : Nat, i + d = xs.length →
    Ev (fun k m _ _ => L_laws_toPointS_0 k m xs.length (xs.flatMap eP) xs.length (i : Int) ((xs.take i).flatMap eP ++ (List.replicate d ([.int .i64 0, .int .i64 0, .bool false] : List AV)).flatten)) [.fs xs.length (xs.flatMap eP)] := by
  induction d with
  | zero =>
    intro i hi
    refine Ev.step (fun k m _ _ => L_laws_toPointS_0_s k m _ _ _ _ _) (Ev.f (ltI_f (by rw [lenI_c]; omega)) (Ev.some_ ?_))
    rw [List.replicate_zero, List.flatten_nil, List.append_nil, List.take_of_length_le (by omega), cut_all eP_len]
  | succ d ih =>
    intro i hi
    have c0 : cellAt (xs.flatMap eP) (mulN (natI (i : Int)) 3) = .int .i64 (xs[i]'(by omega)).1 := cell_enc0 eP_len (by omega) (by decide)
    have c1 : cellAt (xs.flatMap eP) (addN (mulN (natI (i : Int)) 3) 1) = .int .i64 (xs[i]'(by omega)).2.1 := cell_enc eP_len (by omega) 1 (by decide)
    have c2 : cellAt (xs.flatMap eP) (addN (mulN (natI (i : Int)) 3) 2) = .bool (xs[i]'(by omega)).2.2 := cell_enc eP_len (by omega) 2 (by decide)
    have hset : setMany ((xs.take i).flatMap eP ++ (List.replicate (d + 1) ([.int .i64 0, .int .i64 0, .bool false] : List AV)).flatten) (addN 0 (mulN (natI (i : Int)) 3)) ([.int .i64 (xs[i]'(by omega)).1, .int .i64 (xs[i]'(by omega)).2.1, .bool (xs[i]'(by omega)).2.2] : List AV) = (xs.take (i + 1)).flatMap eP ++ (List.replicate d ([.int .i64 0, .int .i64 0, .bool false] : List AV)).flatten := by
      rw [addN_d, Nat.zero_add, natI_c, mulN_d, ← take_next xs i (by omega)]
      have hp : (xs.take i).length = i := by rw [List.length_take]; omega
      have := fill_at eP_len (z := ([.int .i64 0, .int .i64 0, .bool false] : List AV)) rfl (xs.take i) (xs[i]'(by omega)) d
      rw [hp] at this
      exact this
    have hb : Nat.ble (Nat.succ (Nat.succ (Nat.succ (addN 0 (mulN (natI (i : Int)) 3))))) (List.length ((xs.take i).flatMap eP ++ (List.replicate (d + 1) ([.int .i64 0, .int .i64 0, .bool false] : List AV)).flatten)) = true := by
      rw [fill_len eP_len rfl, List.length_take]
      exact Nat.ble_eq_true_of_le (by rw [addN_d, natI_c, mulN_d, Nat.min_eq_left (by omega)]; omega)
    refine Ev.step (fun k m _ _ => L_laws_toPointS_0_s k m _ _ _ _ _) (Ev.t (ltI_t (by rw [lenI_c]; omega)) (Ev.g (inR_n (by omega)) ?_))
    simp only [c0, c1, c2, hdV_c, tlV_c, parts1_a, asInt_i, asBool_b, asStr_s, asLen_f, asCells_f, tupL_t, refCells_r, ownLen_o]
    refine Ev.g rfl (Ev.c (laws_toPoint_ev (xs[i]'(by omega)).1 (xs[i]'(by omega)).2.1 (xs[i]'(by omega)).2.2) (Ev.g (inR_n (by omega)) (Ev.g hb ?_)))
    simp only [hdV_c, tlV_c, parts1_a, asInt_i, asBool_b, asStr_s, asLen_f, asCells_f, tupL_t, refCells_r, ownLen_o, wrS (show i < 9223372036854775807 by omega), hset]
    exact ih (i + 1) (by omega)
theorem laws_toPointS_ev (xs : List Pt) (hl : xs.length ≤ 1048576) : Does cp n_laws_toPointS [.fs xs.length (xs.flatMap eP)] [.fs xs.length (xs.flatMap eP)] :=
  Ev.fn (fun k => F_laws_toPointS k _ _) (Ev.g (fit_small hl (by decide)) (laws_toPointS_l xs hl xs.length 0 (by omega)).l0)


theorem laws_toCommittee_ev (x0 : List Pt) (h_x0 : (x0.length ≤ 1048576)) : Does cp n_laws_toCommittee [.agg [.fs x0.length (x0.flatMap eP)]] [.agg [.fs x0.length (x0.flatMap eP)]] :=
  Ev.fn (fun k => F_laws_toCommittee k (x0).length ((x0).flatMap eP) ) (Ev.c (laws_toPointS_ev x0 h_x0) (Ev.some_ (by simp only [hdV_c, tlV_c, parts1_a, asInt_i, asBool_b, asStr_s, asLen_f, asCells_f, tupL_t, refCells_r, ownLen_o, cut_all eP_len])))


theorem laws_toKeys_ev (x0 : Int) (x1 : Int) (x2 : Bool) (x3 : Int) (x4 : Int) (x5 : Bool) (x6 : Int) (x7 : Int) (x8 : Bool) (x9 : Int) (x10 : Int) (x11 : Bool) (x12 : List Pt) (h_x12 : (x12.length ≤ 1048576)) : Does cp n_laws_toKeys [.agg [.int .i64 x0, .int .i64 x1, .bool x2, .int .i64 x3, .int .i64 x4, .bool x5, .int .i64 x6, .int .i64 x7, .bool x8, .int .i64 x9, .int .i64 x10, .bool x11, .fs x12.length (x12.flatMap eP)]] [.agg [.int .i64 x0, .int .i64 x1, .bool x2, .int .i64 x3, .int .i64 x4, .bool x5, .int .i64 x6, .int .i64 x7, .bool x8, .int .i64 x9, .int .i64 x10, .bool x11, .fs x12.length (x12.flatMap eP)]] :=
  Ev.fn (fun k => F_laws_toKeys k (x0) (x1) (x2) (x3) (x4) (x5) (x6) (x7) (x8) (x9) (x10) (x11) (x12).length ((x12).flatMap eP) ) (Ev.c (laws_toPoint_ev x0 x1 x2) (Ev.c (laws_toPoint_ev x3 x4 x5) (Ev.c (laws_toPoint_ev x6 x7 x8) (Ev.c (laws_toPoint_ev x9 x10 x11) (Ev.c (laws_toPointS_ev x12 h_x12) (Ev.some_ (by simp only [hdV_c, tlV_c, parts1_a, asInt_i, asBool_b, asStr_s, asLen_f, asCells_f, tupL_t, refCells_r, ownLen_o, cut_all eP_len])))))))


theorem laws_toClient_ev (x0 : Int) (x1 : ByteArray) (x2 : ByteArray) (x3 : ByteArray) (x4 : List Pt) (x5 : List Pt) (x6 : Bool) (x7 : Int) (x8 : Int) (x9 : Bool) (x10 : Int) (x11 : Int) (x12 : Bool) (x13 : Int) (x14 : Int) (x15 : Bool) (x16 : Int) (x17 : Int) (x18 : Bool) (x19 : List Pt) (h_x4 : (x4.length ≤ 1048576)) (h_x5 : (x5.length ≤ 1048576)) (h_x19 : (x19.length ≤ 1048576)) : Does cp n_laws_toClient [.agg [.int .i64 x0, .str x1, .str x2, .str x3, .fs x4.length (x4.flatMap eP), .fs x5.length (x5.flatMap eP), .bool x6, .int .i64 x7, .int .i64 x8, .bool x9, .int .i64 x10, .int .i64 x11, .bool x12, .int .i64 x13, .int .i64 x14, .bool x15, .int .i64 x16, .int .i64 x17, .bool x18, .fs x19.length (x19.flatMap eP)]] [.agg [.int .i64 x0, .str x1, .str x2, .str x3, .fs x4.length (x4.flatMap eP), .fs x5.length (x5.flatMap eP), .bool x6, .int .i64 x7, .int .i64 x8, .bool x9, .int .i64 x10, .int .i64 x11, .bool x12, .int .i64 x13, .int .i64 x14, .bool x15, .int .i64 x16, .int .i64 x17, .bool x18, .fs x19.length (x19.flatMap eP)]] :=
  Ev.fn (fun k => F_laws_toClient k (x0) (x1) (x2) (x3) (x4).length ((x4).flatMap eP) (x5).length ((x5).flatMap eP) (x6) (x7) (x8) (x9) (x10) (x11) (x12) (x13) (x14) (x15) (x16) (x17) (x18) (x19).length ((x19).flatMap eP) ) (Ev.c (laws_toHead_ev x0 x1 x2 x3) (Ev.c (laws_toCommittee_ev x4 h_x4) (Ev.c (laws_toCommittee_ev x5 h_x5) (Ev.c (laws_toKeys_ev x7 x8 x9 x10 x11 x12 x13 x14 x15 x16 x17 x18 x19 h_x19) (Ev.some_ (by simp only [hdV_c, tlV_c, parts1_a, asInt_i, asBool_b, asStr_s, asLen_f, asCells_f, tupL_t, refCells_r, ownLen_o, cut_all eP_len]))))))


theorem laws_eqHead_same (x0 : Int) (x1 : ByteArray) (x2 : ByteArray) (x3 : ByteArray) : Does cp n_laws_eqHead [.agg [.int .i64 x0, .str x1, .str x2, .str x3], .agg [.int .i64 x0, .str x1, .str x2, .str x3]] [.bool true] :=
  Ev.fn (fun k => F_laws_eqHead k (x0) (x1) (x2) (x3) (x0) (x1) (x2) (x3) ) (Ev.f (by rw [eqI_t rfl]; rfl) (Ev.f (by rw [eqS_t rfl]; rfl) (Ev.f (by rw [eqS_t rfl]; rfl) (Ev.f (by rw [eqS_t rfl]; rfl) (Ev.now _)))))


theorem laws_eqPoint_same (x0 : Int) (x1 : Int) (x2 : Bool) : Does cp n_laws_eqPoint [.agg [.int .i64 x0, .int .i64 x1, .bool x2], .agg [.int .i64 x0, .int .i64 x1, .bool x2]] [.bool true] :=
  Ev.fn (fun k => F_laws_eqPoint k (x0) (x1) (x2) (x0) (x1) (x2) ) (Ev.f (by rw [eqI_t rfl]; rfl) (Ev.f (by rw [eqI_t rfl]; rfl) (Ev.f (by rw [eqB_d]; simp [notB]) (Ev.now _))))


theorem laws_eqPointS_l (xs : List Pt) (hl : xs.length ≤ 1048576) (d : Nat) : ∀ i : Nat, i + d = xs.length →
    Ev (fun k m _ _ => L_laws_eqPointS_0 k m xs.length (xs.flatMap eP) xs.length (xs.flatMap eP) (i : Int)) [.bool true] := by
  induction d with
  | zero =>
    intro i hi
    exact Ev.step (fun k m _ _ => L_laws_eqPointS_0_s k m _ _ _ _ _) (Ev.f (ltI_f (by rw [lenI_c]; omega)) (Ev.now _))
  | succ d ih =>
    intro i hi
    have c0 : cellAt (xs.flatMap eP) (mulN (natI (i : Int)) 3) = .int .i64 (xs[i]'(by omega)).1 := cell_enc0 eP_len (by omega) (by decide)
    have c1 : cellAt (xs.flatMap eP) (addN (mulN (natI (i : Int)) 3) 1) = .int .i64 (xs[i]'(by omega)).2.1 := cell_enc eP_len (by omega) 1 (by decide)
    have c2 : cellAt (xs.flatMap eP) (addN (mulN (natI (i : Int)) 3) 2) = .bool (xs[i]'(by omega)).2.2 := cell_enc eP_len (by omega) 2 (by decide)
    refine Ev.step (fun k m _ _ => L_laws_eqPointS_0_s k m _ _ _ _ _) (Ev.t (ltI_t (by rw [lenI_c]; omega)) (Ev.g (inR_n (by omega)) ?_))
    simp only [c0, c1, c2, hdV_c, tlV_c, parts1_a, asInt_i, asBool_b, asStr_s, asLen_f, asCells_f, tupL_t, refCells_r, ownLen_o]
    refine Ev.g rfl (Ev.g (inR_n (by omega)) (Ev.g rfl (Ev.c (laws_eqPoint_same (xs[i]'(by omega)).1 (xs[i]'(by omega)).2.1 (xs[i]'(by omega)).2.2) (Ev.f rfl ?_))))
    simp only [wrS (show i < 9223372036854775807 by omega)]
    exact ih (i + 1) (by omega)
theorem laws_eqPointS_same (xs : List Pt) (hl : xs.length ≤ 1048576) : Does cp n_laws_eqPointS [.fs xs.length (xs.flatMap eP), .fs xs.length (xs.flatMap eP)] [.bool true] :=
  Ev.fn (fun k => F_laws_eqPointS k _ _ _ _) (Ev.f (by rw [eqI_t rfl]; rfl) (laws_eqPointS_l xs hl xs.length 0 (by omega)).l0)


theorem laws_eqCommittee_same (x0 : List Pt) (h_x0 : (x0.length ≤ 1048576)) : Does cp n_laws_eqCommittee [.agg [.fs x0.length (x0.flatMap eP)], .agg [.fs x0.length (x0.flatMap eP)]] [.bool true] :=
  Ev.fn (fun k => F_laws_eqCommittee k (x0).length ((x0).flatMap eP) (x0).length ((x0).flatMap eP) ) (Ev.c (laws_eqPointS_same x0 h_x0) (Ev.f rfl (Ev.now _)))


theorem laws_eqKeys_same (x0 : Int) (x1 : Int) (x2 : Bool) (x3 : Int) (x4 : Int) (x5 : Bool) (x6 : Int) (x7 : Int) (x8 : Bool) (x9 : Int) (x10 : Int) (x11 : Bool) (x12 : List Pt) (h_x12 : (x12.length ≤ 1048576)) : Does cp n_laws_eqKeys [.agg [.int .i64 x0, .int .i64 x1, .bool x2, .int .i64 x3, .int .i64 x4, .bool x5, .int .i64 x6, .int .i64 x7, .bool x8, .int .i64 x9, .int .i64 x10, .bool x11, .fs x12.length (x12.flatMap eP)], .agg [.int .i64 x0, .int .i64 x1, .bool x2, .int .i64 x3, .int .i64 x4, .bool x5, .int .i64 x6, .int .i64 x7, .bool x8, .int .i64 x9, .int .i64 x10, .bool x11, .fs x12.length (x12.flatMap eP)]] [.bool true] :=
  Ev.fn (fun k => F_laws_eqKeys k (x0) (x1) (x2) (x3) (x4) (x5) (x6) (x7) (x8) (x9) (x10) (x11) (x12).length ((x12).flatMap eP) (x0) (x1) (x2) (x3) (x4) (x5) (x6) (x7) (x8) (x9) (x10) (x11) (x12).length ((x12).flatMap eP) ) (Ev.c (laws_eqPoint_same x0 x1 x2) (Ev.f rfl (Ev.c (laws_eqPoint_same x3 x4 x5) (Ev.f rfl (Ev.c (laws_eqPoint_same x6 x7 x8) (Ev.f rfl (Ev.c (laws_eqPoint_same x9 x10 x11) (Ev.f rfl (Ev.c (laws_eqPointS_same x12 h_x12) (Ev.f rfl (Ev.now _)))))))))))


theorem laws_eqClient_same (x0 : Int) (x1 : ByteArray) (x2 : ByteArray) (x3 : ByteArray) (x4 : List Pt) (x5 : List Pt) (x6 : Bool) (x7 : Int) (x8 : Int) (x9 : Bool) (x10 : Int) (x11 : Int) (x12 : Bool) (x13 : Int) (x14 : Int) (x15 : Bool) (x16 : Int) (x17 : Int) (x18 : Bool) (x19 : List Pt) (h_x4 : (x4.length ≤ 1048576)) (h_x5 : (x5.length ≤ 1048576)) (h_x19 : (x19.length ≤ 1048576)) : Does cp n_laws_eqClient [.agg [.int .i64 x0, .str x1, .str x2, .str x3, .fs x4.length (x4.flatMap eP), .fs x5.length (x5.flatMap eP), .bool x6, .int .i64 x7, .int .i64 x8, .bool x9, .int .i64 x10, .int .i64 x11, .bool x12, .int .i64 x13, .int .i64 x14, .bool x15, .int .i64 x16, .int .i64 x17, .bool x18, .fs x19.length (x19.flatMap eP)], .agg [.int .i64 x0, .str x1, .str x2, .str x3, .fs x4.length (x4.flatMap eP), .fs x5.length (x5.flatMap eP), .bool x6, .int .i64 x7, .int .i64 x8, .bool x9, .int .i64 x10, .int .i64 x11, .bool x12, .int .i64 x13, .int .i64 x14, .bool x15, .int .i64 x16, .int .i64 x17, .bool x18, .fs x19.length (x19.flatMap eP)]] [.bool true] :=
  Ev.fn (fun k => F_laws_eqClient k (x0) (x1) (x2) (x3) (x4).length ((x4).flatMap eP) (x5).length ((x5).flatMap eP) (x6) (x7) (x8) (x9) (x10) (x11) (x12) (x13) (x14) (x15) (x16) (x17) (x18) (x19).length ((x19).flatMap eP) (x0) (x1) (x2) (x3) (x4).length ((x4).flatMap eP) (x5).length ((x5).flatMap eP) (x6) (x7) (x8) (x9) (x10) (x11) (x12) (x13) (x14) (x15) (x16) (x17) (x18) (x19).length ((x19).flatMap eP) ) (Ev.c (laws_eqHead_same x0 x1 x2 x3) (Ev.f rfl (Ev.c (laws_eqCommittee_same x4 h_x4) (Ev.f rfl (Ev.c (laws_eqCommittee_same x5 h_x5) (Ev.f rfl (Ev.f (by rw [eqB_d]; simp [notB]) (Ev.c (laws_eqKeys_same x7 x8 x9 x10 x11 x12 x13 x14 x15 x16 x17 x18 x19 h_x19) (Ev.f rfl (Ev.now _))))))))))


theorem laws_markKeys_ev (x7 x8 : Int) (x9 : Bool) (x10 x11 : Int) (x12 : Bool) (x13 x14 : Int) (x15 : Bool) (x16 x17 : Int) (x18 : Bool) (xs : List Pt) (hl : xs.length ≤ 1048576) (k0 : Int) (h0 : 0 ≤ k0) (h1 : k0 ≤ 1099511627776) :
    Does cp n_laws_markKeys [.tup [.ref true 28 (xs.flatMap eP)], .agg [.int .i64 x7, .int .i64 x8, .bool x9, .int .i64 x10, .int .i64 x11, .bool x12, .int .i64 x13, .int .i64 x14, .bool x15, .int .i64 x16, .int .i64 x17, .bool x18, .own 0 0 xs.length], .int .i64 k0] [.tup [.ref true 28 ((mkL xs.length k0).flatMap eP)], .int .i64 (k0 + 3 * (xs.length : Int))] :=
  Ev.fn (fun k => F_laws_markKeys_a k _ _ _ _ _ _ _ _ _ _ _ _ _ _ _) (Ev.c (laws_markPointS_ev xs hl k0 h0 h1) (Ev.g rfl (Ev.now _)))
theorem laws_markClient_ev (x0 : Int) (x1 x2 x3 : ByteArray) (x4 x5 : List Pt) (x6 : Bool) (x7 x8 : Int) (x9 : Bool) (x10 x11 : Int) (x12 : Bool) (x13 x14 : Int) (x15 : Bool) (x16 x17 : Int) (x18 : Bool) (x19 : List Pt) (h4 : x4.length ≤ 1048576) (h5 : x5.length ≤ 1048576) (h19 : x19.length ≤ 1048576) :
    ∃ a b c : List AV, ∃ n : Int, 0 ≤ n ∧ Does cp n_laws_markClient [.tup [.ref true 28 (x4.flatMap eP), .ref true 28 (x5.flatMap eP), .ref true 28 (x19.flatMap eP)], .agg [.int .i64 x0, .str x1, .str x2, .str x3, .own 0 0 x4.length, .own 1 0 x5.length, .bool x6, .int .i64 x7, .int .i64 x8, .bool x9, .int .i64 x10, .int .i64 x11, .bool x12, .int .i64 x13, .int .i64 x14, .bool x15, .int .i64 x16, .int .i64 x17, .bool x18, .own 2 0 x19.length], .int .i64 1]
      [.tup [.ref true 28 a, .ref true 28 b, .ref true 28 c], .int .i64 n] := by
  refine ⟨_, _, _, _, ?_, Ev.fn (fun k => F_laws_markClient_a k _ _ _ _ _ _ _ _ _ _ _ _ _ _ _ _ _ _ _ _ _ _ _ _) (Ev.c (laws_markCommittee_ev x4 h4 1 (by omega) (by omega)) (Ev.g rfl (Ev.c (laws_markCommittee_ev x5 h5 _ ?_ ?_) (Ev.g rfl (Ev.c (laws_markKeys_ev x7 x8 x9 x10 x11 x12 x13 x14 x15 x16 x17 x18 x19 h19 _ ?_ ?_) (Ev.g rfl (Ev.now _)))))))⟩
  all_goals (simp only [hdV_c, tlV_c, parts1_a, asInt_i, asBool_b, asStr_s, asLen_f, asCells_f, tupL_t, refCells_r, ownLen_o]; omega)
theorem plain_pts (ys : List Pt) : (ys.flatMap eP).all plain1 = true := by
  rw [List.all_eq_true]
  intro v hv
  obtain ⟨p, _, h⟩ := List.mem_flatMap.1 hv
  simp only [eP, List.mem_cons, List.not_mem_nil, or_false] at h
  rcases h with rfl | rfl | rfl <;> rfl
theorem law_Signers (x0 : Int) (x1 x2 x3 : ByteArray) (x4 x5 : List Pt) (x6 : Bool) (x7 x8 : Int) (x9 : Bool) (x10 x11 : Int) (x12 : Bool) (x13 x14 : Int) (x15 : Bool) (x16 x17 : Int) (x18 : Bool) (x19 : List Pt) (s : Int)
    (z1 : x1.size ≤ 9223372036854775807) (z2 : x2.size ≤ 9223372036854775807) (z3 : x3.size ≤ 9223372036854775807) (z4 : x4.length ≤ 9223372036854775807) (z5 : x5.length ≤ 9223372036854775807) (z19 : x19.length ≤ 9223372036854775807) :
    ∃ k, evF cp k n_laws_FnExactSigners [.agg [.int .i64 x0, .str x1, .str x2, .str x3, .fs x4.length (x4.flatMap eP), .fs x5.length (x5.flatMap eP), .bool x6, .int .i64 x7, .int .i64 x8, .bool x9, .int .i64 x10, .int .i64 x11, .bool x12, .int .i64 x13, .int .i64 x14, .bool x15, .int .i64 x16, .int .i64 x17, .bool x18, .fs x19.length (x19.flatMap eP)], .int .i64 s] = some [.bool true] := by
  apply Ev.rounds
  obtain ⟨r, e, p⟩ := laws_szClient_ev x0 x1 x2 x3 x4 x5 x6 x7 x8 x9 x10 x11 x12 x13 x14 x15 x16 x17 x18 x19 z1 z2 z3 z4 z5 z19 1048576 (by omega) (by omega)
  refine Ev.fn (fun k => F_laws_FnExactSigners k _ _ _ _ _ _ _ _ _ _ _ _ _ _ _ _ _ _ _ _ _ _ _ _) (Ev.c e ?_)
  by_cases h0 : r < 0
  · exact Ev.t (ltI_t h0) (Ev.now _)
  refine Ev.f (ltI_f h0) ?_
  obtain ⟨_, _, _, _, l4, l5, l19⟩ := p (by omega)
  have et := laws_toClient_ev x0 x1 x2 x3 x4 x5 x6 x7 x8 x9 x10 x11 x12 x13 x14 x15 x16 x17 x18 x19 l4 l5 l19
  have es := spec_Signers_ev x0 x1 x2 x3 x4 x5 x6 x7 x8 x9 x10 x11 x12 x13 x14 x15 x16 x17 x18 x19 s l4 l5
  have ei := impl_Signers_ev x0 x1 x2 x3 x4 x5 x6 x7 x8 x9 x10 x11 x12 x13 x14 x15 x16 x17 x18 x19 s l4 l5
  have eq := laws_eqClient_same x0 x1 x2 x3 x4 x5 x6 x7 x8 x9 x10 x11 x12 x13 x14 x15 x16 x17 x18 x19 l4 l5 l19
  obtain ⟨ma, mb, mc, mn, hmn, em⟩ := laws_markClient_ev x0 x1 x2 x3 x4 x5 x6 x7 x8 x9 x10 x11 x12 x13 x14 x15 x16 x17 x18 x19 l4 l5 l19
  have hsl := sgn_len (has := x6) (slot := x0) (signed := s) l4 l5
  generalize sgn x4 x5 x6 x0 s = sg at *
  obtain ⟨ys, ok⟩ := sg
  simp only at hsl es ei
  have ec := laws_eqCommittee_same ys hsl
  have emc := laws_markCommittee_ev ys hsl 1 (by omega) (by omega)
  have eh := laws_heldCommittee_ev ys.length hsl 1 (by omega) (by omega)
  have hpl : plainRes [AV.agg [AV.fs ys.length (ys.flatMap eP)], AV.bool ok] = true := by
    have := plain_pts ys
    simp [plainRes, AV.parts1, plainV, plain1, this]
  have hb : notB (eqB ok ok) = false := by rw [eqB_d]; simp [notB]
  refine Ev.c et ?_
  simp only [hdV_c, tlV_c, parts1_a, asInt_i, asBool_b, asStr_s, asLen_f, asCells_f, tupL_t, refCells_r, ownLen_o, cut_all eP_len]
  refine Ev.c es (Ev.c et ?_)
  simp only [hdV_c, tlV_c, parts1_a, asInt_i, asBool_b, asStr_s, asLen_f, asCells_f, tupL_t, refCells_r, ownLen_o, cut_all eP_len]
  refine Ev.c ei ?_
  simp only [hdV_c, tlV_c, parts1_a, asInt_i, asBool_b, asStr_s, asLen_f, asCells_f, tupL_t, refCells_r, ownLen_o, cut_all eP_len]
  refine Ev.g hpl (Ev.c ec (Ev.f rfl (Ev.f hb (Ev.c et ?_))))
  simp only [hdV_c, tlV_c, parts1_a, asInt_i, asBool_b, asStr_s, asLen_f, asCells_f, tupL_t, refCells_r, ownLen_o, cut_all eP_len]
  refine Ev.c eq (Ev.f rfl (Ev.c em (Ev.g rfl ?_)))
  simp only [hdV_c, tlV_c, parts1_a, asInt_i, asBool_b, asStr_s, asLen_f, asCells_f, tupL_t, refCells_r, ownLen_o, cut_all eP_len]
  refine Ev.f (ltI_f (by omega)) (Ev.c ec (Ev.f rfl (Ev.f hb (Ev.c emc (Ev.g rfl ?_)))))
  have hcut : cutC ((mkL ys.length 1).flatMap eP) 0 (mulN ys.length 3) = (mkL ys.length 1).flatMap eP := by
    have := cut_all eP_len (mkL ys.length 1)
    rw [mkL_len] at this
    exact this
  simp only [hdV_c, tlV_c, parts1_a, asInt_i, asBool_b, asStr_s, asLen_f, asCells_f, tupL_t, refCells_r, ownLen_o, hcut]
  refine Ev.c eh (Ev.f (ltI_f (by simp only [hdV_c, tlV_c, parts1_a, asInt_i, asBool_b, asStr_s, asLen_f, asCells_f, tupL_t, refCells_r, ownLen_o]; omega)) (Ev.f (by simp only [hdV_c, tlV_c, parts1_a, asInt_i, asBool_b, asStr_s, asLen_f, asCells_f, tupL_t, refCells_r, ownLen_o]; rw [eqI_t rfl]; rfl) (Ev.c et ?_)))
  simp only [hdV_c, tlV_c, parts1_a, asInt_i, asBool_b, asStr_s, asLen_f, asCells_f, tupL_t, refCells_r, ownLen_o, cut_all eP_len]
  refine Ev.c ei ?_
  simp only [hdV_c, tlV_c, parts1_a, asInt_i, asBool_b, asStr_s, asLen_f, asCells_f, tupL_t, refCells_r, ownLen_o, cut_all eP_len]
  refine Ev.g hpl (Ev.c ec (Ev.f rfl (Ev.f hb (Ev.c eh (Ev.f (ltI_f (by simp only [hdV_c, tlV_c, parts1_a, asInt_i, asBool_b, asStr_s, asLen_f, asCells_f, tupL_t, refCells_r, ownLen_o]; omega)) (Ev.f (by simp only [hdV_c, tlV_c, parts1_a, asInt_i, asBool_b, asStr_s, asLen_f, asCells_f, tupL_t, refCells_r, ownLen_o]; rw [eqI_t rfl]; rfl) (Ev.now _)))))))


end Go.Proofs.Ytegchimmolpmeaa.FnExactSigners
