/- FnExactTakeUpdate, the plain part: for every argument the law answers true. No conditions. -/
import Derived.Test.YtiemmlldjjldkaaGreatDoorEVoFnExactTakeUpdate
namespace Go.Proofs.YtiemmlldjjldkaaGreatDoor.FnExactTakeUpdate
open Go Go.Proofs Go.Proofs.YtiemmlldjjldkaaGreatDoor.EV
set_option linter.unusedVariables false
set_option linter.unusedSimpArgs false
set_option maxRecDepth 100000
theorem spec_HeadRoot_ev (s : Int) (p t b : ByteArray) : Does cp n_spec_HeadRoot [.agg [.int .i64 s, .str p, .str t, .str b]] [.str (headRt s p t b)] := by
  refine Ev.fn (fun k => F_spec_HeadRoot k s p t b) (Ev.c (spec_HeadOk_ev s p t b) ?_)
  unfold headRt
  by_cases h : headOk s p t b = true
  · rw [if_pos h]
    refine Ev.f (by show notB (headOk s p t b) = false; rw [h]; rfl) (Ev.c (spec_l01Var_ev s (headOk_to h).1.1 (by have := (headOk_to h).1.2; omega)) (Ev.c (spec_RootOf_ev (xs := [varText s, p, t, b]) pow4 rfl (head4 h)) (Ev.now _)))
  · rw [if_neg h]
    exact Ev.t (by show notB (headOk s p t b) = true; rw [Bool.not_eq_true] at h; rw [h]; rfl) (Ev.now _)
theorem impl_HeadRoot_ev (s : Int) (p t b : ByteArray) : Does cp n_impl_HeadRoot [.agg [.int .i64 s, .str p, .str t, .str b]] [.str (headRt s p t b)] := by
  refine Ev.fn (fun k => F_impl_HeadRoot k s p t b) (Ev.c (impl_HeadOk_ev s p t b) ?_)
  unfold headRt
  by_cases h : headOk s p t b = true
  · rw [if_pos h]
    obtain ⟨n, rfl⟩ := Int.eq_ofNat_of_zero_le (headOk_to h).1.1
    refine Ev.f (by show notB (headOk n p t b) = false; rw [h]; rfl) (Ev.c (impl_varText_ev n (by have := (headOk_to h).1.2; omega)) (Ev.c (impl_RootOf_ev (xs := [varText n, p, t, b]) pow4 rfl (head4 h)) (Ev.now _)))
  · rw [if_neg h]
    exact Ev.t (by show notB (headOk s p t b) = true; rw [Bool.not_eq_true] at h; rw [h]; rfl) (Ev.now _)
theorem two_of {l : List ByteArray} (h : branchOk l = true) : ∃ a b, l = [a, b] ∧ a.size = 32 ∧ b.size = 32 := by
  unfold branchOk at h
  rw [Bool.and_eq_true, decide_eq_true_eq] at h
  match l, h with
  | [a, b], h =>
    have := List.all_eq_true.1 h.1
    exact ⟨a, b, rfl, of_decide_eq_true (this a (by simp)), of_decide_eq_true (this b (by simp))⟩
def fold2 (odd : Bool) (x a b : ByteArray) : ByteArray := dig (b ++ cond odd (dig (a ++ dig x)) (dig (dig x ++ a)))
theorem c2a (a b : ByteArray) : cellAt ([a, b].flatMap eS) (mulN (natI 0) 1) = .str a := rfl
theorem c2b (a b : ByteArray) : cellAt ([a, b].flatMap eS) (mulN (natI (wr .i64 (addI 0 1))) 1) = .str b := rfl
theorem spec_Fold3_ev {x a b : ByteArray} (hx : x.size ≤ 1099511627776) (ha : a.size = 32) (hb : b.size = 32) : Does cp n_spec_FoldBranch [.str x, .int .i64 3, .fs [a, b].length ([a, b].flatMap eS)] [.str (fold2 true x a b)] := by
  refine Ev.fn (fun k => F_spec_FoldBranch k _ _ _ _) (Ev.f (show ltI 5 (lenI 2) = false by decide) (Ev.g (show leI 0 (wr .u64 (lenI 2)) = true by decide) (Ev.c (spec_l01In_ev _ _ _) ?_)))
  simp only [hdV_c, tlV_c, parts1_a, asInt_i, asBool_b, asStr_s, asLen_f, asCells_f, tupL_t, refCells_r, ownLen_o]
  refine Ev.f (show notB (decide (0 ≤ (3 : Int) ∧ 3 ≤ wr .i64 (subI (wr .i64 (shlI .i64 1 (wr .u64 (lenI 2)))) 1))) = false by decide) (Ev.c (spec_Digest_ev hx) ?_)
  simp only [hdV_c, tlV_c, parts1_a, asInt_i, asBool_b, asStr_s, asLen_f, asCells_f, tupL_t, refCells_r, ownLen_o]
  refine Ev.l0 (L := fun k m => L_spec_FoldBranch_0 k m [a, b].length ([a, b].flatMap eS) 3 0 (dig x)) ?_
  refine Ev.step (fun k m _ _ => L_spec_FoldBranch_0_s k m _ _ _ _ _) (Ev.t (show ltI 0 (lenI 2) = true by decide) (Ev.g (by decide) (Ev.t (by decide) (Ev.g (show inR 0 2 = true by decide) ?_))))
  rw [c2a]
  refine Ev.g rfl (Ev.c (spec_DigestPair_ev (a := a) (b := dig x) ha (dig_len _)) ?_)
  simp only [hdV_c, tlV_c, parts1_a, asInt_i, asBool_b, asStr_s, asLen_f, asCells_f, tupL_t, refCells_r, ownLen_o]
  refine Ev.step (fun k m _ _ => L_spec_FoldBranch_0_s k m _ _ _ _ _) (Ev.t (show ltI (wr .i64 (addI 0 1)) (lenI 2) = true by decide) (Ev.g (by decide) (Ev.t (by decide) (Ev.g (show inR (wr .i64 (addI 0 1)) 2 = true by decide) ?_))))
  rw [c2b]
  refine Ev.g rfl (Ev.c (spec_DigestPair_ev (a := b) (b := dig (a ++ dig x)) hb (dig_len _)) ?_)
  simp only [hdV_c, tlV_c, parts1_a, asInt_i, asBool_b, asStr_s, asLen_f, asCells_f, tupL_t, refCells_r, ownLen_o]
  exact Ev.step (fun k m _ _ => L_spec_FoldBranch_0_s k m _ _ _ _ _) (Ev.f (show ltI (wr .i64 (addI (wr .i64 (addI 0 1)) 1)) (lenI 2) = false by decide) (Ev.now _))
theorem spec_Fold2_ev {x a b : ByteArray} (hx : x.size ≤ 1099511627776) (ha : a.size = 32) (hb : b.size = 32) : Does cp n_spec_FoldBranch [.str x, .int .i64 2, .fs [a, b].length ([a, b].flatMap eS)] [.str (fold2 false x a b)] := by
  refine Ev.fn (fun k => F_spec_FoldBranch k _ _ _ _) (Ev.f (show ltI 5 (lenI 2) = false by decide) (Ev.g (show leI 0 (wr .u64 (lenI 2)) = true by decide) (Ev.c (spec_l01In_ev _ _ _) ?_)))
  simp only [hdV_c, tlV_c, parts1_a, asInt_i, asBool_b, asStr_s, asLen_f, asCells_f, tupL_t, refCells_r, ownLen_o]
  refine Ev.f (show notB (decide (0 ≤ (2 : Int) ∧ 2 ≤ wr .i64 (subI (wr .i64 (shlI .i64 1 (wr .u64 (lenI 2)))) 1))) = false by decide) (Ev.c (spec_Digest_ev hx) ?_)
  simp only [hdV_c, tlV_c, parts1_a, asInt_i, asBool_b, asStr_s, asLen_f, asCells_f, tupL_t, refCells_r, ownLen_o]
  refine Ev.l0 (L := fun k m => L_spec_FoldBranch_0 k m [a, b].length ([a, b].flatMap eS) 2 0 (dig x)) ?_
  refine Ev.step (fun k m _ _ => L_spec_FoldBranch_0_s k m _ _ _ _ _) (Ev.t (show ltI 0 (lenI 2) = true by decide) (Ev.g (by decide) (Ev.f (by decide) (Ev.g (show inR 0 2 = true by decide) ?_))))
  rw [c2a]
  refine Ev.g rfl (Ev.c (spec_DigestPair_ev (a := dig x) (b := a) (dig_len _) ha) ?_)
  simp only [hdV_c, tlV_c, parts1_a, asInt_i, asBool_b, asStr_s, asLen_f, asCells_f, tupL_t, refCells_r, ownLen_o]
  refine Ev.step (fun k m _ _ => L_spec_FoldBranch_0_s k m _ _ _ _ _) (Ev.t (show ltI (wr .i64 (addI 0 1)) (lenI 2) = true by decide) (Ev.g (by decide) (Ev.t (by decide) (Ev.g (show inR (wr .i64 (addI 0 1)) 2 = true by decide) ?_))))
  rw [c2b]
  refine Ev.g rfl (Ev.c (spec_DigestPair_ev (a := b) (b := dig (dig x ++ a)) hb (dig_len _)) ?_)
  simp only [hdV_c, tlV_c, parts1_a, asInt_i, asBool_b, asStr_s, asLen_f, asCells_f, tupL_t, refCells_r, ownLen_o]
  exact Ev.step (fun k m _ _ => L_spec_FoldBranch_0_s k m _ _ _ _ _) (Ev.f (show ltI (wr .i64 (addI (wr .i64 (addI 0 1)) 1)) (lenI 2) = false by decide) (Ev.now _))
theorem impl_Fold3_ev {x a b : ByteArray} (hx : x.size ≤ 1099511627776) (ha : a.size = 32) (hb : b.size = 32) : Does cp n_impl_FoldBranch [.str x, .int .i64 3, .fs [a, b].length ([a, b].flatMap eS)] [.str (fold2 true x a b)] := by
  refine Ev.fn (fun k => F_impl_FoldBranch k _ _ _ _) (Ev.f (show ltI 5 (lenI 2) = false by decide) (Ev.f (by decide) (Ev.g (show leI 0 (wr .u64 (lenI 2)) = true by decide) (Ev.f (show leI (wr .i64 (shlI .i64 1 (wr .u64 (lenI 2)))) 3 = false by decide) (Ev.c (impl_Digest_ev hx) ?_)))))
  simp only [hdV_c, tlV_c, parts1_a, asInt_i, asBool_b, asStr_s, asLen_f, asCells_f, tupL_t, refCells_r, ownLen_o]
  refine Ev.l0 (L := fun k m => L_impl_FoldBranch_0 k m 3 [a, b].length ([a, b].flatMap eS) (lenI [a, b].length) 0 (dig x)) ?_
  refine Ev.step (fun k m _ _ => L_impl_FoldBranch_0_s k m _ _ _ _ _ _) (Ev.t (show ltI 0 (lenI 2) = true by decide) (Ev.g (show inR 0 2 = true by decide) ?_))
  rw [c2a]
  refine Ev.g rfl (Ev.g (by decide) (Ev.t (by decide) (Ev.c (impl_DigestPair_ev (a := a) (b := dig x) ha (dig_len _)) ?_)))
  simp only [hdV_c, tlV_c, parts1_a, asInt_i, asBool_b, asStr_s, asLen_f, asCells_f, tupL_t, refCells_r, ownLen_o]
  refine Ev.step (fun k m _ _ => L_impl_FoldBranch_0_s k m _ _ _ _ _ _) (Ev.t (show ltI (wr .i64 (addI 0 1)) (lenI 2) = true by decide) (Ev.g (show inR (wr .i64 (addI 0 1)) 2 = true by decide) ?_))
  rw [c2b]
  refine Ev.g rfl (Ev.g (by decide) (Ev.t (by decide) (Ev.c (impl_DigestPair_ev (a := b) (b := dig (a ++ dig x)) hb (dig_len _)) ?_)))
  simp only [hdV_c, tlV_c, parts1_a, asInt_i, asBool_b, asStr_s, asLen_f, asCells_f, tupL_t, refCells_r, ownLen_o]
  exact Ev.step (fun k m _ _ => L_impl_FoldBranch_0_s k m _ _ _ _ _ _) (Ev.f (show ltI (wr .i64 (addI (wr .i64 (addI 0 1)) 1)) (lenI 2) = false by decide) (Ev.now _))
theorem impl_Fold2_ev {x a b : ByteArray} (hx : x.size ≤ 1099511627776) (ha : a.size = 32) (hb : b.size = 32) : Does cp n_impl_FoldBranch [.str x, .int .i64 2, .fs [a, b].length ([a, b].flatMap eS)] [.str (fold2 false x a b)] := by
  refine Ev.fn (fun k => F_impl_FoldBranch k _ _ _ _) (Ev.f (show ltI 5 (lenI 2) = false by decide) (Ev.f (by decide) (Ev.g (show leI 0 (wr .u64 (lenI 2)) = true by decide) (Ev.f (show leI (wr .i64 (shlI .i64 1 (wr .u64 (lenI 2)))) 2 = false by decide) (Ev.c (impl_Digest_ev hx) ?_)))))
  simp only [hdV_c, tlV_c, parts1_a, asInt_i, asBool_b, asStr_s, asLen_f, asCells_f, tupL_t, refCells_r, ownLen_o]
  refine Ev.l0 (L := fun k m => L_impl_FoldBranch_0 k m 2 [a, b].length ([a, b].flatMap eS) (lenI [a, b].length) 0 (dig x)) ?_
  refine Ev.step (fun k m _ _ => L_impl_FoldBranch_0_s k m _ _ _ _ _ _) (Ev.t (show ltI 0 (lenI 2) = true by decide) (Ev.g (show inR 0 2 = true by decide) ?_))
  rw [c2a]
  refine Ev.g rfl (Ev.g (by decide) (Ev.f (by decide) (Ev.c (impl_DigestPair_ev (a := dig x) (b := a) (dig_len _) ha) ?_)))
  simp only [hdV_c, tlV_c, parts1_a, asInt_i, asBool_b, asStr_s, asLen_f, asCells_f, tupL_t, refCells_r, ownLen_o]
  refine Ev.step (fun k m _ _ => L_impl_FoldBranch_0_s k m _ _ _ _ _ _) (Ev.t (show ltI (wr .i64 (addI 0 1)) (lenI 2) = true by decide) (Ev.g (show inR (wr .i64 (addI 0 1)) 2 = true by decide) ?_))
  rw [c2b]
  refine Ev.g rfl (Ev.g (by decide) (Ev.t (by decide) (Ev.c (impl_DigestPair_ev (a := b) (b := dig (dig x ++ a)) hb (dig_len _)) ?_)))
  simp only [hdV_c, tlV_c, parts1_a, asInt_i, asBool_b, asStr_s, asLen_f, asCells_f, tupL_t, refCells_r, ownLen_o]
  exact Ev.step (fun k m _ _ => L_impl_FoldBranch_0_s k m _ _ _ _ _ _) (Ev.f (show ltI (wr .i64 (addI (wr .i64 (addI 0 1)) 1)) (lenI 2) = false by decide) (Ev.now _))
def bitAt (x : Int) (i : Nat) : Int := remI (shrI .i64 x (wr .u64 (i : Int))) 2
def cbits (x : Int) : Nat → Nat → Int → Int
  | 0, _, s => s
  | d + 1, i, s => cbits x d (i + 1) (wr .i64 (addI s (bitAt x i)))
theorem cbits_l (x : Int) (d : Nat) : ∀ (i : Nat) (s : Int), i + d = 8 → Ev (fun k m _ _ => L_spec_CountBits_0 k m x (i : Int) s) [.int .i64 (cbits x d i s)] := by
  induction d with
  | zero =>
    intro i s hi
    exact Ev.step (fun k m _ _ => L_spec_CountBits_0_s k m _ _ _) (Ev.f (ltI_f (by omega)) (Ev.now _))
  | succ d ih =>
    intro i s hi
    have e1 : wr .i64 (addI (i : Int) 1) = ((i + 1 : Nat) : Int) := wrS (by omega)
    refine Ev.step (fun k m _ _ => L_spec_CountBits_0_s k m _ _ _) (Ev.t (ltI_t (by omega)) (Ev.g (leI_t (by unfold wr; rw [IntKind.wrap_u64]; omega)) ?_))
    rw [e1]
    exact ih (i + 1) _ (by omega)
def bitsN (x : Int) : Int := if 0 ≤ x ∧ x ≤ 255 then cbits x 8 0 0 else 0
theorem spec_CountBits_ev (x : Int) : Does cp n_spec_CountBits [.int .i64 x] [.int .i64 (bitsN x)] := by
  refine Ev.fn (fun k => F_spec_CountBits k x) (Ev.c (spec_l01In_ev _ _ _) ?_)
  unfold bitsN
  by_cases h : 0 ≤ x ∧ x ≤ 255
  · rw [if_pos h]
    exact Ev.f (by show notB (decide (0 ≤ x ∧ x ≤ 255)) = false; rw [decide_eq_true h]; rfl) (cbits_l x 8 0 0 rfl).l0
  · rw [if_neg h]
    exact Ev.t (by show notB (decide (0 ≤ x ∧ x ≤ 255)) = true; rw [decide_eq_false h]; rfl) (Ev.now _)
theorem ones64 : ∃ f : Int → Int, (∀ k x, evF cp (k + 1) n_math_bits_OnesCount64 [.int .u64 x] = some [.int .i64 (f x)]) ∧ ∀ n : Fin 256, f (wr .u64 (n.val : Int)) = cbits (n.val : Int) 8 0 0 :=
  ⟨_, fun k x => F_math_bits_OnesCount64 k x, by decide +kernel⟩
theorem impl_CountBits_ev (x : Int) : Does cp n_impl_CountBits [.int .i64 x] [.int .i64 (bitsN x)] := by
  obtain ⟨f, hf, h8⟩ := ones64
  refine Ev.fn (fun k => F_impl_CountBits k x) (Ev.c (impl_isBits_ev x) ?_)
  unfold bitsN
  by_cases h : 0 ≤ x ∧ x ≤ 255
  · rw [if_pos h]
    obtain ⟨n, rfl⟩ := Int.eq_ofNat_of_zero_le h.1
    have := h8 ⟨n, by omega⟩
    refine Ev.f (by show notB (decide (0 ≤ (n : Int) ∧ (n : Int) ≤ 255)) = false; rw [decide_eq_true h]; rfl) (Ev.c (s := [.int .i64 (f (wr .u64 (n : Int)))]) (Ev.fn (fun k => F_math_bits_OnesCount k _) (Ev.c (s := [.int .i64 (f (wr .u64 (n : Int)))]) (Ev.fn (fun k => hf k _) (Ev.now _)) (Ev.now _))) (Ev.some_ ?_))
    simp only [hdV_c, tlV_c, parts1_a, asInt_i, asBool_b, asStr_s, asLen_f, asCells_f, tupL_t, refCells_r, ownLen_o]
    exact congrArg (fun z => [AV.int .i64 z]) this
  · rw [if_neg h]
    exact Ev.t (by show notB (decide (0 ≤ x ∧ x ≤ 255)) = true; rw [decide_eq_false h]; rfl) (Ev.now _)
theorem spec_PublicOf_ev (x : Int) : Does cp n_spec_PublicOf [.int .i64 x] [.fs [x, bitsN x].length ([x, bitsN x].flatMap eI)] :=
  Ev.fn (fun k => F_spec_PublicOf k x) (Ev.c (spec_CountBits_ev x) (Ev.now _))
theorem impl_PublicOf_ev (x : Int) : Does cp n_impl_PublicOf [.int .i64 x] [.fs [x, bitsN x].length ([x, bitsN x].flatMap eI)] :=
  Ev.fn (fun k => F_impl_PublicOf k x) (Ev.c (impl_CountBits_ev x) (Ev.now _))
def jnd (x : Int) : Nat → List Pt → List Pt
  | _, [] => []
  | i, p :: r => if bitAt x i = 1 then p :: jnd x (i + 1) r else jnd x (i + 1) r
theorem jnd_len (x : Int) : ∀ (ks : List Pt) (i : Nat), (jnd x i ks).length ≤ ks.length
  | [], _ => Nat.le_refl _
  | p :: r, i => by
    have := jnd_len x r (i + 1)
    unfold jnd
    split
    · simp only [List.length_cons]; omega
    · simp only [List.length_cons]; omega
theorem catPt (xs : List Pt) (p : Pt) : catC (cutC (xs.flatMap eP) 0 (mulN xs.length 3)) (cutC [.int .i64 p.1, .int .i64 p.2.1, .bool p.2.2] 0 3) = (xs ++ [p]).flatMap eP := by
  rw [cut_all eP_len, List.flatMap_append]; rfl
theorem bit_and : ∀ (n : Fin 256) (i : Fin 8), eqI (bitsOp .and .i64 (shrI .i64 (n.val : Int) (wr .u64 (i.val : Int))) 1) 1 = decide (bitAt (n.val : Int) i.val = 1) := by decide +kernel
theorem spec_joined_l (x : Int) (ks : List Pt) (h8 : ks.length = 8) (d : Nat) : ∀ (i : Nat) (acc : List Pt), i + d = 8 → acc.length ≤ i →
    Ev (fun k m _ _ => L_spec_Joined_0 k m x (i : Int) acc.length ks.length (ks.flatMap eP) (acc.flatMap eP)) [.fs (acc ++ jnd x i (ks.drop i)).length ((acc ++ jnd x i (ks.drop i)).flatMap eP)] := by
  induction d with
  | zero =>
    intro i acc hi ha
    rw [List.drop_eq_nil_of_le (by omega), show jnd x i [] = [] by rw [jnd], List.append_nil]
    exact Ev.step (fun k m _ _ => L_spec_Joined_0_s k m _ _ _ _ _ _) (Ev.f (ltI_f (by omega)) (Ev.some_ (by rw [cut_all eP_len])))
  | succ d ih =>
    intro i acc hi ha
    have e1 : wr .i64 (addI (i : Int) 1) = ((i + 1 : Nat) : Int) := wrS (by omega)
    have p0 : cellAt (ks.flatMap eP) (mulN (natI (i : Int)) 3) = .int .i64 (ks[i]'(by omega)).1 := cell_enc0 eP_len (by omega) (by decide)
    have p1 : cellAt (ks.flatMap eP) (addN (mulN (natI (i : Int)) 3) 1) = .int .i64 (ks[i]'(by omega)).2.1 := cell_enc eP_len (by omega) 1 (by decide)
    have p2 : cellAt (ks.flatMap eP) (addN (mulN (natI (i : Int)) 3) 2) = .bool (ks[i]'(by omega)).2.2 := cell_enc eP_len (by omega) 2 (by decide)
    refine Ev.step (fun k m _ _ => L_spec_Joined_0_s k m _ _ _ _ _ _) (Ev.t (ltI_t (by omega)) (Ev.g (leI_t (by unfold wr; rw [IntKind.wrap_u64]; omega)) ?_))
    rw [drop_cons ks i (by omega), jnd]
    by_cases hb : bitAt x i = 1
    · rw [if_pos hb]
      refine Ev.t (decide_eq_true hb) (Ev.g (inR_n (by omega)) ?_)
      simp only [e1, p0, p1, p2, hdV_c, tlV_c, parts1_a, asInt_i, asBool_b, asStr_s, asLen_f, asCells_f, tupL_t, refCells_r, ownLen_o, catPt]
      refine Ev.g rfl (Ev.g (fitN_small (by rw [addN_d]; omega) (by decide)) ?_)
      have := ih (i + 1) (acc ++ [ks[i]'(by omega)]) (by omega) (by rw [List.length_append, List.length_cons, List.length_nil]; omega)
      rw [List.length_append, List.append_assoc] at this
      exact this
    · rw [if_neg hb]
      refine Ev.f (decide_eq_false hb) ?_
      rw [e1]
      exact ih (i + 1) acc (by omega) (by omega)
theorem impl_joined_l (x : Int) (hx : 0 ≤ x ∧ x ≤ 255) (ks : List Pt) (h8 : ks.length = 8) (d : Nat) : ∀ (i : Nat) (acc : List Pt), i + d = 8 → acc.length ≤ i →
    Ev (fun k m _ _ => L_impl_Joined_0 k m x ks.length (ks.flatMap eP) (lenI ks.length) (i : Int) acc.length (acc.flatMap eP)) [.fs (acc ++ jnd x i (ks.drop i)).length ((acc ++ jnd x i (ks.drop i)).flatMap eP)] := by
  induction d with
  | zero =>
    intro i acc hi ha
    rw [List.drop_eq_nil_of_le (by omega), show jnd x i [] = [] by rw [jnd], List.append_nil]
    exact Ev.step (fun k m _ _ => L_impl_Joined_0_s k m _ _ _ _ _ _ _) (Ev.f (ltI_f (by rw [lenI_c]; omega)) (Ev.some_ (by rw [cut_all eP_len])))
  | succ d ih =>
    intro i acc hi ha
    have e1 : wr .i64 (addI (i : Int) 1) = ((i + 1 : Nat) : Int) := wrS (by omega)
    have p0 : cellAt (ks.flatMap eP) (mulN (natI (i : Int)) 3) = .int .i64 (ks[i]'(by omega)).1 := cell_enc0 eP_len (by omega) (by decide)
    have p1 : cellAt (ks.flatMap eP) (addN (mulN (natI (i : Int)) 3) 1) = .int .i64 (ks[i]'(by omega)).2.1 := cell_enc eP_len (by omega) 1 (by decide)
    have p2 : cellAt (ks.flatMap eP) (addN (mulN (natI (i : Int)) 3) 2) = .bool (ks[i]'(by omega)).2.2 := cell_enc eP_len (by omega) 2 (by decide)
    have hbit := bit_and ⟨x.toNat, by omega⟩ ⟨i, by omega⟩
    simp only [Int.toNat_of_nonneg hx.1] at hbit
    refine Ev.step (fun k m _ _ => L_impl_Joined_0_s k m _ _ _ _ _ _ _) (Ev.t (ltI_t (by rw [lenI_c]; omega)) (Ev.g (inR_n (by omega)) ?_))
    simp only [e1, p0, p1, p2, hdV_c, tlV_c, parts1_a, asInt_i, asBool_b, asStr_s, asLen_f, asCells_f, tupL_t, refCells_r, ownLen_o, catPt]
    refine Ev.g rfl (Ev.g (leI_t (by unfold wr; rw [IntKind.wrap_u64]; omega)) ?_)
    rw [drop_cons ks i (by omega), jnd]
    by_cases hb : bitAt x i = 1
    · rw [if_pos hb]
      refine Ev.t (by rw [hbit]; exact decide_eq_true hb) (Ev.g (fitN_small (by rw [addN_d]; omega) (by decide)) ?_)
      have := ih (i + 1) (acc ++ [ks[i]'(by omega)]) (by omega) (by rw [List.length_append, List.length_cons, List.length_nil]; omega)
      rw [List.length_append, List.append_assoc] at this
      exact this
    · rw [if_neg hb]
      exact Ev.f (by rw [hbit]; exact decide_eq_false hb) (ih (i + 1) acc (by omega) (by omega))
def joinP (ks : List Pt) (x : Int) : List Pt := if comOk ks = true ∧ (0 ≤ x ∧ x ≤ 255) then jnd x 0 ks else []
theorem joinP_len (ks : List Pt) (x : Int) : (joinP ks x).length ≤ 8 := by
  unfold joinP
  split
  · rename_i h
    have := jnd_len x ks 0
    rw [cl8 h.1] at this
    exact this
  · exact Nat.zero_le _
theorem spec_Joined_ev (ks : List Pt) (hl : ks.length ≤ 1048576) (x : Int) : Does cp n_spec_Joined [.agg [.fs ks.length (ks.flatMap eP)], .int .i64 x] [.fs (joinP ks x).length ((joinP ks x).flatMap eP)] := by
  refine Ev.fn (fun k => F_spec_Joined k _ _ _) (Ev.c (spec_CommitteeOk_ev ks hl) ?_)
  unfold joinP
  by_cases hc : comOk ks = true
  · refine Ev.f (by show notB (comOk ks) = false; rw [hc]; rfl) (Ev.c (spec_l01In_ev _ _ _) ?_)
    by_cases h : 0 ≤ x ∧ x ≤ 255
    · rw [if_pos ⟨hc, h⟩]
      exact Ev.f (by show notB (decide (0 ≤ x ∧ x ≤ 255)) = false; rw [decide_eq_true h]; rfl) (spec_joined_l x ks (cl8 hc) 8 0 [] rfl (Nat.le_refl _)).l0
    · rw [if_neg (fun q => h q.2)]
      exact Ev.t (by show notB (decide (0 ≤ x ∧ x ≤ 255)) = true; rw [decide_eq_false h]; rfl) (Ev.now _)
  · rw [if_neg (fun q => hc q.1)]
    exact Ev.t (by show notB (comOk ks) = true; rw [Bool.not_eq_true] at hc; rw [hc]; rfl) (Ev.now _)
theorem impl_Joined_ev (ks : List Pt) (hl : ks.length ≤ 1048576) (x : Int) : Does cp n_impl_Joined [.agg [.fs ks.length (ks.flatMap eP)], .int .i64 x] [.fs (joinP ks x).length ((joinP ks x).flatMap eP)] := by
  refine Ev.fn (fun k => F_impl_Joined k _ _ _) (Ev.c (impl_isBits_ev x) ?_)
  unfold joinP
  by_cases h : 0 ≤ x ∧ x ≤ 255
  · refine Ev.f (by show notB (decide (0 ≤ x ∧ x ≤ 255)) = false; rw [decide_eq_true h]; rfl) (Ev.c (impl_CommitteeOk_ev ks hl) ?_)
    by_cases hc : comOk ks = true
    · rw [if_pos ⟨hc, h⟩]
      exact Ev.f (by show notB (comOk ks) = false; rw [hc]; rfl) (impl_joined_l x h ks (cl8 hc) 8 0 [] rfl (Nat.le_refl _)).l0
    · rw [if_neg (fun q => hc q.1)]
      exact Ev.t (by show notB (comOk ks) = true; rw [Bool.not_eq_true] at hc; rw [hc]; rfl) (Ev.now _)
  · rw [if_neg (fun q => h q.2)]
    exact Ev.t (by show notB (decide (0 ≤ x ∧ x ≤ 255)) = true; rw [decide_eq_false h]; rfl) (Ev.now _)


def rpRoot (a : Int) : Int × Bool := if fpow a 3027 * fpow a 3027 % 12107 = a % 12107 then (min (fpow a 3027) ((0 - fpow a 3027) % 12107), true) else (0, false)
theorem min_c (x y : Int) : minI x y = min x y := by unfold minI; split <;> omega
theorem fp_in (a : Int) : 0 ≤ fpow a 3027 ∧ fpow a 3027 < 12107 := fpow_range a 3027
theorem impl_FpRoot_ev (a : Int) : Does cp n_impl_FpRoot [.int .i64 a] [.int .i64 (rpRoot a).1, .bool (rpRoot a).2] := by
  refine Ev.fn (fun k => F_impl_FpRoot k _) (Ev.c (impl_powerMod_ev a 3027 (by omega)) (Ev.c (impl_FpMul_ev _ _) (Ev.c (impl_FpOf_ev _) ?_)))
  have hr := fp_in a
  unfold rpRoot
  by_cases h : fpow a 3027 * fpow a 3027 % 12107 = a % 12107
  · rw [if_pos h]
    refine Ev.f (by simp only [hdV_c, tlV_c, parts1_a, asInt_i, asBool_b, asStr_s, asLen_f, asCells_f, tupL_t, refCells_r, ownLen_o]; rw [eqI_t h]; rfl) (Ev.c (impl_FpOf_ev _) (Ev.some_ ?_))
    simp only [hdV_c, tlV_c, parts1_a, asInt_i, asBool_b, asStr_s, asLen_f, asCells_f, tupL_t, refCells_r, ownLen_o, subI_d]
    rw [wr64 (by omega), min_c]
  · rw [if_neg h]
    exact Ev.t (by simp only [hdV_c, tlV_c, parts1_a, asInt_i, asBool_b, asStr_s, asLen_f, asCells_f, tupL_t, refCells_r, ownLen_o]; rw [eqI_f h]; rfl) (Ev.now _)
theorem spec_FpRoot_ev (a : Int) : Does cp n_spec_FpRoot [.int .i64 a] [.int .i64 (rpRoot a).1, .bool (rpRoot a).2] := by
  refine Ev.fn (fun k => F_spec_FpRoot k _) (Ev.c (spec_FpPow_ev a 3027 (by omega)) (Ev.c (spec_FpMul_ev _ _) (Ev.c (spec_FpOf_ev _) ?_)))
  have hr := fp_in a
  unfold rpRoot
  by_cases h : fpow a 3027 * fpow a 3027 % 12107 = a % 12107
  · rw [if_pos h]
    refine Ev.f (by simp only [hdV_c, tlV_c, parts1_a, asInt_i, asBool_b, asStr_s, asLen_f, asCells_f, tupL_t, refCells_r, ownLen_o]; rw [eqI_t h]; rfl) (Ev.c (spec_FpSub_ev _ _) ?_)
    by_cases h2 : (0 - fpow a 3027) % 12107 < fpow a 3027
    · refine Ev.t (ltI_t h2) (Ev.c (spec_FpSub_ev _ _) (Ev.some_ ?_))
      simp only [hdV_c, tlV_c, parts1_a, asInt_i, asBool_b, asStr_s, asLen_f, asCells_f, tupL_t, refCells_r, ownLen_o]
      rw [show min (fpow a 3027) ((0 - fpow a 3027) % 12107) = (0 - fpow a 3027) % 12107 by omega]
    · refine Ev.f (ltI_f h2) (Ev.some_ ?_)
      simp only [hdV_c, tlV_c, parts1_a, asInt_i, asBool_b, asStr_s, asLen_f, asCells_f, tupL_t, refCells_r, ownLen_o]
      rw [show min (fpow a 3027) ((0 - fpow a 3027) % 12107) = fpow a 3027 by omega]
  · rw [if_neg h]
    exact Ev.t (by simp only [hdV_c, tlV_c, parts1_a, asInt_i, asBool_b, asStr_s, asLen_f, asCells_f, tupL_t, refCells_r, ownLen_o]; rw [eqI_f h]; rfl) (Ev.now _)
def tLine (p q r : Pt) : Tw :=
  cond p.2.2 (1, 0) (cond q.2.2 (1, 0) (cond r.2.2 (1, 0) (cond (notB (pOk p)) (1, 0) (cond (notB (pOk q)) (1, 0) (cond (notB (pOk r)) (1, 0) (cond (notB (slope p q).2) (1, 0)
    (((0 - p.2.1) % 12107 - (slope p q).1 * (((0 - r.1) % 12107 - p.1) % 12107) % 12107) % 12107, r.2.1)))))))
theorem spec_PairLine_ev (p q r : Pt) : Does cp n_spec_PairLine [.agg (eP p), .agg (eP q), .agg (eP r)] [.agg (eT (tLine p q r))] :=
  Ev.fn (fun k => F_spec_PairLine k p.1 p.2.1 p.2.2 q.1 q.2.1 q.2.2 r.1 r.2.1 r.2.2)
    (Ev.cs (fun x => [.agg (eT x)]) (fun _ => Ev.now _) fun _ => Ev.cs (fun x => [.agg (eT x)]) (fun _ => Ev.now _) fun _ => Ev.cs (fun x => [.agg (eT x)]) (fun _ => Ev.now _) fun _ =>
    Ev.c (spec_PointOk_ev p) (Ev.cs (fun x => [.agg (eT x)]) (fun _ => Ev.now _) fun _ => Ev.c (spec_PointOk_ev q) (Ev.cs (fun x => [.agg (eT x)]) (fun _ => Ev.now _) fun _ =>
    Ev.c (spec_PointOk_ev r) (Ev.cs (fun x => [.agg (eT x)]) (fun _ => Ev.now _) fun _ => Ev.c (spec_l07Slope_ev p q) (Ev.cs (fun x => [.agg (eT x)]) (fun _ => Ev.now _) fun _ =>
    Ev.c (spec_FpSub_ev _ _) (Ev.c (spec_FpSub_ev _ _) (Ev.c (spec_FpSub_ev _ _) (Ev.c (spec_FpMul_ev _ _) (Ev.c (spec_FpSub_ev _ _) (Ev.now _))))))))))
theorem impl_PairLine_ev (p q r : Pt) : Does cp n_impl_PairLine [.agg (eP p), .agg (eP q), .agg (eP r)] [.agg (eT (tLine p q r))] :=
  Ev.fn (fun k => F_impl_PairLine k p.1 p.2.1 p.2.2 q.1 q.2.1 q.2.2 r.1 r.2.1 r.2.2)
    (Ev.cs (fun x => [.agg (eT x)]) (fun _ => Ev.now _) fun h1 => Ev.cs (fun x => [.agg (eT x)]) (fun _ => Ev.now _) fun h2 => Ev.cs (fun x => [.agg (eT x)]) (fun _ => Ev.now _) fun _ =>
    Ev.c (impl_PointOk_ev p) (Ev.cs (fun x => [.agg (eT x)]) (fun _ => Ev.now _) fun h3 => Ev.c (impl_PointOk_ev q) (Ev.cs (fun x => [.agg (eT x)]) (fun _ => Ev.now _) fun h4 =>
    Ev.c (impl_PointOk_ev r) (Ev.cs (fun x => [.agg (eT x)]) (fun _ => Ev.now _) fun _ => Ev.c (impl_slopeOf_ev p q ((pOk_iff p).1 (notB_fo h3)) ((pOk_iff q).1 (notB_fo h4)) (by rw [h1]; simp) (by rw [h2]; simp)) (Ev.cs (fun x => [.agg (eT x)]) (fun _ => Ev.now _) fun _ =>
    Ev.c (impl_FpSub_ev _ _) (Ev.c (impl_FpSub_ev _ _) (Ev.c (impl_FpSub_ev _ _) (Ev.c (impl_FpMul_ev _ _) (Ev.c (impl_FpSub_ev _ _) (Ev.now _))))))))))
def mLoop : Nat → Pt → Pt → Pt → Tw → Tw
  | 0, _, _, _, f => f
  | n + 1, t, p, q, f => if 1009 / 2 ^ n % 2 = 1 then mLoop n (pAddOk (pAddOk t t) p) p q (tMul (tMul (tMul f f) (tLine t t q)) (tLine (pAddOk t t) p q)) else mLoop n (pAddOk t t) p q (tMul (tMul f f) (tLine t t q))
theorem bit_s : ∀ n : Nat, n < 9 → remI (shrI .i64 1009 (wr .u64 (n : Int))) 2 = ((1009 / 2 ^ n % 2 : Nat) : Int)
  | 0, _ => by kernel_rfl | 1, _ => by kernel_rfl | 2, _ => by kernel_rfl | 3, _ => by kernel_rfl | 4, _ => by kernel_rfl
  | 5, _ => by kernel_rfl | 6, _ => by kernel_rfl | 7, _ => by kernel_rfl | 8, _ => by kernel_rfl
  | n + 9, h => absurd h (by omega)
theorem bit_i : ∀ n : Nat, n < 9 → bitsOp .and .i64 (shrI .i64 1009 (wr .u64 (n : Int))) 1 = ((1009 / 2 ^ n % 2 : Nat) : Int)
  | 0, _ => by kernel_rfl | 1, _ => by kernel_rfl | 2, _ => by kernel_rfl | 3, _ => by kernel_rfl | 4, _ => by kernel_rfl
  | 5, _ => by kernel_rfl | 6, _ => by kernel_rfl | 7, _ => by kernel_rfl | 8, _ => by kernel_rfl
  | n + 9, h => absurd h (by omega)
theorem wr_u64 {n : Nat} (h : n < 1000000) : wr .u64 (n : Int) = n := by unfold wr; rw [IntKind.wrap_u64]; omega
theorem spec_Miller_l (p q : Pt) (z : Pt) : ∀ (n : Nat) (t : Pt) (f : Tw), n < 10 →
    Ev (fun k m _ _ => L_spec_Miller_0 k m ((n : Int) - 1) t.1 t.2.1 t.2.2 p.1 p.2.1 p.2.2 f.1 f.2 q.1 q.2.1 q.2.2 z.1 z.2.1) [.agg (eT (mLoop n t p q f))] := by
  intro n
  induction n with
  | zero =>
    intro t f _
    exact Ev.step (fun k m _ _ => L_spec_Miller_0_s k m _ _ _ _ _ _ _ _ _ _ _ _ _ _) (Ev.f (leI_f (by omega)) (Ev.now _))
  | succ n ih =>
    intro t f hn
    have e0 : ((n + 1 : Nat) : Int) - 1 = (n : Int) := by omega
    have e1 : wr .i64 (subI (n : Int) 1) = (n : Int) - 1 := by rw [subI_d, wr64 (by omega)]
    rw [e0]
    refine Ev.step (fun k m _ _ => L_spec_Miller_0_s k m _ _ _ _ _ _ _ _ _ _ _ _ _ _) (Ev.t (leI_t (by omega)) (Ev.c (spec_TwoMul_ev f f) (Ev.c (spec_PairLine_ev t t q) (Ev.c (spec_TwoMul_ev _ _) (Ev.c (spec_PointAdd_ev t t) (Ev.g (by rw [wr_u64 (by omega)]; exact leI_t (by omega)) ?_))))))
    rw [bit_s n (by omega), e1, mLoop]
    by_cases h : 1009 / 2 ^ n % 2 = 1
    · rw [if_pos h]
      exact Ev.t (eqI_t (by rw [h]; rfl)) (Ev.c (spec_PairLine_ev _ p q) (Ev.c (spec_TwoMul_ev _ _) (Ev.c (spec_PointAdd_ev _ p) (ih _ _ (by omega)))))
    · rw [if_neg h]
      exact Ev.f (eqI_f (by omega)) (ih _ _ (by omega))
theorem impl_Miller_l (p q : Pt) (z : Pt) : ∀ (n : Nat) (t : Pt) (f : Tw), n < 10 →
    Ev (fun k m _ _ => L_impl_Miller_0 k m ((n : Int) - 1) t.1 t.2.1 t.2.2 p.1 p.2.1 p.2.2 f.1 f.2 q.1 q.2.1 q.2.2 z.1 z.2.1) [.agg (eT (mLoop n t p q f))] := by
  intro n
  induction n with
  | zero =>
    intro t f _
    exact Ev.step (fun k m _ _ => L_impl_Miller_0_s k m _ _ _ _ _ _ _ _ _ _ _ _ _ _) (Ev.f (leI_f (by omega)) (Ev.now _))
  | succ n ih =>
    intro t f hn
    have e0 : ((n + 1 : Nat) : Int) - 1 = (n : Int) := by omega
    have e1 : wr .i64 (subI (n : Int) 1) = (n : Int) - 1 := by rw [subI_d, wr64 (by omega)]
    rw [e0]
    refine Ev.step (fun k m _ _ => L_impl_Miller_0_s k m _ _ _ _ _ _ _ _ _ _ _ _ _ _) (Ev.t (leI_t (by omega)) (Ev.c (impl_TwoMul_ev f f) (Ev.c (impl_PairLine_ev t t q) (Ev.c (impl_TwoMul_ev _ _) (Ev.c (impl_PointAdd_ev t t) (Ev.g (by rw [wr_u64 (by omega)]; exact leI_t (by omega)) ?_))))))
    rw [bit_i n (by omega), e1, mLoop]
    by_cases h : 1009 / 2 ^ n % 2 = 1
    · rw [if_pos h]
      exact Ev.t (eqI_t (by rw [h]; rfl)) (Ev.c (impl_PairLine_ev _ p q) (Ev.c (impl_TwoMul_ev _ _) (Ev.c (impl_PointAdd_ev _ p) (ih _ _ (by omega)))))
    · rw [if_neg h]
      exact Ev.f (eqI_f (by omega)) (ih _ _ (by omega))
def tMiller (p q : Pt) : Tw := mLoop 9 p p q (1, 0)
theorem spec_Miller_ev (p q : Pt) : Does cp n_spec_Miller [.agg (eP p), .agg (eP q)] [.agg (eT (tMiller p q))] :=
  Ev.fn (fun k => F_spec_Miller k p.1 p.2.1 p.2.2 q.1 q.2.1 q.2.2) (spec_Miller_l p q (0, 0, false) 9 p (1, 0) (by omega)).l0
theorem len64_1009 : Does cp n_math_bits_Len64 [.int .u64 1009] [.int .i64 10] :=
  Ev.fn (fun k => F_math_bits_Len64 k 1009) (Ev.f (by kernel_rfl) (Ev.f (by kernel_rfl) (Ev.t (by kernel_rfl) (Ev.g (by kernel_rfl) (Ev.some_ (by kernel_rfl))))))
theorem len_1009 : Does cp n_math_bits_Len [.int .u64 1009] [.int .i64 10] :=
  Ev.fn (fun k => F_math_bits_Len k 1009) (Ev.c len64_1009 (Ev.now _))
theorem impl_Miller_ev (p q : Pt) : Does cp n_impl_Miller [.agg (eP p), .agg (eP q)] [.agg (eT (tMiller p q))] := by
  refine Ev.fn (fun k => F_impl_Miller k p.1 p.2.1 p.2.2 q.1 q.2.1 q.2.2) (Ev.c len_1009 ?_)
  have e : wr .i64 (subI (10 : Int) 2) = ((9 : Nat) : Int) - 1 := by rw [subI_d, wr64 (by omega)]; rfl
  simp only [hdV_c, tlV_c, parts1_a, asInt_i, asBool_b, asStr_s, asLen_f, asCells_f, tupL_t, refCells_r, ownLen_o, e]
  exact (impl_Miller_l p q (0, 0, false) 9 p (1, 0) (by omega)).l0
def tFin (x : Tw) : Tw := tPow (tMul (tTurn x) (tInv x)) 12
def tPair (p q : Pt) : Tw := cond (notB (pIn p)) (1, 0) (cond (notB (pIn q)) (1, 0) (cond p.2.2 (1, 0) (cond q.2.2 (1, 0) (tFin (tMiller p q)))))
theorem spec_Pairing_ev (p q : Pt) : Does cp n_spec_Pairing [.agg (eP p), .agg (eP q)] [.agg (eT (tPair p q))] := by
  refine Ev.fn (fun k => F_spec_Pairing k p.1 p.2.1 p.2.2 q.1 q.2.1 q.2.2) (Ev.c (spec_InGroup_ev p) (Ev.cs (fun x => [.agg (eT x)]) (fun _ => Ev.now _) fun _ => Ev.c (spec_InGroup_ev q) (Ev.cs (fun x => [.agg (eT x)]) (fun _ => Ev.now _) fun _ =>
    Ev.cs (fun x => [.agg (eT x)]) (fun _ => Ev.now _) fun _ => Ev.cs (fun x => [.agg (eT x)]) (fun _ => Ev.now _) fun _ => Ev.c (spec_Miller_ev p q) (Ev.c (spec_TwoTurn_ev _) (Ev.c (spec_TwoInv_ev _) (Ev.c (spec_TwoMul_ev _ _) (Ev.c (spec_TwoPow_ev _ 12 (by omega)) ?_)))))))
  rw [tOf_mul]
  exact Ev.now _
theorem impl_Pairing_ev (p q : Pt) : Does cp n_impl_Pairing [.agg (eP p), .agg (eP q)] [.agg (eT (tPair p q))] := by
  have e : tPair p q = cond p.2.2 (1, 0) (cond q.2.2 (1, 0) (cond (notB (pIn p)) (1, 0) (cond (notB (pIn q)) (1, 0) (tFin (tMiller p q))))) := by
    unfold tPair
    cases p.2.2 <;> cases q.2.2 <;> cases notB (pIn p) <;> cases notB (pIn q) <;> rfl
  rw [e]
  exact Ev.fn (fun k => F_impl_Pairing k p.1 p.2.1 p.2.2 q.1 q.2.1 q.2.2) (Ev.cs (fun x => [.agg (eT x)]) (fun _ => Ev.now _) fun _ => Ev.cs (fun x => [.agg (eT x)]) (fun _ => Ev.now _) fun _ =>
    Ev.c (impl_InGroup_ev p) (Ev.cs (fun x => [.agg (eT x)]) (fun _ => Ev.now _) fun _ => Ev.c (impl_InGroup_ev q) (Ev.cs (fun x => [.agg (eT x)]) (fun _ => Ev.now _) fun _ =>
    Ev.c (impl_Miller_ev p q) (Ev.c (impl_TwoTurn_ev _) (Ev.c (impl_TwoInv_ev _) (Ev.c (impl_TwoMul_ev _ _) (Ev.c (impl_TwoPow_ev _ 12 (by omega)) (Ev.now _))))))))


theorem fitN_sm {n b : Nat} (h : n ≤ 1048576) (hb : b ≤ 4096) : fitN (addN 0 n) b = true := by
  unfold fitN addN
  have : (0 + n) * b ≤ 1048576 * 4096 := Nat.mul_le_mul (by omega) hb
  exact Nat.ble_eq_true_of_le (by omega)
theorem lenEq_encs {α : Type} {e : α → List AV} {sz : Nat} (h : ∀ a, (e a).length = sz) (xs : List α) : lenEq (xs.flatMap e) (mulN xs.length sz) = true := by
  unfold lenEq
  rw [encs_len h, mulN_d]
  simp
theorem cat_nil {α : Type} {e : α → List AV} {sz : Nat} (h : ∀ a, (e a).length = sz) (xs : List α) : cutC (catC (cutC [] 0 0) (xs.flatMap e)) 0 (mulN (addN 0 xs.length) sz) = xs.flatMap e := by
  have : catC (cutC [] 0 0) (xs.flatMap e) = xs.flatMap e := rfl
  rw [this, addN_d, Nat.zero_add]
  exact cut_all h xs
theorem slices_Clone_Point_ev (xs : List Pt) (hl : xs.length ≤ 1048576) : Does cp n_slices_Clone_Point [.fs xs.length (xs.flatMap eP)] [.fs xs.length (xs.flatMap eP)] := by
  refine Ev.fn (fun k => F_slices_Clone_Point k _ _) ?_
  have hg : Bool.and (fitN (addN 0 xs.length) 24) (lenEq (xs.flatMap eP) (mulN xs.length 3)) = true := by rw [fitN_sm hl (by decide), lenEq_encs eP_len]; rfl
  have hv : Ev (fun _ _ _ _ => gd (Bool.and (fitN (addN 0 xs.length) 24) (lenEq (xs.flatMap eP) (mulN xs.length 3))) (some [AV.fs (addN 0 xs.length) (cutC (catC (cutC [] 0 0) (xs.flatMap eP)) 0 (mulN (addN 0 xs.length) 3))])) [.fs xs.length (xs.flatMap eP)] :=
    Ev.g hg (Ev.some_ (by rw [cat_nil eP_len, addN_d, Nat.zero_add]))
  refine Ev.b (fun h => ?_) (fun _ => hv)
  refine Ev.bw ?_ hv
  have : xs = [] := List.eq_nil_of_length_eq_zero (Nat.eq_of_beq_eq_true h)
  subst this
  exact Ev.now _
theorem impl_copyCommittee_ev (xs : List Pt) (hl : xs.length ≤ 1048576) : Does cp n_impl_copyCommittee [.agg [.fs xs.length (xs.flatMap eP)]] [.agg [.fs xs.length (xs.flatMap eP)]] :=
  Ev.fn (fun k => F_impl_copyCommittee k _ _) (Ev.c (slices_Clone_Point_ev xs hl) (Ev.some_ (by simp only [hdV_c, tlV_c, parts1_a, asInt_i, asBool_b, asStr_s, asLen_f, asCells_f, tupL_t, refCells_r, ownLen_o, cut_all eP_len])))


theorem spec_l22Committee_ev (xs : List Pt) (hl : xs.length ≤ 1048576) : Does cp n_spec_l22Committee [.agg [.fs xs.length (xs.flatMap eP)]] [.agg [.fs xs.length (xs.flatMap eP)]] :=
  Ev.fn (fun k => F_spec_l22Committee k _ _) (Ev.g (by rw [fitN_sm hl (by decide), lenEq_encs eP_len]; rfl) (Ev.some_ (by rw [cat_nil eP_len, addN_d, Nat.zero_add])))
def pdv (x : Int) : Int := if x < 0 then 0 else wr .i64 (quoI x 8)
theorem spec_PeriodOf_ev (x : Int) : Does cp n_spec_PeriodOf [.int .i64 x] [.int .i64 (pdv x)] := by
  refine Ev.fn (fun k => F_spec_PeriodOf k _) ?_
  unfold pdv
  by_cases h : x < 0
  · rw [if_pos h]; exact Ev.t (ltI_t h) (Ev.now _)
  · rw [if_neg h]; exact Ev.f (ltI_f h) (Ev.now _)
theorem impl_PeriodOf_ev (x : Int) : Does cp n_impl_PeriodOf [.int .i64 x] [.int .i64 (pdv x)] := by
  refine Ev.fn (fun k => F_impl_PeriodOf k _) (Ev.some_ ?_)
  unfold pdv maxI
  by_cases h : x < 0
  · rw [if_pos h, if_pos h]; rfl
  · rw [if_neg h, if_neg h]
/-- Who signs: the keys, and whether there are any. -/
def sgn (now next : List Pt) (has : Bool) (slot signed : Int) : List Pt × Bool :=
  if eqI (pdv signed) (pdv slot) then (now, true) else if eqI (pdv signed) (wr .i64 (addI (pdv slot) 1)) && has then (next, true) else ([], false)
theorem sgn_len {now next : List Pt} {has : Bool} {slot signed : Int} (h1 : now.length ≤ 1048576) (h2 : next.length ≤ 1048576) : (sgn now next has slot signed).1.length ≤ 1048576 := by
  unfold sgn
  split
  · exact h1
  · split
    · exact h2
    · simp
theorem spec_Signers_ev (x0 : Int) (x1 x2 x3 : ByteArray) (x4 x5 : List Pt) (x6 : Bool) (x7 x8 : Int) (x9 : Bool) (x10 x11 : Int) (x12 : Bool) (x13 x14 : Int) (x15 : Bool) (x16 x17 : Int) (x18 : Bool) (x19 : List Pt) (s : Int) (h4 : x4.length ≤ 1048576) (h5 : x5.length ≤ 1048576) :
    Does cp n_spec_Signers [.agg [.int .i64 x0, .str x1, .str x2, .str x3, .fs x4.length (x4.flatMap eP), .fs x5.length (x5.flatMap eP), .bool x6, .int .i64 x7, .int .i64 x8, .bool x9, .int .i64 x10, .int .i64 x11, .bool x12, .int .i64 x13, .int .i64 x14, .bool x15, .int .i64 x16, .int .i64 x17, .bool x18, .fs x19.length (x19.flatMap eP)], .int .i64 s]
      [.agg [.fs (sgn x4 x5 x6 x0 s).1.length ((sgn x4 x5 x6 x0 s).1.flatMap eP)], .bool (sgn x4 x5 x6 x0 s).2] := by
  refine Ev.fn (fun k => F_spec_Signers k _ _ _ _ _ _ _ _ _ _ _ _ _ _ _ _ _ _ _ _ _ _ _ _) (Ev.c (spec_PeriodOf_ev s) (Ev.c (spec_PeriodOf_ev x0) ?_))
  simp only [hdV_c, tlV_c, parts1_a, asInt_i, asBool_b, asStr_s, asLen_f, asCells_f, tupL_t, refCells_r, ownLen_o]
  unfold sgn
  cases ha : eqI (pdv s) (pdv x0) with
  | true => rw [if_pos rfl]; exact Ev.t rfl (Ev.c (spec_l22Committee_ev x4 h4) (Ev.now _))
  | false =>
    rw [if_neg (by simp)]
    refine Ev.f rfl ?_
    cases hb : eqI (pdv s) (wr .i64 (addI (pdv x0) 1)) with
    | false => rw [if_neg (by simp)]; exact Ev.f rfl (Ev.now _)
    | true =>
      cases x6 with
      | true => rw [if_pos (by rfl)]; exact Ev.t rfl (Ev.t rfl (Ev.c (spec_l22Committee_ev x5 h5) (Ev.now _)))
      | false => rw [if_neg (by simp)]; exact Ev.t rfl (Ev.f rfl (Ev.now _))
theorem impl_Signers_ev (x0 : Int) (x1 x2 x3 : ByteArray) (x4 x5 : List Pt) (x6 : Bool) (x7 x8 : Int) (x9 : Bool) (x10 x11 : Int) (x12 : Bool) (x13 x14 : Int) (x15 : Bool) (x16 x17 : Int) (x18 : Bool) (x19 : List Pt) (s : Int) (h4 : x4.length ≤ 1048576) (h5 : x5.length ≤ 1048576) :
    Does cp n_impl_Signers [.agg [.int .i64 x0, .str x1, .str x2, .str x3, .fs x4.length (x4.flatMap eP), .fs x5.length (x5.flatMap eP), .bool x6, .int .i64 x7, .int .i64 x8, .bool x9, .int .i64 x10, .int .i64 x11, .bool x12, .int .i64 x13, .int .i64 x14, .bool x15, .int .i64 x16, .int .i64 x17, .bool x18, .fs x19.length (x19.flatMap eP)], .int .i64 s]
      [.agg [.fs (sgn x4 x5 x6 x0 s).1.length ((sgn x4 x5 x6 x0 s).1.flatMap eP)], .bool (sgn x4 x5 x6 x0 s).2] := by
  refine Ev.fn (fun k => F_impl_Signers k _ _ _ _ _ _ _ _ _ _ _ _ _ _ _ _ _ _ _ _ _ _ _ _) (Ev.c (impl_PeriodOf_ev x0) (Ev.c (impl_PeriodOf_ev s) ?_))
  simp only [hdV_c, tlV_c, parts1_a, asInt_i, asBool_b, asStr_s, asLen_f, asCells_f, tupL_t, refCells_r, ownLen_o]
  unfold sgn
  cases ha : eqI (pdv s) (pdv x0) with
  | true => rw [if_pos rfl]; exact Ev.t rfl (Ev.c (impl_copyCommittee_ev x4 h4) (Ev.some_ (by simp only [hdV_c, tlV_c, parts1_a, asInt_i, asBool_b, asStr_s, asLen_f, asCells_f, tupL_t, refCells_r, ownLen_o, cut_all eP_len])))
  | false =>
    rw [if_neg (by simp)]
    refine Ev.f rfl (Ev.c (impl_PeriodOf_ev s) ?_)
    simp only [hdV_c, tlV_c, parts1_a, asInt_i, asBool_b, asStr_s, asLen_f, asCells_f, tupL_t, refCells_r, ownLen_o]
    cases hb : eqI (pdv s) (wr .i64 (addI (pdv x0) 1)) with
    | false => rw [if_neg (by simp)]; exact Ev.f rfl (Ev.now _)
    | true =>
      cases x6 with
      | true => rw [if_pos (by rfl)]; exact Ev.t rfl (Ev.t rfl (Ev.c (impl_copyCommittee_ev x5 h5) (Ev.some_ (by simp only [hdV_c, tlV_c, parts1_a, asInt_i, asBool_b, asStr_s, asLen_f, asCells_f, tupL_t, refCells_r, ownLen_o, cut_all eP_len]))))
      | false => rw [if_neg (by simp)]; exact Ev.t rfl (Ev.f rfl (Ev.now _))


def hnum (d : ByteArray) : Int := bitsOp .or .i64 (bitsOp .or .i64 (bitsOp .or .i64 (wr .i64 (shlI .i64 (wr .i64 (getS d 0)) 24)) (wr .i64 (shlI .i64 (wr .i64 (getS d 1)) 16))) (wr .i64 (shlI .i64 (wr .i64 (getS d 2)) 8))) (wr .i64 (getS d 3))
def hx (s : ByteArray) (i : Nat) : Int := hnum (dig (catS (strOf (cutC [.int .u8 (wr .u8 (i : Int))] 0 1)) s)) % 12107
def hcrv (a : Int) : Int := (a * a % 12107 * a % 12107 + a) % 12107
def hpt (s : ByteArray) (i : Nat) : Pt := pTimes 12 (hx s i, (rpRoot (hcrv (hx s i))).1, false)
def hLoop (s : ByteArray) : Nat → Nat → Pt
  | 0, _ => (8445, 859, false)
  | d + 1, i => if (rpRoot (hcrv (hx s i))).2 = true then (if (hpt s i).2.2 = false then hpt s i else hLoop s d (i + 1)) else hLoop s d (i + 1)
theorem one_size (x : Int) : (strOf (cutC [.int .u8 x] 0 1)).size = 1 := rfl
theorem in32 {d : ByteArray} (h : d.size = 32) : inR 0 (lenS d) = true ∧ inR 1 (lenS d) = true ∧ inR 2 (lenS d) = true ∧ inR 3 (lenS d) = true := by
  rw [lenS_d, h]; decide
theorem spec_hash_pt (s : ByteArray) (hs : s.size ≤ 1048576) (z1 z2 : Int) (z3 : Bool) (d : Nat) : ∀ i : Nat, i + d = 64 →
    Ev (fun k m _ _ => L_spec_HashPoint_0 k m s (i : Int) z1 z2 z3) [.agg (eP (hLoop s d i))] := by
  induction d with
  | zero =>
    intro i hi
    exact Ev.step (fun k m _ _ => L_spec_HashPoint_0_s k m _ _ _ _ _) (Ev.f (ltI_f (by omega)) (Ev.c (Ev.fn (fun k => F_spec_Base k) (Ev.now _)) (Ev.now _)))
  | succ d ih =>
    intro i hi
    have e1 : wr .i64 (addI (i : Int) 1) = ((i + 1 : Nat) : Int) := wrS (by omega)
    have h1 := one_size (wr .u8 (i : Int))
    obtain ⟨g0, g1, g2, g3⟩ := in32 (dig_len (catS (strOf (cutC [.int .u8 (wr .u8 (i : Int))] 0 1)) s))
    refine Ev.step (fun k m _ _ => L_spec_HashPoint_0_s k m _ _ _ _ _) (Ev.t (ltI_t (by omega)) (Ev.g rfl (Ev.g (fitS_small (by rw [h1]; omega)) (Ev.c (spec_Digest_ev (by rw [cat_size, h1]; omega)) ?_))))
    simp only [hdV_c, tlV_c, parts1_a, asInt_i, asBool_b, asStr_s, asLen_f, asCells_f, tupL_t, refCells_r, ownLen_o]
    refine Ev.g g0 (Ev.g g1 (Ev.g g2 (Ev.g g3 (Ev.c (spec_FpOf_ev _) (Ev.c (spec_l07Right_ev _) (Ev.c (spec_FpRoot_ev _) (Ev.c (spec_PointTimes_ev 12 (hx s i, (rpRoot (hcrv (hx s i))).1, false) (by omega)) ?_)))))))
    unfold hLoop
    by_cases hr : (rpRoot (hcrv (hx s i))).2 = true
    · rw [if_pos hr]
      refine Ev.t hr ?_
      by_cases hp : (hpt s i).2.2 = false
      · rw [if_pos hp]
        exact Ev.t (by show notB (hpt s i).2.2 = true; rw [hp]; rfl) (Ev.now _)
      · rw [if_neg hp]
        refine Ev.f (by show notB (hpt s i).2.2 = false; rw [Bool.not_eq_false] at hp; rw [hp]; rfl) ?_
        rw [e1]
        exact ih (i + 1) (by omega)
    · rw [if_neg hr]
      rw [Bool.not_eq_true] at hr
      refine Ev.f hr ?_
      rw [e1]
      exact ih (i + 1) (by omega)
theorem impl_hash_pt (s : ByteArray) (hs : s.size ≤ 1048576) (z1 z2 : Int) (z3 : Bool) (d : Nat) : ∀ i : Nat, i + d = 64 →
    Ev (fun k m _ _ => L_impl_HashPoint_0 k m s (i : Int) z1 z2 z3) [.agg (eP (hLoop s d i))] := by
  induction d with
  | zero =>
    intro i hi
    exact Ev.step (fun k m _ _ => L_impl_HashPoint_0_s k m _ _ _ _ _) (Ev.f (ltI_f (by omega)) (Ev.c (Ev.fn (fun k => F_impl_Base k) (Ev.now _)) (Ev.now _)))
  | succ d ih =>
    intro i hi
    have e1 : wr .i64 (addI (i : Int) 1) = ((i + 1 : Nat) : Int) := wrS (by omega)
    have h1 := one_size (wr .u8 (i : Int))
    obtain ⟨g0, g1, g2, g3⟩ := in32 (dig_len (catS (strOf (cutC [.int .u8 (wr .u8 (i : Int))] 0 1)) s))
    refine Ev.step (fun k m _ _ => L_impl_HashPoint_0_s k m _ _ _ _ _) (Ev.t (ltI_t (by omega)) (Ev.g rfl (Ev.g (fitS_small (by rw [h1]; omega)) (Ev.c (impl_Digest_ev (by rw [cat_size, h1]; omega)) ?_))))
    simp only [hdV_c, tlV_c, parts1_a, asInt_i, asBool_b, asStr_s, asLen_f, asCells_f, tupL_t, refCells_r, ownLen_o]
    refine Ev.g g0 (Ev.g g1 (Ev.g g2 (Ev.g g3 (Ev.c (impl_FpOf_ev _) (Ev.c (impl_curveAt_ev _) (Ev.c (impl_FpRoot_ev _) ?_))))))
    unfold hLoop
    by_cases hr : (rpRoot (hcrv (hx s i))).2 = true
    · rw [if_pos hr]
      refine Ev.f (by show notB (rpRoot (hcrv (hx s i))).2 = false; rw [hr]; rfl) (Ev.c (impl_PointTimes_ev 12 (hx s i, (rpRoot (hcrv (hx s i))).1, false) (by omega)) ?_)
      by_cases hp : (hpt s i).2.2 = false
      · rw [if_pos hp]
        exact Ev.t (by show notB (hpt s i).2.2 = true; rw [hp]; rfl) (Ev.now _)
      · rw [if_neg hp]
        refine Ev.f (by show notB (hpt s i).2.2 = false; rw [Bool.not_eq_false] at hp; rw [hp]; rfl) ?_
        rw [e1]
        exact ih (i + 1) (by omega)
    · rw [if_neg hr]
      rw [Bool.not_eq_true] at hr
      refine Ev.t (by show notB (rpRoot (hcrv (hx s i))).2 = true; rw [hr]; rfl) ?_
      rw [e1]
      exact ih (i + 1) (by omega)
theorem spec_HashPoint_ev (s : ByteArray) (hs : s.size ≤ 1048576) : Does cp n_spec_HashPoint [.str s] [.agg (eP (hLoop s 64 0))] :=
  Ev.fn (fun k => F_spec_HashPoint k s) (spec_hash_pt s hs _ _ _ 64 0 rfl).l0
theorem spec_Base_ev : Does cp n_spec_Base [] [.agg (eP (8445, 859, false))] := Ev.fn (fun k => F_spec_Base k) (Ev.now _)
theorem impl_HashPoint_ev (s : ByteArray) (hs : s.size ≤ 1048576) : Does cp n_impl_HashPoint [.str s] [.agg (eP (hLoop s 64 0))] :=
  Ev.fn (fun k => F_impl_HashPoint k s) (impl_hash_pt s hs _ _ _ 64 0 rfl).l0
theorem impl_Base_ev : Does cp n_impl_Base [] [.agg (eP (8445, 859, false))] := Ev.fn (fun k => F_impl_Base k) (Ev.now _)
def sgFin (p : Pt) (s : ByteArray) (q : Pt) : Bool := andB (eqI (tPair q (8445, 859, false)).1 (tPair (hLoop s 64 0) p).1) (andB (eqI (tPair q (8445, 859, false)).2 (tPair (hLoop s 64 0) p).2) true)
def sgOk (p : Pt) (s : ByteArray) (q : Pt) : Bool := pIn p && (pIn q && (!p.2.2 && (!q.2.2 && sgFin p s q)))
theorem spec_SigOk_ev (p : Pt) (s : ByteArray) (q : Pt) (hs : s.size ≤ 1048576) : Does cp n_spec_SigOk [.agg (eP p), .str s, .agg (eP q)] [.bool (sgOk p s q)] :=
  Ev.fn (fun k => F_spec_SigOk k ..) (Ev.c (spec_InGroup_ev p) (Ev.an fun _ => Ev.c (spec_InGroup_ev q) (Ev.an fun _ => Ev.na fun _ => Ev.na fun _ => Ev.c spec_Base_ev (Ev.c (spec_Pairing_ev q (8445, 859, false)) (Ev.c (spec_HashPoint_ev s hs) (Ev.c (spec_Pairing_ev (hLoop s 64 0) p) (Ev.now _)))))))
theorem impl_SigOk_ev (p : Pt) (s : ByteArray) (q : Pt) (hs : s.size ≤ 1048576) : Does cp n_impl_SigOk [.agg (eP p), .str s, .agg (eP q)] [.bool (sgOk p s q)] := by
  have e : sgOk p s q = (!p.2.2 && (!q.2.2 && (pIn p && (pIn q && sgFin p s q)))) := by
    unfold sgOk
    cases p.2.2 <;> cases q.2.2 <;> cases pIn p <;> cases pIn q <;> rfl
  rw [e]
  exact Ev.fn (fun k => F_impl_SigOk k ..) (Ev.na fun _ => Ev.na fun _ => Ev.c (impl_InGroup_ev p) (Ev.an fun _ => Ev.c (impl_InGroup_ev q) (Ev.an fun _ => Ev.c impl_Base_ev (Ev.c (impl_Pairing_ev q (8445, 859, false)) (Ev.c (impl_HashPoint_ev s hs) (Ev.c (impl_Pairing_ev (hLoop s 64 0) p) (Ev.now _)))))))
def allSg (ks : List Pt) (s : ByteArray) (q : Pt) : Bool := cond (ltI 0 (lenI ks.length)) (sgOk (sumPs ks (0, 0, true)) s q) false
theorem spec_AllSigOk_ev (ks : List Pt) (hl : ks.length ≤ 1048576) (s : ByteArray) (q : Pt) (hs : s.size ≤ 1048576) : Does cp n_spec_AllSigOk [.fs ks.length (ks.flatMap eP), .str s, .agg (eP q)] [.bool (allSg ks s q)] :=
  Ev.fn (fun k => F_spec_AllSigOk k ..) (Ev.cb (fun _ => Ev.c (spec_SumPoints_ev ks hl) (Ev.c (spec_SigOk_ev (sumPs ks (0, 0, true)) s q hs) (Ev.now _))) (fun _ => Ev.now _))
theorem impl_AllSigOk_ev (ks : List Pt) (hl : ks.length ≤ 1048576) (s : ByteArray) (q : Pt) (hs : s.size ≤ 1048576) : Does cp n_impl_AllSigOk [.fs ks.length (ks.flatMap eP), .str s, .agg (eP q)] [.bool (allSg ks s q)] :=
  Ev.fn (fun k => F_impl_AllSigOk k ..) (Ev.cb (fun _ => Ev.c (impl_SumPoints_ev ks hl) (Ev.c (impl_SigOk_ev (sumPs ks (0, 0, true)) s q hs) (Ev.now _))) (fun _ => Ev.now _))
def sgText (s : Int) (p t b : ByteArray) : ByteArray := if headOk s p t b = true then catS (strOf (cutC [.int .u8 (wr .u8 7)] 0 1)) (headRt s p t b) else ⟨#[]⟩
theorem sgText_size (s : Int) (p t b : ByteArray) : (sgText s p t b).size ≤ 33 := by
  unfold sgText
  split
  · have := headRt_size s p t b
    rw [cat_size, one_size]; omega
  · exact Nat.zero_le _
theorem spec_SigText_ev (s : Int) (p t b : ByteArray) : Does cp n_spec_SigText [.agg [.int .i64 s, .str p, .str t, .str b], .int .i64 7] [.str (sgText s p t b)] := by
  refine Ev.fn (fun k => F_spec_SigText k ..) (Ev.c (spec_HeadOk_ev s p t b) ?_)
  have := headRt_size s p t b
  unfold sgText
  by_cases h : headOk s p t b = true
  · rw [if_pos h]
    refine Ev.f (by show notB (headOk s p t b) = false; rw [h]; rfl) (Ev.c (spec_l01In_ev _ _ _) (Ev.f (by decide) (Ev.g rfl (Ev.c (spec_HeadRoot_ev s p t b) (Ev.g (fitS_small (by rw [one_size]; simp only [hdV_c, tlV_c, parts1_a, asInt_i, asBool_b, asStr_s, asLen_f, asCells_f, tupL_t, refCells_r, ownLen_o]; omega)) (Ev.now _))))))
  · rw [if_neg h]
    exact Ev.t (by show notB (headOk s p t b) = true; rw [Bool.not_eq_true] at h; rw [h]; rfl) (Ev.now _)
theorem impl_SigText_ev (s : Int) (p t b : ByteArray) : Does cp n_impl_SigText [.agg [.int .i64 s, .str p, .str t, .str b], .int .i64 7] [.str (sgText s p t b)] := by
  refine Ev.fn (fun k => F_impl_SigText k ..) (Ev.c (impl_HeadOk_ev s p t b) ?_)
  have := headRt_size s p t b
  unfold sgText
  by_cases h : headOk s p t b = true
  · rw [if_pos h]
    refine Ev.f (by show notB (headOk s p t b) = false; rw [h]; rfl) (Ev.f (by decide) (Ev.f (by decide) (Ev.g rfl (Ev.c (impl_HeadRoot_ev s p t b) (Ev.g (fitS_small (by rw [one_size]; simp only [hdV_c, tlV_c, parts1_a, asInt_i, asBool_b, asStr_s, asLen_f, asCells_f, tupL_t, refCells_r, ownLen_o]; omega)) (Ev.now _))))))
  · rw [if_neg h]
    exact Ev.t (by show notB (headOk s p t b) = true; rw [Bool.not_eq_true] at h; rw [h]; rfl) (Ev.now _)


def updateOk (s1 : Int) (p1 t1 b1 : ByteArray) (ks : List Pt) (nb : List ByteArray) (s2 : Int) (p2 t2 b2 : ByteArray) (fb : List ByteArray) (bits : Int) (sg a b c : Pt) (sn : Int) : Bool :=
  headOk s1 p1 t1 b1 && (headOk s2 p2 t2 b2 && (comOk ks && (branchOk nb && (branchOk fb && (decide (0 ≤ bits ∧ bits ≤ 255) && (pIn sg && (pIn a && (pIn b && (pIn c && decide (0 ≤ sn ∧ sn ≤ 10000))))))))))
def aUpd (s1 : Int) (p1 t1 b1 : ByteArray) (ks : List Pt) (nb : List ByteArray) (s2 : Int) (p2 t2 b2 : ByteArray) (fb : List ByteArray) (bits : Int) (sg a b c : Pt) (sn : Int) : AV :=
  .agg [.int .i64 s1, .str p1, .str t1, .str b1, .fs ks.length (ks.flatMap eP), .fs nb.length (nb.flatMap eS), .int .i64 s2, .str p2, .str t2, .str b2, .fs fb.length (fb.flatMap eS), .int .i64 bits, .int .i64 sg.1, .int .i64 sg.2.1, .bool sg.2.2, .int .i64 a.1, .int .i64 a.2.1, .bool a.2.2, .int .i64 b.1, .int .i64 b.2.1, .bool b.2.2, .int .i64 c.1, .int .i64 c.2.1, .bool c.2.2, .int .i64 sn]
theorem spec_UpdateOk_ev (s1 : Int) (p1 t1 b1 : ByteArray) (ks : List Pt) (nb : List ByteArray) (s2 : Int) (p2 t2 b2 : ByteArray) (fb : List ByteArray) (bits : Int) (sg a b c : Pt) (sn : Int) (h1 : ks.length ≤ 1048576) (h2 : nb.length ≤ 1048576) (h3 : fb.length ≤ 1048576) :
    Does cp n_spec_UpdateOk [aUpd s1 p1 t1 b1 ks nb s2 p2 t2 b2 fb bits sg a b c sn] [.bool (updateOk s1 p1 t1 b1 ks nb s2 p2 t2 b2 fb bits sg a b c sn)] :=
  Ev.fn (fun k => F_spec_UpdateOk k _ _ _ _ _ _ _ _ _ _ _ _ _ _ _ _ _ _ _ _ _ _ _ _ _ _ _ _)
    (Ev.c (spec_HeadOk_ev _ _ _ _) (Ev.an fun _ => Ev.c (spec_HeadOk_ev _ _ _ _) (Ev.an fun _ => Ev.c (spec_CommitteeOk_ev ks h1) (Ev.an fun _ => Ev.c (spec_BranchOk_ev nb h2) (Ev.an fun _ => Ev.c (spec_BranchOk_ev fb h3) (Ev.an fun _ => Ev.c (spec_l01In_ev _ _ _) (Ev.ap fun _ =>
      Ev.c (spec_InGroup_ev sg) (Ev.ap fun _ => Ev.c (spec_InGroup_ev a) (Ev.ap fun _ => Ev.c (spec_InGroup_ev b) (Ev.ap fun _ => Ev.c (spec_InGroup_ev c) (Ev.ap fun _ => Ev.c (spec_l01In_ev _ _ _) (Ev.now _)))))))))))) 
theorem impl_UpdateOk_ev (s1 : Int) (p1 t1 b1 : ByteArray) (ks : List Pt) (nb : List ByteArray) (s2 : Int) (p2 t2 b2 : ByteArray) (fb : List ByteArray) (bits : Int) (sg a b c : Pt) (sn : Int) (h1 : ks.length ≤ 1048576) :
    Does cp n_impl_UpdateOk [aUpd s1 p1 t1 b1 ks nb s2 p2 t2 b2 fb bits sg a b c sn] [.bool (updateOk s1 p1 t1 b1 ks nb s2 p2 t2 b2 fb bits sg a b c sn)] := by
  refine Ev.fn (fun k => F_impl_UpdateOk k _ _ _ _ _ _ _ _ _ _ _ _ _ _ _ _ _ _ _ _ _ _ _ _ _ _ _ _) (Ev.to (Ev.c (impl_HeadOk_ev _ _ _ _) (Ev.an fun _ => Ev.c (impl_HeadOk_ev _ _ _ _) (Ev.an fun _ => Ev.c (impl_BranchOk_ev nb) (Ev.an fun _ => Ev.c (impl_BranchOk_ev fb) (Ev.an fun _ => Ev.c (impl_isBits_ev _) (Ev.an fun _ => Ev.c (impl_isSlot_ev _) (Ev.an fun _ =>
      Ev.c (impl_InGroup_ev sg) (Ev.an fun _ => Ev.c (impl_CommitteeOk_ev ks h1) (Ev.an fun _ => Ev.c (impl_ProofText_ev a b c) (Ev.now _)))))))))) ?_)
  show [AV.bool (headOk s1 p1 t1 b1 && (headOk s2 p2 t2 b2 && (branchOk nb && (branchOk fb && (decide (0 ≤ bits ∧ bits ≤ 255) && (decide (0 ≤ sn ∧ sn ≤ 10000) && (pIn sg && (comOk ks && (proofText a b c).2))))))))] = _
  rw [proofText_snd]
  unfold updateOk
  generalize headOk s1 p1 t1 b1 = q1
  generalize headOk s2 p2 t2 b2 = q2
  generalize branchOk nb = q3
  generalize branchOk fb = q4
  generalize decide (0 ≤ bits ∧ bits ≤ 255) = q5
  generalize decide (0 ≤ sn ∧ sn ≤ 10000) = q6
  generalize pIn sg = q7
  generalize comOk ks = q8
  generalize pIn a = q9
  generalize pIn b = q10
  generalize pIn c = q11
  congr 2
  cases q1 <;> cases q2 <;> cases q3 <;> cases q4 <;> cases q5 <;> cases q6 <;> cases q7 <;> cases q8 <;> simp [Bool.and_comm, Bool.and_assoc]


def pfFin (al be ga de : Pt) (ks : List Pt) (ns : List Int) (a b c : Pt) : Bool :=
  andB (eqI (tPair a b).1 (tMul (tMul (tPair al be) (tPair (inSumP ks ns) ga)) (tPair c de)).1) (andB (eqI (tPair a b).2 (tMul (tMul (tPair al be) (tPair (inSumP ks ns) ga)) (tPair c de)).2) true)
def pfLen (ks : List Pt) (ns : List Int) : Bool := eqI (lenI ks.length) (wr .i64 (addI (lenI ns.length) 1))
def pfOk (al be ga de : Pt) (ks : List Pt) (ns : List Int) (a b c : Pt) : Bool :=
  pIn a && (pIn b && (pIn c && (!a.2.2 && (!b.2.2 && (pfLen ks ns && (allSc ns && pfFin al be ga de ks ns a b c))))))
theorem spec_ProofOk_ev (al be ga de : Pt) (ks : List Pt) (ns : List Int) (a b c : Pt) (hb : ns.length ≤ 1048576) :
    Does cp n_spec_ProofOk [.agg [.int .i64 al.1, .int .i64 al.2.1, .bool al.2.2, .int .i64 be.1, .int .i64 be.2.1, .bool be.2.2, .int .i64 ga.1, .int .i64 ga.2.1, .bool ga.2.2, .int .i64 de.1, .int .i64 de.2.1, .bool de.2.2, .fs ks.length (ks.flatMap eP)], .fs ns.length (ns.flatMap eI), .agg [.int .i64 a.1, .int .i64 a.2.1, .bool a.2.2, .int .i64 b.1, .int .i64 b.2.1, .bool b.2.2, .int .i64 c.1, .int .i64 c.2.1, .bool c.2.2]] [.bool (pfOk al be ga de ks ns a b c)] :=
  Ev.fn (fun k => F_spec_ProofOk k _ _ _ _ _ _ _ _ _ _ _ _ _ _ _ _ _ _ _ _ _ _ _ _ _)
    (Ev.c (spec_InGroup_ev a) (Ev.an fun _ => Ev.c (spec_InGroup_ev b) (Ev.an fun _ => Ev.c (spec_InGroup_ev c) (Ev.an fun _ => Ev.na fun _ => Ev.na fun _ => Ev.an fun _ =>
    Ev.c (spec_l13Wide_ev ns hb) (Ev.an fun _ => Ev.c (spec_Pairing_ev al be) (Ev.c (spec_InputSum_ev _ _ _ _ _ _ _ _ _ _ _ _ ks ns hb) (Ev.c (spec_Pairing_ev _ ga) (Ev.c (spec_TwoMul_ev _ _) (Ev.c (spec_Pairing_ev c de) (Ev.c (spec_TwoMul_ev _ _) (Ev.c (spec_Pairing_ev a b) (Ev.now _))))))))))))
theorem impl_ProofOk_ev (al be ga de : Pt) (ks : List Pt) (ns : List Int) (a b c : Pt) (hb : ns.length ≤ 1048576) :
    Does cp n_impl_ProofOk [.agg [.int .i64 al.1, .int .i64 al.2.1, .bool al.2.2, .int .i64 be.1, .int .i64 be.2.1, .bool be.2.2, .int .i64 ga.1, .int .i64 ga.2.1, .bool ga.2.2, .int .i64 de.1, .int .i64 de.2.1, .bool de.2.2, .fs ks.length (ks.flatMap eP)], .fs ns.length (ns.flatMap eI), .agg [.int .i64 a.1, .int .i64 a.2.1, .bool a.2.2, .int .i64 b.1, .int .i64 b.2.1, .bool b.2.2, .int .i64 c.1, .int .i64 c.2.1, .bool c.2.2]] [.bool (pfOk al be ga de ks ns a b c)] := by
  have e : pfOk al be ga de ks ns a b c = (!a.2.2 && (!b.2.2 && (pIn a && (pIn b && (pIn c && (pfLen ks ns && (allSc ns && pfFin al be ga de ks ns a b c))))))) := by
    unfold pfOk
    cases a.2.2 <;> cases b.2.2 <;> cases pIn a <;> cases pIn b <;> cases pIn c <;> rfl
  rw [e]
  exact Ev.fn (fun k => F_impl_ProofOk k _ _ _ _ _ _ _ _ _ _ _ _ _ _ _ _ _ _ _ _ _ _ _ _ _)
    (Ev.na fun _ => Ev.na fun _ => Ev.c (impl_InGroup_ev a) (Ev.an fun _ => Ev.c (impl_InGroup_ev b) (Ev.an fun _ => Ev.c (impl_InGroup_ev c) (Ev.an fun _ => Ev.an fun _ =>
    Ev.c (impl_areScalars_ev ns hb) (Ev.an fun _ => Ev.c (impl_Pairing_ev al be) (Ev.c (impl_InputSum_ev _ _ _ _ _ _ _ _ _ _ _ _ ks ns hb) (Ev.c (impl_Pairing_ev _ ga) (Ev.c (impl_TwoMul_ev _ _) (Ev.c (impl_Pairing_ev a b) (Ev.c (impl_Pairing_ev c de) (Ev.c (impl_TwoMul_ev _ _) (Ev.now _))))))))))))


def aCl (x0 : Int) (x1 x2 x3 : ByteArray) (x4 x5 : List Pt) (x6 : Bool) (al be ga de : Pt) (x19 : List Pt) : AV :=
  .agg [.int .i64 x0, .str x1, .str x2, .str x3, .fs x4.length (x4.flatMap eP), .fs x5.length (x5.flatMap eP), .bool x6, .int .i64 al.1, .int .i64 al.2.1, .bool al.2.2, .int .i64 be.1, .int .i64 be.2.1, .bool be.2.2, .int .i64 ga.1, .int .i64 ga.2.1, .bool ga.2.2, .int .i64 de.1, .int .i64 de.2.1, .bool de.2.2, .fs x19.length (x19.flatMap eP)]
def slotsN (s0 : Int) (now next : List Pt) (has : Bool) (v1 v2 vn t : Int) : Int :=
  cond (ltI v1 v2) 2 (cond (leI vn v1) 2 (cond (ltI t vn) 2 (cond (notB (sgn now next has s0 vn).2) 3 (cond (notB (eqI (pdv v1) (pdv vn))) 3 (cond (leI v2 s0) (cond has 4 (cond (notB (eqI (pdv v1) (pdv s0))) 4 0)) 0)))))
theorem spec_l22Slots_ev (x0 : Int) (x1 x2 x3 : ByteArray) (x4 x5 : List Pt) (x6 : Bool) (al be ga de : Pt) (x19 : List Pt) (s1 : Int) (p1 t1 b1 : ByteArray) (ks : List Pt) (nb : List ByteArray) (s2 : Int) (p2 t2 b2 : ByteArray) (fb : List ByteArray) (bits : Int) (sg a b c : Pt) (sn : Int) (tm : Int) (h4 : x4.length ≤ 1048576) (h5 : x5.length ≤ 1048576) :
    Does cp n_spec_l22Slots [aCl x0 x1 x2 x3 x4 x5 x6 al be ga de x19, aUpd s1 p1 t1 b1 ks nb s2 p2 t2 b2 fb bits sg a b c sn, .int .i64 tm] [.int .i64 (slotsN x0 x4 x5 x6 s1 s2 sn tm)] :=
  Ev.fn (fun k => F_spec_l22Slots k ..) (Ev.cc (fun _ => Ev.now _) fun _ => Ev.cc (fun _ => Ev.now _) fun _ => Ev.cc (fun _ => Ev.now _) fun _ => Ev.c (spec_Signers_ev x0 x1 x2 x3 x4 x5 x6 al.1 al.2.1 al.2.2 be.1 be.2.1 be.2.2 ga.1 ga.2.1 ga.2.2 de.1 de.2.1 de.2.2 x19 sn h4 h5) (Ev.cc (fun _ => Ev.now _) fun _ => Ev.c (spec_PeriodOf_ev _) (Ev.c (spec_PeriodOf_ev _) (Ev.cc (fun _ => Ev.now _) fun _ => Ev.cc (fun _ => Ev.cc (fun _ => Ev.now _) fun _ => Ev.c (spec_PeriodOf_ev _) (Ev.c (spec_PeriodOf_ev _) (Ev.cc (fun _ => Ev.now _) fun _ => Ev.now _))) fun _ => Ev.now _))))
theorem impl_checkSlots_ev (x0 : Int) (x1 x2 x3 : ByteArray) (x4 x5 : List Pt) (x6 : Bool) (al be ga de : Pt) (x19 : List Pt) (s1 : Int) (p1 t1 b1 : ByteArray) (ks : List Pt) (nb : List ByteArray) (s2 : Int) (p2 t2 b2 : ByteArray) (fb : List ByteArray) (bits : Int) (sg a b c : Pt) (sn : Int) (tm : Int) (h4 : x4.length ≤ 1048576) (h5 : x5.length ≤ 1048576) :
    Does cp n_impl_checkSlots [aCl x0 x1 x2 x3 x4 x5 x6 al be ga de x19, aUpd s1 p1 t1 b1 ks nb s2 p2 t2 b2 fb bits sg a b c sn, .int .i64 tm] [.int .i64 (slotsN x0 x4 x5 x6 s1 s2 sn tm)] :=
  Ev.fn (fun k => F_impl_checkSlots k ..) (Ev.cc (fun _ => Ev.now _) fun _ => Ev.cc (fun _ => Ev.now _) fun _ => Ev.cc (fun _ => Ev.now _) fun _ => Ev.c (impl_Signers_ev x0 x1 x2 x3 x4 x5 x6 al.1 al.2.1 al.2.2 be.1 be.2.1 be.2.2 ga.1 ga.2.1 ga.2.2 de.1 de.2.1 de.2.2 x19 sn h4 h5) (Ev.cc (fun _ => Ev.now _) fun _ => Ev.c (impl_PeriodOf_ev _) (Ev.c (impl_PeriodOf_ev _) (Ev.cc (fun _ => Ev.now _) fun _ => Ev.c (impl_PeriodOf_ev _) (Ev.c (impl_PeriodOf_ev _) (Ev.cc (fun _ => Ev.cc (fun _ => Ev.now _) fun _ => Ev.cc (fun _ => Ev.now _) fun _ => Ev.now _) fun _ => Ev.now _))))))
def foldL (odd : Bool) (x : ByteArray) : List ByteArray → ByteArray
  | [a, b] => fold2 odd x a b
  | _ => ⟨#[]⟩
theorem spec_FoldL3_ev {x : ByteArray} (hx : x.size ≤ 1099511627776) {l : List ByteArray} (h : branchOk l = true) : Does cp n_spec_FoldBranch [.str x, .int .i64 3, .fs l.length (l.flatMap eS)] [.str (foldL true x l)] := by
  obtain ⟨a, b, rfl, ha, hb⟩ := two_of h
  exact spec_Fold3_ev hx ha hb
theorem spec_FoldL2_ev {x : ByteArray} (hx : x.size ≤ 1099511627776) {l : List ByteArray} (h : branchOk l = true) : Does cp n_spec_FoldBranch [.str x, .int .i64 2, .fs l.length (l.flatMap eS)] [.str (foldL false x l)] := by
  obtain ⟨a, b, rfl, ha, hb⟩ := two_of h
  exact spec_Fold2_ev hx ha hb
theorem impl_FoldL3_ev {x : ByteArray} (hx : x.size ≤ 1099511627776) {l : List ByteArray} (h : branchOk l = true) : Does cp n_impl_FoldBranch [.str x, .int .i64 3, .fs l.length (l.flatMap eS)] [.str (foldL true x l)] := by
  obtain ⟨a, b, rfl, ha, hb⟩ := two_of h
  exact impl_Fold3_ev hx ha hb
theorem impl_FoldL2_ev {x : ByteArray} (hx : x.size ≤ 1099511627776) {l : List ByteArray} (h : branchOk l = true) : Does cp n_impl_FoldBranch [.str x, .int .i64 2, .fs l.length (l.flatMap eS)] [.str (foldL false x l)] := by
  obtain ⟨a, b, rfl, ha, hb⟩ := two_of h
  exact impl_Fold2_ev hx ha hb
theorem updOk_nb (s1 : Int) (p1 t1 b1 : ByteArray) (ks : List Pt) (nb : List ByteArray) (s2 : Int) (p2 t2 b2 : ByteArray) (fb : List ByteArray) (bits : Int) (sg a b c : Pt) (sn : Int) (h : updateOk s1 p1 t1 b1 ks nb s2 p2 t2 b2 fb bits sg a b c sn = true) : branchOk nb = true ∧ branchOk fb = true := by
  unfold updateOk at h
  simp only [Bool.and_eq_true] at h
  exact ⟨h.2.2.2.1, h.2.2.2.2.1⟩
def checkN (x0 : Int) (x1 x2 x3 : ByteArray) (x4 x5 : List Pt) (x6 : Bool) (al be ga de : Pt) (x19 : List Pt) (s1 : Int) (p1 t1 b1 : ByteArray) (ks : List Pt) (nb : List ByteArray) (s2 : Int) (p2 t2 b2 : ByteArray) (fb : List ByteArray) (bits : Int) (sg a b c : Pt) (sn : Int) (tm : Int) : Int :=
  cond (notB (clOk x0 x1 x2 x3 x4 x5 x6)) 1 (cond (notB (updateOk s1 p1 t1 b1 ks nb s2 p2 t2 b2 fb bits sg a b c sn)) 1 (cond (notB (eqI (slotsN x0 x4 x5 x6 s1 s2 sn tm) 0)) (slotsN x0 x4 x5 x6 s1 s2 sn tm)
    (cond (notB (eqS (foldL true (headRt s2 p2 t2 b2) fb) t1)) 5 (cond (notB (eqS (foldL false (comRoot ks) nb) t1)) 6 (cond (ltI (bitsN bits) 6) 7
    (cond (notB (pfOk al be ga de x19 [bits, bitsN bits] a b c)) 8 (cond (notB (allSg (joinP (sgn x4 x5 x6 x0 sn).1 bits) (sgText s1 p1 t1 b1) sg)) 9 0)))))))
theorem spec_CheckUpdate_ev (x0 : Int) (x1 x2 x3 : ByteArray) (x4 x5 : List Pt) (x6 : Bool) (al be ga de : Pt) (x19 : List Pt) (s1 : Int) (p1 t1 b1 : ByteArray) (ks : List Pt) (nb : List ByteArray) (s2 : Int) (p2 t2 b2 : ByteArray) (fb : List ByteArray) (bits : Int) (sg a b c : Pt) (sn : Int) (tm : Int) (h4 : x4.length ≤ 1048576) (h5 : x5.length ≤ 1048576) (k1 : ks.length ≤ 1048576) (k2 : nb.length ≤ 1048576) (k3 : fb.length ≤ 1048576) :
    Does cp n_spec_CheckUpdate [aCl x0 x1 x2 x3 x4 x5 x6 al be ga de x19, aUpd s1 p1 t1 b1 ks nb s2 p2 t2 b2 fb bits sg a b c sn, .int .i64 tm] [.int .i64 (checkN x0 x1 x2 x3 x4 x5 x6 al be ga de x19 s1 p1 t1 b1 ks nb s2 p2 t2 b2 fb bits sg a b c sn tm)] := by
  have r1 := headRt_size s2 p2 t2 b2
  have r2 := comRoot_size ks
  have r3 := sgText_size s1 p1 t1 b1
  have r4 := joinP_len (sgn x4 x5 x6 x0 sn).1 bits
  have r5 := sgn_len (slot := x0) (signed := sn) (has := x6) h4 h5
  refine Ev.fn (fun k => F_spec_CheckUpdate k ..) (Ev.c (spec_ClientOk_ev x0 x1 x2 x3 x4 x5 x6 al be ga de x19 h4 h5) (Ev.cc (fun _ => Ev.now _) fun _ => Ev.c (spec_UpdateOk_ev s1 p1 t1 b1 ks nb s2 p2 t2 b2 fb bits sg a b c sn k1 k2 k3) (Ev.cc (fun _ => Ev.now _) fun hu => Ev.c (spec_l22Slots_ev x0 x1 x2 x3 x4 x5 x6 al be ga de x19 s1 p1 t1 b1 ks nb s2 p2 t2 b2 fb bits sg a b c sn tm h4 h5) (Ev.cc (fun _ => Ev.now _) fun _ => ?_))))
  have hu' := updOk_nb s1 p1 t1 b1 ks nb s2 p2 t2 b2 fb bits sg a b c sn (notB_fo hu)
  refine (Ev.c (spec_HeadRoot_ev s2 p2 t2 b2) (Ev.c (spec_FoldL3_ev (x := headRt s2 p2 t2 b2) (by omega) hu'.2) (Ev.cc (fun _ => Ev.now _) fun _ => ?_)))
  refine Ev.c (spec_CommitteeRoot_ev ks k1) (Ev.c (spec_FoldL2_ev (x := comRoot ks) (by omega) hu'.1) (Ev.cc (fun _ => Ev.now _) fun _ => ?_))
  refine Ev.c (spec_CountBits_ev bits) (Ev.cc (fun _ => Ev.now _) fun _ => Ev.c (spec_PublicOf_ev bits) ?_)
  refine Ev.c (spec_ProofOk_ev al be ga de x19 [bits, bitsN bits] a b c (by simp)) (Ev.cc (fun _ => Ev.now _) fun _ => ?_)
  exact Ev.c (spec_Signers_ev x0 x1 x2 x3 x4 x5 x6 al.1 al.2.1 al.2.2 be.1 be.2.1 be.2.2 ga.1 ga.2.1 ga.2.2 de.1 de.2.1 de.2.2 x19 sn h4 h5) (Ev.c (spec_Joined_ev (sgn x4 x5 x6 x0 sn).1 r5 bits) (Ev.c (spec_SigText_ev s1 p1 t1 b1) (Ev.c (spec_AllSigOk_ev (joinP (sgn x4 x5 x6 x0 sn).1 bits) (by omega) (sgText s1 p1 t1 b1) sg (by omega)) (Ev.cc (fun _ => Ev.now _) fun _ => Ev.now _))))
theorem impl_CheckUpdate_ev (x0 : Int) (x1 x2 x3 : ByteArray) (x4 x5 : List Pt) (x6 : Bool) (al be ga de : Pt) (x19 : List Pt) (s1 : Int) (p1 t1 b1 : ByteArray) (ks : List Pt) (nb : List ByteArray) (s2 : Int) (p2 t2 b2 : ByteArray) (fb : List ByteArray) (bits : Int) (sg a b c : Pt) (sn : Int) (tm : Int) (h4 : x4.length ≤ 1048576) (h5 : x5.length ≤ 1048576) (k1 : ks.length ≤ 1048576) (k2 : nb.length ≤ 1048576) (k3 : fb.length ≤ 1048576) :
    Does cp n_impl_CheckUpdate [aCl x0 x1 x2 x3 x4 x5 x6 al be ga de x19, aUpd s1 p1 t1 b1 ks nb s2 p2 t2 b2 fb bits sg a b c sn, .int .i64 tm] [.int .i64 (checkN x0 x1 x2 x3 x4 x5 x6 al be ga de x19 s1 p1 t1 b1 ks nb s2 p2 t2 b2 fb bits sg a b c sn tm)] := by
  have r1 := headRt_size s2 p2 t2 b2
  have r2 := comRoot_size ks
  have r3 := sgText_size s1 p1 t1 b1
  have r4 := joinP_len (sgn x4 x5 x6 x0 sn).1 bits
  have r5 := sgn_len (slot := x0) (signed := sn) (has := x6) h4 h5
  refine Ev.fn (fun k => F_impl_CheckUpdate k ..) (Ev.c (impl_ClientOk_ev x0 x1 x2 x3 x4 x5 x6 al be ga de x19 h4 h5) (Ev.cc (fun _ => Ev.now _) fun _ => Ev.c (impl_UpdateOk_ev s1 p1 t1 b1 ks nb s2 p2 t2 b2 fb bits sg a b c sn k1) (Ev.cc (fun _ => Ev.now _) fun hu => Ev.c (impl_checkSlots_ev x0 x1 x2 x3 x4 x5 x6 al be ga de x19 s1 p1 t1 b1 ks nb s2 p2 t2 b2 fb bits sg a b c sn tm h4 h5) (Ev.cc (fun _ => Ev.now _) fun _ => ?_))))
  have hu' := updOk_nb s1 p1 t1 b1 ks nb s2 p2 t2 b2 fb bits sg a b c sn (notB_fo hu)
  refine Ev.c (impl_Signers_ev x0 x1 x2 x3 x4 x5 x6 al.1 al.2.1 al.2.2 be.1 be.2.1 be.2.2 ga.1 ga.2.1 ga.2.2 de.1 de.2.1 de.2.2 x19 sn h4 h5) (Ev.c (impl_HeadRoot_ev s2 p2 t2 b2) (Ev.c (impl_FoldL3_ev (x := headRt s2 p2 t2 b2) (by omega) hu'.2) (Ev.cc (fun _ => Ev.now _) fun _ => ?_)))
  refine Ev.c (impl_CommitteeRoot_ev ks k1) (Ev.c (impl_FoldL2_ev (x := comRoot ks) (by omega) hu'.1) (Ev.cc (fun _ => Ev.now _) fun _ => ?_))
  refine Ev.c (impl_CountBits_ev bits) (Ev.cc (fun _ => Ev.now _) fun _ => Ev.c (impl_PublicOf_ev bits) ?_)
  refine Ev.c (impl_ProofOk_ev al be ga de x19 [bits, bitsN bits] a b c (by simp)) (Ev.cc (fun _ => Ev.now _) fun _ => ?_)
  exact (Ev.c (impl_Joined_ev (sgn x4 x5 x6 x0 sn).1 r5 bits) (Ev.c (impl_SigText_ev s1 p1 t1 b1) (Ev.c (impl_AllSigOk_ev (joinP (sgn x4 x5 x6 x0 sn).1 bits) (by omega) (sgText s1 p1 t1 b1) sg (by omega)) (Ev.cc (fun _ => Ev.now _) fun _ => Ev.now _))))


abbrev Hd4 := Int × ByteArray × ByteArray × ByteArray
def tkH (x0 : Int) (x1 x2 x3 : ByteArray) (s2 : Int) (p2 t2 b2 : ByteArray) : Hd4 := if x0 < s2 then (s2, p2, t2, b2) else (x0, x1, x2, x3)
def tkN (x0 : Int) (x4 x5 : List Pt) (x6 : Bool) (s1 : Int) (ks : List Pt) (s2 : Int) : List Pt × List Pt × Bool :=
  if pdv s2 = wr .i64 (addI (pdv x0) 1) then (if pdv s1 = wr .i64 (addI (pdv x0) 1) then (x5, ks, true) else (x5, [], false))
  else if x6 = false then (if pdv s1 = pdv x0 then (x4, ks, true) else (x4, x5, x6)) else (x4, x5, x6)
def aTk (H : Hd4) (T : List Pt × List Pt × Bool) (al be ga de : Pt) (x19 : List Pt) : AV := aCl H.1 H.2.1 H.2.2.1 H.2.2.2 T.1 T.2.1 T.2.2 al be ga de x19
theorem spec_l22Take_ev (x0 : Int) (x1 x2 x3 : ByteArray) (x4 x5 : List Pt) (x6 : Bool) (al be ga de : Pt) (x19 : List Pt) (s1 : Int) (p1 t1 b1 : ByteArray) (ks : List Pt) (nb : List ByteArray) (s2 : Int) (p2 t2 b2 : ByteArray) (fb : List ByteArray) (bits : Int) (sg a b c : Pt) (sn : Int) (h4 : x4.length ≤ 1048576) (h5 : x5.length ≤ 1048576) (k1 : ks.length ≤ 1048576) :
    Does cp n_spec_l22Take [.ref false 49 [.int .i64 x0, .str x1, .str x2, .str x3, .fs x4.length (x4.flatMap eP), .fs x5.length (x5.flatMap eP), .bool x6, .int .i64 al.1, .int .i64 al.2.1, .bool al.2.2, .int .i64 be.1, .int .i64 be.2.1, .bool be.2.2, .int .i64 ga.1, .int .i64 ga.2.1, .bool ga.2.2, .int .i64 de.1, .int .i64 de.2.1, .bool de.2.2, .fs x19.length (x19.flatMap eP)], aUpd s1 p1 t1 b1 ks nb s2 p2 t2 b2 fb bits sg a b c sn] [aTk (tkH x0 x1 x2 x3 s2 p2 t2 b2) (tkN x0 x4 x5 x6 s1 ks s2) al be ga de x19] := by
  refine Ev.fn (fun k => F_spec_l22Take k ..) (Ev.c (spec_PeriodOf_ev _) (Ev.c (spec_PeriodOf_ev _) ?_))
  unfold tkN tkH
  by_cases q1 : pdv s2 = wr .i64 (addI (pdv x0) 1)
  · rw [if_pos q1]
    refine Ev.t (eqI_t q1) (Ev.c (spec_l22Committee_ev x5 h5) (Ev.c (spec_PeriodOf_ev _) ?_))
    by_cases q2 : pdv s1 = wr .i64 (addI (pdv x0) 1)
    · rw [if_pos q2]
      refine Ev.t (eqI_t q2) (Ev.c (spec_l22Committee_ev ks k1) ?_)
      by_cases q3 : x0 < s2
      · rw [if_pos q3]; exact Ev.t (ltI_t q3) (Ev.now _)
      · rw [if_neg q3]; exact Ev.f (ltI_f q3) (Ev.now _)
    · rw [if_neg q2]
      refine Ev.f (eqI_f q2) ?_
      by_cases q3 : x0 < s2
      · rw [if_pos q3]; exact Ev.t (ltI_t q3) (Ev.now _)
      · rw [if_neg q3]; exact Ev.f (ltI_f q3) (Ev.now _)
  · rw [if_neg q1]
    refine Ev.f (eqI_f q1) ?_
    by_cases q0 : x6 = false
    · rw [if_pos q0]
      refine Ev.t (by rw [q0]; rfl) (Ev.c (spec_PeriodOf_ev _) ?_)
      by_cases q2 : pdv s1 = pdv x0
      · rw [if_pos q2]
        refine Ev.t (eqI_t q2) (Ev.c (spec_l22Committee_ev ks k1) ?_)
        by_cases q3 : x0 < s2
        · rw [if_pos q3]; exact Ev.t (ltI_t q3) (Ev.now _)
        · rw [if_neg q3]; exact Ev.f (ltI_f q3) (Ev.now _)
      · rw [if_neg q2]
        refine Ev.f (eqI_f q2) ?_
        by_cases q3 : x0 < s2
        · rw [if_pos q3]; exact Ev.t (ltI_t q3) (Ev.now _)
        · rw [if_neg q3]; exact Ev.f (ltI_f q3) (Ev.now _)
    · rw [if_neg q0]
      refine Ev.f (by rw [Bool.not_eq_false] at q0; rw [q0]; rfl) ?_
      by_cases q3 : x0 < s2
      · rw [if_pos q3]; exact Ev.t (ltI_t q3) (Ev.now _)
      · rw [if_neg q3]; exact Ev.f (ltI_f q3) (Ev.now _)
theorem spec_l22Copy_ev (x0 : Int) (x1 x2 x3 : ByteArray) (x4 x5 : List Pt) (x6 : Bool) (al be ga de : Pt) (x19 : List Pt) (h4 : x4.length ≤ 1048576) (h5 : x5.length ≤ 1048576) (h19 : x19.length ≤ 1048576) : Does cp n_spec_l22Copy [aCl x0 x1 x2 x3 x4 x5 x6 al be ga de x19] [aCl x0 x1 x2 x3 x4 x5 x6 al be ga de x19] := by
  refine Ev.fn (fun k => F_spec_l22Copy k ..) (Ev.c (spec_l22Committee_ev x4 h4) (Ev.c (spec_l22Committee_ev x5 h5) (Ev.g ?_ (Ev.some_ ?_))))
  · have e1 : lenEq (x19.flatMap eP) (mulN x19.length 3) = true := by
      unfold lenEq
      rw [encs_len eP_len, mulN_d]
      simp
    rw [e1, Bool.and_true]
    have := fitN_small (n := addN 0 x19.length) (b := 24) (by rw [addN_d]; omega) (by decide)
    rw [Bool.and_true] at this
    exact this
  · have e2 : cutC (catC (cutC [] 0 0) (x19.flatMap eP)) 0 (mulN (addN 0 x19.length) 3) = x19.flatMap eP := by
      rw [show catC (cutC [] 0 0) (x19.flatMap eP) = x19.flatMap eP from rfl, addN_d, Nat.zero_add]
      exact cut_all eP_len x19
    simp only [hdV_c, tlV_c, parts1_a, asInt_i, asBool_b, asStr_s, asLen_f, asCells_f, tupL_t, refCells_r, ownLen_o, e2]
    rw [addN_d, Nat.zero_add]
    rfl
def takeA (x0 : Int) (x1 x2 x3 : ByteArray) (x4 x5 : List Pt) (x6 : Bool) (al be ga de : Pt) (x19 : List Pt) (s1 : Int) (p1 t1 b1 : ByteArray) (ks : List Pt) (nb : List ByteArray) (s2 : Int) (p2 t2 b2 : ByteArray) (fb : List ByteArray) (bits : Int) (sg a b c : Pt) (sn : Int) (tm : Int) : AV :=
  if checkN x0 x1 x2 x3 x4 x5 x6 al be ga de x19 s1 p1 t1 b1 ks nb s2 p2 t2 b2 fb bits sg a b c sn tm = 0 then aTk (tkH x0 x1 x2 x3 s2 p2 t2 b2) (tkN x0 x4 x5 x6 s1 ks s2) al be ga de x19 else aCl x0 x1 x2 x3 x4 x5 x6 al be ga de x19
theorem aTk_eq (H : Hd4) (T : List Pt × List Pt × Bool) (al be ga de : Pt) (x19 : List Pt) : aTk H T al be ga de x19 = .agg [.int .i64 H.1, .str H.2.1, .str H.2.2.1, .str H.2.2.2, .fs T.1.length (T.1.flatMap eP), .fs T.2.1.length (T.2.1.flatMap eP), .bool T.2.2, .int .i64 al.1, .int .i64 al.2.1, .bool al.2.2, .int .i64 be.1, .int .i64 be.2.1, .bool be.2.2, .int .i64 ga.1, .int .i64 ga.2.1, .bool ga.2.2, .int .i64 de.1, .int .i64 de.2.1, .bool de.2.2, .fs x19.length (x19.flatMap eP)] := rfl
theorem spec_TakeUpdate_ev (x0 : Int) (x1 x2 x3 : ByteArray) (x4 x5 : List Pt) (x6 : Bool) (al be ga de : Pt) (x19 : List Pt) (s1 : Int) (p1 t1 b1 : ByteArray) (ks : List Pt) (nb : List ByteArray) (s2 : Int) (p2 t2 b2 : ByteArray) (fb : List ByteArray) (bits : Int) (sg a b c : Pt) (sn : Int) (tm : Int) (h4 : x4.length ≤ 1048576) (h5 : x5.length ≤ 1048576) (h19 : x19.length ≤ 1048576) (k1 : ks.length ≤ 1048576) (k2 : nb.length ≤ 1048576) (k3 : fb.length ≤ 1048576) :
    Does cp n_spec_TakeUpdate [aCl x0 x1 x2 x3 x4 x5 x6 al be ga de x19, aUpd s1 p1 t1 b1 ks nb s2 p2 t2 b2 fb bits sg a b c sn, .int .i64 tm] [takeA x0 x1 x2 x3 x4 x5 x6 al be ga de x19 s1 p1 t1 b1 ks nb s2 p2 t2 b2 fb bits sg a b c sn tm, .int .i64 (checkN x0 x1 x2 x3 x4 x5 x6 al be ga de x19 s1 p1 t1 b1 ks nb s2 p2 t2 b2 fb bits sg a b c sn tm)] := by
  refine Ev.fn (fun k => F_spec_TakeUpdate k ..) (Ev.c (spec_l22Copy_ev x0 x1 x2 x3 x4 x5 x6 al be ga de x19 h4 h5 h19) (Ev.c (spec_CheckUpdate_ev x0 x1 x2 x3 x4 x5 x6 al be ga de x19 s1 p1 t1 b1 ks nb s2 p2 t2 b2 fb bits sg a b c sn tm h4 h5 k1 k2 k3) ?_))
  unfold takeA
  by_cases q : checkN x0 x1 x2 x3 x4 x5 x6 al be ga de x19 s1 p1 t1 b1 ks nb s2 p2 t2 b2 fb bits sg a b c sn tm = 0
  · rw [if_pos q]
    refine Ev.t (eqI_t q) (Ev.c (spec_l22Take_ev x0 x1 x2 x3 x4 x5 x6 al be ga de x19 s1 p1 t1 b1 ks nb s2 p2 t2 b2 fb bits sg a b c sn h4 h5 k1) ?_)
    generalize tkH x0 x1 x2 x3 s2 p2 t2 b2 = H
    generalize tkN x0 x4 x5 x6 s1 ks s2 = T
    simp only [aTk_eq]
    exact Ev.now _
  · rw [if_neg q]
    exact Ev.f (eqI_f q) (Ev.now _)
theorem cond_z {b : Bool} {c x : Int} (hc : c ≠ 0) (h : cond b c x = 0) : b = false ∧ x = 0 := by
  cases b
  · exact ⟨rfl, h⟩
  · exact absurd h hc
theorem pdv_eq {x : Int} (h : 0 ≤ x ∧ x ≤ 10000) : pdv x = x / 8 := by
  unfold pdv
  rw [if_neg (by omega), quoI_d, tdiv_pos h.1, wr64 (by omega)]
theorem tk_facts (x0 : Int) (x1 x2 x3 : ByteArray) (x4 x5 : List Pt) (x6 : Bool) (al be ga de : Pt) (x19 : List Pt) (s1 : Int) (p1 t1 b1 : ByteArray) (ks : List Pt) (nb : List ByteArray) (s2 : Int) (p2 t2 b2 : ByteArray) (fb : List ByteArray) (bits : Int) (sg a b c : Pt) (sn : Int) (tm : Int) (h : checkN x0 x1 x2 x3 x4 x5 x6 al be ga de x19 s1 p1 t1 b1 ks nb s2 p2 t2 b2 fb bits sg a b c sn tm = 0) :
    (0 ≤ x0 ∧ x0 ≤ 10000) ∧ (0 ≤ s1 ∧ s1 ≤ 10000) ∧ (0 ≤ s2 ∧ s2 ≤ 10000) ∧ s2 ≤ s1 ∧ (pdv s1 = pdv x0 ∨ x6 = true) := by
  unfold checkN at h
  obtain ⟨c1, h⟩ := cond_z (by decide) h
  obtain ⟨c2, h⟩ := cond_z (by decide) h
  have hc := notB_fo c1
  have hu := notB_fo c2
  unfold clOk at hc
  unfold updateOk at hu
  simp only [Bool.and_eq_true] at hc hu
  obtain ⟨hx, _⟩ := headOk_to hc.1
  obtain ⟨hs1, _⟩ := headOk_to hu.1
  obtain ⟨hs2, _⟩ := headOk_to hu.2.1
  have hz : slotsN x0 x4 x5 x6 s1 s2 sn tm = 0 := by
    cases q : notB (eqI (slotsN x0 x4 x5 x6 s1 s2 sn tm) 0) with
    | false => exact of_decide_eq_true (notB_fo q)
    | true =>
      rw [q] at h
      exact h
  unfold slotsN at hz
  obtain ⟨d1, hz⟩ := cond_z (by decide) hz
  obtain ⟨d2, hz⟩ := cond_z (by decide) hz
  obtain ⟨d3, hz⟩ := cond_z (by decide) hz
  obtain ⟨d4, hz⟩ := cond_z (by decide) hz
  obtain ⟨d5, hz⟩ := cond_z (by decide) hz
  have e1 := ltI_fo d1
  have e4 := notB_fo d4
  have e5 : pdv s1 = pdv sn := of_decide_eq_true (notB_fo d5)
  refine ⟨hx, hs1, hs2, by omega, ?_⟩
  unfold sgn at e4
  split at e4
  · rename_i q
    have : pdv sn = pdv x0 := of_decide_eq_true q
    exact Or.inl (by rw [e5, this])
  · split at e4
    · rename_i q
      rw [Bool.and_eq_true] at q
      exact Or.inr q.2
    · cases e4
theorem tk_max1 {x0 s2 : Int} (hx : 0 ≤ x0 ∧ x0 ≤ 10000) (h2 : 0 ≤ s2 ∧ s2 ≤ 10000) (q : pdv s2 = wr .i64 (addI (pdv x0) 1)) : pdv (maxI s2 x0) = wr .i64 (addI (pdv x0) 1) := by
  have e0 := pdv_eq hx
  have e2 := pdv_eq h2
  have ew : wr .i64 (addI (pdv x0) 1) = x0 / 8 + 1 := by rw [addI_d, e0, wr64 (by omega)]
  rw [← q]
  unfold maxI
  split
  · omega
  · rfl
theorem tk_max2 {x0 s1 s2 : Int} (hx : 0 ≤ x0 ∧ x0 ≤ 10000) (h1 : 0 ≤ s1 ∧ s1 ≤ 10000) (h2 : 0 ≤ s2 ∧ s2 ≤ 10000) (hs : s2 ≤ s1) (q : pdv s1 = pdv x0) : pdv (maxI s2 x0) = pdv x0 := by
  have e0 := pdv_eq hx
  have e1 := pdv_eq h1
  have e2 := pdv_eq h2
  unfold maxI
  split
  · rfl
  · omega
theorem impl_copyClient_ev (x0 : Int) (x1 x2 x3 : ByteArray) (x4 x5 : List Pt) (x6 : Bool) (al be ga de : Pt) (x19 : List Pt) (h4 : x4.length ≤ 1048576) (h5 : x5.length ≤ 1048576) (h19 : x19.length ≤ 1048576) : Does cp n_impl_copyClient [aCl x0 x1 x2 x3 x4 x5 x6 al be ga de x19] [aCl x0 x1 x2 x3 x4 x5 x6 al be ga de x19] :=
  Ev.fn (fun k => F_impl_copyClient k ..) (Ev.c (impl_copyCommittee_ev x4 h4) (Ev.c (impl_copyCommittee_ev x5 h5) (Ev.c (s := [.agg [.int .i64 al.1, .int .i64 al.2.1, .bool al.2.2, .int .i64 be.1, .int .i64 be.2.1, .bool be.2.2, .int .i64 ga.1, .int .i64 ga.2.1, .bool ga.2.2, .int .i64 de.1, .int .i64 de.2.1, .bool de.2.2, .fs x19.length (x19.flatMap eP)]]) (Ev.fn (fun k => F_impl_copyKeys k ..) (Ev.c (slices_Clone_Point_ev x19 h19) (Ev.some_ (by simp only [hdV_c, tlV_c, parts1_a, asInt_i, asBool_b, asStr_s, asLen_f, asCells_f, tupL_t, refCells_r, ownLen_o, cut_all eP_len])))) (Ev.some_ (by simp only [hdV_c, tlV_c, parts1_a, asInt_i, asBool_b, asStr_s, asLen_f, asCells_f, tupL_t, refCells_r, ownLen_o, cut_all eP_len]; rfl)))))
theorem impl_TakeUpdate_ev (x0 : Int) (x1 x2 x3 : ByteArray) (x4 x5 : List Pt) (x6 : Bool) (al be ga de : Pt) (x19 : List Pt) (s1 : Int) (p1 t1 b1 : ByteArray) (ks : List Pt) (nb : List ByteArray) (s2 : Int) (p2 t2 b2 : ByteArray) (fb : List ByteArray) (bits : Int) (sg a b c : Pt) (sn : Int) (tm : Int) (h4 : x4.length ≤ 1048576) (h5 : x5.length ≤ 1048576) (h19 : x19.length ≤ 1048576) (k1 : ks.length ≤ 1048576) (k2 : nb.length ≤ 1048576) (k3 : fb.length ≤ 1048576) :
    Does cp n_impl_TakeUpdate [aCl x0 x1 x2 x3 x4 x5 x6 al be ga de x19, aUpd s1 p1 t1 b1 ks nb s2 p2 t2 b2 fb bits sg a b c sn, .int .i64 tm] [takeA x0 x1 x2 x3 x4 x5 x6 al be ga de x19 s1 p1 t1 b1 ks nb s2 p2 t2 b2 fb bits sg a b c sn tm, .int .i64 (checkN x0 x1 x2 x3 x4 x5 x6 al be ga de x19 s1 p1 t1 b1 ks nb s2 p2 t2 b2 fb bits sg a b c sn tm)] := by
  refine Ev.fn (fun k => F_impl_TakeUpdate k ..) (Ev.c (impl_copyClient_ev x0 x1 x2 x3 x4 x5 x6 al be ga de x19 h4 h5 h19) (Ev.c (impl_CheckUpdate_ev x0 x1 x2 x3 x4 x5 x6 al be ga de x19 s1 p1 t1 b1 ks nb s2 p2 t2 b2 fb bits sg a b c sn tm h4 h5 k1 k2 k3) ?_))
  unfold takeA
  by_cases q : checkN x0 x1 x2 x3 x4 x5 x6 al be ga de x19 s1 p1 t1 b1 ks nb s2 p2 t2 b2 fb bits sg a b c sn tm = 0
  rotate_left
  · rw [if_neg q]
    exact Ev.t (by show notB (eqI (checkN x0 x1 x2 x3 x4 x5 x6 al be ga de x19 s1 p1 t1 b1 ks nb s2 p2 t2 b2 fb bits sg a b c sn tm) 0) = true; rw [eqI_f q]; rfl) (Ev.some_ (by simp only [aCl, hdV_c, tlV_c, parts1_a, asInt_i, asBool_b, asStr_s, asLen_f, asCells_f, tupL_t, refCells_r, ownLen_o, cut_all eP_len]))
  rw [if_pos q]
  obtain ⟨hx, hs1, hs2, hs, hp⟩ := tk_facts x0 x1 x2 x3 x4 x5 x6 al be ga de x19 s1 p1 t1 b1 ks nb s2 p2 t2 b2 fb bits sg a b c sn tm q
  refine Ev.f (by show notB (eqI (checkN x0 x1 x2 x3 x4 x5 x6 al be ga de x19 s1 p1 t1 b1 ks nb s2 p2 t2 b2 fb bits sg a b c sn tm) 0) = false; rw [q]; rfl) (Ev.c (impl_PeriodOf_ev _) (Ev.c (impl_PeriodOf_ev _) ?_))
  rw [q]
  simp only [aCl, hdV_c, tlV_c, parts1_a, asInt_i, asBool_b, asStr_s, asLen_f, asCells_f, tupL_t, refCells_r, ownLen_o, cut_all eP_len]
  unfold tkN tkH
  by_cases q1 : pdv s2 = wr .i64 (addI (pdv x0) 1)
  · rw [if_pos q1]
    refine Ev.t (eqI_t q1) (Ev.c (impl_PeriodOf_ev _) (Ev.c (impl_PeriodOf_ev _) ?_))
    have hm := tk_max1 hx hs2 q1
    by_cases q2 : pdv s1 = wr .i64 (addI (pdv x0) 1)
    · rw [if_pos q2]
      refine Ev.t (eqI_t (by rw [← hm] at q2; exact q2)) (Ev.c (impl_copyCommittee_ev ks k1) ?_)
      by_cases q3 : x0 < s2
      · rw [if_pos q3]; exact Ev.t (ltI_t q3) (Ev.some_ (by simp only [aTk, aCl, hdV_c, tlV_c, parts1_a, asInt_i, asBool_b, asStr_s, asLen_f, asCells_f, tupL_t, refCells_r, ownLen_o, cut_all eP_len]))
      · rw [if_neg q3]; exact Ev.f (ltI_f q3) (Ev.some_ (by simp only [aTk, aCl, hdV_c, tlV_c, parts1_a, asInt_i, asBool_b, asStr_s, asLen_f, asCells_f, tupL_t, refCells_r, ownLen_o, cut_all eP_len]))
    · rw [if_neg q2]
      refine Ev.f (eqI_f (by rw [← hm] at q2; exact q2)) ?_
      by_cases q3 : x0 < s2
      · rw [if_pos q3]; exact Ev.t (ltI_t q3) (Ev.some_ (by simp only [aTk, aCl, hdV_c, tlV_c, parts1_a, asInt_i, asBool_b, asStr_s, asLen_f, asCells_f, tupL_t, refCells_r, ownLen_o, cut_all eP_len]; rfl))
      · rw [if_neg q3]; exact Ev.f (ltI_f q3) (Ev.some_ (by simp only [aTk, aCl, hdV_c, tlV_c, parts1_a, asInt_i, asBool_b, asStr_s, asLen_f, asCells_f, tupL_t, refCells_r, ownLen_o, cut_all eP_len]; rfl))
  · rw [if_neg q1]
    refine Ev.f (eqI_f q1) (Ev.c (impl_PeriodOf_ev _) ?_)
    by_cases q0 : x6 = false
    · rw [if_pos q0]
      refine Ev.t (by rw [q0]; rfl) (Ev.c (impl_PeriodOf_ev _) ?_)
      by_cases q2 : pdv s1 = pdv x0
      · rw [if_pos q2]
        have hm := tk_max2 hx hs1 hs2 hs q2
        refine Ev.t (eqI_t (by rw [← hm] at q2; exact q2)) (Ev.c (impl_copyCommittee_ev ks k1) ?_)
        by_cases q3 : x0 < s2
        · rw [if_pos q3]; exact Ev.t (ltI_t q3) (Ev.some_ (by simp only [aTk, aCl, hdV_c, tlV_c, parts1_a, asInt_i, asBool_b, asStr_s, asLen_f, asCells_f, tupL_t, refCells_r, ownLen_o, cut_all eP_len]))
        · rw [if_neg q3]; exact Ev.f (ltI_f q3) (Ev.some_ (by simp only [aTk, aCl, hdV_c, tlV_c, parts1_a, asInt_i, asBool_b, asStr_s, asLen_f, asCells_f, tupL_t, refCells_r, ownLen_o, cut_all eP_len]))
      · rcases hp with hp | hp
        · exact absurd hp q2
        · rw [q0] at hp; cases hp
    · rw [if_neg q0]
      refine Ev.f (by rw [Bool.not_eq_false] at q0; rw [q0]; rfl) ?_
      by_cases q3 : x0 < s2
      · rw [if_pos q3]; exact Ev.t (ltI_t q3) (Ev.some_ (by simp only [aTk, aCl, hdV_c, tlV_c, parts1_a, asInt_i, asBool_b, asStr_s, asLen_f, asCells_f, tupL_t, refCells_r, ownLen_o, cut_all eP_len]))
      · rw [if_neg q3]; exact Ev.f (ltI_f q3) (Ev.some_ (by simp only [aTk, aCl, hdV_c, tlV_c, parts1_a, asInt_i, asBool_b, asStr_s, asLen_f, asCells_f, tupL_t, refCells_r, ownLen_o, cut_all eP_len]))


/-- A point marked from k on. -/
def mkP (k : Int) : Pt := (k, k + 1, eqI (remI (k + 2) 3) 0)
def mkL (n : Nat) (k : Int) : List Pt := (List.range n).map fun (j : Nat) => mkP (k + 3 * (j : Int))
theorem mkL_len (n : Nat) (k : Int) : (mkL n k).length = n := by simp [mkL]
theorem mkL_succ (n : Nat) (k : Int) : mkL (n + 1) k = mkL n k ++ [mkP (k + 3 * (n : Int))] := by simp [mkL, List.range_succ]
theorem mkL_get (n : Nat) (k : Int) (i : Nat) (h : i < (mkL n k).length) : (mkL n k)[i] = mkP (k + 3 * (i : Int)) := by simp [mkL]
theorem wrK {s : Int} (h : 0 ≤ s) (h2 : s ≤ 2199023255552) : wr .i64 (addI s 1) = s + 1 := by rw [addI_d, wr64 (by omega)]
theorem set_mid (xs : List Pt) (i : Nat) (k : Int) (hi : i < xs.length) : (mkL i k ++ xs.drop i).set i (mkP (k + 3 * (i : Int))) = mkL (i + 1) k ++ xs.drop (i + 1) := by
  have hl := mkL_len i k
  rw [mkL_succ, List.append_assoc, List.drop_eq_getElem_cons hi]
  rw [List.set_append, if_neg (by omega), hl, Nat.sub_self, List.set_cons_zero]
  rfl
theorem set3 (b : List AV) (o : Nat) (x y z : AV) : setMany (setMany (setMany b o [x]) (addN o 1) [y]) (addN o 2) [z] = setMany b o [x, y, z] := rfl
theorem set1_len (b : List AV) (o : Nat) (x : AV) : (setMany b o [x]).length = b.length := by show (b.set o x).length = _; rw [List.length_set]
theorem laws_markPointS_l (xs : List Pt) (hl : xs.length ≤ 1048576) (k0 : Int) (h0 : 0 ≤ k0) (h1 : k0 ≤ 1099511627776) (d : Nat) : ∀ i : Nat, i + d = xs.length →
    Ev (fun k m _ _ => L_laws_markPointS_a_0 k m xs.length (i : Int) (k0 + 3 * (i : Int)) ((mkL i k0 ++ xs.drop i).flatMap eP)) [.tup [.ref true 45 ((mkL xs.length k0).flatMap eP)], .int .i64 (k0 + 3 * (xs.length : Int))] := by
  induction d with
  | zero =>
    intro i hi
    refine Ev.step (fun k m _ _ => L_laws_markPointS_a_0_s k m _ _ _ _) (Ev.f (ltI_f (by rw [lenI_c]; omega)) (Ev.some_ ?_))
    have : i = xs.length := by omega
    subst this
    rw [List.drop_length, List.append_nil]
  | succ d ih =>
    intro i hi
    have hlen : ((mkL i k0 ++ xs.drop i).flatMap eP).length = xs.length * 3 := by
      rw [encs_len eP_len, List.length_append, mkL_len, List.length_drop, show i + (xs.length - i) = xs.length by omega]
    have hs : setMany ((mkL i k0 ++ xs.drop i).flatMap eP) (i * 3) (eP (mkP (k0 + 3 * (i : Int)))) = (mkL (i + 1) k0 ++ xs.drop (i + 1)).flatMap eP := by
      rw [set_encs eP_len _ _ _ (by rw [List.length_append, mkL_len, List.length_drop]; omega), set_mid xs i k0 (by omega)]
    have w1 : wr .i64 (addI (k0 + 3 * (i : Int)) 1) = k0 + 3 * (i : Int) + 1 := wrK (by omega) (by omega)
    have w2 : wr .i64 (addI (k0 + 3 * (i : Int) + 1) 1) = k0 + 3 * (i : Int) + 2 := by rw [wrK (by omega) (by omega)]; omega
    have w3 : wr .i64 (addI (k0 + 3 * (i : Int) + 2) 1) = k0 + 3 * ((i + 1 : Nat) : Int) := by rw [wrK (by omega) (by omega)]; omega
    have n1 := set1_len
    refine Ev.step (fun k m _ _ => L_laws_markPointS_a_0_s k m _ _ _ _) ?_
    simp only [w1, w2, w3, set1_len, hlen, set3, wrS (show i < 9223372036854775807 by omega), natI_c, mulN_d, addN_d, Nat.zero_add]
    refine Ev.t (ltI_t (by rw [lenI_c]; omega)) (Ev.g (inR_n (by omega)) (Ev.g (Nat.ble_eq_true_of_le (by omega)) (Ev.g (inR_n (by omega)) (Ev.g (Nat.ble_eq_true_of_le (by omega)) (Ev.g (inR_n (by omega)) (Ev.g (Nat.ble_eq_true_of_le (by omega)) ?_))))))
    have e3 : setMany (setMany (setMany ((mkL i k0 ++ xs.drop i).flatMap eP) (i * 3) [.int .i64 (k0 + 3 * (i : Int))]) (i * 3 + 1) [.int .i64 (k0 + 3 * (i : Int) + 1)]) (i * 3 + 2) [.bool (eqI (remI (k0 + 3 * (i : Int) + 2) 3) 0)] = (mkL (i + 1) k0 ++ xs.drop (i + 1)).flatMap eP := hs
    rw [e3]
    exact ih (i + 1) (by omega)
theorem laws_markPointS_ev (xs : List Pt) (hl : xs.length ≤ 1048576) (k0 : Int) (h0 : 0 ≤ k0) (h1 : k0 ≤ 1099511627776) : Does cp n_laws_markPointS [.tup [.ref true 45 (xs.flatMap eP)], .own 0 0 xs.length, .int .i64 k0] [.tup [.ref true 45 ((mkL xs.length k0).flatMap eP)], .int .i64 (k0 + 3 * (xs.length : Int))] := by
  have := (laws_markPointS_l xs hl k0 h0 h1 xs.length 0 (by omega)).l0
  refine Ev.fn (fun k => F_laws_markPointS_a k _ _ _) ?_
  have e : (mkL 0 k0 ++ xs.drop 0).flatMap eP = xs.flatMap eP := rfl
  rw [e] at this
  have e2 : k0 + 3 * ((0 : Nat) : Int) = k0 := by omega
  rw [e2] at this
  exact this
theorem laws_markCommittee_ev (xs : List Pt) (hl : xs.length ≤ 1048576) (k0 : Int) (h0 : 0 ≤ k0) (h1 : k0 ≤ 1099511627776) : Does cp n_laws_markCommittee [.tup [.ref true 45 (xs.flatMap eP)], .agg [.own 0 0 xs.length], .int .i64 k0] [.tup [.ref true 45 ((mkL xs.length k0).flatMap eP)], .int .i64 (k0 + 3 * (xs.length : Int))] :=
  Ev.fn (fun k => F_laws_markCommittee_a k _ _ _) (Ev.c (laws_markPointS_ev xs hl k0 h0 h1) (Ev.g rfl (Ev.now _)))
theorem laws_heldPointS_l (n : Nat) (hl : n ≤ 1048576) (k0 : Int) (h0 : 0 ≤ k0) (h1 : k0 ≤ 1099511627776) (d : Nat) : ∀ i : Nat, i + d = n →
    Ev (fun k m _ _ => L_laws_heldPointS_0 k m n ((mkL n k0).flatMap eP) (i : Int) (k0 + 3 * (i : Int))) [.int .i64 (k0 + 3 * (n : Int))] := by
  induction d with
  | zero =>
    intro i hi
    refine Ev.step (fun k m _ _ => L_laws_heldPointS_0_s k m _ _ _ _) (Ev.f (ltI_f (by rw [lenI_c]; omega)) (Ev.some_ ?_))
    have : i = n := by omega
    subst this; rfl
  | succ d ih =>
    intro i hi
    have hll := mkL_len n k0
    have hg := mkL_get n k0 i (by omega)
    have c0 : cellAt ((mkL n k0).flatMap eP) (mulN (natI (i : Int)) 3) = .int .i64 ((mkL n k0)[i]'(by omega)).1 := cell_enc0 eP_len (by omega) (by decide)
    have c1 : cellAt ((mkL n k0).flatMap eP) (addN (mulN (natI (i : Int)) 3) 1) = .int .i64 ((mkL n k0)[i]'(by omega)).2.1 := cell_enc eP_len (by omega) 1 (by decide)
    have c2 : cellAt ((mkL n k0).flatMap eP) (addN (mulN (natI (i : Int)) 3) 2) = .bool ((mkL n k0)[i]'(by omega)).2.2 := cell_enc eP_len (by omega) 2 (by decide)
    rw [hg] at c0 c1 c2
    have w1 : wr .i64 (addI (k0 + 3 * (i : Int)) 1) = k0 + 3 * (i : Int) + 1 := wrK (by omega) (by omega)
    have w2 : wr .i64 (addI (k0 + 3 * (i : Int) + 1) 1) = k0 + 3 * (i : Int) + 2 := by rw [wrK (by omega) (by omega)]; omega
    have w3 : wr .i64 (addI (k0 + 3 * (i : Int) + 2) 1) = k0 + 3 * ((i + 1 : Nat) : Int) := by rw [wrK (by omega) (by omega)]; omega
    refine Ev.step (fun k m _ _ => L_laws_heldPointS_0_s k m _ _ _ _) ?_
    simp only [c0, c1, c2, w1, w2, w3, hdV_c, tlV_c, parts1_a, asInt_i, asBool_b, asStr_s, asLen_f, asCells_f, tupL_t, refCells_r, ownLen_o, wrS (show i < 9223372036854775807 by omega), mkP]
    refine Ev.t (ltI_t (by rw [lenI_c]; omega)) (Ev.g (inR_n (by omega)) (Ev.g rfl (Ev.f (by rw [eqI_t rfl]; rfl) (Ev.g (inR_n (by omega)) (Ev.g rfl (Ev.f (by rw [eqI_t rfl]; rfl) (Ev.g (inR_n (by omega)) (Ev.g rfl (Ev.f (by rw [eqB_d]; simp [notB]) ?_)))))))))
    exact ih (i + 1) (by omega)
theorem laws_heldPointS_ev (n : Nat) (hl : n ≤ 1048576) (k0 : Int) (h0 : 0 ≤ k0) (h1 : k0 ≤ 1099511627776) : Does cp n_laws_heldPointS [.fs n ((mkL n k0).flatMap eP), .int .i64 k0] [.int .i64 (k0 + 3 * (n : Int))] := by
  have := (laws_heldPointS_l n hl k0 h0 h1 n 0 (by omega)).l0
  have e2 : k0 + 3 * ((0 : Nat) : Int) = k0 := by omega
  rw [e2] at this
  exact Ev.fn (fun k => F_laws_heldPointS k _ _ _) this
theorem laws_heldCommittee_ev (n : Nat) (hl : n ≤ 1048576) (k0 : Int) (h0 : 0 ≤ k0) (h1 : k0 ≤ 1099511627776) : Does cp n_laws_heldCommittee [.agg [.fs n ((mkL n k0).flatMap eP)], .int .i64 k0] [.int .i64 (k0 + 3 * (n : Int))] :=
  Ev.fn (fun k => F_laws_heldCommittee k _ _ _) (Ev.c (laws_heldPointS_ev n hl k0 h0 h1) (Ev.f (ltI_f (by simp only [hdV_c, tlV_c, parts1_a, asInt_i, asBool_b, asStr_s, asLen_f, asCells_f, tupL_t, refCells_r, ownLen_o]; omega)) (Ev.now _)))


theorem laws_markText_l (f : Nat) : ∀ (n : Nat) (s : ByteArray), n < 10 ^ f → n ≤ 1000000000 → s.size + f ≤ 1000 → ∃ r, Ev (fun k m _ _ => L_laws_markText_0 k m (n : Int) s) [.str r] := by
  have fin : ∀ (s : ByteArray), s.size ≤ 1000 → ∃ r, Ev (fun k m _ _ => L_laws_markText_0 k m ((0 : Nat) : Int) s) [.str r] := fun s hs =>
    ⟨_, Ev.step (fun k m _ _ => L_laws_markText_0_s k m _ _) (Ev.f (ltI_f (by omega)) (Ev.g (fitS_small (by show 1 + s.size ≤ _; omega)) (Ev.now _)))⟩
  induction f with
  | zero =>
    intro n s h _ hs
    have : n = 0 := by rw [Nat.pow_zero] at h; omega
    subst this
    exact fin s (by omega)
  | succ f ih =>
    intro n s h hn hs
    rcases Nat.eq_zero_or_pos n with rfl | hp
    · exact fin s (by omega)
    · have e2 : wr .i64 (quoI (n : Int) 10) = ((n / 10 : Nat) : Int) := by rw [quoI_d, tdiv_pos (by omega), wr64 (by omega)]; omega
      obtain ⟨r, e⟩ := ih (n / 10) (catS (strOf (cutC [.int .u8 (wr .u8 (wr .i64 (addI 48 (remI (n : Int) 10))))] 0 1)) s) (by rw [Nat.pow_succ] at h; omega) (by omega) (by
        show (_ ++ _ : ByteArray).size + f ≤ _
        rw [ByteArray.size_append, show (strOf (cutC [.int .u8 (wr .u8 (wr .i64 (addI 48 (remI (n : Int) 10))))] 0 1)).size = 1 from rfl]
        omega)
      refine ⟨r, Ev.step (fun k m _ _ => L_laws_markText_0_s k m _ _) (Ev.t (ltI_t (by omega)) (Ev.g rfl (Ev.g (fitS_small (by rw [show (strOf (cutC [.int .u8 (wr .u8 (wr .i64 (addI 48 (remI (n : Int) 10))))] 0 1)).size = 1 from rfl]; omega)) ?_)))⟩
      rw [e2]
      exact e
theorem laws_markText_ex (n : Nat) (hn : n ≤ 1000000000) : ∃ r, Does cp n_laws_markText [.int .i64 (n : Int)] [.str r] := by
  rcases Nat.eq_zero_or_pos n with rfl | hp
  · exact ⟨_, Ev.fn (fun k => F_laws_markText k _) (Ev.t (leI_t (by omega)) (Ev.now _))⟩
  · obtain ⟨r, e⟩ := laws_markText_l 10 n (⟨#[]⟩ : ByteArray) (by omega) hn (by decide)
    exact ⟨r, Ev.fn (fun k => F_laws_markText k _) (Ev.f (leI_f (by omega)) e.l0)⟩
open Classical in
/-- The text of a mark. -/
noncomputable def mT (n : Nat) : ByteArray := if h : ∃ r, Does cp n_laws_markText [.int .i64 (n : Int)] [.str r] then Classical.choose h else (⟨#[]⟩ : ByteArray)
theorem laws_markText_ev (n : Nat) (hn : n ≤ 1000000000) : Does cp n_laws_markText [.int .i64 (n : Int)] [.str (mT n)] := by
  unfold mT
  rw [dif_pos (laws_markText_ex n hn)]
  exact Classical.choose_spec (laws_markText_ex n hn)
noncomputable def mS (n k : Nat) : List ByteArray := (List.range n).map fun j => mT (k + j)
theorem mS_len (n k : Nat) : (mS n k).length = n := by simp [mS]
theorem mS_succ (n k : Nat) : mS (n + 1) k = mS n k ++ [mT (k + n)] := by simp [mS, List.range_succ]
theorem setS_mid (xs : List ByteArray) (i k : Nat) (hi : i < xs.length) : (mS i k ++ xs.drop i).set i (mT (k + i)) = mS (i + 1) k ++ xs.drop (i + 1) := by
  have hl := mS_len i k
  rw [mS_succ, List.append_assoc, List.drop_eq_getElem_cons hi]
  rw [List.set_append, if_neg (by omega), hl, Nat.sub_self, List.set_cons_zero]
  rfl
theorem laws_markStringS_l (xs : List ByteArray) (k0 : Nat) (hl : k0 + xs.length ≤ 1000000000) (d : Nat) : ∀ i : Nat, i + d = xs.length →
    Ev (fun k m _ _ => L_laws_markStringS_a_0 k m xs.length (i : Int) ((k0 + i : Nat) : Int) ((mS i k0 ++ xs.drop i).flatMap eS)) [.tup [.ref true 9 ((mS xs.length k0).flatMap eS)], .int .i64 ((k0 + xs.length : Nat) : Int)] := by
  induction d with
  | zero =>
    intro i hi
    refine Ev.step (fun k m _ _ => L_laws_markStringS_a_0_s k m _ _ _ _) (Ev.f (ltI_f (by rw [lenI_c]; omega)) (Ev.some_ ?_))
    have : i = xs.length := by omega
    subst this
    rw [List.drop_length, List.append_nil]
  | succ d ih =>
    intro i hi
    have hlen : ((mS i k0 ++ xs.drop i).flatMap eS).length = xs.length * 1 := by
      rw [encs_len eS_len, List.length_append, mS_len, List.length_drop, show i + (xs.length - i) = xs.length by omega]
    have hs : setMany ((mS i k0 ++ xs.drop i).flatMap eS) (i * 1) (eS (mT (k0 + i))) = (mS (i + 1) k0 ++ xs.drop (i + 1)).flatMap eS := by
      rw [set_encs eS_len _ _ _ (by rw [List.length_append, mS_len, List.length_drop]; omega), setS_mid xs i k0 (by omega)]
    have hs' : setMany ((mS i k0 ++ xs.drop i).flatMap eS) (i * 1) [.str (mT (k0 + i))] = (mS (i + 1) k0 ++ xs.drop (i + 1)).flatMap eS := hs
    refine Ev.step (fun k m _ _ => L_laws_markStringS_a_0_s k m _ _ _ _) (Ev.t (ltI_t (by rw [lenI_c]; omega)) (Ev.c (laws_markText_ev (k0 + i) (by omega)) (Ev.g (inR_n (by omega)) (Ev.g (Nat.ble_eq_true_of_le (by rw [natI_c, mulN_d, addN_d, hlen]; omega)) ?_))))
    simp only [hdV_c, tlV_c, parts1_a, asInt_i, asBool_b, asStr_s, asLen_f, asCells_f, tupL_t, refCells_r, ownLen_o, wrS (show i < 9223372036854775807 by omega), wrS (show k0 + i < 9223372036854775807 by omega), natI_c, mulN_d, addN_d, Nat.zero_add, hs']
    exact ih (i + 1) (by omega)
theorem laws_markStringS_ev (xs : List ByteArray) (k0 : Nat) (hl : k0 + xs.length ≤ 1000000000) : Does cp n_laws_markStringS [.tup [.ref true 9 (xs.flatMap eS)], .own 0 0 xs.length, .int .i64 (k0 : Int)] [.tup [.ref true 9 ((mS xs.length k0).flatMap eS)], .int .i64 ((k0 + xs.length : Nat) : Int)] :=
  Ev.fn (fun k => F_laws_markStringS_a k _ _ _) (laws_markStringS_l xs k0 hl xs.length 0 (by omega)).l0
theorem plain_pts (ys : List Pt) : (ys.flatMap eP).all plain1 = true := by
  rw [List.all_eq_true]
  intro v hv
  obtain ⟨p, _, h⟩ := List.mem_flatMap.1 hv
  simp only [eP, List.mem_cons, List.not_mem_nil, or_false] at h
  rcases h with rfl | rfl | rfl <;> rfl
theorem nat3 (k0 n : Nat) : (k0 : Int) + 3 * (n : Int) = ((k0 + 3 * n : Nat) : Int) := by omega
theorem markCom_ev (xs : List Pt) (hl : xs.length ≤ 1048576) (k0 : Nat) (h1 : k0 ≤ 1099511627776) : Does cp n_laws_markCommittee [.tup [.ref true 45 (xs.flatMap eP)], .agg [.own 0 0 xs.length], .int .i64 (k0 : Int)] [.tup [.ref true 45 ((mkL xs.length (k0 : Int)).flatMap eP)], .int .i64 ((k0 + 3 * xs.length : Nat) : Int)] := by
  have := laws_markCommittee_ev xs hl (k0 : Int) (by omega) (by omega)
  rw [nat3] at this
  exact this
theorem heldCom_ev (n : Nat) (hl : n ≤ 1048576) (k0 : Nat) (h1 : k0 ≤ 1099511627776) : Does cp n_laws_heldCommittee [.agg [.fs n ((mkL n (k0 : Int)).flatMap eP)], .int .i64 (k0 : Int)] [.int .i64 ((k0 + 3 * n : Nat) : Int)] := by
  have := laws_heldCommittee_ev n hl (k0 : Int) (by omega) (by omega)
  rw [nat3] at this
  exact this
theorem markKeys_ev (al be ga de : Pt) (xs : List Pt) (hl : xs.length ≤ 1048576) (k0 : Nat) (h1 : k0 ≤ 1099511627776) :
    Does cp n_laws_markKeys [.tup [.ref true 45 (xs.flatMap eP)], .agg [.int .i64 al.1, .int .i64 al.2.1, .bool al.2.2, .int .i64 be.1, .int .i64 be.2.1, .bool be.2.2, .int .i64 ga.1, .int .i64 ga.2.1, .bool ga.2.2, .int .i64 de.1, .int .i64 de.2.1, .bool de.2.2, .own 0 0 xs.length], .int .i64 (k0 : Int)] [.tup [.ref true 45 ((mkL xs.length (k0 : Int)).flatMap eP)], .int .i64 ((k0 + 3 * xs.length : Nat) : Int)] := by
  have := laws_markPointS_ev xs hl (k0 : Int) (by omega) (by omega)
  rw [nat3] at this
  exact Ev.fn (fun k => F_laws_markKeys_a k ..) (Ev.c this (Ev.g rfl (Ev.now _)))
theorem heldKeys_ev (al be ga de : Pt) (n : Nat) (hl : n ≤ 1048576) (k0 : Nat) (h1 : k0 ≤ 1099511627776) :
    Does cp n_laws_heldKeys [.agg [.int .i64 al.1, .int .i64 al.2.1, .bool al.2.2, .int .i64 be.1, .int .i64 be.2.1, .bool be.2.2, .int .i64 ga.1, .int .i64 ga.2.1, .bool ga.2.2, .int .i64 de.1, .int .i64 de.2.1, .bool de.2.2, .fs n ((mkL n (k0 : Int)).flatMap eP)], .int .i64 (k0 : Int)] [.int .i64 ((k0 + 3 * n : Nat) : Int)] := by
  have := laws_heldPointS_ev n hl (k0 : Int) (by omega) (by omega)
  rw [nat3] at this
  exact Ev.fn (fun k => F_laws_heldKeys k ..) (Ev.c this (Ev.f (ltI_f (by simp only [hdV_c, tlV_c, parts1_a, asInt_i, asBool_b, asStr_s, asLen_f, asCells_f, tupL_t, refCells_r, ownLen_o]; omega)) (Ev.now _)))
/-- A client whose rows lie in memory of the frame's own. -/
def oCl (x0 : Int) (x1 x2 x3 : ByteArray) (n4 n5 : Nat) (x6 : Bool) (al be ga de : Pt) (n19 : Nat) : AV :=
  .agg [.int .i64 x0, .str x1, .str x2, .str x3, .own 0 0 n4, .own 1 0 n5, .bool x6, .int .i64 al.1, .int .i64 al.2.1, .bool al.2.2, .int .i64 be.1, .int .i64 be.2.1, .bool be.2.2, .int .i64 ga.1, .int .i64 ga.2.1, .bool ga.2.2, .int .i64 de.1, .int .i64 de.2.1, .bool de.2.2, .own 2 0 n19]
def mkCl (n4 n5 n19 : Nat) : Nat := 1 + 3 * n4 + 3 * n5 + 3 * n19
theorem markClient_ev (x0 : Int) (x1 x2 x3 : ByteArray) (x4 x5 : List Pt) (x6 : Bool) (al be ga de : Pt) (x19 : List Pt) (h4 : x4.length ≤ 1048576) (h5 : x5.length ≤ 1048576) (h19 : x19.length ≤ 1048576) :
    Does cp n_laws_markClient [.tup [.ref true 45 (x4.flatMap eP), .ref true 45 (x5.flatMap eP), .ref true 45 (x19.flatMap eP)], oCl x0 x1 x2 x3 x4.length x5.length x6 al be ga de x19.length, .int .i64 1]
      [.tup [.ref true 45 ((mkL x4.length 1).flatMap eP), .ref true 45 ((mkL x5.length ((1 + 3 * x4.length : Nat) : Int)).flatMap eP), .ref true 45 ((mkL x19.length ((1 + 3 * x4.length + 3 * x5.length : Nat) : Int)).flatMap eP)], .int .i64 ((mkCl x4.length x5.length x19.length : Nat) : Int)] :=
  Ev.fn (fun k => F_laws_markClient_a k ..) (Ev.c (markCom_ev x4 h4 1 (by omega)) (Ev.g rfl (Ev.c (markCom_ev x5 h5 _ (by omega)) (Ev.g rfl (Ev.c (markKeys_ev al be ga de x19 h19 _ (by omega)) (Ev.g rfl (Ev.now _)))))))
theorem heldClient_ev (x0 : Int) (x1 x2 x3 : ByteArray) (n4 n5 : Nat) (x6 : Bool) (al be ga de : Pt) (n19 : Nat) (h4 : n4 ≤ 1048576) (h5 : n5 ≤ 1048576) (h19 : n19 ≤ 1048576) :
    Does cp n_laws_heldClient [.agg [.int .i64 x0, .str x1, .str x2, .str x3, .fs n4 ((mkL n4 1).flatMap eP), .fs n5 ((mkL n5 ((1 + 3 * n4 : Nat) : Int)).flatMap eP), .bool x6, .int .i64 al.1, .int .i64 al.2.1, .bool al.2.2, .int .i64 be.1, .int .i64 be.2.1, .bool be.2.2, .int .i64 ga.1, .int .i64 ga.2.1, .bool ga.2.2, .int .i64 de.1, .int .i64 de.2.1, .bool de.2.2, .fs n19 ((mkL n19 ((1 + 3 * n4 + 3 * n5 : Nat) : Int)).flatMap eP)], .int .i64 1]
      [.int .i64 ((mkCl n4 n5 n19 : Nat) : Int)] :=
  Ev.fn (fun k => F_laws_heldClient k ..) (Ev.c (heldCom_ev n4 h4 1 (by omega)) (Ev.f (ltI_f (by simp only [hdV_c, tlV_c, parts1_a, asInt_i, asBool_b, asStr_s, asLen_f, asCells_f, tupL_t, refCells_r, ownLen_o]; omega)) (Ev.c (heldCom_ev n5 h5 _ (by omega)) (Ev.f (ltI_f (by simp only [hdV_c, tlV_c, parts1_a, asInt_i, asBool_b, asStr_s, asLen_f, asCells_f, tupL_t, refCells_r, ownLen_o]; omega)) (Ev.c (heldKeys_ev al be ga de n19 h19 _ (by omega)) (Ev.f (ltI_f (by simp only [hdV_c, tlV_c, parts1_a, asInt_i, asBool_b, asStr_s, asLen_f, asCells_f, tupL_t, refCells_r, ownLen_o]; omega)) (Ev.now _)))))))
def oUpd (s1 : Int) (p1 t1 b1 : ByteArray) (nk nn : Nat) (s2 : Int) (p2 t2 b2 : ByteArray) (nf : Nat) (bits : Int) (sg a b c : Pt) (sn : Int) : AV :=
  .agg [.int .i64 s1, .str p1, .str t1, .str b1, .own 0 0 nk, .own 1 0 nn, .int .i64 s2, .str p2, .str t2, .str b2, .own 2 0 nf, .int .i64 bits, .int .i64 sg.1, .int .i64 sg.2.1, .bool sg.2.2, .int .i64 a.1, .int .i64 a.2.1, .bool a.2.2, .int .i64 b.1, .int .i64 b.2.1, .bool b.2.2, .int .i64 c.1, .int .i64 c.2.1, .bool c.2.2, .int .i64 sn]
theorem markUpdate_ev (s1 : Int) (p1 t1 b1 : ByteArray) (ks : List Pt) (nb : List ByteArray) (s2 : Int) (p2 t2 b2 : ByteArray) (fb : List ByteArray) (bits : Int) (sg a b c : Pt) (sn : Int) (k0 : Nat) (hk : k0 ≤ 100000000) (l1 : ks.length ≤ 1048576) (l2 : nb.length ≤ 1048576) (l3 : fb.length ≤ 1048576) :
    ∃ r1 r2 r3 : List AV, ∃ n : Nat, Does cp n_laws_markUpdate [.tup [.ref true 45 (ks.flatMap eP), .ref true 9 (nb.flatMap eS), .ref true 9 (fb.flatMap eS)], oUpd s1 p1 t1 b1 ks.length nb.length s2 p2 t2 b2 fb.length bits sg a b c sn, .int .i64 (k0 : Int)]
      [.tup [.ref true 45 r1, .ref true 9 r2, .ref true 9 r3], .int .i64 (n : Int)] :=
  ⟨_, _, _, _, Ev.fn (fun k => F_laws_markUpdate_a k ..) (Ev.c (markCom_ev ks l1 k0 (by omega)) (Ev.g rfl (Ev.c (laws_markStringS_ev nb (k0 + 3 * ks.length) (by omega)) (Ev.g rfl (Ev.c (laws_markStringS_ev fb (k0 + 3 * ks.length + nb.length) (by omega)) (Ev.g rfl (Ev.now _)))))))⟩


theorem laws_szHead_ev (x0 : Int) (x1 : ByteArray) (x2 : ByteArray) (x3 : ByteArray) (h_x1 : x1.size ≤ 9223372036854775807) (h_x2 : x2.size ≤ 9223372036854775807) (h_x3 : x3.size ≤ 9223372036854775807) (v : Int) (h0 : 0 ≤ v) (h1 : v ≤ 1048576) :
    ∃ r, Does cp n_laws_szHead [.agg [.int .i64 x0, .str x1, .str x2, .str x3], .int .i64 v] [.int .i64 r] ∧ (0 ≤ r → r ≤ v ∧ x1.size ≤ 1048576 ∧ x2.size ≤ 1048576 ∧ x3.size ≤ 1048576) := by
  suffices h : ∃ r, Ev (fun k _ _ _ => evF cp (k + 1) n_laws_szHead [.agg [.int .i64 x0, .str x1, .str x2, .str x3], .int .i64 v]) [.int .i64 r] ∧ (0 ≤ r → r ≤ v ∧ x1.size ≤ 1048576 ∧ x2.size ≤ 1048576 ∧ x3.size ≤ 1048576) by
    obtain ⟨r, h, p⟩ := h; exact ⟨r, Ev.fn (fun _ => rfl) h, p⟩
  simp only [F_laws_szHead]
  have e2 : wr .i64 (subI v (lenI (lenS x1))) = v - (x1.size : Int) := by rw [subI_d, lenI_c, lenS_d, wr64 (by omega)]
  simp only [e2]
  by_cases c2 : v - (x1.size : Int) < 0
  · exact ⟨-1, Ev.t (ltI_t c2) (Ev.now _), fun h => by omega⟩
  have e3 : wr .i64 (subI (v - (x1.size : Int)) (lenI (lenS x2))) = (v - (x1.size : Int)) - (x2.size : Int) := by rw [subI_d, lenI_c, lenS_d, wr64 (by omega)]
  simp only [e3]
  by_cases c3 : (v - (x1.size : Int)) - (x2.size : Int) < 0
  · exact ⟨-1, Ev.f (ltI_f c2) (Ev.t (ltI_t c3) (Ev.now _)), fun h => by omega⟩
  have e4 : wr .i64 (subI ((v - (x1.size : Int)) - (x2.size : Int)) (lenI (lenS x3))) = ((v - (x1.size : Int)) - (x2.size : Int)) - (x3.size : Int) := by rw [subI_d, lenI_c, lenS_d, wr64 (by omega)]
  simp only [e4]
  by_cases c4 : ((v - (x1.size : Int)) - (x2.size : Int)) - (x3.size : Int) < 0
  · exact ⟨-1, Ev.f (ltI_f c2) (Ev.f (ltI_f c3) (Ev.t (ltI_t c4) (Ev.now _))), fun h => by omega⟩
  exact ⟨(((v - (x1.size : Int)) - (x2.size : Int)) - (x3.size : Int)), Ev.f (ltI_f c2) (Ev.f (ltI_f c3) (Ev.f (ltI_f c4) (Ev.now _))), fun h => ⟨by omega, (by omega), (by omega), (by omega)⟩⟩


theorem laws_szPointS_ev (xs : List Pt) (hl : xs.length ≤ 9223372036854775807) (v : Int) (h0 : 0 ≤ v) (h1 : v ≤ 1048576) : ∃ r, Does cp n_laws_szPointS [.fs xs.length (xs.flatMap eP), .int .i64 v] [.int .i64 r] ∧ (0 ≤ r → r ≤ v ∧ xs.length ≤ 1048576) := by
  have e : wr .i64 (subI v (lenI xs.length)) = v - (xs.length : Int) := by rw [subI_d, lenI_c, wr64 (by omega)]
  by_cases c : v - (xs.length : Int) < 0
  · exact ⟨-1, Ev.fn (fun k => F_laws_szPointS k _ _ _) (Ev.t (ltI_t (by rw [e]; exact c)) (Ev.now _)), fun h => by omega⟩
  · exact ⟨v - (xs.length : Int), Ev.fn (fun k => F_laws_szPointS k _ _ _) (Ev.f (ltI_f (by rw [e]; exact c)) (Ev.some_ (by rw [e]))), fun h => ⟨by omega, by omega⟩⟩


theorem laws_szCommittee_ev (x0 : List Pt) (h_x0 : (x0.length ≤ 9223372036854775807)) (v : Int) (h0 : 0 ≤ v) (h1 : v ≤ 1048576) :
    ∃ r, Does cp n_laws_szCommittee [.agg [.fs x0.length (x0.flatMap eP)], .int .i64 v] [.int .i64 r] ∧ (0 ≤ r → r ≤ v ∧ (x0.length ≤ 1048576)) := by
  suffices h : ∃ r, Ev (fun k _ _ _ => evF cp (k + 1) n_laws_szCommittee [.agg [.fs x0.length (x0.flatMap eP)], .int .i64 v]) [.int .i64 r] ∧ (0 ≤ r → r ≤ v ∧ (x0.length ≤ 1048576)) by
    obtain ⟨r, h, p⟩ := h; exact ⟨r, Ev.fn (fun _ => rfl) h, p⟩
  simp only [F_laws_szCommittee]
  obtain ⟨r1, e1, p1⟩ := laws_szPointS_ev x0 h_x0 v (by omega) (by omega)
  by_cases c1 : r1 < 0
  · exact ⟨-1, Ev.c e1 (Ev.t (ltI_t c1) (Ev.now _)), fun h => by omega⟩
  obtain ⟨g1, s1⟩ := p1 (by omega)
  exact ⟨r1, Ev.c e1 (Ev.f (ltI_f c1) (Ev.now _)), fun h => ⟨by omega, s1⟩⟩


theorem laws_szKeys_ev (x0 : Int) (x1 : Int) (x2 : Bool) (x3 : Int) (x4 : Int) (x5 : Bool) (x6 : Int) (x7 : Int) (x8 : Bool) (x9 : Int) (x10 : Int) (x11 : Bool) (x12 : List Pt) (h_x12 : (x12.length ≤ 9223372036854775807)) (v : Int) (h0 : 0 ≤ v) (h1 : v ≤ 1048576) :
    ∃ r, Does cp n_laws_szKeys [.agg [.int .i64 x0, .int .i64 x1, .bool x2, .int .i64 x3, .int .i64 x4, .bool x5, .int .i64 x6, .int .i64 x7, .bool x8, .int .i64 x9, .int .i64 x10, .bool x11, .fs x12.length (x12.flatMap eP)], .int .i64 v] [.int .i64 r] ∧ (0 ≤ r → r ≤ v ∧ (x12.length ≤ 1048576)) := by
  suffices h : ∃ r, Ev (fun k _ _ _ => evF cp (k + 1) n_laws_szKeys [.agg [.int .i64 x0, .int .i64 x1, .bool x2, .int .i64 x3, .int .i64 x4, .bool x5, .int .i64 x6, .int .i64 x7, .bool x8, .int .i64 x9, .int .i64 x10, .bool x11, .fs x12.length (x12.flatMap eP)], .int .i64 v]) [.int .i64 r] ∧ (0 ≤ r → r ≤ v ∧ (x12.length ≤ 1048576)) by
    obtain ⟨r, h, p⟩ := h; exact ⟨r, Ev.fn (fun _ => rfl) h, p⟩
  simp only [F_laws_szKeys]
  obtain ⟨r5, e5, p5⟩ := laws_szPointS_ev x12 h_x12 v (by omega) (by omega)
  by_cases c5 : r5 < 0
  · exact ⟨-1, Ev.c e5 (Ev.t (ltI_t c5) (Ev.now _)), fun h => by omega⟩
  obtain ⟨g5, s5⟩ := p5 (by omega)
  exact ⟨r5, Ev.c e5 (Ev.f (ltI_f c5) (Ev.now _)), fun h => ⟨by omega, s5⟩⟩


theorem laws_szClient_ev (x0 : Int) (x1 : ByteArray) (x2 : ByteArray) (x3 : ByteArray) (x4 : List Pt) (x5 : List Pt) (x6 : Bool) (x7 : Int) (x8 : Int) (x9 : Bool) (x10 : Int) (x11 : Int) (x12 : Bool) (x13 : Int) (x14 : Int) (x15 : Bool) (x16 : Int) (x17 : Int) (x18 : Bool) (x19 : List Pt) (h_x1 : x1.size ≤ 9223372036854775807) (h_x2 : x2.size ≤ 9223372036854775807) (h_x3 : x3.size ≤ 9223372036854775807) (h_x4 : (x4.length ≤ 9223372036854775807)) (h_x5 : (x5.length ≤ 9223372036854775807)) (h_x19 : (x19.length ≤ 9223372036854775807)) (v : Int) (h0 : 0 ≤ v) (h1 : v ≤ 1048576) :
    ∃ r, Does cp n_laws_szClient [.agg [.int .i64 x0, .str x1, .str x2, .str x3, .fs x4.length (x4.flatMap eP), .fs x5.length (x5.flatMap eP), .bool x6, .int .i64 x7, .int .i64 x8, .bool x9, .int .i64 x10, .int .i64 x11, .bool x12, .int .i64 x13, .int .i64 x14, .bool x15, .int .i64 x16, .int .i64 x17, .bool x18, .fs x19.length (x19.flatMap eP)], .int .i64 v] [.int .i64 r] ∧ (0 ≤ r → r ≤ v ∧ x1.size ≤ 1048576 ∧ x2.size ≤ 1048576 ∧ x3.size ≤ 1048576 ∧ (x4.length ≤ 1048576) ∧ (x5.length ≤ 1048576) ∧ (x19.length ≤ 1048576)) := by
  suffices h : ∃ r, Ev (fun k _ _ _ => evF cp (k + 1) n_laws_szClient [.agg [.int .i64 x0, .str x1, .str x2, .str x3, .fs x4.length (x4.flatMap eP), .fs x5.length (x5.flatMap eP), .bool x6, .int .i64 x7, .int .i64 x8, .bool x9, .int .i64 x10, .int .i64 x11, .bool x12, .int .i64 x13, .int .i64 x14, .bool x15, .int .i64 x16, .int .i64 x17, .bool x18, .fs x19.length (x19.flatMap eP)], .int .i64 v]) [.int .i64 r] ∧ (0 ≤ r → r ≤ v ∧ x1.size ≤ 1048576 ∧ x2.size ≤ 1048576 ∧ x3.size ≤ 1048576 ∧ (x4.length ≤ 1048576) ∧ (x5.length ≤ 1048576) ∧ (x19.length ≤ 1048576)) by
    obtain ⟨r, h, p⟩ := h; exact ⟨r, Ev.fn (fun _ => rfl) h, p⟩
  simp only [F_laws_szClient]
  obtain ⟨r1, e1, p1⟩ := laws_szHead_ev x0 x1 x2 x3 h_x1 h_x2 h_x3 v (by omega) (by omega)
  by_cases c1 : r1 < 0
  · exact ⟨-1, Ev.c e1 (Ev.t (ltI_t c1) (Ev.now _)), fun h => by omega⟩
  obtain ⟨g1, ⟨s1_1, s1_2, s1_3⟩⟩ := p1 (by omega)
  obtain ⟨r2, e2, p2⟩ := laws_szCommittee_ev x4 h_x4 r1 (by omega) (by omega)
  by_cases c2 : r2 < 0
  · exact ⟨-1, Ev.c e1 (Ev.f (ltI_f c1) (Ev.c e2 (Ev.t (ltI_t c2) (Ev.now _)))), fun h => by omega⟩
  obtain ⟨g2, s2_0⟩ := p2 (by omega)
  obtain ⟨r3, e3, p3⟩ := laws_szCommittee_ev x5 h_x5 r2 (by omega) (by omega)
  by_cases c3 : r3 < 0
  · exact ⟨-1, Ev.c e1 (Ev.f (ltI_f c1) (Ev.c e2 (Ev.f (ltI_f c2) (Ev.c e3 (Ev.t (ltI_t c3) (Ev.now _)))))), fun h => by omega⟩
  obtain ⟨g3, s3_0⟩ := p3 (by omega)
  obtain ⟨r5, e5, p5⟩ := laws_szKeys_ev x7 x8 x9 x10 x11 x12 x13 x14 x15 x16 x17 x18 x19 h_x19 r3 (by omega) (by omega)
  by_cases c5 : r5 < 0
  · exact ⟨-1, Ev.c e1 (Ev.f (ltI_f c1) (Ev.c e2 (Ev.f (ltI_f c2) (Ev.c e3 (Ev.f (ltI_f c3) (Ev.c e5 (Ev.t (ltI_t c5) (Ev.now _)))))))), fun h => by omega⟩
  obtain ⟨g5, s5_12⟩ := p5 (by omega)
  exact ⟨r5, Ev.c e1 (Ev.f (ltI_f c1) (Ev.c e2 (Ev.f (ltI_f c2) (Ev.c e3 (Ev.f (ltI_f c3) (Ev.c e5 (Ev.f (ltI_f c5) (Ev.now _)))))))), fun h => ⟨by omega, s1_1, s1_2, s1_3, s2_0, s3_0, s5_12⟩⟩


theorem laws_toHead_ev (x0 : Int) (x1 : ByteArray) (x2 : ByteArray) (x3 : ByteArray) : Does cp n_laws_toHead [.agg [.int .i64 x0, .str x1, .str x2, .str x3]] [.agg [.int .i64 x0, .str x1, .str x2, .str x3]] :=
  Ev.fn (fun k => F_laws_toHead k (x0) (x1) (x2) (x3) ) (Ev.now _)


theorem laws_toCommittee_ev (x0 : List Pt) (h_x0 : (x0.length ≤ 1048576)) : Does cp n_laws_toCommittee [.agg [.fs x0.length (x0.flatMap eP)]] [.agg [.fs x0.length (x0.flatMap eP)]] :=
  Ev.fn (fun k => F_laws_toCommittee k (x0).length ((x0).flatMap eP) ) (Ev.c (laws_toPointS_ev x0 h_x0) (Ev.some_ (by simp only [hdV_c, tlV_c, parts1_a, asInt_i, asBool_b, asStr_s, asLen_f, asCells_f, tupL_t, refCells_r, ownLen_o, cut_all eP_len])))


theorem laws_toKeys_ev (x0 : Int) (x1 : Int) (x2 : Bool) (x3 : Int) (x4 : Int) (x5 : Bool) (x6 : Int) (x7 : Int) (x8 : Bool) (x9 : Int) (x10 : Int) (x11 : Bool) (x12 : List Pt) (h_x12 : (x12.length ≤ 1048576)) : Does cp n_laws_toKeys [.agg [.int .i64 x0, .int .i64 x1, .bool x2, .int .i64 x3, .int .i64 x4, .bool x5, .int .i64 x6, .int .i64 x7, .bool x8, .int .i64 x9, .int .i64 x10, .bool x11, .fs x12.length (x12.flatMap eP)]] [.agg [.int .i64 x0, .int .i64 x1, .bool x2, .int .i64 x3, .int .i64 x4, .bool x5, .int .i64 x6, .int .i64 x7, .bool x8, .int .i64 x9, .int .i64 x10, .bool x11, .fs x12.length (x12.flatMap eP)]] :=
  Ev.fn (fun k => F_laws_toKeys k (x0) (x1) (x2) (x3) (x4) (x5) (x6) (x7) (x8) (x9) (x10) (x11) (x12).length ((x12).flatMap eP) ) (Ev.c (laws_toPoint_ev x0 x1 x2) (Ev.c (laws_toPoint_ev x3 x4 x5) (Ev.c (laws_toPoint_ev x6 x7 x8) (Ev.c (laws_toPoint_ev x9 x10 x11) (Ev.c (laws_toPointS_ev x12 h_x12) (Ev.some_ (by simp only [hdV_c, tlV_c, parts1_a, asInt_i, asBool_b, asStr_s, asLen_f, asCells_f, tupL_t, refCells_r, ownLen_o, cut_all eP_len])))))))


theorem laws_toClient_ev (x0 : Int) (x1 : ByteArray) (x2 : ByteArray) (x3 : ByteArray) (x4 : List Pt) (x5 : List Pt) (x6 : Bool) (x7 : Int) (x8 : Int) (x9 : Bool) (x10 : Int) (x11 : Int) (x12 : Bool) (x13 : Int) (x14 : Int) (x15 : Bool) (x16 : Int) (x17 : Int) (x18 : Bool) (x19 : List Pt) (h_x4 : (x4.length ≤ 1048576)) (h_x5 : (x5.length ≤ 1048576)) (h_x19 : (x19.length ≤ 1048576)) : Does cp n_laws_toClient [.agg [.int .i64 x0, .str x1, .str x2, .str x3, .fs x4.length (x4.flatMap eP), .fs x5.length (x5.flatMap eP), .bool x6, .int .i64 x7, .int .i64 x8, .bool x9, .int .i64 x10, .int .i64 x11, .bool x12, .int .i64 x13, .int .i64 x14, .bool x15, .int .i64 x16, .int .i64 x17, .bool x18, .fs x19.length (x19.flatMap eP)]] [.agg [.int .i64 x0, .str x1, .str x2, .str x3, .fs x4.length (x4.flatMap eP), .fs x5.length (x5.flatMap eP), .bool x6, .int .i64 x7, .int .i64 x8, .bool x9, .int .i64 x10, .int .i64 x11, .bool x12, .int .i64 x13, .int .i64 x14, .bool x15, .int .i64 x16, .int .i64 x17, .bool x18, .fs x19.length (x19.flatMap eP)]] :=
  Ev.fn (fun k => F_laws_toClient k (x0) (x1) (x2) (x3) (x4).length ((x4).flatMap eP) (x5).length ((x5).flatMap eP) (x6) (x7) (x8) (x9) (x10) (x11) (x12) (x13) (x14) (x15) (x16) (x17) (x18) (x19).length ((x19).flatMap eP) ) (Ev.c (laws_toHead_ev x0 x1 x2 x3) (Ev.c (laws_toCommittee_ev x4 h_x4) (Ev.c (laws_toCommittee_ev x5 h_x5) (Ev.c (laws_toKeys_ev x7 x8 x9 x10 x11 x12 x13 x14 x15 x16 x17 x18 x19 h_x19) (Ev.some_ (by simp only [hdV_c, tlV_c, parts1_a, asInt_i, asBool_b, asStr_s, asLen_f, asCells_f, tupL_t, refCells_r, ownLen_o, cut_all eP_len]))))))


theorem laws_eqHead_same (x0 : Int) (x1 : ByteArray) (x2 : ByteArray) (x3 : ByteArray) : Does cp n_laws_eqHead [.agg [.int .i64 x0, .str x1, .str x2, .str x3], .agg [.int .i64 x0, .str x1, .str x2, .str x3]] [.bool true] :=
  Ev.fn (fun k => F_laws_eqHead k (x0) (x1) (x2) (x3) (x0) (x1) (x2) (x3) ) (Ev.f (by rw [eqI_t rfl]; rfl) (Ev.f (by rw [eqS_t rfl]; rfl) (Ev.f (by rw [eqS_t rfl]; rfl) (Ev.f (by rw [eqS_t rfl]; rfl) (Ev.now _)))))


theorem laws_eqPoint_same (x0 : Int) (x1 : Int) (x2 : Bool) : Does cp n_laws_eqPoint [.agg [.int .i64 x0, .int .i64 x1, .bool x2], .agg [.int .i64 x0, .int .i64 x1, .bool x2]] [.bool true] :=
  Ev.fn (fun k => F_laws_eqPoint k (x0) (x1) (x2) (x0) (x1) (x2) ) (Ev.f (by rw [eqI_t rfl]; rfl) (Ev.f (by rw [eqI_t rfl]; rfl) (Ev.f (by rw [eqB_d]; simp [notB]) (Ev.now _))))


theorem laws_eqPointS_l (xs : List Pt) (hl : xs.length ≤ 1048576) (d : Nat) : ∀ i : Nat, i + d = xs.length →
    Ev (fun k m _ _ => L_laws_eqPointS_0 k m xs.length (xs.flatMap eP) xs.length (xs.flatMap eP) (i : Int)) [.bool true] := by
  induction d with
  | zero =>
    intro i hi
    exact Ev.step (fun k m _ _ => L_laws_eqPointS_0_s k m _ _ _ _ _) (Ev.f (ltI_f (by rw [lenI_c]; omega)) (Ev.now _))
  | succ d ih =>
    intro i hi
    have c0 : cellAt (xs.flatMap eP) (mulN (natI (i : Int)) 3) = .int .i64 (xs[i]'(by omega)).1 := cell_enc0 eP_len (by omega) (by decide)
    have c1 : cellAt (xs.flatMap eP) (addN (mulN (natI (i : Int)) 3) 1) = .int .i64 (xs[i]'(by omega)).2.1 := cell_enc eP_len (by omega) 1 (by decide)
    have c2 : cellAt (xs.flatMap eP) (addN (mulN (natI (i : Int)) 3) 2) = .bool (xs[i]'(by omega)).2.2 := cell_enc eP_len (by omega) 2 (by decide)
    refine Ev.step (fun k m _ _ => L_laws_eqPointS_0_s k m _ _ _ _ _) (Ev.t (ltI_t (by rw [lenI_c]; omega)) (Ev.g (inR_n (by omega)) ?_))
    simp only [c0, c1, c2, hdV_c, tlV_c, parts1_a, asInt_i, asBool_b, asStr_s, asLen_f, asCells_f, tupL_t, refCells_r, ownLen_o]
    refine Ev.g rfl (Ev.g (inR_n (by omega)) (Ev.g rfl (Ev.c (laws_eqPoint_same (xs[i]'(by omega)).1 (xs[i]'(by omega)).2.1 (xs[i]'(by omega)).2.2) (Ev.f rfl ?_))))
    simp only [wrS (show i < 9223372036854775807 by omega)]
    exact ih (i + 1) (by omega)
theorem laws_eqPointS_same (xs : List Pt) (hl : xs.length ≤ 1048576) : Does cp n_laws_eqPointS [.fs xs.length (xs.flatMap eP), .fs xs.length (xs.flatMap eP)] [.bool true] :=
  Ev.fn (fun k => F_laws_eqPointS k _ _ _ _) (Ev.f (by rw [eqI_t rfl]; rfl) (laws_eqPointS_l xs hl xs.length 0 (by omega)).l0)


theorem laws_eqCommittee_same (x0 : List Pt) (h_x0 : (x0.length ≤ 1048576)) : Does cp n_laws_eqCommittee [.agg [.fs x0.length (x0.flatMap eP)], .agg [.fs x0.length (x0.flatMap eP)]] [.bool true] :=
  Ev.fn (fun k => F_laws_eqCommittee k (x0).length ((x0).flatMap eP) (x0).length ((x0).flatMap eP) ) (Ev.c (laws_eqPointS_same x0 h_x0) (Ev.f rfl (Ev.now _)))


theorem laws_eqKeys_same (x0 : Int) (x1 : Int) (x2 : Bool) (x3 : Int) (x4 : Int) (x5 : Bool) (x6 : Int) (x7 : Int) (x8 : Bool) (x9 : Int) (x10 : Int) (x11 : Bool) (x12 : List Pt) (h_x12 : (x12.length ≤ 1048576)) : Does cp n_laws_eqKeys [.agg [.int .i64 x0, .int .i64 x1, .bool x2, .int .i64 x3, .int .i64 x4, .bool x5, .int .i64 x6, .int .i64 x7, .bool x8, .int .i64 x9, .int .i64 x10, .bool x11, .fs x12.length (x12.flatMap eP)], .agg [.int .i64 x0, .int .i64 x1, .bool x2, .int .i64 x3, .int .i64 x4, .bool x5, .int .i64 x6, .int .i64 x7, .bool x8, .int .i64 x9, .int .i64 x10, .bool x11, .fs x12.length (x12.flatMap eP)]] [.bool true] :=
  Ev.fn (fun k => F_laws_eqKeys k (x0) (x1) (x2) (x3) (x4) (x5) (x6) (x7) (x8) (x9) (x10) (x11) (x12).length ((x12).flatMap eP) (x0) (x1) (x2) (x3) (x4) (x5) (x6) (x7) (x8) (x9) (x10) (x11) (x12).length ((x12).flatMap eP) ) (Ev.c (laws_eqPoint_same x0 x1 x2) (Ev.f rfl (Ev.c (laws_eqPoint_same x3 x4 x5) (Ev.f rfl (Ev.c (laws_eqPoint_same x6 x7 x8) (Ev.f rfl (Ev.c (laws_eqPoint_same x9 x10 x11) (Ev.f rfl (Ev.c (laws_eqPointS_same x12 h_x12) (Ev.f rfl (Ev.now _)))))))))))


theorem laws_eqClient_same (x0 : Int) (x1 : ByteArray) (x2 : ByteArray) (x3 : ByteArray) (x4 : List Pt) (x5 : List Pt) (x6 : Bool) (x7 : Int) (x8 : Int) (x9 : Bool) (x10 : Int) (x11 : Int) (x12 : Bool) (x13 : Int) (x14 : Int) (x15 : Bool) (x16 : Int) (x17 : Int) (x18 : Bool) (x19 : List Pt) (h_x4 : (x4.length ≤ 1048576)) (h_x5 : (x5.length ≤ 1048576)) (h_x19 : (x19.length ≤ 1048576)) : Does cp n_laws_eqClient [.agg [.int .i64 x0, .str x1, .str x2, .str x3, .fs x4.length (x4.flatMap eP), .fs x5.length (x5.flatMap eP), .bool x6, .int .i64 x7, .int .i64 x8, .bool x9, .int .i64 x10, .int .i64 x11, .bool x12, .int .i64 x13, .int .i64 x14, .bool x15, .int .i64 x16, .int .i64 x17, .bool x18, .fs x19.length (x19.flatMap eP)], .agg [.int .i64 x0, .str x1, .str x2, .str x3, .fs x4.length (x4.flatMap eP), .fs x5.length (x5.flatMap eP), .bool x6, .int .i64 x7, .int .i64 x8, .bool x9, .int .i64 x10, .int .i64 x11, .bool x12, .int .i64 x13, .int .i64 x14, .bool x15, .int .i64 x16, .int .i64 x17, .bool x18, .fs x19.length (x19.flatMap eP)]] [.bool true] :=
  Ev.fn (fun k => F_laws_eqClient k (x0) (x1) (x2) (x3) (x4).length ((x4).flatMap eP) (x5).length ((x5).flatMap eP) (x6) (x7) (x8) (x9) (x10) (x11) (x12) (x13) (x14) (x15) (x16) (x17) (x18) (x19).length ((x19).flatMap eP) (x0) (x1) (x2) (x3) (x4).length ((x4).flatMap eP) (x5).length ((x5).flatMap eP) (x6) (x7) (x8) (x9) (x10) (x11) (x12) (x13) (x14) (x15) (x16) (x17) (x18) (x19).length ((x19).flatMap eP) ) (Ev.c (laws_eqHead_same x0 x1 x2 x3) (Ev.f rfl (Ev.c (laws_eqCommittee_same x4 h_x4) (Ev.f rfl (Ev.c (laws_eqCommittee_same x5 h_x5) (Ev.f rfl (Ev.f (by rw [eqB_d]; simp [notB]) (Ev.c (laws_eqKeys_same x7 x8 x9 x10 x11 x12 x13 x14 x15 x16 x17 x18 x19 h_x19) (Ev.f rfl (Ev.now _))))))))))


theorem laws_szStringS_l (xs : List ByteArray) (hl : xs.length ≤ 1048576) (hs : ∀ y ∈ xs, y.size ≤ 9223372036854775807) (d : Nat) : ∀ (i : Nat) (v : Int), i + d = xs.length → 0 ≤ v → v ≤ 1048576 →
    ∃ r, Ev (fun k m _ _ => L_laws_szStringS_0 k m xs.length (xs.flatMap eS) (i : Int) v) [.int .i64 r] ∧ (0 ≤ r → r ≤ v ∧ ∀ y ∈ xs.drop i, y.size ≤ 1048576) := by
  induction d with
  | zero =>
    intro i v hi h0 h1
    refine ⟨v, Ev.step (fun k m _ _ => L_laws_szStringS_0_s k m _ _ _ _) (Ev.f (ltI_f (by rw [lenI_c]; omega)) (Ev.now _)), fun _ => ⟨by omega, ?_⟩⟩
    rw [List.drop_eq_nil_of_le (by omega)]
    simp
  | succ d ih =>
    intro i v hi h0 h1
    have c0 : cellAt (xs.flatMap eS) (mulN (natI (i : Int)) 1) = .str (xs[i]'(by omega)) := cell_enc0 eS_len (by omega) (by decide)
    have hm := hs _ (List.getElem_mem (show i < xs.length by omega))
    have e : wr .i64 (subI v (lenI (lenS (xs[i]'(by omega))))) = v - ((xs[i]'(by omega)).size : Int) := by rw [subI_d, lenI_c, lenS_d, wr64 (by omega)]
    by_cases hc : v - ((xs[i]'(by omega)).size : Int) < 0
    · refine ⟨-1, Ev.step (fun k m _ _ => L_laws_szStringS_0_s k m _ _ _ _) (Ev.t (ltI_t (by rw [lenI_c]; omega)) (Ev.g (inR_n (by omega)) ?_)), fun h => by omega⟩
      simp only [c0, hdV_c, tlV_c, parts1_a, asInt_i, asBool_b, asStr_s, asLen_f, asCells_f, tupL_t, refCells_r, ownLen_o, e]
      exact Ev.g rfl (Ev.t (ltI_t hc) (Ev.now _))
    · obtain ⟨r, hr, hp⟩ := ih (i + 1) (v - ((xs[i]'(by omega)).size : Int)) (by omega) (by omega) (by omega)
      refine ⟨r, Ev.step (fun k m _ _ => L_laws_szStringS_0_s k m _ _ _ _) (Ev.t (ltI_t (by rw [lenI_c]; omega)) (Ev.g (inR_n (by omega)) ?_)), fun h => ?_⟩
      · simp only [c0, hdV_c, tlV_c, parts1_a, asInt_i, asBool_b, asStr_s, asLen_f, asCells_f, tupL_t, refCells_r, ownLen_o, e, wrS (show i < 9223372036854775807 by omega)]
        exact Ev.g rfl (Ev.f (ltI_f hc) hr)
      obtain ⟨h2, h3⟩ := hp h
      refine ⟨by omega, ?_⟩
      rw [List.drop_eq_getElem_cons (show i < xs.length by omega)]
      intro s hs'
      rcases List.mem_cons.1 hs' with rfl | hs'
      · omega
      · exact h3 s hs'
theorem laws_szStringS_ev (xs : List ByteArray) (hl : xs.length ≤ 9223372036854775807) (hs : ∀ y ∈ xs, y.size ≤ 9223372036854775807) (v : Int) (h0 : 0 ≤ v) (h1 : v ≤ 1048576) :
    ∃ r, Does cp n_laws_szStringS [.fs xs.length (xs.flatMap eS), .int .i64 v] [.int .i64 r] ∧ (0 ≤ r → r ≤ v ∧ xs.length ≤ 1048576 ∧ ∀ y ∈ xs, y.size ≤ 1048576) := by
  have e : wr .i64 (subI v (lenI xs.length)) = v - (xs.length : Int) := by rw [subI_d, lenI_c, wr64 (by omega)]
  by_cases c : v - (xs.length : Int) < 0
  · exact ⟨-1, Ev.fn (fun k => F_laws_szStringS k _ _ _) (Ev.t (ltI_t (by rw [e]; exact c)) (Ev.now _)), fun h => by omega⟩
  · obtain ⟨r, hr, hp⟩ := laws_szStringS_l xs (by omega) hs xs.length 0 (v - (xs.length : Int)) (by omega) (by omega) (by omega)
    refine ⟨r, Ev.fn (fun k => F_laws_szStringS k _ _ _) (Ev.f (ltI_f (by rw [e]; exact c)) ?_), fun h => ?_⟩
    · simp only [e]
      exact hr.l0
    obtain ⟨h2, h3⟩ := hp h
    exact ⟨by omega, by omega, by simpa using h3⟩


theorem laws_szUpdate_ev (x0 : Int) (x1 : ByteArray) (x2 : ByteArray) (x3 : ByteArray) (x4 : List Pt) (x5 : List ByteArray) (x6 : Int) (x7 : ByteArray) (x8 : ByteArray) (x9 : ByteArray) (x10 : List ByteArray) (x11 : Int) (x12 : Int) (x13 : Int) (x14 : Bool) (x15 : Int) (x16 : Int) (x17 : Bool) (x18 : Int) (x19 : Int) (x20 : Bool) (x21 : Int) (x22 : Int) (x23 : Bool) (x24 : Int) (h_x1 : x1.size ≤ 9223372036854775807) (h_x2 : x2.size ≤ 9223372036854775807) (h_x3 : x3.size ≤ 9223372036854775807) (h_x4 : (x4.length ≤ 9223372036854775807)) (h_x5 : (x5.length ≤ 9223372036854775807 ∧ ∀ y ∈ x5, y.size ≤ 9223372036854775807)) (h_x7 : x7.size ≤ 9223372036854775807) (h_x8 : x8.size ≤ 9223372036854775807) (h_x9 : x9.size ≤ 9223372036854775807) (h_x10 : (x10.length ≤ 9223372036854775807 ∧ ∀ y ∈ x10, y.size ≤ 9223372036854775807)) (v : Int) (h0 : 0 ≤ v) (h1 : v ≤ 1048576) :
    ∃ r, Does cp n_laws_szUpdate [.agg [.int .i64 x0, .str x1, .str x2, .str x3, .fs x4.length (x4.flatMap eP), .fs x5.length (x5.flatMap eS), .int .i64 x6, .str x7, .str x8, .str x9, .fs x10.length (x10.flatMap eS), .int .i64 x11, .int .i64 x12, .int .i64 x13, .bool x14, .int .i64 x15, .int .i64 x16, .bool x17, .int .i64 x18, .int .i64 x19, .bool x20, .int .i64 x21, .int .i64 x22, .bool x23, .int .i64 x24], .int .i64 v] [.int .i64 r] ∧ (0 ≤ r → r ≤ v ∧ x1.size ≤ 1048576 ∧ x2.size ≤ 1048576 ∧ x3.size ≤ 1048576 ∧ (x4.length ≤ 1048576) ∧ (x5.length ≤ 1048576 ∧ ∀ y ∈ x5, y.size ≤ 1048576) ∧ x7.size ≤ 1048576 ∧ x8.size ≤ 1048576 ∧ x9.size ≤ 1048576 ∧ (x10.length ≤ 1048576 ∧ ∀ y ∈ x10, y.size ≤ 1048576)) := by
  suffices h : ∃ r, Ev (fun k _ _ _ => evF cp (k + 1) n_laws_szUpdate [.agg [.int .i64 x0, .str x1, .str x2, .str x3, .fs x4.length (x4.flatMap eP), .fs x5.length (x5.flatMap eS), .int .i64 x6, .str x7, .str x8, .str x9, .fs x10.length (x10.flatMap eS), .int .i64 x11, .int .i64 x12, .int .i64 x13, .bool x14, .int .i64 x15, .int .i64 x16, .bool x17, .int .i64 x18, .int .i64 x19, .bool x20, .int .i64 x21, .int .i64 x22, .bool x23, .int .i64 x24], .int .i64 v]) [.int .i64 r] ∧ (0 ≤ r → r ≤ v ∧ x1.size ≤ 1048576 ∧ x2.size ≤ 1048576 ∧ x3.size ≤ 1048576 ∧ (x4.length ≤ 1048576) ∧ (x5.length ≤ 1048576 ∧ ∀ y ∈ x5, y.size ≤ 1048576) ∧ x7.size ≤ 1048576 ∧ x8.size ≤ 1048576 ∧ x9.size ≤ 1048576 ∧ (x10.length ≤ 1048576 ∧ ∀ y ∈ x10, y.size ≤ 1048576)) by
    obtain ⟨r, h, p⟩ := h; exact ⟨r, Ev.fn (fun _ => rfl) h, p⟩
  simp only [F_laws_szUpdate]
  obtain ⟨r1, e1, p1⟩ := laws_szHead_ev x0 x1 x2 x3 h_x1 h_x2 h_x3 v (by omega) (by omega)
  by_cases c1 : r1 < 0
  · exact ⟨-1, Ev.c e1 (Ev.t (ltI_t c1) (Ev.now _)), fun h => by omega⟩
  obtain ⟨g1, ⟨s1_1, s1_2, s1_3⟩⟩ := p1 (by omega)
  obtain ⟨r2, e2, p2⟩ := laws_szCommittee_ev x4 h_x4 r1 (by omega) (by omega)
  by_cases c2 : r2 < 0
  · exact ⟨-1, Ev.c e1 (Ev.f (ltI_f c1) (Ev.c e2 (Ev.t (ltI_t c2) (Ev.now _)))), fun h => by omega⟩
  obtain ⟨g2, s2_0⟩ := p2 (by omega)
  obtain ⟨r3, e3, p3⟩ := laws_szStringS_ev x5 h_x5.1 h_x5.2 r2 (by omega) (by omega)
  by_cases c3 : r3 < 0
  · exact ⟨-1, Ev.c e1 (Ev.f (ltI_f c1) (Ev.c e2 (Ev.f (ltI_f c2) (Ev.c e3 (Ev.t (ltI_t c3) (Ev.now _)))))), fun h => by omega⟩
  obtain ⟨g3, s3⟩ := p3 (by omega)
  obtain ⟨r4, e4, p4⟩ := laws_szHead_ev x6 x7 x8 x9 h_x7 h_x8 h_x9 r3 (by omega) (by omega)
  by_cases c4 : r4 < 0
  · exact ⟨-1, Ev.c e1 (Ev.f (ltI_f c1) (Ev.c e2 (Ev.f (ltI_f c2) (Ev.c e3 (Ev.f (ltI_f c3) (Ev.c e4 (Ev.t (ltI_t c4) (Ev.now _)))))))), fun h => by omega⟩
  obtain ⟨g4, ⟨s4_1, s4_2, s4_3⟩⟩ := p4 (by omega)
  obtain ⟨r5, e5, p5⟩ := laws_szStringS_ev x10 h_x10.1 h_x10.2 r4 (by omega) (by omega)
  by_cases c5 : r5 < 0
  · exact ⟨-1, Ev.c e1 (Ev.f (ltI_f c1) (Ev.c e2 (Ev.f (ltI_f c2) (Ev.c e3 (Ev.f (ltI_f c3) (Ev.c e4 (Ev.f (ltI_f c4) (Ev.c e5 (Ev.t (ltI_t c5) (Ev.now _)))))))))), fun h => by omega⟩
  obtain ⟨g5, s5⟩ := p5 (by omega)
  exact ⟨r5, Ev.c e1 (Ev.f (ltI_f c1) (Ev.c e2 (Ev.f (ltI_f c2) (Ev.c e3 (Ev.f (ltI_f c3) (Ev.c e4 (Ev.f (ltI_f c4) (Ev.c e5 (Ev.f (ltI_f c5) (Ev.now _)))))))))), fun h => ⟨by omega, s1_1, s1_2, s1_3, s2_0, s3, s4_1, s4_2, s4_3, s5⟩⟩


theorem laws_toStringS_l (xs : List ByteArray) (hl : xs.length ≤ 1048576) (d : Nat) : ∀ i : Nat, i + d = xs.length →
    Ev (fun k m _ _ => L_laws_toStringS_0 k m xs.length (xs.flatMap eS) xs.length (i : Int) ((xs.take i).flatMap eS ++ (List.replicate d ([.str (ByteArray.mk (Array.mk []))] : List AV)).flatten)) [.fs xs.length (xs.flatMap eS)] := by
  induction d with
  | zero =>
    intro i hi
    refine Ev.step (fun k m _ _ => L_laws_toStringS_0_s k m _ _ _ _ _) (Ev.f (ltI_f (by rw [lenI_c]; omega)) (Ev.some_ ?_))
    rw [List.replicate_zero, List.flatten_nil, List.append_nil, List.take_of_length_le (by omega), cut_all eS_len]
  | succ d ih =>
    intro i hi
    have c0 : cellAt (xs.flatMap eS) (mulN (natI (i : Int)) 1) = .str (xs[i]'(by omega)) := cell_enc0 eS_len (by omega) (by decide)
    have hset : setMany ((xs.take i).flatMap eS ++ (List.replicate (d + 1) ([.str (ByteArray.mk (Array.mk []))] : List AV)).flatten) (addN 0 (mulN (natI (i : Int)) 1)) ([.str (xs[i]'(by omega))] : List AV) = (xs.take (i + 1)).flatMap eS ++ (List.replicate d ([.str (ByteArray.mk (Array.mk []))] : List AV)).flatten := by
      rw [addN_d, Nat.zero_add, natI_c, mulN_d, ← take_next xs i (by omega)]
      have hp : (xs.take i).length = i := by rw [List.length_take]; omega
      have := fill_at eS_len (z := ([.str (ByteArray.mk (Array.mk []))] : List AV)) rfl (xs.take i) (xs[i]'(by omega)) d
      rw [hp] at this
      exact this
    have hb : Nat.ble (Nat.succ (addN 0 (mulN (natI (i : Int)) 1))) (List.length ((xs.take i).flatMap eS ++ (List.replicate (d + 1) ([.str (ByteArray.mk (Array.mk []))] : List AV)).flatten)) = true := by
      rw [fill_len eS_len rfl, List.length_take]
      exact Nat.ble_eq_true_of_le (by rw [addN_d, natI_c, mulN_d, Nat.min_eq_left (by omega)]; omega)
    refine Ev.step (fun k m _ _ => L_laws_toStringS_0_s k m _ _ _ _ _) (Ev.t (ltI_t (by rw [lenI_c]; omega)) (Ev.g (inR_n (by omega)) ?_))
    simp only [c0, hdV_c, tlV_c, parts1_a, asInt_i, asBool_b, asStr_s, asLen_f, asCells_f, tupL_t, refCells_r, ownLen_o]
    refine Ev.g rfl ((Ev.g (inR_n (by omega)) (Ev.g hb ?_)))
    simp only [hdV_c, tlV_c, parts1_a, asInt_i, asBool_b, asStr_s, asLen_f, asCells_f, tupL_t, refCells_r, ownLen_o, wrS (show i < 9223372036854775807 by omega), hset]
    exact ih (i + 1) (by omega)
theorem laws_toStringS_ev (xs : List ByteArray) (hl : xs.length ≤ 1048576) : Does cp n_laws_toStringS [.fs xs.length (xs.flatMap eS)] [.fs xs.length (xs.flatMap eS)] :=
  Ev.fn (fun k => F_laws_toStringS k _ _) (Ev.g (fit_small hl (by decide)) (laws_toStringS_l xs hl xs.length 0 (by omega)).l0)


theorem laws_toProof_ev (x0 : Int) (x1 : Int) (x2 : Bool) (x3 : Int) (x4 : Int) (x5 : Bool) (x6 : Int) (x7 : Int) (x8 : Bool) : Does cp n_laws_toProof [.agg [.int .i64 x0, .int .i64 x1, .bool x2, .int .i64 x3, .int .i64 x4, .bool x5, .int .i64 x6, .int .i64 x7, .bool x8]] [.agg [.int .i64 x0, .int .i64 x1, .bool x2, .int .i64 x3, .int .i64 x4, .bool x5, .int .i64 x6, .int .i64 x7, .bool x8]] :=
  Ev.fn (fun k => F_laws_toProof k (x0) (x1) (x2) (x3) (x4) (x5) (x6) (x7) (x8) ) (Ev.c (laws_toPoint_ev x0 x1 x2) (Ev.c (laws_toPoint_ev x3 x4 x5) (Ev.c (laws_toPoint_ev x6 x7 x8) (Ev.now _))))


theorem laws_toUpdate_ev (x0 : Int) (x1 : ByteArray) (x2 : ByteArray) (x3 : ByteArray) (x4 : List Pt) (x5 : List ByteArray) (x6 : Int) (x7 : ByteArray) (x8 : ByteArray) (x9 : ByteArray) (x10 : List ByteArray) (x11 : Int) (x12 : Int) (x13 : Int) (x14 : Bool) (x15 : Int) (x16 : Int) (x17 : Bool) (x18 : Int) (x19 : Int) (x20 : Bool) (x21 : Int) (x22 : Int) (x23 : Bool) (x24 : Int) (h_x4 : (x4.length ≤ 1048576)) (h_x5 : (x5.length ≤ 1048576)) (h_x10 : (x10.length ≤ 1048576)) : Does cp n_laws_toUpdate [.agg [.int .i64 x0, .str x1, .str x2, .str x3, .fs x4.length (x4.flatMap eP), .fs x5.length (x5.flatMap eS), .int .i64 x6, .str x7, .str x8, .str x9, .fs x10.length (x10.flatMap eS), .int .i64 x11, .int .i64 x12, .int .i64 x13, .bool x14, .int .i64 x15, .int .i64 x16, .bool x17, .int .i64 x18, .int .i64 x19, .bool x20, .int .i64 x21, .int .i64 x22, .bool x23, .int .i64 x24]] [.agg [.int .i64 x0, .str x1, .str x2, .str x3, .fs x4.length (x4.flatMap eP), .fs x5.length (x5.flatMap eS), .int .i64 x6, .str x7, .str x8, .str x9, .fs x10.length (x10.flatMap eS), .int .i64 x11, .int .i64 x12, .int .i64 x13, .bool x14, .int .i64 x15, .int .i64 x16, .bool x17, .int .i64 x18, .int .i64 x19, .bool x20, .int .i64 x21, .int .i64 x22, .bool x23, .int .i64 x24]] :=
  Ev.fn (fun k => F_laws_toUpdate k (x0) (x1) (x2) (x3) (x4).length ((x4).flatMap eP) (x5).length ((x5).flatMap eS) (x6) (x7) (x8) (x9) (x10).length ((x10).flatMap eS) (x11) (x12) (x13) (x14) (x15) (x16) (x17) (x18) (x19) (x20) (x21) (x22) (x23) (x24) ) (Ev.c (laws_toHead_ev x0 x1 x2 x3) (Ev.c (laws_toCommittee_ev x4 h_x4) (Ev.c (laws_toStringS_ev x5 h_x5) (Ev.c (laws_toHead_ev x6 x7 x8 x9) (Ev.c (laws_toStringS_ev x10 h_x10) (Ev.c (laws_toPoint_ev x12 x13 x14) (Ev.c (laws_toProof_ev x15 x16 x17 x18 x19 x20 x21 x22 x23) (Ev.some_ (by simp only [hdV_c, tlV_c, parts1_a, asInt_i, asBool_b, asStr_s, asLen_f, asCells_f, tupL_t, refCells_r, ownLen_o, cut_all eP_len, cut_all eS_len])))))))))


theorem laws_eqStringS_l (xs : List ByteArray) (hl : xs.length ≤ 1048576) (d : Nat) : ∀ i : Nat, i + d = xs.length →
    Ev (fun k m _ _ => L_laws_eqStringS_0 k m xs.length (xs.flatMap eS) xs.length (xs.flatMap eS) (i : Int)) [.bool true] := by
  induction d with
  | zero =>
    intro i hi
    exact Ev.step (fun k m _ _ => L_laws_eqStringS_0_s k m _ _ _ _ _) (Ev.f (ltI_f (by rw [lenI_c]; omega)) (Ev.now _))
  | succ d ih =>
    intro i hi
    have c0 : cellAt (xs.flatMap eS) (mulN (natI (i : Int)) 1) = .str (xs[i]'(by omega)) := cell_enc0 eS_len (by omega) (by decide)
    refine Ev.step (fun k m _ _ => L_laws_eqStringS_0_s k m _ _ _ _ _) (Ev.t (ltI_t (by rw [lenI_c]; omega)) (Ev.g (inR_n (by omega)) ?_))
    simp only [c0, hdV_c, tlV_c, parts1_a, asInt_i, asBool_b, asStr_s, asLen_f, asCells_f, tupL_t, refCells_r, ownLen_o]
    refine Ev.g rfl (Ev.g (inR_n (by omega)) (Ev.g rfl (Ev.f (by rw [eqS_t rfl]; rfl) ?_)))
    simp only [wrS (show i < 9223372036854775807 by omega)]
    exact ih (i + 1) (by omega)
theorem laws_eqStringS_same (xs : List ByteArray) (hl : xs.length ≤ 1048576) : Does cp n_laws_eqStringS [.fs xs.length (xs.flatMap eS), .fs xs.length (xs.flatMap eS)] [.bool true] :=
  Ev.fn (fun k => F_laws_eqStringS k _ _ _ _) (Ev.f (by rw [eqI_t rfl]; rfl) (laws_eqStringS_l xs hl xs.length 0 (by omega)).l0)


theorem laws_eqProof_same (x0 : Int) (x1 : Int) (x2 : Bool) (x3 : Int) (x4 : Int) (x5 : Bool) (x6 : Int) (x7 : Int) (x8 : Bool) : Does cp n_laws_eqProof [.agg [.int .i64 x0, .int .i64 x1, .bool x2, .int .i64 x3, .int .i64 x4, .bool x5, .int .i64 x6, .int .i64 x7, .bool x8], .agg [.int .i64 x0, .int .i64 x1, .bool x2, .int .i64 x3, .int .i64 x4, .bool x5, .int .i64 x6, .int .i64 x7, .bool x8]] [.bool true] :=
  Ev.fn (fun k => F_laws_eqProof k (x0) (x1) (x2) (x3) (x4) (x5) (x6) (x7) (x8) (x0) (x1) (x2) (x3) (x4) (x5) (x6) (x7) (x8) ) (Ev.c (laws_eqPoint_same x0 x1 x2) (Ev.f rfl (Ev.c (laws_eqPoint_same x3 x4 x5) (Ev.f rfl (Ev.c (laws_eqPoint_same x6 x7 x8) (Ev.f rfl (Ev.now _)))))))


theorem laws_eqUpdate_same (x0 : Int) (x1 : ByteArray) (x2 : ByteArray) (x3 : ByteArray) (x4 : List Pt) (x5 : List ByteArray) (x6 : Int) (x7 : ByteArray) (x8 : ByteArray) (x9 : ByteArray) (x10 : List ByteArray) (x11 : Int) (x12 : Int) (x13 : Int) (x14 : Bool) (x15 : Int) (x16 : Int) (x17 : Bool) (x18 : Int) (x19 : Int) (x20 : Bool) (x21 : Int) (x22 : Int) (x23 : Bool) (x24 : Int) (h_x4 : (x4.length ≤ 1048576)) (h_x5 : (x5.length ≤ 1048576)) (h_x10 : (x10.length ≤ 1048576)) : Does cp n_laws_eqUpdate [.agg [.int .i64 x0, .str x1, .str x2, .str x3, .fs x4.length (x4.flatMap eP), .fs x5.length (x5.flatMap eS), .int .i64 x6, .str x7, .str x8, .str x9, .fs x10.length (x10.flatMap eS), .int .i64 x11, .int .i64 x12, .int .i64 x13, .bool x14, .int .i64 x15, .int .i64 x16, .bool x17, .int .i64 x18, .int .i64 x19, .bool x20, .int .i64 x21, .int .i64 x22, .bool x23, .int .i64 x24], .agg [.int .i64 x0, .str x1, .str x2, .str x3, .fs x4.length (x4.flatMap eP), .fs x5.length (x5.flatMap eS), .int .i64 x6, .str x7, .str x8, .str x9, .fs x10.length (x10.flatMap eS), .int .i64 x11, .int .i64 x12, .int .i64 x13, .bool x14, .int .i64 x15, .int .i64 x16, .bool x17, .int .i64 x18, .int .i64 x19, .bool x20, .int .i64 x21, .int .i64 x22, .bool x23, .int .i64 x24]] [.bool true] :=
  Ev.fn (fun k => F_laws_eqUpdate k (x0) (x1) (x2) (x3) (x4).length ((x4).flatMap eP) (x5).length ((x5).flatMap eS) (x6) (x7) (x8) (x9) (x10).length ((x10).flatMap eS) (x11) (x12) (x13) (x14) (x15) (x16) (x17) (x18) (x19) (x20) (x21) (x22) (x23) (x24) (x0) (x1) (x2) (x3) (x4).length ((x4).flatMap eP) (x5).length ((x5).flatMap eS) (x6) (x7) (x8) (x9) (x10).length ((x10).flatMap eS) (x11) (x12) (x13) (x14) (x15) (x16) (x17) (x18) (x19) (x20) (x21) (x22) (x23) (x24) ) (Ev.c (laws_eqHead_same x0 x1 x2 x3) (Ev.f rfl (Ev.c (laws_eqCommittee_same x4 h_x4) (Ev.f rfl (Ev.c (laws_eqStringS_same x5 h_x5) (Ev.f rfl (Ev.c (laws_eqHead_same x6 x7 x8 x9) (Ev.f rfl (Ev.c (laws_eqStringS_same x10 h_x10) (Ev.f rfl (Ev.f (by rw [eqI_t rfl]; rfl) (Ev.c (laws_eqPoint_same x12 x13 x14) (Ev.f rfl (Ev.c (laws_eqProof_same x15 x16 x17 x18 x19 x20 x21 x22 x23) (Ev.f rfl (Ev.f (by rw [eqI_t rfl]; rfl) (Ev.now _)))))))))))))))))


theorem takeA_ex (x0 : Int) (x1 x2 x3 : ByteArray) (x4 x5 : List Pt) (x6 : Bool) (al be ga de : Pt) (x19 : List Pt) (s1 : Int) (p1 t1 b1 : ByteArray) (ks : List Pt) (nb : List ByteArray) (s2 : Int) (p2 t2 b2 : ByteArray) (fb : List ByteArray) (bits : Int) (sg a b c : Pt) (sn : Int) (tm : Int) (h4 : x4.length ≤ 1048576) (h5 : x5.length ≤ 1048576) (k1 : ks.length ≤ 1048576) :
    ∃ (y0 : Int) (y1 y2 y3 : ByteArray) (y4 y5 : List Pt) (y6 : Bool), takeA x0 x1 x2 x3 x4 x5 x6 al be ga de x19 s1 p1 t1 b1 ks nb s2 p2 t2 b2 fb bits sg a b c sn tm = aCl y0 y1 y2 y3 y4 y5 y6 al be ga de x19 ∧ y4.length ≤ 1048576 ∧ y5.length ≤ 1048576 := by
  unfold takeA
  split
  · refine ⟨_, _, _, _, _, _, _, rfl, ?_, ?_⟩
    · unfold tkN
      split
      · split <;> exact h5
      · split
        · split <;> exact h4
        · exact h4
    · unfold tkN
      split
      · split
        · exact k1
        · exact Nat.zero_le _
      · split
        · split
          · exact k1
          · exact h5
        · exact h5
  · exact ⟨_, _, _, _, _, _, _, rfl, h4, h5⟩
theorem cutMk (n : Nat) (k : Int) : cutC ((mkL n k).flatMap eP) 0 (mulN n 3) = (mkL n k).flatMap eP := by
  have := cut_all eP_len (mkL n k)
  rw [mkL_len] at this
  exact this
theorem plain_cl (x0 : Int) (x1 x2 x3 : ByteArray) (x4 x5 : List Pt) (x6 : Bool) (al be ga de : Pt) (x19 : List Pt) (r : Int) : plainRes [aCl x0 x1 x2 x3 x4 x5 x6 al be ga de x19, .int .i64 r] = true := by
  have p4 := plain_pts x4
  have p5 := plain_pts x5
  have p19 := plain_pts x19
  simp [aCl, plainRes, AV.parts1, plainV, plain1, p4, p5, p19]
theorem law_TakeUpdate (x0 : Int) (x1 x2 x3 : ByteArray) (x4 x5 : List Pt) (x6 : Bool) (al be ga de : Pt) (x19 : List Pt) (z1 : x1.size ≤ 9223372036854775807) (z2 : x2.size ≤ 9223372036854775807) (z3 : x3.size ≤ 9223372036854775807) (z4 : x4.length ≤ 9223372036854775807) (z5 : x5.length ≤ 9223372036854775807) (z6 : x19.length ≤ 9223372036854775807)
    (s1 : Int) (p1 t1 b1 : ByteArray) (ks : List Pt) (nb : List ByteArray) (s2 : Int) (p2 t2 b2 : ByteArray) (fb : List ByteArray) (bits : Int) (sg a b c : Pt) (sn : Int) (y1 : p1.size ≤ 9223372036854775807) (y2 : t1.size ≤ 9223372036854775807) (y3 : b1.size ≤ 9223372036854775807) (y4 : ks.length ≤ 9223372036854775807) (y5 : nb.length ≤ 9223372036854775807 ∧ ∀ y ∈ nb, y.size ≤ 9223372036854775807) (y7 : p2.size ≤ 9223372036854775807) (y8 : t2.size ≤ 9223372036854775807) (y9 : b2.size ≤ 9223372036854775807) (y10 : fb.length ≤ 9223372036854775807 ∧ ∀ y ∈ fb, y.size ≤ 9223372036854775807) (tm : Int) :
    ∃ k, evF cp k n_laws_FnExactTakeUpdate [aCl x0 x1 x2 x3 x4 x5 x6 al be ga de x19, aUpd s1 p1 t1 b1 ks nb s2 p2 t2 b2 fb bits sg a b c sn, .int .i64 tm] = some [.bool true] := by
  apply Ev.rounds
  obtain ⟨r, e, p⟩ := laws_szClient_ev x0 x1 x2 x3 x4 x5 x6 al.1 al.2.1 al.2.2 be.1 be.2.1 be.2.2 ga.1 ga.2.1 ga.2.2 de.1 de.2.1 de.2.2 x19 z1 z2 z3 z4 z5 z6 1048576 (by omega) (by omega)
  refine Ev.fn (fun k => F_laws_FnExactTakeUpdate k ..) (Ev.c e ?_)
  by_cases h0 : r < 0
  · exact Ev.t (ltI_t h0) (Ev.now _)
  refine Ev.f (ltI_f h0) ?_
  obtain ⟨hr, _, _, _, l4, l5, l19⟩ := p (by omega)
  obtain ⟨r', e', p'⟩ := laws_szUpdate_ev s1 p1 t1 b1 ks nb s2 p2 t2 b2 fb bits sg.1 sg.2.1 sg.2.2 a.1 a.2.1 a.2.2 b.1 b.2.1 b.2.2 c.1 c.2.1 c.2.2 sn y1 y2 y3 y4 y5 y7 y8 y9 y10 r (by omega) (by omega)
  refine Ev.c e' ?_
  by_cases h0' : r' < 0
  · exact Ev.t (ltI_t h0') (Ev.now _)
  refine Ev.f (ltI_f h0') ?_
  obtain ⟨_, _, _, _, m4, m5, _, _, _, m10⟩ := p' (by omega)
  have tx := laws_toClient_ev x0 x1 x2 x3 x4 x5 x6 al.1 al.2.1 al.2.2 be.1 be.2.1 be.2.2 ga.1 ga.2.1 ga.2.2 de.1 de.2.1 de.2.2 x19 l4 l5 l19
  have ty := laws_toUpdate_ev s1 p1 t1 b1 ks nb s2 p2 t2 b2 fb bits sg.1 sg.2.1 sg.2.2 a.1 a.2.1 a.2.2 b.1 b.2.1 b.2.2 c.1 c.2.1 c.2.2 sn m4 m5.1 m10.1
  have ux := laws_eqClient_same x0 x1 x2 x3 x4 x5 x6 al.1 al.2.1 al.2.2 be.1 be.2.1 be.2.2 ga.1 ga.2.1 ga.2.2 de.1 de.2.1 de.2.2 x19 l4 l5 l19
  have uy := laws_eqUpdate_same s1 p1 t1 b1 ks nb s2 p2 t2 b2 fb bits sg.1 sg.2.1 sg.2.2 a.1 a.2.1 a.2.2 b.1 b.2.1 b.2.2 c.1 c.2.1 c.2.2 sn m4 m5.1 m10.1
  have es := spec_TakeUpdate_ev x0 x1 x2 x3 x4 x5 x6 al be ga de x19 s1 p1 t1 b1 ks nb s2 p2 t2 b2 fb bits sg a b c sn tm l4 l5 l19 m4 m5.1 m10.1
  have ei := impl_TakeUpdate_ev x0 x1 x2 x3 x4 x5 x6 al be ga de x19 s1 p1 t1 b1 ks nb s2 p2 t2 b2 fb bits sg a b c sn tm l4 l5 l19 m4 m5.1 m10.1
  obtain ⟨y0, y1, y2, y3, y4, y5, y6, eA, n4, n5⟩ := takeA_ex x0 x1 x2 x3 x4 x5 x6 al be ga de x19 s1 p1 t1 b1 ks nb s2 p2 t2 b2 fb bits sg a b c sn tm l4 l5 m4
  rw [eA] at es ei
  generalize checkN x0 x1 x2 x3 x4 x5 x6 al be ga de x19 s1 p1 t1 b1 ks nb s2 p2 t2 b2 fb bits sg a b c sn tm = code at es ei
  have uv := laws_eqClient_same y0 y1 y2 y3 y4 y5 y6 al.1 al.2.1 al.2.2 be.1 be.2.1 be.2.2 ga.1 ga.2.1 ga.2.2 de.1 de.2.1 de.2.2 x19 n4 n5 l19
  have em := markClient_ev x0 x1 x2 x3 x4 x5 x6 al be ga de x19 l4 l5 l19
  obtain ⟨q1, q2, q3, qn, eu⟩ := markUpdate_ev s1 p1 t1 b1 ks nb s2 p2 t2 b2 fb bits sg a b c sn (mkCl x4.length x5.length x19.length) (by unfold mkCl; omega) m4 m5.1 m10.1
  have ev := markClient_ev y0 y1 y2 y3 y4 y5 y6 al be ga de x19 n4 n5 l19
  have eh := heldClient_ev y0 y1 y2 y3 y4.length y5.length y6 al be ga de x19.length n4 n5 l19
  have hp := plain_cl y0 y1 y2 y3 y4 y5 y6 al be ga de x19 code
  refine Ev.c tx (Ev.c ty ?_)
  simp only [hdV_c, tlV_c, parts1_a, asInt_i, asBool_b, asStr_s, asLen_f, asCells_f, tupL_t, refCells_r, ownLen_o, cut_all eP_len, cut_all eS_len]
  refine Ev.c es (Ev.c tx (Ev.c ty ?_))
  simp only [hdV_c, tlV_c, parts1_a, asInt_i, asBool_b, asStr_s, asLen_f, asCells_f, tupL_t, refCells_r, ownLen_o, cut_all eP_len, cut_all eS_len]
  refine Ev.c ei (Ev.g hp ?_)
  simp only [aCl, hdV_c, tlV_c, parts1_a, asInt_i, asBool_b, asStr_s, asLen_f, asCells_f, tupL_t, refCells_r, ownLen_o, cut_all eP_len, cut_all eS_len]
  refine Ev.c uv (Ev.f rfl (Ev.f (by (try simp only [hdV_c, tlV_c, parts1_a, asInt_i, asBool_b, asStr_s, asLen_f, asCells_f, tupL_t, refCells_r, ownLen_o]); rw [eqI_t rfl]; rfl) (Ev.c tx ?_)))
  simp only [hdV_c, tlV_c, parts1_a, asInt_i, asBool_b, asStr_s, asLen_f, asCells_f, tupL_t, refCells_r, ownLen_o, cut_all eP_len, cut_all eS_len]
  refine Ev.c ux (Ev.f rfl (Ev.c ty ?_))
  simp only [hdV_c, tlV_c, parts1_a, asInt_i, asBool_b, asStr_s, asLen_f, asCells_f, tupL_t, refCells_r, ownLen_o, cut_all eP_len, cut_all eS_len]
  refine Ev.c uy (Ev.f rfl (Ev.c em (Ev.g rfl ?_)))
  simp only [hdV_c, tlV_c, parts1_a, asInt_i, asBool_b, asStr_s, asLen_f, asCells_f, tupL_t, refCells_r, ownLen_o]
  refine Ev.c eu (Ev.g rfl (Ev.f (ltI_f (by simp only [hdV_c, tlV_c, parts1_a, asInt_i, asBool_b, asStr_s, asLen_f, asCells_f, tupL_t, refCells_r, ownLen_o]; omega)) (Ev.c uv (Ev.f rfl (Ev.f (by (try simp only [hdV_c, tlV_c, parts1_a, asInt_i, asBool_b, asStr_s, asLen_f, asCells_f, tupL_t, refCells_r, ownLen_o]); rw [eqI_t rfl]; rfl) (Ev.c ev (Ev.g rfl ?_)))))))
  simp only [hdV_c, tlV_c, parts1_a, asInt_i, asBool_b, asStr_s, asLen_f, asCells_f, tupL_t, refCells_r, ownLen_o, cutMk]
  refine Ev.c eh (Ev.f (ltI_f (by simp only [hdV_c, tlV_c, parts1_a, asInt_i, asBool_b, asStr_s, asLen_f, asCells_f, tupL_t, refCells_r, ownLen_o]; omega)) (Ev.f (by (try simp only [hdV_c, tlV_c, parts1_a, asInt_i, asBool_b, asStr_s, asLen_f, asCells_f, tupL_t, refCells_r, ownLen_o]); rw [eqI_t rfl]; rfl) (Ev.c tx (Ev.c ty ?_))))
  simp only [hdV_c, tlV_c, parts1_a, asInt_i, asBool_b, asStr_s, asLen_f, asCells_f, tupL_t, refCells_r, ownLen_o, cut_all eP_len, cut_all eS_len]
  refine Ev.c ei (Ev.g hp ?_)
  simp only [aCl, hdV_c, tlV_c, parts1_a, asInt_i, asBool_b, asStr_s, asLen_f, asCells_f, tupL_t, refCells_r, ownLen_o, cut_all eP_len, cut_all eS_len]
  exact Ev.c uv (Ev.f rfl (Ev.f (by (try simp only [hdV_c, tlV_c, parts1_a, asInt_i, asBool_b, asStr_s, asLen_f, asCells_f, tupL_t, refCells_r, ownLen_o]); rw [eqI_t rfl]; rfl) (Ev.c eh (Ev.f (ltI_f (by simp only [hdV_c, tlV_c, parts1_a, asInt_i, asBool_b, asStr_s, asLen_f, asCells_f, tupL_t, refCells_r, ownLen_o]; omega)) (Ev.f (by simp only [hdV_c, tlV_c, parts1_a, asInt_i, asBool_b, asStr_s, asLen_f, asCells_f, tupL_t, refCells_r, ownLen_o]; rw [eqI_t rfl]; rfl) (Ev.now _))))))


end Go.Proofs.YtiemmlldjjldkaaGreatDoor.FnExactTakeUpdate
