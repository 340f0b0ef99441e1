/- FnHalves, the plain part: for every argument the law answers true. No conditions. -/
import Derived.Test.YtmhakjpjnnfidaaEVcFnHalves
namespace Go.Proofs.Ytmhakjpjnnfidaa.FnHalves
open Go Go.Proofs Go.Proofs.Ytmhakjpjnnfidaa.EV
set_option linter.unusedVariables false
set_option linter.unusedSimpArgs false
set_option maxRecDepth 100000
def eI (n : Int) : List AV := [.int .i64 n]
theorem eI_len (n : Int) : (eI n).length = 1 := rfl
def eS (s : ByteArray) : List AV := [.str s]
theorem eS_len (s : ByteArray) : (eS s).length = 1 := rfl
theorem notB_to {b : Bool} (h : notB b = true) : b = false := by cases b <;> first | rfl | cases h
theorem notB_fo {b : Bool} (h : notB b = false) : b = true := by cases b <;> first | rfl | cases h
theorem Ev.an {a b : Bool} {X : Nat → Nat → Nat → Nat → Option (List AV)} (h : a = true → Ev X [.bool b]) : Ev (fun k m p q => br (notB a) (some [.bool false]) (X k m p q)) [.bool (a && b)] := by
  cases a with
  | true => exact Ev.f rfl (h rfl)
  | false => exact Ev.t rfl (Ev.now _)
theorem Ev.ap {a b : Bool} {X : Nat → Nat → Nat → Nat → Option (List AV)} (h : a = true → Ev X [.bool b]) : Ev (fun k m p q => br a (X k m p q) (some [.bool false])) [.bool (a && b)] := by
  cases a with
  | true => exact Ev.t rfl (h rfl)
  | false => exact Ev.f rfl (Ev.now _)
theorem Ev.na {a b : Bool} {X : Nat → Nat → Nat → Nat → Option (List AV)} (h : a = false → Ev X [.bool b]) : Ev (fun k m p q => br a (some [.bool false]) (X k m p q)) [.bool (!a && b)] := by
  cases a with
  | false => exact Ev.f rfl (h rfl)
  | true => exact Ev.t rfl (Ev.now _)

def eB (n : Int) : List AV := [.int .u8 n]
theorem eB_len (n : Int) : (eB n).length = 1 := rfl
theorem ei {xs : List Int} {i : Nat} (hi : i < xs.length) : cellAt (xs.flatMap eI) (mulN (natI (i : Int)) 1) = .int .i64 xs[i] := cell_enc0 eI_len hi (by decide)
theorem ebi {xs : List Int} {i : Nat} (hi : i < xs.length) : cellAt (xs.flatMap eB) (mulN (natI (i : Int)) 1) = .int .u8 xs[i] := cell_enc0 eB_len hi (by decide)
theorem catE (xs : List Int) (n : Int) : catC (cutC (xs.flatMap eI) 0 (mulN xs.length 1)) (cutC [.int .i64 n] 0 1) = (xs ++ [n]).flatMap eI := by rw [cut_all eI_len, List.flatMap_append]; rfl
theorem catB (xs : List Int) (n : Int) : catC (cutC (xs.flatMap eB) 0 (mulN xs.length 1)) (cutC [.int .u8 n] 0 1) = (xs ++ [n]).flatMap eB := by rw [cut_all eB_len, List.flatMap_append]; rfl
theorem fitN_small {n b : Nat} (h : n ≤ 1048576) (hb : b ≤ 4096) : Bool.and (fitN n b) Bool.true = true := by
  have : n * b ≤ 1048576 * 4096 := Nat.mul_le_mul h hb
  rw [Bool.and_true]
  exact Nat.ble_eq_true_of_le (by omega)
theorem addN1 (xs : List Int) (n : Int) : addN xs.length 1 = (xs ++ [n]).length := by rw [List.length_append]; rfl
theorem isBytes_e (xs : List Int) : isBytes (xs.flatMap eB) = true := by
  unfold isBytes
  rw [List.all_eq_true]
  intro v hv
  obtain ⟨n, _, hn⟩ := List.mem_flatMap.1 hv
  rw [eB, List.mem_singleton] at hn
  subst hn; rfl
theorem strOf_e (xs : List Int) : strOf (xs.flatMap eB) = strOfNums xs := by
  unfold strOf strOfNums
  congr 2
  induction xs with
  | nil => rfl
  | cons x r ih => rw [List.flatMap_cons, List.map_append, ih]; rfl
theorem and_range (a b : Int) (n : Nat) (hb : (BitVec.ofInt 64 b).toNat = n) (hn : n < 4294967296) : 0 ≤ bitsOp .and .i64 a b ∧ bitsOp .and .i64 a b ≤ n := by
  have h : bitsOp .and .i64 a b = wr .i64 (((BitVec.ofInt 64 a) &&& (BitVec.ofInt 64 b)).toNat : Int) := rfl
  have h2 : ((BitVec.ofInt 64 a) &&& (BitVec.ofInt 64 b)).toNat ≤ n := by rw [BitVec.toNat_and, hb]; exact Nat.and_le_right
  rw [h, wr64 (by omega)]
  omega
theorem and255 (a : Int) : 0 ≤ bitsOp .and .i64 a 255 ∧ bitsOp .and .i64 a 255 < 256 := by
  have := and_range a 255 255 (by decide) (by decide)
  omega
/-- The cursor of a draw, as it is handed by reference, and as it comes back. -/
def cR (xs : List Int) (i h : Int) : AV := .ref false 169 [.fs xs.length (xs.flatMap eB), .int .i64 i, .int .i64 h]
def cA (xs : List Int) (i h : Int) : AV := .agg [.fs xs.length (xs.flatMap eB), .int .i64 i, .int .i64 h]
theorem refCells_r (b : Bool) (t : TypeId) (l : List AV) : AV.refCells (.ref b t l) = l := rfl
theorem l01New_l (xs : List Int) (hl : xs.length ≤ 1048576) (d : Nat) : ∀ (i : Nat) (h : Int), i + d = xs.length → ∃ g, Ev (fun k m _ _ => L_spec_l01New_0 k m xs.length (xs.flatMap eB) (i : Int) h) [cR xs 0 g] := by
  induction d with
  | zero =>
    intro i h hi
    exact ⟨h, Ev.step (fun k m _ _ => L_spec_l01New_0_s k m _ _ _ _) (Ev.f (ltI_f (by rw [lenI_c]; omega)) (Ev.now _))⟩
  | succ d ih =>
    intro i h hi
    have hi' : i < xs.length := by omega
    by_cases c : (i : Int) < 4000
    · obtain ⟨g, e⟩ := ih (i + 1) (bitsOp .and .i64 (wr .i64 (addI (wr .i64 (addI (wr .i64 (mulI h 131)) (wr .i64 xs[i]))) 7)) 1073741823) (by omega)
      refine ⟨g, Ev.step (fun k m _ _ => L_spec_l01New_0_s k m _ _ _ _) (Ev.t (ltI_t (by rw [lenI_c]; omega)) (Ev.t (ltI_t c) (Ev.g (inR_n hi') ?_)))⟩
      simp only [ebi hi', hdV_c, tlV_c, parts1_a, asInt_i, asBool_b, asStr_s, asLen_f, asCells_f, wrS (show i < 9223372036854775807 by omega)]
      exact Ev.g rfl e
    · exact ⟨h, Ev.step (fun k m _ _ => L_spec_l01New_0_s k m _ _ _ _) (Ev.t (ltI_t (by rw [lenI_c]; omega)) (Ev.f (ltI_f c) (Ev.now _)))⟩
theorem l01New_ev (xs : List Int) (hl : xs.length ≤ 1048576) : ∃ h, Does cp n_spec_l01New [.fs xs.length (xs.flatMap eB)] [cR xs 0 h] := by
  obtain ⟨g, e⟩ := l01New_l xs hl xs.length 0 (wr .i64 (addI 76801 (lenI xs.length))) (by omega)
  exact ⟨g, Ev.fn (fun k => F_spec_l01New k _ _) e.l0⟩
def nextH (h : Int) : Int := wr .i64 (addI (wr .i64 (mulI h 6364136223846793005)) 1442695040888963407)
def drawX (h : Int) : Int := bitsOp .and .i64 (bitsOp .xor .i64 (shrI .i64 (nextH h) 33) (shrI .i64 (nextH h) 45)) 255
theorem l01Byte_ev (xs : List Int) (hl : xs.length ≤ 1048576) (i h : Int) (h0 : 0 ≤ i) : ∃ x j g, Does cp n_spec_l01Byte [cR xs i h] [.int .i64 x, cA xs j g] ∧ 0 ≤ j ∧ 0 ≤ x ∧ x < 256 := by
  obtain ⟨i, rfl⟩ := Int.eq_ofNat_of_zero_le h0
  by_cases c : i < xs.length
  · refine ⟨bitsOp .and .i64 (wr .i64 (addI (drawX h) (wr .i64 xs[i]))) 255, ((i + 1 : Nat) : Int), nextH h, Ev.fn (fun k => F_spec_l01Byte k _ _ _ _) (Ev.t (ltI_t (by rw [lenI_c]; omega)) (Ev.g (inR_n c) ?_)), by omega, and255 _⟩
    simp only [ebi c, hdV_c, tlV_c, parts1_a, asInt_i, asBool_b, asStr_s, asLen_f, asCells_f, wrS (show i < 9223372036854775807 by omega)]
    exact Ev.g rfl (Ev.now _)
  · exact ⟨drawX h, (i : Int), nextH h, Ev.fn (fun k => F_spec_l01Byte k _ _ _ _) (Ev.f (ltI_f (by rw [lenI_c]; omega)) (Ev.now _)), by omega, and255 _⟩
theorem l01Below_ev (xs : List Int) (hl : xs.length ≤ 1048576) (i h : Int) (h0 : 0 ≤ i) (n : Int) : ∃ x j g, Does cp n_spec_l01Below [cR xs i h, .int .i64 n] [.int .i64 x, cA xs j g] ∧ 0 ≤ j ∧ 0 ≤ x ∧ (0 < n → x < n) := by
  by_cases c : n ≤ 0
  · exact ⟨0, i, h, Ev.fn (fun k => F_spec_l01Below k _ _ _ _ _) (Ev.t (leI_t c) (Ev.now _)), h0, by omega, fun q => by omega⟩
  by_cases c2 : n ≤ 256
  · obtain ⟨x, j, g, e, hj, hx0, hx1⟩ := l01Byte_ev xs hl i h h0
    refine ⟨Int.tmod x n, j, g, Ev.fn (fun k => F_spec_l01Below k _ _ _ _ _) (Ev.f (leI_f c) (Ev.t (leI_t c2) (Ev.c e (Ev.g ?_ (Ev.now _))))), hj, ?_, fun _ => ?_⟩
    · rw [eqI_f (by omega)]; rfl
    · exact Int.tmod_nonneg _ hx0
    · exact Int.tmod_lt_of_pos _ (by omega)
  · obtain ⟨x, j, g, e, hj, hx0, hx1⟩ := l01Byte_ev xs hl i h h0
    obtain ⟨y, j, g, e1, hj, hy0, hy1⟩ := l01Byte_ev xs hl j g hj
    obtain ⟨z, j, g, e2, hj, hz0, hz1⟩ := l01Byte_ev xs hl j g hj
    obtain ⟨w, j, g, e3, hj, hw0, hw1⟩ := l01Byte_ev xs hl j g hj
    refine ⟨Int.tmod (x * 16777216 + y * 65536 + z * 256 + w) n, j, g, Ev.fn (fun k => F_spec_l01Below k _ _ _ _ _) (Ev.f (leI_f c) (Ev.f (leI_f c2) (Ev.c e (Ev.c e1 (Ev.c e2 (Ev.c e3 (Ev.g ?_ (Ev.some_ ?_)))))))), hj, ?_, fun _ => ?_⟩
    · rw [eqI_f (by omega)]; rfl
    · simp only [hdV_c, tlV_c, parts1_a, asInt_i, asBool_b, asStr_s, asLen_f, asCells_f, mulI_d, addI_d, remI_d, cA]
      rw [wr64 (n := x * 16777216) (by omega), wr64 (n := y * 65536) (by omega), wr64 (n := z * 256) (by omega), wr64 (n := x * 16777216 + y * 65536) (by omega), wr64 (n := x * 16777216 + y * 65536 + z * 256) (by omega), wr64 (n := x * 16777216 + y * 65536 + z * 256 + w) (by omega)]
    · exact Int.tmod_nonneg _ (by omega)
    · exact Int.tmod_lt_of_pos _ (by omega)

theorem l01Once_ev (xs : List Int) (hl : xs.length ≤ 1048576) (i h : Int) (h0 : 0 ≤ i) (n : Int) : ∃ b j g, Does cp n_spec_l01Once [cR xs i h, .int .i64 n] [.bool b, cA xs j g] ∧ 0 ≤ j := by
  obtain ⟨x, j, g, e, hj, _⟩ := l01Below_ev xs hl i h h0 n
  exact ⟨eqI x 0, j, g, Ev.fn (fun k => F_spec_l01Once k _ _ _ _ _) (Ev.c e (Ev.now _)), hj⟩

theorem l01Text_l (xs : List Int) (hl : xs.length ≤ 1048576) (n : Nat) (hn : n ≤ 5000) (d : Nat) : ∀ (ys : List Int) (i h : Int), ys.length + d = n → 0 ≤ i → (∀ y ∈ ys, 0 ≤ y ∧ y < 256) →
    ∃ (zs : List Int) (j g : Int), Ev (fun k m _ _ => L_spec_l01Text_0 k m (n : Int) (ys.length : Int) ys.length xs.length (xs.flatMap eB) i h (ys.flatMap eB)) [.str (strOfNums zs), cA xs j g] ∧ 0 ≤ j ∧ zs.length = n ∧ (∀ y ∈ zs, 0 ≤ y ∧ y < 256) := by
  induction d with
  | zero =>
    intro ys i h hy h0 hr
    refine ⟨ys, i, h, Ev.step (fun k m _ _ => L_spec_l01Text_0_s k m _ _ _ _ _ _ _ _) (Ev.f (ltI_f (by omega)) ?_), h0, by omega, hr⟩
    rw [cut_all eB_len, strOf_e]
    exact Ev.g (isBytes_e ys) (Ev.now _)
  | succ d ih =>
    intro ys i h hy h0 hr
    obtain ⟨x, j, g, e, hj, hx0, hx1⟩ := l01Byte_ev xs hl i h h0
    obtain ⟨zs, j', g', e', hz⟩ := ih (ys ++ [x]) j g (by rw [List.length_append, List.length_singleton]; omega) hj (fun y hy => by
      rcases List.mem_append.1 hy with hy | hy
      · exact hr y hy
      · rw [List.mem_singleton] at hy; omega)
    refine ⟨zs, j', g', Ev.step (fun k m _ _ => L_spec_l01Text_0_s k m _ _ _ _ _ _ _ _) (Ev.t (ltI_t (by omega)) (Ev.c e (Ev.g (fitN_small (by rw [addN_d]; omega) (by decide)) ?_))), hz⟩
    have hw : wr .u8 x = x := by unfold wr; rw [IntKind.wrap_u8]; omega
    simp only [cA, hdV_c, tlV_c, parts1_a, asInt_i, asBool_b, asStr_s, asLen_f, asCells_f, hw, wrS (show ys.length < 9223372036854775807 by omega), catB, addN1 ys x]
    rw [show ((ys.length + 1 : Nat) : Int) = ((ys ++ [x]).length : Nat) by rw [List.length_append]; rfl]
    exact e'
theorem l01Text_ev (xs : List Int) (hl : xs.length ≤ 1048576) (i h : Int) (h0 : 0 ≤ i) (n : Int) (hn : 0 ≤ n ∧ n ≤ 5000) :
    ∃ (zs : List Int) (j g : Int), Does cp n_spec_l01Text [cR xs i h, .int .i64 n] [.str (strOfNums zs), cA xs j g] ∧ 0 ≤ j ∧ (zs.length : Int) = n ∧ (∀ y ∈ zs, 0 ≤ y ∧ y < 256) := by
  obtain ⟨n, rfl⟩ := Int.eq_ofNat_of_zero_le hn.1
  obtain ⟨zs, j, g, e, hj, hz, hr⟩ := l01Text_l xs hl n (by omega) n [] i h (by simp) h0 (by simp)
  exact ⟨zs, j, g, Ev.fn (fun k => F_spec_l01Text k _ _ _ _ _) (Ev.f (ltI_f (by omega)) e.l0), hj, by omega, hr⟩

theorem l01PickInt_ev (xs : List Int) (hl : xs.length ≤ 1048576) (i h : Int) (h0 : 0 ≤ i) (ns : List Int) (hn : 0 < ns.length) : ∃ x j g, Does cp n_spec_l01PickInt [cR xs i h, .fs ns.length (ns.flatMap eI)] [.int .i64 x, cA xs j g] ∧ 0 ≤ j ∧ x ∈ ns := by
  obtain ⟨x, j, g, e, hj, hx, hx1⟩ := l01Below_ev xs hl i h h0 (lenI ns.length)
  have h1 := hx1 (by rw [lenI_c]; omega)
  rw [lenI_c] at h1
  obtain ⟨x, rfl⟩ := Int.eq_ofNat_of_zero_le hx
  have hi : x < ns.length := by omega
  refine ⟨ns[x], j, g, Ev.fn (fun k => F_spec_l01PickInt k _ _ _ _ _ _) (Ev.c e (Ev.g (inR_n hi) ?_)), hj, List.getElem_mem hi⟩
  simp only [hdV_c, tlV_c, parts1_a, asInt_i, asBool_b, asStr_s, asLen_f, asCells_f, ei hi]
  exact Ev.g rfl (Ev.now _)

theorem l18Nibbles_l (xs : List Int) (hl : xs.length ≤ 1048576) (d : Nat) : ∀ (ys : List Int) (i h : Int), ys.length + d = 9 → 0 ≤ i →
    ∃ (zs : List Int) (j g : Int), Ev (fun k m _ _ => L_spec_l18Nibbles_0 k m (ys.length : Int) ys.length xs.length (xs.flatMap eB) i h (ys.flatMap eI)) [.fs zs.length (zs.flatMap eI), cA xs j g] ∧ 0 ≤ j ∧ zs.length ≤ 65 := by
  induction d with
  | zero =>
    intro ys i h hy h0
    obtain ⟨r, j, g, e, hj, hr0, hr1⟩ := l01Below_ev xs hl i h h0 9
    obtain ⟨r1, j1, g1, e1, hj1, _⟩ := l01Below_ev xs hl j g hj 12
    have hr := hr1 (by omega)
    by_cases q0 : r1 = 0
    · obtain ⟨x, j2, g2, e2, hj2, _⟩ := l01PickInt_ev xs hl j1 g1 hj1 [-1, 15, 16] (by decide)
      refine ⟨ys ++ [x], j2, g2, Ev.step (fun k m _ _ => L_spec_l18Nibbles_0_s k m _ _ _ _ _ _ _) (Ev.c e (Ev.f (ltI_f (by simp only [hdV_c, tlV_c, parts1_a, asInt_i, asBool_b, asStr_s, asLen_f, asCells_f]; omega)) (Ev.c e1 (Ev.t (eqI_t q0) (Ev.c e2 (Ev.g (fitN_small (by rw [addN_d]; omega) (by decide)) (Ev.some_ ?_))))))), hj2, by rw [List.length_append, List.length_singleton]; omega⟩
      simp only [cA, hdV_c, tlV_c, parts1_a, asInt_i, asBool_b, asStr_s, asLen_f, asCells_f, catE, addN1 ys x]
      simp only [cut_all eI_len]
    · by_cases q1 : r1 = 1
      · obtain ⟨x, j2, g2, e2, hj2, hx0, hx1⟩ := l01Below_ev xs hl j1 g1 hj1 2
        have hx := hx1 (by omega)
        have ew : wr .i64 (addI 64 x) = 64 + x := by rw [addI_d, wr64 (by omega)]
        have en : natI (64 + x) = (64 + x).toNat := rfl
        refine ⟨List.replicate (64 + x).toNat 0, j2, g2, Ev.step (fun k m _ _ => L_spec_l18Nibbles_0_s k m _ _ _ _ _ _ _) (Ev.c e (Ev.f (ltI_f (by simp only [hdV_c, tlV_c, parts1_a, asInt_i, asBool_b, asStr_s, asLen_f, asCells_f]; omega)) (Ev.c e1 (Ev.f (eqI_f q0) (Ev.t (eqI_t q1) (Ev.c e2 (Ev.g ?_ (Ev.some_ ?_)))))))), hj2, by rw [List.length_replicate]; omega⟩
        · simp only [hdV_c, tlV_c, parts1_a, asInt_i, asBool_b, asStr_s, asLen_f, asCells_f, ew]
          exact decide_eq_true ⟨by omega, by omega, by omega, by omega⟩
        · simp only [cA, hdV_c, tlV_c, parts1_a, asInt_i, asBool_b, asStr_s, asLen_f, asCells_f, ew, en]
          rw [show repC (64 + x).toNat [AV.int .i64 0] = (List.replicate (64 + x).toNat (0 : Int)).flatMap eI from rep_encs (e := eI) 0 rfl _, List.length_replicate]
          congr 2
          have := cut_all eI_len (List.replicate (64 + x).toNat (0 : Int))
          rw [List.length_replicate] at this
          exact this
      · refine ⟨ys, j1, g1, Ev.step (fun k m _ _ => L_spec_l18Nibbles_0_s k m _ _ _ _ _ _ _) (Ev.c e (Ev.f (ltI_f (by simp only [hdV_c, tlV_c, parts1_a, asInt_i, asBool_b, asStr_s, asLen_f, asCells_f]; omega)) (Ev.c e1 (Ev.f (eqI_f q0) (Ev.f (eqI_f q1) (Ev.some_ ?_)))))), hj1, by omega⟩
        simp only [cA, hdV_c, tlV_c, parts1_a, asInt_i, asBool_b, asStr_s, asLen_f, asCells_f, cut_all eI_len]
  | succ d ih =>
    intro ys i h hy h0
    obtain ⟨r, j, g, e, hj, hr0, hr1⟩ := l01Below_ev xs hl i h h0 9
    by_cases q : (ys.length : Int) < r
    · obtain ⟨x, j1, g1, e1, hj1, _⟩ := l01Below_ev xs hl j g hj 16
      obtain ⟨zs, j', g', e', hz⟩ := ih (ys ++ [x]) j1 g1 (by rw [List.length_append, List.length_singleton]; omega) hj1
      refine ⟨zs, j', g', Ev.step (fun k m _ _ => L_spec_l18Nibbles_0_s k m _ _ _ _ _ _ _) (Ev.c e (Ev.t (ltI_t (by simp only [hdV_c, tlV_c, parts1_a, asInt_i, asBool_b, asStr_s, asLen_f, asCells_f]; omega)) (Ev.c e1 (Ev.g (fitN_small (by rw [addN_d]; omega) (by decide)) ?_)))), hz⟩
      simp only [cA, hdV_c, tlV_c, parts1_a, asInt_i, asBool_b, asStr_s, asLen_f, asCells_f, wrS (show ys.length < 9223372036854775807 by omega), catE, addN1 ys x]
      rw [show ((ys.length + 1 : Nat) : Int) = ((ys ++ [x]).length : Nat) by rw [List.length_append]; rfl]
      exact e'
    · obtain ⟨r1, j1, g1, e1, hj1, _⟩ := l01Below_ev xs hl j g hj 12
      by_cases q0 : r1 = 0
      · obtain ⟨x, j2, g2, e2, hj2, _⟩ := l01PickInt_ev xs hl j1 g1 hj1 [-1, 15, 16] (by decide)
        refine ⟨ys ++ [x], j2, g2, Ev.step (fun k m _ _ => L_spec_l18Nibbles_0_s k m _ _ _ _ _ _ _) (Ev.c e (Ev.f (ltI_f (by simp only [hdV_c, tlV_c, parts1_a, asInt_i, asBool_b, asStr_s, asLen_f, asCells_f]; omega)) (Ev.c e1 (Ev.t (eqI_t q0) (Ev.c e2 (Ev.g (fitN_small (by rw [addN_d]; omega) (by decide)) (Ev.some_ ?_))))))), hj2, by rw [List.length_append, List.length_singleton]; omega⟩
        simp only [cA, hdV_c, tlV_c, parts1_a, asInt_i, asBool_b, asStr_s, asLen_f, asCells_f, catE, addN1 ys x]
        simp only [cut_all eI_len]
      · by_cases q1 : r1 = 1
        · obtain ⟨x, j2, g2, e2, hj2, hx0, hx1⟩ := l01Below_ev xs hl j1 g1 hj1 2
          have hx := hx1 (by omega)
          have ew : wr .i64 (addI 64 x) = 64 + x := by rw [addI_d, wr64 (by omega)]
          have en : natI (64 + x) = (64 + x).toNat := rfl
          refine ⟨List.replicate (64 + x).toNat 0, j2, g2, Ev.step (fun k m _ _ => L_spec_l18Nibbles_0_s k m _ _ _ _ _ _ _) (Ev.c e (Ev.f (ltI_f (by simp only [hdV_c, tlV_c, parts1_a, asInt_i, asBool_b, asStr_s, asLen_f, asCells_f]; omega)) (Ev.c e1 (Ev.f (eqI_f q0) (Ev.t (eqI_t q1) (Ev.c e2 (Ev.g ?_ (Ev.some_ ?_)))))))), hj2, by rw [List.length_replicate]; omega⟩
          · simp only [hdV_c, tlV_c, parts1_a, asInt_i, asBool_b, asStr_s, asLen_f, asCells_f, ew]
            exact decide_eq_true ⟨by omega, by omega, by omega, by omega⟩
          · simp only [cA, hdV_c, tlV_c, parts1_a, asInt_i, asBool_b, asStr_s, asLen_f, asCells_f, ew, en]
            rw [show repC (64 + x).toNat [AV.int .i64 0] = (List.replicate (64 + x).toNat (0 : Int)).flatMap eI from rep_encs (e := eI) 0 rfl _, List.length_replicate]
            congr 2
            have := cut_all eI_len (List.replicate (64 + x).toNat (0 : Int))
            rw [List.length_replicate] at this
            exact this
        · refine ⟨ys, j1, g1, Ev.step (fun k m _ _ => L_spec_l18Nibbles_0_s k m _ _ _ _ _ _ _) (Ev.c e (Ev.f (ltI_f (by simp only [hdV_c, tlV_c, parts1_a, asInt_i, asBool_b, asStr_s, asLen_f, asCells_f]; omega)) (Ev.c e1 (Ev.f (eqI_f q0) (Ev.f (eqI_f q1) (Ev.some_ ?_)))))), hj1, by omega⟩
          simp only [cA, hdV_c, tlV_c, parts1_a, asInt_i, asBool_b, asStr_s, asLen_f, asCells_f, cut_all eI_len]
theorem l18Nibbles_ev (xs : List Int) (hl : xs.length ≤ 1048576) (i h : Int) (h0 : 0 ≤ i) : ∃ (zs : List Int) (j g : Int), Does cp n_spec_l18Nibbles [cR xs i h] [.fs zs.length (zs.flatMap eI), cA xs j g] ∧ 0 ≤ j ∧ zs.length ≤ 65 := by
  obtain ⟨zs, j, g, e, hz⟩ := l18Nibbles_l xs hl 9 [] i h rfl h0
  exact ⟨zs, j, g, Ev.fn (fun k => F_spec_l18Nibbles k _ _ _ _) e.l0, hz⟩

def nibs : List Int → List Int
  | [] => []
  | b :: r => b / 16 :: b % 16 :: nibs r
def nibblesOf (t : ByteArray) : List Int := nibs (bts t)
theorem nibs_length (l : List Int) : (nibs l).length = 2 * l.length := by
  induction l with
  | nil => rfl
  | cons a l ih => simp only [nibs, List.length_cons, ih]; omega
theorem nibblesOf_length (t : ByteArray) : (nibblesOf t).length = 2 * t.size := by rw [nibblesOf, nibs_length, bts_length]
theorem nibs_range (l : List Int) (h : ∀ x ∈ l, 0 ≤ x ∧ x < 256) : ∀ x ∈ nibs l, 0 ≤ x ∧ x ≤ 15 := by
  induction l with
  | nil => intro x hx; simp [nibs] at hx
  | cons a l ih =>
    intro x hx
    have ha := h a List.mem_cons_self
    simp only [nibs, List.mem_cons] at hx
    rcases hx with rfl | rfl | hx
    · omega
    · omega
    · exact ih (fun y hy => h y (List.mem_cons_of_mem _ hy)) x hx
theorem nibblesOf_range (t : ByteArray) : ∀ x ∈ nibblesOf t, 0 ≤ x ∧ x ≤ 15 := nibs_range _ (fun _ hx => bts_range hx)

def nibblesOk (x : List Int) : Bool := x.all (fun n => decide (0 ≤ n ∧ n ≤ 15)) && decide (x.length ≤ 64)

def pairs16 : List Int → List Int
  | a :: b :: r => (16 * a + b) :: pairs16 r
  | _ => []
def prefixNums (l : List Int) (leaf : Bool) : List Int :=
  if l.length % 2 = 1 then ((if leaf then 32 else 0) + (16 + rd l 0)) :: pairs16 (l.drop 1) else (if leaf then 32 else 0) :: pairs16 l
def prefixText (l : List Int) (leaf : Bool) : ByteArray × Bool := if nibblesOk l then (strOfNums (prefixNums l leaf), true) else ((⟨#[]⟩ : ByteArray), false)
theorem nibblesOk_iff {l : List Int} : nibblesOk l = true ↔ (∀ x ∈ l, 0 ≤ x ∧ x ≤ 15) ∧ l.length ≤ 64 := by
  unfold nibblesOk
  rw [Bool.and_eq_true, List.all_eq_true, decide_eq_true_eq]
  constructor
  · rintro ⟨h, h2⟩
    exact ⟨fun x hx => of_decide_eq_true (h x hx), h2⟩
  · rintro ⟨h, h2⟩
    exact ⟨fun x hx => decide_eq_true (h x hx), h2⟩
theorem pairs16_length : ∀ (n : Nat) (l : List Int), l.length ≤ n → (pairs16 l).length = l.length / 2 := by
  intro n
  induction n using Nat.strongRecOn with
  | _ n ih =>
    intro l hl
    match l with
    | [] => rfl
    | [a] => simp [pairs16]
    | a :: b :: r =>
      simp only [pairs16, List.length_cons] at hl ⊢
      rw [ih (n - 1) (by omega) r (by omega)]
      omega

def rpOut (t : ByteArray) : List Int := (if bt t 0 / 16 % 2 = 1 then [bt t 0 % 16] else []) ++ nibblesOf (t.extract 1 t.size)
def rpLeaf (t : ByteArray) : Bool := decide (32 ≤ bt t 0)
def rpOk (t : ByteArray) : Bool := (prefixText (rpOut t) (rpLeaf t)).2 && decide ((prefixText (rpOut t) (rpLeaf t)).1 = t)
def readPrefix (t : ByteArray) : List Int × Bool × Bool :=
  if t.size = 0 then ([], false, false) else if 64 ≤ bt t 0 then ([], false, false) else if rpOk t = true then (rpOut t, rpLeaf t, true) else ([], false, false)
theorem bt0_range {t : ByteArray} (h : 0 < t.size) : 0 ≤ bt t 0 ∧ bt t 0 < 256 := by
  rw [bt_eq]
  exact bts_range (rd_mem (by omega) (by rw [bts_length]; omega))
theorem nibblesOf_cons {t : ByteArray} (h : 0 < t.size) : nibblesOf t = bt t 0 / 16 :: bt t 0 % 16 :: nibblesOf (t.extract 1 t.size) := by
  unfold nibblesOf
  rw [bts_extract, bt_eq]
  have hl : 0 < (bts t).length := by rw [bts_length]; exact h
  have h1 : ((bts t).drop 1).take (t.size - 1) = (bts t).drop 1 := List.take_of_length_le (by rw [List.length_drop, bts_length]; omega)
  rw [h1]
  match hb : bts t, hl with
  | b :: r, _ => rfl
theorem rpOut_length (t : ByteArray) (h : 0 < t.size) : (rpOut t).length ≤ 2 * t.size ∧ 2 * t.size ≤ (rpOut t).length + 2 := by
  unfold rpOut
  rw [List.length_append, nibblesOf_length]
  have : (t.extract 1 t.size).size = t.size - 1 := by simp [ByteArray.size_extract]
  rw [this]
  split <;> simp <;> omega
theorem rpOk_long {t : ByteArray} (h : t.size > 40) : rpOk t = false := by
  have hl := (rpOut_length t (by omega)).2
  unfold rpOk prefixText
  have : nibblesOk (rpOut t) = false := by
    rw [← Bool.not_eq_true, nibblesOk_iff]
    intro h2
    omega
  rw [this]
  rfl

theorem nibs_pairs16 : ∀ (l : List Int), l.length % 2 = 0 → (∀ x ∈ l, 0 ≤ x ∧ x ≤ 15) → nibs (pairs16 l) = l
  | [], _, _ => rfl
  | [a], h, _ => by simp at h
  | a :: b :: r, h, hr => by
    have ha := hr a (by simp)
    have hb := hr b (by simp)
    have ih := nibs_pairs16 r (by simp only [List.length_cons] at h; omega) (fun x hx => hr x (by simp [hx]))
    have h1 : (16 * a + b) / 16 = a := by omega
    have h2 : (16 * a + b) % 16 = b := by omega
    simp only [pairs16, nibs, ih, h1, h2]
theorem pairs16_range : ∀ (l : List Int), (∀ x ∈ l, 0 ≤ x ∧ x ≤ 15) → ∀ y ∈ pairs16 l, 0 ≤ y ∧ y < 256
  | [], _, y, hy => by simp [pairs16] at hy
  | [a], _, y, hy => by simp [pairs16] at hy
  | a :: b :: r, hr, y, hy => by
    have ha := hr a (by simp)
    have hb := hr b (by simp)
    simp only [pairs16, List.mem_cons] at hy
    rcases hy with rfl | hy
    · omega
    · exact pairs16_range r (fun x hx => hr x (by simp [hx])) y hy
theorem rp_of {l rest : List Int} {leaf : Bool} {f : Int} (hf : 0 ≤ f ∧ f < 64) (hr : ∀ y ∈ rest, 0 ≤ y ∧ y < 256) (ho : (if f / 16 % 2 = 1 then [f % 16] else []) ++ nibs rest = l) (hl : decide (32 ≤ f) = leaf) (hp : prefixText l leaf = (strOfNums (f :: rest), true)) :
    readPrefix (strOfNums (f :: rest)) = (l, leaf, true) := by
  have hb : bts (strOfNums (f :: rest)) = f :: rest := bts_strOf fun x hx => by
    rcases List.mem_cons.1 hx with rfl | hx
    · omega
    · exact hr x hx
  have h0 : bt (strOfNums (f :: rest)) 0 = f := by rw [bt_eq, hb]; rfl
  have hs : (strOfNums (f :: rest)).size = rest.length + 1 := by rw [strOfNums_size]; rfl
  have hx : bts ((strOfNums (f :: rest)).extract 1 (strOfNums (f :: rest)).size) = rest := by
    rw [bts_extract, hb, hs, List.drop_succ_cons, List.drop_zero, Nat.add_sub_cancel, List.take_of_length_le (Nat.le_refl _)]
  have ho' : rpOut (strOfNums (f :: rest)) = l := by
    unfold rpOut nibblesOf
    rw [h0, hx]
    exact ho
  have hl' : rpLeaf (strOfNums (f :: rest)) = leaf := by unfold rpLeaf; rw [h0]; exact hl
  unfold readPrefix
  rw [if_neg (by rw [hs]; omega), if_neg (by rw [h0]; omega), ho', hl', if_pos]
  unfold rpOk
  rw [ho', hl', hp]
  simp
theorem prefix_round {l : List Int} {leaf : Bool} (h : nibblesOk l = true) : readPrefix (strOfNums (prefixNums l leaf)) = (l, leaf, true) := by
  have hp : prefixText l leaf = (strOfNums (prefixNums l leaf), true) := by unfold prefixText; rw [if_pos h]
  have hr := (nibblesOk_iff.1 h).1
  unfold prefixNums at hp ⊢
  by_cases ho : l.length % 2 = 1
  · rw [if_pos ho] at hp ⊢
    match l, ho with
    | a :: r, ho =>
      have ha := hr a (by simp)
      have hl : r.length % 2 = 0 := by simp only [List.length_cons] at ho; omega
      have hr' : ∀ x ∈ r, 0 ≤ x ∧ x ≤ 15 := fun x hx => hr x (by simp [hx])
      have e : rd (a :: r) 0 = a := rfl
      rw [e, List.drop_succ_cons, List.drop_zero] at hp ⊢
      refine rp_of (by cases leaf <;> simp <;> omega) (pairs16_range r hr') ?_ (by cases leaf <;> simp <;> omega) hp
      rw [nibs_pairs16 r hl hr', if_pos (by cases leaf <;> simp <;> omega)]
      cases leaf <;> simp <;> omega
  · rw [if_neg ho] at hp ⊢
    refine rp_of (by cases leaf <;> simp) (pairs16_range l hr) ?_ (by cases leaf <;> simp) hp
    rw [nibs_pairs16 l (by omega) hr, if_neg (by cases leaf <;> simp)]
    rfl
theorem readPrefix_prefix {t : ByteArray} (h : (readPrefix t).2.2 = true) : prefixText (readPrefix t).1 (readPrefix t).2.1 = (t, true) := by
  unfold readPrefix at h ⊢
  split at h
  · simp at h
  · split at h
    · simp at h
    · split at h
      · rename_i h0 h1 h2
        rw [if_neg h0, if_neg h1, if_pos h2]
        unfold rpOk at h2
        rw [Bool.and_eq_true, decide_eq_true_eq] at h2
        exact Prod.ext h2.2 h2.1
      · simp at h

def common : List Int → List Int → Int
  | a :: x, b :: y => if a = b then common x y + 1 else 0
  | _, _ => 0
theorem common_le (x y : List Int) : 0 ≤ common x y ∧ common x y ≤ x.length := by
  induction x generalizing y with
  | nil => simp [common]
  | cons a x ih =>
    cases y with
    | nil => simp only [common]; omega
    | cons b y =>
      simp only [common, List.length_cons]
      have := ih y
      split <;> omega
theorem common_nil (x : List Int) : common x [] = 0 := by cases x <;> rfl

theorem nibblesOk_nil : nibblesOk [] = true := rfl
def nibR (l : List Int) : Bool := l.all (fun n => decide (0 ≤ n ∧ n ≤ 15))
theorem nibblesOk_r (l : List Int) : nibblesOk l = (nibR l && decide (l.length ≤ 64)) := rfl
theorem leI64 (l : List Int) : leI (lenI l.length) 64 = decide (l.length ≤ 64) := by
  rw [leI_d, lenI_c]
  congr 1
  exact propext ⟨by omega, by omega⟩
theorem spec_NibblesOk_l (l : List Int) (hl : l.length ≤ 1048576) (d : Nat) : ∀ i : Nat, i + d = l.length → Ev (fun k m _ _ => L_spec_NibblesOk_0 k m l.length (l.flatMap eI) (i : Int)) [.bool (nibR (l.drop i) && decide (l.length ≤ 64))] := by
  induction d with
  | zero =>
    intro i hi
    refine Ev.step (fun k m _ _ => L_spec_NibblesOk_0_s k m _ _ _) (Ev.f (ltI_f (by rw [lenI_c]; omega)) (Ev.some_ ?_))
    rw [List.drop_eq_nil_of_le (by omega), leI64]; rfl
  | succ d ih =>
    intro i hi
    have hi' : i < l.length := by omega
    refine Ev.step (fun k m _ _ => L_spec_NibblesOk_0_s k m _ _ _) (Ev.t (ltI_t (by rw [lenI_c]; omega)) (Ev.g (inR_n hi') ?_))
    simp only [ei hi', hdV_c, tlV_c, parts1_a, asInt_i, asBool_b, asStr_s, asLen_f, asCells_f]
    refine Ev.g rfl (Ev.c (s := [.bool (decide (0 ≤ l[i] ∧ l[i] ≤ 15))]) ?_ ?_)
    · refine Ev.fn (fun k => F_spec_l01In k _ _ _) (Ev.b (fun h => Ev.some_ ?_) (fun h => Ev.some_ ?_))
      · have := leI_to h
        rw [leI_d]
        congr 2
        exact decide_eq_decide.2 ⟨fun q => ⟨this, q⟩, fun q => q.2⟩
      · have := leI_fo h
        rw [decide_eq_false (by omega)]
    · rw [List.drop_eq_getElem_cons hi', nibR, List.all_cons, Bool.and_assoc]
      simp only [hdV_c, tlV_c, parts1_a, asInt_i, asBool_b, asStr_s, asLen_f, asCells_f, wrS (show i < 9223372036854775807 by omega)]
      exact Ev.an fun _ => ih (i + 1) (by omega)
theorem spec_NibblesOk_ev (l : List Int) (hl : l.length ≤ 1048576) : Does cp n_spec_NibblesOk [.fs l.length (l.flatMap eI)] [.bool (nibblesOk l)] := Ev.fn (fun k => F_spec_NibblesOk k _ _) (spec_NibblesOk_l l hl l.length 0 (by omega)).l0
theorem impl_NibblesOk_l (l : List Int) (hl : l.length ≤ 1048576) (d : Nat) : ∀ i : Nat, i + d = l.length → Ev (fun k m _ _ => L_impl_NibblesOk_0 k m l.length (l.flatMap eI) l.length (l.flatMap eI) (lenI l.length) (i : Int)) [.bool (nibR (l.drop i) && decide (l.length ≤ 64))] := by
  induction d with
  | zero =>
    intro i hi
    refine Ev.step (fun k m _ _ => L_impl_NibblesOk_0_s k m _ _ _ _ _ _) (Ev.f (ltI_f (by rw [lenI_c]; omega)) (Ev.some_ ?_))
    rw [List.drop_eq_nil_of_le (by omega), leI64]; rfl
  | succ d ih =>
    intro i hi
    have hi' : i < l.length := by omega
    refine Ev.step (fun k m _ _ => L_impl_NibblesOk_0_s k m _ _ _ _ _ _) (Ev.t (ltI_t (by rw [lenI_c]; omega)) (Ev.g (inR_n hi') ?_))
    rw [List.drop_eq_getElem_cons hi', nibR, List.all_cons, Bool.and_assoc]
    simp only [ei hi', hdV_c, tlV_c, parts1_a, asInt_i, asBool_b, asStr_s, asLen_f, asCells_f, wrS (show i < 9223372036854775807 by omega)]
    refine Ev.g rfl (Ev.b (fun h => Ev.some_ ?_) (fun h => Ev.b (fun h2 => Ev.some_ ?_) (fun h2 => (ih (i + 1) (by omega)).to ?_)))
    · have := ltI_to h
      rw [decide_eq_false (by omega)]; rfl
    · have := ltI_to h2
      rw [decide_eq_false (by omega)]; rfl
    · have := ltI_fo h
      have := ltI_fo h2
      rw [decide_eq_true (show 0 ≤ l[i] ∧ l[i] ≤ 15 by omega)]; rfl
theorem impl_NibblesOk_ev (l : List Int) (hl : l.length ≤ 1048576) : Does cp n_impl_NibblesOk [.fs l.length (l.flatMap eI)] [.bool (nibblesOk l)] := Ev.fn (fun k => F_impl_NibblesOk k _ _) (impl_NibblesOk_l l hl l.length 0 (by omega)).l0
theorem cat2 (xs : List Int) (a b : Int) : catC (cutC (xs.flatMap eI) 0 (mulN xs.length 1)) (cutC [.int .i64 a, .int .i64 b] 0 2) = (xs ++ [a, b]).flatMap eI := by rw [cut_all eI_len, List.flatMap_append]; rfl
theorem addN2 (xs : List Int) (a b : Int) : addN xs.length 2 = (xs ++ [a, b]).length := by rw [List.length_append]; rfl
theorem getS_n {t : ByteArray} {i : Nat} (hi : i < t.size) : getS t (i : Int) = (bts t)[i]'(by rw [bts_length]; exact hi) := by
  rw [getS_bt, bt_eq, rd_get _ _ (by rw [bts_length]; exact hi)]
theorem nib_impl : ∀ a : Fin 256, wr .i64 (shrI .u8 (a.val : Int) 4) = (a.val : Int) / 16 ∧ wr .i64 (bitsOp .and .u8 (a.val : Int) 15) = (a.val : Int) % 16 := by decide +kernel
theorem nib_spec : ∀ a : Fin 256, wr .i64 (quoI (wr .i64 (a.val : Int)) 16) = (a.val : Int) / 16 ∧ remI (wr .i64 (a.val : Int)) 16 = (a.val : Int) % 16 := by decide +kernel
theorem byFin {p : Int → Prop} (h : ∀ a : Fin 256, p (a.val : Int)) {x : Int} (hx : 0 ≤ x ∧ x < 256) : p x := by
  obtain ⟨n, rfl⟩ := Int.eq_ofNat_of_zero_le hx.1
  exact h ⟨n, by omega⟩
theorem nibs_append (a b : List Int) : nibs (a ++ b) = nibs a ++ nibs b := by
  induction a with
  | nil => rfl
  | cons x a ih => simp only [List.cons_append, nibs, ih]
theorem nibs_next {t : ByteArray} {i : Nat} (hi : i < (bts t).length) : nibs ((bts t).take i) ++ [(bts t)[i] / 16, (bts t)[i] % 16] = nibs ((bts t).take (i + 1)) := by
  rw [← take_next (bts t) i hi, nibs_append]; rfl
theorem impl_NibblesOf_l (t : ByteArray) (ht : t.size ≤ 131072) (d : Nat) : ∀ i : Nat, i + d = t.size →
    Ev (fun k m _ _ => L_impl_NibblesOf_0 k m t (i : Int) (nibs ((bts t).take i)).length ((nibs ((bts t).take i)).flatMap eI)) [.fs (nibblesOf t).length ((nibblesOf t).flatMap eI)] := by
  have hb := bts_length t
  induction d with
  | zero =>
    intro i hi
    refine Ev.step (fun k m _ _ => L_impl_NibblesOf_0_s k m _ _ _ _) (Ev.f (ltI_f (by rw [lenI_c, lenS_d]; omega)) (Ev.some_ ?_))
    rw [List.take_of_length_le (by omega), cut_all eI_len]; rfl
  | succ d ih =>
    intro i hi
    have hi' : i < t.size := by omega
    have hi'' : i < (bts t).length := by omega
    have hn : (nibs ((bts t).take i)).length = 2 * i := by rw [nibs_length, List.length_take]; omega
    refine Ev.step (fun k m _ _ => L_impl_NibblesOf_0_s k m _ _ _ _) (Ev.t (ltI_t (by rw [lenI_c, lenS_d]; omega)) (Ev.g (inR_n hi') (Ev.g (inR_n hi') (Ev.g (fitN_small (by rw [addN_d]; omega) (by decide)) ?_))))
    have hr := byFin (p := fun x => wr .i64 (shrI .u8 x 4) = x / 16 ∧ wr .i64 (bitsOp .and .u8 x 15) = x % 16) nib_impl (bts_range (List.getElem_mem hi''))
    simp only [getS_n hi', hr.1, hr.2, wrS (show i < 9223372036854775807 by omega), cat2, addN2 _ ((bts t)[i] / 16) ((bts t)[i] % 16), nibs_next hi'']
    exact ih (i + 1) (by omega)
theorem impl_NibblesOf_ev (t : ByteArray) (ht : t.size ≤ 131072) : Does cp n_impl_NibblesOf [.str t] [.fs (nibblesOf t).length ((nibblesOf t).flatMap eI)] := Ev.fn (fun k => F_impl_NibblesOf k _) (impl_NibblesOf_l t ht t.size 0 (by omega)).l0
theorem spec_NibblesOf_l (t : ByteArray) (ht : t.size ≤ 131072) (d : Nat) : ∀ i : Nat, i + d = t.size →
    Ev (fun k m _ _ => L_spec_NibblesOf_0 k m t (i : Int) (nibs ((bts t).take i)).length ((nibs ((bts t).take i)).flatMap eI)) [.fs (nibblesOf t).length ((nibblesOf t).flatMap eI)] := by
  have hb := bts_length t
  induction d with
  | zero =>
    intro i hi
    refine Ev.step (fun k m _ _ => L_spec_NibblesOf_0_s k m _ _ _ _) (Ev.f (ltI_f (by rw [lenI_c, lenS_d]; omega)) (Ev.some_ ?_))
    rw [List.take_of_length_le (by omega), cut_all eI_len]; rfl
  | succ d ih =>
    intro i hi
    have hi' : i < t.size := by omega
    have hi'' : i < (bts t).length := by omega
    have hn : (nibs ((bts t).take i)).length = 2 * i := by rw [nibs_length, List.length_take]; omega
    refine Ev.step (fun k m _ _ => L_spec_NibblesOf_0_s k m _ _ _ _) (Ev.t (ltI_t (by rw [lenI_c, lenS_d]; omega)) (Ev.g (inR_n hi') (Ev.g (inR_n hi') (Ev.g (fitN_small (by rw [addN_d]; omega) (by decide)) ?_))))
    have hr := byFin (p := fun x => wr .i64 (quoI (wr .i64 x) 16) = x / 16 ∧ remI (wr .i64 x) 16 = x % 16) nib_spec (bts_range (List.getElem_mem hi''))
    simp only [getS_n hi', hr.1, hr.2, wrS (show i < 9223372036854775807 by omega), cat2, addN2 _ ((bts t)[i] / 16) ((bts t)[i] % 16), nibs_next hi'']
    exact ih (i + 1) (by omega)
theorem spec_NibblesOf_ev (t : ByteArray) (ht : t.size ≤ 131072) : Does cp n_spec_NibblesOf [.str t] [.fs (nibblesOf t).length ((nibblesOf t).flatMap eI)] := Ev.fn (fun k => F_spec_NibblesOf k _) (spec_NibblesOf_l t ht t.size 0 (by omega)).l0
theorem impl_Common_l (x y : List Int) (hx : x.length ≤ 1048576) (d : Nat) : ∀ i : Nat, i + d = x.length → Ev (fun k m _ _ => L_impl_Common_0 k m y.length (y.flatMap eI) x.length (x.flatMap eI) (i : Int)) [.int .i64 ((i : Int) + common (x.drop i) (y.drop i))] := by
  induction d with
  | zero =>
    intro i hi
    refine Ev.step (fun k m _ _ => L_impl_Common_0_s k m _ _ _ _ _) (Ev.f (ltI_f (by rw [lenI_c]; omega)) (Ev.some_ ?_))
    rw [List.drop_eq_nil_of_le (by omega), common, Int.add_zero]
    intro _ _ _ _ q; cases q
  | succ d ih =>
    intro i hi
    have hi' : i < x.length := by omega
    refine Ev.step (fun k m _ _ => L_impl_Common_0_s k m _ _ _ _ _) (Ev.t (ltI_t (by rw [lenI_c]; omega)) ?_)
    by_cases hy : i < y.length
    · refine Ev.t (ltI_t (by rw [lenI_c]; omega)) (Ev.g (inR_n hi') ?_)
      simp only [ei hi', ei hy, hdV_c, tlV_c, parts1_a, asInt_i, asBool_b, asStr_s, asLen_f, asCells_f, wrS (show i < 9223372036854775807 by omega)]
      refine Ev.g rfl (Ev.g (inR_n hy) (Ev.g rfl ?_))
      rw [List.drop_eq_getElem_cons hi', List.drop_eq_getElem_cons hy, common]
      by_cases q : x[i] = y[i]
      · refine Ev.t (eqI_t q) ((ih (i + 1) (by omega)).to ?_)
        rw [if_pos q]
        push_cast
        congr 2
        omega
      · refine Ev.f (eqI_f q) (Ev.some_ ?_)
        rw [if_neg q, Int.add_zero]
    · refine Ev.f (ltI_f (by rw [lenI_c]; omega)) (Ev.some_ ?_)
      rw [List.drop_eq_nil_of_le (show y.length ≤ i by omega), common_nil, Int.add_zero]
theorem spec_Common_l (x y : List Int) (hx : x.length ≤ 1048576) (d : Nat) : ∀ i : Nat, i + d = x.length → Ev (fun k m _ _ => L_spec_Common_0 k m y.length (y.flatMap eI) x.length (x.flatMap eI) (i : Int)) [.int .i64 ((i : Int) + common (x.drop i) (y.drop i))] := by
  induction d with
  | zero =>
    intro i hi
    refine Ev.step (fun k m _ _ => L_spec_Common_0_s k m _ _ _ _ _) (Ev.f (ltI_f (by rw [lenI_c]; omega)) (Ev.some_ ?_))
    rw [List.drop_eq_nil_of_le (by omega), common, Int.add_zero]
    intro _ _ _ _ q; cases q
  | succ d ih =>
    intro i hi
    have hi' : i < x.length := by omega
    refine Ev.step (fun k m _ _ => L_spec_Common_0_s k m _ _ _ _ _) (Ev.t (ltI_t (by rw [lenI_c]; omega)) ?_)
    by_cases hy : i < y.length
    · refine Ev.t (ltI_t (by rw [lenI_c]; omega)) (Ev.g (inR_n hi') ?_)
      simp only [ei hi', ei hy, hdV_c, tlV_c, parts1_a, asInt_i, asBool_b, asStr_s, asLen_f, asCells_f, wrS (show i < 9223372036854775807 by omega)]
      refine Ev.g rfl (Ev.g (inR_n hy) (Ev.g rfl ?_))
      rw [List.drop_eq_getElem_cons hi', List.drop_eq_getElem_cons hy, common]
      by_cases q : x[i] = y[i]
      · refine Ev.t (eqI_t q) ((ih (i + 1) (by omega)).to ?_)
        rw [if_pos q]
        push_cast
        congr 2
        omega
      · refine Ev.f (eqI_f q) (Ev.some_ ?_)
        rw [if_neg q, Int.add_zero]
    · refine Ev.f (ltI_f (by rw [lenI_c]; omega)) (Ev.some_ ?_)
      rw [List.drop_eq_nil_of_le (show y.length ≤ i by omega), common_nil, Int.add_zero]
theorem impl_Common_ev (x y : List Int) (hx : x.length ≤ 1048576) : Does cp n_impl_Common [.fs x.length (x.flatMap eI), .fs y.length (y.flatMap eI)] [.int .i64 (common x y)] := Ev.fn (fun k => F_impl_Common k _ _ _ _) ((impl_Common_l x y hx x.length 0 (by omega)).l0.to (by simp))
theorem spec_Common_ev (x y : List Int) (hx : x.length ≤ 1048576) : Does cp n_spec_Common [.fs x.length (x.flatMap eI), .fs y.length (y.flatMap eI)] [.int .i64 (common x y)] := Ev.fn (fun k => F_spec_Common k _ _ _ _) ((spec_Common_l x y hx x.length 0 (by omega)).l0.to (by simp))

theorem or16 : ∀ a b : Fin 16, wr .u8 (bitsOp .or .i64 (wr .i64 (shlI .i64 (a.val : Int) 4)) (b.val : Int)) = 16 * (a.val : Int) + (b.val : Int) := by decide +kernel
theorem add16 : ∀ a b : Fin 16, wr .u8 (wr .i64 (addI (wr .i64 (mulI 16 (a.val : Int))) (b.val : Int))) = 16 * (a.val : Int) + (b.val : Int) := by decide +kernel
theorem byFin2 {p : Int → Int → Prop} (h : ∀ a b : Fin 16, p (a.val : Int) (b.val : Int)) {x y : Int} (hx : 0 ≤ x ∧ x ≤ 15) (hy : 0 ≤ y ∧ y ≤ 15) : p x y := by
  obtain ⟨n, rfl⟩ := Int.eq_ofNat_of_zero_le hx.1
  obtain ⟨m, rfl⟩ := Int.eq_ofNat_of_zero_le hy.1
  exact h ⟨n, by omega⟩ ⟨m, by omega⟩
theorem wrS1 {i : Nat} (h : i < 9223372036854775806) : wr .i64 (addI (i : Int) 1) = ((i + 1 : Nat) : Int) := wrS (by omega)
theorem wrS2 {i : Nat} (h : i < 9223372036854775806) : wr .i64 (addI (i : Int) 2) = ((i + 2 : Nat) : Int) := by rw [addI_d, wr64 (by omega)]; omega
theorem pairs16_next {l : List Int} {i : Nat} (h : i + 1 < l.length) : pairs16 (l.drop i) = (16 * l[i] + l[i + 1]) :: pairs16 (l.drop (i + 2)) := by
  rw [List.drop_eq_getElem_cons (show i < l.length by omega), List.drop_eq_getElem_cons h, pairs16]
theorem impl_PrefixText_l (l : List Int) (hl : l.length ≤ 64) (hr : ∀ x ∈ l, 0 ≤ x ∧ x ≤ 15) (he : l.length % 2 = 0) (d : Nat) : ∀ (i : Nat) (ys : List Int), i + 2 * d = l.length → ys.length + d ≤ 64 →
    Ev (fun k m _ _ => L_impl_PrefixText_0 k m l.length (l.flatMap eI) (i : Int) ys.length (ys.flatMap eB)) [.str (strOfNums (ys ++ pairs16 (l.drop i))), .bool true] := by
  induction d with
  | zero =>
    intro i ys hi hy
    refine Ev.step (fun k m _ _ => L_impl_PrefixText_0_s k m _ _ _ _ _) (Ev.f (ltI_f (by rw [lenI_c]; omega)) ?_)
    rw [cut_all eB_len, strOf_e, List.drop_eq_nil_of_le (by omega), pairs16, List.append_nil]
    · exact Ev.g (isBytes_e ys) (Ev.now _)
    · intro _ _ _ q; cases q
  | succ d ih =>
    intro i ys hi hy
    have h1 : i < l.length := by omega
    have h2 : i + 1 < l.length := by omega
    have hv := byFin2 (p := fun x y => wr .u8 (bitsOp .or .i64 (wr .i64 (shlI .i64 x 4)) y) = 16 * x + y) or16 (hr _ (List.getElem_mem h1)) (hr _ (List.getElem_mem h2))
    refine Ev.step (fun k m _ _ => L_impl_PrefixText_0_s k m _ _ _ _ _) (Ev.t (ltI_t (by rw [lenI_c]; omega)) (Ev.g (inR_n h1) ?_))
    simp only [wrS1 (show i < 9223372036854775806 by omega), wrS2 (show i < 9223372036854775806 by omega), ei h1, ei h2, hdV_c, tlV_c, parts1_a, asInt_i, asBool_b, asStr_s, asLen_f, asCells_f, hv]
    refine Ev.g rfl (Ev.g (inR_n h2) (Ev.g rfl (Ev.g (fitN_small (by rw [addN_d]; omega) (by decide)) ?_)))
    rw [catB, addN1 ys (16 * l[i] + l[i + 1]), pairs16_next h2]
    exact (ih (i + 2) (ys ++ [16 * l[i] + l[i + 1]]) (by omega) (by rw [List.length_append, List.length_singleton]; omega)).to (by rw [List.append_assoc]; rfl)
theorem inS_tail {n k : Nat} (h : k ≤ n) : inS (k : Int) (lenI n) n = true := inS_t (by omega) (by rw [lenI_c]; omega) (by rw [lenI_c]; omega)
theorem tail_len {l : List Int} {k : Nat} : subN (natI (lenI l.length)) k = (l.drop k).length := by rw [List.length_drop]; rfl
theorem tail_cells {l : List Int} {k : Nat} : cutC (l.flatMap eI) k (mulN (subN (natI (lenI l.length)) k) 1) = (l.drop k).flatMap eI := by
  have := cut_part eI_len l k (subN (natI (lenI l.length)) k)
  rw [show mulN k 1 = k from Nat.mul_one k] at this
  rw [this, tail_len, List.take_of_length_le (Nat.le_refl _)]
theorem rem2 (l : List Int) : eqI (remI (lenI l.length) 2) 1 = decide (l.length % 2 = 1) := by
  rw [eqI_d, remI_d, lenI_c, Int.tmod_eq_emod_of_nonneg (by omega)]
  congr 1
  exact propext ⟨by omega, by omega⟩
theorem u8s {n : Int} (h : 0 ≤ n ∧ n < 256) : wr .u8 n = n := by unfold wr; rw [IntKind.wrap_u8]; omega
theorem impl_PrefixText_ev (l : List Int) (hl : l.length ≤ 1048576) (leaf : Bool) : Does cp n_impl_PrefixText [.fs l.length (l.flatMap eI), .bool leaf] [.str (prefixText l leaf).1, .bool (prefixText l leaf).2] := by
  refine Ev.fn (fun k => F_impl_PrefixText k _ _ _) (Ev.c (impl_NibblesOk_ev l hl) ?_)
  unfold prefixText
  by_cases h : nibblesOk l = true
  · obtain ⟨hr, h64⟩ := nibblesOk_iff.1 h
    rw [if_pos h]
    refine Ev.f (by show notB (nibblesOk l) = false; rw [h]; rfl) ?_
    unfold prefixNums
    by_cases ho : l.length % 2 = 1
    · have h0 : 0 < l.length := by omega
      have ha := hr _ (List.getElem_mem h0)
      have e0 : cellAt (l.flatMap eI) 0 = .int .i64 l[0] := ei h0
      have er : rd l 0 = l[0] := rd_get l 0 h0
      rw [if_pos ho, er]
      have go : ∀ v : Int, Ev (fun k _ _ _ => L_impl_PrefixText_0 k k (subN (natI (lenI l.length)) 1) (cutC (l.flatMap eI) 1 (mulN (subN (natI (lenI l.length)) 1) 1)) 0 1 [.int .u8 v]) [.str (strOfNums (v :: pairs16 (l.drop 1))), .bool true] := fun v => by
        simp only [tail_cells]
        simp only [tail_len]
        exact (impl_PrefixText_l (l.drop 1) (by rw [List.length_drop]; omega) (fun x hx => hr x (List.mem_of_mem_drop hx)) (by rw [List.length_drop]; omega) ((l.drop 1).length / 2) 0 [v] (by rw [List.length_drop]; omega) (by rw [List.length_drop, List.length_singleton]; omega)).l0
      refine Ev.b (fun q => ?_) (fun q => ?_)
      · subst q
        refine Ev.t (by rw [rem2]; exact decide_eq_true ho) (Ev.g (inR_n h0) (Ev.g (by rw [e0]; rfl) (Ev.g (inS_tail (k := 1) (by omega)) ?_)))
        have ev : wr .u8 (wr .i64 (addI 32 (wr .i64 (addI 16 (AV.asInt (cellAt (l.flatMap eI) 0)))))) = (32 : Int) + ((16 : Int) + l[0]) := by
          rw [e0, asInt_i, addI_d, addI_d, wr64 (n := (16 : Int) + l[0]) (by omega), wr64 (by omega), u8s (by omega)]
        simp only [ev]
        exact go _
      · subst q
        refine Ev.t (by rw [rem2]; exact decide_eq_true ho) (Ev.g (inR_n h0) (Ev.g (by rw [e0]; rfl) (Ev.g (inS_tail (k := 1) (by omega)) ?_)))
        have ev : wr .u8 (wr .i64 (addI 0 (wr .i64 (addI 16 (AV.asInt (cellAt (l.flatMap eI) 0)))))) = (0 : Int) + ((16 : Int) + l[0]) := by
          rw [e0, asInt_i, addI_d, addI_d, wr64 (n := (16 : Int) + l[0]) (by omega), wr64 (by omega), u8s (by omega)]
        simp only [ev]
        exact go _
    · rw [if_neg ho]
      have go : ∀ v : Int, Ev (fun k _ _ _ => L_impl_PrefixText_0 k k l.length (l.flatMap eI) 0 1 [.int .u8 v]) [.str (strOfNums (v :: pairs16 l)), .bool true] := fun v =>
        (impl_PrefixText_l l h64 hr (by omega) (l.length / 2) 0 [v] (by omega) (by rw [List.length_singleton]; omega)).l0
      refine Ev.b (fun q => ?_) (fun q => ?_)
      · subst q
        exact Ev.f (by rw [rem2]; exact decide_eq_false ho) (go 32)
      · subst q
        exact Ev.f (by rw [rem2]; exact decide_eq_false ho) (go 0)
  · rw [if_neg h]
    exact Ev.t (by show notB (nibblesOk l) = true; rw [Bool.not_eq_true] at h; rw [h]; rfl) (Ev.now _)
theorem strOf1 (v : Int) : strOf (cutC [.int .u8 v] 0 1) = strOfNums [v] := rfl
theorem spec_PrefixText_l (l : List Int) (hl : l.length ≤ 64) (hr : ∀ x ∈ l, 0 ≤ x ∧ x ≤ 15) (d : Nat) : ∀ (i : Nat) (ys : List Int), i + 2 * d = l.length → ys.length + d ≤ 64 →
    Ev (fun k m _ _ => L_spec_PrefixText_0 k m l.length (l.flatMap eI) (i : Int) (strOfNums ys)) [.str (strOfNums (ys ++ pairs16 (l.drop i))), .bool true] := by
  induction d with
  | zero =>
    intro i ys hi hy
    refine Ev.step (fun k m _ _ => L_spec_PrefixText_0_s k m _ _ _ _) (Ev.f (ltI_f (by rw [wrS1 (by omega), lenI_c]; omega)) (Ev.some_ ?_))
    rw [List.drop_eq_nil_of_le (by omega), pairs16, List.append_nil]
    intro _ _ _ q; cases q
  | succ d ih =>
    intro i ys hi hy
    have h1 : i < l.length := by omega
    have h2 : i + 1 < l.length := by omega
    have hv := byFin2 (p := fun x y => wr .u8 (wr .i64 (addI (wr .i64 (mulI 16 x)) y)) = 16 * x + y) add16 (hr _ (List.getElem_mem h1)) (hr _ (List.getElem_mem h2))
    refine Ev.step (fun k m _ _ => L_spec_PrefixText_0_s k m _ _ _ _) ?_
    simp only [wrS1 (show i < 9223372036854775806 by omega), wrS2 (show i < 9223372036854775806 by omega), ei h1, ei h2, hdV_c, tlV_c, parts1_a, asInt_i, asBool_b, asStr_s, asLen_f, asCells_f, hv, strOf1]
    refine Ev.t (ltI_t (by rw [lenI_c]; omega)) (Ev.g (inR_n h1) (Ev.g rfl (Ev.g (inR_n h2) (Ev.g rfl (Ev.g rfl (Ev.g ?_ ?_))))))
    · exact fitS_small (by rw [strOfNums_size, strOfNums_size, List.length_singleton]; omega)
    rw [show catS (strOfNums ys) (strOfNums [16 * l[i] + l[i + 1]]) = strOfNums (ys ++ [16 * l[i] + l[i + 1]]) from (strOf_append _ _).symm, pairs16_next h2]
    exact (ih (i + 2) (ys ++ [16 * l[i] + l[i + 1]]) (by omega) (by rw [List.length_append, List.length_singleton]; omega)).to (by rw [List.append_assoc]; rfl)
theorem spec_PrefixText_ev (l : List Int) (hl : l.length ≤ 1048576) (leaf : Bool) : Does cp n_spec_PrefixText [.fs l.length (l.flatMap eI), .bool leaf] [.str (prefixText l leaf).1, .bool (prefixText l leaf).2] := by
  refine Ev.fn (fun k => F_spec_PrefixText k _ _ _) (Ev.c (spec_NibblesOk_ev l hl) ?_)
  unfold prefixText
  by_cases h : nibblesOk l = true
  · obtain ⟨hr, h64⟩ := nibblesOk_iff.1 h
    rw [if_pos h]
    refine Ev.f (by show notB (nibblesOk l) = false; rw [h]; rfl) ?_
    unfold prefixNums
    by_cases ho : l.length % 2 = 1
    · have h0 : 0 < l.length := by omega
      have ha := hr _ (List.getElem_mem h0)
      have e0 : cellAt (l.flatMap eI) 0 = .int .i64 l[0] := ei h0
      have er : rd l 0 = l[0] := rd_get l 0 h0
      rw [if_pos ho, er]
      have go : ∀ v : Int, Ev (fun k _ _ _ => L_spec_PrefixText_0 k k l.length (l.flatMap eI) 1 (strOfNums [v])) [.str (strOfNums (v :: pairs16 (l.drop 1))), .bool true] := fun v =>
        (spec_PrefixText_l l h64 hr ((l.length - 1) / 2) 1 [v] (by omega) (by rw [List.length_singleton]; omega)).l0
      refine Ev.b (fun q => ?_) (fun q => ?_)
      · subst q
        have ev : wr .u8 (wr .i64 (addI 48 (AV.asInt (cellAt (l.flatMap eI) 0)))) = (32 : Int) + ((16 : Int) + l[0]) := by
          rw [e0, asInt_i, addI_d, wr64 (by omega), u8s (by omega)]; omega
        refine Ev.t (by rw [rem2]; exact decide_eq_true ho) (Ev.g (inR_n h0) (Ev.g (by rw [e0]; rfl) (Ev.g rfl ?_)))
        simp only [ev, strOf1]
        exact go _
      · subst q
        have ev : wr .u8 (wr .i64 (addI 16 (AV.asInt (cellAt (l.flatMap eI) 0)))) = (0 : Int) + ((16 : Int) + l[0]) := by
          rw [e0, asInt_i, addI_d, wr64 (by omega), u8s (by omega)]; omega
        refine Ev.t (by rw [rem2]; exact decide_eq_true ho) (Ev.g (inR_n h0) (Ev.g (by rw [e0]; rfl) (Ev.g rfl ?_)))
        simp only [ev, strOf1]
        exact go _
    · rw [if_neg ho]
      have go : ∀ v : Int, Ev (fun k _ _ _ => L_spec_PrefixText_0 k k l.length (l.flatMap eI) 0 (strOfNums [v])) [.str (strOfNums (v :: pairs16 l)), .bool true] := fun v =>
        (spec_PrefixText_l l h64 hr (l.length / 2) 0 [v] (by omega) (by rw [List.length_singleton]; omega)).l0
      refine Ev.b (fun q => ?_) (fun q => ?_)
      · subst q
        exact Ev.f (by rw [rem2]; exact decide_eq_false ho) (go 32)
      · subst q
        exact Ev.f (by rw [rem2]; exact decide_eq_false ho) (go 0)
  · rw [if_neg h]
    exact Ev.t (by show notB (nibblesOk l) = true; rw [Bool.not_eq_true] at h; rw [h]; rfl) (Ev.now _)

theorem prefixText_size {l : List Int} {leaf : Bool} (h : l.length ≤ 65) : (prefixText l leaf).1.size ≤ 100 := by
  unfold prefixText
  split
  · rw [strOfNums_size]
    unfold prefixNums
    split
    · rw [List.length_cons, pairs16_length _ _ (Nat.le_refl _), List.length_drop]; omega
    · rw [List.length_cons, pairs16_length _ _ (Nat.le_refl _)]; omega
  · show 0 ≤ 100; omega
theorem DrawPrefixText_ev (xs : List Int) (hl : xs.length ≤ 1048576) : ∃ (l : List Int) (b : Bool), Does cp n_spec_DrawPrefixText [.fs xs.length (xs.flatMap eB)] [.fs l.length (l.flatMap eI), .bool b] ∧ l.length ≤ 65 := by
  obtain ⟨h, e⟩ := l01New_ev xs hl
  obtain ⟨b, i, h, e1, hi⟩ := l01Once_ev xs hl 0 h (by omega) 2
  obtain ⟨l, i, h, e2, hi, hz⟩ := l18Nibbles_ev xs hl i h hi
  exact ⟨l, b, Ev.fn (fun k => F_spec_DrawPrefixText k _ _) (Ev.c e (Ev.c e1 (Ev.c e2 (Ev.now _)))), hz⟩
theorem DrawReadPrefix_ev (xs : List Int) (hl : xs.length ≤ 1048576) : ∃ t : ByteArray, Does cp n_spec_DrawReadPrefix [.fs xs.length (xs.flatMap eB)] [.str t] ∧ t.size ≤ 100 := by
  obtain ⟨h, e⟩ := l01New_ev xs hl
  obtain ⟨x, i, h, e1, hi, _⟩ := l01Below_ev xs hl 0 h (by omega) 4
  obtain ⟨l, i, h, e2, hi, hz⟩ := l18Nibbles_ev xs hl i h hi
  obtain ⟨b, i, h, e3, hi⟩ := l01Once_ev xs hl i h hi 2
  by_cases q : x = 0
  · obtain ⟨y, i, h, e5, hi, hy0, hy1⟩ := l01Below_ev xs hl i h hi 4
    have hy := hy1 (by omega)
    obtain ⟨zs, i, h, e6, hi, hz, _⟩ := l01Text_ev xs hl i h hi y (by omega)
    exact ⟨strOfNums zs, Ev.fn (fun k => F_spec_DrawReadPrefix k _ _) (Ev.c e (Ev.c e1 (Ev.c e2 (Ev.c e3 (Ev.c (spec_PrefixText_ev l (by omega) b) (Ev.t (eqI_t q) (Ev.c e5 (Ev.c e6 (Ev.now _))))))))), by rw [strOfNums_size]; omega⟩
  · exact ⟨(prefixText l b).1, Ev.fn (fun k => F_spec_DrawReadPrefix k _ _) (Ev.c e (Ev.c e1 (Ev.c e2 (Ev.c e3 (Ev.c (spec_PrefixText_ev l (by omega) b) (Ev.f (eqI_f q) (Ev.now _))))))), prefixText_size hz⟩
theorem DrawNibblesOf_ev (xs : List Int) (hl : xs.length ≤ 1048576) : ∃ t : ByteArray, Does cp n_spec_DrawNibblesOf [.fs xs.length (xs.flatMap eB)] [.str t] ∧ t.size ≤ 100 := by
  obtain ⟨h, e⟩ := l01New_ev xs hl
  obtain ⟨y, i, h, e5, hi, hy0, hy1⟩ := l01Below_ev xs hl 0 h (by omega) 6
  have hy := hy1 (by omega)
  obtain ⟨zs, i, h, e6, hi, hz, _⟩ := l01Text_ev xs hl i h hi y (by omega)
  exact ⟨strOfNums zs, Ev.fn (fun k => F_spec_DrawNibblesOf k _ _) (Ev.c e (Ev.c e5 (Ev.c e6 (Ev.now _)))), by rw [strOfNums_size]; omega⟩
theorem copied0 (l : List Int) (hl : l.length ≤ 1048576) : Bool.and (fitN (addN 0 l.length) 8) (lenEq (l.flatMap eI) (mulN l.length 1)) = true := by
  have h1 := fitN_small hl (show 8 ≤ 4096 by decide)
  rw [Bool.and_true] at h1
  rw [addN_d, Nat.zero_add, h1, Bool.true_and, lenEq, encs_len eI_len, mulN_d]
  exact Nat.beq_refl _
theorem DrawCommon_ev (xs : List Int) (hl : xs.length ≤ 1048576) : ∃ a b : List Int, Does cp n_spec_DrawCommon [.fs xs.length (xs.flatMap eB)] [.fs a.length (a.flatMap eI), .fs b.length (b.flatMap eI)] ∧ a.length ≤ 65 ∧ b.length ≤ 65 := by
  obtain ⟨h, e⟩ := l01New_ev xs hl
  obtain ⟨a, i, h, e1, hi, hz⟩ := l18Nibbles_ev xs hl 0 h (by omega)
  have hc : catC (cutC [] 0 0) (a.flatMap eI) = a.flatMap eI := rfl
  have h0 : addN 0 a.length = a.length := by rw [addN_d, Nat.zero_add]
  by_cases q : 0 < a.length
  · obtain ⟨b2, i, h, e2, hi⟩ := l01Once_ev xs hl i h hi 2
    cases b2 with
    | true =>
      obtain ⟨x, i, h, e3, hi, hx0, hx1⟩ := l01Below_ev xs hl i h hi (lenI a.length)
      have hx := hx1 (by rw [lenI_c]; omega)
      rw [lenI_c] at hx
      obtain ⟨x, rfl⟩ := Int.eq_ofNat_of_zero_le hx0
      have hxa : x < a.length := by omega
      obtain ⟨b4, i, h, e4, hi⟩ := l01Once_ev xs hl i h hi 4
      have hb : Nat.ble (Nat.succ (addN 0 (mulN (natI (x : Int)) 1))) (List.length (a.flatMap eI)) = true := by
        rw [encs_len eI_len]
        exact Nat.ble_eq_true_of_le (by rw [addN_d, natI_c, mulN_d]; omega)
      have hset : setMany (a.flatMap eI) (addN 0 (mulN (natI (x : Int)) 1)) [.int .i64 7] = (a.set x 7).flatMap eI := by
        rw [addN_d, Nat.zero_add, natI_c, mulN_d]
        exact set_encs eI_len a x 7 hxa
      cases b4 with
      | true =>
        obtain ⟨c, i, h, e5, hi, hz5⟩ := l18Nibbles_ev xs hl i h hi
        refine ⟨a, c, Ev.fn (fun k => F_spec_DrawCommon k _ _) (Ev.c e (Ev.c e1 (Ev.g (copied0 a (by omega)) ?_))), hz, hz5⟩
        simp only [hdV_c, tlV_c, parts1_a, asInt_i, asBool_b, asStr_s, asLen_f, asCells_f, hc, h0]
        exact Ev.t (ltI_t (by rw [lenI_c]; omega)) (Ev.c e2 (Ev.t rfl (Ev.c e3 (Ev.g (inR_n hxa) (Ev.g hb (Ev.c e4 (Ev.t rfl (Ev.c e5 (Ev.now _)))))))))
      | false =>
        refine ⟨a, a.set x 7, Ev.fn (fun k => F_spec_DrawCommon k _ _) (Ev.c e (Ev.c e1 (Ev.g (copied0 a (by omega)) ?_))), hz, by rw [List.length_set]; exact hz⟩
        simp only [hdV_c, tlV_c, parts1_a, asInt_i, asBool_b, asStr_s, asLen_f, asCells_f, hc, h0]
        refine Ev.t (ltI_t (by rw [lenI_c]; omega)) (Ev.c e2 (Ev.t rfl (Ev.c e3 (Ev.g (inR_n hxa) (Ev.g hb (Ev.c e4 (Ev.f rfl (Ev.some_ ?_))))))))
        simp only [hdV_c, tlV_c, parts1_a, asInt_i, asBool_b, asStr_s, asLen_f, asCells_f, hset]
        have := cut_all eI_len (a.set x 7)
        rw [List.length_set] at this
        rw [this, List.length_set]
    | false =>
      obtain ⟨b4, i, h, e4, hi⟩ := l01Once_ev xs hl i h hi 4
      cases b4 with
      | true =>
        obtain ⟨c, i, h, e5, hi, hz5⟩ := l18Nibbles_ev xs hl i h hi
        refine ⟨a, c, Ev.fn (fun k => F_spec_DrawCommon k _ _) (Ev.c e (Ev.c e1 (Ev.g (copied0 a (by omega)) ?_))), hz, hz5⟩
        simp only [hdV_c, tlV_c, parts1_a, asInt_i, asBool_b, asStr_s, asLen_f, asCells_f, hc, h0]
        exact Ev.t (ltI_t (by rw [lenI_c]; omega)) (Ev.c e2 (Ev.f rfl (Ev.c e4 (Ev.t rfl (Ev.c e5 (Ev.now _))))))
      | false =>
        refine ⟨a, a, Ev.fn (fun k => F_spec_DrawCommon k _ _) (Ev.c e (Ev.c e1 (Ev.g (copied0 a (by omega)) ?_))), hz, hz⟩
        simp only [hdV_c, tlV_c, parts1_a, asInt_i, asBool_b, asStr_s, asLen_f, asCells_f, hc, h0, cut_all eI_len]
        exact Ev.t (ltI_t (by rw [lenI_c]; omega)) (Ev.c e2 (Ev.f rfl (Ev.c e4 (Ev.f rfl (Ev.now _)))))
  · obtain ⟨b4, i, h, e4, hi⟩ := l01Once_ev xs hl i h hi 4
    cases b4 with
    | true =>
      obtain ⟨c, i, h, e5, hi, hz5⟩ := l18Nibbles_ev xs hl i h hi
      refine ⟨a, c, Ev.fn (fun k => F_spec_DrawCommon k _ _) (Ev.c e (Ev.c e1 (Ev.g (copied0 a (by omega)) ?_))), hz, hz5⟩
      simp only [hdV_c, tlV_c, parts1_a, asInt_i, asBool_b, asStr_s, asLen_f, asCells_f, hc, h0]
      exact Ev.f (ltI_f (by rw [lenI_c]; omega)) (Ev.c e4 (Ev.t rfl (Ev.c e5 (Ev.now _))))
    | false =>
      refine ⟨a, a, Ev.fn (fun k => F_spec_DrawCommon k _ _) (Ev.c e (Ev.c e1 (Ev.g (copied0 a (by omega)) ?_))), hz, hz⟩
      simp only [hdV_c, tlV_c, parts1_a, asInt_i, asBool_b, asStr_s, asLen_f, asCells_f, hc, h0, cut_all eI_len]
      exact Ev.f (ltI_f (by rw [lenI_c]; omega)) (Ev.c e4 (Ev.f rfl (Ev.now _)))

theorem size0 {t : ByteArray} : t = (⟨#[]⟩ : ByteArray) ↔ t.size = 0 := ⟨fun h => by rw [h]; rfl, fun h => size_zero h⟩
theorem and1 : ∀ a : Fin 16, bitsOp .and .i64 (a.val : Int) 1 = (a.val : Int) % 2 := by decide +kernel
theorem and2 : ∀ a : Fin 4, notB (eqI (bitsOp .and .i64 (a.val : Int) 2) 0) = decide (2 ≤ (a.val : Int)) := by decide +kernel
theorem rpOut_drop {t : ByteArray} (h : 0 < t.size) : rpOut t = if bt t 0 / 16 % 2 = 1 then (nibblesOf t).drop 1 else (nibblesOf t).drop 2 := by
  rw [nibblesOf_cons h]
  unfold rpOut
  split <;> rfl
theorem copied (l : List Int) (hl : l.length ≤ 1048576) : Bool.and (fitN l.length 8) (lenEq (l.flatMap eI) (mulN l.length 1)) = true := by
  have h1 := fitN_small hl (show 8 ≤ 4096 by decide)
  rw [Bool.and_true] at h1
  rw [h1, Bool.true_and, lenEq, encs_len eI_len, mulN_d]
  exact Nat.beq_refl _
theorem impl_ReadPrefix_ev (t : ByteArray) (ht : t.size ≤ 1000) : Does cp n_impl_ReadPrefix [.str t] [.fs (readPrefix t).1.length ((readPrefix t).1.flatMap eI), .bool (readPrefix t).2.1, .bool (readPrefix t).2.2] := by
  refine Ev.fn (fun k => F_impl_ReadPrefix k _) ?_
  unfold readPrefix
  by_cases h0 : t.size = 0
  · rw [if_pos h0]
    exact Ev.t (eqS_t (size0.2 h0)) (Ev.now _)
  have hs : 0 < t.size := by omega
  have hb := bt0_range hs
  rw [if_neg h0]
  refine Ev.f (eqS_f (fun q => h0 (size0.1 q))) (Ev.g (inR_n (i := 0) (by rw [lenS_d]; omega)) ?_)
  simp only [getS_bt]
  by_cases h1 : 64 ≤ bt t 0
  · rw [if_pos h1]
    exact Ev.t (ltI_t (by omega)) (Ev.now _)
  rw [if_neg h1]
  have hn := nibblesOf_length t
  have hc : cellAt ((nibblesOf t).flatMap eI) 0 = .int .i64 (bt t 0 / 16) := by
    rw [show (0 : Nat) = mulN (natI ((0 : Nat) : Int)) 1 from rfl, ei (show 0 < (nibblesOf t).length by omega)]
    simp only [nibblesOf_cons hs, List.getElem_cons_zero]
  refine Ev.f (ltI_f (by omega)) (Ev.c (impl_NibblesOf_ev t (by omega)) ?_)
  have ha : bitsOp .and .i64 (bt t 0 / 16) 1 = bt t 0 / 16 % 2 := by
    obtain ⟨n, hn⟩ := Int.eq_ofNat_of_zero_le (show 0 ≤ bt t 0 / 16 by omega)
    rw [hn]; exact and1 ⟨n, by omega⟩
  have ha2 : notB (eqI (bitsOp .and .i64 (bt t 0 / 16) 2) 0) = rpLeaf t := by
    obtain ⟨n, hn⟩ := Int.eq_ofNat_of_zero_le (show 0 ≤ bt t 0 / 16 by omega)
    unfold rpLeaf
    rw [hn, and2 ⟨n, by omega⟩]
    exact decide_eq_decide.2 ⟨fun q => by simp only at q; omega, fun q => by simp only; omega⟩
  have go : ∀ j : Nat, j ≤ 2 → rpOut t = (nibblesOf t).drop j → Ev (fun k _ _ _ => bnd (evF cp k n_impl_PrefixText [.fs (subN (natI (lenI (nibblesOf t).length)) j) (cutC ((nibblesOf t).flatMap eI) j (mulN (subN (natI (lenI (nibblesOf t).length)) j) 1)), .bool (rpLeaf t)]) (fun r1 => br (notB (AV.asBool (hdV (tlV r1)))) (Option.some [AV.fs 0 [], AV.bool Bool.false, AV.bool Bool.false]) (br (notB (eqS (AV.asStr (hdV r1)) t)) (Option.some [AV.fs 0 [], AV.bool Bool.false, AV.bool Bool.false]) (gd (Bool.and (fitN (subN (natI (lenI (nibblesOf t).length)) j) 8) (lenEq (cutC ((nibblesOf t).flatMap eI) j (mulN (subN (natI (lenI (nibblesOf t).length)) j) 1)) (mulN (subN (natI (lenI (nibblesOf t).length)) j) 1))) (Option.some [AV.fs (subN (natI (lenI (nibblesOf t).length)) j) (cutC (cutC ((nibblesOf t).flatMap eI) j (mulN (subN (natI (lenI (nibblesOf t).length)) j) 1)) 0 (mulN (subN (natI (lenI (nibblesOf t).length)) j) 1)), AV.bool (rpLeaf t), AV.bool Bool.true])))))
      [.fs (if rpOk t = true then (rpOut t, rpLeaf t, true) else ([], false, false)).1.length ((if rpOk t = true then (rpOut t, rpLeaf t, true) else ([], false, false)).1.flatMap eI), .bool (if rpOk t = true then (rpOut t, rpLeaf t, true) else ([], false, false)).2.1, .bool (if rpOk t = true then (rpOut t, rpLeaf t, true) else ([], false, false)).2.2] := fun j hj e => by
    have hlen : (rpOut t).length ≤ 1048576 := by have := (rpOut_length t hs).1; omega
    simp only [tail_cells]
    simp only [tail_len, ← e]
    refine Ev.c (impl_PrefixText_ev (rpOut t) hlen (rpLeaf t)) ?_
    simp only [hdV_c, tlV_c, parts1_a, asInt_i, asBool_b, asStr_s, asLen_f, asCells_f]
    by_cases q : rpOk t = true
    · rw [if_pos q]
      unfold rpOk at q
      rw [Bool.and_eq_true, decide_eq_true_eq] at q
      refine Ev.f (by rw [q.1]; rfl) (Ev.f (by rw [eqS_t q.2]; rfl) (Ev.g (copied _ hlen) (Ev.some_ ?_)))
      rw [cut_all eI_len]
    · rw [if_neg q]
      unfold rpOk at q
      rw [Bool.and_eq_true, decide_eq_true_eq] at q
      by_cases q1 : (prefixText (rpOut t) (rpLeaf t)).2 = true
      · exact Ev.f (by rw [q1]; rfl) (Ev.t (by rw [eqS_f (fun z => q ⟨q1, z⟩)]; rfl) (Ev.now _))
      · rw [Bool.not_eq_true] at q1
        exact Ev.t (by rw [q1]; rfl) (Ev.now _)
  simp only [hdV_c, tlV_c, parts1_a, asInt_i, asBool_b, asStr_s, asLen_f, asCells_f, hc, ha, ha2]
  refine Ev.g (inR_n (i := 0) (by omega)) (Ev.g rfl (Ev.g (inR_n (i := 0) (by omega)) (Ev.g rfl ?_)))
  by_cases hodd : bt t 0 / 16 % 2 = 1
  · exact Ev.t (eqI_t hodd) (Ev.g (inS_tail (k := 1) (by omega)) (go 1 (by omega) (by rw [rpOut_drop hs, if_pos hodd])))
  · exact Ev.f (eqI_f hodd) (Ev.g (inS_tail (k := 2) (by omega)) (go 2 (by omega) (by rw [rpOut_drop hs, if_neg hodd])))
theorem u8div {x : Int} (h : 0 ≤ x ∧ x < 256) : remI (wr .u8 (quoI x 16)) 2 = x / 16 % 2 := by
  rw [quoI_d, tdiv_pos h.1, u8s (by omega), remI_d, tmod_pos (by omega)]
theorem i64mod {x : Int} (h : 0 ≤ x ∧ x < 256) : remI (wr .i64 x) 16 = x % 16 := by rw [wr64 (by omega), remI_d, tmod_pos h.1]
theorem spec_ReadPrefix_ev (t : ByteArray) (ht : t.size ≤ 1000) : Does cp n_spec_ReadPrefix [.str t] [.fs (readPrefix t).1.length ((readPrefix t).1.flatMap eI), .bool (readPrefix t).2.1, .bool (readPrefix t).2.2] := by
  refine Ev.fn (fun k => F_spec_ReadPrefix k _) ?_
  unfold readPrefix
  by_cases h0 : t.size = 0
  · rw [if_pos h0]
    exact Ev.t (eqS_t (size0.2 h0)) (Ev.now _)
  have hs : 0 < t.size := by omega
  have hb := bt0_range hs
  rw [if_neg h0]
  refine Ev.f (eqS_f (fun q => h0 (size0.1 q))) (Ev.g (inR_n (i := 0) (by rw [lenS_d]; omega)) ?_)
  simp only [getS_bt]
  by_cases h1 : 64 ≤ bt t 0
  · rw [if_pos h1]
    exact Ev.t (leI_t (by omega)) (Ev.now _)
  rw [if_neg h1]
  refine Ev.f (leI_f (by omega)) ?_
  by_cases h2 : t.size > 40
  · rw [rpOk_long h2, if_neg (by simp)]
    exact Ev.t (ltI_t (by rw [lenI_c, lenS_d]; omega)) (Ev.now _)
  have hx : subS t 1 (natI (lenI (lenS t))) = t.extract 1 t.size := rfl
  have hxs : (t.extract 1 t.size).size = t.size - 1 := by simp [ByteArray.size_extract]
  have hlen : (rpOut t).length ≤ 1048576 := by have := (rpOut_length t hs).1; omega
  have hinS : inS 1 (lenI (lenS t)) (lenS t) = true := inS_t (by omega) (by rw [lenI_c, lenS_d]; omega) (by rw [lenI_c]; omega)
  have go : Ev (fun k _ _ _ => bnd (evF cp k n_spec_PrefixText [.fs (rpOut t).length ((rpOut t).flatMap eI), .bool (leI 32 (bt t 0))]) (fun r1 => br (notB (AV.asBool (hdV (tlV r1)))) (Option.some [AV.fs 0 (cutC [] 0 0), AV.bool Bool.false, AV.bool Bool.false]) (br (notB (eqS (AV.asStr (hdV r1)) t)) (Option.some [AV.fs 0 (cutC [] 0 0), AV.bool Bool.false, AV.bool Bool.false]) (Option.some [AV.fs (rpOut t).length ((rpOut t).flatMap eI), AV.bool (leI 32 (bt t 0)), AV.bool Bool.true]))))
      [.fs (if rpOk t = true then (rpOut t, rpLeaf t, true) else ([], false, false)).1.length ((if rpOk t = true then (rpOut t, rpLeaf t, true) else ([], false, false)).1.flatMap eI), .bool (if rpOk t = true then (rpOut t, rpLeaf t, true) else ([], false, false)).2.1, .bool (if rpOk t = true then (rpOut t, rpLeaf t, true) else ([], false, false)).2.2] := by
    rw [show leI 32 (bt t 0) = rpLeaf t from rfl]
    refine Ev.c (spec_PrefixText_ev (rpOut t) hlen (rpLeaf t)) ?_
    simp only [hdV_c, tlV_c, parts1_a, asInt_i, asBool_b, asStr_s, asLen_f, asCells_f]
    by_cases q : rpOk t = true
    · rw [if_pos q]
      unfold rpOk at q
      rw [Bool.and_eq_true, decide_eq_true_eq] at q
      exact Ev.f (by rw [q.1]; rfl) (Ev.f (by rw [eqS_t q.2]; rfl) (Ev.now _))
    · rw [if_neg q]
      unfold rpOk at q
      rw [Bool.and_eq_true, decide_eq_true_eq] at q
      by_cases q1 : (prefixText (rpOut t) (rpLeaf t)).2 = true
      · exact Ev.f (by rw [q1]; rfl) (Ev.t (by rw [eqS_f (fun z => q ⟨q1, z⟩)]; rfl) (Ev.now _))
      · rw [Bool.not_eq_true] at q1
        exact Ev.t (by rw [q1]; rfl) (Ev.now _)
  refine Ev.f (ltI_f (by rw [lenI_c, lenS_d]; omega)) (Ev.g (inR_n (i := 0) (by rw [lenS_d]; omega)) (Ev.g (inR_n (i := 0) (by rw [lenS_d]; omega)) ?_))
  simp only [u8div hb, i64mod hb, hx]
  have en := spec_NibblesOf_ev (t.extract 1 t.size) (by omega)
  have hnl := nibblesOf_length (t.extract 1 t.size)
  have hg : Bool.and (fitN (rpOut t).length 8) (lenEq ((nibblesOf (t.extract 1 t.size)).flatMap eI) (mulN (nibblesOf (t.extract 1 t.size)).length 1)) = true := by
    have h1 := fitN_small hlen (show 8 ≤ 4096 by decide)
    rw [Bool.and_true] at h1
    rw [h1, Bool.true_and, lenEq, encs_len eI_len, mulN_d]
    exact Nat.beq_refl _
  by_cases hodd : bt t 0 / 16 % 2 = 1
  · have e1 : rpOut t = bt t 0 % 16 :: nibblesOf (t.extract 1 t.size) := by unfold rpOut; rw [if_pos hodd]; rfl
    have e2 : addN 1 (nibblesOf (t.extract 1 t.size)).length = (rpOut t).length := by rw [e1, List.length_cons, addN_d, Nat.add_comm]
    have e3 : cutC (catC (cutC (catC (cutC [] 0 0) (cutC [AV.int .i64 (bt t 0 % 16)] 0 1)) 0 1) ((nibblesOf (t.extract 1 t.size)).flatMap eI)) 0 (mulN (rpOut t).length 1) = (rpOut t).flatMap eI := by
      have : catC (cutC (catC (cutC [] 0 0) (cutC [AV.int .i64 (bt t 0 % 16)] 0 1)) 0 1) ((nibblesOf (t.extract 1 t.size)).flatMap eI) = (rpOut t).flatMap eI := by rw [e1]; rfl
      rw [this, cut_all eI_len]
    refine Ev.t (eqI_t hodd) (Ev.g (inR_n (i := 0) (by rw [lenS_d]; omega)) (Ev.g hinS (Ev.c en ?_)))
    simp only [hdV_c, tlV_c, parts1_a, asInt_i, asBool_b, asStr_s, asLen_f, asCells_f, e2, e3]
    exact Ev.g hg go
  · have e1 : rpOut t = nibblesOf (t.extract 1 t.size) := by unfold rpOut; rw [if_neg hodd]; rfl
    have e2 : addN 0 (nibblesOf (t.extract 1 t.size)).length = (rpOut t).length := by rw [e1, addN_d, Nat.zero_add]
    have e3 : cutC (catC (cutC [] 0 0) ((nibblesOf (t.extract 1 t.size)).flatMap eI)) 0 (mulN (rpOut t).length 1) = (rpOut t).flatMap eI := by
      have : catC (cutC [] 0 0) ((nibblesOf (t.extract 1 t.size)).flatMap eI) = (rpOut t).flatMap eI := by rw [e1]; rfl
      rw [this, cut_all eI_len]
    refine Ev.f (eqI_f hodd) (Ev.g hinS (Ev.c en ?_))
    simp only [hdV_c, tlV_c, parts1_a, asInt_i, asBool_b, asStr_s, asLen_f, asCells_f, e2, e3]
    exact Ev.g hg go

theorem sameInts_l (l : List Int) (hl : l.length ≤ 1048576) (d : Nat) : ∀ i : Nat, i + d = l.length → Ev (fun k m _ _ => L_laws_sameInts_0 k m l.length (l.flatMap eI) l.length (l.flatMap eI) (i : Int)) [.bool true] := by
  induction d with
  | zero =>
    intro i hi
    exact Ev.step (fun k m _ _ => L_laws_sameInts_0_s k m _ _ _ _ _) (Ev.f (ltI_f (by rw [lenI_c]; omega)) (Ev.now _))
  | succ d ih =>
    intro i hi
    have hi' : i < l.length := by omega
    refine Ev.step (fun k m _ _ => L_laws_sameInts_0_s k m _ _ _ _ _) (Ev.t (ltI_t (by rw [lenI_c]; omega)) (Ev.g (inR_n hi') ?_))
    simp only [ei hi', hdV_c, tlV_c, parts1_a, asInt_i, asBool_b, asStr_s, asLen_f, asCells_f, wrS (show i < 9223372036854775807 by omega)]
    exact Ev.g rfl (Ev.g (inR_n hi') (Ev.g rfl (Ev.f (by rw [eqI_t rfl]; rfl) (ih (i + 1) (by omega)))))
theorem sameInts_same (l : List Int) (hl : l.length ≤ 1048576) : Does cp n_laws_sameInts [.fs l.length (l.flatMap eI), .fs l.length (l.flatMap eI)] [.bool true] :=
  Ev.fn (fun k => F_laws_sameInts k _ _ _ _) (Ev.f (by rw [eqI_t rfl]; rfl) (sameInts_l l hl l.length 0 (by omega)).l0)

theorem prefixText_snd (l : List Int) (b : Bool) : (prefixText l b).2 = nibblesOk l := by
  unfold prefixText
  cases nibblesOk l <;> rfl
theorem readPrefix_len {t : ByteArray} (h : t.size ≤ 1000) : (readPrefix t).1.length ≤ 1048576 := by
  unfold readPrefix
  split
  · simp
  · split
    · simp
    · split
      · have := (rpOut_length t (by omega)).1
        show (rpOut t).length ≤ _
        omega
      · simp
theorem law_Halves (xs : List Int) : ∃ k, evF cp k n_laws_FnHalves [.fs xs.length (xs.flatMap eB)] = some [.bool true] := by
  apply Ev.rounds
  refine Ev.fn (fun k => F_laws_FnHalves k _ _) (Ev.c (Ev.fn (fun k => F_laws_big k _ _) (Ev.now _)) (Ev.b (fun h => Ev.now _) (fun h => ?_)))
  have hl : xs.length ≤ 1048576 := by
    have := ltI_fo h
    rw [lenI_c] at this
    omega
  obtain ⟨l, b, e1, hz1⟩ := DrawPrefixText_ev xs hl
  obtain ⟨u, e4, hz4⟩ := DrawReadPrefix_ev xs hl
  obtain ⟨t, e8, hz8⟩ := DrawNibblesOf_ev xs hl
  obtain ⟨x, y, e9, hx, hy⟩ := DrawCommon_ev xs hl
  have hs := prefixText_size (leaf := b) hz1
  refine Ev.c e1 (Ev.c (impl_PrefixText_ev l (by omega) b) (Ev.c (impl_ReadPrefix_ev (prefixText l b).1 (by omega)) (Ev.c e4 (Ev.c (impl_ReadPrefix_ev u (by omega)) (Ev.c (spec_ReadPrefix_ev u (by omega)) (Ev.c (impl_PrefixText_ev (readPrefix u).1 (readPrefix_len (by omega)) (readPrefix u).2.1) (Ev.c e8 (Ev.c e9 (Ev.c (impl_NibblesOf_ev t (by omega)) (Ev.c (spec_NibblesOk_ev l (by omega)) (Ev.t ?_ (Ev.c (impl_NibblesOk_ev l (by omega)) (Ev.t ?_ ?_)))))))))))))
  · simp only [hdV_c, tlV_c, parts1_a, asInt_i, asBool_b, asStr_s, asLen_f, asCells_f, prefixText_snd, eqB_d, decide_true]
  · simp only [hdV_c, tlV_c, parts1_a, asInt_i, asBool_b, asStr_s, asLen_f, asCells_f, prefixText_snd, eqB_d, decide_true]
  have hn := nibblesOf_length t
  have hlen : eqI (lenI (nibblesOf t).length) (wr .i64 (mulI 2 (lenI (lenS t)))) = true := eqI_t (by rw [mulI_d, lenI_c, lenI_c, lenS_d, wr64 (by omega)]; omega)
  have ec := eqI_t (rfl : common x y = common x y)
  simp only [hdV_c, tlV_c, parts1_a, asInt_i, asBool_b, asStr_s, asLen_f, asCells_f, prefixText_snd]
  have key : (readPrefix u).2.2 = true → eqS (prefixText (readPrefix u).1 (readPrefix u).2.1).1 u = true := fun q => by rw [readPrefix_prefix q]; exact eqS_t rfl
  have e13 := spec_NibblesOf_ev t (by omega)
  have e14 := sameInts_same (nibblesOf t) (by omega)
  have e15 := impl_Common_ev x y (by omega)
  have e16 := spec_Common_ev x y (by omega)
  have hself : eqB (readPrefix u).2.2 (readPrefix u).2.2 = true := by rw [eqB_d]; simp
  by_cases ho : nibblesOk l = true
  · have hp : (prefixText l b).1 = strOfNums (prefixNums l b) := by unfold prefixText; rw [if_pos ho]
    have hr : readPrefix (prefixText l b).1 = (l, b, true) := by rw [hp]; exact prefix_round ho
    simp only [hr]
    refine Ev.f (by rw [ho]; rfl) (Ev.t rfl (Ev.c (sameInts_same l (by omega)) (Ev.t rfl (Ev.t (by rw [eqB_d]; simp) (Ev.t hself ?_)))))
    by_cases q : (readPrefix u).2.2 = true
    · refine Ev.f (by rw [q]; rfl) (Ev.t (key q) (Ev.t hlen (Ev.c e13 (Ev.c e14 (Ev.t rfl (Ev.c e15 (Ev.c e16 (Ev.some_ ?_))))))))
      simp only [hdV_c, tlV_c, parts1_a, asInt_i, asBool_b, asStr_s, asLen_f, asCells_f, ec]
    · refine Ev.t (by rw [Bool.not_eq_true] at q; rw [q]; rfl) (Ev.t hlen (Ev.c e13 (Ev.c e14 (Ev.t rfl (Ev.c e15 (Ev.c e16 (Ev.some_ ?_)))))))
      simp only [hdV_c, tlV_c, parts1_a, asInt_i, asBool_b, asStr_s, asLen_f, asCells_f, ec]
  · refine Ev.t (by rw [Bool.not_eq_true] at ho; rw [ho]; rfl) (Ev.t hself ?_)
    by_cases q : (readPrefix u).2.2 = true
    · refine Ev.f (by rw [q]; rfl) (Ev.t (key q) (Ev.t hlen (Ev.c e13 (Ev.c e14 (Ev.t rfl (Ev.c e15 (Ev.c e16 (Ev.some_ ?_))))))))
      simp only [hdV_c, tlV_c, parts1_a, asInt_i, asBool_b, asStr_s, asLen_f, asCells_f, ec]
    · refine Ev.t (by rw [Bool.not_eq_true] at q; rw [q]; rfl) (Ev.t hlen (Ev.c e13 (Ev.c e14 (Ev.t rfl (Ev.c e15 (Ev.c e16 (Ev.some_ ?_)))))))
      simp only [hdV_c, tlV_c, parts1_a, asInt_i, asBool_b, asStr_s, asLen_f, asCells_f, ec]

end Go.Proofs.Ytmhakjpjnnfidaa.FnHalves
