/- FnJournalsTold, the plain part: for every argument the law answers true. No conditions. -/
import Derived.Test.YtajphmmaejgfaaaEVcFnJournalsTold
namespace Go.Proofs.Ytajphmmaejgfaaa.FnJournalsTold
open Go Go.Proofs Go.Proofs.Ytajphmmaejgfaaa.EV
set_option linter.unusedVariables false
set_option linter.unusedSimpArgs false
set_option maxRecDepth 100000
def eI (n : Int) : List AV := [.int .i64 n]
theorem eI_len (n : Int) : (eI n).length = 1 := rfl
def eS (s : ByteArray) : List AV := [.str s]
theorem eS_len (s : ByteArray) : (eS s).length = 1 := rfl
theorem notB_to {b : Bool} (h : notB b = true) : b = false := by cases b <;> first | rfl | cases h
theorem notB_fo {b : Bool} (h : notB b = false) : b = true := by cases b <;> first | rfl | cases h
theorem Ev.an {a b : Bool} {X : Nat → Nat → Nat → Nat → Option (List AV)} (h : a = true → Ev X [.bool b]) : Ev (fun k m p q => br (notB a) (some [.bool false]) (X k m p q)) [.bool (a && b)] := by
  cases a with
  | true => exact Ev.f rfl (h rfl)
  | false => exact Ev.t rfl (Ev.now _)
theorem Ev.ap {a b : Bool} {X : Nat → Nat → Nat → Nat → Option (List AV)} (h : a = true → Ev X [.bool b]) : Ev (fun k m p q => br a (X k m p q) (some [.bool false])) [.bool (a && b)] := by
  cases a with
  | true => exact Ev.t rfl (h rfl)
  | false => exact Ev.f rfl (Ev.now _)
theorem Ev.na {a b : Bool} {X : Nat → Nat → Nat → Nat → Option (List AV)} (h : a = false → Ev X [.bool b]) : Ev (fun k m p q => br a (some [.bool false]) (X k m p q)) [.bool (!a && b)] := by
  cases a with
  | false => exact Ev.f rfl (h rfl)
  | true => exact Ev.t rfl (Ev.now _)

def eB (n : Int) : List AV := [.int .u8 n]
theorem eB_len (n : Int) : (eB n).length = 1 := rfl
theorem ei {xs : List Int} {i : Nat} (hi : i < xs.length) : cellAt (xs.flatMap eI) (mulN (natI (i : Int)) 1) = .int .i64 xs[i] := cell_enc0 eI_len hi (by decide)
theorem ebi {xs : List Int} {i : Nat} (hi : i < xs.length) : cellAt (xs.flatMap eB) (mulN (natI (i : Int)) 1) = .int .u8 xs[i] := cell_enc0 eB_len hi (by decide)
theorem catE (xs : List Int) (n : Int) : catC (cutC (xs.flatMap eI) 0 (mulN xs.length 1)) (cutC [.int .i64 n] 0 1) = (xs ++ [n]).flatMap eI := by rw [cut_all eI_len, List.flatMap_append]; rfl
theorem catB (xs : List Int) (n : Int) : catC (cutC (xs.flatMap eB) 0 (mulN xs.length 1)) (cutC [.int .u8 n] 0 1) = (xs ++ [n]).flatMap eB := by rw [cut_all eB_len, List.flatMap_append]; rfl
theorem fitN_small {n b : Nat} (h : n ≤ 1048576) (hb : b ≤ 4096) : Bool.and (fitN n b) Bool.true = true := by
  have : n * b ≤ 1048576 * 4096 := Nat.mul_le_mul h hb
  rw [Bool.and_true]
  exact Nat.ble_eq_true_of_le (by omega)
theorem addN1 (xs : List Int) (n : Int) : addN xs.length 1 = (xs ++ [n]).length := by rw [List.length_append]; rfl
theorem isBytes_e (xs : List Int) : isBytes (xs.flatMap eB) = true := by
  unfold isBytes
  rw [List.all_eq_true]
  intro v hv
  obtain ⟨n, _, hn⟩ := List.mem_flatMap.1 hv
  rw [eB, List.mem_singleton] at hn
  subst hn; rfl
theorem strOf_e (xs : List Int) : strOf (xs.flatMap eB) = EV.strOfNums xs := by
  unfold strOf EV.strOfNums
  congr 2
  induction xs with
  | nil => rfl
  | cons x r ih => rw [List.flatMap_cons, List.map_append, ih]; rfl
theorem and_range (a b : Int) (n : Nat) (hb : (BitVec.ofInt 64 b).toNat = n) (hn : n < 4294967296) : 0 ≤ bitsOp .and .i64 a b ∧ bitsOp .and .i64 a b ≤ n := by
  have h : bitsOp .and .i64 a b = wr .i64 (((BitVec.ofInt 64 a) &&& (BitVec.ofInt 64 b)).toNat : Int) := rfl
  have h2 : ((BitVec.ofInt 64 a) &&& (BitVec.ofInt 64 b)).toNat ≤ n := by rw [BitVec.toNat_and, hb]; exact Nat.and_le_right
  rw [h, wr64 (by omega)]
  omega
theorem and255 (a : Int) : 0 ≤ bitsOp .and .i64 a 255 ∧ bitsOp .and .i64 a 255 < 256 := by
  have := and_range a 255 255 (by decide) (by decide)
  omega
/-- The cursor of a draw, as it is handed by reference, and as it comes back. -/
def cR (xs : List Int) (i h : Int) : AV := .ref false 157 [.fs xs.length (xs.flatMap eB), .int .i64 i, .int .i64 h]
def cA (xs : List Int) (i h : Int) : AV := .agg [.fs xs.length (xs.flatMap eB), .int .i64 i, .int .i64 h]
theorem refCells_r (b : Bool) (t : TypeId) (l : List AV) : AV.refCells (.ref b t l) = l := rfl
theorem l01New_l (xs : List Int) (hl : xs.length ≤ 1048576) (d : Nat) : ∀ (i : Nat) (h : Int), i + d = xs.length → ∃ g, Ev (fun k m _ _ => L_spec_l01New_0 k m xs.length (xs.flatMap eB) (i : Int) h) [cR xs 0 g] := by
  induction d with
  | zero =>
    intro i h hi
    exact ⟨h, Ev.step (fun k m _ _ => L_spec_l01New_0_s k m _ _ _ _) (Ev.f (ltI_f (by rw [lenI_c]; omega)) (Ev.now _))⟩
  | succ d ih =>
    intro i h hi
    have hi' : i < xs.length := by omega
    by_cases c : (i : Int) < 4000
    · obtain ⟨g, e⟩ := ih (i + 1) (bitsOp .and .i64 (wr .i64 (addI (wr .i64 (addI (wr .i64 (mulI h 131)) (wr .i64 xs[i]))) 7)) 1073741823) (by omega)
      refine ⟨g, Ev.step (fun k m _ _ => L_spec_l01New_0_s k m _ _ _ _) (Ev.t (ltI_t (by rw [lenI_c]; omega)) (Ev.t (ltI_t c) (Ev.g (inR_n hi') ?_)))⟩
      simp only [ebi hi', hdV_c, tlV_c, parts1_a, asInt_i, asBool_b, asStr_s, asLen_f, asCells_f, wrS (show i < 9223372036854775807 by omega)]
      exact Ev.g rfl e
    · exact ⟨h, Ev.step (fun k m _ _ => L_spec_l01New_0_s k m _ _ _ _) (Ev.t (ltI_t (by rw [lenI_c]; omega)) (Ev.f (ltI_f c) (Ev.now _)))⟩
theorem l01New_ev (xs : List Int) (hl : xs.length ≤ 1048576) : ∃ h, Does cp n_spec_l01New [.fs xs.length (xs.flatMap eB)] [cR xs 0 h] := by
  obtain ⟨g, e⟩ := l01New_l xs hl xs.length 0 (wr .i64 (addI 76801 (lenI xs.length))) (by omega)
  exact ⟨g, Ev.fn (fun k => F_spec_l01New k _ _) e.l0⟩
def nextH (h : Int) : Int := wr .i64 (addI (wr .i64 (mulI h 6364136223846793005)) 1442695040888963407)
def drawX (h : Int) : Int := bitsOp .and .i64 (bitsOp .xor .i64 (shrI .i64 (nextH h) 33) (shrI .i64 (nextH h) 45)) 255
theorem l01Byte_ev (xs : List Int) (hl : xs.length ≤ 1048576) (i h : Int) (h0 : 0 ≤ i) : ∃ x j g, Does cp n_spec_l01Byte [cR xs i h] [.int .i64 x, cA xs j g] ∧ 0 ≤ j ∧ 0 ≤ x ∧ x < 256 := by
  obtain ⟨i, rfl⟩ := Int.eq_ofNat_of_zero_le h0
  by_cases c : i < xs.length
  · refine ⟨bitsOp .and .i64 (wr .i64 (addI (drawX h) (wr .i64 xs[i]))) 255, ((i + 1 : Nat) : Int), nextH h, Ev.fn (fun k => F_spec_l01Byte k _ _ _ _) (Ev.t (ltI_t (by rw [lenI_c]; omega)) (Ev.g (inR_n c) ?_)), by omega, and255 _⟩
    simp only [ebi c, hdV_c, tlV_c, parts1_a, asInt_i, asBool_b, asStr_s, asLen_f, asCells_f, wrS (show i < 9223372036854775807 by omega)]
    exact Ev.g rfl (Ev.now _)
  · exact ⟨drawX h, (i : Int), nextH h, Ev.fn (fun k => F_spec_l01Byte k _ _ _ _) (Ev.f (ltI_f (by rw [lenI_c]; omega)) (Ev.now _)), by omega, and255 _⟩
theorem l01Below_ev (xs : List Int) (hl : xs.length ≤ 1048576) (i h : Int) (h0 : 0 ≤ i) (n : Int) : ∃ x j g, Does cp n_spec_l01Below [cR xs i h, .int .i64 n] [.int .i64 x, cA xs j g] ∧ 0 ≤ j ∧ 0 ≤ x ∧ (0 < n → x < n) := by
  by_cases c : n ≤ 0
  · exact ⟨0, i, h, Ev.fn (fun k => F_spec_l01Below k _ _ _ _ _) (Ev.t (leI_t c) (Ev.now _)), h0, by omega, fun q => by omega⟩
  by_cases c2 : n ≤ 256
  · obtain ⟨x, j, g, e, hj, hx0, hx1⟩ := l01Byte_ev xs hl i h h0
    refine ⟨Int.tmod x n, j, g, Ev.fn (fun k => F_spec_l01Below k _ _ _ _ _) (Ev.f (leI_f c) (Ev.t (leI_t c2) (Ev.c e (Ev.g ?_ (Ev.now _))))), hj, ?_, fun _ => ?_⟩
    · rw [eqI_f (by omega)]; rfl
    · exact Int.tmod_nonneg _ hx0
    · exact Int.tmod_lt_of_pos _ (by omega)
  · obtain ⟨x, j, g, e, hj, hx0, hx1⟩ := l01Byte_ev xs hl i h h0
    obtain ⟨y, j, g, e1, hj, hy0, hy1⟩ := l01Byte_ev xs hl j g hj
    obtain ⟨z, j, g, e2, hj, hz0, hz1⟩ := l01Byte_ev xs hl j g hj
    obtain ⟨w, j, g, e3, hj, hw0, hw1⟩ := l01Byte_ev xs hl j g hj
    refine ⟨Int.tmod (x * 16777216 + y * 65536 + z * 256 + w) n, j, g, Ev.fn (fun k => F_spec_l01Below k _ _ _ _ _) (Ev.f (leI_f c) (Ev.f (leI_f c2) (Ev.c e (Ev.c e1 (Ev.c e2 (Ev.c e3 (Ev.g ?_ (Ev.some_ ?_)))))))), hj, ?_, fun _ => ?_⟩
    · rw [eqI_f (by omega)]; rfl
    · simp only [hdV_c, tlV_c, parts1_a, asInt_i, asBool_b, asStr_s, asLen_f, asCells_f, mulI_d, addI_d, remI_d, cA]
      rw [wr64 (n := x * 16777216) (by omega), wr64 (n := y * 65536) (by omega), wr64 (n := z * 256) (by omega), wr64 (n := x * 16777216 + y * 65536) (by omega), wr64 (n := x * 16777216 + y * 65536 + z * 256) (by omega), wr64 (n := x * 16777216 + y * 65536 + z * 256 + w) (by omega)]
    · exact Int.tmod_nonneg _ (by omega)
    · exact Int.tmod_lt_of_pos _ (by omega)
theorem getS_n' {t : ByteArray} {i : Nat} (hi : i < t.size) : getS t (i : Int) = (bts t)[i]'(by rw [bts_length]; exact hi) := by
  rw [getS_bt, bt_eq, rd_get _ _ (by rw [bts_length]; exact hi)]

theorem u32_range (n : Int) : 0 ≤ IntKind.u32.wrap n ∧ IntKind.u32.wrap n < 4294967296 := by rw [IntKind.wrap_u32]; omega
theorem xor32_range (x y : Int) : 0 ≤ Go.bits .xor .u32 x y ∧ Go.bits .xor .u32 x y < 4294967296 := u32_range _
def half (x : Int) : Int := if x % 2 = 1 then Go.bits .xor .u32 (x / 2) 3558460437 else x / 2
def halves (n : Nat) (x : Int) : Int := Nat.rec (motive := fun _ => Int → Int) (fun x => x) (fun _ f x => f (half x)) n x
theorem halves_zero (x : Int) : halves 0 x = x := rfl
theorem halves_succ (n : Nat) (x : Int) : halves (n + 1) x = halves n (half x) := rfl
def sumByte (s b : Int) : Int := (fun n => halves n (Go.bits .xor .u32 s b)) 8
def sumMore (s : Int) (l : List Int) : Int := l.foldl sumByte s
theorem sumMore_nil (s : Int) : sumMore s [] = s := by rw [sumMore, List.foldl_nil]
theorem sumMore_cons (s b : Int) (l : List Int) : sumMore s (b :: l) = sumMore (sumByte s b) l := by rw [sumMore, List.foldl_cons, sumMore]
theorem half_range {x : Int} (h : 0 ≤ x ∧ x < 4294967296) : 0 ≤ half x ∧ half x < 4294967296 := by
  unfold half
  split
  · exact xor32_range _ _
  · omega
theorem halves_range (n : Nat) : ∀ {x : Int}, 0 ≤ x ∧ x < 4294967296 → 0 ≤ halves n x ∧ halves n x < 4294967296 := by
  induction n with
  | zero => intro x h; exact h
  | succ n ih => intro x h; exact ih (half_range h)
theorem sumMore_range (l : List Int) : ∀ {s : Int}, 0 ≤ s ∧ s < 4294967296 → 0 ≤ sumMore s l ∧ sumMore s l < 4294967296 := by
  induction l with
  | nil => intro s h; exact h
  | cons b l ih => intro s h; rw [sumMore_cons]; exact ih (halves_range 8 (xor32_range _ _))
def sumOf (t : ByteArray) : Int := sumMore 4294967295 (bts t)
theorem sumOf_range (t : ByteArray) : 0 ≤ sumOf t ∧ sumOf t < 4294967296 := sumMore_range _ (by decide)
def four (x : Int) : ByteArray := EV.strOfNums [(x / 16777216) % 256, (x / 65536) % 256, (x / 256) % 256, x % 256]
theorem four_size (x : Int) : (four x).size = 4 := by rw [four, EV.strOfNums_size]; rfl
def sealed (t : ByteArray) : ByteArray × Bool := if t.size > 20000 then ((⟨#[]⟩ : ByteArray), false) else (t ++ four (sumOf t), true)

theorem bits_eq (op : BinOp) (k : IntKind) (x y : Int) : bitsOp op k x y = Go.bits op k x y := by cases op <;> rfl
theorem wraps_u32' (n : Int) (h₀ : 0 ≤ n) (h₁ : n < 2 ^ 32) : IntKind.u32.wrap n = n := by rw [IntKind.wrap_u32]; omega
theorem u32_and1 {x : Int} (h : 0 ≤ x ∧ x < 4294967296) : bitsOp .and .u32 x 1 = x % 2 := by rw [bits_eq]; exact bits_mask .u32 32 (by decide) wraps_u32' 1 (by decide) x h.1 h.2
theorem shr_u32 {x : Int} (n : Nat) (hn : n ≤ 32) (h : 0 ≤ x) : shrI .u32 x n = x / 2 ^ n := by
  show x.fdiv (2 ^ (min n 32)) = _
  rw [Nat.min_eq_left hn, Int.fdiv_eq_ediv_of_nonneg _ (Int.pow_nonneg (by omega))]
theorem shr1 {x : Int} (h : 0 ≤ x) : shrI .u32 x 1 = x / 2 := shr_u32 1 (by omega) h
theorem impl_SumMore_l1 (t : ByteArray) (i : Nat) (hi : i ≤ 281474976710655) (r : List AV) (n : Nat) : ∀ (j : Nat) (x : Int), j + n = 8 → 0 ≤ x ∧ x < 4294967296 →
    Ev (fun k m _ _ => L_impl_SumMore_0 k m t ((i + 1 : Nat) : Int) (halves n x)) r → Ev (fun k m p _ => L_impl_SumMore_1 k m p t (i : Int) (j : Int) x) r := by
  induction n with
  | zero =>
    intro j x hj hx he
    have he' : Ev (fun k m _ _ => L_impl_SumMore_0 k m t ((i + 1 : Nat) : Int) x) r := he
    refine Ev.step (fun k m p _ => L_impl_SumMore_1_s k m p _ _ _ _) (Ev.f (ltI_f (by omega)) ?_)
    rw [wrS (show i < 9223372036854775807 by omega)]
    exact he'.o1
  | succ n ih =>
    intro j x hj hx he
    refine Ev.step (fun k m p _ => L_impl_SumMore_1_s k m p _ _ _ _) (Ev.t (ltI_t (by omega)) ?_)
    rw [u32_and1 hx, shr1 hx.1, wrS (show j < 9223372036854775807 by omega)]
    rw [halves_succ, half] at he
    by_cases h : x % 2 = 1
    · rw [if_pos h] at he
      exact Ev.t (eqI_t h) (ih (j + 1) _ (by omega) (by rw [bits_eq]; exact xor32_range _ _) (by rw [bits_eq]; exact he))
    · rw [if_neg h] at he
      exact Ev.f (eqI_f h) (ih (j + 1) _ (by omega) (by omega) he)
theorem impl_SumMore_l (t : ByteArray) (hb : t.size ≤ 281474976710655) (n : Nat) : ∀ (i : Nat) (x : Int), i + n = t.size → 0 ≤ x ∧ x < 4294967296 →
    Ev (fun k m _ _ => L_impl_SumMore_0 k m t (i : Int) x) [.int .u32 (sumMore x ((bts t).drop i))] := by
  have hl := bts_length t
  induction n with
  | zero =>
    intro i x hi hx
    refine Ev.step (fun k m _ _ => L_impl_SumMore_0_s k m _ _ _) (Ev.f (ltI_f (by rw [lenI_c, lenS_d]; omega)) (Ev.some_ ?_))
    rw [List.drop_eq_nil_of_le (by omega), sumMore_nil]
  | succ n ih =>
    intro i x hi hx
    have hi' : i < t.size := by omega
    have hr := bts_range (List.getElem_mem (show i < (bts t).length by omega))
    refine Ev.step (fun k m _ _ => L_impl_SumMore_0_s k m _ _ _) (Ev.t (ltI_t (by rw [lenI_c, lenS_d]; omega)) (Ev.g (inR_n hi') ?_))
    have ew : wr .u32 ((bts t)[i]'(by omega)) = (bts t)[i]'(by omega) := wraps_u32' _ hr.1 (by omega)
    rw [getS_n' hi', ew, drop_cons (bts t) i (by omega), sumMore_cons, sumByte]
    refine (impl_SumMore_l1 t i (by omega) _ 8 0 _ (by omega) (by rw [bits_eq]; exact xor32_range _ _) ?_).l1
    rw [bits_eq]
    exact ih (i + 1) _ (by omega) (halves_range 8 (xor32_range _ _))
theorem impl_SumMore_ev (t : ByteArray) (hb : t.size ≤ 281474976710655) (x : Int) (hx : 0 ≤ x ∧ x < 4294967296) : Does cp n_impl_SumMore [.int .u32 x, .str t] [.int .u32 (sumMore x (bts t))] := Ev.fn (fun k => F_impl_SumMore k _ _) (impl_SumMore_l t hb t.size 0 x (by omega) hx).l0
theorem impl_SumOf_ev (t : ByteArray) (hb : t.size ≤ 281474976710655) : Does cp n_impl_SumOf [.str t] [.int .u32 (sumOf t)] := Ev.fn (fun k => F_impl_SumOf k _) (Ev.c (impl_SumMore_ev t hb 4294967295 (by decide)) (Ev.now _))
theorem four_eq {x : Int} (h : 0 ≤ x ∧ x < 4294967296) : strOf (cutC [.int .u8 (wr .u8 (shrI .u32 x 24)), .int .u8 (wr .u8 (shrI .u32 x 16)), .int .u8 (wr .u8 (shrI .u32 x 8)), .int .u8 (wr .u8 x)] 0 4) = four x := by
  rw [show shrI .u32 x 24 = x / 16777216 from shr_u32 24 (by omega) h.1, show shrI .u32 x 16 = x / 65536 from shr_u32 16 (by omega) h.1, show shrI .u32 x 8 = x / 256 from shr_u32 8 (by omega) h.1]
  unfold wr four
  simp only [IntKind.wrap_u8]
  rfl
theorem impl_sumText_ev (t : ByteArray) (hb : t.size ≤ 281474976710655) : Does cp n_impl_sumText [.str t] [.str (four (sumOf t))] := by
  refine Ev.fn (fun k => F_impl_sumText k _) (Ev.c (impl_SumOf_ev t hb) (Ev.g rfl (Ev.some_ ?_)))
  simp only [hdV_c, tlV_c, parts1_a, asInt_i, asBool_b, asStr_s, asLen_f, asCells_f, four_eq (sumOf_range t)]
theorem impl_Sealed_ev (t : ByteArray) (hb : t.size ≤ 281474976710655) : Does cp n_impl_Sealed [.str t] [.str (sealed t).1, .bool (sealed t).2] := by
  refine Ev.fn (fun k => F_impl_Sealed k _) ?_
  unfold sealed
  by_cases h : t.size > 20000
  · rw [if_pos h]; exact Ev.t (ltI_t (by rw [lenI_c, lenS_d]; omega)) (Ev.now _)
  · rw [if_neg h]
    exact Ev.f (ltI_f (by rw [lenI_c, lenS_d]; omega)) (Ev.c (impl_sumText_ev t hb) (Ev.g (fitS_small (by simp only [hdV_c, tlV_c, parts1_a, asInt_i, asBool_b, asStr_s, asLen_f, asCells_f]; rw [four_size]; omega)) (Ev.now _)))


def varNums (n : Nat) : List Int := if h : n ≤ 127 then [(n : Int)] else ((n % 128 + 128 : Nat) : Int) :: varNums (n / 128)
theorem varNums_small {n : Nat} (h : n ≤ 127) : varNums n = [(n : Int)] := by rw [varNums]; simp [h]
theorem varNums_big {n : Nat} (h : 127 < n) : varNums n = ((n % 128 + 128 : Nat) : Int) :: varNums (n / 128) := by rw [varNums]; simp [show ¬ n ≤ 127 by omega]
theorem varNums_range (n : Nat) : ∀ x ∈ varNums n, 0 ≤ x ∧ x < 256 := by
  induction n using Nat.strongRecOn with
  | _ n ih =>
    intro x hx
    by_cases h : n ≤ 127
    · rw [varNums_small h] at hx
      rw [List.mem_singleton.1 hx]; omega
    · rw [varNums_big (by omega)] at hx
      rcases List.mem_cons.1 hx with rfl | hx
      · omega
      · exact ih (n / 128) (by omega) x hx
theorem varNums_length (j : Nat) : ∀ n : Nat, n < 128 ^ (j + 1) → (varNums n).length ≤ j + 1 := by
  induction j with
  | zero =>
    intro n h
    rw [varNums_small (by omega)]; simp
  | succ j ih =>
    intro n h
    by_cases h0 : n ≤ 127
    · rw [varNums_small h0]; simp
    · rw [varNums_big (by omega), List.length_cons]
      have := ih (n / 128) (by rw [Nat.pow_succ] at h; omega)
      omega
def varText (n : Int) : ByteArray := EV.strOfNums (varNums n.toNat)
theorem varText_size {n : Int} (h : n ≤ 34359738367) : (varText n).size ≤ 5 := by
  rw [varText, EV.strOfNums_size]
  exact varNums_length 4 _ (by omega)
theorem varText_size9 {n : Int} (h : n ≤ 9223372036854775807) : (varText n).size ≤ 9 := by
  rw [varText, EV.strOfNums_size]
  exact varNums_length 8 _ (by omega)

def goV : List Int → Nat → Int → Int → Option (Int × Nat)
  | [], _, _, _ => none
  | b :: r, i, n, u => if 5 ≤ i then none else if 128 ≤ b then goV r (i + 1) (n + b % 128 * u) (u * 128) else if (b = 0 ∧ 0 < i) ∨ n + b % 128 * u > 1000000000 then none else some (n + b % 128 * u, i + 1)
theorem goV_nil (i : Nat) (n u : Int) : goV [] i n u = none := by rw [goV]
theorem goV_cons (b : Int) (r : List Int) (i : Nat) (n u : Int) : goV (b :: r) i n u = if 5 ≤ i then none else if 128 ≤ b then goV r (i + 1) (n + b % 128 * u) (u * 128) else if (b = 0 ∧ 0 < i) ∨ n + b % 128 * u > 1000000000 then none else some (n + b % 128 * u, i + 1) := by rw [goV]
theorem goV_five (l : List Int) (i : Nat) (n u : Int) (h : 5 ≤ i) : goV l i n u = none := by
  cases l with
  | nil => exact goV_nil _ _ _
  | cons b r => rw [goV_cons, if_pos h]
def resV (at_ : Int) : Option (Int × Nat) → Int × Int × Bool
  | none => (0, 0, false)
  | some (n, c) => (n, at_ + c, true)
def readVar (t : ByteArray) (at_ : Int) : Int × Int × Bool := if 0 ≤ at_ ∧ at_ ≤ t.size then resV at_ (goV ((bts t).drop at_.toNat) 0 0 1) else (0, 0, false)
/-- What bytes of a number tell. -/
def valV : List Int → Int
  | [] => 0
  | b :: r => b % 128 + 128 * valV r
theorem valV_nonneg (l : List Int) : 0 ≤ valV l := by
  induction l with
  | nil => exact Int.le_refl 0
  | cons b r ih => rw [valV]; omega
theorem valV_zero (c : List Int) (b : Int) (hb : 0 ≤ b ∧ b < 128) : valV (c ++ [b]) = 0 → b = 0 := by
  induction c with
  | nil => intro h; simp only [List.nil_append, valV] at h; omega
  | cons y c ih =>
    intro h
    rw [List.cons_append, valV] at h
    have h5 := valV_nonneg (c ++ [b])
    exact ih (by omega)
/-- The bytes are the number's own form just when none is needless. -/
theorem varNums_val (c : List Int) (b : Int) (hc : ∀ x ∈ c, 128 ≤ x ∧ x < 256) (hb : 0 ≤ b ∧ b < 128) : varNums (valV (c ++ [b])).toNat = c ++ [b] ↔ (c = [] ∨ b ≠ 0) := by
  induction c with
  | nil =>
    simp only [List.nil_append, true_or, iff_true]
    have : valV [b] = b := by rw [valV, valV]; omega
    rw [this, varNums_small (by omega)]
    rw [Int.toNat_of_nonneg hb.1]
  | cons x c ih =>
    have hx := hc x List.mem_cons_self
    have ih := ih (fun y hy => hc y (List.mem_cons_of_mem _ hy))
    have hv := valV_nonneg (c ++ [b])
    simp only [List.cons_append, reduceCtorEq, false_or]
    rw [valV]
    by_cases h0 : valV (c ++ [b]) = 0
    · rw [h0]
      have hb0 : b = 0 := valV_zero c b hb h0
      rw [varNums_small (by omega)]
      constructor
      · intro h
        have := congrArg List.length h
        simp at this
      · intro h
        exact absurd hb0 h
    · rw [varNums_big (by omega)]
      have e1 : (((x % 128 + 128 * valV (c ++ [b])).toNat % 128 + 128 : Nat) : Int) = x := by omega
      have e2 : (x % 128 + 128 * valV (c ++ [b])).toNat / 128 = (valV (c ++ [b])).toNat := by omega
      rw [e1, e2]
      constructor
      · intro h
        injection h with _ h
        rcases ih.1 h with rfl | h
        · intro hb0
          rw [hb0] at h0
          exact h0 (by rw [List.nil_append, valV, valV]; decide)
        · exact h
      · intro h
        rw [ih.2 (Or.inr h)]
theorem valV_append (c : List Int) (b : Int) : valV (c ++ [b]) = valV c + b % 128 * 128 ^ c.length := by
  induction c with
  | nil => rw [List.nil_append, valV, valV]; simp [valV]
  | cons x c ih =>
    rw [List.cons_append, valV, ih, valV, List.length_cons, Int.pow_succ]
    rw [Int.mul_add, Int.mul_comm (128 ^ c.length) 128, ← Int.mul_assoc, ← Int.mul_assoc, Int.mul_comm 128 (b % 128)]
    omega

theorem goV_spec (l : List Int) (hl : ∀ x ∈ l, 0 ≤ x ∧ x < 256) : ∀ (p : List Int) (v : Int) (c : Nat), goV l p.length (valV p) (128 ^ p.length) = some (v, c) →
    ∃ (q : List Int) (b : Int) (r : List Int), l = q ++ b :: r ∧ (∀ x ∈ q, 128 ≤ x ∧ x < 256) ∧ (0 ≤ b ∧ b < 128) ∧ v = valV (p ++ q ++ [b]) ∧ c = p.length + q.length + 1 ∧ (p ++ q = [] ∨ b ≠ 0) ∧ v ≤ 1000000000 ∧ c ≤ 5 := by
  induction l with
  | nil => intro p v c h; rw [goV_nil] at h; exact absurd h (by simp)
  | cons b r ih =>
    intro p v c h
    have hb := hl b List.mem_cons_self
    rw [goV_cons] at h
    by_cases h5 : 5 ≤ p.length
    · rw [if_pos h5] at h; exact absurd h (by simp)
    rw [if_neg h5] at h
    by_cases h128 : 128 ≤ b
    · rw [if_pos h128] at h
      have e : goV r (p ++ [b]).length (valV (p ++ [b])) (128 ^ (p ++ [b]).length) = some (v, c) := by
        rw [valV_append, List.length_append, List.length_singleton, Int.pow_succ]
        exact h
      obtain ⟨q, b', r', h1, h2, h3, h4, h5', h6, h7, h8⟩ := ih (fun x hx => hl x (List.mem_cons_of_mem _ hx)) _ _ _ e
      refine ⟨b :: q, b', r', by rw [h1]; rfl, ?_, h3, ?_, ?_, ?_, h7, h8⟩
      · intro x hx
        rcases List.mem_cons.1 hx with rfl | hx
        · omega
        · exact h2 x hx
      · rw [h4]; simp
      · rw [h5', List.length_append, List.length_singleton, List.length_cons]; omega
      · rcases h6 with h6 | h6
        · simp at h6
        · exact Or.inr h6
    · rw [if_neg h128] at h
      split at h
      · exact absurd h (by simp)
      · rename_i hn
        simp only [Option.some.injEq, Prod.mk.injEq] at h
        obtain ⟨rfl, rfl⟩ := h
        refine ⟨[], b, r, rfl, by simp, by omega, ?_, by simp, ?_, ?_, by omega⟩
        · rw [List.append_nil, valV_append]
        · by_cases hb0 : b = 0
          · refine Or.inl ?_
            rw [List.append_nil]
            exact List.eq_nil_of_length_eq_zero (by
              rcases Nat.eq_zero_or_pos p.length with h | h
              · exact h
              · exact absurd (Or.inl ⟨hb0, h⟩) hn)
          · exact Or.inr hb0
        · have : ¬ (valV p + b % 128 * 128 ^ p.length > 1000000000) := fun h => hn (Or.inr h)
          omega
theorem readVar_spec {t : ByteArray} {a n next : Int} (h : readVar t a = (n, next, true)) :
    0 ≤ a ∧ a < next ∧ next ≤ t.size ∧ 0 ≤ n ∧ n ≤ 1000000000 ∧ next ≤ a + 5 ∧ t.extract a.toNat next.toNat = varText n := by
  have hl := bts_length t
  unfold readVar at h
  by_cases ha : 0 ≤ a ∧ a ≤ t.size
  · rw [if_pos ha] at h
    cases hg : goV ((bts t).drop a.toNat) 0 0 1 with
    | none => rw [hg] at h; simp [resV] at h
    | some x =>
      obtain ⟨v, c⟩ := x
      rw [hg] at h
      simp only [resV, Prod.mk.injEq, and_true] at h
      obtain ⟨rfl, rfl⟩ := h
      obtain ⟨q, b, r, h1, h2, h3, h4, h5, h6, h7, h8⟩ := goV_spec ((bts t).drop a.toNat) (fun x hx => bts_range (List.mem_of_mem_drop hx)) [] v c (by simpa [valV] using hg)
      simp only [List.nil_append, List.length_nil] at h4 h5 h6
      have hlen := congrArg List.length h1
      rw [List.length_drop, List.length_append, List.length_cons] at hlen
      have hv := valV_nonneg (q ++ [b])
      refine ⟨ha.1, by omega, by omega, by omega, h7, by omega, ?_⟩
      rw [← bts_eq, bts_extract, varText, bts_strOf (varNums_range _), h4, (varNums_val q b h2 h3).2 h6]
      rw [show (a + (c : Int)).toNat - a.toNat = q.length + 1 by omega, h1]
      rw [show q ++ b :: r = (q ++ [b]) ++ r by simp]
      exact List.take_left' (by simp)
  · rw [if_neg ha] at h
    simp at h
theorem readVar_false {t : ByteArray} {a : Int} (h : (readVar t a).2.2 = false) : readVar t a = (0, 0, false) := by
  unfold readVar at h ⊢
  split at h
  · rename_i ha
    rw [if_pos ha]
    cases hg : goV ((bts t).drop a.toNat) 0 0 1 with
    | none => rfl
    | some x => rw [hg] at h; simp [resV] at h
  · rename_i ha
    rw [if_neg ha]

def readShort (t : ByteArray) (a : Int) : ByteArray × Int × Bool :=
  if (readVar t a).2.2 = true ∧ (readVar t a).1 ≤ 20000 ∧ (readVar t a).2.1 + (readVar t a).1 ≤ t.size then
    (t.extract (readVar t a).2.1.toNat ((readVar t a).2.1 + (readVar t a).1).toNat, (readVar t a).2.1 + (readVar t a).1, true) else ((⟨#[]⟩ : ByteArray), 0, false)
theorem readShort_spec {t s : ByteArray} {a next : Int} (h : readShort t a = (s, next, true)) :
    0 ≤ a ∧ a < next ∧ next ≤ t.size ∧ s.size ≤ 20000 ∧ t.extract a.toNat next.toNat = varText s.size ++ s ∧ next ≤ a + 5 + s.size := by
  have hl := bts_length t
  unfold readShort at h
  split at h
  · rename_i hc
    obtain ⟨h1, h2, h3⟩ := hc
    have hv : readVar t a = ((readVar t a).1, (readVar t a).2.1, true) := by rw [← h1]
    obtain ⟨g1, g2, g3, g4, g5, g6, g7⟩ := readVar_spec hv
    simp only [Prod.mk.injEq, and_true] at h
    obtain ⟨rfl, rfl⟩ := h
    generalize (readVar t a).1 = n at *
    generalize (readVar t a).2.1 = m at *
    have hs : (t.extract m.toNat (m + n).toNat).size = n.toNat := by
      rw [size_eq, bts_extract, List.length_take, List.length_drop]
      omega
    refine ⟨g1, by omega, h3, by omega, ?_, by omega⟩
    rw [hs, Int.toNat_of_nonneg g4, ← g7, ← bts_eq, bts_append, bts_extract, bts_extract, bts_extract]
    rw [show (m + n).toNat - a.toNat = (m.toNat - a.toNat) + ((m + n).toNat - m.toNat) by omega, List.take_add, List.drop_drop]
    rw [show a.toNat + (m.toNat - a.toNat) = m.toNat by omega]
  · simp at h
theorem readShort_false {t : ByteArray} {a : Int} (h : (readShort t a).2.2 = false) : readShort t a = ((⟨#[]⟩ : ByteArray), 0, false) := by
  unfold readShort at h ⊢
  split at h
  · simp at h
  · rename_i hc
    rw [if_neg hc]

def recordText (t : ByteArray) : ByteArray × Bool := if 1 ≤ t.size ∧ t.size ≤ 700 then sealed (varText (t.size : Int) ++ t) else ((⟨#[]⟩ : ByteArray), false)
theorem sealed_size (t : ByteArray) : (sealed t).1.size ≤ 20004 := by
  unfold sealed
  split
  · show 0 ≤ 20004; omega
  · show (t ++ four (sumOf t)).size ≤ 20004
    rw [size_append, four_size]; omega
theorem recordText_size (t : ByteArray) : (recordText t).1.size ≤ 20004 := by
  unfold recordText
  split
  · exact sealed_size _
  · show 0 ≤ 20004; omega

theorem extract_split {j : ByteArray} {a b c : Nat} (h1 : a ≤ b) (h2 : b ≤ c) (h3 : c ≤ j.size) : j.extract a c = j.extract a b ++ j.extract b c := by
  rw [← bts_eq, bts_append, bts_extract, bts_extract, bts_extract, show c - a = (b - a) + (c - b) by omega, List.take_add, List.drop_drop, show a + (b - a) = b by omega]
theorem extract_size {j : ByteArray} {a b : Nat} (h2 : b ≤ j.size) : (j.extract a b).size = b - a := by
  rw [size_eq, bts_extract, List.length_take, List.length_drop, bts_length]
  omega
theorem extract_extract {j : ByteArray} {a b c d : Nat} (h : a + d ≤ b) : (j.extract a b).extract c d = j.extract (a + c) (a + d) := by
  rw [← bts_eq, bts_extract, bts_extract, bts_extract, List.drop_take, List.take_take, List.drop_drop]
  congr 1
  omega
def recAt (j : ByteArray) (a : Int) : ByteArray × Int × Bool :=
  if (readShort j a).2.2 = true ∧ 1 ≤ (readShort j a).1.size ∧ (readShort j a).1.size ≤ 700 ∧ (readShort j a).2.1 + 4 ≤ j.size ∧
      j.extract (readShort j a).2.1.toNat ((readShort j a).2.1 + 4).toNat = four (sumOf (j.extract a.toNat (readShort j a).2.1.toNat)) then
    ((readShort j a).1, (readShort j a).2.1 + 4, true) else ((⟨#[]⟩ : ByteArray), 0, false)
theorem recAt_spec {j s : ByteArray} {a next : Int} (h : recAt j a = (s, next, true)) : 0 ≤ a ∧ a + 5 < next ∧ next ≤ j.size ∧ 1 ≤ s.size ∧ s.size ≤ 700 := by
  unfold recAt at h
  split at h
  · rename_i hc
    obtain ⟨h1, h2, h3, h4, h5⟩ := hc
    have hv : readShort j a = ((readShort j a).1, (readShort j a).2.1, true) := by rw [← h1]
    obtain ⟨g1, g2, g3, g4, g5, g6⟩ := readShort_spec hv
    simp only [Prod.mk.injEq, and_true] at h
    obtain ⟨rfl, rfl⟩ := h
    have hs := congrArg ByteArray.size g5
    rw [size_append, extract_size (by omega), varText, EV.strOfNums_size] at hs
    have hp : 0 < (varNums ((readShort j a).1.size : Int).toNat).length := by
      rw [varNums]
      split <;> simp
    exact ⟨g1, by omega, h4, h2, h3⟩
  · simp at h
theorem recAt_false {j : ByteArray} {a : Int} (h : (recAt j a).2.2 = false) : recAt j a = ((⟨#[]⟩ : ByteArray), 0, false) := by
  unfold recAt at h ⊢
  split at h
  · simp at h
  · rename_i hc
    rw [if_neg hc]
def unsealed (x : ByteArray) : ByteArray × Bool :=
  if 4 ≤ x.size ∧ x.size ≤ 20004 ∧ four (sumOf (x.extract 0 (x.size - 4))) = x.extract (x.size - 4) x.size then (x.extract 0 (x.size - 4), true) else ((⟨#[]⟩ : ByteArray), false)

def readJ : Nat → ByteArray → Int → List ByteArray × Int
  | 0, _, a => ([], a)
  | f + 1, j, a => if (recAt j a).2.2 = true then ((recAt j a).1 :: (readJ f j (recAt j a).2.1).1, (readJ f j (recAt j a).2.1).2) else ([], a)
def readJournal (j : ByteArray) : List ByteArray × Int := readJ (j.size + 1) j 0
theorem readJ_length (f : Nat) : ∀ (j : ByteArray) (a : Int), 0 ≤ a → a ≤ j.size → ((readJ f j a).1.length : Int) + a ≤ j.size ∧ 0 ≤ (readJ f j a).2 ∧ (readJ f j a).2 ≤ j.size := by
  induction f with
  | zero => intro j a h0 h1; simp [readJ]; omega
  | succ f ih =>
    intro j a h0 h1
    rw [readJ]
    by_cases hc : (recAt j a).2.2 = true
    · rw [if_pos hc]
      have hv : recAt j a = ((recAt j a).1, (recAt j a).2.1, true) := by rw [← hc]
      obtain ⟨g1, g2, g3, _⟩ := recAt_spec hv
      have := ih j (recAt j a).2.1 (by omega) g3
      simp only [List.length_cons]
      omega
    · rw [if_neg hc]
      simp only [List.length_nil]
      omega

def addRecord (j t : ByteArray) : ByteArray × Bool := if (recordText t).2 = true ∧ (recordText t).1.size + j.size ≤ 20000 then (j ++ (recordText t).1, true) else (j, false)

theorem goV_rec (n : Nat) (h : n ≤ 700) (r : List Int) : goV (varNums n ++ r) 0 0 1 = some ((n : Int), (varNums n).length) := by
  by_cases h1 : n ≤ 127
  · rw [varNums_small h1, List.singleton_append, goV_cons, if_neg (by omega), if_neg (by omega), if_neg (by omega)]
    simp only [List.length_singleton, Option.some.injEq, Prod.mk.injEq]
    exact ⟨by omega, trivial⟩
  · rw [varNums_big (by omega), varNums_small (by omega), List.cons_append, goV_cons, if_neg (by omega), if_pos (by omega), List.singleton_append, goV_cons, if_neg (by omega), if_neg (by omega), if_neg (by omega)]
    simp only [List.length_cons, List.length_nil, Option.some.injEq, Prod.mk.injEq]
    exact ⟨by omega, trivial⟩
theorem ext_mid (a b c : ByteArray) : (a ++ b ++ c).extract a.size (a.size + b.size) = b := by
  apply bts_inj
  rw [bts_extract, bts_append, bts_append, List.append_assoc, List.drop_left' (bts_length a), Nat.add_sub_cancel_left]
  exact List.take_left' (bts_length b)
/-- A text of a record's size. -/
def recOk (t : ByteArray) : Prop := 1 ≤ t.size ∧ t.size ≤ 700
def body (t : ByteArray) : ByteArray := varText (t.size : Int) ++ t
def rcd (t : ByteArray) : ByteArray := body t ++ four (sumOf (body t))
theorem body_size (t : ByteArray) : (body t).size = (varNums t.size).length + t.size := by
  unfold body
  rw [size_append, varText, EV.strOfNums_size]
  rfl
theorem rcd_size (t : ByteArray) : (rcd t).size = (varNums t.size).length + t.size + 4 := by
  unfold rcd
  rw [size_append, body_size, four_size]
theorem varNums_pos (n : Nat) : 1 ≤ (varNums n).length := by
  rw [varNums]
  split <;> simp
theorem rcd_size_le {t : ByteArray} (h : t.size ≤ 700) : (rcd t).size ≤ t.size + 6 := by
  have := varNums_length 1 t.size (by omega)
  rw [rcd_size]; omega
theorem recordText_rcd {t : ByteArray} (h : recOk t) : recordText t = (rcd t, true) := by
  have h' : 1 ≤ t.size ∧ t.size ≤ 700 := h
  unfold recordText
  rw [if_pos h']
  have := rcd_size_le h.2
  rw [rcd_size] at this
  unfold sealed
  have hb := body_size t
  have h2 := h.2
  rw [if_neg (by show ¬ (body t).size > 20000; omega)]
  rfl
theorem bts_body (t : ByteArray) : bts (body t) = varNums t.size ++ bts t := by
  unfold body
  rw [bts_append, varText, bts_strOf (varNums_range _)]
  rfl
theorem recAt_whole (pre suf : ByteArray) {t : ByteArray} (h : recOk t) : recAt (pre ++ rcd t ++ suf) (pre.size : Int) = (t, ((pre.size + (rcd t).size : Nat) : Int), true) := by
  obtain ⟨x, hx⟩ : ∃ x, pre ++ rcd t ++ suf = x := ⟨_, rfl⟩
  have hsz : x.size = pre.size + (rcd t).size + suf.size := by rw [← hx, size_append, size_append]
  have hr := rcd_size t
  have h1 := h.1
  have h2 := h.2
  have hv : readVar x (pre.size : Int) = ((t.size : Int), ((pre.size + (varNums t.size).length : Nat) : Int), true) := by
    unfold readVar
    rw [if_pos ⟨by omega, by omega⟩]
    have : (bts x).drop (pre.size : Int).toNat = varNums t.size ++ (bts t ++ (bts (four (sumOf (body t))) ++ bts suf)) := by
      rw [← hx, bts_append, bts_append, List.append_assoc, Int.toNat_natCast, List.drop_left' (bts_length pre)]
      unfold rcd
      rw [bts_append, bts_body]
      simp only [List.append_assoc]
    rw [this, goV_rec _ h2]
    simp only [resV]
    push_cast
    rfl
  have e1 : x.extract (pre.size + (varNums t.size).length) (pre.size + (varNums t.size).length + t.size) = t := by
    have := ext_mid (pre ++ varText (t.size : Int)) t (four (sumOf (body t)) ++ suf)
    rw [size_append, varText, EV.strOfNums_size, Int.toNat_natCast] at this
    rw [← hx]
    refine Eq.trans ?_ this
    congr 1
    unfold rcd body varText
    simp only [ba_append_assoc, Int.toNat_natCast]
  have hs : readShort x (pre.size : Int) = (t, ((pre.size + (varNums t.size).length + t.size : Nat) : Int), true) := by
    unfold readShort
    rw [hv, if_pos ⟨rfl, by show (t.size : Int) ≤ 20000; omega, by show ((pre.size + (varNums t.size).length : Nat) : Int) + (t.size : Int) ≤ x.size; omega⟩]
    refine Prod.ext ?_ (Prod.ext ?_ rfl)
    · show x.extract (((pre.size + (varNums t.size).length : Nat) : Int)).toNat (((pre.size + (varNums t.size).length : Nat) : Int) + (t.size : Int)).toNat = t
      rw [show (((pre.size + (varNums t.size).length : Nat) : Int)).toNat = pre.size + (varNums t.size).length by omega, show (((pre.size + (varNums t.size).length : Nat) : Int) + (t.size : Int)).toNat = pre.size + (varNums t.size).length + t.size by omega, e1]
    · show ((pre.size + (varNums t.size).length : Nat) : Int) + (t.size : Int) = _
      push_cast; rfl
  have e2 : x.extract pre.size (pre.size + (varNums t.size).length + t.size) = body t := by
    have := ext_mid pre (body t) (four (sumOf (body t)) ++ suf)
    rw [body_size, ← Nat.add_assoc] at this
    rw [← hx]
    refine Eq.trans ?_ this
    congr 1
    unfold rcd
    simp only [ba_append_assoc]
  have e3 : x.extract (pre.size + (varNums t.size).length + t.size) (pre.size + (varNums t.size).length + t.size + 4) = four (sumOf (body t)) := by
    have := ext_mid (pre ++ body t) (four (sumOf (body t))) suf
    rw [four_size, size_append, body_size, ← Nat.add_assoc] at this
    rw [← hx]
    refine Eq.trans ?_ this
    congr 1
    unfold rcd
    simp only [ba_append_assoc]
  rw [hx]
  unfold recAt
  rw [hs, if_pos]
  · refine Prod.ext rfl (Prod.ext ?_ rfl)
    show ((pre.size + (varNums t.size).length + t.size : Nat) : Int) + 4 = _
    rw [hr]
    push_cast; omega
  · refine ⟨rfl, h1, h2, by show ((pre.size + (varNums t.size).length + t.size : Nat) : Int) + 4 ≤ x.size; omega, ?_⟩
    show x.extract (((pre.size + (varNums t.size).length + t.size : Nat) : Int)).toNat (((pre.size + (varNums t.size).length + t.size : Nat) : Int) + 4).toNat = four (sumOf (x.extract (pre.size : Int).toNat (((pre.size + (varNums t.size).length + t.size : Nat) : Int)).toNat))
    rw [show (((pre.size + (varNums t.size).length + t.size : Nat) : Int)).toNat = pre.size + (varNums t.size).length + t.size by omega, show (((pre.size + (varNums t.size).length + t.size : Nat) : Int) + 4).toNat = pre.size + (varNums t.size).length + t.size + 4 by omega, Int.toNat_natCast, e2, e3]
theorem recAt_part (pre part rem : ByteArray) {t : ByteArray} (h : recOk t) (hp : part ++ rem = rcd t) (hr : 0 < rem.size) : (recAt (pre ++ part) (pre.size : Int)).2.2 = false := by
  rw [← Bool.not_eq_true]
  intro hc
  obtain ⟨x, hx⟩ : ∃ x, pre ++ part = x := ⟨_, rfl⟩
  rw [hx] at hc
  unfold recAt at hc
  split at hc
  · rename_i hq
    obtain ⟨q1, q2, q3, q4, q5⟩ := hq
    have hv : readShort x (pre.size : Int) = ((readShort x (pre.size : Int)).1, (readShort x (pre.size : Int)).2.1, true) := by rw [← q1]
    obtain ⟨g1, g2, g3, g4, g5, g6⟩ := readShort_spec hv
    generalize (readShort x (pre.size : Int)).1 = s at *
    generalize (readShort x (pre.size : Int)).2.1 = m at *
    have hxs : x.size = pre.size + part.size := by rw [← hx, size_append]
    have hps : part.size + rem.size = (rcd t).size := by rw [← hp, size_append]
    have hb := congrArg bts g5
    have hsz := congrArg ByteArray.size g5
    rw [show varText (s.size : Int) ++ s = body s from rfl, bts_body, bts_extract, ← hx, bts_append, Int.toNat_natCast, List.drop_left' (bts_length pre)] at hb
    rw [show varText (s.size : Int) ++ s = body s from rfl, body_size, extract_size (by omega)] at hsz
    have e1 : bts part ++ bts rem = varNums s.size ++ (bts s ++ ((bts part).drop (m.toNat - pre.size) ++ bts rem)) := by
      rw [← List.append_assoc, ← List.append_assoc, ← hb, List.take_append_drop]
    have e2 : bts part ++ bts rem = varNums t.size ++ (bts t ++ bts (four (sumOf (body t)))) := by
      rw [← bts_append, hp]
      unfold rcd
      rw [bts_append, bts_body, List.append_assoc]
    have e3 := goV_rec s.size q3 (bts s ++ ((bts part).drop (m.toNat - pre.size) ++ bts rem))
    rw [← e1, e2, goV_rec t.size h.2] at e3
    simp only [Option.some.injEq, Prod.mk.injEq] at e3
    have e4 : t.size = s.size := by omega
    have := rcd_size t
    rw [e4] at this
    omega
  · simp at hc
/-- Records one behind the other. -/
def jt : List ByteArray → ByteArray
  | [] => ⟨#[]⟩
  | t :: r => rcd t ++ jt r
theorem jt_append (a b : List ByteArray) : jt (a ++ b) = jt a ++ jt b := by
  induction a with
  | nil => rw [List.nil_append, jt, ba_nil_append]
  | cons t a ih => rw [List.cons_append, jt, jt, ih, ba_append_assoc]
theorem jt_length (ts : List ByteArray) : ts.length ≤ (jt ts).size := by
  induction ts with
  | nil => simp
  | cons t r ih => rw [jt, size_append, List.length_cons, rcd_size]; omega
theorem readJ_of (part rem : ByteArray) {t' : ByteArray} (h' : recOk t') (hp : part ++ rem = rcd t') (hr : 0 < rem.size) : ∀ (ts : List ByteArray), (∀ t ∈ ts, recOk t) → ∀ (pre : ByteArray) (f : Nat), ts.length < f →
    readJ f (pre ++ jt ts ++ part) (pre.size : Int) = (ts, ((pre.size + (jt ts).size : Nat) : Int))
  | [], _, pre, f + 1, _ => by
    rw [readJ, jt, ba_append_nil, recAt_part pre part rem h' hp hr, if_neg (by simp)]
    rfl
  | t :: ts, hs, pre, f + 1, hf => by
    rw [List.length_cons] at hf
    have e : pre ++ jt (t :: ts) ++ part = pre ++ rcd t ++ (jt ts ++ part) := by rw [jt]; simp only [ba_append_assoc]
    have e' : pre ++ jt (t :: ts) ++ part = (pre ++ rcd t) ++ jt ts ++ part := by rw [jt]; simp only [ba_append_assoc]
    have hw := recAt_whole pre (jt ts ++ part) (hs t (by simp))
    rw [← e] at hw
    rw [readJ, hw, if_pos rfl]
    have ih := readJ_of part rem h' hp hr ts (fun y hy => hs y (by simp [hy])) (pre ++ rcd t) f (by omega)
    rw [← e', size_append] at ih
    rw [ih, jt, size_append, Nat.add_assoc]
theorem cut_of : ∀ (ts : List ByteArray), (∀ t ∈ ts, recOk t) → ∀ n : Nat, n ≤ (jt ts).size →
    ∃ (k : Nat) (part rem t' : ByteArray), k ≤ ts.length ∧ (jt ts).extract 0 n = jt (ts.take k) ++ part ∧ part ++ rem = rcd t' ∧ 0 < rem.size ∧ recOk t' ∧ (jt (ts.take k)).size ≤ n ∧ (k = ts.length ∨ n < (jt (ts.take (k + 1))).size)
  | [], _, n, hn => by
    have h0 : n = 0 := by
      have : (jt ([] : List ByteArray)).size = 0 := rfl
      omega
    subst h0
    refine ⟨0, ⟨#[]⟩, rcd (EV.strOfNums [0]), EV.strOfNums [0], Nat.le_refl _, ?_, ba_nil_append _, by rw [rcd_size]; omega, ⟨by rw [EV.strOfNums_size]; simp, by rw [EV.strOfNums_size]; simp⟩, Nat.zero_le _, Or.inl rfl⟩
    apply bts_inj
    rw [bts_extract, bts_append]
    rfl
  | t :: ts, hs, n, hn => by
    rw [jt, size_append] at hn
    by_cases c : n < (rcd t).size
    · refine ⟨0, (rcd t).extract 0 n, (rcd t).extract n (rcd t).size, t, Nat.zero_le _, ?_, ?_, ?_, hs t (by simp), Nat.zero_le _, Or.inr ?_⟩
      · rw [List.take_zero, jt, jt, ba_nil_append]
        apply bts_inj
        rw [bts_extract, bts_extract, bts_append, List.drop_zero, List.drop_zero, Nat.sub_zero]
        exact List.take_append_of_le_length (by rw [bts_length]; omega)
      · rw [← extract_split (Nat.zero_le _) (by omega) (Nat.le_refl _)]
        apply bts_inj
        rw [bts_extract, List.drop_zero, List.take_of_length_le (by rw [bts_length]; omega)]
      · rw [extract_size (Nat.le_refl _)]; omega
      · rw [Nat.zero_add, List.take_succ_cons, List.take_zero, jt, jt, ba_append_nil]; exact c
    · obtain ⟨k, part, rem, t', h1, h2, h3, h4, h5, h6, h7⟩ := cut_of ts (fun y hy => hs y (by simp [hy])) (n - (rcd t).size) (by omega)
      refine ⟨k + 1, part, rem, t', by rw [List.length_cons]; omega, ?_, h3, h4, h5, ?_, ?_⟩
      · rw [List.take_succ_cons, jt, jt, ba_append_assoc, ← h2]
        apply bts_inj
        rw [bts_append, bts_extract, bts_extract, bts_append, List.drop_zero, List.drop_zero, Nat.sub_zero, Nat.sub_zero, List.take_append, List.take_of_length_le (by rw [bts_length]; omega), bts_length]
      · rw [List.take_succ_cons, jt, size_append]; omega
      · rcases h7 with h7 | h7
        · exact Or.inl (by rw [List.length_cons]; omega)
        · refine Or.inr ?_
          rw [List.take_succ_cons, jt, size_append]; omega
theorem readJournal_cut (ts : List ByteArray) (hs : ∀ t ∈ ts, recOk t) (n : Nat) (hn : n ≤ (jt ts).size) : ∃ k, k ≤ ts.length ∧ readJournal ((jt ts).extract 0 n) = (ts.take k, ((jt (ts.take k)).size : Int)) ∧ (jt (ts.take k)).size ≤ n ∧ (k = ts.length ∨ n < (jt (ts.take (k + 1))).size) := by
  obtain ⟨k, part, rem, t', h1, h2, h3, h4, h5, h6, h7⟩ := cut_of ts hs n hn
  refine ⟨k, h1, ?_, h6, h7⟩
  unfold readJournal
  have hl := jt_length (ts.take k)
  have := readJ_of part rem h5 h3 h4 (ts.take k) (fun y hy => hs y (List.mem_of_mem_take hy)) (⟨#[]⟩ : ByteArray) ((jt (ts.take k) ++ part).size + 1) (by rw [size_append]; omega)
  rw [h2]
  rw [ba_nil_append] at this
  rw [show ((⟨#[]⟩ : ByteArray).size : Int) = 0 from rfl] at this
  rw [this]
  refine Prod.ext rfl ?_
  show (((⟨#[]⟩ : ByteArray).size + _ : Nat) : Int) = _
  rw [show (⟨#[]⟩ : ByteArray).size = 0 from rfl, Nat.zero_add]
theorem readJournal_all (ts : List ByteArray) (hs : ∀ t ∈ ts, recOk t) : readJournal (jt ts) = (ts, ((jt ts).size : Int)) := by
  unfold readJournal
  have hl := jt_length ts
  have h0 : recOk (EV.strOfNums [0]) := ⟨by rw [EV.strOfNums_size]; simp, by rw [EV.strOfNums_size]; simp⟩
  have := readJ_of (⟨#[]⟩ : ByteArray) (rcd (EV.strOfNums [0])) h0 (ba_nil_append _) (by rw [rcd_size]; omega) ts hs (⟨#[]⟩ : ByteArray) ((jt ts).size + 1) (by omega)
  rw [ba_nil_append, ba_append_nil] at this
  rw [show ((⟨#[]⟩ : ByteArray).size : Int) = 0 from rfl] at this
  rw [this]
  refine Prod.ext rfl ?_
  show (((⟨#[]⟩ : ByteArray).size + _ : Nat) : Int) = _
  rw [show (⟨#[]⟩ : ByteArray).size = 0 from rfl, Nat.zero_add]

theorem impl_varText_l (j : Nat) : ∀ (n : Nat) (ys : List Int), n < 128 ^ (j + 1) → n ≤ 9223372036854775807 → ys.length + j ≤ 1000 →
    Ev (fun k m _ _ => L_impl_varText_0 k m (n : Int) ys.length (ys.flatMap eB)) [.str (EV.strOfNums (ys ++ varNums n))] := by
  have fin : ∀ (n : Nat) (ys : List Int), n ≤ 127 → ys.length ≤ 1000 → Ev (fun k m _ _ => L_impl_varText_0 k m (n : Int) ys.length (ys.flatMap eB)) [.str (EV.strOfNums (ys ++ varNums n))] := by
    intro n ys h hs
    have ew : wr .u8 (n : Int) = (n : Int) := by unfold wr; rw [IntKind.wrap_u8]; omega
    refine Ev.step (fun k m _ _ => L_impl_varText_0_s k m _ _ _) (Ev.f (ltI_f (by omega)) (Ev.g (fitN_small (by rw [addN_d]; omega) (by decide)) ?_))
    rw [ew, catB, addN1 ys (n : Int), cut_all eB_len, strOf_e, varNums_small h]
    exact Ev.g (isBytes_e _) (Ev.now _)
  induction j with
  | zero => intro n ys h hn hs; exact fin n ys (by omega) (by omega)
  | succ j ih =>
    intro n ys h hn hs
    by_cases h0 : n ≤ 127
    · exact fin n ys h0 (by omega)
    · have e1 : wr .u8 (wr .i64 (addI 128 (remI (n : Int) 128))) = ((n % 128 + 128 : Nat) : Int) := by
        rw [remI_d, tmod_pos (by omega), addI_d, wr64 (by omega)]
        unfold wr
        rw [IntKind.wrap_u8]
        omega
      have e2 : wr .i64 (quoI (n : Int) 128) = ((n / 128 : Nat) : Int) := by rw [quoI_d, tdiv_pos (by omega), wr64 (by omega)]; omega
      refine Ev.step (fun k m _ _ => L_impl_varText_0_s k m _ _ _) (Ev.t (ltI_t (by omega)) (Ev.g (fitN_small (by rw [addN_d]; omega) (by decide)) ?_))
      rw [e1, e2, catB, addN1 ys ((n % 128 + 128 : Nat) : Int)]
      refine (ih (n / 128) _ (by rw [Nat.pow_succ] at h; omega) (by omega) (by rw [List.length_append]; show ys.length + 1 + j ≤ 1000; omega)).to ?_
      rw [varNums_big (show 127 < n by omega), List.append_assoc]
      rfl
theorem impl_varText_ev (n : Nat) (h : n ≤ 9223372036854775807) : Does cp n_impl_varText [.int .i64 (n : Int)] [.str (varText (n : Int))] :=
  Ev.fn (fun k => F_impl_varText k _) (impl_varText_l 8 n [] (by omega) (by omega) (by show 0 + 8 ≤ 1000; omega)).l0
theorem size0 {t : ByteArray} : t = (⟨#[]⟩ : ByteArray) ↔ t.size = 0 := ⟨fun h => by rw [h]; rfl, fun h => size_zero h⟩
theorem impl_RecordText_ev (t : ByteArray) (hb : t.size ≤ 281474976710655) : Does cp n_impl_RecordText [.str t] [.str (recordText t).1, .bool (recordText t).2] := by
  refine Ev.fn (fun k => F_impl_RecordText k _) ?_
  unfold recordText
  by_cases h : 1 ≤ t.size ∧ t.size ≤ 700
  · rw [if_pos h]
    have hv := varText_size (n := (t.size : Int)) (by omega)
    refine Ev.f (eqS_f (fun q => by have := size0.1 q; omega)) (Ev.f (ltI_f (by rw [lenI_c, lenS_d]; omega)) (Ev.c (impl_varText_ev t.size (by omega)) (Ev.g (fitS_small (by simp only [hdV_c, tlV_c, parts1_a, asInt_i, asBool_b, asStr_s, asLen_f, asCells_f]; omega)) (Ev.c (impl_Sealed_ev (varText (t.size : Int) ++ t) (by rw [size_append]; omega)) (Ev.now _)))))
  · rw [if_neg h]
    by_cases h0 : t.size = 0
    · exact Ev.t (eqS_t (size0.2 h0)) (Ev.now _)
    · exact Ev.f (eqS_f (fun q => h0 (size0.1 q))) (Ev.t (ltI_t (by rw [lenI_c, lenS_d]; omega)) (Ev.now _))
theorem impl_AddRecord_ev (j t : ByteArray) (hj : j.size ≤ 1048576) (ht : t.size ≤ 281474976710655) : Does cp n_impl_AddRecord [.str j, .str t] [.str (addRecord j t).1, .bool (addRecord j t).2] := by
  refine Ev.fn (fun k => F_impl_AddRecord k _ _) (Ev.c (impl_RecordText_ev t ht) ?_)
  have hs := recordText_size t
  have e : wr .i64 (subI 20000 (lenI (lenS j))) = 20000 - (j.size : Int) := by rw [subI_d, lenI_c, lenS_d, wr64 (by omega)]
  unfold addRecord
  simp only [hdV_c, tlV_c, parts1_a, asInt_i, asBool_b, asStr_s, asLen_f, asCells_f, e]
  by_cases h : (recordText t).2 = true
  · refine Ev.f (by rw [h]; rfl) ?_
    by_cases h2 : (recordText t).1.size + j.size ≤ 20000
    · rw [if_pos ⟨h, h2⟩]
      exact Ev.f (ltI_f (by rw [lenI_c, lenS_d]; omega)) (Ev.g (fitS_small (by omega)) (Ev.now _))
    · rw [if_neg (fun q => h2 q.2)]
      exact Ev.t (ltI_t (by rw [lenI_c, lenS_d]; omega)) (Ev.now _)
  · rw [if_neg (fun q => h q.1)]
    rw [Bool.not_eq_true] at h
    exact Ev.t (by rw [h]; rfl) (Ev.now _)
def resVL (a : Int) (x : Option (Int × Nat)) : List AV := [.int .i64 (resV a x).1, .int .i64 (resV a x).2.1, .bool (resV a x).2.2]
theorem impl_ReadVar_l (t : ByteArray) (hb : t.size ≤ 281474976710655) (a : Nat) (ha : a ≤ t.size) (m : Nat) : ∀ (i : Nat) (n : Int), i + m = 5 → a + i ≤ t.size → 0 ≤ n → n < ((128 ^ i : Nat) : Int) →
    Ev (fun k m _ _ => L_impl_ReadVar_0 k m (a : Int) t (i : Int) ((128 ^ i : Nat) : Int) n) (resVL a (goV ((bts t).drop (a + i)) i n ((128 ^ i : Nat) : Int))) := by
  have hl := bts_length t
  induction m with
  | zero =>
    intro i n hi hs h0 h1
    rw [goV_five _ _ _ _ (by omega)]
    exact Ev.step (fun k m _ _ => L_impl_ReadVar_0_s k m _ _ _ _ _) (Ev.f (ltI_f (by omega)) (Ev.now _))
  | succ m ih =>
    intro i n hi hs h0 h1
    have hu4 : ((128 ^ i : Nat) : Int) ≤ 268435456 := Int.ofNat_le.2 (Nat.le_trans (Nat.pow_le_pow_right (by decide) (show i ≤ 4 by omega)) (by decide))
    have hu0 : 0 < ((128 ^ i : Nat) : Int) := Int.ofNat_lt.2 (Nat.pow_pos (by decide))
    have e4 : ((128 ^ i : Nat) : Int) * 128 = ((128 ^ (i + 1) : Nat) : Int) := by rw [Nat.pow_succ]; push_cast; rfl
    have hih := ih (i + 1)
    rw [← e4] at hih
    clear ih e4
    generalize ((128 ^ i : Nat) : Int) = u at *
    have e0 : wr .i64 (addI (a : Int) (i : Int)) = ((a + i : Nat) : Int) := by rw [addI_d, wr64 (by omega)]; omega
    refine Ev.step (fun k m _ _ => L_impl_ReadVar_0_s k m _ _ _ _ _) (Ev.t (ltI_t (by omega)) ?_)
    rw [e0]
    by_cases hlt : a + i < t.size
    · rw [drop_cons (bts t) (a + i) (by omega), goV_cons, if_neg (by omega)]
      have hg := bts_range (List.getElem_mem (show a + i < (bts t).length by omega))
      have hbt : getS t ((a + i : Nat) : Int) = (bts t)[a + i]'(by omega) := getS_n' hlt
      rw [hbt]
      generalize (bts t)[a + i]'(by omega) = b at hg ⊢
      have eb : wr .i64 b = b := wr64 (by omega)
      have hp0 : 0 ≤ b % 128 * u := Int.mul_nonneg (by omega) (by omega)
      have hp1 : b % 128 * u ≤ 127 * u := Int.mul_le_mul_of_nonneg_right (by omega) (by omega)
      obtain ⟨pr, hpr⟩ : ∃ pr, b % 128 * u = pr := ⟨_, rfl⟩
      rw [hpr] at hp0 hp1 ⊢
      have e1 : wr .i64 (mulI (remI b 128) u) = pr := by rw [mulI_d, remI_d, tmod_pos hg.1, hpr, wr64 (by omega)]
      have e2 : wr .i64 (addI n pr) = n + pr := by rw [addI_d, wr64 (by omega)]
      have e3 : wr .i64 (mulI u 128) = u * 128 := by rw [mulI_d, wr64 (by omega)]
      have e5 : wr .i64 (addI ((a + i : Nat) : Int) 1) = (a : Int) + ((i + 1 : Nat) : Int) := by rw [addI_d, wr64 (by omega)]; omega
      have g1 : n + pr < u * 128 := by omega
      have g0 : 0 ≤ n + pr := by omega
      simp only [eb, e1, e2, e3, e5, wrS (show i < 9223372036854775807 by omega)]
      refine Ev.t (ltI_t (by rw [lenI_c, lenS_d]; omega)) (Ev.g (inR_n hlt) ?_)
      by_cases h128 : 128 ≤ b
      · rw [if_pos h128]
        refine Ev.t (leI_t h128) ?_
        have := hih (n + pr) (by omega) (by omega) g0 g1
        rw [show a + (i + 1) = a + i + 1 by omega] at this
        exact this
      · rw [if_neg h128]
        refine Ev.f (leI_f h128) ?_
        by_cases hz : b = 0
        · refine Ev.t (eqI_t hz) ?_
          by_cases hi0 : 0 < i
          · rw [if_pos (Or.inl ⟨hz, hi0⟩)]
            exact Ev.t (ltI_t (by omega)) (Ev.now _)
          · refine Ev.f (ltI_f (by omega)) ?_
            by_cases hm : n + pr > 1000000000
            · rw [if_pos (Or.inr hm)]; exact Ev.t (ltI_t hm) (Ev.now _)
            · exact Ev.f (ltI_f hm) (Ev.some_ (by rw [if_neg (by rintro (h | h); exact hi0 h.2; exact hm h)]; rfl))
        · refine Ev.f (eqI_f hz) ?_
          by_cases hm : n + pr > 1000000000
          · rw [if_pos (Or.inr hm)]; exact Ev.t (ltI_t hm) (Ev.now _)
          · exact Ev.f (ltI_f hm) (Ev.some_ (by rw [if_neg (by rintro (h | h); exact hz h.1; exact hm h)]; rfl))
    · have : (bts t).drop (a + i) = [] := List.drop_eq_nil_of_le (by omega)
      rw [this, goV_nil]
      exact Ev.f (ltI_f (by rw [lenI_c, lenS_d]; omega)) (Ev.now _)
theorem impl_ReadVar_ev (t : ByteArray) (hb : t.size ≤ 281474976710655) (a : Int) : Does cp n_impl_ReadVar [.str t, .int .i64 a] [.int .i64 (readVar t a).1, .int .i64 (readVar t a).2.1, .bool (readVar t a).2.2] := by
  refine Ev.fn (fun k => F_impl_ReadVar k _ _) ?_
  unfold readVar
  by_cases h0 : a < 0
  · rw [if_neg (by omega)]
    exact Ev.t (ltI_t h0) (Ev.now _)
  · refine Ev.f (ltI_f h0) ?_
    by_cases h1 : a > (t.size : Int)
    · rw [if_neg (by omega)]
      exact Ev.t (ltI_t (by rw [lenI_c, lenS_d]; exact h1)) (Ev.now _)
    · rw [if_pos (by omega)]
      refine Ev.f (ltI_f (by rw [lenI_c, lenS_d]; exact h1)) ?_
      obtain ⟨n, rfl⟩ := Int.eq_ofNat_of_zero_le (show 0 ≤ a by omega)
      exact (impl_ReadVar_l t hb n (by omega) 5 0 0 (by omega) (by omega) (by omega) (by decide)).l0
theorem impl_ReadShort_ev (t : ByteArray) (hb : t.size ≤ 281474976710655) (a : Int) : Does cp n_impl_ReadShort [.str t, .int .i64 a] [.str (readShort t a).1, .int .i64 (readShort t a).2.1, .bool (readShort t a).2.2] := by
  refine Ev.fn (fun k => F_impl_ReadShort k _ _) (Ev.c (impl_ReadVar_ev t hb a) ?_)
  unfold readShort
  cases hc : (readVar t a).2.2 with
  | false =>
    rw [if_neg (by simp)]
    exact Ev.t rfl (Ev.now _)
  | true =>
    have hv : readVar t a = ((readVar t a).1, (readVar t a).2.1, true) := by rw [← hc]
    obtain ⟨g1, g2, g3, g4, g5, g6, g7⟩ := readVar_spec hv
    simp only [hdV_c, tlV_c, parts1_a, asInt_i, asBool_b, asStr_s, asLen_f, asCells_f]
    generalize (readVar t a).1 = n at *
    generalize (readVar t a).2.1 = m at *
    clear g7
    have e1 : wr .i64 (subI (lenI (lenS t)) m) = (t.size : Int) - m := by rw [subI_d, lenI_c, lenS_d, wr64 (by omega)]
    have e2 : wr .i64 (addI m n) = m + n := by rw [addI_d, wr64 (by omega)]
    rw [e1, e2]
    refine Ev.f rfl ?_
    by_cases h1 : n > 20000
    · rw [if_neg (by rintro ⟨_, h, _⟩; omega)]
      exact Ev.t (ltI_t h1) (Ev.now _)
    refine Ev.f (ltI_f h1) ?_
    by_cases h2 : n > (t.size : Int) - m
    · rw [if_neg (by rintro ⟨_, _, h⟩; omega)]
      exact Ev.t (ltI_t h2) (Ev.now _)
    refine Ev.f (ltI_f h2) (Ev.g (inS_t (by omega) (by omega) (by rw [lenS_d]; omega)) (Ev.some_ ?_))
    rw [if_pos ⟨trivial, by omega, by omega⟩]
    rfl
theorem impl_Unsealed_ev (x : ByteArray) (hb : x.size ≤ 281474976710655) : Does cp n_impl_Unsealed [.str x] [.str (unsealed x).1, .bool (unsealed x).2] := by
  refine Ev.fn (fun k => F_impl_Unsealed k _) ?_
  have e1 : wr .i64 (subI (lenI (lenS x)) 4) = (x.size : Int) - 4 := by rw [subI_d, lenI_c, lenS_d, wr64 (by omega)]
  simp only [e1]
  unfold unsealed
  by_cases h1 : (x.size : Int) - 4 < 0
  · rw [if_neg (by rintro ⟨h, _⟩; omega)]
    exact Ev.t (ltI_t h1) (Ev.now _)
  refine Ev.f (ltI_f h1) ?_
  by_cases h2 : (x.size : Int) - 4 > 20000
  · rw [if_neg (by rintro ⟨_, h, _⟩; omega)]
    exact Ev.t (ltI_t h2) (Ev.now _)
  have en : natI ((x.size : Int) - 4) = x.size - 4 := by show ((x.size : Int) - 4).toNat = _; omega
  have en2 : natI (lenI (lenS x)) = x.size := rfl
  have hi1 : inS 0 ((x.size : Int) - 4) (lenS x) = true := inS_t (by omega) (by omega) (by rw [lenS_d]; omega)
  have hi2 : inS ((x.size : Int) - 4) (lenI (lenS x)) (lenS x) = true := inS_t (by omega) (by rw [lenI_c, lenS_d]; omega) (by rw [lenI_c]; omega)
  simp only [en, en2, subS]
  refine Ev.f (ltI_f h2) (Ev.g hi1 (Ev.c (impl_sumText_ev (x.extract 0 (x.size - 4)) (by rw [extract_size (by omega)]; omega)) (Ev.g hi2 ?_)))
  simp only [hdV_c, tlV_c, parts1_a, asInt_i, asBool_b, asStr_s, asLen_f, asCells_f]
  by_cases h3 : four (sumOf (x.extract 0 (x.size - 4))) = x.extract (x.size - 4) x.size
  · rw [if_pos ⟨by omega, by omega, h3⟩]
    exact Ev.f (by rw [eqS_t h3]; rfl) (Ev.g hi1 (Ev.now _))
  · rw [if_neg (by rintro ⟨_, _, h⟩; exact h3 h)]
    exact Ev.t (by rw [eqS_f h3]; rfl) (Ev.now _)
theorem impl_recordAt_ev (j : ByteArray) (hb : j.size ≤ 281474976710650) (a : Int) : Does cp n_impl_recordAt [.str j, .int .i64 a] [.str (recAt j a).1, .int .i64 (recAt j a).2.1, .bool (recAt j a).2.2] := by
  refine Ev.fn (fun k => F_impl_recordAt k _ _) (Ev.c (impl_ReadShort_ev j (by omega) a) ?_)
  unfold recAt
  simp only [hdV_c, tlV_c, parts1_a, asInt_i, asBool_b, asStr_s, asLen_f, asCells_f]
  cases hc : (readShort j a).2.2 with
  | false =>
    rw [if_neg (by simp)]
    exact Ev.t rfl (Ev.now _)
  | true =>
    have hv : readShort j a = ((readShort j a).1, (readShort j a).2.1, true) := by rw [← hc]
    obtain ⟨g1, g2, g3, g4, g5, g6⟩ := readShort_spec hv
    clear g5
    generalize (readShort j a).1 = s at *
    generalize (readShort j a).2.1 = n at *
    refine Ev.f rfl ?_
    by_cases h0 : s.size = 0
    · rw [if_neg (by rintro ⟨_, h, _⟩; omega)]
      exact Ev.t (eqS_t (size0.2 h0)) (Ev.now _)
    refine Ev.f (eqS_f (fun h => h0 (size0.1 h))) ?_
    by_cases h7 : (s.size : Int) > 700
    · rw [if_neg (by rintro ⟨_, _, h, _⟩; omega)]
      exact Ev.t (ltI_t h7) (Ev.now _)
    refine Ev.f (ltI_f h7) ?_
    have e1 : wr .i64 (subI (lenI (lenS j)) n) = (j.size : Int) - n := by rw [subI_d, lenI_c, lenS_d, wr64 (by omega)]
    have e2 : wr .i64 (addI n 4) = n + 4 := by rw [addI_d, wr64 (by omega)]
    rw [e1, e2]
    by_cases h4 : (j.size : Int) - n < 4
    · rw [if_neg (by rintro ⟨_, _, _, h, _⟩; omega)]
      exact Ev.t (ltI_t h4) (Ev.now _)
    have hsz : (j.extract a.toNat (n + 4).toNat).size = (n + 4).toNat - a.toNat := extract_size (by omega)
    refine Ev.f (ltI_f h4) (Ev.g (inS_t (by omega) (by omega) (by rw [lenS_d]; omega)) (Ev.c (impl_Unsealed_ev (j.extract a.toNat (n + 4).toNat) (by omega)) ?_))
    have hu : unsealed (j.extract a.toNat (n + 4).toNat) = if 4 ≤ (n + 4).toNat - a.toNat ∧ (n + 4).toNat - a.toNat ≤ 20004 ∧ four (sumOf (j.extract a.toNat n.toNat)) = j.extract n.toNat (n + 4).toNat then (j.extract a.toNat n.toNat, true) else ((⟨#[]⟩ : ByteArray), false) := by
      unfold unsealed
      rw [hsz, extract_extract (by omega), extract_extract (by omega), show a.toNat + ((n + 4).toNat - a.toNat - 4) = n.toNat by omega, show a.toNat + ((n + 4).toNat - a.toNat) = (n + 4).toNat by omega, Nat.add_zero]
    simp only [hdV_c, tlV_c, parts1_a, asInt_i, asBool_b, asStr_s, asLen_f, asCells_f]
    by_cases h5 : four (sumOf (j.extract a.toNat n.toNat)) = j.extract n.toNat (n + 4).toNat
    · rw [if_pos ⟨by omega, by omega, h5⟩] at hu
      rw [hu, if_pos ⟨trivial, by omega, by omega, by omega, h5.symm⟩]
      exact Ev.f rfl (Ev.now _)
    · rw [if_neg (by rintro ⟨_, _, h⟩; exact h5 h)] at hu
      rw [hu, if_neg (by rintro ⟨_, _, _, _, h⟩; exact h5 h.symm)]
      exact Ev.t rfl (Ev.now _)
theorem catS1 (xs : List ByteArray) (s : ByteArray) : catC (cutC (xs.flatMap eS) 0 (mulN xs.length 1)) (cutC [.str s] 0 1) = (xs ++ [s]).flatMap eS := by rw [cut_all eS_len, List.flatMap_append]; rfl
theorem addN1S (xs : List ByteArray) (s : ByteArray) : addN xs.length 1 = (xs ++ [s]).length := by rw [List.length_append]; rfl
theorem esi {xs : List ByteArray} {i : Nat} (hi : i < xs.length) : cellAt (xs.flatMap eS) (mulN (natI (i : Int)) 1) = .str xs[i] := cell_enc0 eS_len hi (by decide)
theorem impl_ReadJournal_l (j : ByteArray) (hb : j.size ≤ 1000000) (f : Nat) : ∀ (a : Int) (acc : List ByteArray), 0 ≤ a → a ≤ j.size → (j.size : Int) - a < f → acc.length ≤ a.toNat →
    Ev (fun k m _ _ => L_impl_ReadJournal_0 k m a acc.length j (acc.flatMap eS)) [.fs (acc ++ (readJ f j a).1).length ((acc ++ (readJ f j a).1).flatMap eS), .int .i64 (readJ f j a).2] := by
  induction f with
  | zero => intro a acc h0 h1 h2; omega
  | succ f ih =>
    intro a acc h0 h1 h2 h3
    refine Ev.step (fun k m _ _ => L_impl_ReadJournal_0_s k m _ _ _ _) (Ev.c (impl_recordAt_ev j (by omega) a) ?_)
    rw [readJ]
    simp only [hdV_c, tlV_c, parts1_a, asInt_i, asBool_b, asStr_s, asLen_f, asCells_f]
    by_cases hc : (recAt j a).2.2 = true
    · have hv : recAt j a = ((recAt j a).1, (recAt j a).2.1, true) := by rw [← hc]
      obtain ⟨g1, g2, g3, _⟩ := recAt_spec hv
      refine Ev.f (by rw [hc]; rfl) (Ev.g (fitN_small (by rw [addN_d]; omega) (by decide)) ?_)
      have := ih (recAt j a).2.1 (acc ++ [(recAt j a).1]) (by omega) g3 (by omega) (by rw [List.length_append, List.length_singleton]; omega)
      rw [if_pos hc, catS1, addN1S acc (recAt j a).1]
      refine this.to ?_
      rw [List.append_assoc]
      rfl
    · rw [if_neg hc]
      rw [Bool.not_eq_true] at hc
      refine Ev.t (by rw [hc]; rfl) (Ev.some_ ?_)
      rw [List.append_nil, cut_all eS_len]
theorem impl_ReadJournal_ev (j : ByteArray) (hb : j.size ≤ 1000000) : Does cp n_impl_ReadJournal [.str j] [.fs (readJournal j).1.length ((readJournal j).1.flatMap eS), .int .i64 (readJournal j).2] :=
  Ev.fn (fun k => F_impl_ReadJournal k _) (impl_ReadJournal_l j hb (j.size + 1) 0 [] (by omega) (by omega) (by omega) (by simp)).l0

theorem spec_SumMore_l1 (t : ByteArray) (i : Nat) (hi : i ≤ 281474976710655) (r : List AV) (n : Nat) : ∀ (j : Nat) (x : Int), j + n = 8 → 0 ≤ x ∧ x < 4294967296 →
    Ev (fun k m _ _ => L_spec_SumMore_0 k m t ((i + 1 : Nat) : Int) (halves n x)) r → Ev (fun k m p _ => L_spec_SumMore_1 k m p t (i : Int) (j : Int) x) r := by
  induction n with
  | zero =>
    intro j x hj hx he
    have he' : Ev (fun k m _ _ => L_spec_SumMore_0 k m t ((i + 1 : Nat) : Int) x) r := he
    refine Ev.step (fun k m p _ => L_spec_SumMore_1_s k m p _ _ _ _) (Ev.f (ltI_f (by omega)) ?_)
    rw [wrS (show i < 9223372036854775807 by omega)]
    exact he'.o1
  | succ n ih =>
    intro j x hj hx he
    have eq : wr .u32 (quoI x 2) = x / 2 := by
      rw [quoI_d, tdiv_pos hx.1]
      exact wraps_u32' _ (by omega) (by omega)
    refine Ev.step (fun k m p _ => L_spec_SumMore_1_s k m p _ _ _ _) (Ev.t (ltI_t (by omega)) ?_)
    rw [eq, remI_d, tmod_pos hx.1, wrS (show j < 9223372036854775807 by omega)]
    rw [halves_succ, half] at he
    by_cases h : x % 2 = 1
    · rw [if_pos h] at he
      exact Ev.t (eqI_t h) (ih (j + 1) _ (by omega) (by rw [bits_eq]; exact xor32_range _ _) (by rw [bits_eq]; exact he))
    · rw [if_neg h] at he
      exact Ev.f (eqI_f h) (ih (j + 1) _ (by omega) (by omega) he)
theorem spec_SumMore_l (t : ByteArray) (hb : t.size ≤ 281474976710655) (n : Nat) : ∀ (i : Nat) (x : Int), i + n = t.size → 0 ≤ x ∧ x < 4294967296 →
    Ev (fun k m _ _ => L_spec_SumMore_0 k m t (i : Int) x) [.int .u32 (sumMore x ((bts t).drop i))] := by
  have hl := bts_length t
  induction n with
  | zero =>
    intro i x hi hx
    refine Ev.step (fun k m _ _ => L_spec_SumMore_0_s k m _ _ _) (Ev.f (ltI_f (by rw [lenI_c, lenS_d]; omega)) (Ev.some_ ?_))
    rw [List.drop_eq_nil_of_le (by omega), sumMore_nil]
  | succ n ih =>
    intro i x hi hx
    have hi' : i < t.size := by omega
    have hr := bts_range (List.getElem_mem (show i < (bts t).length by omega))
    refine Ev.step (fun k m _ _ => L_spec_SumMore_0_s k m _ _ _) (Ev.t (ltI_t (by rw [lenI_c, lenS_d]; omega)) (Ev.g (inR_n hi') ?_))
    have ew : wr .u32 ((bts t)[i]'(by omega)) = (bts t)[i]'(by omega) := wraps_u32' _ hr.1 (by omega)
    rw [getS_n' hi', ew, drop_cons (bts t) i (by omega), sumMore_cons, sumByte]
    refine (spec_SumMore_l1 t i (by omega) _ 8 0 _ (by omega) (by rw [bits_eq]; exact xor32_range _ _) ?_).l1
    rw [bits_eq]
    exact ih (i + 1) _ (by omega) (halves_range 8 (xor32_range _ _))
theorem spec_SumOf_ev (t : ByteArray) (hb : t.size ≤ 281474976710655) : Does cp n_spec_SumOf [.str t] [.int .u32 (sumOf t)] :=
  Ev.fn (fun k => F_spec_SumOf k _) (Ev.c (Ev.fn (fun k => F_spec_SumMore k _ _) (spec_SumMore_l t hb t.size 0 4294967295 (by omega) (by decide)).l0) (Ev.now _))
theorem spec_l02Four_ev (x : Int) (h : 0 ≤ x ∧ x < 4294967296) : Does cp n_spec_l02Four [.int .u32 x] [.str (four x)] :=
  Ev.fn (fun k => F_spec_l02Four k _) (Ev.g rfl (Ev.some_ (by rw [four_eq h])))
theorem spec_Sealed_ev (t : ByteArray) (hb : t.size ≤ 281474976710655) : Does cp n_spec_Sealed [.str t] [.str (sealed t).1, .bool (sealed t).2] := by
  refine Ev.fn (fun k => F_spec_Sealed k _) ?_
  unfold sealed
  by_cases h : t.size > 20000
  · rw [if_pos h]; exact Ev.t (ltI_t (by rw [lenI_c, lenS_d]; omega)) (Ev.now _)
  · rw [if_neg h]
    exact Ev.f (ltI_f (by rw [lenI_c, lenS_d]; omega)) (Ev.c (spec_SumOf_ev t hb) (Ev.c (spec_l02Four_ev (sumOf t) (sumOf_range t)) (Ev.g (fitS_small (by simp only [hdV_c, tlV_c, parts1_a, asInt_i, asBool_b, asStr_s, asLen_f, asCells_f]; rw [four_size]; omega)) (Ev.now _))))
theorem spec_l01Var_l (j : Nat) : ∀ (n : Nat) (ys : List Int), n < 128 ^ (j + 1) → n ≤ 9223372036854775807 → ys.length + j ≤ 1000 →
    Ev (fun k m _ _ => L_spec_l01Var_0 k m (n : Int) ys.length (ys.flatMap eB)) [.str (EV.strOfNums (ys ++ varNums n))] := by
  have fin : ∀ (n : Nat) (ys : List Int), n ≤ 127 → ys.length ≤ 1000 → Ev (fun k m _ _ => L_spec_l01Var_0 k m (n : Int) ys.length (ys.flatMap eB)) [.str (EV.strOfNums (ys ++ varNums n))] := by
    intro n ys h hs
    have ew : wr .u8 (n : Int) = (n : Int) := by unfold wr; rw [IntKind.wrap_u8]; omega
    refine Ev.step (fun k m _ _ => L_spec_l01Var_0_s k m _ _ _) (Ev.f (ltI_f (by omega)) (Ev.g (fitN_small (by rw [addN_d]; omega) (by decide)) ?_))
    rw [ew, catB, addN1 ys (n : Int), cut_all eB_len, strOf_e, varNums_small h]
    exact Ev.g (isBytes_e _) (Ev.now _)
  induction j with
  | zero => intro n ys h hn hs; exact fin n ys (by omega) (by omega)
  | succ j ih =>
    intro n ys h hn hs
    by_cases h0 : n ≤ 127
    · exact fin n ys h0 (by omega)
    · have e1 : wr .u8 (wr .i64 (addI (remI (n : Int) 128) 128)) = ((n % 128 + 128 : Nat) : Int) := by
        rw [remI_d, tmod_pos (by omega), addI_d, wr64 (by omega)]
        unfold wr
        rw [IntKind.wrap_u8]
        omega
      have e2 : wr .i64 (quoI (n : Int) 128) = ((n / 128 : Nat) : Int) := by rw [quoI_d, tdiv_pos (by omega), wr64 (by omega)]; omega
      refine Ev.step (fun k m _ _ => L_spec_l01Var_0_s k m _ _ _) (Ev.t (ltI_t (by omega)) (Ev.g (fitN_small (by rw [addN_d]; omega) (by decide)) ?_))
      rw [e1, e2, catB, addN1 ys ((n % 128 + 128 : Nat) : Int)]
      refine (ih (n / 128) _ (by rw [Nat.pow_succ] at h; omega) (by omega) (by rw [List.length_append]; show ys.length + 1 + j ≤ 1000; omega)).to ?_
      rw [varNums_big (show 127 < n by omega), List.append_assoc]
      rfl
theorem spec_l01Var_ev (n : Int) (h0 : 0 ≤ n) (h : n ≤ 9223372036854775807) : Does cp n_spec_l01Var [.int .i64 n] [.str (varText n)] := by
  obtain ⟨m, rfl⟩ := Int.eq_ofNat_of_zero_le h0
  exact Ev.fn (fun k => F_spec_l01Var k _) (spec_l01Var_l 8 m [] (by omega) (by omega) (by show 0 + 8 ≤ 1000; omega)).l0
theorem spec_l01In_ev (a b c : Int) : Does cp n_spec_l01In [.int .i64 a, .int .i64 b, .int .i64 c] [.bool (decide (b ≤ a ∧ a ≤ c))] := by
  refine Ev.fn (fun k => F_spec_l01In k _ _ _) (Ev.b (fun h => Ev.some_ ?_) (fun h => Ev.some_ ?_))
  · have := leI_to h
    rw [leI_d]
    congr 2
    exact decide_eq_decide.2 ⟨fun q => ⟨this, q⟩, fun q => q.2⟩
  · have := leI_fo h
    rw [decide_eq_false (by omega)]
theorem spec_RecordText_ev (t : ByteArray) (hb : t.size ≤ 281474976710655) : Does cp n_spec_RecordText [.str t] [.str (recordText t).1, .bool (recordText t).2] := by
  refine Ev.fn (fun k => F_spec_RecordText k _) (Ev.c (spec_l01In_ev (t.size : Int) 1 700) ?_)
  simp only [hdV_c, tlV_c, parts1_a, asInt_i, asBool_b, asStr_s, asLen_f, asCells_f, lenI_c, lenS_d]
  unfold recordText
  by_cases h : 1 ≤ t.size ∧ t.size ≤ 700
  · rw [if_pos h]
    have hv := varText_size (n := (t.size : Int)) (by omega)
    exact Ev.f (by rw [decide_eq_true (by omega)]; rfl) (Ev.c (spec_l01Var_ev (t.size : Int) (by omega) (by omega)) (Ev.g (fitS_small (by simp only [hdV_c, tlV_c, parts1_a, asInt_i, asBool_b, asStr_s, asLen_f, asCells_f]; omega)) (Ev.c (spec_Sealed_ev (varText (t.size : Int) ++ t) (by rw [size_append]; omega)) (Ev.now _))))
  · rw [if_neg h]
    exact Ev.t (by rw [decide_eq_false (by omega)]; rfl) (Ev.now _)
theorem spec_AddRecord_ev (j t : ByteArray) (hj : j.size ≤ 1048576) (ht : t.size ≤ 281474976710655) : Does cp n_spec_AddRecord [.str j, .str t] [.str (addRecord j t).1, .bool (addRecord j t).2] := by
  refine Ev.fn (fun k => F_spec_AddRecord k _ _) (Ev.c (spec_RecordText_ev t ht) ?_)
  have hs := recordText_size t
  have e : wr .i64 (subI 20000 (lenI (lenS j))) = 20000 - (j.size : Int) := by rw [subI_d, lenI_c, lenS_d, wr64 (by omega)]
  unfold addRecord
  simp only [hdV_c, tlV_c, parts1_a, asInt_i, asBool_b, asStr_s, asLen_f, asCells_f, e]
  by_cases h : (recordText t).2 = true
  · refine Ev.f (by rw [h]; rfl) ?_
    by_cases h2 : (recordText t).1.size + j.size ≤ 20000
    · rw [if_pos ⟨h, h2⟩]
      exact Ev.f (ltI_f (by rw [lenI_c, lenS_d]; omega)) (Ev.g (fitS_small (by omega)) (Ev.now _))
    · rw [if_neg (fun q => h2 q.2)]
      exact Ev.t (ltI_t (by rw [lenI_c, lenS_d]; omega)) (Ev.now _)
  · rw [if_neg (fun q => h q.1)]
    rw [Bool.not_eq_true] at h
    exact Ev.t (by rw [h]; rfl) (Ev.now _)
theorem spec_ReadVar_l (t : ByteArray) (hb : t.size ≤ 281474976710655) (a : Nat) (ha : a ≤ t.size) (m : Nat) : ∀ (i : Nat) (c : List Int), i + m = 5 → a + i ≤ t.size → c.length = i → c = ((bts t).drop a).take i →
    (∀ x ∈ c, 128 ≤ x ∧ x < 256) → valV c < ((128 ^ i : Nat) : Int) →
    Ev (fun k m _ _ => L_spec_ReadVar_0 k m ((a + i : Nat) : Int) (a : Int) t ((128 ^ i : Nat) : Int) (valV c)) (resVL a (goV ((bts t).drop (a + i)) i (valV c) ((128 ^ i : Nat) : Int))) := by
  have hl := bts_length t
  have e05 : wr .i64 (addI (a : Int) 5) = ((a + 5 : Nat) : Int) := by rw [addI_d, wr64 (by omega)]; omega
  induction m with
  | zero =>
    intro i c hi hs hc1 hc2 hc3 h1
    rw [goV_five _ _ _ _ (by omega)]
    refine Ev.step (fun k m _ _ => L_spec_ReadVar_0_s k m _ _ _ _ _) (Ev.b (fun _ => Ev.f (ltI_f (by rw [e05]; omega)) (Ev.now _)) (fun _ => Ev.now _))
  | succ m ih =>
    intro i c hi hs hc1 hc2 hc3 h1
    have h0 := valV_nonneg c
    have hu4 : ((128 ^ i : Nat) : Int) ≤ 268435456 := Int.ofNat_le.2 (Nat.le_trans (Nat.pow_le_pow_right (by decide) (show i ≤ 4 by omega)) (by decide))
    have hu0 : 0 < ((128 ^ i : Nat) : Int) := Int.ofNat_lt.2 (Nat.pow_pos (by decide))
    have e4 : ((128 ^ i : Nat) : Int) * 128 = ((128 ^ (i + 1) : Nat) : Int) := by rw [Nat.pow_succ]; push_cast; rfl
    have ep : (128 : Int) ^ c.length = ((128 ^ i : Nat) : Int) := by rw [hc1]; push_cast; rfl
    have hvv : ∀ b, valV (c ++ [b]) = valV c + b % 128 * ((128 ^ i : Nat) : Int) := fun b => by rw [valV_append c b, ep]
    have hih := ih (i + 1)
    rw [← e4] at hih
    clear ih e4 ep
    generalize ((128 ^ i : Nat) : Int) = u at *
    refine Ev.step (fun k m _ _ => L_spec_ReadVar_0_s k m _ _ _ _ _) ?_
    by_cases hlt : a + i < t.size
    · have e6 : wr .i64 (addI ((a + i : Nat) : Int) 1) = ((a + (i + 1) : Nat) : Int) := by rw [addI_d, wr64 (by omega)]; omega
      have htake : ((bts t).drop a).take (i + 1) = c ++ [(bts t)[a + i]'(by omega)] := by
        rw [List.take_add_one, ← hc2]
        congr 1
        rw [List.getElem?_drop, List.getElem?_eq_getElem (by omega)]
        rfl
      rw [drop_cons (bts t) (a + i) (by omega), goV_cons, if_neg (by omega)]
      have hg := bts_range (List.getElem_mem (show a + i < (bts t).length by omega))
      have hbt : getS t ((a + i : Nat) : Int) = (bts t)[a + i]'(by omega) := getS_n' hlt
      rw [hbt]
      generalize (bts t)[a + i]'(by omega) = b at hg htake ⊢
      have hval := hvv b
      have eb : wr .i64 b = b := wr64 (by omega)
      have hp0 : 0 ≤ b % 128 * u := Int.mul_nonneg (by omega) (by omega)
      have hp1 : b % 128 * u ≤ 127 * u := Int.mul_le_mul_of_nonneg_right (by omega) (by omega)
      obtain ⟨pr, hpr⟩ : ∃ pr, b % 128 * u = pr := ⟨_, rfl⟩
      rw [hpr] at hp0 hp1 hval ⊢
      have e1 : wr .i64 (mulI (remI b 128) u) = pr := by rw [mulI_d, remI_d, tmod_pos hg.1, hpr, wr64 (by omega)]
      have e2 : wr .i64 (addI (valV c) pr) = valV c + pr := by rw [addI_d, wr64 (by omega)]
      have e3 : wr .i64 (mulI u 128) = u * 128 := by rw [mulI_d, wr64 (by omega)]
      have g1 : valV c + pr < u * 128 := by omega
      have g0 : 0 ≤ valV c + pr := by omega
      simp only [eb, e1, e2, e3, e6, e05]
      refine Ev.t (ltI_t (by rw [lenI_c, lenS_d]; omega)) (Ev.t (ltI_t (by omega)) (Ev.g (inR_n hlt) (Ev.g (inR_n hlt) ?_)))
      by_cases h128 : 128 ≤ b
      · rw [if_pos h128]
        refine Ev.f (ltI_f (by omega)) ?_
        have := hih (c ++ [b]) (by omega) (by omega) (by simp [hc1]) htake.symm (fun x hx' => by
          rcases List.mem_append.1 hx' with hx' | hx'
          · exact hc3 x hx'
          · rw [List.mem_singleton.1 hx']; omega) (by rw [hval]; exact g1)
        rw [hval, show a + (i + 1) = a + i + 1 by omega] at this
        exact this
      · rw [if_neg h128]
        refine Ev.t (ltI_t (by omega)) ?_
        by_cases hm : valV c + pr > 1000000000
        · rw [if_pos (Or.inr hm)]
          exact Ev.t (ltI_t hm) (Ev.now _)
        · refine Ev.f (ltI_f hm) (Ev.c (spec_l01Var_ev _ g0 (by omega)) (Ev.g (inS_t (by omega) (by omega) (by rw [lenS_d]; omega)) ?_))
          have hext : bts (t.extract (a : Int).toNat ((a + (i + 1) : Nat) : Int).toNat) = c ++ [b] := by
            rw [bts_extract, Int.toNat_natCast, Int.toNat_natCast, show a + (i + 1) - a = i + 1 by omega, htake]
          have hiff : varText (valV c + pr) = t.extract (a : Int).toNat ((a + (i + 1) : Nat) : Int).toNat ↔ (c = [] ∨ b ≠ 0) := by
            rw [← bts_eq, hext, varText, bts_strOf (varNums_range _), ← hval]
            exact varNums_val c b hc3 (by omega)
          simp only [hdV_c, tlV_c, parts1_a, asInt_i, asBool_b, asStr_s, asLen_f, asCells_f, subS, natI]
          by_cases hz : c = [] ∨ b ≠ 0
          · refine Ev.f (by rw [eqS_t (hiff.2 hz)]; rfl) (Ev.some_ ?_)
            rw [if_neg (by
              rintro (⟨h2, h3⟩ | h2)
              · rcases hz with rfl | hz
                · simp at hc1; omega
                · exact hz h2
              · exact hm h2)]
            show _ = [AV.int .i64 (valV c + pr), AV.int .i64 ((a : Int) + ((i + 1 : Nat) : Int)), AV.bool true]
            rw [show ((a + (i + 1) : Nat) : Int) = (a : Int) + ((i + 1 : Nat) : Int) by omega]
          · refine Ev.t (by rw [eqS_f (fun h => hz (hiff.1 h))]; rfl) (Ev.some_ ?_)
            rw [if_pos (Or.inl ⟨Classical.byContradiction fun h => hz (Or.inr h), by
              rcases Nat.eq_zero_or_pos i with h | h
              · exact absurd (Or.inl (List.eq_nil_of_length_eq_zero (by omega))) hz
              · exact h⟩)]
            rfl
    · have : (bts t).drop (a + i) = [] := List.drop_eq_nil_of_le (by omega)
      rw [this, goV_nil]
      exact Ev.f (ltI_f (by rw [lenI_c, lenS_d]; omega)) (Ev.now _)
theorem spec_ReadVar_ev (t : ByteArray) (hb : t.size ≤ 281474976710655) (a : Int) : Does cp n_spec_ReadVar [.str t, .int .i64 a] [.int .i64 (readVar t a).1, .int .i64 (readVar t a).2.1, .bool (readVar t a).2.2] := by
  refine Ev.fn (fun k => F_spec_ReadVar k _ _) (Ev.c (spec_l01In_ev a 0 (t.size : Int)) ?_)
  simp only [hdV_c, tlV_c, parts1_a, asInt_i, asBool_b, asStr_s, asLen_f, asCells_f, lenI_c, lenS_d]
  unfold readVar
  by_cases h : 0 ≤ a ∧ a ≤ (t.size : Int)
  · rw [if_pos h]
    refine Ev.f (by rw [decide_eq_true h]; rfl) ?_
    obtain ⟨n, rfl⟩ := Int.eq_ofNat_of_zero_le h.1
    exact (spec_ReadVar_l t hb n (by omega) 5 0 [] (by omega) (by omega) rfl (by simp) (by simp) (by decide)).l0
  · rw [if_neg h]
    exact Ev.t (by rw [decide_eq_false h]; rfl) (Ev.now _)
theorem spec_ReadShort_ev (t : ByteArray) (hb : t.size ≤ 281474976710655) (a : Int) : Does cp n_spec_ReadShort [.str t, .int .i64 a] [.str (readShort t a).1, .int .i64 (readShort t a).2.1, .bool (readShort t a).2.2] := by
  refine Ev.fn (fun k => F_spec_ReadShort k _ _) (Ev.c (spec_ReadVar_ev t hb a) ?_)
  unfold readShort
  cases hc : (readVar t a).2.2 with
  | false =>
    rw [if_neg (by simp)]
    exact Ev.t rfl (Ev.now _)
  | true =>
    have hv : readVar t a = ((readVar t a).1, (readVar t a).2.1, true) := by rw [← hc]
    obtain ⟨g1, g2, g3, g4, g5, g6, g7⟩ := readVar_spec hv
    simp only [hdV_c, tlV_c, parts1_a, asInt_i, asBool_b, asStr_s, asLen_f, asCells_f]
    generalize (readVar t a).1 = n at *
    generalize (readVar t a).2.1 = m at *
    clear g7
    have e1 : wr .i64 (subI (lenI (lenS t)) m) = (t.size : Int) - m := by rw [subI_d, lenI_c, lenS_d, wr64 (by omega)]
    have e2 : wr .i64 (addI m n) = m + n := by rw [addI_d, wr64 (by omega)]
    rw [e1, e2]
    refine Ev.f rfl ?_
    by_cases h1 : n > 20000
    · rw [if_neg (by rintro ⟨_, h, _⟩; omega)]
      exact Ev.t (ltI_t h1) (Ev.now _)
    refine Ev.f (ltI_f h1) ?_
    by_cases h2 : n > (t.size : Int) - m
    · rw [if_neg (by rintro ⟨_, _, h⟩; omega)]
      exact Ev.t (ltI_t h2) (Ev.now _)
    refine Ev.f (ltI_f h2) (Ev.g (inS_t (by omega) (by omega) (by rw [lenS_d]; omega)) (Ev.some_ ?_))
    rw [if_pos ⟨trivial, by omega, by omega⟩]
    rfl
theorem spec_l23Read_ev (j : ByteArray) (hb : j.size ≤ 281474976710650) (a : Int) : Does cp n_spec_l23Read [.str j, .int .i64 a] [.str (recAt j a).1, .int .i64 (recAt j a).2.1, .bool (recAt j a).2.2] := by
  refine Ev.fn (fun k => F_spec_l23Read k _ _) (Ev.c (spec_ReadShort_ev j (by omega) a) ?_)
  unfold recAt
  simp only [hdV_c, tlV_c, parts1_a, asInt_i, asBool_b, asStr_s, asLen_f, asCells_f]
  cases hc : (readShort j a).2.2 with
  | false =>
    rw [if_neg (by simp)]
    exact Ev.t rfl (Ev.now _)
  | true =>
    have hv : readShort j a = ((readShort j a).1, (readShort j a).2.1, true) := by rw [← hc]
    obtain ⟨g1, g2, g3, g4, g5, g6⟩ := readShort_spec hv
    generalize (readShort j a).1 = s at *
    generalize (readShort j a).2.1 = n at *
    have e1 : wr .i64 (subI (lenI (lenS j)) 4) = (j.size : Int) - 4 := by rw [subI_d, lenI_c, lenS_d, wr64 (by omega)]
    have e2 : wr .i64 (addI n 4) = n + 4 := by rw [addI_d, wr64 (by omega)]
    rw [e1, e2]
    refine Ev.f rfl ?_
    by_cases h4 : n > (j.size : Int) - 4
    · rw [if_neg (by rintro ⟨_, _, _, h, _⟩; omega)]
      exact Ev.t (ltI_t h4) (Ev.now _)
    refine Ev.f (ltI_f h4) (Ev.c (spec_RecordText_ev s (by omega)) ?_)
    simp only [hdV_c, tlV_c, parts1_a, asInt_i, asBool_b, asStr_s, asLen_f, asCells_f, subS, natI]
    by_cases h7 : 1 ≤ s.size ∧ s.size ≤ 700
    · have hvs := varText_size (n := (s.size : Int)) (by omega)
      have hsl : recordText s = ((varText (s.size : Int) ++ s) ++ four (sumOf (varText (s.size : Int) ++ s)), true) := by
        unfold recordText sealed
        rw [if_pos h7, if_neg (by rw [size_append]; omega)]
      rw [hsl]
      refine Ev.f rfl (Ev.g (inS_t (by omega) (by omega) (by rw [lenS_d]; omega)) ?_)
      have hsp : j.extract a.toNat (n + 4).toNat = (varText (s.size : Int) ++ s) ++ j.extract n.toNat (n + 4).toNat := by
        rw [extract_split (show a.toNat ≤ n.toNat by omega) (show n.toNat ≤ (n + 4).toNat by omega) (by omega), g5]
      by_cases h5 : j.extract n.toNat (n + 4).toNat = four (sumOf (j.extract a.toNat n.toNat))
      · rw [if_pos ⟨trivial, h7.1, h7.2, by omega, h5⟩]
        exact Ev.f (by rw [eqS_t (by rw [hsp, h5, g5])]; rfl) (Ev.now _)
      · rw [if_neg (by rintro ⟨_, _, _, _, h⟩; exact h5 h)]
        refine Ev.t ?_ (Ev.now _)
        rw [eqS_f]
        · rfl
        rw [hsp]
        intro h
        apply h5
        rw [g5]
        obtain ⟨p, hp⟩ : ∃ p, varText (s.size : Int) ++ s = p := ⟨_, rfl⟩
        rw [hp] at h ⊢
        rw [← bts_eq, bts_append, bts_append] at h
        exact (bts_inj (List.append_cancel_left h)).symm
    · have hsl : (recordText s).2 = false := by unfold recordText; rw [if_neg h7]
      rw [hsl, if_neg (by rintro ⟨_, h1, h2, _⟩; exact h7 ⟨h1, h2⟩)]
      exact Ev.t rfl (Ev.now _)
theorem spec_ReadJournal_l (j : ByteArray) (hb : j.size ≤ 1000000) (f : Nat) : ∀ (a : Int) (acc : List ByteArray), 0 ≤ a → a ≤ j.size → (j.size : Int) - a < f → acc.length ≤ a.toNat →
    Ev (fun k m _ _ => L_spec_ReadJournal_0 k m a acc.length j (acc.flatMap eS)) [.fs (acc ++ (readJ f j a).1).length ((acc ++ (readJ f j a).1).flatMap eS), .int .i64 (readJ f j a).2] := by
  induction f with
  | zero => intro a acc h0 h1 h2; omega
  | succ f ih =>
    intro a acc h0 h1 h2 h3
    refine Ev.step (fun k m _ _ => L_spec_ReadJournal_0_s k m _ _ _ _) (Ev.c (spec_l23Read_ev j (by omega) a) ?_)
    rw [readJ]
    simp only [hdV_c, tlV_c, parts1_a, asInt_i, asBool_b, asStr_s, asLen_f, asCells_f]
    by_cases hc : (recAt j a).2.2 = true
    · have hv : recAt j a = ((recAt j a).1, (recAt j a).2.1, true) := by rw [← hc]
      obtain ⟨g1, g2, g3, _⟩ := recAt_spec hv
      refine Ev.f (by rw [hc]; rfl) (Ev.g (fitN_small (by rw [addN_d]; omega) (by decide)) ?_)
      have := ih (recAt j a).2.1 (acc ++ [(recAt j a).1]) (by omega) g3 (by omega) (by rw [List.length_append, List.length_singleton]; omega)
      rw [if_pos hc, catS1, addN1S acc (recAt j a).1]
      refine this.to ?_
      rw [List.append_assoc]
      rfl
    · rw [if_neg hc]
      rw [Bool.not_eq_true] at hc
      refine Ev.t (by rw [hc]; rfl) (Ev.some_ ?_)
      rw [List.append_nil, cut_all eS_len]
theorem spec_ReadJournal_ev (j : ByteArray) (hb : j.size ≤ 1000000) : Does cp n_spec_ReadJournal [.str j] [.fs (readJournal j).1.length ((readJournal j).1.flatMap eS), .int .i64 (readJournal j).2] :=
  Ev.fn (fun k => F_spec_ReadJournal k _) (spec_ReadJournal_l j hb (j.size + 1) 0 [] (by omega) (by omega) (by omega) (by simp)).l0
/-- A journal cut: none of it below 0, all of it from its end on. -/
def cutJ (j : ByteArray) (n : Int) : ByteArray := if n < 0 then (⟨#[]⟩ : ByteArray) else if j.size < n then j else j.extract 0 n.toNat
theorem cutJ_size (j : ByteArray) (n : Int) : (cutJ j n).size ≤ j.size := by
  unfold cutJ
  split
  · exact Nat.zero_le _
  · split
    · exact Nat.le_refl _
    · rw [extract_size (by omega)]; omega
theorem spec_CutJournal_ev (j : ByteArray) (n : Int) : Does cp n_spec_CutJournal [.str j, .int .i64 n] [.str (cutJ j n)] := by
  refine Ev.fn (fun k => F_spec_CutJournal k _ _) ?_
  unfold cutJ
  by_cases h : n < 0
  · rw [if_pos h]; exact Ev.t (ltI_t h) (Ev.now _)
  · rw [if_neg h]
    by_cases h2 : (j.size : Int) < n
    · rw [if_pos h2]; exact Ev.f (ltI_f h) (Ev.t (ltI_t h2) (Ev.now _))
    · rw [if_neg h2]
      exact Ev.f (ltI_f h) (Ev.f (ltI_f h2) (Ev.g (inS_t (by omega) (by omega) (by rw [lenS_d]; omega)) (Ev.now _)))
theorem impl_CutJournal_ev (j : ByteArray) (n : Int) : Does cp n_impl_CutJournal [.str j, .int .i64 n] [.str (cutJ j n)] := by
  refine Ev.fn (fun k => F_impl_CutJournal k _ _) ?_
  rw [lenI_c, lenS_d]
  have hm : maxI 0 (minI n (j.size : Int)) = if n < 0 then 0 else if (j.size : Int) < n then (j.size : Int) else n := by
    unfold maxI minI
    repeat' split
    all_goals omega
  have h0 : 0 ≤ maxI 0 (minI n (j.size : Int)) ∧ maxI 0 (minI n (j.size : Int)) ≤ j.size := by
    rw [hm]
    repeat' split
    all_goals omega
  refine Ev.g (inS_t (by omega) h0.1 h0.2) (Ev.some_ ?_)
  rw [hm]
  unfold cutJ subS natI
  congr 2
  split
  · apply bts_inj
    rw [bts_extract]
    rfl
  · split
    · apply bts_inj
      rw [bts_extract, Int.toNat_natCast, Nat.sub_zero, List.drop_zero, List.take_of_length_le (by rw [bts_length]; omega)]
    · rfl

theorem l01Once_ev (xs : List Int) (hl : xs.length ≤ 1048576) (i h : Int) (h0 : 0 ≤ i) (n : Int) : ∃ b j g, Does cp n_spec_l01Once [cR xs i h, .int .i64 n] [.bool b, cA xs j g] ∧ 0 ≤ j := by
  obtain ⟨x, j, g, e, hj, _⟩ := l01Below_ev xs hl i h h0 n
  exact ⟨eqI x 0, j, g, Ev.fn (fun k => F_spec_l01Once k _ _ _ _ _) (Ev.c e (Ev.now _)), hj⟩

theorem l01PickInt_ev (xs : List Int) (hl : xs.length ≤ 1048576) (i h : Int) (h0 : 0 ≤ i) (ns : List Int) (hn : 0 < ns.length) : ∃ x j g, Does cp n_spec_l01PickInt [cR xs i h, .fs ns.length (ns.flatMap eI)] [.int .i64 x, cA xs j g] ∧ 0 ≤ j ∧ x ∈ ns := by
  obtain ⟨x, j, g, e, hj, hx, hx1⟩ := l01Below_ev xs hl i h h0 (lenI ns.length)
  have h1 := hx1 (by rw [lenI_c]; omega)
  rw [lenI_c] at h1
  obtain ⟨x, rfl⟩ := Int.eq_ofNat_of_zero_le hx
  have hi : x < ns.length := by omega
  refine ⟨ns[x], j, g, Ev.fn (fun k => F_spec_l01PickInt k _ _ _ _ _ _) (Ev.c e (Ev.g (inR_n hi) ?_)), hj, List.getElem_mem hi⟩
  simp only [hdV_c, tlV_c, parts1_a, asInt_i, asBool_b, asStr_s, asLen_f, asCells_f, ei hi]
  exact Ev.g rfl (Ev.now _)

theorem l01Text_l (xs : List Int) (hl : xs.length ≤ 1048576) (n : Nat) (hn : n ≤ 5000) (d : Nat) : ∀ (ys : List Int) (i h : Int), ys.length + d = n → 0 ≤ i → (∀ y ∈ ys, 0 ≤ y ∧ y < 256) →
    ∃ (zs : List Int) (j g : Int), Ev (fun k m _ _ => L_spec_l01Text_0 k m (n : Int) (ys.length : Int) ys.length xs.length (xs.flatMap eB) i h (ys.flatMap eB)) [.str (EV.strOfNums zs), cA xs j g] ∧ 0 ≤ j ∧ zs.length = n ∧ (∀ y ∈ zs, 0 ≤ y ∧ y < 256) := by
  induction d with
  | zero =>
    intro ys i h hy h0 hr
    refine ⟨ys, i, h, Ev.step (fun k m _ _ => L_spec_l01Text_0_s k m _ _ _ _ _ _ _ _) (Ev.f (ltI_f (by omega)) ?_), h0, by omega, hr⟩
    rw [cut_all eB_len, strOf_e]
    exact Ev.g (isBytes_e ys) (Ev.now _)
  | succ d ih =>
    intro ys i h hy h0 hr
    obtain ⟨x, j, g, e, hj, hx0, hx1⟩ := l01Byte_ev xs hl i h h0
    obtain ⟨zs, j', g', e', hz⟩ := ih (ys ++ [x]) j g (by rw [List.length_append, List.length_singleton]; omega) hj (fun y hy => by
      rcases List.mem_append.1 hy with hy | hy
      · exact hr y hy
      · rw [List.mem_singleton] at hy; omega)
    refine ⟨zs, j', g', Ev.step (fun k m _ _ => L_spec_l01Text_0_s k m _ _ _ _ _ _ _ _) (Ev.t (ltI_t (by omega)) (Ev.c e (Ev.g (fitN_small (by rw [addN_d]; omega) (by decide)) ?_))), hz⟩
    have hw : wr .u8 x = x := by unfold wr; rw [IntKind.wrap_u8]; omega
    simp only [cA, hdV_c, tlV_c, parts1_a, asInt_i, asBool_b, asStr_s, asLen_f, asCells_f, hw, wrS (show ys.length < 9223372036854775807 by omega), catB, addN1 ys x]
    rw [show ((ys.length + 1 : Nat) : Int) = ((ys ++ [x]).length : Nat) by rw [List.length_append]; rfl]
    exact e'
theorem l01Text_ev (xs : List Int) (hl : xs.length ≤ 1048576) (i h : Int) (h0 : 0 ≤ i) (n : Int) (hn : 0 ≤ n ∧ n ≤ 5000) :
    ∃ (zs : List Int) (j g : Int), Does cp n_spec_l01Text [cR xs i h, .int .i64 n] [.str (EV.strOfNums zs), cA xs j g] ∧ 0 ≤ j ∧ (zs.length : Int) = n ∧ (∀ y ∈ zs, 0 ≤ y ∧ y < 256) := by
  obtain ⟨n, rfl⟩ := Int.eq_ofNat_of_zero_le hn.1
  obtain ⟨zs, j, g, e, hj, hz, hr⟩ := l01Text_l xs hl n (by omega) n [] i h (by simp) h0 (by simp)
  exact ⟨zs, j, g, Ev.fn (fun k => F_spec_l01Text k _ _ _ _ _) (Ev.f (ltI_f (by omega)) e.l0), hj, by omega, hr⟩

theorem l01Long_l (v : Int) (n : Nat) (hn : n ≤ 1048576) (d : Nat) : ∀ (i : Nat) (ys : List Int), i + d = n → ys.length = n →
    ∃ zs : List Int, Ev (fun k m _ _ => L_spec_l01Long_0 k m v n (n : Int) (i : Int) (ys.flatMap eB)) [.str (EV.strOfNums zs)] ∧ zs.length = n := by
  induction d with
  | zero =>
    intro i ys hi hy
    refine ⟨ys, Ev.step (fun k m _ _ => L_spec_l01Long_0_s k m _ _ _ _ _) (Ev.f (ltI_f (by omega)) ?_), hy⟩
    rw [← hy, cut_all eB_len, strOf_e]
    exact Ev.g (isBytes_e ys) (Ev.now _)
  | succ d ih =>
    intro i ys hi hy
    obtain ⟨zs, e, hz⟩ := ih (i + 1) (ys.set i v) (by omega) (by rw [List.length_set]; exact hy)
    refine ⟨zs, Ev.step (fun k m _ _ => L_spec_l01Long_0_s k m _ _ _ _ _) (Ev.t (ltI_t (by omega)) (Ev.g (inR_n (by omega)) (Ev.g ?_ ?_))), hz⟩
    · rw [encs_len eB_len]
      exact Nat.ble_eq_true_of_le (by rw [addN_d, natI_c, mulN_d]; omega)
    · have hset : setMany (ys.flatMap eB) (addN 0 (mulN (natI (i : Int)) 1)) [.int .u8 v] = (ys.set i v).flatMap eB := by
        rw [addN_d, Nat.zero_add, natI_c, mulN_d]
        exact set_encs eB_len ys i v (by omega)
      rw [hset, wrS (show i < 9223372036854775807 by omega)]
      exact e
theorem l01Long_ev (n v : Int) (h : 0 ≤ n ∧ n ≤ 1000000) : ∃ t : ByteArray, Does cp n_spec_l01Long [.int .i64 n, .int .u8 v] [.str t] ∧ (t.size : Int) = n := by
  obtain ⟨n, rfl⟩ := Int.eq_ofNat_of_zero_le h.1
  obtain ⟨zs, e, hz⟩ := l01Long_l v n (by omega) n 0 (List.replicate n 0) (by omega) (by rw [List.length_replicate])
  refine ⟨EV.strOfNums zs, Ev.fn (fun k => F_spec_l01Long k _ _) (Ev.g ?_ ?_), by rw [EV.strOfNums_size]; omega⟩
  · exact decide_eq_true ⟨by omega, by omega, by omega, by omega⟩
  · have er : repC (natI (n : Int)) [.int .u8 0] = (List.replicate n (0 : Int)).flatMap eB := rep_encs (e := eB) 0 rfl _
    rw [er]
    exact e.l0

theorem sub_size {s : ByteArray} {l r : Nat} : (subS s l r).size ≤ s.size := by
  unfold subS
  rw [ByteArray.size_extract]
  omega
theorem spoilt_ev (xs : List Int) (hl : xs.length ≤ 1048576) (i h : Int) (h0 : 0 ≤ i) (s : ByteArray) (hs : s.size ≤ 1000000) : ∃ (t : ByteArray) (j g : Int), Does cp n_spec_l02Spoilt [cR xs i h, .str s] [.str t, cA xs j g] ∧ 0 ≤ j ∧ t.size ≤ 2 * s.size + 1 := by
  obtain ⟨r, i, h, e, hi, _⟩ := l01Below_ev xs hl i h h0 12
  have hw : wr .i64 (addI (lenI (lenS s)) 1) = (s.size : Int) + 1 := by rw [addI_d, lenI_c, lenS_d, wr64 (by omega)]
  by_cases q0 : r = 0
  · obtain ⟨zs, j, g, e1, hj, hz, _⟩ := l01Text_ev xs hl i h hi 1 (by omega)
    refine ⟨catS s (EV.strOfNums zs), j, g, Ev.fn (fun k => F_spec_l02Spoilt k _ _ _ _ _) (Ev.c e (Ev.t (eqI_t q0) (Ev.c e1 (Ev.g (fitS_small ?_) (Ev.now _))))), hj, ?_⟩
    · simp only [hdV_c, tlV_c, parts1_a, asInt_i, asBool_b, asStr_s, asLen_f, asCells_f]; rw [EV.strOfNums_size]; omega
    · show (s ++ EV.strOfNums zs).size ≤ _; rw [size_append, EV.strOfNums_size]; omega
  by_cases q1 : r = 1
  · obtain ⟨x, j, g, e1, hj, hx0, hx1⟩ := l01Below_ev xs hl i h hi ((s.size : Int) + 1)
    have hx := hx1 (by omega)
    refine ⟨subS s 0 (natI x), j, g, Ev.fn (fun k => F_spec_l02Spoilt k _ _ _ _ _) (Ev.c e (Ev.f (eqI_f q0) (Ev.t (eqI_t q1) ?_))), hj, by have := sub_size (s := s) (l := 0) (r := natI x); omega⟩
    rw [hw]
    exact Ev.c e1 (Ev.g (inS_t (by omega) hx0 (by rw [lenS_d]; simp only [hdV_c, tlV_c, parts1_a, asInt_i, asBool_b, asStr_s, asLen_f, asCells_f]; omega)) (Ev.now _))
  have two : ∃ (t : ByteArray) (j g : Int), Ev (fun k _ _ _ => br (ltI 0 (lenI (lenS s))) (bnd (evF cp k n_spec_l01Below [cR xs i h, AV.int IntKind.i64 (lenI (lenS s))]) (fun r1 => gd (inS 0 (AV.asInt (hdV r1)) (lenS s)) (bnd (evF cp k n_spec_l01Text [AV.ref Bool.false 157 [AV.fs (AV.asLen (hdV (AV.parts1 (hdV (tlV r1))))) (AV.asCells (hdV (AV.parts1 (hdV (tlV r1))))), AV.int IntKind.i64 (AV.asInt (hdV (tlV (AV.parts1 (hdV (tlV r1)))))), AV.int IntKind.i64 (AV.asInt (hdV (tlV (tlV (AV.parts1 (hdV (tlV r1)))))))], AV.int IntKind.i64 1]) (fun r2 => gd (fitS (subS s 0 (natI (AV.asInt (hdV r1)))) (AV.asStr (hdV r2))) (gd (inS (wr IntKind.i64 (addI (AV.asInt (hdV r1)) 1)) (lenI (lenS s)) (lenS s)) (gd (fitS (catS (subS s 0 (natI (AV.asInt (hdV r1)))) (AV.asStr (hdV r2))) (subS s (natI (wr IntKind.i64 (addI (AV.asInt (hdV r1)) 1))) (natI (lenI (lenS s))))) (Option.some [AV.str (catS (catS (subS s 0 (natI (AV.asInt (hdV r1)))) (AV.asStr (hdV r2))) (subS s (natI (wr IntKind.i64 (addI (AV.asInt (hdV r1)) 1))) (natI (lenI (lenS s))))), AV.agg [AV.fs (AV.asLen (hdV (AV.parts1 (hdV (tlV r2))))) (AV.asCells (hdV (AV.parts1 (hdV (tlV r2))))), AV.int IntKind.i64 (AV.asInt (hdV (tlV (AV.parts1 (hdV (tlV r2)))))), AV.int IntKind.i64 (AV.asInt (hdV (tlV (tlV (AV.parts1 (hdV (tlV r2)))))))]]))))))) (Option.some [AV.str s, cA xs i h])) [.str t, cA xs j g] ∧ 0 ≤ j ∧ t.size ≤ 2 * s.size + 1 := by
    by_cases qs : 0 < s.size
    · obtain ⟨x, j, g, e1, hj, hx0, hx1⟩ := l01Below_ev xs hl i h hi (s.size : Int)
      have hx := hx1 (by omega)
      obtain ⟨zs, j2, g2, e2, hj2, hz, _⟩ := l01Text_ev xs hl j g hj 1 (by omega)
      have ew : wr .i64 (addI x 1) = x + 1 := by rw [addI_d, wr64 (by omega)]
      have a1 := sub_size (s := s) (l := 0) (r := natI x)
      have a2 := sub_size (s := s) (l := natI (x + 1)) (r := natI (lenI (lenS s)))
      have hz2 : (EV.strOfNums zs).size = 1 := by rw [EV.strOfNums_size]; omega
      have hc1 : (catS (subS s 0 (natI x)) (EV.strOfNums zs)).size = (subS s 0 (natI x)).size + 1 := by show (subS s 0 (natI x) ++ EV.strOfNums zs).size = _; rw [size_append, hz2]
      refine ⟨catS (catS (subS s 0 (natI x)) (EV.strOfNums zs)) (subS s (natI (x + 1)) (natI (lenI (lenS s)))), j2, g2, Ev.t (ltI_t (by rw [lenI_c, lenS_d]; omega)) (Ev.c e1 (Ev.g (inS_t (by omega) hx0 (by rw [lenS_d]; simp only [hdV_c, tlV_c, parts1_a, asInt_i, asBool_b, asStr_s, asLen_f, asCells_f]; omega)) (Ev.c e2 ?_))), hj2, ?_⟩
      · simp only [hdV_c, tlV_c, parts1_a, asInt_i, asBool_b, asStr_s, asLen_f, asCells_f, ew]
        exact Ev.g (fitS_small (by omega)) (Ev.g (inS_t (by omega) (by rw [lenI_c, lenS_d]; omega) (by rw [lenI_c]; omega)) (Ev.g (fitS_small (by rw [hc1]; omega)) (Ev.now _)))
      · show (catS (subS s 0 (natI x)) (EV.strOfNums zs) ++ subS s (natI (x + 1)) (natI (lenI (lenS s)))).size ≤ _
        rw [size_append, hc1]; omega
    · exact ⟨s, i, h, Ev.f (ltI_f (by rw [lenI_c, lenS_d]; omega)) (Ev.now _), hi, by omega⟩
  obtain ⟨t, j, g, et, hj, ht⟩ := two
  by_cases q2 : r = 2
  · exact ⟨t, j, g, Ev.fn (fun k => F_spec_l02Spoilt k _ _ _ _ _) (Ev.c e (Ev.f (eqI_f q0) (Ev.f (eqI_f q1) (Ev.t (eqI_t q2) et)))), hj, ht⟩
  by_cases q3 : r = 3
  · exact ⟨t, j, g, Ev.fn (fun k => F_spec_l02Spoilt k _ _ _ _ _) (Ev.c e (Ev.f (eqI_f q0) (Ev.f (eqI_f q1) (Ev.f (eqI_f q2) (Ev.t (eqI_t q3) et))))), hj, ht⟩
  · exact ⟨s, i, h, Ev.fn (fun k => F_spec_l02Spoilt k _ _ _ _ _) (Ev.c e (Ev.f (eqI_f q0) (Ev.f (eqI_f q1) (Ev.f (eqI_f q2) (Ev.f (eqI_f q3) (Ev.now _)))))), hi, by omega⟩

theorem addRecord_size (j t : ByteArray) : (addRecord j t).1.size ≤ j.size + 20004 := by
  have := recordText_size t
  unfold addRecord
  split
  · show (j ++ (recordText t).1).size ≤ _
    rw [size_append]; omega
  · show j.size ≤ _; omega
theorem l23Journal_l (xs : List Int) (hl : xs.length ≤ 1048576) (d : Nat) : ∀ (a : Nat) (s : ByteArray) (i h : Int), a + d = 5 → 0 ≤ i → s.size ≤ 20004 * a →
    ∃ (t : ByteArray) (j g : Int), Ev (fun k m _ _ => L_spec_l23Journal_0 k m (a : Int) s xs.length (xs.flatMap eB) i h) [.str t, cA xs j g] ∧ 0 ≤ j ∧ t.size ≤ 100020 := by
  induction d with
  | zero =>
    intro a s i h ha h0 hs
    obtain ⟨r, j, g, e, hj, hr0, hr1⟩ := l01Below_ev xs hl i h h0 5
    have hr := hr1 (by omega)
    exact ⟨s, j, g, Ev.step (fun k m _ _ => L_spec_l23Journal_0_s k m _ _ _ _ _ _) (Ev.c e (Ev.f (ltI_f (by simp only [hdV_c, tlV_c, parts1_a, asInt_i, asBool_b, asStr_s, asLen_f, asCells_f]; omega)) (Ev.now _))), hj, by omega⟩
  | succ d ih =>
    intro a s i h ha h0 hs
    obtain ⟨r, j, g, e, hj, hr0, hr1⟩ := l01Below_ev xs hl i h h0 5
    by_cases q : (a : Int) < r
    · obtain ⟨x, j1, g1, e1, hj1, hx0, hx1⟩ := l01Below_ev xs hl j g hj 9
      have hx := hx1 (by omega)
      have ew : wr .i64 (addI 1 x) = 1 + x := by rw [addI_d, wr64 (by omega)]
      obtain ⟨zs, j2, g2, e2, hj2, hz, _⟩ := l01Text_ev xs hl j1 g1 hj1 (1 + x) (by omega)
      have ea := spec_AddRecord_ev s (EV.strOfNums zs) (by omega) (by rw [EV.strOfNums_size]; omega)
      have hsz := addRecord_size s (EV.strOfNums zs)
      obtain ⟨t, j3, g3, e3, ht⟩ := ih (a + 1) (addRecord s (EV.strOfNums zs)).1 j2 g2 (by omega) hj2 (by omega)
      refine ⟨t, j3, g3, Ev.step (fun k m _ _ => L_spec_l23Journal_0_s k m _ _ _ _ _ _) (Ev.c e (Ev.t (ltI_t (by simp only [hdV_c, tlV_c, parts1_a, asInt_i, asBool_b, asStr_s, asLen_f, asCells_f]; exact q)) (Ev.c e1 ?_))), ht⟩
      simp only [hdV_c, tlV_c, parts1_a, asInt_i, asBool_b, asStr_s, asLen_f, asCells_f, ew]
      refine Ev.c e2 (Ev.c ea ?_)
      simp only [cA, hdV_c, tlV_c, parts1_a, asInt_i, asBool_b, asStr_s, asLen_f, asCells_f, wrS (show a < 9223372036854775807 by omega)]
      exact e3
    · exact ⟨s, j, g, Ev.step (fun k m _ _ => L_spec_l23Journal_0_s k m _ _ _ _ _ _) (Ev.c e (Ev.f (ltI_f (by simp only [hdV_c, tlV_c, parts1_a, asInt_i, asBool_b, asStr_s, asLen_f, asCells_f]; exact q)) (Ev.now _))), hj, by omega⟩
theorem l23Journal_ev (xs : List Int) (hl : xs.length ≤ 1048576) (i h : Int) (h0 : 0 ≤ i) : ∃ (t : ByteArray) (j g : Int), Does cp n_spec_l23Journal [cR xs i h] [.str t, cA xs j g] ∧ 0 ≤ j ∧ t.size ≤ 100020 := by
  obtain ⟨t, j, g, e, ht⟩ := l23Journal_l xs hl 5 0 (⟨#[]⟩ : ByteArray) i h (by omega) h0 (by show 0 ≤ _; omega)
  exact ⟨t, j, g, Ev.fn (fun k => F_spec_l23Journal k _ _ _ _) e.l0, ht⟩
theorem DrawRecordText_ev (xs : List Int) (hl : xs.length ≤ 1048576) : ∃ t : ByteArray, Does cp n_spec_DrawRecordText [.fs xs.length (xs.flatMap eB)] [.str t] ∧ t.size ≤ 1000 := by
  obtain ⟨h, e⟩ := l01New_ev xs hl
  obtain ⟨x, i, h, e1, hi, hx⟩ := l01PickInt_ev xs hl 0 h (by omega) [0, 1, 5, 700, 701] (by decide)
  have hx' : 0 ≤ x ∧ x ≤ 701 := by simp at hx; omega
  obtain ⟨t, e2, ht⟩ := l01Long_ev x 97 (by omega)
  exact ⟨t, Ev.fn (fun k => F_spec_DrawRecordText k _ _) (Ev.c e (Ev.c e1 (Ev.c e2 (Ev.now _)))), by omega⟩
theorem DrawCutJournal_ev (xs : List Int) (hl : xs.length ≤ 1048576) : ∃ (t : ByteArray) (n : Int), Does cp n_spec_DrawCutJournal [.fs xs.length (xs.flatMap eB)] [.str t, .int .i64 n] ∧ t.size ≤ 100020 := by
  obtain ⟨h, e⟩ := l01New_ev xs hl
  obtain ⟨x, i, h, e1, hi, hx⟩ := l01PickInt_ev xs hl 0 h (by omega) [0, 1, 7, 40, -1, 9223372036854775807] (by decide)
  obtain ⟨t, i, h, e2, hi, ht⟩ := l23Journal_ev xs hl i h hi
  exact ⟨t, x, Ev.fn (fun k => F_spec_DrawCutJournal k _ _) (Ev.c e (Ev.c e1 (Ev.c e2 (Ev.now _)))), ht⟩
theorem DrawAddRecord_ev (xs : List Int) (hl : xs.length ≤ 1048576) : ∃ s t : ByteArray, Does cp n_spec_DrawAddRecord [.fs xs.length (xs.flatMap eB)] [.str s, .str t] ∧ s.size ≤ 100020 ∧ t.size ≤ 1000 := by
  obtain ⟨h, e⟩ := l01New_ev xs hl
  obtain ⟨x, i, h, e1, hi, hx⟩ := l01PickInt_ev xs hl 0 h (by omega) [0, 1, 9, 701] (by decide)
  have hx' : 0 ≤ x ∧ x ≤ 701 := by simp at hx; omega
  obtain ⟨t, e2, ht⟩ := l01Long_ev x 98 (by omega)
  obtain ⟨b, i, h, e3, hi⟩ := l01Once_ev xs hl i h hi 12
  cases b with
  | true =>
    obtain ⟨y, i, h, e4, hi, hy0, hy1⟩ := l01Below_ev xs hl i h hi 20
    have hy := hy1 (by omega)
    have ew : wr .i64 (subI 20000 y) = 20000 - y := by rw [subI_d, wr64 (by omega)]
    obtain ⟨s, e5, hs⟩ := l01Long_ev (20000 - y) 97 (by omega)
    refine ⟨s, t, Ev.fn (fun k => F_spec_DrawAddRecord k _ _) (Ev.c e (Ev.c e1 (Ev.c e2 (Ev.c e3 (Ev.t rfl (Ev.c e4 ?_)))))), by omega, by omega⟩
    simp only [hdV_c, tlV_c, parts1_a, asInt_i, asBool_b, asStr_s, asLen_f, asCells_f, ew]
    exact Ev.c e5 (Ev.now _)
  | false =>
    obtain ⟨s, i, h, e5, hi, hs⟩ := l23Journal_ev xs hl i h hi
    exact ⟨s, t, Ev.fn (fun k => F_spec_DrawAddRecord k _ _) (Ev.c e (Ev.c e1 (Ev.c e2 (Ev.c e3 (Ev.f rfl (Ev.c e5 (Ev.now _))))))), hs, by omega⟩
theorem DrawReadJournal_ev (xs : List Int) (hl : xs.length ≤ 1048576) : ∃ t : ByteArray, Does cp n_spec_DrawReadJournal [.fs xs.length (xs.flatMap eB)] [.str t] ∧ t.size ≤ 300000 := by
  obtain ⟨h, e⟩ := l01New_ev xs hl
  obtain ⟨x, i, h, e1, hi, _⟩ := l01Below_ev xs hl 0 h (by omega) 4
  obtain ⟨s, i, h, e2, hi, hs⟩ := l23Journal_ev xs hl i h hi
  by_cases q0 : x = 0
  · obtain ⟨y, i, h, e3, hi, hy0, hy1⟩ := l01Below_ev xs hl i h hi (wr .i64 (addI (lenI (lenS s)) 1))
    exact ⟨cutJ s y, Ev.fn (fun k => F_spec_DrawReadJournal k _ _) (Ev.c e (Ev.c e1 (Ev.c e2 (Ev.t (eqI_t q0) (Ev.c e3 (Ev.c (spec_CutJournal_ev s y) (Ev.now _))))))), by have := cutJ_size s y; omega⟩
  by_cases q1 : x = 1
  · obtain ⟨t, i, h, e3, hi, ht⟩ := spoilt_ev xs hl i h hi s (by omega)
    exact ⟨t, Ev.fn (fun k => F_spec_DrawReadJournal k _ _) (Ev.c e (Ev.c e1 (Ev.c e2 (Ev.f (eqI_f q0) (Ev.t (eqI_t q1) (Ev.c e3 (Ev.now _))))))), by omega⟩
  · exact ⟨s, Ev.fn (fun k => F_spec_DrawReadJournal k _ _) (Ev.c e (Ev.c e1 (Ev.c e2 (Ev.f (eqI_f q0) (Ev.f (eqI_f q1) (Ev.now _)))))), by omega⟩

theorem sameTexts_l (l : List ByteArray) (hl : l.length ≤ 1048576) (d : Nat) : ∀ i : Nat, i + d = l.length → Ev (fun k m _ _ => L_laws_sameTexts_0 k m l.length (l.flatMap eS) l.length (l.flatMap eS) (i : Int)) [.bool true] := by
  induction d with
  | zero =>
    intro i hi
    exact Ev.step (fun k m _ _ => L_laws_sameTexts_0_s k m _ _ _ _ _) (Ev.f (ltI_f (by rw [lenI_c]; omega)) (Ev.now _))
  | succ d ih =>
    intro i hi
    have hi' : i < l.length := by omega
    refine Ev.step (fun k m _ _ => L_laws_sameTexts_0_s k m _ _ _ _ _) (Ev.t (ltI_t (by rw [lenI_c]; omega)) (Ev.g (inR_n hi') ?_))
    simp only [esi hi', hdV_c, tlV_c, parts1_a, asInt_i, asBool_b, asStr_s, asLen_f, asCells_f, wrS (show i < 9223372036854775807 by omega)]
    exact Ev.g rfl (Ev.g (inR_n hi') (Ev.g rfl (Ev.f (by rw [eqS_t rfl]; rfl) (ih (i + 1) (by omega)))))
theorem sameTexts_same (l : List ByteArray) (hl : l.length ≤ 1048576) : Does cp n_laws_sameTexts [.fs l.length (l.flatMap eS), .fs l.length (l.flatMap eS)] [.bool true] :=
  Ev.fn (fun k => F_laws_sameTexts k _ _ _ _) (Ev.f (by rw [eqI_t rfl]; rfl) (sameTexts_l l hl l.length 0 (by omega)).l0)

theorem readJ_len (j : ByteArray) : (readJournal j).1.length ≤ j.size := by
  have := (readJ_length (j.size + 1) j 0 (by omega) (by omega)).1
  unfold readJournal
  omega
theorem law_JournalsTold (xs : List Int) : ∃ k, evF cp k n_laws_FnJournalsTold [.fs xs.length (xs.flatMap eB)] = some [.bool true] := by
  apply Ev.rounds
  refine Ev.fn (fun k => F_laws_FnJournalsTold k _ _) (Ev.c (Ev.fn (fun k => F_laws_big k _ _) (Ev.now _)) (Ev.b (fun h => Ev.now _) (fun h => ?_)))
  have hl : xs.length ≤ 1048576 := by
    have := ltI_fo h
    rw [lenI_c] at this
    omega
  obtain ⟨j, e1, h1⟩ := DrawReadJournal_ev xs hl
  obtain ⟨a, t, e2, h2, h3⟩ := DrawAddRecord_ev xs hl
  obtain ⟨c, n, e3, h4⟩ := DrawCutJournal_ev xs hl
  obtain ⟨f, e4, h5⟩ := DrawRecordText_ev xs hl
  have hlen := readJ_len j
  refine Ev.c e1 (Ev.c (impl_ReadJournal_ev j (by omega)) (Ev.c (spec_ReadJournal_ev j (by omega)) (Ev.c e2 (Ev.c (impl_AddRecord_ev a t (by omega) (by omega)) (Ev.c (spec_AddRecord_ev a t (by omega) (by omega)) (Ev.c e3 (Ev.c e4 (Ev.c (impl_RecordText_ev f (by omega)) (Ev.c (spec_RecordText_ev f (by omega)) (Ev.c (sameTexts_same _ (by omega)) (Ev.t rfl (Ev.t (eqI_t rfl) (Ev.t ?_ (Ev.t (eqS_t rfl) (Ev.c (impl_CutJournal_ev c n) (Ev.c (spec_CutJournal_ev c n) (Ev.t (eqS_t rfl) (Ev.t ?_ (Ev.some_ ?_)))))))))))))))))))
  · rw [eqB_d]; simp
  · rw [eqB_d]; simp
  · simp only [hdV_c, tlV_c, parts1_a, asInt_i, asBool_b, asStr_s, asLen_f, asCells_f]
    rw [eqS_t rfl]

end Go.Proofs.Ytajphmmaejgfaaa.FnJournalsTold
