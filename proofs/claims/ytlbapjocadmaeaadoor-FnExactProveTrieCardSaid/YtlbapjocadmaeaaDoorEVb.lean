/- Words for what functions come to. No conditions. -/
import Derived.Test.YtlbapjocadmaeaaDoorEVrow
namespace Go.Proofs.YtlbapjocadmaeaaDoor.EV
set_option linter.unusedVariables false
set_option linter.unusedSimpArgs false
open Go

/-- From some number of rounds on. -/
def Ev {α : Type} (g : Nat → Nat → Nat → Nat → Option α) (r : α) : Prop := ∃ K, ∀ k m p q, K ≤ k → K ≤ m → K ≤ p → K ≤ q → g k m p q = some r
def Does (cp : CP) (f : Nat) (as r : List AV) : Prop := Ev (fun k _ _ _ => evF cp k f as) r
section
variable {α β : Type}
theorem Ev.now (r : α) : Ev (fun _ _ _ _ => some r) r := ⟨0, fun _ _ _ _ _ _ _ _ => rfl⟩
theorem Ev.some_ {r s : α} (h : r = s) : Ev (fun _ _ _ _ => some r) s := h ▸ Ev.now r
theorem Ev.to {g : Nat → Nat → Nat → Nat → Option α} {r s : α} (h : Ev g r) (e : r = s) : Ev g s := e ▸ h
theorem Ev.g {b : Bool} {f : Nat → Nat → Nat → Nat → Option α} {r : α} (h : b = true) (e : Ev f r) : Ev (fun k m p q => gd b (f k m p q)) r := by
  obtain ⟨K, e⟩ := e
  exact ⟨K, fun k m p q h1 h2 h3 h4 => by subst h; unfold gd; exact e k m p q h1 h2 h3 h4⟩
theorem Ev.t {b : Bool} {f g : Nat → Nat → Nat → Nat → Option α} {r : α} (h : b = true) (e : Ev f r) : Ev (fun k m p q => br b (f k m p q) (g k m p q)) r := by
  obtain ⟨K, e⟩ := e
  exact ⟨K, fun k m p q h1 h2 h3 h4 => by subst h; unfold br; exact e k m p q h1 h2 h3 h4⟩
theorem Ev.f {b : Bool} {f g : Nat → Nat → Nat → Nat → Option α} {r : α} (h : b = false) (e : Ev g r) : Ev (fun k m p q => br b (f k m p q) (g k m p q)) r := by
  obtain ⟨K, e⟩ := e
  exact ⟨K, fun k m p q h1 h2 h3 h4 => by subst h; unfold br; exact e k m p q h1 h2 h3 h4⟩
theorem Ev.b {b : Bool} {f g : Nat → Nat → Nat → Nat → Option α} {r : α} (h : b = true → Ev f r) (k : b = false → Ev g r) : Ev (fun k m p q => br b (f k m p q) (g k m p q)) r := by
  cases b with
  | true => exact Ev.t rfl (h rfl)
  | false => exact Ev.f rfl (k rfl)
theorem Ev.c {x : Nat → Nat → Nat → Nat → Option α} {s : α} {f : Nat → Nat → Nat → Nat → α → Option β} {r : β} (h : Ev x s) (e : Ev (fun k m p q => f k m p q s) r) : Ev (fun k m p q => bnd (x k m p q) (f k m p q)) r := by
  obtain ⟨K, h⟩ := h
  obtain ⟨K2, e⟩ := e
  exact ⟨max K K2, fun k m p q h1 h2 h3 h4 => by
    show bnd (x k m p q) (f k m p q) = some r
    rw [h k m p q (by omega) (by omega) (by omega) (by omega)]
    unfold bnd
    exact e k m p q (by omega) (by omega) (by omega) (by omega)⟩
theorem Ev.bw {X Y : Nat → Nat → Nat → Nat → Option (List AV)} {r : List AV} (h1 : Ev X r) (h2 : Ev Y r) : Ev (fun k m p q => both (X k m p q) (Y k m p q)) r := by
  obtain ⟨K, h1⟩ := h1
  obtain ⟨K2, h2⟩ := h2
  exact ⟨max K K2, fun k m p q a b c d => by
    show both (X k m p q) (Y k m p q) = some r
    rw [h1 k m p q (by omega) (by omega) (by omega) (by omega), h2 k m p q (by omega) (by omega) (by omega) (by omega)]
    unfold both
    rw [if_pos rfl]⟩
theorem Ev.step {g f : Nat → Nat → Nat → Nat → Option α} {r : α} (h : ∀ k m p q, g k (m + 1) p q = f k m p q) (e : Ev f r) : Ev g r := by
  obtain ⟨K, e⟩ := e
  refine ⟨K + 1, fun k m p q h1 h2 h3 h4 => ?_⟩
  obtain ⟨m', rfl⟩ : ∃ m', m = m' + 1 := ⟨m - 1, by omega⟩
  rw [h]
  exact e k m' p q (by omega) (by omega) (by omega) (by omega)
theorem Ev.l0 {L : Nat → Nat → Option α} {r : α} (e : Ev (fun k m _ _ => L k m) r) : Ev (fun k _ _ _ => L k k) r := by
  obtain ⟨K, e⟩ := e
  exact ⟨K, fun k m p q h1 h2 h3 h4 => e k k p q h1 h1 h3 h4⟩
theorem Ev.l1 {L : Nat → Nat → Nat → Option α} {r : α} (e : Ev (fun k m p _ => L k m p) r) : Ev (fun k m _ _ => L k k m) r := by
  obtain ⟨K, e⟩ := e
  exact ⟨K, fun k m p q h1 h2 h3 h4 => e k k m q h1 h1 h2 h4⟩
theorem Ev.o1 {L : Nat → Nat → Option α} {r : α} (e : Ev (fun k m _ _ => L k m) r) : Ev (fun k _ p _ => L k p) r := by
  obtain ⟨K, e⟩ := e
  exact ⟨K, fun k m p q h1 h2 h3 h4 => e k p p q h1 h3 h3 h4⟩
theorem Ev.l2 {L : Nat → Nat → Nat → Nat → Option α} {r : α} (e : Ev L r) : Ev (fun k m p _ => L k k p m) r := by
  obtain ⟨K, e⟩ := e
  exact ⟨K, fun k m p q h1 h2 h3 h4 => e k k p m h1 h1 h3 h2⟩
theorem Ev.o2 {L : Nat → Nat → Nat → Option α} {r : α} (e : Ev (fun k m p _ => L k m p) r) : Ev (fun k _ p q => L k q p) r := by
  obtain ⟨K, e⟩ := e
  exact ⟨K, fun k m p q h1 h2 h3 h4 => e k q p q h1 h4 h3 h4⟩
theorem Ev.fn {cp : CP} {f : Nat} {as : List AV} {X : Nat → Option (List AV)} {r : List AV} (h : ∀ k, evF cp (k + 1) f as = X k) (e : Ev (fun k _ _ _ => X k) r) : Does cp f as r := by
  obtain ⟨K, e⟩ := e
  refine ⟨K + 1, fun k m p q h1 h2 h3 h4 => ?_⟩
  obtain ⟨k', rfl⟩ : ∃ k', k = k' + 1 := ⟨k - 1, by omega⟩
  show evF cp (k' + 1) f as = some r
  rw [h]
  exact e k' m p q (by omega) (by omega) (by omega) (by omega)
theorem Ev.rounds {g : Nat → Option α} {r : α} (h : Ev (fun k _ _ _ => g k) r) : ∃ k, g k = some r := by
  obtain ⟨K, h⟩ := h
  exact ⟨K, h K K K K (Nat.le_refl _) (Nat.le_refl _) (Nat.le_refl _) (Nat.le_refl _)⟩
end

/-! scalars -/
theorem hdV_c (v : AV) (l : List AV) : hdV (v :: l) = v := rfl
theorem tlV_c (v : AV) (l : List AV) : tlV (v :: l) = l := rfl
theorem parts1_a (l : List AV) : AV.parts1 (.agg l) = l := rfl
theorem asInt_i (k : IntKind) (n : Int) : AV.asInt (.int k n) = n := rfl
theorem asBool_b (b : Bool) : AV.asBool (.bool b) = b := rfl
theorem asStr_s (s : ByteArray) : AV.asStr (.str s) = s := rfl
theorem asLen_f (n : Nat) (c : List AV) : AV.asLen (.fs n c) = n := rfl
theorem asCells_f (n : Nat) (c : List AV) : AV.asCells (.fs n c) = c := rfl
theorem tupL_t (l : List AV) : AV.tupL (.tup l) = l := rfl
theorem refCells_r (a : Bool) (e : TypeId) (l : List AV) : AV.refCells (.ref a e l) = l := rfl
theorem ownLen_o (i o n : Nat) : AV.ownLen (.own i o n) = n := rfl
theorem ltI_d (a b : Int) : ltI a b = decide (a < b) := rfl
theorem leI_d (a b : Int) : leI a b = decide (a ≤ b) := rfl
theorem eqI_d (a b : Int) : eqI a b = decide (a = b) := by unfold eqI; rw [Bool.eq_iff_iff]; simp
theorem notB_n (b : Bool) : notB b = !b := rfl
theorem andB_a (a b : Bool) : andB a b = (a && b) := rfl
theorem orB_o (a b : Bool) : orB a b = (a || b) := rfl
theorem ltI_t {a b : Int} (h : a < b) : ltI a b = true := decide_eq_true h
theorem ltI_f {a b : Int} (h : ¬ a < b) : ltI a b = false := decide_eq_false h
theorem leI_t {a b : Int} (h : a ≤ b) : leI a b = true := decide_eq_true h
theorem leI_f {a b : Int} (h : ¬ a ≤ b) : leI a b = false := decide_eq_false h
theorem eqI_t {a b : Int} (h : a = b) : eqI a b = true := by rw [eqI_d]; exact decide_eq_true h
theorem eqI_f {a b : Int} (h : ¬ a = b) : eqI a b = false := by rw [eqI_d]; exact decide_eq_false h
theorem ltI_to {a b : Int} (h : ltI a b = true) : a < b := of_decide_eq_true h
theorem ltI_fo {a b : Int} (h : ltI a b = false) : ¬ a < b := of_decide_eq_false h
theorem leI_to {a b : Int} (h : leI a b = true) : a ≤ b := of_decide_eq_true h
theorem leI_fo {a b : Int} (h : leI a b = false) : ¬ a ≤ b := of_decide_eq_false h
theorem eqI_to {a b : Int} (h : eqI a b = true) : a = b := by rw [eqI_d] at h; exact of_decide_eq_true h
theorem eqI_fo {a b : Int} (h : eqI a b = false) : ¬ a = b := by rw [eqI_d] at h; exact of_decide_eq_false h
theorem inR_t {i : Int} {n : Nat} (h0 : 0 ≤ i) (h1 : i < n) : inR i n = true := by simp [inR, h0, h1]
theorem inR_n {i n : Nat} (h : i < n) : inR (i : Int) n = true := inR_t (by omega) (by omega)
theorem inS_t {l h : Int} {n : Nat} (h0 : 0 ≤ l) (h1 : l ≤ h) (h2 : h ≤ n) : inS l h n = true := by simp [inS, h0, h1, h2]
theorem natI_c (n : Nat) : natI (n : Int) = n := rfl
theorem lenI_c (n : Nat) : lenI n = (n : Int) := rfl
theorem mulN_d (a b : Nat) : mulN a b = a * b := rfl
theorem addN_d (a b : Nat) : addN a b = a + b := rfl
theorem subN_d (a b : Nat) : subN a b = a - b := rfl
theorem addI_d (a b : Int) : addI a b = a + b := rfl
theorem subI_d (a b : Int) : subI a b = a - b := rfl
theorem mulI_d (a b : Int) : mulI a b = a * b := rfl
theorem quoI_d (a b : Int) : quoI a b = a.tdiv b := rfl
theorem remI_d (a b : Int) : remI a b = a.tmod b := rfl
theorem lenS_d (s : ByteArray) : lenS s = s.size := rfl
theorem wr64 {n : Int} (h : -9223372036854775808 ≤ n ∧ n ≤ 9223372036854775807) : wr .i64 n = n := by unfold wr; rw [IntKind.wrap_i64]; omega
theorem wrS {i : Nat} (h : i < 9223372036854775807) : wr .i64 (addI (i : Int) 1) = ((i + 1 : Nat) : Int) := by rw [addI_d, wr64 (by omega)]; omega
theorem wr64_range (n : Int) : -9223372036854775808 ≤ wr .i64 n ∧ wr .i64 n ≤ 9223372036854775807 := by unfold wr; rw [IntKind.wrap_i64]; omega
theorem eqS_d (x y : ByteArray) : eqS x y = decide (x = y) := by
  unfold eqS
  rw [Bool.eq_iff_iff, beq_iff_eq, decide_eq_true_eq, ByteArray.toList_eq, ByteArray.toList_eq]
  constructor
  · intro h
    cases x; cases y; congr 1; exact Array.toList_inj.1 h
  · intro h; rw [h]
theorem eqS_t {x y : ByteArray} (h : x = y) : eqS x y = true := by rw [eqS_d]; exact decide_eq_true h
theorem eqS_f {x y : ByteArray} (h : ¬ x = y) : eqS x y = false := by rw [eqS_d]; exact decide_eq_false h
theorem eqS_to {x y : ByteArray} (h : eqS x y = true) : x = y := by rw [eqS_d] at h; exact of_decide_eq_true h
theorem eqB_d (a b : Bool) : eqB a b = decide (a = b) := by unfold eqB; cases a <;> cases b <;> rfl
theorem wf64 {n : Int} : okInt .i64 n ↔ (-9223372036854775808 ≤ n ∧ n ≤ 9223372036854775807) := by
  simp only [okInt, Lit.wf, IntKind.min, IntKind.max, IntKind.signed, IntKind.bits, Bool.and_eq_true, decide_eq_true_eq, if_true]
  omega
theorem okAll1 (s : Sc) (v : AV) : okAll [s] [v] = ok1 s v := by simp [okAll]

/-! rows of cells -/
section
variable {α : Type} {e : α → List AV} {sz : Nat}
theorem encs_len (h : ∀ a, (e a).length = sz) (xs : List α) : (xs.flatMap e).length = xs.length * sz := by
  induction xs with
  | nil => simp
  | cons x r ih => rw [List.flatMap_cons, List.length_append, ih, h, List.length_cons, Nat.succ_mul]; omega
theorem encs_get (h : ∀ a, (e a).length = sz) : ∀ (xs : List α) (i j : Nat) (hi : i < xs.length), j < sz → (xs.flatMap e)[i * sz + j]? = (e xs[i])[j]?
  | [], _, _, hi, _ => by simp at hi
  | x :: r, 0, j, _, hj => by rw [List.flatMap_cons, Nat.zero_mul, Nat.zero_add, List.getElem?_append_left (by rw [h]; exact hj)]; rfl
  | x :: r, i + 1, j, hi, hj => by
    rw [List.flatMap_cons, Nat.succ_mul, List.getElem?_append_right (by rw [h]; omega), h, show i * sz + sz + j - sz = i * sz + j by omega]
    exact encs_get h r i j (by simpa using hi) hj
theorem cell_enc (h : ∀ a, (e a).length = sz) {xs : List α} {i : Nat} (hi : i < xs.length) (j : Nat) (hj : j < sz) : cellAt (xs.flatMap e) (addN (mulN (natI (i : Int)) sz) j) = cellAt (e xs[i]) j := by
  unfold cellAt
  rw [List.getD_eq_getElem?_getD, List.getD_eq_getElem?_getD, natI_c, mulN_d, addN_d, encs_get h xs i j hi hj]
theorem cell_enc0 (h : ∀ a, (e a).length = sz) {xs : List α} {i : Nat} (hi : i < xs.length) (hj : 0 < sz) : cellAt (xs.flatMap e) (mulN (natI (i : Int)) sz) = cellAt (e xs[i]) 0 := cell_enc h hi 0 hj
theorem cut_all (h : ∀ a, (e a).length = sz) (xs : List α) : cutC (xs.flatMap e) 0 (mulN xs.length sz) = xs.flatMap e := by
  unfold cutC
  rw [List.drop_zero, List.take_of_length_le (by rw [encs_len h, mulN_d]; exact Nat.le_refl _)]
theorem cut_part (h : ∀ a, (e a).length = sz) (xs : List α) (l n : Nat) : cutC (xs.flatMap e) (mulN l sz) (mulN n sz) = ((xs.drop l).take n).flatMap e := by
  unfold cutC
  rw [mulN_d, mulN_d]
  have d : ∀ (l : Nat) (xs : List α), (xs.flatMap e).drop (l * sz) = (xs.drop l).flatMap e := by
    intro l
    induction l with
    | zero => intro xs; simp
    | succ l ih =>
      intro xs
      cases xs with
      | nil => simp
      | cons x r => rw [List.flatMap_cons, Nat.succ_mul, Nat.add_comm, ← List.drop_drop, ← h x, List.drop_left, List.drop_succ_cons, h x]; exact ih r
  have t : ∀ (n : Nat) (xs : List α), (xs.flatMap e).take (n * sz) = (xs.take n).flatMap e := by
    intro n
    induction n with
    | zero => intro xs; simp
    | succ n ih =>
      intro xs
      cases xs with
      | nil => simp
      | cons x r => rw [List.flatMap_cons, Nat.succ_mul, Nat.add_comm, List.take_add, ← h x, List.take_left, List.drop_left, List.take_succ_cons, List.flatMap_cons, h x, ih r]
  rw [d, t]
theorem cat_encs (xs ys : List α) : catC (xs.flatMap e) (ys.flatMap e) = (xs ++ ys).flatMap e := by unfold catC; rw [List.flatMap_append]
/-- A row's place filled anew. -/
theorem setMany_app : ∀ (vs cs : List AV) (o : Nat), o + vs.length ≤ cs.length → setMany cs o vs = cs.take o ++ vs ++ cs.drop (o + vs.length)
  | [], cs, o, _ => by simp [setMany]
  | v :: vs, cs, o, h => by
    rw [List.length_cons] at h
    rw [setMany, setMany_app vs _ _ (by rw [List.length_set]; omega), List.take_add_one, List.take_set_of_le (Nat.le_refl _), List.getElem?_set_self (by omega), List.drop_set_of_lt (by omega), List.length_cons, show o + (vs.length + 1) = o + 1 + vs.length by omega]
    simp
theorem set_encs (h : ∀ a, (e a).length = sz) : ∀ (xs : List α) (i : Nat) (x : α), i < xs.length → setMany (xs.flatMap e) (i * sz) (e x) = (xs.set i x).flatMap e
  | [], _, _, hi => by simp at hi
  | y :: r, 0, x, _ => by
    rw [setMany_app _ _ _ (by rw [List.flatMap_cons, List.length_append, h, h]; omega), Nat.zero_mul, List.take_zero, Nat.zero_add, List.nil_append, List.flatMap_cons, h x, ← h y, List.drop_left, List.set_cons_zero, List.flatMap_cons]
  | y :: r, i + 1, x, hi => by
    have hi' : i < r.length := by simpa using hi
    have hl := encs_len h r
    have hm : (i + 1) * sz ≤ r.length * sz := Nat.mul_le_mul_right _ (by omega)
    rw [Nat.succ_mul] at hm
    have ih := set_encs h r i x hi'
    rw [setMany_app _ _ _ (by rw [h, hl]; omega)] at ih
    rw [setMany_app _ _ _ (by rw [List.flatMap_cons, List.length_append, h, h, hl, Nat.succ_mul]; omega), List.set_cons_succ, List.flatMap_cons, List.flatMap_cons, ← ih, Nat.succ_mul, Nat.add_comm (i * sz) sz]
    rw [h x, List.take_append, h y, List.take_of_length_le (by rw [h]; omega), show sz + i * sz - sz = i * sz by omega, Nat.add_assoc, List.drop_append, h y, List.drop_eq_nil_of_le (by rw [h]; omega), List.nil_append, show sz + (i * sz + sz) - sz = i * sz + sz by omega]
    simp [List.append_assoc]
end
/-- One place of a row filled, from the left. -/
theorem fill_at {α : Type} {e : α → List AV} {sz : Nat} (h : ∀ a, (e a).length = sz) {z : List AV} (hz : z.length = sz) (pre : List α) (x : α) (d : Nat) :
    setMany (pre.flatMap e ++ (List.replicate (d + 1) z).flatten) (pre.length * sz) (e x) = (pre ++ [x]).flatMap e ++ (List.replicate d z).flatten := by
  have hl := encs_len h pre
  rw [setMany_app _ _ _ (by rw [List.length_append, hl, h, List.replicate_succ, List.flatten_cons, List.length_append, hz]; omega), List.take_append, hl, List.take_of_length_le (by omega), Nat.sub_self, List.take_zero, List.append_nil,
    List.drop_append, hl, List.drop_eq_nil_of_le (by omega), List.nil_append, h, Nat.add_sub_cancel_left, List.replicate_succ, List.flatten_cons, ← hz, List.drop_left, List.flatMap_append, List.flatMap_singleton]
theorem fill_len {α : Type} {e : α → List AV} {sz : Nat} (h : ∀ a, (e a).length = sz) {z : List AV} (hz : z.length = sz) (pre : List α) (d : Nat) : (pre.flatMap e ++ (List.replicate d z).flatten).length = pre.length * sz + d * sz := by
  rw [List.length_append, encs_len h]; simp [hz]
theorem take_next {α : Type} (xs : List α) (i : Nat) (hi : i < xs.length) : xs.take i ++ [xs[i]] = xs.take (i + 1) := by rw [List.take_add_one, List.getElem?_eq_getElem hi]; rfl
theorem fit_small {n : Nat} {b : Nat} (h : n ≤ 1048576) (hb : b ≤ 4096) : fitMk (lenI n) (lenI n) b = true := by
  unfold fitMk lenI
  have : n * b ≤ 1048576 * 4096 := Nat.mul_le_mul h hb
  have h2 : (n : Int) * (b : Int) = ((n * b : Nat) : Int) := by push_cast; rfl
  rw [h2]
  exact decide_eq_true ⟨by omega, by omega, by omega, by omega⟩
theorem fitS_small {a b : ByteArray} (h : a.size + b.size ≤ 4294967296) : fitS a b = true := Nat.ble_eq_true_of_le (by omega)
/-- One round of a loop that fills a row with another's elements. -/
theorem fill_step {α : Type} (xs ys : List α) (i : Nat) (hi : i < xs.length) (hl : ys.length = xs.length) (h : ys.take i = xs.take i) : (ys.set i xs[i]).take (i + 1) = xs.take (i + 1) := by
  rw [List.take_add_one, List.take_set_of_le (Nat.le_refl _), h, List.take_add_one]
  congr 1
  rw [List.getElem?_set_self (by omega), List.getElem?_eq_getElem hi]
theorem fill_done {α : Type} (xs ys : List α) (hl : ys.length = xs.length) (h : ys.take xs.length = xs.take xs.length) : ys = xs := by
  rw [List.take_of_length_le (by omega), List.take_of_length_le (Nat.le_refl _)] at h
  exact h
theorem rep_encs {α : Type} {e : α → List AV} (z : α) {cs : List AV} (h : e z = cs) (n : Nat) : repC n cs = (List.replicate n z).flatMap e := by
  unfold repC
  rw [List.flatMap_def, List.map_replicate, h]
end Go.Proofs.YtlbapjocadmaeaaDoor.EV
