/- Words for what functions come to. No conditions. -/
import Derived.Test.YtlcnpecejhcnfaaDoorEVrow
import Derived.Laws.BitsLemmas
import Derived.Laws.Strings
namespace Go.Proofs.YtlcnpecejhcnfaaDoor.EV
set_option linter.unusedVariables false
set_option linter.unusedSimpArgs false
open Go

/-- From some number of rounds on. -/
def Ev {α : Type} (g : Nat → Nat → Nat → Nat → Option α) (r : α) : Prop := ∃ K, ∀ k m p q, K ≤ k → K ≤ m → K ≤ p → K ≤ q → g k m p q = some r
def Does (cp : CP) (f : Nat) (as r : List AV) : Prop := Ev (fun k _ _ _ => evF cp k f as) r
section
variable {α β : Type}
theorem Ev.now (r : α) : Ev (fun _ _ _ _ => some r) r := ⟨0, fun _ _ _ _ _ _ _ _ => rfl⟩
theorem Ev.some_ {r s : α} (h : r = s) : Ev (fun _ _ _ _ => some r) s := h ▸ Ev.now r
theorem Ev.to {g : Nat → Nat → Nat → Nat → Option α} {r s : α} (h : Ev g r) (e : r = s) : Ev g s := e ▸ h
theorem Ev.g {b : Bool} {f : Nat → Nat → Nat → Nat → Option α} {r : α} (h : b = true) (e : Ev f r) : Ev (fun k m p q => gd b (f k m p q)) r := by
  obtain ⟨K, e⟩ := e
  exact ⟨K, fun k m p q h1 h2 h3 h4 => by subst h; unfold gd; exact e k m p q h1 h2 h3 h4⟩
theorem Ev.t {b : Bool} {f g : Nat → Nat → Nat → Nat → Option α} {r : α} (h : b = true) (e : Ev f r) : Ev (fun k m p q => br b (f k m p q) (g k m p q)) r := by
  obtain ⟨K, e⟩ := e
  exact ⟨K, fun k m p q h1 h2 h3 h4 => by subst h; unfold br; exact e k m p q h1 h2 h3 h4⟩
theorem Ev.f {b : Bool} {f g : Nat → Nat → Nat → Nat → Option α} {r : α} (h : b = false) (e : Ev g r) : Ev (fun k m p q => br b (f k m p q) (g k m p q)) r := by
  obtain ⟨K, e⟩ := e
  exact ⟨K, fun k m p q h1 h2 h3 h4 => by subst h; unfold br; exact e k m p q h1 h2 h3 h4⟩
theorem Ev.b {b : Bool} {f g : Nat → Nat → Nat → Nat → Option α} {r : α} (h : b = true → Ev f r) (k : b = false → Ev g r) : Ev (fun k m p q => br b (f k m p q) (g k m p q)) r := by
  cases b with
  | true => exact Ev.t rfl (h rfl)
  | false => exact Ev.f rfl (k rfl)
theorem Ev.c {x : Nat → Nat → Nat → Nat → Option α} {s : α} {f : Nat → Nat → Nat → Nat → α → Option β} {r : β} (h : Ev x s) (e : Ev (fun k m p q => f k m p q s) r) : Ev (fun k m p q => bnd (x k m p q) (f k m p q)) r := by
  obtain ⟨K, h⟩ := h
  obtain ⟨K2, e⟩ := e
  exact ⟨max K K2, fun k m p q h1 h2 h3 h4 => by
    show bnd (x k m p q) (f k m p q) = some r
    rw [h k m p q (by omega) (by omega) (by omega) (by omega)]
    unfold bnd
    exact e k m p q (by omega) (by omega) (by omega) (by omega)⟩
theorem Ev.bw {X Y : Nat → Nat → Nat → Nat → Option (List AV)} {r : List AV} (h1 : Ev X r) (h2 : Ev Y r) : Ev (fun k m p q => both (X k m p q) (Y k m p q)) r := by
  obtain ⟨K, h1⟩ := h1
  obtain ⟨K2, h2⟩ := h2
  exact ⟨max K K2, fun k m p q a b c d => by
    show both (X k m p q) (Y k m p q) = some r
    rw [h1 k m p q (by omega) (by omega) (by omega) (by omega), h2 k m p q (by omega) (by omega) (by omega) (by omega)]
    unfold both
    rw [if_pos rfl]⟩
theorem Ev.step {g f : Nat → Nat → Nat → Nat → Option α} {r : α} (h : ∀ k m p q, g k (m + 1) p q = f k m p q) (e : Ev f r) : Ev g r := by
  obtain ⟨K, e⟩ := e
  refine ⟨K + 1, fun k m p q h1 h2 h3 h4 => ?_⟩
  obtain ⟨m', rfl⟩ : ∃ m', m = m' + 1 := ⟨m - 1, by omega⟩
  rw [h]
  exact e k m' p q (by omega) (by omega) (by omega) (by omega)
theorem Ev.l0 {L : Nat → Nat → Option α} {r : α} (e : Ev (fun k m _ _ => L k m) r) : Ev (fun k _ _ _ => L k k) r := by
  obtain ⟨K, e⟩ := e
  exact ⟨K, fun k m p q h1 h2 h3 h4 => e k k p q h1 h1 h3 h4⟩
theorem Ev.l1 {L : Nat → Nat → Nat → Option α} {r : α} (e : Ev (fun k m p _ => L k m p) r) : Ev (fun k m _ _ => L k k m) r := by
  obtain ⟨K, e⟩ := e
  exact ⟨K, fun k m p q h1 h2 h3 h4 => e k k m q h1 h1 h2 h4⟩
theorem Ev.o1 {L : Nat → Nat → Option α} {r : α} (e : Ev (fun k m _ _ => L k m) r) : Ev (fun k _ p _ => L k p) r := by
  obtain ⟨K, e⟩ := e
  exact ⟨K, fun k m p q h1 h2 h3 h4 => e k p p q h1 h3 h3 h4⟩
theorem Ev.l2 {L : Nat → Nat → Nat → Nat → Option α} {r : α} (e : Ev L r) : Ev (fun k m p _ => L k k p m) r := by
  obtain ⟨K, e⟩ := e
  exact ⟨K, fun k m p q h1 h2 h3 h4 => e k k p m h1 h1 h3 h2⟩
theorem Ev.o2 {L : Nat → Nat → Nat → Option α} {r : α} (e : Ev (fun k m p _ => L k m p) r) : Ev (fun k _ p q => L k q p) r := by
  obtain ⟨K, e⟩ := e
  exact ⟨K, fun k m p q h1 h2 h3 h4 => e k q p q h1 h4 h3 h4⟩
theorem Ev.fn {cp : CP} {f : Nat} {as : List AV} {X : Nat → Option (List AV)} {r : List AV} (h : ∀ k, evF cp (k + 1) f as = X k) (e : Ev (fun k _ _ _ => X k) r) : Does cp f as r := by
  obtain ⟨K, e⟩ := e
  refine ⟨K + 1, fun k m p q h1 h2 h3 h4 => ?_⟩
  obtain ⟨k', rfl⟩ : ∃ k', k = k' + 1 := ⟨k - 1, by omega⟩
  show evF cp (k' + 1) f as = some r
  rw [h]
  exact e k' m p q (by omega) (by omega) (by omega) (by omega)
theorem Ev.rounds {g : Nat → Option α} {r : α} (h : Ev (fun k _ _ _ => g k) r) : ∃ k, g k = some r := by
  obtain ⟨K, h⟩ := h
  exact ⟨K, h K K K K (Nat.le_refl _) (Nat.le_refl _) (Nat.le_refl _) (Nat.le_refl _)⟩
end

/-! scalars -/
theorem hdV_c (v : AV) (l : List AV) : hdV (v :: l) = v := rfl
theorem tlV_c (v : AV) (l : List AV) : tlV (v :: l) = l := rfl
theorem parts1_a (l : List AV) : AV.parts1 (.agg l) = l := rfl
theorem asInt_i (k : IntKind) (n : Int) : AV.asInt (.int k n) = n := rfl
theorem asBool_b (b : Bool) : AV.asBool (.bool b) = b := rfl
theorem asStr_s (s : ByteArray) : AV.asStr (.str s) = s := rfl
theorem asLen_f (n : Nat) (c : List AV) : AV.asLen (.fs n c) = n := rfl
theorem asCells_f (n : Nat) (c : List AV) : AV.asCells (.fs n c) = c := rfl
theorem tupL_t (l : List AV) : AV.tupL (.tup l) = l := rfl
theorem refCells_r (a : Bool) (e : TypeId) (l : List AV) : AV.refCells (.ref a e l) = l := rfl
theorem ownLen_o (i o n : Nat) : AV.ownLen (.own i o n) = n := rfl
theorem ltI_d (a b : Int) : ltI a b = decide (a < b) := rfl
theorem leI_d (a b : Int) : leI a b = decide (a ≤ b) := rfl
theorem eqI_d (a b : Int) : eqI a b = decide (a = b) := by unfold eqI; rw [Bool.eq_iff_iff]; simp
theorem notB_n (b : Bool) : notB b = !b := rfl
theorem andB_a (a b : Bool) : andB a b = (a && b) := rfl
theorem orB_o (a b : Bool) : orB a b = (a || b) := rfl
theorem ltI_t {a b : Int} (h : a < b) : ltI a b = true := decide_eq_true h
theorem ltI_f {a b : Int} (h : ¬ a < b) : ltI a b = false := decide_eq_false h
theorem leI_t {a b : Int} (h : a ≤ b) : leI a b = true := decide_eq_true h
theorem leI_f {a b : Int} (h : ¬ a ≤ b) : leI a b = false := decide_eq_false h
theorem eqI_t {a b : Int} (h : a = b) : eqI a b = true := by rw [eqI_d]; exact decide_eq_true h
theorem eqI_f {a b : Int} (h : ¬ a = b) : eqI a b = false := by rw [eqI_d]; exact decide_eq_false h
theorem ltI_to {a b : Int} (h : ltI a b = true) : a < b := of_decide_eq_true h
theorem ltI_fo {a b : Int} (h : ltI a b = false) : ¬ a < b := of_decide_eq_false h
theorem leI_to {a b : Int} (h : leI a b = true) : a ≤ b := of_decide_eq_true h
theorem leI_fo {a b : Int} (h : leI a b = false) : ¬ a ≤ b := of_decide_eq_false h
theorem eqI_to {a b : Int} (h : eqI a b = true) : a = b := by rw [eqI_d] at h; exact of_decide_eq_true h
theorem eqI_fo {a b : Int} (h : eqI a b = false) : ¬ a = b := by rw [eqI_d] at h; exact of_decide_eq_false h
theorem inR_t {i : Int} {n : Nat} (h0 : 0 ≤ i) (h1 : i < n) : inR i n = true := by simp [inR, h0, h1]
theorem inR_n {i n : Nat} (h : i < n) : inR (i : Int) n = true := inR_t (by omega) (by omega)
theorem inS_t {l h : Int} {n : Nat} (h0 : 0 ≤ l) (h1 : l ≤ h) (h2 : h ≤ n) : inS l h n = true := by simp [inS, h0, h1, h2]
theorem natI_c (n : Nat) : natI (n : Int) = n := rfl
theorem lenI_c (n : Nat) : lenI n = (n : Int) := rfl
theorem mulN_d (a b : Nat) : mulN a b = a * b := rfl
theorem addN_d (a b : Nat) : addN a b = a + b := rfl
theorem subN_d (a b : Nat) : subN a b = a - b := rfl
theorem addI_d (a b : Int) : addI a b = a + b := rfl
theorem subI_d (a b : Int) : subI a b = a - b := rfl
theorem mulI_d (a b : Int) : mulI a b = a * b := rfl
theorem quoI_d (a b : Int) : quoI a b = a.tdiv b := rfl
theorem remI_d (a b : Int) : remI a b = a.tmod b := rfl
theorem lenS_d (s : ByteArray) : lenS s = s.size := rfl
theorem wr64 {n : Int} (h : -9223372036854775808 ≤ n ∧ n ≤ 9223372036854775807) : wr .i64 n = n := by unfold wr; rw [IntKind.wrap_i64]; omega
theorem wrS {i : Nat} (h : i < 9223372036854775807) : wr .i64 (addI (i : Int) 1) = ((i + 1 : Nat) : Int) := by rw [addI_d, wr64 (by omega)]; omega
theorem wr64_range (n : Int) : -9223372036854775808 ≤ wr .i64 n ∧ wr .i64 n ≤ 9223372036854775807 := by unfold wr; rw [IntKind.wrap_i64]; omega
theorem eqS_d (x y : ByteArray) : eqS x y = decide (x = y) := by
  unfold eqS
  rw [Bool.eq_iff_iff, beq_iff_eq, decide_eq_true_eq, ByteArray.toList_eq, ByteArray.toList_eq]
  constructor
  · intro h
    cases x; cases y; congr 1; exact Array.toList_inj.1 h
  · intro h; rw [h]
theorem eqS_t {x y : ByteArray} (h : x = y) : eqS x y = true := by rw [eqS_d]; exact decide_eq_true h
theorem eqS_f {x y : ByteArray} (h : ¬ x = y) : eqS x y = false := by rw [eqS_d]; exact decide_eq_false h
theorem eqS_to {x y : ByteArray} (h : eqS x y = true) : x = y := by rw [eqS_d] at h; exact of_decide_eq_true h
theorem eqB_d (a b : Bool) : eqB a b = decide (a = b) := by unfold eqB; cases a <;> cases b <;> rfl
theorem wf64 {n : Int} : okInt .i64 n ↔ (-9223372036854775808 ≤ n ∧ n ≤ 9223372036854775807) := by
  simp only [okInt, Lit.wf, IntKind.min, IntKind.max, IntKind.signed, IntKind.bits, Bool.and_eq_true, decide_eq_true_eq, if_true]
  omega
theorem okAll1 (s : Sc) (v : AV) : okAll [s] [v] = ok1 s v := by simp [okAll]

/-! rows of cells -/
section
variable {α : Type} {e : α → List AV} {sz : Nat}
theorem encs_len (h : ∀ a, (e a).length = sz) (xs : List α) : (xs.flatMap e).length = xs.length * sz := by
  induction xs with
  | nil => simp
  | cons x r ih => rw [List.flatMap_cons, List.length_append, ih, h, List.length_cons, Nat.succ_mul]; omega
theorem encs_get (h : ∀ a, (e a).length = sz) : ∀ (xs : List α) (i j : Nat) (hi : i < xs.length), j < sz → (xs.flatMap e)[i * sz + j]? = (e xs[i])[j]?
  | [], _, _, hi, _ => by simp at hi
  | x :: r, 0, j, _, hj => by rw [List.flatMap_cons, Nat.zero_mul, Nat.zero_add, List.getElem?_append_left (by rw [h]; exact hj)]; rfl
  | x :: r, i + 1, j, hi, hj => by
    rw [List.flatMap_cons, Nat.succ_mul, List.getElem?_append_right (by rw [h]; omega), h, show i * sz + sz + j - sz = i * sz + j by omega]
    exact encs_get h r i j (by simpa using hi) hj
theorem cell_enc (h : ∀ a, (e a).length = sz) {xs : List α} {i : Nat} (hi : i < xs.length) (j : Nat) (hj : j < sz) : cellAt (xs.flatMap e) (addN (mulN (natI (i : Int)) sz) j) = cellAt (e xs[i]) j := by
  unfold cellAt
  rw [List.getD_eq_getElem?_getD, List.getD_eq_getElem?_getD, natI_c, mulN_d, addN_d, encs_get h xs i j hi hj]
theorem cell_enc0 (h : ∀ a, (e a).length = sz) {xs : List α} {i : Nat} (hi : i < xs.length) (hj : 0 < sz) : cellAt (xs.flatMap e) (mulN (natI (i : Int)) sz) = cellAt (e xs[i]) 0 := cell_enc h hi 0 hj
theorem cut_all (h : ∀ a, (e a).length = sz) (xs : List α) : cutC (xs.flatMap e) 0 (mulN xs.length sz) = xs.flatMap e := by
  unfold cutC
  rw [List.drop_zero, List.take_of_length_le (by rw [encs_len h, mulN_d]; exact Nat.le_refl _)]
theorem cut_part (h : ∀ a, (e a).length = sz) (xs : List α) (l n : Nat) : cutC (xs.flatMap e) (mulN l sz) (mulN n sz) = ((xs.drop l).take n).flatMap e := by
  unfold cutC
  rw [mulN_d, mulN_d]
  have d : ∀ (l : Nat) (xs : List α), (xs.flatMap e).drop (l * sz) = (xs.drop l).flatMap e := by
    intro l
    induction l with
    | zero => intro xs; simp
    | succ l ih =>
      intro xs
      cases xs with
      | nil => simp
      | cons x r => rw [List.flatMap_cons, Nat.succ_mul, Nat.add_comm, ← List.drop_drop, ← h x, List.drop_left, List.drop_succ_cons, h x]; exact ih r
  have t : ∀ (n : Nat) (xs : List α), (xs.flatMap e).take (n * sz) = (xs.take n).flatMap e := by
    intro n
    induction n with
    | zero => intro xs; simp
    | succ n ih =>
      intro xs
      cases xs with
      | nil => simp
      | cons x r => rw [List.flatMap_cons, Nat.succ_mul, Nat.add_comm, List.take_add, ← h x, List.take_left, List.drop_left, List.take_succ_cons, List.flatMap_cons, h x, ih r]
  rw [d, t]
theorem cat_encs (xs ys : List α) : catC (xs.flatMap e) (ys.flatMap e) = (xs ++ ys).flatMap e := by unfold catC; rw [List.flatMap_append]
/-- A row's place filled anew. -/
theorem setMany_app : ∀ (vs cs : List AV) (o : Nat), o + vs.length ≤ cs.length → setMany cs o vs = cs.take o ++ vs ++ cs.drop (o + vs.length)
  | [], cs, o, _ => by simp [setMany]
  | v :: vs, cs, o, h => by
    rw [List.length_cons] at h
    rw [setMany, setMany_app vs _ _ (by rw [List.length_set]; omega), List.take_add_one, List.take_set_of_le (Nat.le_refl _), List.getElem?_set_self (by omega), List.drop_set_of_lt (by omega), List.length_cons, show o + (vs.length + 1) = o + 1 + vs.length by omega]
    simp
theorem set_encs (h : ∀ a, (e a).length = sz) : ∀ (xs : List α) (i : Nat) (x : α), i < xs.length → setMany (xs.flatMap e) (i * sz) (e x) = (xs.set i x).flatMap e
  | [], _, _, hi => by simp at hi
  | y :: r, 0, x, _ => by
    rw [setMany_app _ _ _ (by rw [List.flatMap_cons, List.length_append, h, h]; omega), Nat.zero_mul, List.take_zero, Nat.zero_add, List.nil_append, List.flatMap_cons, h x, ← h y, List.drop_left, List.set_cons_zero, List.flatMap_cons]
  | y :: r, i + 1, x, hi => by
    have hi' : i < r.length := by simpa using hi
    have hl := encs_len h r
    have hm : (i + 1) * sz ≤ r.length * sz := Nat.mul_le_mul_right _ (by omega)
    rw [Nat.succ_mul] at hm
    have ih := set_encs h r i x hi'
    rw [setMany_app _ _ _ (by rw [h, hl]; omega)] at ih
    rw [setMany_app _ _ _ (by rw [List.flatMap_cons, List.length_append, h, h, hl, Nat.succ_mul]; omega), List.set_cons_succ, List.flatMap_cons, List.flatMap_cons, ← ih, Nat.succ_mul, Nat.add_comm (i * sz) sz]
    rw [h x, List.take_append, h y, List.take_of_length_le (by rw [h]; omega), show sz + i * sz - sz = i * sz by omega, Nat.add_assoc, List.drop_append, h y, List.drop_eq_nil_of_le (by rw [h]; omega), List.nil_append, show sz + (i * sz + sz) - sz = i * sz + sz by omega]
    simp [List.append_assoc]
end
/-- One place of a row filled, from the left. -/
theorem fill_at {α : Type} {e : α → List AV} {sz : Nat} (h : ∀ a, (e a).length = sz) {z : List AV} (hz : z.length = sz) (pre : List α) (x : α) (d : Nat) :
    setMany (pre.flatMap e ++ (List.replicate (d + 1) z).flatten) (pre.length * sz) (e x) = (pre ++ [x]).flatMap e ++ (List.replicate d z).flatten := by
  have hl := encs_len h pre
  rw [setMany_app _ _ _ (by rw [List.length_append, hl, h, List.replicate_succ, List.flatten_cons, List.length_append, hz]; omega), List.take_append, hl, List.take_of_length_le (by omega), Nat.sub_self, List.take_zero, List.append_nil,
    List.drop_append, hl, List.drop_eq_nil_of_le (by omega), List.nil_append, h, Nat.add_sub_cancel_left, List.replicate_succ, List.flatten_cons, ← hz, List.drop_left, List.flatMap_append, List.flatMap_singleton]
theorem fill_len {α : Type} {e : α → List AV} {sz : Nat} (h : ∀ a, (e a).length = sz) {z : List AV} (hz : z.length = sz) (pre : List α) (d : Nat) : (pre.flatMap e ++ (List.replicate d z).flatten).length = pre.length * sz + d * sz := by
  rw [List.length_append, encs_len h]; simp [hz]
theorem take_next {α : Type} (xs : List α) (i : Nat) (hi : i < xs.length) : xs.take i ++ [xs[i]] = xs.take (i + 1) := by rw [List.take_add_one, List.getElem?_eq_getElem hi]; rfl
theorem fit_small {n : Nat} {b : Nat} (h : n ≤ 1048576) (hb : b ≤ 4096) : fitMk (lenI n) (lenI n) b = true := by
  unfold fitMk lenI
  have : n * b ≤ 1048576 * 4096 := Nat.mul_le_mul h hb
  have h2 : (n : Int) * (b : Int) = ((n * b : Nat) : Int) := by push_cast; rfl
  rw [h2]
  exact decide_eq_true ⟨by omega, by omega, by omega, by omega⟩
theorem fitS_small {a b : ByteArray} (h : a.size + b.size ≤ 4294967296) : fitS a b = true := Nat.ble_eq_true_of_le (by omega)
/-- One round of a loop that fills a row with another's elements. -/
theorem fill_step {α : Type} (xs ys : List α) (i : Nat) (hi : i < xs.length) (hl : ys.length = xs.length) (h : ys.take i = xs.take i) : (ys.set i xs[i]).take (i + 1) = xs.take (i + 1) := by
  rw [List.take_add_one, List.take_set_of_le (Nat.le_refl _), h, List.take_add_one]
  congr 1
  rw [List.getElem?_set_self (by omega), List.getElem?_eq_getElem hi]
theorem fill_done {α : Type} (xs ys : List α) (hl : ys.length = xs.length) (h : ys.take xs.length = xs.take xs.length) : ys = xs := by
  rw [List.take_of_length_le (by omega), List.take_of_length_le (Nat.le_refl _)] at h
  exact h
theorem rep_encs {α : Type} {e : α → List AV} (z : α) {cs : List AV} (h : e z = cs) (n : Nat) : repC n cs = (List.replicate n z).flatMap e := by
  unfold repC
  rw [List.flatMap_def, List.map_replicate, h]
end Go.Proofs.YtlcnpecejhcnfaaDoor.EV
namespace Go.Proofs.YtlcnpecejhcnfaaDoor.EV
set_option linter.unusedVariables false
set_option linter.unusedSimpArgs false
open Go Go.RowKit
set_option linter.unusedVariables false
set_option linter.unusedSimpArgs false

def wrap64 (n : Int) : Int := (n + 9223372036854775808) % 18446744073709551616 - 9223372036854775808
theorem wr_64 (n : Int) : wr .i64 n = wrap64 n := by unfold wr wrap64; rw [IntKind.wrap_i64]
def rd (xs : List Int) (i : Int) : Int := xs.getD i.toNat 0
def bt (s : ByteArray) (i : Int) : Int := if h : i.toNat < s.size then ((s[i.toNat]'h).toNat : Int) else 0
def bts (s : ByteArray) : List Int := s.data.toList.map fun b => (b.toNat : Int)
def strOfNums (xs : List Int) : ByteArray := ⟨(xs.map fun n => UInt8.ofNat n.toNat).toArray⟩
def rdOf {α : Type} (d : α) (xs : List α) (i : Int) : α := xs.getD i.toNat d
theorem strOfNums_data (xs : List Int) : (strOfNums xs).data.toList = xs.map fun n => UInt8.ofNat n.toNat := rfl
theorem strOfNums_size (xs : List Int) : (strOfNums xs).size = xs.length := by
  show (strOfNums xs).data.size = _
  rw [← Array.length_toList, strOfNums_data, List.length_map]
theorem bts_length (s : ByteArray) : (bts s).length = s.size := by rw [bts, List.length_map, Array.length_toList]; rfl
theorem rd_bts (s : ByteArray) (i : Int) : rd (bts s) i = bt s i := by
  unfold rd bt bts
  rw [List.getD_eq_getElem?_getD, List.getElem?_map]
  by_cases h : i.toNat < s.size
  · rw [dif_pos h, List.getElem?_eq_getElem (by rw [Array.length_toList]; exact h)]
    rfl
  · rw [dif_neg h, List.getElem?_eq_none (by rw [Array.length_toList]; exact Nat.le_of_not_lt h)]
    rfl
theorem getS_bt (s : ByteArray) (i : Int) : getS s i = bt s i := by
  unfold getS bt
  by_cases h : i.toNat < s.size
  · rw [dif_pos h, getElem?_pos s i.toNat h]
  · rw [dif_neg h, getElem?_neg s i.toNat h]
/-! ### numbers -/
theorem w64 {n : Int} (h : -9223372036854775808 ≤ n ∧ n ≤ 9223372036854775807) : wrap64 n = n := by unfold wrap64; omega
theorem w64_range (n : Int) : -9223372036854775808 ≤ wrap64 n ∧ wrap64 n ≤ 9223372036854775807 := by unfold wrap64; omega
theorem wSucc {i : Int} {n : Nat} (h0 : 0 ≤ i) (h : i ≤ n) (hn : n ≤ 281474976710656) : wrap64 (i + 1) = i + 1 := w64 (by omega)
theorem wNat {i : Nat} (h : i ≤ 281474976710656) : wrap64 ((i : Int) + 1) = ((i + 1 : Nat) : Int) := by unfold wrap64; omega
theorem wraps_i64 (n : Int) (h₀ : 0 ≤ n) (h₁ : n < 2 ^ 63) : IntKind.i64.wrap n = n := by rw [IntKind.wrap_i64]; omega
theorem beq_dec (a b : Int) : (a == b) = decide (a = b) := by rw [Bool.eq_iff_iff]; simp
theorem tmod_pos {a b : Int} (h : 0 ≤ a) : Int.tmod a b = a % b := Int.tmod_eq_emod_of_nonneg h
theorem tdiv_pos {a b : Int} (h : 0 ≤ a) : Int.tdiv a b = a / b := Int.tdiv_eq_ediv_of_nonneg h

/-! ### texts -/
theorem ba_toList (s : ByteArray) : s.toList = s.data.toList := ByteArray.toList_eq s
theorem ba_ext {a b : ByteArray} (h : a.data.toList = b.data.toList) : a = b := by
  cases a; cases b; congr 1; exact Array.toList_inj.1 h
theorem ba_eq {a b : ByteArray} : a.toList = b.toList ↔ a = b := by
  rw [ba_toList, ba_toList]
  exact ⟨ba_ext, fun h => by rw [h]⟩
theorem bts_inj {a b : ByteArray} (h : bts a = bts b) : a = b := by
  apply ba_ext
  unfold bts at h
  have h' := congrArg (List.map (fun n : Int => UInt8.ofNat n.toNat)) h
  simpa [Function.comp_def] using h'
theorem bts_eq {a b : ByteArray} : bts a = bts b ↔ a = b := ⟨bts_inj, fun h => by rw [h]⟩
theorem bts_range {s : ByteArray} {x : Int} (h : x ∈ bts s) : 0 ≤ x ∧ x < 256 := by
  unfold bts at h
  obtain ⟨b, _, rfl⟩ := List.mem_map.1 h
  have := b.toNat_lt
  omega
theorem strOf_bts (s : ByteArray) : strOfNums (bts s) = s := by
  apply ba_ext
  rw [strOfNums_data]
  simp [bts, Function.comp_def]
theorem bts_strOf {xs : List Int} (h : ∀ x ∈ xs, 0 ≤ x ∧ x < 256) : bts (strOfNums xs) = xs := by
  unfold bts
  rw [strOfNums_data, List.map_map]
  conv => rhs; rw [← List.map_id xs]
  refine List.map_congr_left fun x hx => ?_
  have h' := h x hx
  have h2 : x.toNat % 256 = x.toNat := Nat.mod_eq_of_lt (by omega)
  simp [h2]
  omega
theorem strOf_inj {a b : List Int} (ha : ∀ x ∈ a, 0 ≤ x ∧ x < 256) (hb : ∀ x ∈ b, 0 ≤ x ∧ x < 256) (h : strOfNums a = strOfNums b) : a = b := by
  rw [← bts_strOf ha, ← bts_strOf hb, h]
theorem bts_append (a b : ByteArray) : bts (a ++ b) = bts a ++ bts b := by
  unfold bts
  rw [← List.map_append]
  congr 1
theorem strOf_append (a b : List Int) : strOfNums (a ++ b) = strOfNums a ++ strOfNums b := by
  apply ba_ext
  rw [strOfNums_data, ByteArray.data_append, Array.toList_append, strOfNums_data, strOfNums_data, List.map_append]
theorem strOf_nil : strOfNums [] = (⟨#[]⟩ : ByteArray) := rfl
theorem bts_nil : bts (⟨#[]⟩ : ByteArray) = [] := rfl
theorem bts_empty : bts ByteArray.empty = [] := rfl
theorem bts_extract (s : ByteArray) (i j : Nat) : bts (s.extract i j) = ((bts s).drop i).take (j - i) := by
  unfold bts
  rw [← List.map_drop, ← List.map_take]
  congr 1
  rw [ByteArray.data_extract]
  simp [Array.toList_extract, List.extract_eq_take_drop]
theorem bt_eq (s : ByteArray) (i : Int) : bt s i = rd (bts s) i := (rd_bts s i).symm
theorem size_eq (s : ByteArray) : s.size = (bts s).length := (bts_length s).symm
theorem toList_nil {s : ByteArray} : s.toList = ([] : List UInt8) ↔ s.size = 0 := by
  rw [ba_toList]
  show _ ↔ s.data.size = 0
  rw [← Array.length_toList, List.length_eq_zero_iff]
theorem ba_append_nil (a : ByteArray) : a ++ (⟨#[]⟩ : ByteArray) = a := by
  apply bts_inj; rw [bts_append, bts_nil, List.append_nil]
theorem ba_nil_append (a : ByteArray) : (⟨#[]⟩ : ByteArray) ++ a = a := by
  apply bts_inj; rw [bts_append, bts_nil, List.nil_append]
theorem ba_append_assoc (a b c : ByteArray) : a ++ b ++ c = a ++ (b ++ c) := by
  apply bts_inj; simp only [bts_append, List.append_assoc]
theorem size_append (a b : ByteArray) : (a ++ b).size = a.size + b.size := ByteArray.size_append
theorem size_zero {s : ByteArray} (h : s.size = 0) : s = (⟨#[]⟩ : ByteArray) := by
  apply bts_inj
  rw [bts_nil]
  apply List.eq_nil_of_length_eq_zero
  rw [bts_length, h]

/-! ### lists -/
theorem dec_cons {α : Type} [DecidableEq α] {a b : α} (h : a = b) (x y : List α) : decide (x = y) = decide (a :: x = b :: y) := by subst h; simp
theorem dec_ne {α : Type} [DecidableEq α] {a b : α} (h : ¬ a = b) (x y : List α) : false = decide (a :: x = b :: y) := by
  rw [eq_comm, decide_eq_false_iff_not]
  intro e
  injection e with e
  exact h e
theorem rd_nat (xs : List Int) (i : Nat) : rd xs (i : Int) = xs.getD i 0 := rfl
theorem rd_get (xs : List Int) (i : Nat) (h : i < xs.length) : rd xs (i : Int) = xs[i] := by
  unfold rd; simp [List.getD_eq_getElem?_getD, List.getElem?_eq_getElem h]
theorem getD_get {α : Type} (xs : List α) (i : Nat) (d : α) (h : i < xs.length) : xs.getD i d = xs[i] := by
  simp [List.getD_eq_getElem?_getD, List.getElem?_eq_getElem h]
theorem rd_mem {xs : List Int} {i : Int} (h0 : 0 ≤ i) (h : i < xs.length) : rd xs i ∈ xs := by
  obtain ⟨n, rfl⟩ := Int.eq_ofNat_of_zero_le h0
  rw [rd_get xs n (by omega)]
  exact List.getElem_mem _
theorem drop_cons {α : Type} (xs : List α) (i : Nat) (h : i < xs.length) : xs.drop i = xs[i] :: xs.drop (i + 1) := List.drop_eq_getElem_cons h

theorem rd_set {xs : List Int} {i : Nat} (v : Int) (j : Nat) (h : i < xs.length) : rd (xs.set i v) (j : Int) = if j = i then v else rd xs (j : Int) := by
  rw [rd_nat, rd_nat, List.getD_eq_getElem?_getD, List.getD_eq_getElem?_getD, List.getElem?_set]
  by_cases hj : j = i
  · subst hj; simp [h]
  · rw [if_neg (Ne.symm hj), if_neg hj]
theorem rd_ext {xs ys : List Int} (hl : xs.length = ys.length) (h : ∀ j : Nat, j < xs.length → rd xs (j : Int) = rd ys (j : Int)) : xs = ys := by
  refine List.ext_getElem hl fun i h1 h2 => ?_
  have := h i h1
  rwa [rd_get xs i h1, rd_get ys i h2] at this
theorem rd_reverse {xs : List Int} {j : Nat} (h : j < xs.length) : rd xs.reverse (j : Int) = rd xs ((xs.length - 1 - j : Nat) : Int) := by
  rw [rd_get _ j (by simpa using h), rd_get xs _ (by omega), List.getElem_reverse]

theorem rdOf_get {α : Type} (d : α) (xs : List α) (i : Nat) (h : i < xs.length) : rdOf d xs (i : Int) = xs[i] := by
  unfold rdOf; simp [List.getD_eq_getElem?_getD, List.getElem?_eq_getElem h]
theorem getD_get' {α : Type} (d : α) (xs : List α) (i : Nat) (h : i < xs.length) : xs.getD (i : Int).toNat d = xs[i] := by
  simp [List.getD_eq_getElem?_getD, List.getElem?_eq_getElem h]
/-- One round of a loop that fills a row with what comes of another's elements. -/
theorem fillm_step {α β : Type} (f : α → β) (xs : List α) (ys : List β) (i : Nat) (hi : i < xs.length) (hl : ys.length = xs.length) (h : ys.take i = (xs.map f).take i) :
    (ys.set i (f (xs[i]))).take (i + 1) = (xs.map f).take (i + 1) := by
  rw [List.take_add_one, List.take_set_of_le (Nat.le_refl _), h, List.take_add_one]
  congr 1
  rw [List.getElem?_set_self (by omega), List.getElem?_eq_getElem (by simpa using hi)]
  simp
theorem fillm_done {α β : Type} (f : α → β) (xs : List α) (ys : List β) (hl : ys.length = xs.length) (h : ys.take xs.length = (xs.map f).take xs.length) : ys = xs.map f := by
  rw [List.take_of_length_le (by omega), List.take_of_length_le (by simp)] at h
  exact h

end Go.Proofs.YtlcnpecejhcnfaaDoor.EV
