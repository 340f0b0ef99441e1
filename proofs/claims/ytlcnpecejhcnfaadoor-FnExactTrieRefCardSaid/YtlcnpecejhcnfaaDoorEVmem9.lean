/- Cuts, literals, builtins. No conditions. -/
import Derived.Test.YtlcnpecejhcnfaaDoorEVmem8
import Derived.Great.BuildSlice
namespace Go.Proofs.YtlcnpecejhcnfaaDoor.EV
set_option linter.unusedVariables false
set_option linter.unusedSimpArgs false
open Go Go.RowKit

theorem run_sliceAt_fs {P : Program} {w : World} {t e : TypeId} (ht : und P t = .slice e) (hs : okT P e = true) (a : Option Addr) (n cap l h : Nat) (vlo vhi : Option Value) (h1 : l ≤ h) (h2 : h ≤ n) (h3 : n ≤ cap) (hl : (vlo = none ∧ l = 0) ∨ ∃ k, vlo = some (.int k l)) (hh : (vhi = none ∧ h = n) ∨ ∃ k, vhi = some (.int k h)) :
    (Instr.sliceAt t (.slice a n cap) vlo vhi none).run P w = .ok (.slice (if cap = l then a else a.map (·.add (l * szOf P e))) (h - l) (cap - l)) w := by
  unfold Instr.sliceAt
  simp only [Sem.run_bind, run_und ht (by simp), Result.andThen_ok, Instr.slice, run_bounds (P := P) (w := w) (isS := true) h1 h2 h3 hl hh, run_sizeOf hs, Sem.run_pure]
theorem slice_fs {P : Program} {w : World} {C : Ctx} {t e : TypeId} (ht : und P t = .slice e) {n : Nat} {cs : List AV} {vx : Value} (rx : Rep w C (.fs n cs) vx) {lo hi : Option AV} {vlo vhi : Option Value} (rl : asBound w C lo vlo) (rh : asBound w C hi vhi)
    {g : Bool} {l h : Nat} (eb : sliceBounds n lo hi = some (g, l, h)) (hg : (okT P e && g) = true) :
    ∃ u, (Instr.sliceAt t vx vlo vhi none).run P w = .ok u w ∧ Rep w C (.fs (subN h l) (cutC cs (mulN l (szOf P e)) (mulN (subN h l) (szOf P e)))) u := by
  rw [Bool.and_eq_true] at hg
  obtain ⟨b1, b2, b3, b4⟩ := bounds_cases eb hg.2 rl rh
  obtain ⟨a, cap, rfl, hc, r⟩ := rx
  refine ⟨_, run_sliceAt_fs ht hg.1 a n cap l h vlo vhi b1 b2 hc b3 b4, _, _, rfl, by unfold subN; omega, ?_⟩
  by_cases hz : h - l = 0
  · left
    unfold subN mulN cutC
    rw [hz]
    simp
  · rcases r with ⟨rfl, rfl⟩ | ⟨b, o, rfl, hf, r⟩
    · omega
    · right
      rw [if_neg (by omega)]
      exact ⟨b, o + l * szOf P e, by rw [Option.map_some, Addr.add_mid], hf, repAt_cut r _ _⟩
theorem slice_own {P : Program} {w : World} {C : Ctx} {H : Nat → Option Blk} (hH : RelH P w C H) {t e : TypeId} (ht : und P t = .slice e) {id off n : Nat} {vx : Value} (rx : Rep w C (.own id off n) vx) {k : Blk} (hk : H id = some k) (hse : (Nat.beq k.elem 0 || Nat.beq (szOf P k.elem) (szOf P e)) = true) (ha : k.arr = true) (hst : k.st ≤ 1)
    {lo hi : Option AV} {vlo vhi : Option Value} (rl : asBound w C lo vlo) (rh : asBound w C hi vhi) {g : Bool} {l h : Nat} (eb : sliceBounds n lo hi = some (g, l, h)) (hg : (okT P e && g) = true) :
    ∃ u, (Instr.sliceAt t vx vlo vhi none).run P w = .ok u w ∧ Rep w C (.own id (addN off (mulN l (szOf P e))) (subN h l)) u := by
  rw [Bool.and_eq_true] at hg
  obtain ⟨b1, b2, b3, b4⟩ := bounds_cases eb hg.2 rl rh
  obtain ⟨a, cap, rfl, hc, r⟩ := rx
  refine ⟨_, run_sliceAt_fs ht hg.1 a n cap l h vlo vhi b1 b2 hc b3 b4, _, _, rfl, by unfold subN; omega, ?_⟩
  by_cases hz : cap = l
  · left
    unfold subN
    omega
  · rcases r with ⟨rfl, rfl⟩ | ⟨L, q1, rfl, q3, q4⟩
    · omega
    · right
      obtain ⟨k2, q5, ok⟩ := hH.blk id L q1
      rw [hk] at q5; cases q5
      rcases ok with ok | ⟨e0, cells, el, fr, e1, e2, e3, e4, _⟩
      · omega
      have hs := e4.1 ha
      have hse2 : L.s = szOf P e := by
        rcases Bool.or_eq_true _ _ ▸ hse with g | g
        · exact absurd (nbeq_eq g) hs.2
        · rw [hs.1]; exact nbeq_eq g
      rw [if_neg hz]
      have m1 : (cap - l) * L.s + l * L.s = cap * L.s := by rw [← Nat.add_mul]; congr 1; omega
      have m2 : (h - l) * L.s + l * L.s ≤ n * L.s := by rw [← Nat.add_mul]; exact Nat.mul_le_mul_right _ (by omega)
      refine ⟨L, q1, ?_, ?_, ?_⟩
      · rw [Option.map_some, Addr.add_mid, Nat.add_assoc]; rfl
      · unfold addN mulN; rw [← hse2]; omega
      · unfold addN mulN subN; rw [← hse2]; omega
theorem slice_nils {P : Program} {w : World} {C : Ctx} {t e : TypeId} (ht : und P t = .slice e) (hs : okT P e = true) {vx : Value} (rx : Rep w C .nils vx) {lo hi : Option AV} {vlo vhi : Option Value} (rl : asBound w C lo vlo) (rh : asBound w C hi vhi)
    {g : Bool} {l h : Nat} (eb : sliceBounds 0 lo hi = some (g, l, h)) (hg : g = true) :
    ∃ u, (Instr.sliceAt t vx vlo vhi none).run P w = .ok u w ∧ Rep w C .nils u := by
  obtain ⟨b1, b2, b3, b4⟩ := bounds_cases eb hg rl rh
  obtain ⟨_, rfl⟩ := rx
  refine ⟨_, run_sliceAt_fs ht hs none 0 0 l h vlo vhi b1 b2 (Nat.le_refl _) b3 b4, ?_⟩
  have : h - l = 0 := by omega
  have h0 : 0 - l = 0 := by omega
  rw [this, h0]
  exact ⟨(), by split <;> rfl⟩
theorem slice_str {P : Program} {w : World} {C : Ctx} {t : TypeId} (ht : und P t = .string) {s : ByteArray} {lo hi : Option AV} {vlo vhi : Option Value} (rl : asBound w C lo vlo) (rh : asBound w C hi vhi)
    {g : Bool} {l h : Nat} (eb : sliceBounds (lenS s) lo hi = some (g, l, h)) (hg : g = true) :
    ∃ u, (Instr.sliceAt t (.string s) vlo vhi none).run P w = .ok u w ∧ Rep w C (.str (subS s l h)) u := by
  obtain ⟨b1, b2, b3, b4⟩ := bounds_cases eb hg rl rh
  refine ⟨.string (s.extract l h), ?_, rfl⟩
  unfold Instr.sliceAt
  simp only [Sem.run_bind, run_und ht (by simp), Result.andThen_ok, Instr.slice, Option.isSome_none, Bool.false_eq_true, if_false, run_bounds (P := P) (w := w) (isS := false) (len := s.size) (cap := s.size) b1 b2 (Nat.le_refl _) b3 b4, Sem.run_pure]

/-! Literals. -/
theorem zip_set : ∀ (us : List Value) (acc : Array Value) (off j0 : Nat), (us.zipIdx j0).foldl (fun cs p => cs.setIfInBounds (off + p.2) p.1) acc = putsV acc (off + j0) us
  | [], _, _, _ => rfl
  | u :: r, acc, off, j0 => by
    rw [List.zipIdx_cons, List.foldl_cons, zip_set r _ off (j0 + 1), putsV, Nat.add_assoc]
theorem fill_ok {w : World} {C : Ctx} (place : Nat → Option (Nat × Nat)) : ∀ (parts : List (Nat × AV)) (vparts : List (Nat × Value)) (cells : List AV) (vcells : Array Value) (out : List AV),
    fillA place cells parts = some out → RepL w C cells vcells.toList → parts.length = vparts.length → (∀ (j : Nat) (p : Nat × AV) (q : Nat × Value), parts[j]? = some p → vparts[j]? = some q → p.1 = q.1 ∧ Rep w C p.2 q.2) →
    ∃ vout : Array Value, Instr.fill place vcells vparts = some vout ∧ RepL w C out vout.toList
  | [], vparts, cells, vcells, out, h, r, hl, _ => by
    cases vparts with
    | nil => simp only [fillA, Option.some.injEq] at h; subst h; exact ⟨vcells, rfl, r⟩
    | cons _ _ => simp at hl
  | (i, x) :: ps, vparts, cells, vcells, out, h, r, hl, hp => by
    cases vparts with
    | nil => simp at hl
    | cons q qs =>
      obtain ⟨i', u⟩ := q
      obtain ⟨e1, e2⟩ := hp 0 _ _ rfl rfl
      simp only at e1 e2
      subst e1
      simp only [fillA] at h
      cases hpl : place i with
      | none => rw [hpl] at h; simp at h
      | some os =>
        obtain ⟨off, size⟩ := os
        rw [hpl] at h
        simp only at h
        cases hc : (Nat.beq x.parts.length size && Nat.ble (off + x.parts.length) cells.length && x.parts.all one) <;> rw [hc] at h <;> simp only [reduceCtorEq] at h
        rw [Bool.and_eq_true, Bool.and_eq_true] at hc
        have hsz := nbeq_eq hc.1.1
        have hle := Nat.le_of_ble_eq_true hc.1.2
        have rp := parts_repL e2 hc.2
        have l1 := repL_length rp
        have l2 := repL_length r
        have l1' : x.parts.length = u.cells.size := by rw [l1]; simp
        have l2' : cells.length = vcells.size := by rw [l2]; simp
        have l3 : u.cells.toList.length = x.parts.length := l1.symm
        have hnew : RepL w C (setMany cells off x.parts) (putsV vcells off u.cells.toList).toList := by
          refine repL_of (by rw [setMany_length, l2']; simp [putsV_size]) fun j y v hy hv => ?_
          rw [setMany_get _ _ _ _ hle] at hy
          rw [Array.getElem?_toList, putsV_get _ _ _ _ (by rw [l3]; omega), l3] at hv
          split at hy
          · rename_i hj
            rw [if_pos hj] at hv
            obtain ⟨v2, q1, q2⟩ := repL_get rp hy
            rw [q1] at hv; cases hv; exact q2
          · rename_i hj
            rw [if_neg hj] at hv
            obtain ⟨v2, q1, q2⟩ := repL_get r hy
            rw [Array.getElem?_toList] at q1
            rw [q1] at hv; cases hv; exact q2
        obtain ⟨vout, f1, f2⟩ := fill_ok place ps qs _ _ out h hnew (by simpa using hl) (fun j p q hj hq => hp (j + 1) p q (by simpa using hj) (by simpa using hq))
        refine ⟨vout, ?_, f2⟩
        unfold Instr.fill
        rw [hpl]
        simp only
        rw [if_neg (by
          simp only [ne_eq, gt_iff_lt, Bool.or_eq_true, decide_eq_true_eq, not_or, Decidable.not_not, Nat.not_lt]
          omega)]
        rw [← f1]
        congr 1
        rw [← Array.foldl_toList, Array.toList_zipIdx]
        exact zip_set _ _ off 0
end Go.Proofs.YtlcnpecejhcnfaaDoor.EV
