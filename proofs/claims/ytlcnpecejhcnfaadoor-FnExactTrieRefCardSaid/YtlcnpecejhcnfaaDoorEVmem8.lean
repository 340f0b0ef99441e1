/- Places, parts, cuts. No conditions. -/
import Derived.Test.YtlcnpecejhcnfaaDoorEVmem7
namespace Go.Proofs.YtlcnpecejhcnfaaDoor.EV
set_option linter.unusedVariables false
set_option linter.unusedSimpArgs false
open Go Go.RowKit

theorem did_val {P : Program} {w : World} {C : Ctx} {H : Nat → Option Blk} (hH : RelH P w C H) {base : Nat} {s : Sem Value} {v : AV} {u : Value} (e : s.run P w = .ok u w) (r : Rep w C v u) : Did P w C H base (do pure (.value (← s))) v (after H [] [] []) :=
  ⟨.value u, u, w, C, by rw [Sem.run_bind, e]; rfl, .inl rfl, r, hH, Kept.refl _ _ _, fun _ _ q => q⟩
theorem did_now {P : Program} {w : World} {C : Ctx} {H : Nat → Option Blk} (hH : RelH P w C H) {base : Nat} {v : AV} {u : Value} (r : Rep w C v u) : Did P w C H base (pure (.value u)) v (after H [] [] []) :=
  ⟨.value u, u, w, C, rfl, .inl rfl, r, hH, Kept.refl _ _ _, fun _ _ q => q⟩

theorem fieldOff_some {P : Program} {t : TypeId} {i : Nat} {f : Nat × TypeId} (h : fieldOff P t i = some f) : ∃ (fs : Array Field) (g : Field), und P t = .struct fs ∧ fs[i]? = some g ∧ f = (g.offset, g.type) := by
  unfold fieldOff at h
  cases e : und P t <;> rw [e] at h <;> first | (simp at h; done) | skip
  rename_i fs
  simp only at h
  cases e2 : fs[i]? with
  | none => rw [e2] at h; simp at h
  | some g => rw [e2] at h; simp at h; exact ⟨fs, g, rfl, e2, h.symm⟩
theorem run_fieldAt {P : Program} {w : World} {t : TypeId} {i : Nat} {f : Nat × TypeId} (h : fieldOff P t i = some f) (hs : okT P f.2 = true) (b o : Nat) :
    (Instr.fieldAt t (.pointer (some ⟨b, o, none⟩)) i).run P w = .ok (.pointer (some ⟨b, o + f.1, none⟩)) w := by
  obtain ⟨fs, g, e1, e2, rfl⟩ := fieldOff_some h
  obtain ⟨_, _, _, _, h1, _⟩ := okT_info hs
  have h1' : 1 ≤ szOf P g.type := h1
  unfold Instr.fieldAt
  simp only [Sem.run_bind, run_und e1 (by simp), Result.andThen_ok, e2, Instr.sureAddr, Sem.run_pure, fieldPlace, run_sizeOf hs]
  rw [if_neg (by show ¬ szOf P g.type = 0; omega)]
  simp only [Sem.run_pure, Result.andThen_ok, Addr.add_mid]
theorem run_part {P : Program} {w : World} {C : Ctx} {t : TypeId} (hs : okT P t = true) {xs : List AV} {vs : List Value} (r : RepL w C xs vs) {off : Nat} (hl : off + szOf P t ≤ xs.length) :
    ∃ u, (part t vs.toArray off).run P w = .ok u w ∧ Rep w C (plainAs P t (window xs off (szOf P t))) u := by
  obtain ⟨i, d, e, hsz, h1, _⟩ := okT_info hs
  have hlen := repL_length r
  have hw : RepL w C (window xs off (szOf P t)) ((vs.drop off).take (szOf P t)) := by
    refine repL_of (by rw [window_length, List.length_take, List.length_drop]; omega) fun j x u hx hu => ?_
    have hj : j < szOf P t := by have := (List.getElem?_eq_some_iff.1 hx).1; rwa [window_length] at this
    rw [window_get _ _ _ _ hj] at hx
    cases hx
    rw [List.getElem?_take, if_pos hj, List.getElem?_drop] at hu
    have hx2 : xs[off + j]? = some xs[off + j] := List.getElem?_eq_getElem (by omega)
    obtain ⟨u2, q1, q2⟩ := repL_get r hx2
    rw [q1] at hu; cases hu
    have : cellAt xs (off + j) = xs[off + j] := by simp [cellAt, List.getD, hx2]
    rw [this]; exact q2
  have h0 : ((vs.drop off).take (szOf P t)).head? = some (vs[off]'(by omega)) := by
    rw [List.head?_take, if_neg (by omega), List.head?_drop, List.getElem?_eq_getElem (by omega)]
  have hp := plain_rep (P := P) (t := t) hw h0
  unfold part
  simp only [Sem.run_bind, run_isAgg hs w, Result.andThen_ok]
  cases hb : isAggT P t with
  | true =>
    rw [hb] at hp
    rw [if_pos rfl] at hp ⊢
    refine ⟨_, ?_, hp⟩
    simp only [Sem.run_bind, run_sizeOf hs, Result.andThen_ok, Sem.run_pure]
    congr 2
    apply Array.ext'
    rw [Array.toList_extract]
    simp
  | false =>
    rw [hb] at hp
    rw [if_neg (by simp)] at hp ⊢
    refine ⟨_, ?_, hp⟩
    have : vs.toArray[off]? = some (vs[off]'(by omega)) := by simp
    rw [this]
    rfl
theorem field_ok {P : Program} {w : World} {C : Ctx} {H : Nat → Option Blk} (hH : RelH P w C H) (base : Nat) {t : TypeId} {i : Nat} {f : Nat × TypeId} (h : fieldOff P t i = some f) {xs : List AV} {vx : Value} (rx : Rep w C (.agg xs) vx)
    (hg : (okT P f.2 && Nat.ble (f.1 + szOf P f.2) xs.length) = true) :
    Did P w C H base (do pure (.value (← Instr.field t vx i))) (plainAs P f.2 (window xs f.1 (szOf P f.2))) (after H [] [] []) := by
  rw [Bool.and_eq_true] at hg
  obtain ⟨vs, rfl, r⟩ := rx
  obtain ⟨u, q1, q2⟩ := run_part hg.1 r (Nat.le_of_ble_eq_true hg.2)
  obtain ⟨fs, g, e1, e2, rfl⟩ := fieldOff_some h
  refine did_val hH ?_ q2
  unfold Instr.field
  simp only [Sem.run_bind, run_und e1 (by simp), Result.andThen_ok, e2, asAgg, Sem.run_pure]
  exact q1

theorem elem_eq {P : Program} {t e : TypeId} (h : und P t = .slice e) : P.underlying t = some (.slice e) := und_eq h (by simp)
theorem run_indexAt_slice {P : Program} {w : World} {t e : TypeId} (ht : und P t = .slice e) (hs : okT P e = true) (a : Addr) (n cap : Nat) (k : IntKind) (i : Int) (h0 : 0 ≤ i) (h1 : i < n) :
    (Instr.indexAt t (.slice (some a) n cap) (.int k i)).run P w = .ok (.pointer (some (a.add (i.toNat * szOf P e)))) w := by
  unfold Instr.indexAt
  simp only [Sem.run_bind, asIntOf, Sem.run_pure, Result.andThen_ok, run_und ht (by simp)]
  rw [if_pos ⟨h0, h1⟩]
  simp only [Sem.run_bind, run_sizeOf hs, Result.andThen_ok, Sem.run_pure]
theorem run_indexAt_array {P : Program} {w : World} {t e : TypeId} {n : Nat} (ht : und P t = .array n e) (hs : okT P e = true) (a : Addr) (k : IntKind) (i : Int) (h0 : 0 ≤ i) (h1 : i < n) :
    (Instr.indexAt t (.pointer (some a)) (.int k i)).run P w = .ok (.pointer (some (a.add (i.toNat * szOf P e)))) w := by
  unfold Instr.indexAt
  simp only [Sem.run_bind, asIntOf, Sem.run_pure, Result.andThen_ok, run_und ht (by simp), Instr.sureAddr]
  rw [if_pos ⟨h0, h1⟩]
  simp only [Sem.run_bind, run_sizeOf hs, Result.andThen_ok, Sem.run_pure]
theorem inR_of {i : Int} {n : Nat} (h : inR i n = true) : 0 ≤ i ∧ i < n := by simpa [inR] using h

theorem own_real {w : World} {C : Ctx} {id off n : Nat} {v : Value} (r : Rep w C (.own id off n) v) (hn : 0 < n) : ∃ L cap, C.φ id = some L ∧ v = .slice (some ⟨L.b, L.d + off, none⟩) n cap := by
  obtain ⟨a, cap, rfl, hc, r⟩ := r
  rcases r with ⟨rfl, rfl⟩ | ⟨L, q1, rfl, _⟩
  · omega
  · exact ⟨L, cap, q1, rfl⟩
theorem index_own {P : Program} {w : World} {C : Ctx} {t e : TypeId} (ht : und P t = .slice e) {id off n : Nat} {vx : Value} (rx : Rep w C (.own id off n) vx) {k : IntKind} {i : Int} (hg : (okT P e && inR i n) = true) :
    ∃ u, (Instr.indexAt t vx (.int k i)).run P w = .ok u w ∧ Rep w C (.ptr id (addN off (mulN (natI i) (szOf P e)))) u := by
  rw [Bool.and_eq_true] at hg
  obtain ⟨h0, h1⟩ := inR_of hg.2
  obtain ⟨L, cap, q1, rfl⟩ := own_real rx (by omega)
  refine ⟨_, run_indexAt_slice ht hg.1 _ n cap k i h0 h1, L, q1, ?_⟩
  rw [Addr.add_mid, Nat.add_assoc]; rfl
theorem index_fs {P : Program} {w : World} {C : Ctx} {t e : TypeId} (ht : und P t = .slice e) {n : Nat} {cs : List AV} {vx : Value} (rx : Rep w C (.fs n cs) vx) {k : IntKind} {i : Int} (hg : (okT P e && inR i n) = true) :
    ∃ u, (Instr.indexAt t vx (.int k i)).run P w = .ok u w ∧ Rep w C (.fp cs (mulN (natI i) (szOf P e))) u := by
  rw [Bool.and_eq_true] at hg
  obtain ⟨h0, h1⟩ := inR_of hg.2
  obtain ⟨a, cap, rfl, hc, r⟩ := rx
  rcases r with ⟨rfl, rfl⟩ | ⟨b, o, rfl, hf, r⟩
  · omega
  · refine ⟨_, run_indexAt_slice ht hg.1 _ n cap k i h0 h1, b, o, ?_, hf, r⟩
    rw [Addr.add_mid]; rfl
theorem index_ptr {P : Program} {w : World} {C : Ctx} {t e : TypeId} {n : Nat} (ht : und P t = .array n e) {id off : Nat} {vx : Value} (rx : Rep w C (.ptr id off) vx) {k : IntKind} {i : Int} (hg : (okT P e && inR i n) = true) :
    ∃ u, (Instr.indexAt t vx (.int k i)).run P w = .ok u w ∧ Rep w C (.ptr id (addN off (mulN (natI i) (szOf P e)))) u := by
  rw [Bool.and_eq_true] at hg
  obtain ⟨h0, h1⟩ := inR_of hg.2
  obtain ⟨L, q1, rfl⟩ := rx
  refine ⟨_, run_indexAt_array ht hg.1 _ k i h0 h1, L, q1, ?_⟩
  rw [Addr.add_mid, Nat.add_assoc]; rfl
theorem index_fp {P : Program} {w : World} {C : Ctx} {t e : TypeId} {n : Nat} (ht : und P t = .array n e) {cs : List AV} {off : Nat} {vx : Value} (rx : Rep w C (.fp cs off) vx) {k : IntKind} {i : Int} (hg : (okT P e && inR i n) = true) :
    ∃ u, (Instr.indexAt t vx (.int k i)).run P w = .ok u w ∧ Rep w C (.fp cs (addN off (mulN (natI i) (szOf P e)))) u := by
  rw [Bool.and_eq_true] at hg
  obtain ⟨h0, h1⟩ := inR_of hg.2
  obtain ⟨b, o, rfl, hf, r⟩ := rx
  refine ⟨_, run_indexAt_array ht hg.1 _ k i h0 h1, b, o, ?_, hf, r⟩
  rw [Addr.add_mid, Nat.add_assoc]; rfl

/-! Cuts. -/
/-- The bounds of a cut as they are typed. -/
def asBound (w : World) (C : Ctx) (ρ : Option AV) (v : Option Value) : Prop := match ρ, v with
  | none, none => True
  | some x, some u => Rep w C x u
  | _, _ => False
theorem bound_case {w : World} {C : Ctx} {d a : Int} {lo : Option AV} {vlo : Option Value} (e : boundOf d lo = some a) (r : asBound w C lo vlo) : (vlo = none ∧ a = d) ∨ ∃ k, vlo = some (.int k a) := by
  cases lo with
  | none => cases vlo with
    | none => simp only [boundOf, Option.some.injEq] at e; exact .inl ⟨rfl, e.symm⟩
    | some u => exact r.elim
  | some x => cases vlo with
    | none => exact r.elim
    | some u =>
      cases x <;> simp only [boundOf, reduceCtorEq, Option.some.injEq] at e
      rename_i k n
      subst e
      have : u = .int k n := r
      exact .inr ⟨k, by rw [this]⟩
theorem bounds_cases {w : World} {C : Ctx} {len : Nat} {lo hi : Option AV} {vlo vhi : Option Value} {g : Bool} {l h : Nat} (e : sliceBounds len lo hi = some (g, l, h)) (hg : g = true) (rl : asBound w C lo vlo) (rh : asBound w C hi vhi) :
    l ≤ h ∧ h ≤ len ∧ ((vlo = none ∧ l = 0) ∨ ∃ k, vlo = some (.int k l)) ∧ ((vhi = none ∧ h = len) ∨ ∃ k, vhi = some (.int k h)) := by
  unfold sliceBounds at e
  subst hg
  cases a1 : boundOf 0 lo with
  | none => rw [a1] at e; simp at e
  | some a =>
    cases b1 : boundOf (lenI len) hi with
    | none => rw [a1, b1] at e; simp at e
    | some b =>
      have a2 := bound_case a1 rl
      have b2 := bound_case b1 rh
      rw [a1, b1] at e
      simp only [Option.some.injEq, Prod.mk.injEq] at e
      obtain ⟨e1, rfl, rfl⟩ := e
      simp only [inS, Bool.and_eq_true, decide_eq_true_eq] at e1
      obtain ⟨⟨c1, c2⟩, c3⟩ := e1
      unfold natI lenI at *
      have ea : ((a.toNat : Nat) : Int) = a := Int.toNat_of_nonneg c1
      have eb : ((b.toNat : Nat) : Int) = b := Int.toNat_of_nonneg (by omega)
      refine ⟨by omega, by omega, ?_, ?_⟩
      · rcases a2 with ⟨q1, q2⟩ | ⟨k, q⟩
        · exact .inl ⟨q1, by omega⟩
        · exact .inr ⟨k, by rw [ea]; exact q⟩
      · rcases b2 with ⟨q1, q2⟩ | ⟨k, q⟩
        · exact .inl ⟨q1, by omega⟩
        · exact .inr ⟨k, by rw [eb]; exact q⟩
theorem run_bounds {P : Program} {w : World} {len cap : Nat} {isS : Bool} {vlo vhi : Option Value} {l h : Nat} (h1 : l ≤ h) (h2 : h ≤ len) (h3 : len ≤ cap) (hl : (vlo = none ∧ l = 0) ∨ ∃ k, vlo = some (.int k l)) (hh : (vhi = none ∧ h = len) ∨ ∃ k, vhi = some (.int k h)) :
    (Instr.sliceBounds isS len cap vlo vhi none).run P w = .ok (l, h, cap) w := by
  unfold Instr.sliceBounds
  rcases hh with ⟨rfl, rfl⟩ | ⟨k, rfl⟩ <;> rcases hl with ⟨rfl, rfl⟩ | ⟨k', rfl⟩
  all_goals simp [Sem.run_bind, Instr.sliceBound, asIntOf]
  all_goals (repeat' split) <;> first | rfl | (simp; done) | omega | skip
end Go.Proofs.YtlcnpecejhcnfaaDoor.EV
