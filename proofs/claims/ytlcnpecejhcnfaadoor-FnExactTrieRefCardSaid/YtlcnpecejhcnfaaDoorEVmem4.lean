/- New variables and rows; what is appended. No conditions. -/
import Derived.Test.YtlcnpecejhcnfaaDoorEVmem3
import Derived.Laws.Append
import Derived.IntWalk
namespace Go.Proofs.YtlcnpecejhcnfaaDoor.EV
set_option linter.unusedVariables false
set_option linter.unusedSimpArgs false
open Go Go.RowKit

theorem scalar_rep (w : World) (C : Ctx) (v : Value) : Rep w C (ofScalar v) v := by
  unfold ofScalar
  split <;> first | rfl | trivial | exact ⟨(), rfl⟩
theorem scalars_rep (w : World) (C : Ctx) : ∀ (vs : List Value), RepL w C (vs.map ofScalar) vs
  | [] => rfl
  | v :: r => ⟨v, r, rfl, scalar_rep w C v, scalars_rep w C r⟩
theorem const_rep (w : World) (C : Ctx) (v : Value) : Rep w C (ofConst v) v := by
  unfold ofConst
  split
  · rename_i cs
    exact ⟨cs.toList, by simp, scalars_rep w C _⟩
  · exact scalar_rep w C _
theorem okZ_info {P : Program} {t : TypeId} (h : okZ P t = true) : ∃ i z, P.info? t = some i ∧ i.zero = some z ∧ z.cells.size = i.size ∧ i.size = szOf P t ∧ 1 ≤ szOf P t ∧ okT P t = true ∧ zeroOf P t = z.cells.toList.map ofScalar ∧ i.bytes = byOf P t ∧ (1 ≤ i.bytes) ∧ ∀ v ∈ z.cells.toList, v.oneCell' = true := by
  unfold okZ at h
  rw [Bool.and_eq_true] at h
  obtain ⟨i, d, e, hs, h1, _⟩ := okT_info h.1
  have h2 := h.2
  rw [e] at h2
  simp only at h2
  cases hz : i.zero with
  | none => rw [hz] at h2; simp at h2
  | some z =>
    rw [hz] at h2
    simp only at h2
    rw [Bool.and_eq_true, Bool.and_eq_true] at h2
    refine ⟨i, z, e, hz, nbeq_eq h2.1.1, hs, h1, h.1, by simp [zeroOf, e, hz], by simp [byOf, e], Nat.le_of_ble_eq_true h2.1.2, fun v hv => ?_⟩
    have := List.all_eq_true.1 h2.2 v hv
    cases v <;> first | rfl | (simp at this)
theorem repL_bare_scalars (w : World) (C : Ctx) (vs : List Value) (j : Nat) (x : AV) (v : Value) (hx : (vs.map ofScalar)[j]? = some x) (hv : vs[j]? = some v) : Rep w C x v ∧ Rep w C.bare x v := by
  rw [List.getElem?_map, hv] at hx
  cases hx
  exact ⟨scalar_rep w C v, scalar_rep w C.bare v⟩

/-- A fresh variable. -/
theorem alloc_ok {P : Program} {w : World} {C : Ctx} {H : Nat → Option Blk} (hH : RelH P w C H) (base : Nat) (hb : C.φ base = none) {t : TypeId} (h : okZ P t = true) :
    Did P w C H base (do pure (.value (← Instr.alloc t true (.tuple #[])))) (.ptr base 0) (after H [(base, ⟨isArr P t, t, 0, zeroOf P t⟩)] [] []) := by
  obtain ⟨i, z, e, hz, hc, hs, h1, ok, hzo, _, _, hone⟩ := okZ_info h
  have hr := rel_new (P := P) hH base hb ⟨isArr P t, t, 0, zeroOf P t⟩ rfl z.cells t (szOf P t) (0, 0) (fun _ => ⟨rfl, okT_ne ok⟩) rfl (fun _ => by rw [hc, hs]) hone (by rw [hzo]; simp)
    (fun j x v hx hv => by
      rw [hzo] at hx
      have := repL_bare_scalars w C z.cells.toList j x v hx (by simpa using hv)
      exact ⟨this.1, fun _ => this.2⟩)
    (fun i _ q => by omega) (w.alloc (.cells z.cells t)) rfl rfl rfl rfl
  refine ⟨.value (.pointer (some ⟨w.heap.size, 0, none⟩)), _, w.alloc (.cells z.cells t), _, ?_, .inl rfl, ⟨_, upd_same _ _ _, rfl⟩, hr.1, hr.2, fun id q1 q2 => ?_⟩
  · simp [Instr.alloc, zeroValue, typeInfo, e, hz, newVar, newRow]
  · show upd C.φ base _ id = none
    rw [upd_other _ _ (by omega)]; exact q2
theorem flat1_bare {w : World} {C : Ctx} {x : AV} {v : Value} (h : flat1 x = true) (r : Rep w C x v) : Rep w C.bare x v := by
  cases x <;> simp only [flat1, Bool.false_eq_true] at h <;> exact r
theorem parts_len {x : AV} : 1 ≤ x.parts.length ∨ ∃ xs, x = .agg xs := by
  cases x <;> simp [AV.parts]
theorem box_ok {P : Program} {w : World} {C : Ctx} {H : Nat → Option Blk} (hH : RelH P w C H) (base : Nat) (hb : C.φ base = none) {t : TypeId} {x : AV} {v : Value} (rx : Rep w C x v)
    (h : (x.parts.all one && Nat.beq x.parts.length (szOf P t) && (!isArr P t || (okT P t && x.parts.all flat1))) = true) :
    Did P w C H base (do pure (.value (← Instr.box t v))) (.ptr base 0) (after H [(base, ⟨isArr P t, t, 0, x.parts⟩)] [] []) := by
  rw [Bool.and_eq_true, Bool.and_eq_true] at h
  obtain ⟨⟨h1, hln⟩, h2⟩ := h
  have h : x.parts.all one = true ∧ (!isArr P t || (okT P t && x.parts.all flat1)) = true := ⟨h1, h2⟩
  have rl := parts_repL rx h.1
  have hlen := repL_length rl
  have hr := rel_new (P := P) hH base hb ⟨isArr P t, t, 0, x.parts⟩ rfl v.cells t (szOf P t) (0, 0) (fun ha => ⟨rfl, okT_ne (by
      have h2 := h.2
      rw [show isArr P t = true from ha] at h2
      simp only [Bool.not_true, Bool.false_or, Bool.and_eq_true] at h2
      exact h2.1)⟩) rfl (fun _ => by rw [← nbeq_eq hln, hlen]; simp) (repL_one rl h.1) (by show x.parts.length ≤ _; rw [hlen]; simp)
    (fun j y u hx hv => by
      obtain ⟨u2, q1, q2⟩ := repL_get rl hx
      have : u2 = u := by
        have hv' : v.cells.toList[j]? = some u := by simpa using hv
        rw [q1] at hv'; exact Option.some.inj hv'
      subst this
      refine ⟨q2, fun ha => ?_⟩
      have h2 := h.2
      rw [show isArr P t = true from ha] at h2
      simp only [Bool.not_true, Bool.false_or, Bool.and_eq_true] at h2
      exact flat1_bare (List.all_eq_true.1 h2.2 y (List.mem_of_getElem? hx)) q2)
    (fun i _ q => by omega) (w.alloc (.cells v.cells t)) rfl rfl rfl rfl
  refine ⟨.value (.pointer (some ⟨w.heap.size, 0, none⟩)), _, w.alloc (.cells v.cells t), _, ?_, .inl rfl, ⟨_, upd_same _ _ _, rfl⟩, hr.1, hr.2, fun id q1 q2 => ?_⟩
  · simp [Instr.box, newVar, newRow]
  · show upd C.φ base _ id = none
    rw [upd_other _ _ (by omega)]; exact q2

/-! Elements one behind the other. -/
theorem rep_flat_get {α : Type} : ∀ (n : Nat) (z : List α) (j : Nat), 0 < z.length → j < n * z.length → (List.replicate n z).flatten[j]? = z[j % z.length]?
  | 0, z, j, _, h => by simp at h
  | n + 1, z, j, hz, h => by
    rw [List.replicate_succ, List.flatten_cons]
    by_cases hj : j < z.length
    · rw [List.getElem?_append_left hj, Nat.mod_eq_of_lt hj]
    · rw [List.getElem?_append_right (by omega), rep_flat_get n z (j - z.length) hz (by rw [Nat.succ_mul] at h; omega)]
      congr 1
      rw [← Nat.mod_eq_sub_mod (by omega)]
theorem rep_flat_len {α : Type} (n : Nat) (z : List α) : (List.replicate n z).flatten.length = n * z.length := by simp
theorem zeros_get (z : Array Value) (n j : Nat) (hz : 0 < z.size) (h : j < n * z.size) : ((Array.range (n * z.size)).map (z[· % z.size]!))[j]? = z[j % z.size]? := by
  have hm : j % z.size < z.size := Nat.mod_lt _ hz
  simp [h, hm]

/-- A made slice. -/
theorem make_ok {P : Program} {w : World} {C : Ctx} {H : Nat → Option Blk} (hH : RelH P w C H) (base : Nat) (hb : C.φ base = none) {t e : TypeId} (ht : und P t = .slice e) {k k' : IntKind} {l c : Int} (h : (okZ P e && fitMk l c (byOf P e)) = true) :
    Did P w C H base (do pure (.value (← Instr.makeSlice t (.int k l) (.int k' c)))) (.own base 0 (natI l)) (after H [(base, ⟨true, e, 0, repC (natI c) (zeroOf P e)⟩)] [] []) := by
  rw [Bool.and_eq_true] at h
  obtain ⟨i, z, ei, hz, hc, hs, h1, ok, hzo, hby, _, hone⟩ := okZ_info h.1
  have hf := h.2
  simp only [fitMk, decide_eq_true_eq] at hf
  obtain ⟨f1, f2, f3, f4⟩ := hf
  have hzs : 0 < z.cells.size := by omega
  have hlen : (repC (natI c) (zeroOf P e)).length = c.toNat * i.size := by
    unfold repC natI
    rw [rep_flat_len, hzo]; simp [hc]
  have hwl : IntKind.i64.wrap l = l := IntWalk.i64_in _ (by omega)
  have hwc : IntKind.i64.wrap c = c := IntWalk.i64_in _ (by omega)
  obtain ⟨cn, rfl⟩ : ∃ n : Nat, c = n := ⟨c.toNat, by omega⟩
  obtain ⟨ln, rfl⟩ : ∃ n : Nat, l = n := ⟨l.toNat, by omega⟩
  have hrun : ∃ cells : Array Value, cells.size = cn * i.size ∧ (∀ j, j < cn * i.size → cells[j]? = z.cells[j % z.cells.size]?) ∧
      (Instr.makeSlice t (.int k ln) (.int k' cn)).run P w = .ok (.slice (some ⟨w.heap.size, 0, none⟩) ln cn) (w.alloc (.cells cells e)) := by
    refine ⟨(Array.range (cn * i.size)).map (fun j => (if cn * i.size = 0 then (#[] : Array Value) else z.cells)[j % (if cn * i.size = 0 then (#[] : Array Value) else z.cells).size]!), by simp, fun j hj => ?_, ?_⟩
    · rw [if_neg (by omega), ← hc]
      exact zeros_get z.cells cn j hzs (by rw [hc]; exact hj)
    · have g1 : ¬ ((cn : Int) < 0) := by omega
      have g2 : ¬ ((i.bytes : Int) * (cn : Int) > 2 ^ 48) := by
        rw [hby, Int.mul_comm]; omega
      have g3 : ¬ ((ln : Int) < 0) := by omega
      have g4 : ¬ ((ln : Int) > (cn : Int)) := by omega
      unfold Instr.makeSlice
      simp only [Sem.run_bind, run_und ht (by simp), Result.andThen_ok, asInt, asIntOf, Sem.run_pure, typeInfo, run_program, ei, hwl, hwc, g1, g2, g3, g4, decide_false, Bool.or_self, Bool.false_or, Bool.false_eq_true, if_false, Int.toNat_natCast, run_askRoom, sizeOf, zeroValue, hz]
      split <;> simp [newRow, *]
  obtain ⟨cells, z1, z2, z3⟩ := hrun
  have hr := rel_new (P := P) hH base hb ⟨true, e, 0, repC (natI cn) (zeroOf P e)⟩ rfl cells e (szOf P e) (0, 0) (fun _ => ⟨rfl, okT_ne ok⟩) rfl (fun q => by cases q) (fun v hv => by
      obtain ⟨j, hj, rfl⟩ := List.mem_iff_getElem.1 hv
      have hj2 : j < cn * i.size := by simp at hj; omega
      have := z2 j hj2
      rw [Array.getElem?_eq_getElem (by omega)] at this
      exact hone _ (List.mem_of_getElem? (i := j % z.cells.size) (by simpa using this.symm))) (by show (repC _ _).length ≤ _; rw [hlen, z1]; simp)
    (fun j x v hx hv => by
      have hj : j < cn * i.size := by have := (Array.getElem?_eq_some_iff.1 hv).1; omega
      rw [z2 j hj] at hv
      change (repC _ _)[j]? = _ at hx
      unfold repC natI at hx
      rw [rep_flat_get _ _ _ (by rw [hzo]; simpa using hzs) (by rw [hzo]; simp [hc]; exact hj), hzo, List.getElem?_map] at hx
      simp only [List.length_map, Array.length_toList, Array.getElem?_toList] at hx
      rw [hv] at hx
      cases hx
      exact ⟨scalar_rep _ _ _, fun _ => scalar_rep _ _ _⟩)
    (fun i _ q => by omega) (w.alloc (.cells cells e)) rfl rfl rfl rfl
  refine ⟨.value (.slice (some ⟨w.heap.size, 0, none⟩) ln cn), _, w.alloc (.cells cells e), _, by simp [z3], .inl rfl, ⟨_, cn, rfl, by (show natI _ ≤ cn; unfold natI; omega), .inr ⟨_, upd_same _ _ _, rfl, ?_, ?_⟩⟩, hr.1, hr.2, fun id q1 q2 => ?_⟩
  · show 0 + 0 + cn * szOf P e ≤ cells.size
    rw [z1, hs]; omega
  · show 0 + natI ln * szOf P e ≤ (repC _ _).length
    rw [hlen, hs]
    have : ln * szOf P e ≤ cn * szOf P e := Nat.mul_le_mul_right _ (by omega)
    simpa [natI] using this
  · show upd C.φ base _ id = none
    rw [upd_other _ _ (by omega)]; exact q2
end Go.Proofs.YtlcnpecejhcnfaaDoor.EV
