/- Trees are made, and put one to the other. No conditions. -/
import Derived.Test.YtlcnpecejhcnfaaDoorEVtop2
namespace Go.Proofs.YtlcnpecejhcnfaaDoor.EV
set_option linter.unusedVariables false
set_option linter.unusedSimpArgs false
open Go Go.RowKit

theorem after_eq (H : Nat → Option Blk) (nw : List (Nat × Blk)) (dd : List Nat) : after H nw dd [] = upds (setSt H 2 dd) nw := rfl
theorem treeMake_ok {P : Program} {w : World} {C : Ctx} {H : Nat → Option Blk} (r : RelT P w C H) (base : Nat) (hb : C.φ base = none) {t e : TypeId} (ht : und P t = .slice e) {k k' : IntKind} {l c : Int} {g : Bool} {v : AV} {nw : List (Nat × Blk)} {dd fz : List Nat}
    (h : treeMake P base e l c = .val g v nw dd fz) (hg : g = true) : DidT P w C H base (do pure (.value (← Instr.makeSlice t (.int k l) (.int k' c)))) v (after H nw dd fz) := by
  simp only [treeMake, Res.val.injEq] at h
  obtain ⟨rfl, rfl, rfl, rfl, rfl⟩ := h
  rw [Bool.and_eq_true] at hg
  obtain ⟨i, z, ei, hz, hc, hs, h1, ok, hzo, hby, _, hone⟩ := okZ_info hg.1
  have hf := hg.2
  simp only [fitMk, decide_eq_true_eq] at hf
  obtain ⟨f1, f2, f3, f4⟩ := hf
  have hzs : 0 < z.cells.size := by omega
  have hwl : IntKind.i64.wrap l = l := IntWalk.i64_in _ (by omega)
  have hwc : IntKind.i64.wrap c = c := IntWalk.i64_in _ (by omega)
  obtain ⟨cn, rfl⟩ : ∃ n : Nat, c = n := ⟨c.toNat, by omega⟩
  obtain ⟨ln, rfl⟩ : ∃ n : Nat, l = n := ⟨l.toNat, by omega⟩
  have hrun : ∃ cells : List Value, cells.length = cn * i.size ∧ (∀ j, j < cn * i.size → cells[j]? = z.cells[j % z.cells.size]?) ∧
      (Instr.makeSlice t (.int k ln) (.int k' cn)).run P w = .ok (.slice (some ⟨w.heap.size, 0, none⟩) ln cn) (w.alloc (.cells cells.toArray e)) := by
    refine ⟨((Array.range (cn * i.size)).map (fun j => (if cn * i.size = 0 then (#[] : Array Value) else z.cells)[j % (if cn * i.size = 0 then (#[] : Array Value) else z.cells).size]!)).toList, by simp, fun j hj => ?_, ?_⟩
    · rw [if_neg (by omega), ← hc, Array.getElem?_toList]
      exact zeros_get z.cells cn j hzs (by rw [hc]; exact hj)
    · have g1 : ¬ ((cn : Int) < 0) := by omega
      have g2 : ¬ ((i.bytes : Int) * (cn : Int) > 2 ^ 48) := by
        rw [hby, Int.mul_comm]; omega
      have g3 : ¬ ((ln : Int) < 0) := by omega
      have g4 : ¬ ((ln : Int) > (cn : Int)) := by omega
      unfold Instr.makeSlice
      simp only [Sem.run_bind, run_und ht (by simp), Result.andThen_ok, asInt, asIntOf, Sem.run_pure, typeInfo, run_program, ei, hwl, hwc, g1, g2, g3, g4, decide_false, Bool.or_self, Bool.false_or, Bool.false_eq_true, if_false, Int.toNat_natCast, run_askRoom, sizeOf, zeroValue, hz]
      split <;> simp [newRow, *]
      all_goals
        congr 2
        apply Array.ext'
        simp
  obtain ⟨cells, z1, z2, z3⟩ := hrun
  have hkl : (repC (natI cn) ((zeroOf P e).map nilF)).length = cn * i.size := by
    unfold repC natI
    rw [rep_flat_len, List.length_map, hzo]; simp [hc]
  have htr : TRV w (repC (natI cn) ((zeroOf P e).map nilF)) cells [] := by
    refine trv_of (by rw [hkl, z1]) fun j x v hx hv => ?_
    have hj : j < cn * i.size := by have := (List.getElem?_eq_some_iff.1 hv).1; omega
    rw [z2 j hj] at hv
    unfold repC natI at hx
    rw [rep_flat_get _ _ _ (by rw [List.length_map, hzo]; simpa using hzs) (by rw [List.length_map, hzo]; simp [hc]; exact hj), List.getElem?_map, hzo, List.getElem?_map] at hx
    simp only [List.length_map, Array.length_toList, Array.getElem?_toList] at hx
    rw [hv] at hx
    cases hx
    exact zero_tr w v
  obtain ⟨r1, r2⟩ := tree_new (w' := w.alloc (.cells cells.toArray e)) r hb [] (e := e) (s := szOf P e) rfl htr List.nodup_nil (fun b hb => by simp at hb) ⟨[], by simp⟩ (fun v hv => by
      obtain ⟨j, hj, rfl⟩ := List.mem_iff_getElem.1 hv
      have := z2 j (by omega)
      rw [List.getElem?_eq_getElem hj] at this
      exact hone _ (List.mem_of_getElem? (i := j % z.cells.size) (by simpa using this.symm))) rfl rfl rfl rfl
  have hcs : cn * szOf P e = cells.length := by rw [z1, hs]
  have hlc : ln * szOf P e ≤ cn * szOf P e := Nat.mul_le_mul_right _ (by omega)
  refine ⟨.value _, _, _, _, by rw [Sem.run_bind, z3]; rfl, .inl rfl, ⟨_, cn, rfl, by simp [natI]; omega, .inr ⟨_, upd_same _ _ _, rfl, ?_, ?_⟩⟩, r1, r2, fun id q1 q2 => ?_⟩
  · show 0 + 0 + cn * szOf P e ≤ cells.length
    omega
  · show 0 + natI ln * szOf P e ≤ List.length _
    rw [hkl, ← z1, ← hcs]; unfold natI; rw [Int.toNat_natCast]; omega
  · show upd C.φ base _ id = none
    rw [upd_other _ _ q1]; exact q2
theorem treeBuild_ok {P : Program} {w : World} {C : Ctx} {H : Nat → Option Blk} (r : RelT P w C H) (base : Nat) (hb : C.φ base = none) {t e : TypeId} (ht : und P t = .slice e) {len : Nat} {ρ : Operand → AV} {ev : Operand → Value} (hρ : ∀ x, Rep w C (ρ x) (ev x)) {parts : Array (Nat × Operand)} {g : Bool} {v : AV} {nw : List (Nat × Blk)} {dd fz : List Nat}
    (h : treeBuild P H base e len (parts.toList.map fun p => (p.1, ρ p.2)) = .val g v nw dd fz) (hg : g = true) : DidT P w C H base (do pure (.value (← Instr.buildSlice t len (parts.map fun p => (p.1, ev p.2))))) v (after H nw dd fz) := by
  unfold treeBuild at h
  split at h
  · rename_i hl hp
    have hl0 := nbeq_eq hl
    subst hl0
    simp only [Res.val.injEq] at h
    obtain ⟨rfl, rfl, rfl, rfl, rfl⟩ := h
    have hpe : parts = #[] := by cases parts; simpa using hp
    subst hpe
    obtain ⟨i, z, ei, hzz, hcs, hs, hs1, ok, hzo, hby, hb1, hone⟩ := okZ_info hg
    have hrun : (Instr.buildSlice t 0 #[]).run P w = .ok (.slice (some ⟨w.heap.size, 0, none⟩) 0 0) (w.alloc (.cells #[] e)) := by
      unfold Instr.buildSlice
      rw [Sem.run_bind, run_und ht (by simp), Result.andThen_ok]
      simp only [Sem.run_bind, run_sizeOf ok, Result.andThen_ok, Nat.zero_mul]
      rw [if_neg (by omega), if_pos trivial]
      have h0 : (Array.map (fun x => (#[] : Array Value)[x % (#[] : Array Value).size]!) (Array.range 0)) = #[] := by simp
      simp only [pure_bind, h0, Instr.fill]
      rfl
    obtain ⟨r1, r2⟩ := tree_new (w' := w.alloc (.cells #[] e)) (ys := []) (us := []) (vs := []) (T := []) r hb [] (e := e) (s := szOf P e) rfl ⟨rfl, rfl⟩ List.nodup_nil (fun b hb => by simp at hb) ⟨[], rfl⟩ (fun v hv => by simp at hv) rfl rfl rfl rfl
    refine ⟨.value _, _, _, _, by rw [show (#[] : Array (Nat × Operand)).map (fun p => (p.1, ev p.2)) = #[] from by simp, Sem.run_bind, hrun]; rfl, .inl rfl, ⟨_, 0, rfl, Nat.le_refl _, .inl ⟨rfl, rfl⟩⟩, r1, r2, fun id q1 q2 => ?_⟩
    show upd C.φ base _ id = none
    rw [upd_other _ _ q1]; exact q2
  · cases hz : (okZ P e && Nat.ble 1 len && Nat.ble (len * szOf P e) 16777216) <;> rw [hz] at h <;> simp only [reduceCtorEq] at h
    split at h
    · rename_i cs hc
      split at h
      · rename_i ys g' ids hc2
        split at h
        · rename_i hd
          simp only [Res.val.injEq] at h
          obtain ⟨rfl, rfl, rfl, rfl, rfl⟩ := h
          rw [Bool.and_eq_true] at hg
          rw [Bool.and_eq_true, Bool.and_eq_true] at hz
          obtain ⟨i, z, ei, hzz, hcs, hs, hs1, ok, hzo, hby, hb1, hone⟩ := okZ_info hz.1.1
          have hlen := Nat.le_of_ble_eq_true hz.1.2
          have hsm := Nat.le_of_ble_eq_true hz.2
          obtain ⟨p1, p2⟩ := parts_at hρ parts
          have hpos : 0 < len * i.size := Nat.mul_pos (by omega) (by omega)
          have r0 : RepL w C (repC len (zeroOf P e)) ((Array.range (len * i.size)).map (z.cells[· % z.cells.size]!)).toList := by
            refine repL_of (by unfold repC; rw [rep_flat_len, hzo]; simp [hcs]) fun j x v hx hv => ?_
            have hj : j < len * z.cells.size := by
              have := (List.getElem?_eq_some_iff.1 hv).1
              simp at this
              rw [hcs]; exact this
            rw [Array.getElem?_toList, ← hcs, zeros_get _ _ _ (by omega) hj] at hv
            unfold repC at hx
            rw [rep_flat_get _ _ _ (by rw [hzo]; simp; omega) (by rw [hzo]; simpa using hj), hzo, List.getElem?_map] at hx
            simp only [List.length_map, Array.length_toList, Array.getElem?_toList] at hx
            rw [hv] at hx
            cases hx
            exact scalar_rep _ _ _
          obtain ⟨vout, g1, g2⟩ := fill_ok _ _ _ _ _ _ hc r0 p1 p2
          have hrun := run_buildSlice (P := P) w t e len (parts.map fun p => (p.1, ev p.2)) vout i z (elem_eq ht) ei hzz (by rw [hs]; omega) (by omega) (by rw [hs] at *; exact g1)
          have hcl : vout.size = len * i.size := by
            have := repL_length g2
            have hfl : cs.length = (repC len (zeroOf P e)).length := by
              clear this g1 g2 hc2 p1 p2 r0
              revert hc
              generalize (parts.toList.map fun p => (p.1, ρ p.2)) = pl
              generalize repC len (zeroOf P e) = c0
              intro h
              induction pl generalizing c0 with
              | nil => simp only [fillA, Option.some.injEq] at h; rw [h]
              | cons p r ih =>
                obtain ⟨a, b⟩ := p
                simp only [fillA] at h
                split at h
                · rw [ih _ h, setMany_length]
                · simp at h
            have h2 : (repC len (zeroOf P e)).length = len * i.size := by unfold repC; rw [rep_flat_len, hzo]; simp [hcs]
            have h3 : vout.toList.length = vout.size := by simp
            omega
          obtain ⟨T, t1, t2, t3⟩ := trAll_ok r hc2 hg.2 g2 hd
          have hyl := trv_len t1
          obtain ⟨r1, r2⟩ := tree_new (w' := w.alloc (.cells vout e)) (vs := vout.toList) r hb ids (e := e) (s := szOf P e) rfl t1 t2 t3 ⟨[], by simp⟩ (repL_one g2 hg.1) (by show w.heap.push _ = _; simp) rfl rfl rfl
          have h3 : vout.toList.length = vout.size := by simp
          refine ⟨.value _, _, _, _, by rw [Sem.run_bind, hrun]; rfl, .inl rfl, ⟨_, len, rfl, Nat.le_refl _, .inr ⟨_, upd_same _ _ _, rfl, ?_, ?_⟩⟩, r1, r2, fun id q1 q2 => ?_⟩
          · show 0 + 0 + len * szOf P e ≤ vout.toList.length
            rw [h3, hcl, hs]; omega
          · show 0 + len * szOf P e ≤ ys.length
            rw [← hyl, h3, hcl, hs]; omega
          · show upd C.φ base _ id = none
            rw [upd_other _ _ q1]; exact q2
        · simp at h
      · simp at h
    · simp at h
end Go.Proofs.YtlcnpecejhcnfaaDoor.EV
