/- Append. No conditions. -/
import Derived.Test.YtlcnpecejhcnfaaDoorEVmem4
namespace Go.Proofs.YtlcnpecejhcnfaaDoor.EV
set_option linter.unusedVariables false
set_option linter.unusedSimpArgs false
open Go Go.RowKit

/-- What is appended: so many elements, these cells. -/
structure Src (P : Program) (w : World) (C : Ctx) (sz n : Nat) (cs : List AV) (vx : Value) (news : List Value) : Prop where
  len : ∀ w', (Builtin.lenOf vx).run P w' = .ok n w'
  cells : ∀ w', w'.heap = w.heap → (Builtin.firstCells sz n vx).run P w' = .ok news.toArray w'
  size : news.length = n * sz
  one : ∀ v ∈ news, v.oneCell' = true
  rep : RepL w C.bare cs news

theorem cells_at {w : World} {C : Ctx} {b o n : Nat} {cs : List AV} (h : RepAt w C b o cs) (hn : n ≤ cs.length) :
    ∃ vs : List Value, vs.length = n ∧ (∀ (j : Nat) (v : Value), vs[j]? = some v → w.cell? ⟨b, o + j, none⟩ = some v ∧ v.oneCell' = true) ∧ RepL w C (cs.take n) vs := by
  obtain ⟨vs, h1, h2, h3⟩ := repAt_vals h 0 n (by omega)
  refine ⟨vs, h1, fun j v q => by simpa using h2 j v q, ?_⟩
  have : window cs 0 n = cs.take n := by
    apply List.ext_getElem?
    intro j
    by_cases hj : j < n
    · rw [window_get _ _ _ _ hj, List.getElem?_take, if_pos hj, Nat.zero_add]
      rw [List.getElem?_eq_getElem (by omega)]
      simp [cellAt, List.getD, List.getElem?_eq_getElem (show j < cs.length by omega)]
    · rw [List.getElem?_eq_none (by rw [window_length]; omega), List.getElem?_eq_none (by simp; omega)]
  rwa [this] at h3
theorem src_cells {P : Program} {w : World} {C : Ctx} {b o n sz cap : Nat} {cs : List AV} (h : RepAt w C.bare b o cs) (hl : cs.length = n * sz) : ∃ news, Src P w C sz n cs (.slice (some ⟨b, o, none⟩) n cap) news := by
  obtain ⟨vs, h1, h2, h3⟩ := cells_at h (Nat.le_of_eq hl.symm)
  refine ⟨vs, fun w' => rfl, fun w' hw => ?_, h1, fun v hv => ?_, by rwa [← hl, List.take_length] at h3⟩
  · have : (Builtin.firstCells sz n (.slice (some ⟨b, o, none⟩) n cap)).run P w' = (loadCells ⟨b, o, none⟩ vs.length).run P w' := by rw [h1]; rfl
    rw [this]
    refine run_loadCells_list w' _ _ fun j v q => ?_
    rw [Addr.add_mid, cell_of_heap (w := w) (by rw [hw])]
    exact (h2 j v q).1
  · obtain ⟨j, hj⟩ := List.getElem?_of_mem hv
    exact (h2 j v hj).2
theorem src_nil {P : Program} {w : World} {C : Ctx} {sz cap : Nat} {a : Option Addr} : Src P w C sz 0 [] (.slice a 0 cap) [] := by
  refine ⟨fun w' => rfl, fun w' _ => ?_, by simp, by simp, rfl⟩
  cases a with
  | none => rfl
  | some a => simp [Builtin.firstCells, loadCells, loadCellsFrom]
theorem bytesOf_get {w : World} {C : Ctx} (s : ByteArray) : RepL w C (bytesOf s) (s.data.toList.map fun b => Value.int .u8 b.toNat) := by
  unfold bytesOf
  induction s.data.toList with
  | nil => rfl
  | cons b r ih => exact ⟨_, _, rfl, rfl, ih⟩
theorem src_str {P : Program} {w : World} {C : Ctx} {s : ByteArray} : Src P w C 1 s.size (bytesOf s) (.string s) (s.data.toList.map fun b => Value.int .u8 b.toNat) := by
  refine ⟨fun w' => rfl, fun w' _ => ?_, by rw [List.length_map, Array.length_toList, Nat.mul_one]; rfl, fun v hv => ?_, bytesOf_get s⟩
  · have h : (s.extract 0 s.size).data = s.data := by
      rw [ByteArray.data_extract, show s.size = s.data.size from rfl, Array.extract_size]
    show Result.ok ((s.extract 0 s.size).data.map fun b => Value.int .u8 b.toNat) w' = _
    rw [h]
    congr 1
    apply Array.ext'
    rw [Array.toList_map]
  · obtain ⟨b, _, rfl⟩ := List.mem_map.1 hv
    rfl
/-- What a slice, or a string, brings. -/
theorem src_slice {P : Program} {w : World} {C : Ctx} {H : Nat → Option Blk} (hH : RelH P w C H) {e : TypeId} {x : AV} {vx : Value} {n : Nat} {cs : List AV} (rx : Rep w C x vx) (h : sliceOf P e H x = some (n, cs))
    (hl : exactly x cs (mulN n (szOf P e)) = true) : ∃ news, Src P w C (szOf P e) n cs vx news := by
  cases x <;> simp only [sliceOf, reduceCtorEq, Option.some.injEq, Prod.mk.injEq] at h
  case nils =>
    obtain ⟨rfl, rfl⟩ := h
    obtain ⟨a, rfl⟩ := rx
    exact ⟨[], src_nil⟩
  case fs =>
    obtain ⟨rfl, rfl⟩ := h
    obtain ⟨a, cap, rfl, hc, r⟩ := rx
    rcases r with ⟨rfl, rfl⟩ | ⟨b, o, rfl, hf, r⟩
    · exact ⟨[], src_nil⟩
    · exact src_cells r (nbeq_eq hl)
  case own id off len =>
    cases hk : H id with
    | none => rw [hk] at h; simp at h
    | some k =>
      rw [hk] at h
      simp only at h
      cases h1 : (Nat.ble k.st 1 && (Nat.beq k.elem 0 || Nat.beq (szOf P k.elem) (szOf P e))) <;> cases h2 : k.arr <;> rw [h1, h2] at h <;> simp only [reduceCtorEq, Option.some.injEq, Prod.mk.injEq] at h
      obtain ⟨rfl, rfl⟩ := h
      obtain ⟨a, cap, rfl, hc, r⟩ := rx
      rcases r with ⟨rfl, rfl⟩ | ⟨L, q1, q2, q3, q4⟩
      · have : cutC k.cells off (mulN 0 (szOf P e)) = [] := by simp [cutC, mulN]
        rw [this]
        exact ⟨[], src_nil⟩
      · obtain ⟨k2, q5, ok⟩ := hH.blk id L q1
        rw [hk] at q5; cases q5
        rw [Bool.and_eq_true] at h1
        rcases ok with ok | ⟨e0, cells, el, fr, e1, e2, e3, e4, e5, e6, ea, e7, e8⟩
        · have := Nat.le_of_ble_eq_true h1.1; omega
        · have hs := e4.1 h2
          have hse : L.s = szOf P e := by
            rcases Bool.or_eq_true _ _ ▸ h1.2 with g | g
            · exact absurd (nbeq_eq g) hs.2
            · rw [hs.1]; exact nbeq_eq g
          subst q2
          refine src_cells (repAt_cut (ea h2) off _) ?_
          unfold cutC mulN
          rw [List.length_take, List.length_drop, ← hse]
          have := e5.1
          omega

theorem repL_append {w : World} {C : Ctx} : ∀ {xs ys : List AV} {vs us : List Value}, RepL w C xs vs → RepL w C ys us → RepL w C (xs ++ ys) (vs ++ us)
  | [], _, _, _, h, k => by cases h; exact k
  | x :: xs, ys, vs, us, h, k => by
    obtain ⟨v, r, rfl, r1, r2⟩ := h
    exact ⟨v, r ++ us, rfl, r1, repL_append r2 k⟩

/-- The row grows into a new one. -/
theorem grow_ok {P : Program} {w : World} {C : Ctx} {H : Nat → Option Blk} (hH : RelH P w C H) (base : Nat) (hb : C.φ base = none) {e : TypeId} (hz : okZ P e = true) {len n cap : Nat} {cs ocs : List AV} {vx : Value} {news olds : List Value} {base_ : Option Addr}
    (src : Src P w C (szOf P e) n cs vx news) (ho : olds.length = len * szOf P e) (h1o : ∀ v ∈ olds, v.oneCell' = true) (ro : RepL w C.bare ocs olds)
    (hold : ∀ w', w'.heap = w.heap → (Builtin.firstCells (szOf P e) len (.slice base_ len cap)).run P w' = .ok olds.toArray w') (hg : cap < len + n) (hf : fitN (len + n) (byOf P e) = true)
    {t t' : TypeId} (ht : und P t = .slice e) (ht' : notInt P t' = true) (ty : TypeId) :
    Did P w C H base (do pure (.value (← Builtin.append_ #[t, t'] ty #[.slice base_ len cap, vx]))) (.own base 0 (len + n)) (upd H base (some ⟨true, e, 0, ocs ++ cs⟩)) := by
  obtain ⟨i, z, ei, hzz, hc, hs, h1, ok, hzo, hby, hb1, hone⟩ := okZ_info hz
  have hfit : (len + n) * i.bytes ≤ 35184372088832 := by rw [hby]; exact Nat.le_of_ble_eq_true hf
  have hgs := growslice_fits (need := len + n) (old := cap) (bytes := i.bytes) hg (by omega)
  have hn' : ∃ d, P.underlying t' = some d ∧ ((∃ q, d = .slice q) ∨ d = .string) := by
    unfold notInt at ht'
    cases hd : und P t' <;> rw [hd] at ht' <;> simp only [Bool.false_eq_true] at ht'
    · exact ⟨_, und_eq hd (by simp), .inr rfl⟩
    · exact ⟨_, und_eq hd (by simp), .inl ⟨_, rfl⟩⟩
  obtain ⟨d, hd, hdk⟩ := hn'
  have hl1 := src.len w
  have hn : ¬ (len + n ≤ cap) := by omega
  have hdr : w.drew.heap = w.heap := rfl
  have hc1 := src.cells w.drew hdr
  have hc2 := hold w.drew hdr
  rw [← hs] at hc1 hc2
  have h48 : ¬ (281474976710656 < Builtin.nextslicecap (len + n) cap * i.bytes) := by omega
  have h63 : ¬ (9223372036854775807 < ((len + n : Nat) : Int)) := by
    have : len + n ≤ (len + n) * i.bytes := Nat.le_mul_of_pos_right _ (by omega)
    omega
  have hrun : (Builtin.append_ #[t, t'] ty #[.slice base_ len cap, vx]).run P w =
      .ok (.slice (some ⟨w.heap.size, 0, none⟩) (len + n) (grownCap w (len + n) cap e)) (w.drew.alloc (.cells (olds.toArray ++ news.toArray ++ Builtin.zeroCells z.cells (grownCap w (len + n) cap e - (len + n))) e)) := by
    have h63' : ¬ ((len + n : Nat) : Int) > IntKind.i64.max := h63
    have h48' : ¬ (Builtin.nextslicecap (len + n) cap * i.bytes > 2 ^ 48) := h48
    have hb0 : i.bytes ≠ 0 := by omega
    rcases hdk with ⟨q, rfl⟩ | rfl
    all_goals
      unfold Builtin.append_
      simp only [List.getElem?_toArray, List.getElem?_cons_zero, List.getElem?_cons_succ, Sem.run_bind, run_und ht (by simp), run_underlying hd, Result.andThen_ok, Sem.run_pure, sizeOf, typeInfo, run_program, ei, hl1, if_neg hn, Bool.not_false, if_true, Bool.false_eq_true, if_false, false_and, hb0, or_false, and_false, h48', run_choose, Question.forced, run_askRoom]
      have hc2' : (Builtin.firstCells i.size len (.slice base_ len cap)).run P { heap := w.heap, tape := w.tape, drawn := w.drawn + 1, os := w.os, output := w.output } = .ok olds.toArray w.drew := hc2
      rw [hc2']
      simp only [Result.andThen_ok, hc1, zeroValue, typeInfo, Sem.run_bind, run_program, ei, hzz, Sem.run_pure, newRow, run_newObj]
      rfl
  have hnc : len + n ≤ grownCap w (len + n) cap e := by
    exact Nat.le_add_right _ _
  have hlo := repL_length ro
  have hlc := repL_length src.rep
  have hzl : (Builtin.zeroCells z.cells (grownCap w (len + n) cap e - (len + n))).size = (grownCap w (len + n) cap e - (len + n)) * szOf P e := by
    unfold Builtin.zeroCells
    simp [hc, hs]
  have hsz : (olds.toArray ++ news.toArray ++ Builtin.zeroCells z.cells (grownCap w (len + n) cap e - (len + n))).size = grownCap w (len + n) cap e * szOf P e := by
    simp only [Array.size_append, hzl, List.size_toArray, ho, src.size]
    rw [← Nat.add_mul, ← Nat.add_mul]
    congr 1
    omega
  have hkl : (ocs ++ cs).length = (len + n) * szOf P e := by
    rw [List.length_append, hlo, hlc, ho, src.size, Nat.add_mul]
  have hle : (len + n) * szOf P e ≤ grownCap w (len + n) cap e * szOf P e := Nat.mul_le_mul_right _ hnc
  have rab := repL_append ro src.rep
  have hr := rel_new (P := P) hH base hb ⟨true, e, 0, ocs ++ cs⟩ rfl (olds.toArray ++ news.toArray ++ Builtin.zeroCells z.cells (grownCap w (len + n) cap e - (len + n))) e (szOf P e) (0, 0) (fun _ => ⟨rfl, okT_ne ok⟩) rfl (fun q => by cases q)
    (fun v hv => by
      simp only [Array.toList_append, List.mem_append] at hv
      rcases hv with (hv | hv) | hv
      · exact h1o v hv
      · exact src.one v hv
      · unfold Builtin.zeroCells at hv
        simp only [Array.toList_map, List.mem_map, Array.mem_toList_iff] at hv
        obtain ⟨j, _, rfl⟩ := hv
        have hm : j % z.cells.size < z.cells.size := Nat.mod_lt _ (by omega)
        rw [getElem!_pos z.cells _ hm]
        exact hone _ (by simp))
    (by show (ocs ++ cs).length ≤ _; rw [hkl, hsz]; exact hle)
    (fun j x v hx hv => by
      obtain ⟨u, q1, q2⟩ := repL_get rab hx
      have hj := (List.getElem?_eq_some_iff.1 q1).1
      have : u = v := by
        rw [Array.getElem?_append_left (by simpa using hj)] at hv
        have hv' : (olds ++ news)[j]? = some v := by simpa using hv
        rw [q1] at hv'
        exact Option.some.inj hv'
      subst this
      exact ⟨rep_step (Step.of_bare w C) _ _ q2, fun _ => q2⟩)
    (fun i _ q => by omega) (w.drew.alloc (.cells (olds.toArray ++ news.toArray ++ Builtin.zeroCells z.cells (grownCap w (len + n) cap e - (len + n))) e)) rfl rfl rfl rfl
  refine ⟨.value _, _, _, _, by rw [Sem.run_bind, hrun]; rfl, .inl rfl, ⟨_, grownCap w (len + n) cap e, rfl, hnc, .inr ⟨_, upd_same _ _ _, rfl, ?_, ?_⟩⟩, hr.1, hr.2, fun id q1 q2 => ?_⟩
  · show 0 + 0 + _ * szOf P e ≤ Array.size _
    rw [hsz]; omega
  · show 0 + (len + n) * szOf P e ≤ (ocs ++ cs).length
    rw [hkl]; omega
  · show upd C.φ base _ id = none
    rw [upd_other _ _ (by omega)]; exact q2
end Go.Proofs.YtlcnpecejhcnfaaDoor.EV
