/- Trees grow. No conditions. -/
import Derived.Test.YtlcnpecejhcnfaaDoorEVtop
namespace Go.Proofs.YtlcnpecejhcnfaaDoor.EV
set_option linter.unusedVariables false
set_option linter.unusedSimpArgs false
open Go Go.RowKit

theorem trv_of {w : World} : ∀ {xs : List AV} {vs : List Value}, xs.length = vs.length → (∀ (j : Nat) (x : AV) (v : Value), xs[j]? = some x → vs[j]? = some v → TR w x v []) → TRV w xs vs []
  | [], [], _, _ => ⟨rfl, rfl⟩
  | [], _ :: _, h, _ => by simp at h
  | _ :: _, [], h, _ => by simp at h
  | x :: xs, v :: vs, h, k => ⟨v, vs, [], [], rfl, rfl, k 0 x v rfl rfl, trv_of (by simpa using h) fun j y u hy hu => k (j + 1) y u (by simpa using hy) (by simpa using hu)⟩
theorem zero_tr (w : World) (v : Value) : TR w (nilF (ofScalar v)) v [] := by
  unfold ofScalar
  split
  · exact ⟨rfl, rfl⟩
  · exact ⟨rfl, rfl⟩
  · exact ⟨rfl, rfl⟩
  · exact ⟨none, 0, rfl, Nat.le_refl _, .inl ⟨rfl, rfl, rfl, rfl⟩⟩
  · exact rfl
  · exact rfl
theorem any_repL {w : World} {C : Ctx} : ∀ (us : List Value), RepL w C (us.map fun _ => AV.any) us
  | [] => rfl
  | u :: us => ⟨u, us, rfl, trivial, any_repL us⟩
theorem src_at {P : Program} {w : World} {C : Ctx} {b o n sz cap : Nat} {us : List Value} (h : CellsAt w b o us) (hl : us.length = n * sz) : Src P w C sz n (us.map fun _ => AV.any) (.slice (some ⟨b, o, none⟩) n cap) us := by
  refine ⟨fun w' => rfl, fun w' hw => ?_, hl, fun v hv => ?_, any_repL us⟩
  · have : (Builtin.firstCells sz n (.slice (some ⟨b, o, none⟩) n cap)).run P w' = (loadCells ⟨b, o, none⟩ us.length).run P w' := by rw [hl]; rfl
    rw [this]
    refine run_loadCells_list w' _ _ fun j v q => ?_
    rw [Addr.add_mid, cell_of_heap (w := w) (by rw [hw])]
    exact (h j v q).1
  · obtain ⟨j, hj⟩ := List.getElem?_of_mem hv
    exact (h j v hj).2
/-- What a tree's slice holds. -/
theorem own_seg {P : Program} {w : World} {C : Ctx} {H : Nat → Option Blk} (r : RelT P w C H) {id off n : Nat} {k : Blk} (hk : H id = some k) (hs : k.st = 3) (he : k.elem ≠ 0) {v : Value} (rv : Rep w C (.own id off n) v) :
    ∃ a cap us Tm, v = .slice a n cap ∧ n ≤ cap ∧ us.length = n * szOf P k.elem ∧ (∀ u ∈ us, u.oneCell' = true) ∧ TRV w (cutC k.cells off (mulN n (szOf P k.elem))) us Tm ∧ Src P w C (szOf P k.elem) n (us.map fun _ => AV.any) v us ∧
      ((n = 0 ∧ cap = 0 ∧ Tm = [] ∧ us = []) ∨ ∃ L T, C.φ id = some L ∧ a = some ⟨L.b, L.d + off, none⟩ ∧ TreeOk P w C L k T ∧ L.s = szOf P k.elem ∧ L.d + off + cap * L.s ≤ L.top ∧ off + n * L.s ≤ L.len ∧ (L.b :: Tm).Nodup ∧ (∀ b, b ∈ L.b :: Tm → b ∈ L.b :: T) ∧ CellsAt w L.b (L.d + off) us ∧ TRow w L k.elem k.cells) := by
  obtain ⟨a, cap, rfl, hn, rx⟩ := rv
  rcases rx with ⟨rfl, rfl⟩ | ⟨L, q1, q2, q3, q4⟩
  · refine ⟨a, 0, [], [], rfl, Nat.le_refl _, by simp, by simp, ?_, src_nil, .inl ⟨rfl, rfl, rfl, rfl⟩⟩
    simp [cutC, mulN, TRV]
  · obtain ⟨T, ok, nd, _⟩ := r.t.ok id L k q1 hk (by omega)
    have ok' := ok
    obtain ⟨z1, z2, z3⟩ := ok
    rcases z3 with ⟨_, vs, r1, r2, r3, r4, r5⟩ | ⟨z, _⟩
    · have hsz := z2 he
      subst q2
      obtain ⟨Ta, Tm, Tb, p1, p2⟩ := trv_cut r5 off (n * L.s)
      have hvl := trv_len r5
      have hul : ((vs.drop off).take (n * L.s)).length = n * L.s := by rw [List.length_take, List.length_drop]; omega
      have hca : CellsAt w L.b (L.d + off) ((vs.drop off).take (n * L.s)) := fun j v hj => by
        rw [List.getElem?_take] at hj
        split at hj
        · rw [List.getElem?_drop] at hj
          have := r4 (off + j) v hj
          rwa [← Nat.add_assoc] at this
        · cases hj
      refine ⟨_, cap, (vs.drop off).take (n * L.s), Tm, rfl, hn, by rw [← hsz]; exact hul, fun u hu => ?_, by unfold mulN; rw [← hsz]; exact p2, by rw [← hsz]; exact src_at hca hul, .inr ⟨L, T, q1, rfl, ok', hsz, q3, q4, ?_, fun b hb => ?_, hca, r3⟩⟩
      · obtain ⟨j, hj⟩ := List.getElem?_of_mem hu
        exact (hca j u hj).2
      · rw [p1] at nd
        simp only [List.nodup_cons, List.mem_append, not_or, List.nodup_append] at nd ⊢
        exact ⟨nd.1.2.1, nd.2.2.1.1⟩
      · rw [p1]
        rcases List.mem_cons.1 hb with rfl | hb
        · simp
        · simp [hb]
    · omega
theorem grow_run {P : Program} {w : World} {C : Ctx} {e : TypeId} (hz : okZ P e = true) {len n cap : Nat} {cs : List AV} {vx : Value} {news olds : List Value} {base_ : Option Addr}
    (src : Src P w C (szOf P e) n cs vx news) (ho : olds.length = len * szOf P e)
    (hold : ∀ w', w'.heap = w.heap → (Builtin.firstCells (szOf P e) len (.slice base_ len cap)).run P w' = .ok olds.toArray w') (hg : cap < len + n) (hf : fitN (len + n) (byOf P e) = true)
    {t t' : TypeId} (ht : und P t = .slice e) (ht' : notInt P t' = true) (ty : TypeId) :
    ∃ cap' zs w', (Builtin.append_ #[t, t'] ty #[.slice base_ len cap, vx]).run P w = .ok (.slice (some ⟨w.heap.size, 0, none⟩) (len + n) cap') w' ∧ w'.heap = w.heap.push (.cells (olds ++ news ++ zs).toArray e (0, 0)) ∧ w'.os = w.os ∧ w'.tape = w.tape ∧ w'.output = w.output ∧ len + n ≤ cap' ∧ (olds ++ news ++ zs).length = cap' * szOf P e := by
  obtain ⟨i, z, ei, hzz, hc, hs, h1, ok, hzo, hby, hb1, hone⟩ := okZ_info hz
  have hfit : (len + n) * i.bytes ≤ 35184372088832 := by rw [hby]; exact Nat.le_of_ble_eq_true hf
  have hgs := growslice_fits (need := len + n) (old := cap) (bytes := i.bytes) hg (by omega)
  have hn' : ∃ d, P.underlying t' = some d ∧ ((∃ q, d = .slice q) ∨ d = .string) := by
    unfold notInt at ht'
    cases hd : und P t' <;> rw [hd] at ht' <;> simp only [Bool.false_eq_true] at ht'
    · exact ⟨_, und_eq hd (by simp), .inr rfl⟩
    · exact ⟨_, und_eq hd (by simp), .inl ⟨_, rfl⟩⟩
  obtain ⟨d, hd, hdk⟩ := hn'
  have hl1 := src.len w
  have hn : ¬ (len + n ≤ cap) := by omega
  have hdr : w.drew.heap = w.heap := rfl
  have hc1 := src.cells w.drew hdr
  have hc2 := hold w.drew hdr
  rw [← hs] at hc1 hc2
  have hrun : (Builtin.append_ #[t, t'] ty #[.slice base_ len cap, vx]).run P w =
      .ok (.slice (some ⟨w.heap.size, 0, none⟩) (len + n) (grownCap w (len + n) cap e)) (w.drew.alloc (.cells (olds.toArray ++ news.toArray ++ Builtin.zeroCells z.cells (grownCap w (len + n) cap e - (len + n))) e)) := by
    have h48' : ¬ (Builtin.nextslicecap (len + n) cap * i.bytes > 2 ^ 48) := by
      have : ¬ (281474976710656 < Builtin.nextslicecap (len + n) cap * i.bytes) := by omega
      exact this
    have hb0 : i.bytes ≠ 0 := by omega
    rcases hdk with ⟨q, rfl⟩ | rfl
    all_goals
      unfold Builtin.append_
      simp only [List.getElem?_toArray, List.getElem?_cons_zero, List.getElem?_cons_succ, Sem.run_bind, run_und ht (by simp), run_underlying hd, Result.andThen_ok, Sem.run_pure, sizeOf, typeInfo, run_program, ei, hl1, if_neg hn, Bool.not_false, if_true, Bool.false_eq_true, if_false, false_and, hb0, or_false, and_false, h48', run_choose, Question.forced, run_askRoom]
      have hc2' : (Builtin.firstCells i.size len (.slice base_ len cap)).run P { heap := w.heap, tape := w.tape, drawn := w.drawn + 1, os := w.os, output := w.output } = .ok olds.toArray w.drew := hc2
      rw [hc2']
      simp only [Result.andThen_ok, hc1, zeroValue, typeInfo, Sem.run_bind, run_program, ei, hzz, Sem.run_pure, newRow, run_newObj]
      rfl
  have hnc : len + n ≤ grownCap w (len + n) cap e := Nat.le_add_right _ _
  have hzl : (Builtin.zeroCells z.cells (grownCap w (len + n) cap e - (len + n))).toList.length = (grownCap w (len + n) cap e - (len + n)) * szOf P e := by
    unfold Builtin.zeroCells
    simp [hc, hs]
  refine ⟨_, (Builtin.zeroCells z.cells (grownCap w (len + n) cap e - (len + n))).toList, _, hrun, ?_, rfl, rfl, rfl, hnc, ?_⟩
  · show w.heap.push _ = _
    congr 2
    apply Array.ext'
    simp
  · rw [List.length_append, List.length_append, hzl, ho, src.size, ← Nat.add_mul, ← Nat.add_mul]
    congr 1
    omega
end Go.Proofs.YtlcnpecejhcnfaaDoor.EV
