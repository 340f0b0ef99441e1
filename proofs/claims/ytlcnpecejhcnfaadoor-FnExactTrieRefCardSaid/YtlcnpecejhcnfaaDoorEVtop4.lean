/- One tree is put behind another. No conditions. -/
import Derived.Test.YtlcnpecejhcnfaaDoorEVtop3
namespace Go.Proofs.YtlcnpecejhcnfaaDoor.EV
set_option linter.unusedVariables false
set_option linter.unusedSimpArgs false
open Go Go.RowKit

/-- In place: the row has room. -/
theorem tree_inplace {P : Program} {w : World} {C : Ctx} {H : Nat → Option Blk} (r : RelT P w C H) {base : Nat} (hb : C.φ base = none) {e : TypeId} (he : e ≠ 0) {id xid off len n cap : Nat} {L : Loc} {k : Blk} {T Tm U : List Nat} {us xs : List Value} {cs ds : List AV}
    (hL : C.φ id = some L) (hk : H id = some k) (hke : k.elem = e) (hne : id ≠ xid) (ok : TreeOk P w C L k T) (hse : L.s = szOf P e) (h1 : L.d + off + cap * L.s ≤ L.top) (h2 : off + len * L.s ≤ L.len) (hg : len + n ≤ cap)
    (nd : (L.b :: Tm).Nodup) (sub : ∀ b, b ∈ L.b :: Tm → b ∈ L.b :: T) (hca : CellsAt w L.b (L.d + off) us) (hrow : TRow w L e k.cells) (hul : us.length = len * szOf P e) (tr : TRV w cs us Tm)
    (xtr : TRV w ds xs U) (xnd : U.Nodup) (xl : xs.length = n * szOf P e) (xone : ∀ v ∈ xs, v.oneCell' = true) (xh : ∀ b, b ∈ U → HasS P w C H (· = xid) b) :
    RelT P (w.setCells L.b (L.d + off + len * L.s) xs) ⟨upd C.φ base (some ⟨L.b, L.d + off, L.s, L.top, (len + n) * L.s⟩), C.Fz⟩ (upds (setSt H 2 [id, xid]) [(base, ⟨true, e, 3, cs ++ ds⟩)]) ∧
    KeptT P w C H (w.setCells L.b (L.d + off + len * L.s) xs) ⟨upd C.φ base (some ⟨L.b, L.d + off, L.s, L.top, (len + n) * L.s⟩), C.Fz⟩ (upds (setSt H 2 [id, xid]) [(base, ⟨true, e, 3, cs ++ ds⟩)]) := by
  obtain ⟨z1, z2, z3, z4⟩ := setCells_rest xs (L.d + off + len * L.s) w L.b
  obtain ⟨cells, el, fr, g1, g2, g3, g4⟩ := hrow
  have hnew := setCells_heap xs (L.d + off + len * L.s) w L.b cells el fr g1
  have hsame : ∀ b, b ≠ L.b → (w.setCells L.b (L.d + off + len * L.s) xs).heap[b]? = w.heap[b]? := fun b hb => setCells_other _ _ _ _ _ hb
  have hbase : upds (setSt H 2 [id, xid]) [(base, (⟨true, e, 3, cs ++ ds⟩ : Blk))] base = some ⟨true, e, 3, cs ++ ds⟩ := upd_same _ _ _
  have hother : ∀ j, j ≠ base → upds (setSt H 2 [id, xid]) [(base, (⟨true, e, 3, cs ++ ds⟩ : Blk))] j = setSt H 2 [id, xid] j := fun j q => upd_other _ _ q
  have hid : HasS P w C H (· = id) L.b := ⟨id, rfl, L, k, hL, hk, .inr ⟨T, ok, by simp⟩⟩
  have hTm : ∀ b, b ∈ L.b :: Tm → HasS P w C H (· = id) b := fun b hb => ⟨id, rfl, L, k, hL, hk, .inr ⟨T, ok, sub b hb⟩⟩
  have hd : ∀ j, j = id → ¬ j = xid := fun j q q2 => hne (q.symm.trans q2)
  have hUb : ∀ b, b ∈ U → b ≠ L.b := fun b hb => (HasS.ne r hd hid (xh b hb)).symm
  have hTb : ∀ b, b ∈ Tm → b ≠ L.b := fun b hb q => by
    rw [List.nodup_cons] at nd
    exact nd.1 (q ▸ hb)
  have hcl := trv_len tr
  have hdl := trv_len xtr
  have hmul : (len + n) * L.s ≤ cap * L.s := Nat.mul_le_mul_right _ hg
  have tok : TreeOk P (w.setCells L.b (L.d + off + len * L.s) xs) ⟨upd C.φ base (some ⟨L.b, L.d + off, L.s, L.top, (len + n) * L.s⟩), C.Fz⟩ ⟨L.b, L.d + off, L.s, L.top, (len + n) * L.s⟩ ⟨true, e, 3, cs ++ ds⟩ (Tm ++ U) := by
    refine ⟨rfl, fun _ => hse, .inl ⟨rfl, us ++ xs, ?_, ?_, ⟨_, el, fr, hnew, by rw [putsV_size]; exact g2, g3, g4.imp (fun q => q) fun q => absurd q.1 he⟩, fun j v hj => ?_, trv_append (trv_same _ _ _ (fun b hb => hsame b (hTb b hb)) tr) (trv_same _ _ _ (fun b hb => hsame b (hUb b hb)) xtr)⟩⟩
    · show (len + n) * L.s = List.length _
      rw [List.length_append, ← hcl, ← hdl, hul, xl, Nat.add_mul, hse]
    · show L.d + off + (len + n) * L.s ≤ L.top
      omega
    · refine ⟨?_, ?_⟩
      · unfold World.cell?
        rw [show (⟨L.b, L.d + off + j, none⟩ : Addr).block = L.b from rfl, hnew]
        simp only [Option.isSome_none, Bool.false_eq_true, if_false]
        have hjl := (List.getElem?_eq_some_iff.1 hj).1
        rw [List.length_append, hul, xl, ← hse, ← Nat.add_mul] at hjl
        have hadd : (len + n) * L.s = len * L.s + n * L.s := Nat.add_mul _ _ _
        rw [putsV_get _ _ _ _ (by rw [xl, ← hse]; omega)]
        have hxs : xs.length = n * L.s := by rw [xl, hse]
        by_cases hjm : j < len * L.s
        · rw [if_neg (by omega)]
          rw [List.getElem?_append_left (by rw [hul, ← hse]; exact hjm)] at hj
          have := (hca j v hj).1
          unfold World.cell? at this
          rw [show (⟨L.b, L.d + off + j, none⟩ : Addr).block = L.b from rfl, g1] at this
          simpa using this
        · rw [List.getElem?_append_right (by rw [hul, ← hse]; omega), hul, ← hse] at hj
          have hxl := (List.getElem?_eq_some_iff.1 hj).1
          rw [if_pos (by omega), show L.d + off + j - (L.d + off + len * L.s) = j - len * L.s by omega]
          exact hj
      · have hm := List.mem_of_getElem? hj
        rcases List.mem_append.1 hm with hm | hm
        · obtain ⟨i, hi⟩ := List.getElem?_of_mem hm
          exact (hca i v hi).2
        · exact xone v hm
  refine tree_step r (fun j => j ∈ [id, xid] ∨ j = base) rfl (fun j M q => ?_) (fun j ns => ⟨upd_other _ _ fun q => ns (.inr q), (hother j fun q => ns (.inr q)).trans (setSt_not fun q => ns (.inl q))⟩) (fun j M hs1 q => ?_) (fun j j' M M' k1 k' T1 T' hs1 hs2 ne q1 q2 q3 q4 o1 o2 b _ => ?_) (fun b hb hns => hsame b fun q => hns ?_) (by omega) z2 z3 z4
  · show upd C.φ base _ j = some M
    rw [upd_other _ _ (fun x => by rw [x, hb] at q; cases q)]; exact q
  · by_cases hj : j = base
    · subst hj
      change upd C.φ j _ j = some M at q
      rw [upd_same] at q; cases q
      refine ⟨_, hbase, by simp, fun _ => ⟨Tm ++ U, tok, ?_, fun b hb => .inr ?_⟩⟩
      · show (L.b :: (Tm ++ U)).Nodup
        rw [List.nodup_cons] at nd ⊢
        refine ⟨fun hm => ?_, List.nodup_append.2 ⟨nd.2, xnd, fun a ha c hc => ?_⟩⟩
        · rcases List.mem_append.1 hm with hm | hm
          · exact nd.1 hm
          · exact hUb _ hm rfl
        · exact HasS.ne r hd (hTm a (by simp [ha])) (xh c hc)
      · change b ∈ L.b :: (Tm ++ U) at hb
        have : b ∈ L.b :: Tm ∨ b ∈ U := by
          rcases List.mem_cons.1 hb with rfl | hb
          · exact .inl (by simp)
          · rcases List.mem_append.1 hb with hb | hb
            · exact .inl (by simp [hb])
            · exact .inr hb
        rcases this with hb | hb
        · exact (hTm b hb).mono fun i q => .inl (by simp [q])
        · exact (xh b hb).mono fun i q => .inl (by simp [q])
    · change upd C.φ base _ j = some M at q
      rw [upd_other _ _ hj] at q
      obtain ⟨k0, hk0, _⟩ := r.h.blk j M q
      exact ⟨_, (hother j hj).trans (setSt_mem hk0 (hs1.resolve_right hj)), by simp, fun z => by simp at z⟩
  · exfalso
    have t1 := o1.st
    have t2 := o2.st
    have dead : ∀ j k0, j ≠ base → j ∈ [id, xid] → upds (setSt H 2 [id, xid]) [(base, (⟨true, e, 3, cs ++ ds⟩ : Blk))] j = some k0 → k0.st = 2 := by
      intro j k0 p1 p2 p3
      rw [hother j p1] at p3
      cases hk0 : H j with
      | none => rw [setSt_none hk0] at p3; cases p3
      | some k00 => rw [setSt_mem hk0 p2] at p3; cases p3; rfl
    by_cases p1 : j = base
    · have p2 : j' ≠ base := fun q => ne (p1.trans q.symm)
      have := dead j' k' p2 (hs2.resolve_right p2) q4; omega
    · have := dead j k1 p1 (hs1.resolve_right p1) q3; omega
  · rw [q]
    exact hid.mono fun i q => .inl (by simp [q])
theorem run_store_row {P : Program} {w : World} {L : Loc} {cells : Array Value} {el : TypeId} {fr : Nat × Nat} (e1 : w.heap[L.b]? = some (.cells cells el fr)) (e2 : cells.size = L.top) (e3 : ∀ i, i < L.top → ¬ (fr.1 ≤ i ∧ i < fr.2)) {o : Nat} {xs : List Value} (hl : o + xs.length ≤ L.top) (one : ∀ v ∈ xs, v.oneCell' = true) :
    (storeCells (⟨L.b, o, none⟩ : Addr) xs).run P w = .ok () (w.setCells L.b o xs) := by
  have := run_storeCells_cells (P := P) L.b o xs 0 w (fun j hj => by
      unfold World.cell?
      rw [show (⟨L.b, o + 0 + j, none⟩ : Addr).block = L.b from rfl, e1]
      simp; omega) (fun j hj => by
      unfold World.frozen?
      rw [show (⟨L.b, o + 0 + j, none⟩ : Addr).block = L.b from rfl, e1]
      have := e3 (o + 0 + j) (by omega)
      simp only [Nat.add_zero, not_and, Nat.not_lt] at this ⊢
      obtain ⟨lo, hi⟩ := fr
      simp only at this ⊢
      by_cases hlo : lo ≤ o + j
      · simp [hlo, this hlo]
      · simp [hlo]) one
  simpa using this
theorem treeApp_ok {P : Program} {w : World} {C : Ctx} {H : Nat → Option Blk} (r : RelT P w C H) (base : Nat) (hb : C.φ base = none) {e : TypeId} (hz : okZ P e = true) {s x : AV} {vs vx : Value} (rs : Rep w C s vs) (rx : Rep w C x vx) {t t' : TypeId} (ht : und P t = .slice e) (ht' : notInt P t' = true) (ty : TypeId) {g : Bool} {v : AV} {nw : List (Nat × Blk)} {dd fz : List Nat}
    (h : treeApp P H base e s x = .val g v nw dd fz) (hg : g = true) : DidT P w C H base (do pure (.value (← Builtin.append_ #[t, t'] ty #[vs, vx]))) v (after H nw dd fz) := by
  have he : e ≠ 0 := by
    obtain ⟨i, z, ei, hzz, hc, hs, hs1, ok, hzo, hby, hb1, hone⟩ := okZ_info hz
    exact okT_ne ok
  cases s <;> cases x <;> simp only [treeApp, reduceCtorEq] at h
  case nils.own xid xo xn =>
    cases hkx : H xid with
    | none => rw [hkx] at h; simp at h
    | some kx =>
    rw [hkx] at h
    simp only at h
    cases h1 : (Nat.beq kx.st 3 && Nat.beq kx.elem e) <;> rw [h1] at h <;> simp only [reduceCtorEq, Res.val.injEq] at h
    obtain ⟨rfl, rfl, rfl, rfl, rfl⟩ := h
    rw [Bool.and_eq_true] at h1
    have hxe := nbeq_eq h1.2
    subst hxe
    obtain ⟨ax, capx, us, Tm, rfl, hcap, hul, uone, utr, src, alt⟩ := own_seg r hkx (nbeq_eq h1.1) he rx
    obtain ⟨_, rfl⟩ := rs
    have hHas : ∀ b, b ∈ Tm → HasS P w C H (· ∈ [xid]) b := by
      rcases alt with ⟨_, _, rfl, _⟩ | ⟨L, T, q1, q2, q3, q4, q5, q6, q7, q8, q9⟩
      · intro b hb; simp at hb
      · exact fun b hb => ⟨xid, by simp, L, kx, q1, hkx, .inr ⟨T, q3, q8 b (by simp [hb])⟩⟩
    have hnd : Tm.Nodup := by
      rcases alt with ⟨_, _, rfl, _⟩ | ⟨L, T, q1, q2, q3, q4, q5, q6, q7, q8, q9⟩
      · exact List.nodup_nil
      · exact (List.nodup_cons.1 q7).2
    by_cases hn : xn = 0
    · subst hn
      have hnil : us = [] := by simpa using hul
      subst hnil
      have hrun := inplace_run (P := P) (w := w) (base_ := none) (len := 0) (cap := 0) hz src (Nat.le_refl _) ht ht' ty w (fun _ _ _ => rfl) (fun _ => ⟨rfl, rfl⟩)
      obtain ⟨r1, r2⟩ := tree_idle r hb [xid] ⟨true, kx.elem, 3, cutC kx.cells xo (mulN 0 (szOf P kx.elem))⟩
      exact ⟨.value _, _, w, C, by rw [Sem.run_bind, hrun]; rfl, .inl rfl, ⟨none, 0, rfl, Nat.le_refl _, .inl ⟨rfl, rfl⟩⟩, r1, r2, fun _ _ q => q⟩
    · obtain ⟨cap', zs, w', q1, q2, q3, q4, q5, q6, q7⟩ := grow_run (olds := []) (len := 0) (cap := 0) (base_ := none) hz src (by simp) (fun w' _ => rfl) (by omega) (by simpa using hg) ht ht' ty
      obtain ⟨r1, r2⟩ := tree_new (w' := w') (vs := us ++ zs) r hb [xid] (e := kx.elem) (s := szOf P kx.elem) rfl utr hnd hHas ⟨zs, rfl⟩ uone (by simpa using q2) q3 q4 q5
      have hxl := trv_len utr
      refine ⟨.value _, _, _, _, by rw [Sem.run_bind, q1]; rfl, .inl rfl, ⟨_, cap', by rw [Nat.zero_add], by omega, .inr ⟨_, upd_same _ _ _, rfl, ?_, ?_⟩⟩, r1, r2, fun id p1 p2 => ?_⟩
      · show 0 + 0 + cap' * szOf P kx.elem ≤ (us ++ zs).length
        have : (us ++ zs).length = cap' * szOf P kx.elem := by simpa using q7
        omega
      · show 0 + xn * szOf P kx.elem ≤ List.length _
        rw [← hxl, hul]; omega
      · show upd C.φ base _ id = none
        rw [upd_other _ _ p1]; exact p2
  case own.own id off len xid xo xn =>
    cases hk : H id with
    | none => rw [hk] at h; simp at h
    | some k =>
    cases hkx : H xid with
    | none => rw [hk, hkx] at h; simp at h
    | some kx =>
    rw [hk, hkx] at h
    simp only at h
    cases h1 : (Nat.beq k.st 3 && (Nat.beq k.elem e && (Nat.beq kx.st 3 && (Nat.beq kx.elem e && !Nat.beq id xid)))) <;> rw [h1] at h <;> simp only [reduceCtorEq, Res.val.injEq] at h
    obtain ⟨rfl, rfl, rfl, rfl, rfl⟩ := h
    simp only [Bool.and_eq_true, Bool.not_eq_true'] at h1
    obtain ⟨d1, d2, d3, d4, d5⟩ := h1
    have hne : id ≠ xid := fun q => by rw [q] at d5; simp at d5
    have hxe := nbeq_eq d4
    have hke := nbeq_eq d2
    obtain ⟨ax, capx, us, U, rfl, hcapx, hul, uone, utr, src, altx⟩ := own_seg r hkx (nbeq_eq d3) (by rw [hxe]; exact he) rx
    obtain ⟨a, cap, os, Tm, rfl, hcap, hol, oone, otr, osrc, alt⟩ := own_seg r hk (nbeq_eq d1) (by rw [hke]; exact he) rs
    rw [hxe] at hul utr src altx
    rw [hke] at hol otr osrc alt
    have hHasx : ∀ b, b ∈ U → HasS P w C H (· = xid) b := by
      rcases altx with ⟨_, _, rfl, _⟩ | ⟨L, T, q1, q2, q3, q4, q5, q6, q7, q8, q9⟩
      · intro b hb; simp at hb
      · exact fun b hb => ⟨xid, rfl, L, kx, q1, hkx, .inr ⟨T, q3, q8 b (by simp [hb])⟩⟩
    have hndx : U.Nodup := by
      rcases altx with ⟨_, _, rfl, _⟩ | ⟨L, T, q1, q2, q3, q4, q5, q6, q7, q8, q9⟩
      · exact List.nodup_nil
      · exact (List.nodup_cons.1 q7).2
    have hHas : ∀ b, b ∈ Tm → HasS P w C H (· = id) b := by
      rcases alt with ⟨_, _, rfl, _⟩ | ⟨L, T, q1, q2, q3, q4, q5, q6, q7, q8, q9⟩
      · intro b hb; simp at hb
      · exact fun b hb => ⟨id, rfl, L, k, q1, hk, .inr ⟨T, q3, q8 b (by simp [hb])⟩⟩
    have hnd : Tm.Nodup := by
      rcases alt with ⟨_, _, rfl, _⟩ | ⟨L, T, q1, q2, q3, q4, q5, q6, q7, q8, q9⟩
      · exact List.nodup_nil
      · exact (List.nodup_cons.1 q7).2
    by_cases hroom : len + xn ≤ cap
    · rcases alt with ⟨rfl, rfl, rfl, rfl⟩ | ⟨L, T, q1, q2, q3, q4, q5, q6, q7, q8, q9, q10⟩
      · have hx0 : xn = 0 := by omega
        subst hx0
        have hnil : us = [] := by simpa using hul
        subst hnil
        have hrun := inplace_run (P := P) (w := w) (base_ := a) (len := 0) (cap := 0) hz src (Nat.le_refl _) ht ht' ty w (fun _ _ _ => rfl) (fun _ => ⟨rfl, rfl⟩)
        obtain ⟨r1, r2⟩ := tree_idle r hb [id, xid] ⟨true, e, 3, catC (cutC k.cells off (mulN 0 (szOf P e))) (cutC kx.cells xo (mulN 0 (szOf P e)))⟩
        exact ⟨.value _, _, w, C, by rw [Sem.run_bind, hrun]; rfl, .inl rfl, ⟨a, 0, rfl, Nat.le_refl _, .inl ⟨rfl, rfl⟩⟩, r1, r2, fun _ _ q => q⟩
      · subst q2
        obtain ⟨cells, el, fr, g1, g2, g3, g4⟩ := q10
        have hmul : (len + xn) * L.s ≤ cap * L.s := Nat.mul_le_mul_right _ hroom
        rw [Nat.add_mul] at hmul
        have hrun := inplace_run (P := P) (w := w) (base_ := some ⟨L.b, L.d + off, none⟩) hz src hroom ht ht' ty (w.setCells L.b (L.d + off + len * L.s) us) (fun b o q => by
          cases q
          rw [Addr.add_mid, ← q4]
          exact run_store_row g1 g2 g3 (by rw [hul, ← q4]; omega) uone) (fun q => absurd rfl (q _ _))
        obtain ⟨r1, r2⟩ := tree_inplace r hb he q1 hk hke hne q3 q4 q5 q6 hroom q7 q8 q9 ⟨cells, el, fr, g1, g2, g3, g4⟩ hol otr utr hndx hul uone hHasx
        refine ⟨.value _, _, _, _, by rw [Sem.run_bind, hrun]; rfl, .inl rfl, ⟨_, cap, rfl, hroom, .inr ⟨_, upd_same _ _ _, rfl, ?_, ?_⟩⟩, r1, r2, fun j p1 p2 => ?_⟩
        · show L.d + off + 0 + cap * L.s ≤ L.top
          omega
        · show 0 + (len + xn) * L.s ≤ (len + xn) * L.s
          omega
        · show upd C.φ base _ j = none
          rw [upd_other _ _ p1]; exact p2
    · obtain ⟨cap', zs, w', q1, q2, q3, q4, q5, q6, q7⟩ := grow_run (olds := os) (len := len) (cap := cap) (base_ := a) hz src hol osrc.cells (by omega) hg ht ht' ty
      have hd : ∀ j, j = id → ¬ j = xid := fun j q q2 => hne (q.symm.trans q2)
      obtain ⟨r1, r2⟩ := tree_new (w' := w') (vs := os ++ us ++ zs) r hb [id, xid] (e := e) (s := szOf P e) rfl (trv_append otr utr) (List.nodup_append.2 ⟨hnd, hndx, fun b hb c hc => HasS.ne r hd (hHas b hb) (hHasx c hc)⟩)
        (fun b hb => by
          rcases List.mem_append.1 hb with hb | hb
          · exact (hHas b hb).mono fun i q => by simp [q]
          · exact (hHasx b hb).mono fun i q => by simp [q]) ⟨zs, rfl⟩ (fun v hv => by
          rcases List.mem_append.1 hv with hv | hv
          · exact oone v hv
          · exact uone v hv) q2 q3 q4 q5
      have hxl := trv_len (trv_append otr utr)
      refine ⟨.value _, _, _, _, by rw [Sem.run_bind, q1]; rfl, .inl rfl, ⟨_, cap', rfl, q6, .inr ⟨_, upd_same _ _ _, rfl, ?_, ?_⟩⟩, r1, r2, fun j p1 p2 => ?_⟩
      · show 0 + 0 + cap' * szOf P e ≤ (os ++ us ++ zs).length
        omega
      · show 0 + (len + xn) * szOf P e ≤ List.length (_ ++ _)
        rw [← hxl, List.length_append, hol, hul, Nat.add_mul]; omega
      · show upd C.φ base _ j = none
        rw [upd_other _ _ p1]; exact p2
end Go.Proofs.YtlcnpecejhcnfaaDoor.EV
