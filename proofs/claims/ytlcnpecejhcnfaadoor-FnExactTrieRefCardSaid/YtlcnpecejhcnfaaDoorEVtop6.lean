/- What is written into a tree and read of it. No conditions. -/
import Derived.Test.YtlcnpecejhcnfaaDoorEVtop5
namespace Go.Proofs.YtlcnpecejhcnfaaDoor.EV
set_option linter.unusedVariables false
set_option linter.unusedSimpArgs false
open Go Go.RowKit

theorem distinct_app : ∀ {a b : List Nat}, distinct (a ++ b) = true → distinct a = true ∧ distinct b = true ∧ ∀ z, z ∈ a → z ∉ b
  | [], b, h => ⟨rfl, h, by simp⟩
  | c :: a, b, h => by
    simp only [List.cons_append, distinct, Bool.and_eq_true, Bool.not_eq_true', List.contains_eq_mem, decide_eq_false_iff_not] at h ⊢
    obtain ⟨q1, q2, q3⟩ := distinct_app h.2
    refine ⟨⟨fun q => h.1 (List.mem_append_left _ q), q1⟩, q2, fun z hz => ?_⟩
    rcases List.mem_cons.1 hz with rfl | hz
    · exact fun q => h.1 (List.mem_append_right _ q)
    · exact q3 z hz
theorem tr1_congr {P : Program} {H H1 : Nat → Option Blk} {x y : AV} {g : Bool} {ids : List Nat} (h : tr1 P H x = some (y, g, ids)) (e : ∀ j, j ∈ ids → H1 j = H j) : tr1 P H1 x = some (y, g, ids) := by
  cases x <;> simp only [tr1, reduceCtorEq] at h ⊢ <;> try exact h
  case own id off n =>
    cases hk : H id with
    | none => rw [hk] at h; simp at h
    | some k =>
      have hid : ids = [id] := by
        rw [hk] at h
        simp only at h
        split at h <;> simp only [reduceCtorEq, Option.some.injEq, Prod.mk.injEq] at h
        · exact h.2.2.symm
        · exact h.2.2.symm
      rw [e id (by rw [hid]; simp), hk]
      rw [hk] at h
      exact h
theorem trAll_congr {P : Program} {H H1 : Nat → Option Blk} : ∀ {xs ys : List AV} {g : Bool} {ids : List Nat}, trAll P H xs = some (ys, g, ids) → (∀ j, j ∈ ids → H1 j = H j) → trAll P H1 xs = some (ys, g, ids)
  | [], _, _, _, h, _ => h
  | x :: xs, ys, g, ids, h, e => by
    simp only [trAll] at h ⊢
    cases h1 : tr1 P H x with
    | none => rw [h1] at h; simp at h
    | some p =>
      cases h2 : trAll P H xs with
      | none => rw [h1, h2] at h; simp at h
      | some q =>
        obtain ⟨y, g1, i1⟩ := p
        obtain ⟨ys2, g2, i2⟩ := q
        rw [h1, h2] at h
        have hid : ids = i1 ++ i2 := by
          simp only [Option.some.injEq, Prod.mk.injEq] at h
          exact h.2.2.symm
        rw [tr1_congr h1 (fun j hj => e j (by rw [hid]; exact List.mem_append_left _ hj)), trAll_congr h2 (fun j hj => e j (by rw [hid]; exact List.mem_append_right _ hj))]
        exact h
theorem store3_ok {P : Program} {w : World} {C : Ctx} {H : Nat → Option Blk} (r : RelT P w C H) {id : Nat} {L : Loc} {k : Blk} (hL : C.φ id = some L) (hk : H id = some k) (hs : k.st = 3) {xs ys : List AV} {g : Bool} {ids : List Nat} {us : List Value} {off : Nat}
    (h : trAll P H xs = some (ys, g, ids)) (hg : g = true) (rx : RepL w C xs us) (hd : distinct (id :: ids) = true) (hl : off + us.length ≤ k.cells.length) (one : ∀ v ∈ us, v.oneCell' = true) (h0 : k.elem = 0 → ys.all plain1 = true) :
    RelT P (w.setCells L.b (L.d + off) us) C (upds (setSt H 2 ids) [(id, ⟨true, k.elem, 3, setMany k.cells off ys⟩)]) ∧
    KeptT P w C H (w.setCells L.b (L.d + off) us) C (upds (setSt H 2 ids) [(id, ⟨true, k.elem, 3, setMany k.cells off ys⟩)]) ∧ w.there L.b (L.d + off) us.length := by
  obtain ⟨T, ok, nd, _⟩ := r.t.ok id L k hL hk (by omega)
  have ok' := ok
  obtain ⟨z1, z2, z3⟩ := ok
  obtain ⟨_, vs, y3, y4, ⟨cells, el, fr, q1, q2, q3, q4⟩, y6, y7⟩ := z3.resolve_right fun q => by have := q.1; omega
  have hdd := hd
  simp only [distinct, Bool.and_eq_true, Bool.not_eq_true', List.contains_eq_mem, decide_eq_false_iff_not] at hd
  obtain ⟨hidn, hdi⟩ := hd
  obtain ⟨U, t1, t2, t3⟩ := trAll_ok r h hg rx hdi
  have hyl := trv_len t1
  have hvl := trv_len y7
  obtain ⟨Ta, Tm, Tb, p1, p2, p3⟩ := trv_put (o := off) y7 t1 (by omega)
  obtain ⟨w1, w2, w3, w4⟩ := setCells_rest us (L.d + off) w L.b
  have hnew := setCells_heap us (L.d + off) w L.b cells el fr q1
  have hsame : ∀ b, b ≠ L.b → (w.setCells L.b (L.d + off) us).heap[b]? = w.heap[b]? := fun b hb => setCells_other _ _ _ _ _ hb
  have hT : ∀ b, b ∈ L.b :: T → HasS P w C H (· = id) b := fun b hb => ⟨id, rfl, L, k, hL, hk, .inr ⟨T, ok', hb⟩⟩
  have hdj : ∀ i, i = id → ¬ i ∈ ids := fun i q q2 => hidn (q ▸ q2)
  have hUb : ∀ b, b ∈ U → b ≠ L.b := fun b hb => (HasS.ne r hdj (hT L.b (by simp)) (t3 b hb)).symm
  have hTb : ∀ b, b ∈ T → b ≠ L.b := fun b hb q => (List.nodup_cons.1 nd).1 (q ▸ hb)
  have hbase : upds (setSt H 2 ids) [(id, (⟨true, k.elem, 3, setMany k.cells off ys⟩ : Blk))] id = some ⟨true, k.elem, 3, setMany k.cells off ys⟩ := upd_same _ _ _
  have hother : ∀ j, j ≠ id → upds (setSt H 2 ids) [(id, (⟨true, k.elem, 3, setMany k.cells off ys⟩ : Blk))] j = setSt H 2 ids j := fun j q => upd_other _ _ q
  have sub : ∀ b, b ∈ L.b :: (Ta ++ (U ++ Tb)) → b ∈ L.b :: T ∨ b ∈ U := by
    intro b hb
    rw [p1]
    rcases List.mem_cons.1 hb with rfl | hb
    · exact .inl (by simp)
    · rcases List.mem_append.1 hb with hb | hb
      · exact .inl (by simp [hb])
      · rcases List.mem_append.1 hb with hb | hb
        · exact .inr hb
        · exact .inl (by simp [hb])
  have tok : TreeOk P (w.setCells L.b (L.d + off) us) C L ⟨true, k.elem, 3, setMany k.cells off ys⟩ (Ta ++ (U ++ Tb)) := by
    refine ⟨rfl, z2, .inl ⟨rfl, putL vs off us, ?_, y4, ⟨_, el, fr, hnew, by rw [putsV_size]; exact q2, q3, q4.imp (fun q => q) fun q => ⟨q.1, ?_⟩⟩, fun j v hj => ?_, trv_same _ _ _ (fun b hb => hsame b ?_) p3⟩⟩
    · show L.len = (setMany _ _ _).length
      rw [setMany_length]; exact y3
    · rw [List.all_eq_true]
      intro x hx
      obtain ⟨j, hj⟩ := List.getElem?_of_mem hx
      rw [setMany_get _ _ _ _ (by omega)] at hj
      split at hj
      · exact List.all_eq_true.1 (h0 q.1) x (List.mem_of_getElem? hj)
      · exact List.all_eq_true.1 q.2 x (List.mem_of_getElem? hj)
    · rw [putL_get _ _ _ (by omega)] at hj
      refine ⟨?_, ?_⟩
      · unfold World.cell?
        rw [show (⟨L.b, L.d + j, none⟩ : Addr).block = L.b from rfl, hnew]
        simp only [Option.isSome_none, Bool.false_eq_true, if_false]
        have hjl : j < vs.length := by
          split at hj
          · omega
          · exact (List.getElem?_eq_some_iff.1 hj).1
        rw [putsV_get _ _ _ _ (by omega)]
        by_cases hc : off ≤ j ∧ j < off + us.length
        · rw [if_pos hc] at hj
          rw [if_pos (by omega), show L.d + j - (L.d + off) = j - off by omega]; exact hj
        · rw [if_neg hc] at hj
          rw [if_neg (by omega)]
          have := (y6 j v hj).1
          unfold World.cell? at this
          rw [show (⟨L.b, L.d + j, none⟩ : Addr).block = L.b from rfl, q1] at this
          simpa using this
      · split at hj
        · exact one v (List.mem_of_getElem? hj)
        · exact (y6 j v hj).2
    · rcases sub b (List.mem_cons_of_mem _ hb) with hb2 | hb2
      · rcases List.mem_cons.1 hb2 with rfl | hb2
        · -- the row itself is not below itself
          intro _
          rcases List.mem_append.1 hb with hb | hb
          · exact hTb _ (by rw [p1]; simp [hb]) rfl
          · rcases List.mem_append.1 hb with hb | hb
            · exact hUb _ hb rfl
            · exact hTb _ (by rw [p1]; simp [hb]) rfl
        · exact hTb b hb2
      · exact hUb b hb2
  suffices x : (RelT P (w.setCells L.b (L.d + off) us) C (upds (setSt H 2 ids) [(id, ⟨true, k.elem, 3, setMany k.cells off ys⟩)]) ∧
    KeptT P w C H (w.setCells L.b (L.d + off) us) C (upds (setSt H 2 ids) [(id, ⟨true, k.elem, 3, setMany k.cells off ys⟩)])) ∧ w.there L.b (L.d + off) us.length from ⟨x.1.1, x.1.2, x.2⟩
  refine ⟨?_, fun j hj => ?_⟩
  · refine tree_step r (fun i => i ∈ ids ∨ i = id) rfl (fun i L q => q) (fun i ns => ⟨rfl, (hother i fun q => ns (.inr q)).trans (setSt_not fun q => ns (.inl q))⟩) (fun i M hs1 q => ?_) (fun i i' M M' k1 k' T1 T' hs1 hs2 ne q1 q2 q3 q4 o1 o2 b _ => ?_) (fun b _ hns => hsame b fun q => hns ?_) (by omega) w2 w3 w4
    · by_cases hi : i = id
      · subst hi
        rw [hL] at q; cases q
        refine ⟨_, hbase, by simp, fun _ => ⟨_, tok, ?_, fun b hb => .inr ?_⟩⟩
        · rw [p1] at nd
          simp only [List.nodup_cons, List.nodup_append, List.mem_append, not_or] at nd ⊢
          obtain ⟨⟨a1, a2, a3⟩, b1, ⟨b2, b3, b4⟩, b5⟩ := nd
          refine ⟨⟨a1, fun q => hUb _ q rfl, a3⟩, b1, ⟨t2, b3, fun x hx y hy => ?_⟩, fun x hx y hy => ?_⟩
          · exact (HasS.ne r hdj (hT y (by rw [p1]; simp [hy])) (t3 x hx)).symm
          · rcases hy with hy | hy
            · exact HasS.ne r hdj (hT x (by rw [p1]; simp [hx])) (t3 y hy)
            · exact b5 x hx y (.inr hy)
        · rcases sub b hb with hb | hb
          · exact (hT b hb).mono fun i q => .inr q
          · exact (t3 b hb).mono fun i q => .inl q
      · obtain ⟨k0, hk0, _⟩ := r.h.blk i M q
        exact ⟨_, (hother i hi).trans (setSt_mem hk0 (hs1.resolve_right hi)), by simp, fun z => by simp at z⟩
    · exfalso
      have s1 := o1.st
      have s2 := o2.st
      have dead : ∀ j k0, j ≠ id → j ∈ ids → upds (setSt H 2 ids) [(id, (⟨true, k.elem, 3, setMany k.cells off ys⟩ : Blk))] j = some k0 → k0.st = 2 := by
        intro j k0 a1 a2 a3
        rw [hother j a1] at a3
        cases hk0 : H j with
        | none => rw [setSt_none hk0] at a3; cases a3
        | some k00 => rw [setSt_mem hk0 a2] at a3; cases a3; rfl
      by_cases a1 : i = id
      · have a2 : i' ≠ id := fun q => ne (a1.trans q.symm)
        have := dead i' k' a2 (hs2.resolve_right a2) q4; omega
      · have := dead i k1 a1 (hs1.resolve_right a1) q3; omega
    · rw [q]
      exact (hT L.b (by simp)).mono fun i q => .inr q
  · refine ⟨?_, ?_⟩
    · unfold World.cell?
      rw [show (⟨L.b, L.d + off + j, none⟩ : Addr).block = L.b from rfl, q1]
      simp; omega
    · unfold World.frozen?
      rw [show (⟨L.b, L.d + off + j, none⟩ : Addr).block = L.b from rfl, q1]
      have := q3 (L.d + off + j) (by omega)
      simp only [not_and, Nat.not_lt] at this ⊢
      obtain ⟨lo, hi⟩ := fr
      simp only at this ⊢
      by_cases hlo : lo ≤ L.d + off + j
      · simp [hlo, this hlo]
      · simp [hlo]
theorem treeStore_ok {P : Program} {w : World} {C : Ctx} {H : Nat → Option Blk} (r : RelT P w C H) (base : Nat) {t : TypeId} {id off : Nat} {b : Blk} (hk : H id = some b) {x : AV} {va vx : Value} (ra : Rep w C (.ptr id off) va) (rx : Rep w C x vx) {g : Bool} {v : AV} {nw : List (Nat × Blk)} {dd fz : List Nat}
    (h : treeStore P H t id off b x = .val g v nw dd fz) (hg : g = true) : DidT P w C H base (do Instr.storeAt t va vx; pure .skip) v (after H nw dd fz) := by
  unfold treeStore at h
  cases hf : foldB H b with
  | none => rw [hf] at h; simp at h
  | some p =>
    obtain ⟨b', d1⟩ := p
    rw [hf] at h
    simp only at h
    cases hp : (Nat.beq x.parts.length (szOf P t) && x.parts.all one) with
    | false => rw [hp] at h; simp at h
    | true =>
    cases ht : trAll P H x.parts with
    | none => rw [hp, ht] at h; simp at h
    | some q =>
    obtain ⟨ys, g1, ids⟩ := q
    rw [hp, ht] at h
    simp only at h
    cases hd : (distinct (id :: (d1 ++ ids)) && (!Nat.beq b.elem 0 || ys.all plain1)) with
    | false => rw [hd] at h; simp at h
    | true =>
    rw [hd] at h
    simp only [Res.val.injEq] at h
    obtain ⟨rfl, rfl, rfl, rfl, rfl⟩ := h
    rw [Bool.and_eq_true] at hp hd
    rw [Bool.and_eq_true, Bool.and_eq_true] at hg
    have hn := nbeq_eq hp.1
    obtain ⟨L, hL, rfl⟩ := ra
    have rl := parts_repL rx hp.2
    have hone := repL_one rl hp.2
    have hlen := repL_length rl
    obtain ⟨f1, f2, f3, f4, f5, _⟩ := fold_ok r hk hf
    have hdi : distinct (id :: d1 ++ ids) = true := by simpa using hd.1
    have hda := distinct_app (a := id :: d1) (b := ids) hdi
    have same : ∀ j, j ∈ ids → upds (setSt H 2 d1) (newsF id b' d1) j = H j := by
      intro j hj
      have h1 : j ≠ id := fun q => hda.2.2 id (by simp) (q ▸ hj)
      have h2 : j ∉ d1 := fun q => hda.2.2 j (by simp [q]) hj
      have h3 : upds (setSt H 2 d1) (newsF id b' d1) j = setSt H 2 d1 j := by
        cases d1 with
        | nil => rfl
        | cons _ _ => exact upd_other _ _ h1
      rw [h3, setSt_not h2]
    have hdi2 : distinct (id :: ids) = true := by
      simp only [distinct, Bool.and_eq_true, Bool.not_eq_true', List.contains_eq_mem, decide_eq_false_iff_not]
      exact ⟨hda.2.2 id (by simp), hda.2.1⟩
    have hul : vx.cells.toList.length = szOf P t := by omega
    obtain ⟨s1, s2, s3⟩ := store3_ok f1 hL f3 f4 (trAll_congr ht same) hg.2.1 rl hdi2 (by rw [hul]; exact Nat.le_of_ble_eq_true hg.2.2) hone (fun q => by
      rw [f5] at q
      have := hd.2
      rw [q] at this
      simpa using this)
    have hH : upds (setSt (upds (setSt H 2 d1) (newsF id b' d1)) 2 ids) [(id, (⟨true, b'.elem, 3, setMany b'.cells off ys⟩ : Blk))] = after H [(id, (⟨true, b.elem, 3, setMany b'.cells off ys⟩ : Blk))] (d1 ++ ids) [] := by
      funext j
      rw [after_eq, f5]
      by_cases hj : j = id
      · subst hj
        exact (upd_same _ _ _).trans (upd_same _ _ _).symm
      · have e1 : upds (setSt (upds (setSt H 2 d1) (newsF id b' d1)) 2 ids) [(id, (⟨true, b.elem, 3, setMany b'.cells off ys⟩ : Blk))] j = setSt (upds (setSt H 2 d1) (newsF id b' d1)) 2 ids j := upd_other _ _ hj
        have e2 : upds (setSt H 2 (d1 ++ ids)) [(id, (⟨true, b.elem, 3, setMany b'.cells off ys⟩ : Blk))] j = setSt H 2 (d1 ++ ids) j := upd_other _ _ hj
        have e3 : upds (setSt H 2 d1) (newsF id b' d1) j = setSt H 2 d1 j := by
          cases d1 with
          | nil => rfl
          | cons _ _ => exact upd_other _ _ hj
        rw [e1, e2, setSt_at, setSt_at, e3, setSt_at]
        by_cases a1 : j ∈ d1
        · by_cases a2 : j ∈ ids
          · exact absurd a2 (hda.2.2 j (by simp [a1]))
          · rw [if_neg a2, if_pos a1, if_pos (by simp [a1])]
        · by_cases a2 : j ∈ ids
          · rw [if_pos a2, if_neg a1, if_pos (by simp [a2])]
          · rw [if_neg a2, if_neg a1, if_neg (by simp [a1, a2])]
    rw [hH] at s1 s2
    refine ⟨.skip, undef, _, C, ?_, .inr ⟨rfl, rfl⟩, trivial, s1, f2.trans s2, fun _ _ q => q⟩
    rw [Sem.run_bind, run_storeAt hg.1 (by rw [← Array.length_toList]; exact hul) hone (by simpa using s3)]
    rfl
end Go.Proofs.YtlcnpecejhcnfaaDoor.EV
