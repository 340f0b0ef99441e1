/- Operations on trees. No conditions. -/
import Derived.Test.YtlcnpecejhcnfaaDoorEVtree4
namespace Go.Proofs.YtlcnpecejhcnfaaDoor.EV
set_option linter.unusedVariables false
set_option linter.unusedSimpArgs false
open Go Go.RowKit

structure DidT (P : Program) (w : World) (C : Ctx) (H : Nat → Option Blk) (base : Nat) (s : Sem Next) (v : AV) (H' : Nat → Option Blk) : Prop where
  out : ∃ nx u w' C', s.run P w = .ok nx w' ∧ (nx = .value u ∨ (nx = .skip ∧ u = undef)) ∧ Rep w' C' v u ∧ RelT P w' C' H' ∧ KeptT P w C H w' C' H' ∧ (∀ id, id ≠ base → C.φ id = none → C'.φ id = none)

theorem after_mem {H : Nat → Option Blk} {nw : List (Nat × Blk)} {dd fz : List Nat} {id : Nat} {b : Blk} (h : after H nw dd fz id = some b) : (∃ p ∈ nw, p.1 = id ∧ p.2 = b) ∨ ∃ k, H id = some k ∧ (b = k ∨ b = { k with st := 1 } ∨ b = { k with st := 2 }) := by
  unfold after at h
  rcases upds_some (l := nw) (f := setSt (setSt H 1 fz) 2 dd) (id := id) with q | ⟨p, h1, h2, h3⟩
  · right
    rw [q] at h
    cases e : H id with
    | none => rw [setSt_none (setSt_none e)] at h; cases h
    | some k =>
      refine ⟨k, rfl, ?_⟩
      rcases setSt_get (s := 1) (l := fz) e with q1 | q1
      · rcases setSt_get (s := 2) (l := dd) q1 with q2 | q2 <;> rw [q2] at h <;> cases h
        · exact .inl rfl
        · exact .inr (.inr rfl)
      · rcases setSt_get (s := 2) (l := dd) q1 with q2 | q2 <;> rw [q2] at h <;> cases h
        · exact .inr (.inl rfl)
        · exact .inr (.inr rfl)
  · left
    rw [h3] at h
    cases h
    exact ⟨p, h1, h2, rfl⟩
/-- What is no operation on trees. -/
theorem did_lift {P : Program} {w : World} {C : Ctx} {H : Nat → Option Blk} (r : RelT P w C H) {base : Nat} (hb : C.φ base = none) (htb : ∀ k, H base = some k → k.st < 3) {s : Sem Next} {v : AV} {nw : List (Nat × Blk)} {dd fz : List Nat} (h : Did P w C H base s v (after H nw dd fz)) (hn : ∀ p ∈ nw, p.2.st ≤ 1) :
    DidT P w C H base s v (after H nw dd fz) := by
  obtain ⟨nx, u, w', C', q1, q2, q3, q4, q5, q6⟩ := h.out
  have e1 : ∀ id b, after H nw dd fz id = some b → 3 ≤ b.st → H id = some b := by
    intro id b h1 h2
    rcases after_mem h1 with ⟨p, p1, _, p2⟩ | ⟨k, k1, k2 | k2 | k2⟩
    · have := hn p p1; rw [p2] at this; omega
    · rw [k2]; exact k1
    · rw [k2] at h2; simp at h2
    · rw [k2] at h2; simp at h2
  obtain ⟨l1, l2⟩ := lift r q4 q5 e1 (fun id b h1 h2 h3 => by
    by_cases hid : id = base
    · subst hid
      have := htb b (e1 id b h1 h2)
      omega
    · exact q6 id hid h3)
  exact ⟨nx, u, w', C', q1, q2, q3, l1, l2, q6⟩

/-- A new row that holds what other blocks give up. -/
theorem tree_new {P : Program} {w : World} {C : Ctx} {H : Nat → Option Blk} (r : RelT P w C H) {base : Nat} (hb : C.φ base = none) (dd : List Nat) {e : TypeId} {ys : List AV} {us vs : List Value} {T : List Nat} {s : Nat} (hs : s = szOf P e)
    (ht : TRV w ys us T) (nd : T.Nodup) (hT : ∀ b, b ∈ T → HasS P w C H (· ∈ dd) b) (hu : ∃ zs, vs = us ++ zs) (one : ∀ v ∈ us, v.oneCell' = true)
    {w' : World} (hw : w'.heap = w.heap.push (.cells vs.toArray e (0, 0))) (hos : w'.os = w.os) (htp : w'.tape = w.tape) (hout : w'.output = w.output) :
    RelT P w' ⟨upd C.φ base (some ⟨w.heap.size, 0, s, vs.length, ys.length⟩), C.Fz⟩ (upds (setSt H 2 dd) [(base, ⟨true, e, 3, ys⟩)]) ∧
    KeptT P w C H w' ⟨upd C.φ base (some ⟨w.heap.size, 0, s, vs.length, ys.length⟩), C.Fz⟩ (upds (setSt H 2 dd) [(base, ⟨true, e, 3, ys⟩)]) := by
  have hold : ∀ b, b < w.heap.size → w'.heap[b]? = w.heap[b]? := fun b hb => by rw [hw, Array.getElem?_push, if_neg (by omega)]
  have hnew : w'.heap[w.heap.size]? = some (.cells vs.toArray e (0, 0)) := by rw [hw, Array.getElem?_push, if_pos rfl]
  have hsz : w'.heap.size = w.heap.size + 1 := by rw [hw, Array.size_push]
  have hul := trv_len ht
  obtain ⟨zs, rfl⟩ := hu
  have hbase : upds (setSt H 2 dd) [(base, (⟨true, e, 3, ys⟩ : Blk))] base = some ⟨true, e, 3, ys⟩ := upd_same _ _ _
  have hother : ∀ id, id ≠ base → upds (setSt H 2 dd) [(base, (⟨true, e, 3, ys⟩ : Blk))] id = setSt H 2 dd id := fun id q => upd_other _ _ q
  have tok : TreeOk P w' ⟨upd C.φ base (some ⟨w.heap.size, 0, s, (us ++ zs).length, ys.length⟩), C.Fz⟩ ⟨w.heap.size, 0, s, (us ++ zs).length, ys.length⟩ ⟨true, e, 3, ys⟩ T := by
    refine ⟨rfl, fun _ => hs, .inl ⟨rfl, us, rfl, ?_, ⟨(us ++ zs).toArray, e, (0, 0), hnew, by simp, fun i _ q => by omega, .inl rfl⟩, fun j v hj => ?_, trv_same _ _ _ (fun b hb => hold b (trv_rows _ _ _ ht b hb)) ht⟩⟩
    · show 0 + ys.length ≤ (us ++ zs).length
      rw [List.length_append, hul]; omega
    · refine ⟨?_, one v (List.mem_of_getElem? hj)⟩
      have hjl := (List.getElem?_eq_some_iff.1 hj).1
      unfold World.cell?
      rw [show (⟨w.heap.size, 0 + j, none⟩ : Addr).block = w.heap.size from rfl, hnew]
      simp only [Option.isSome_none, Bool.false_eq_true, if_false, Nat.zero_add, List.getElem?_toArray]
      rw [List.getElem?_append_left hjl]; exact hj
  refine tree_step r (fun id => id ∈ dd ∨ id = base) rfl (fun id L q => ?_) (fun id ns => ⟨upd_other _ _ fun q => ns (.inr q), (hother id fun q => ns (.inr q)).trans (setSt_not fun q => ns (.inl q))⟩) (fun id L hs1 q => ?_) (fun id id' L L' k k' T T' hs1 hs2 ne q1 q2 q3 q4 o1 o2 b _ => ?_) (fun b hb _ => hold b hb) (by omega) hos htp hout
  · show upd C.φ base _ id = some L
    rw [upd_other _ _ (fun x => by rw [x, hb] at q; cases q)]; exact q
  · by_cases hid : id = base
    · subst hid
      change upd C.φ id _ id = some L at q
      rw [upd_same] at q; cases q
      refine ⟨_, hbase, by simp, fun _ => ⟨T, tok, ?_, fun b hb => ?_⟩⟩
      · rw [List.nodup_cons]
        exact ⟨fun hm => Nat.lt_irrefl _ (trv_rows _ _ _ ht _ hm), nd⟩
      · rcases List.mem_cons.1 hb with rfl | hb
        · exact .inl (Nat.le_refl _)
        · exact .inr ((hT b hb).mono fun id q => .inl q)
    · change upd C.φ base _ id = some L at q
      rw [upd_other _ _ hid] at q
      obtain ⟨k, hk, _⟩ := r.h.blk id L q
      have hm : id ∈ dd := hs1.resolve_right hid
      exact ⟨_, (hother id hid).trans (setSt_mem hk hm), by simp, fun z => by simp at z⟩
  · exfalso
    have t1 := o1.st
    have t2 := o2.st
    have dead : ∀ id k, id ≠ base → id ∈ dd → upds (setSt H 2 dd) [(base, (⟨true, e, 3, ys⟩ : Blk))] id = some k → k.st = 2 := by
      intro id k h1 h2 h3
      rw [hother id h1] at h3
      cases hk : H id with
      | none => rw [setSt_none hk] at h3; cases h3
      | some k0 => rw [setSt_mem hk h2] at h3; cases h3; rfl
    by_cases h1 : id = base
    · have h2 : id' ≠ base := fun q => ne (h1.trans q.symm)
      have := dead id' k' h2 (hs2.resolve_right h2) q4; omega
    · have := dead id k h1 (hs1.resolve_right h1) q3; omega
/-- Nothing but numbers changes: a block's number is taken by an empty tree. -/
theorem tree_idle {P : Program} {w : World} {C : Ctx} {H : Nat → Option Blk} (r : RelT P w C H) {base : Nat} (hb : C.φ base = none) (dd : List Nat) (k : Blk) : RelT P w C (upds (setSt H 2 dd) [(base, k)]) ∧ KeptT P w C H w C (upds (setSt H 2 dd) [(base, k)]) := by
  have hother : ∀ id, id ≠ base → upds (setSt H 2 dd) [(base, k)] id = setSt H 2 dd id := fun id q => upd_other _ _ q
  refine tree_step r (fun id => id ∈ dd ∨ id = base) rfl (fun id L q => q) (fun id ns => ⟨rfl, (hother id fun q => ns (.inr q)).trans (setSt_not fun q => ns (.inl q))⟩) (fun id L hs1 q => ?_) (fun id id' L L' k1 k' T T' hs1 hs2 ne q1 q2 q3 q4 o1 o2 b _ => ?_) (fun b hb _ => rfl) (Nat.le_refl _) rfl rfl rfl
  · have hid : id ≠ base := fun z => by rw [z, hb] at q; cases q
    obtain ⟨k0, hk, _⟩ := r.h.blk id L q
    exact ⟨_, (hother id hid).trans (setSt_mem hk (hs1.resolve_right hid)), by simp, fun z => by simp at z⟩
  · exfalso
    have t1 := o1.st
    have hid : id ≠ base := fun z => by rw [z, hb] at q1; cases q1
    obtain ⟨k0, hk, _⟩ := r.h.blk id L q1
    rw [hother id hid, setSt_mem hk (hs1.resolve_right hid)] at q3
    cases q3
    simp at t1
end Go.Proofs.YtlcnpecejhcnfaaDoor.EV
