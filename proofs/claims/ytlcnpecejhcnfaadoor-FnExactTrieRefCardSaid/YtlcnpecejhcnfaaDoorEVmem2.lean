/- Stores, and new rows, of the evaluator are the program's. No conditions. -/
import Derived.Test.YtlcnpecejhcnfaaDoorEVmem
namespace Go.Proofs.YtlcnpecejhcnfaaDoor.EV
set_option linter.unusedVariables false
set_option linter.unusedSimpArgs false
open Go Go.RowKit

def putsV : Array Value → Nat → List Value → Array Value
  | cs, _, [] => cs
  | cs, i, v :: r => putsV (cs.setIfInBounds i v) (i + 1) r
theorem putsV_size : ∀ (vs : List Value) (cs : Array Value) (i : Nat), (putsV cs i vs).size = cs.size
  | [], _, _ => rfl
  | v :: r, cs, i => by rw [putsV, putsV_size r]; simp
theorem putsV_get : ∀ (vs : List Value) (cs : Array Value) (i j : Nat), i + vs.length ≤ cs.size → (putsV cs i vs)[j]? = if i ≤ j ∧ j < i + vs.length then vs[j - i]? else cs[j]?
  | [], cs, i, j, _ => by rw [putsV, if_neg (by simp only [List.length_nil]; omega)]
  | v :: r, cs, i, j, h => by
    simp only [List.length_cons] at h
    rw [putsV, putsV_get r _ (i + 1) j (by simp; omega)]
    simp only [List.length_cons]
    by_cases h1 : i + 1 ≤ j ∧ j < i + 1 + r.length
    · rw [if_pos h1, if_pos (by omega)]
      rw [show j - i = (j - (i + 1)) + 1 by omega]
      rfl
    · rw [if_neg h1]
      by_cases h2 : j = i
      · subst h2
        rw [if_pos (by omega)]
        simp [show j < cs.size by omega]
      · rw [if_neg (by omega)]
        simp only [Array.getElem?_setIfInBounds]
        rw [if_neg (by omega)]
theorem setCells_heap : ∀ (vs : List Value) (o : Nat) (w : World) (b : Nat) (cs : Array Value) (e : TypeId) (fr : Nat × Nat), w.heap[b]? = some (.cells cs e fr) → (w.setCells b o vs).heap[b]? = some (.cells (putsV cs o vs) e fr)
  | [], _, _, _, _, _, _, h => h
  | v :: r, o, w, b, cs, e, fr, h => by
    refine setCells_heap r (o + 1) _ b _ e fr ?_
    simp only [World.setCell, Array.getElem?_modify, if_pos, h]
    simp
theorem setCells_other : ∀ (vs : List Value) (o : Nat) (w : World) (b k : Nat), k ≠ b → (w.setCells b o vs).heap[k]? = w.heap[k]?
  | [], _, _, _, _, _ => rfl
  | v :: r, o, w, b, k, h => by
    rw [World.setCells, setCells_other r (o + 1) _ b k h]
    exact Below.heap_setCell w ⟨b, o, none⟩ v k h
theorem setCells_rest : ∀ (vs : List Value) (o : Nat) (w : World) (b : Nat), (w.setCells b o vs).heap.size = w.heap.size ∧ (w.setCells b o vs).os = w.os ∧ (w.setCells b o vs).tape = w.tape ∧ (w.setCells b o vs).output = w.output
  | [], _, _, _ => ⟨rfl, rfl, rfl, rfl⟩
  | v :: r, o, w, b => by
    rw [World.setCells]
    obtain ⟨h1, h2, h3, h4⟩ := setCells_rest r (o + 1) (w.setCell ⟨b, o, none⟩ v) b
    exact ⟨h1.trans (by simp [World.setCell]), h2, h3, h4⟩
theorem setMany_length : ∀ (ys xs : List AV) (o : Nat), (setMany xs o ys).length = xs.length
  | [], _, _ => rfl
  | y :: r, xs, o => by rw [setMany, setMany_length r]; simp
theorem setMany_get : ∀ (ys xs : List AV) (i j : Nat), i + ys.length ≤ xs.length → (setMany xs i ys)[j]? = if i ≤ j ∧ j < i + ys.length then ys[j - i]? else xs[j]?
  | [], xs, i, j, _ => by rw [setMany, if_neg (by simp only [List.length_nil]; omega)]
  | v :: r, xs, i, j, h => by
    simp only [List.length_cons] at h
    rw [setMany, setMany_get r _ (i + 1) j (by simp; omega)]
    simp only [List.length_cons]
    by_cases h1 : i + 1 ≤ j ∧ j < i + 1 + r.length
    · rw [if_pos h1, if_pos (by omega)]
      rw [show j - i = (j - (i + 1)) + 1 by omega]
      rfl
    · rw [if_neg h1]
      by_cases h2 : j = i
      · subst h2
        rw [if_pos (by omega)]
        simp [show j < xs.length by omega]
      · rw [if_neg (by omega), List.getElem?_set_ne (by omega)]

theorem upd_upd {α : Type} (f : Nat → α) (d : Nat) (a b : α) : upd (upd f d a) d b = upd f d b := by
  funext u
  unfold upd
  cases Nat.beq u d <;> rfl
theorem upd_self {α : Type} (f : Nat → α) (d : Nat) (a : α) (h : f d = a) : upd f d a = f := by
  funext u
  unfold upd
  cases e : Nat.beq u d with
  | true => rw [nbeq_eq e, h]
  | false => rfl

/-- A store into a block of the call's own. -/
theorem rel_store {P : Program} {w : World} {C : Ctx} {H : Nat → Option Blk} (h : RelH P w C H) {id : Nat} {L : Loc} {k : Blk} (e : C.φ id = some L) (hk : H id = some k) (hs : k.st = 0) {off : Nat} {xs : List AV} {vs : List Value}
    (r : RepL w C xs vs) (rb : k.arr = true → RepL w C.bare xs vs) (h1c : ∀ v ∈ vs, v.oneCell' = true) (hl : off + xs.length ≤ k.cells.length) :
    RelH P (w.setCells L.b (L.d + off) vs) C (upd H id (some { k with cells := setMany k.cells off xs })) ∧ Kept w C H (w.setCells L.b (L.d + off) vs) C (upd H id (some { k with cells := setMany k.cells off xs })) ∧
      w.there L.b (L.d + off) vs.length := by
  obtain ⟨k2, q, ok⟩ := h.blk id L e
  rw [hk] at q; cases q
  rcases ok with ok | ⟨e0, cells, el, fr, e1, e2, e3, e4, e5, e6, ea, e7, e8⟩
  · omega
  have hlen := repL_length r
  obtain ⟨e51, e52⟩ := e5
  obtain ⟨z1, z2, z3, z4⟩ := setCells_rest vs (L.d + off) w L.b
  have hfz : ¬ C.Fz L.b := e7 hs
  have hne : ∀ b, C.Fz b → b ≠ L.b := fun b hb q => hfz (q ▸ hb)
  have hkill := rel_kill h [id]
  have hH2 : setSt H 2 [id] = upd H id (some { k with st := 2 }) := by simp [setSt, hk]
  have hw : RelH P (w.setCells L.b (L.d + off) vs) C (setSt H 2 [id]) := by
    refine rel_world hkill (by omega) (fun b hb => setCells_other _ _ _ _ _ (hne b hb)) (fun j M k3 q1 q2 q3 => setCells_other _ _ _ _ _ ?_)
    by_cases hj : j = id
    · subst hj; rw [hH2, upd_same] at q2; cases q2; simp at q3
    · rw [hH2, upd_other _ _ hj] at q2
      exact fun x => h.apart id j L M k k3 e q1 hk q2 hs q3 (Ne.symm hj) x.symm
  have hnew := setCells_heap vs (L.d + off) w L.b cells el fr e1
  have st : Step w C (w.setCells L.b (L.d + off) vs) C := ⟨fun _ _ x => x, fun _ x => x, fun b hb => setCells_other _ _ _ _ _ (hne b hb)⟩
  have hC : (⟨upd C.φ id (some L), C.Fz⟩ : Ctx) = C := by rw [upd_self _ _ _ e]
  have mk : ∀ D D' : Ctx, Step w D (w.setCells L.b (L.d + off) vs) D' → RepL w D xs vs → RepAt w D L.b L.d k.cells → RepAt (w.setCells L.b (L.d + off) vs) D' L.b L.d (setMany k.cells off xs) := by
    intro D D' st r e6
    refine repAt_of fun j x hx => ?_
    have hj : j < k.cells.length := by have := (List.getElem?_eq_some_iff.1 hx).1; rwa [setMany_length] at this
    rw [setMany_get _ _ _ _ hl] at hx
    unfold World.cell?
    rw [show (⟨L.b, L.d + j, none⟩ : Addr).block = L.b from rfl, hnew]
    simp only [Option.isSome_none, Bool.false_eq_true, if_false]
    rw [putsV_get _ _ _ _ (by omega)]
    by_cases hr : off ≤ j ∧ j < off + xs.length
    · rw [if_pos hr] at hx
      rw [if_pos (by omega)]
      obtain ⟨v, q1, q2⟩ := repL_get r hx
      exact ⟨v, by rw [show L.d + j - (L.d + off) = j - off by omega]; exact q1, h1c v (List.mem_of_getElem? q1), rep_step st _ _ q2⟩
    · rw [if_neg hr] at hx
      rw [if_neg (by omega)]
      obtain ⟨v, q1, qo, q2⟩ := repAt_get1 e6 hx
      refine ⟨v, ?_, qo, rep_step st _ _ q2⟩
      unfold World.cell? at q1
      rw [show (⟨L.b, L.d + j, none⟩ : Addr).block = L.b from rfl, e1] at q1
      simpa using q1
  have ok' : BlkOk P (w.setCells L.b (L.d + off) vs) C L { k with cells := setMany k.cells off xs } :=
    .inr ⟨e0, _, el, fr, hnew, by rw [putsV_size]; exact e2, e3, e4, by rw [setMany_length]; exact ⟨e51, e52⟩, mk C C st r e6, fun q => mk C.bare C.bare st.bare (rb q) (ea q), e7, e8⟩
  obtain ⟨r1, _⟩ := rel_put hw id L { k with cells := setMany k.cells off xs } (.inr e) (by rw [hC]; exact ok') (fun j M k3 hj q1 q2 q3 => by
    rw [hH2, upd_other _ _ hj] at q2
    exact fun x => h.apart id j L M k k3 e q1 hk q2 hs q3 (Ne.symm hj) x.symm)
  rw [hC, hH2, upd_upd] at r1
  refine ⟨r1, ⟨st, z2, z3, z4, by omega, fun b hb hn => setCells_other _ _ _ _ _ (fun q => hn ⟨id, L, k, e, hk, hs, q.symm⟩), fun b hb => .inl ?_, fun b hb => .inl ?_, fun b hb => .inl hb⟩, fun j hj => ?_⟩
  · obtain ⟨j, M, k3, q1, q2, q3, q4⟩ := hb
    by_cases hj : j = id
    · subst hj
      rw [q1] at e; cases e
      exact ⟨j, L, k, q1, hk, hs, q4⟩
    · rw [upd_other _ _ hj] at q2; exact ⟨j, M, k3, q1, q2, q3, q4⟩
  · obtain ⟨j, M, k3, q1, q2, q3, qa, q4⟩ := hb
    by_cases hj : j = id
    · subst hj
      rw [upd_same] at q2; cases q2
      rw [q1] at e; cases e
      exact ⟨j, L, k, q1, hk, hs, qa, q4⟩
    · rw [upd_other _ _ hj] at q2; exact ⟨j, M, k3, q1, q2, q3, qa, q4⟩
  · have hb : L.d + off + j < cells.size := by omega
    constructor
    · unfold World.cell?
      rw [show (⟨L.b, L.d + off + j, none⟩ : Addr).block = L.b from rfl, e1]
      simp [hb]
    · unfold World.frozen?
      rw [show (⟨L.b, L.d + off + j, none⟩ : Addr).block = L.b from rfl, e1]
      have := e3 (L.d + off + j) (by omega)
      simp only [not_and, Nat.not_lt] at this
      obtain ⟨lo, hi⟩ := fr
      simp only at this ⊢
      by_cases hlo : lo ≤ L.d + off + j
      · simp [hlo, this hlo]
      · simp [hlo]
end Go.Proofs.YtlcnpecejhcnfaaDoor.EV
