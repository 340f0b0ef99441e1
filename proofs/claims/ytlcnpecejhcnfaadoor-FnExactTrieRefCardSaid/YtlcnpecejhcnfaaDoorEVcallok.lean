/- A call of the program's own. No conditions. -/
import Derived.Test.YtlcnpecejhcnfaaDoorEVres2
namespace Go.Proofs.YtlcnpecejhcnfaaDoor.EV
set_option linter.unusedVariables false
set_option linter.unusedSimpArgs false
open Go Go.RowKit

def oneOr : List Value → Value
  | [u] => u
  | us => .tuple us.toArray
/-- How a function's call ends. -/
def Ran (cp : CP) (w : World) (C0 : Ctx) (H0 : Nat → Option Blk) (fn : Func) (f : FuncId) (rs : List TypeId) (r : List AV) (e : Ending) (w' : World) : Prop :=
  ∃ C' H' vs us, e = .returned (oneOr us) ∧ KeptT cp.P w C0 H0 w' C' H' ∧ RelT cp.P w' C' H' ∧ RepL w' C' vs us ∧ finishV cp fn f rs H' vs = some r ∧ ∀ id b, H0 id = some b → C0.φ id = none → C'.φ id = none
def OrcOk (cp : CP) (orc : Orc) : Prop := ∀ (f : FuncId) (fn : Func) (as r : List AV), look cp.fns f = some fn → orc f as = some r → ∀ (w : World) (C0 : Ctx) (cargs : List Value), GlobOk cp w C0 →
  RelT cp.P w C0 (look (takeArgs 0 as).2) → RepL w C0 (takeArgs 0 as).1 cargs → (∀ id, (takeArgs 0 as).2.length ≤ id → C0.φ id = none) →
  Calls cp.P f cargs.toArray w (Ran cp w C0 (look (takeArgs 0 as).2) fn f (refTys as) r)
/-- The functions of the table are the program's. -/
def CpOk (cp : CP) : Prop := ∀ f fn, look cp.fns f = some fn → cp.P.funcs[f]? = some fn ∧ (fn.name == "runtime.NumGoroutine") = false ∧ fn.body.isSome = true

theorem run_call {cp : CP} (hcp : CpOk cp) {f : FuncId} {fn : Func} (hf : look cp.fns f = some fn) (ev : Operand → Value) (dst : Option Tmp) (x : Operand) (hx : ev x = .func (.func f) #[] #[]) (args : Array Operand) (ats : Array TypeId) (ty : TypeId) (pos : String) (aft : Array Edge) (gu : Option (Nat × Bool)) (w : World) :
    (execOp ev ⟨dst, .call ⟨.value x, args, ats⟩, ty, pos, aft, gu⟩).run cp.P w = .ok (.enter f (args.map ev)) w := by
  obtain ⟨h1, h2, h3⟩ := hcp f fn hf
  show (Sem.run cp.P (resolve ev ⟨.value x, args, ats⟩ ty >>= fun d => invoke d.target d.args) w) = _
  rw [Sem.run_bind]
  show ((Sem.run cp.P (Deferred.ofValue (ev x) (args.map ev)) w).andThen _) = _
  rw [hx]
  show (Sem.run cp.P (callFunc f ((#[] ++ args.map ev) ++ #[])) w) = _
  rw [Array.empty_append, Array.append_empty]
  unfold callFunc
  simp only [Sem.run_bind, run_program, Result.andThen_ok, h1, h2]
  rw [if_neg (by simp), if_neg (by simpa using Option.isSome_iff_ne_none.1 h3)]
  rfl

theorem rel_fz {P : Program} {w : World} {D : Ctx} {G : Nat → Option Blk} (h : RelH P w D G) (Fz' : Nat → Prop) (sub : ∀ x, D.Fz x → Fz' x) (off : ∀ id L k, D.φ id = some L → G id = some k → k.st = 0 → ¬ Fz' L.b) (old : ∀ x, Fz' x → x < w.heap.size) : RelH P w ⟨D.φ, Fz'⟩ G ∧ Step w D w ⟨D.φ, Fz'⟩ := by
  have st : Step w D w ⟨D.φ, Fz'⟩ := ⟨fun _ _ q => q, sub, fun _ _ => rfl⟩
  refine ⟨⟨fun id L e => ?_, h.apart, old⟩, st⟩
  obtain ⟨k, hk, ok⟩ := h.blk id L e
  exact ⟨k, hk, blkOk_step st (fun _ => rfl) (fun hz hf => absurd hf (off id L k e hk hz)) ok⟩
theorem live_old {P : Program} {w : World} {D : Ctx} {G : Nat → Option Blk} (h : RelH P w D G) {id : Nat} {L : Loc} {k : Blk} (e : D.φ id = some L) (hk : G id = some k) (hs : k.st ≤ 1) : L.b < w.heap.size := by
  obtain ⟨k2, q, ok⟩ := h.blk id L e
  rw [hk] at q; cases q
  rcases ok with ok | ⟨_, _, _, _, e1, _⟩
  · omega
  · exact (Array.getElem?_eq_some_iff.1 e1).1
theorem handOut_ids {P : Program} {H : Nat → Option Blk} {fresh : Bool} : ∀ {ts : List TypeId} {vs os : List AV} {ids : List Nat}, handOut P H fresh ts vs = some (os, ids) → ∀ id, id ∈ ids → ∃ k, H id = some k ∧ k.st ≤ 1 ∧ k.arr = true := by
  have h1 : ∀ {e v o i}, out1 P H fresh e v = some (o, i) → ∀ id, id ∈ i → ∃ k, H id = some k ∧ k.st ≤ 1 ∧ k.arr = true := by
    intro e v o i h id hid
    unfold out1 at h
    split at h
    · obtain ⟨k, q1, q2, q3, _⟩ := closed1_ids h id hid; exact ⟨k, q1, q2, q3⟩
    · split at h
      · simp at h
      · split at h
        · split at h
          · simp only [Option.some.injEq, Prod.mk.injEq] at h
            rw [← h.2] at hid; simp at hid
          · simp at h
        · simp at h
      · obtain ⟨k, q1, q2, q3, _⟩ := closed1_ids h id hid; exact ⟨k, q1, q2, q3⟩
  have h2 : ∀ {vs es os i}, outCells P H fresh es vs = some (os, i) → ∀ id, id ∈ i → ∃ k, H id = some k ∧ k.st ≤ 1 ∧ k.arr = true := by
    intro vs
    induction vs with
    | nil =>
      intro es os i h id hid
      simp only [outCells, Option.some.injEq, Prod.mk.injEq] at h
      rw [← h.2] at hid; simp at hid
    | cons v r ih =>
      intro es os i h id hid
      simp only [outCells] at h
      split at h
      · rename_i a b g1 g2
        simp only [Option.some.injEq, Prod.mk.injEq] at h
        rw [← h.2] at hid
        rcases List.mem_append.1 hid with hid | hid
        · exact h1 (by assumption) id hid
        · exact ih (by assumption) id hid
      · simp at h
  intro ts
  induction ts with
  | nil =>
    intro vs os ids h id hid
    cases vs with
    | cons _ _ => simp [handOut] at h
    | nil =>
      simp only [handOut, Option.some.injEq, Prod.mk.injEq] at h
      rw [← h.2] at hid; simp at hid
  | cons t ts ih =>
    intro vs os ids h id hid
    cases vs with
    | nil => simp [handOut] at h
    | cons v r =>
      simp only [handOut] at h
      split at h
      · rename_i a i' b j' g1 g2
        simp only [Option.some.injEq, Prod.mk.injEq] at h
        rw [← h.2] at hid
        rcases List.mem_append.1 hid with hid | hid
        · unfold resultVal at g1
          split at g1
          · obtain ⟨k, q1, q2, q3, _⟩ := closed1_ids g1 id hid; exact ⟨k, q1, q2, q3⟩
          split at g1
          · split at g1
            · split at g1
              · simp only [Option.some.injEq, Prod.mk.injEq] at g1
                exact h2 (by assumption) id (by rw [g1.2]; exact hid)
              · simp at g1
            · simp at g1
          · split at g1
            · unfold outPt at g1
              split at g1
              · split at g1
                · rename_i hc
                  split at g1
                  · simp only [Option.some.injEq, Prod.mk.injEq] at g1
                    obtain ⟨k, q1, q2, q3, _⟩ := closedAll_ids hc id (by rw [g1.2]; exact hid)
                    exact ⟨k, q1, q2, q3⟩
                  · simp at g1
                · simp at g1
              · simp at g1
            · exact h1 g1 id hid
        · exact ih g2 id hid
      · simp at h
end Go.Proofs.YtlcnpecejhcnfaaDoor.EV
