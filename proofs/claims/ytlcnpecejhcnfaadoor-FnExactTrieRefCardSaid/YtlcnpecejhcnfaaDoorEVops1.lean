/- The evaluator's scalar operations are the program's. No conditions. -/
import Derived.Test.YtlcnpecejhcnfaaDoorEVrel
import Derived.WalkKit
namespace Go.Proofs.YtlcnpecejhcnfaaDoor.EV
set_option linter.unusedVariables false
set_option linter.unusedSimpArgs false
open Go Go.RowKit

/-- A result without memory: the operation reads and writes nothing, and comes to it. -/
def ScalarOk (P : Program) (r : Res) (s : Sem Value) : Prop :=
  ∀ g v nw dd fz, r = .val g v nw dd fz → g = true → nw = [] ∧ dd = [] ∧ fz = [] ∧ ∃ u, (∀ w, s.run P w = .ok u w) ∧ ∀ w C, Rep w C v u

theorem sc_pure {P : Program} {v : AV} {s : Sem Value} (u : Value) (h : ∀ w, s.run P w = .ok u w) (r : ∀ w C, Rep w C v u) : ScalarOk P (.pure v) s := by
  intro g v' nw dd fz e _
  cases e
  exact ⟨rfl, rfl, rfl, u, h, r⟩
theorem sc_gpure {P : Program} {g : Bool} {v : AV} {s : Sem Value} (h : g = true → ∃ u, (∀ w, s.run P w = .ok u w) ∧ ∀ w C, Rep w C v u) : ScalarOk P (.gpure g v) s := by
  intro g' v' nw dd fz e hg
  cases e
  exact ⟨rfl, rfl, rfl, h hg⟩
theorem sc_no {P : Program} {s : Sem Value} : ScalarOk P .no s := fun _ _ _ _ _ e => by cases e

theorem sc_int {P : Program} (op : BinOp) (k : IntKind) (a b : Int) (hs : op ≠ .shl) (hs' : op ≠ .shr) (t : TypeId) : ScalarOk P (intOp op k a b) (binOp op t (.int k a) (.int k b)) := by
  cases op <;> first | (exact absurd rfl hs) | (exact absurd rfl hs') | skip
  all_goals simp only [intOp, binOp, ne_eq, not_true_eq_false, if_false]
  all_goals first
    | exact sc_pure _ (fun _ => rfl) (fun _ _ => rfl)
    | (refine sc_gpure fun hg => ?_
       have hb : b ≠ 0 := by simpa [notB, eqI] using hg
       refine ⟨_, fun w => by simp only [Op.intDiv, if_neg hb]; rfl, fun _ _ => rfl⟩)
theorem sc_shift {P : Program} (op : BinOp) (k k' : IntKind) (a b : Int) (hs : op = .shl ∨ op = .shr) (t : TypeId) : ScalarOk P (intOp op k a b) (binOp op t (.int k a) (.int k' b)) := by
  rcases hs with rfl | rfl <;> simp only [intOp, binOp]
  all_goals
    refine sc_gpure fun hg => ?_
    have hb : ¬ b < 0 := by
      have : 0 ≤ b := by simpa [leI] using hg
      omega
    refine ⟨_, fun w => by simp only [Op.shift, if_neg hb]; rfl, fun _ _ => rfl⟩
theorem sc_str {P : Program} (op : BinOp) (a b : ByteArray) (t : TypeId) : ScalarOk P (strOp op a b) (binOp op t (.string a) (.string b)) := by
  cases op <;> simp only [strOp, binOp] <;> first | exact sc_no | exact sc_pure _ (fun _ => rfl) (fun _ _ => rfl) | skip
  refine sc_gpure fun hg => ?_
  have hb : ¬ (((a.size + b.size : Nat) : Int) > IntKind.i64.max) := by
    have : ((a.size + b.size : Nat) : Int) ≤ IntKind.i64.max := by
      have h1 : a.size + b.size ≤ 9223372036854775807 := Nat.le_of_ble_eq_true hg
      show ((a.size + b.size : Nat) : Int) ≤ 9223372036854775807
      omega
    omega
  exact ⟨_, fun w => by simp only [Op.stringOp, if_neg hb]; rfl, fun _ _ => rfl⟩
theorem run_eqGuard_int {P : Program} {w : World} {op : BinOp} {t : TypeId} {x y : Operand} {k k' : IntKind} {a b : Int} : (eqGuard op t x y (.int k a) (.int k' b)).run P w = .ok () w := by
  cases op <;> rfl
theorem run_eqGuard_str {P : Program} {w : World} {op : BinOp} {t : TypeId} {x y : Operand} {a b : ByteArray} : (eqGuard op t x y (.string a) (.string b)).run P w = .ok () w := by
  cases op <;> rfl
theorem run_eqGuard_bool {P : Program} {w : World} {op : BinOp} {t : TypeId} {x y : Operand} {a b : Bool} : (eqGuard op t x y (.bool a) (.bool b)).run P w = .ok () w := by
  cases op <;> rfl
theorem und_eq {P : Program} {t : TypeId} {d : TypeDesc} (h : und P t = d) (hd : d ≠ .invalid) : P.underlying t = some d := by
  unfold und at h
  cases e : P.underlying t with
  | none => rw [e] at h; exact absurd h.symm hd
  | some x => rw [e] at h; exact congrArg some h
theorem run_und {P : Program} {t : TypeId} {d : TypeDesc} (h : und P t = d) (hd : d ≠ .invalid) (w : World) : (underlying t).run P w = .ok d w := run_underlying (und_eq h hd) w
end Go.Proofs.YtlcnpecejhcnfaaDoor.EV
