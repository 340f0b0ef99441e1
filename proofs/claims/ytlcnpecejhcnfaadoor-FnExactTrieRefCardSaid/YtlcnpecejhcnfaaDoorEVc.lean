/- Code. No conditions. -/
import Derived.Test.YtlcnpecejhcnfaaDoorEVgc
namespace Go.Proofs.YtlcnpecejhcnfaaDoor.EV
set_option linter.unusedVariables false
set_option linter.unusedSimpArgs false
open Go Go.RowKit

def Ex.to : Ex → Exit
  | .normal => .normal
  | .exit id => .exit id
  | .ret => .ret

/-- A loop that goes round at most so often. -/
theorem wp_loop_n {P : Program} {c : Code} {Q : Exit → Act → World → Prop} (I : Nat → Act → World → Prop) (h0 : ∀ a w, ¬ I 0 a w) (round : ∀ m a w, I (m + 1) a w → c.wp P (Exit.then (I m) Q) a w) {m : Nat} {a : Act} {w : World} (h : I m a w) : (Code.loop c).wp P Q a w := by
  intro b k cs
  have key : ∀ m a w, I m a w → ∃ e a' w', Q e a' w' ∧ Arrives P (lone (b.at a (.code c :: .inLoop c :: k)) cs w) b k cs e a' w' := by
    intro m
    induction m with
    | zero => exact fun a w h => absurd h (h0 a w)
    | succ m ih =>
      intro a w hI
      obtain ⟨e, a₁, w₁, hq, harr⟩ := round m a w hI b (.inLoop c :: k) cs
      cases e with
      | normal =>
        obtain ⟨e₂, a₂, w₂, hq₂, harr₂⟩ := ih a₁ w₁ hq
        exact ⟨e₂, a₂, w₂, hq₂, .of_steps (Steps.trans harr (.one step_inLoop)) harr₂⟩
      | exit id => exact ⟨_, a₁, w₁, hq, .pass (x := .inLoop c) rfl (fun _ _ => .inl (by simp)) harr⟩
      | goto l => exact ⟨_, a₁, w₁, hq, .pass (x := .inLoop c) rfl (fun _ _ => .inl (by simp)) harr⟩
      | ret => exact ⟨_, a₁, w₁, hq, .pass (x := .inLoop c) rfl (fun _ _ => .inl (by simp)) harr⟩
      | panic ch => exact ⟨_, a₁, w₁, hq, .pass (x := .inLoop c) rfl (fun _ _ => .inl (by simp)) harr⟩
      | outgrown => exact ⟨_, a₁, w₁, hq, .pass (x := .inLoop c) rfl (fun _ _ => .inl (by simp)) harr⟩
  obtain ⟨e, a', w', hq, harr⟩ := key m a w h
  exact ⟨e, a', w', hq, .of_steps (.one step_loop) harr⟩

/-- A region that draws its order. -/
def DrawOk (cp : CP) (orc : Orc) : Prop := ∀ (id : Nat) (ops : Array Oper) (σ : St) (K : St → Option (List AV)) (r : List AV) (w0 : World) (C0 : Ctx) (H0 : Nat → Option Blk) (w : World) (C : Ctx) (a : Act) (Q : Exit → Act → World → Prop),
  evReg cp orc ops true σ K = some r → GlobOk cp w0 C0 → RelB cp.P w0 C0 H0 w C a σ σ.next →
  (∀ w C a σ base, RelB cp.P w0 C0 H0 w C a σ base → K { σ with next := base } = some r → Q .normal a w) → (Code.region id ops true).wp cp.P Q a w

theorem rel_base {P : Program} {w0 : World} {C0 : Ctx} {H0 : Nat → Option Blk} {w : World} {C : Ctx} {a : Act} {σ : St} {base : Nat} (h : RelB P w0 C0 H0 w C a σ base) : RelB P w0 C0 H0 w C a { σ with next := base } base :=
  ⟨h.mem, h.env, h.fresh, h.size, h.defers, h.kept, h.nr, h.nb, h.tb⟩

theorem evC_ok {cp : CP} {orc : Orc} (hc : CallOk cp orc) (hdr : DrawOk cp orc) (n : Nat) (fi : FI) : ∀ (c : Code) (out : List Nat) (ex : Nat → List Nat) (σ : St) (K : Ex → St → Option (List AV)) (r : List AV), evC cp orc n fi c out ex σ K = some r →
    ∀ (w0 : World) (C0 : Ctx) (H0 : Nat → Option Blk) (w : World) (C : Ctx) (a : Act), GlobOk cp w0 C0 → RelB cp.P w0 C0 H0 w C a σ σ.next → ∀ (Q : Exit → Act → World → Prop),
      (∀ e σ' w' C' a', RelB cp.P w0 C0 H0 w' C' a' σ' σ'.next → K e σ' = some r → Q e.to a' w') → c.wp cp.P Q a w := by
  intro c
  induction c with
  | skip =>
    intro out ex σ K r h w0 C0 H0 w C a hG hr Q hQ
    exact wp_skip (hQ .normal σ w C a hr h)
  | region id ops draw =>
    intro out ex σ K r h w0 C0 H0 w C a hG hr Q hQ
    cases draw with
    | false =>
      refine wp_region ?_
      have := evOps_ok hc hG (Q := Q) (K := fun σ => K .normal σ) (fun w C a σ base hb he => hQ .normal _ w C a (rel_base hb) he) ops.toList 0 rfl σ.next σ a w C hr h
      simpa using this
    | true => exact hdr id ops σ _ r w0 C0 H0 w C a Q h hG hr (fun w C a σ base hb he => hQ .normal _ w C a (rel_base hb) he)
  | seq x y ihx ihy =>
    intro out ex σ K r h w0 C0 H0 w C a hG hr Q hQ
    refine wp_seq (ihx _ _ _ _ _ h w0 C0 H0 w C a hG hr _ fun e σ' w' C' a' hr' hk => ?_)
    cases e with
    | normal => exact ihy _ _ _ _ _ hk w0 C0 H0 w' C' a' hG hr' Q hQ
    | exit id => exact hQ (.exit id) σ' w' C' a' hr' hk
    | ret => exact hQ .ret σ' w' C' a' hr' hk
  | cond c x y ihx ihy =>
    intro out ex σ K r h w0 C0 H0 w C a hG hr Q hQ
    cases c with
    | tmp t =>
      simp only [evC] at h
      cases hv : σ.env t <;> rw [hv] at h <;> first | (simp at h; done) | skip
      case unk d l =>
        have he := hr.env t
        rw [hv] at he
        obtain ⟨b, he, hd⟩ : ∃ b, a.tmps.getD t undef = .bool b ∧ (l ≠ 0 → b = d) := he
        have hf := unk_rel (d := t) hr (b := b) he
        refine wp_cond (t := b) he ?_
        simp only at h
        unfold br at h
        cases hl : Nat.beq l 0 with
        | true =>
          rw [hl] at h
          obtain ⟨h1, h2⟩ := both_some h
          cases b with
          | true => rw [if_pos rfl]; exact ihx _ _ _ _ _ h1 w0 C0 H0 w C a hG hf Q hQ
          | false => rw [if_neg (by simp)]; exact ihy _ _ _ _ _ h2 w0 C0 H0 w C a hG hf Q hQ
        | false =>
          rw [hl] at h
          have := hd (fun q => by rw [q] at hl; simp at hl)
          subst this
          cases b with
          | true => rw [if_pos rfl]; exact ihx _ _ _ _ _ h w0 C0 H0 w C a hG hf Q hQ
          | false => rw [if_neg (by simp)]; exact ihy _ _ _ _ _ h w0 C0 H0 w C a hG hf Q hQ
      rename_i b
      have he := hr.env t
      rw [hv] at he
      simp only [Rep] at he
      have hf := flag_rel hr hv
      refine wp_cond (t := b) he ?_
      unfold br at h
      cases b with
      | true => rw [if_pos rfl]; exact ihx _ _ _ _ _ h w0 C0 H0 w C a hG hf Q hQ
      | false => rw [if_neg (by simp)]; exact ihy _ _ _ _ _ h w0 C0 H0 w C a hG hf Q hQ
    | const v =>
      cases v <;> first | (simp [evC] at h; done) | skip
      rename_i b
      cases b with
      | true => exact wp_cond_true rfl (ihx _ _ _ _ _ h w0 C0 H0 w C a hG hr Q hQ)
      | false => exact wp_cond_false rfl (ihy _ _ _ _ _ h w0 C0 H0 w C a hG hr Q hQ)
    | global g => simp [evC] at h
    | func f => simp [evC] at h
  | block id c ih =>
    intro out ex σ K r h w0 C0 H0 w C a hG hr Q hQ
    refine wp_block (ih _ _ _ _ _ h w0 C0 H0 w C a hG hr _ fun e σ' w' C' a' hr' hk => ?_)
    cases e with
    | normal => exact hQ .normal σ' w' C' a' hr' hk
    | exit i =>
      simp only at hk
      show (if i = id then Q .normal a' w' else Q (.exit i) a' w')
      cases hb : Nat.beq i id with
      | true => rw [hb] at hk; rw [if_pos (nbeq_eq hb)]; exact hQ .normal σ' w' C' a' hr' hk
      | false =>
        rw [hb] at hk
        rw [if_neg (fun q => by rw [q] at hb; simp at hb)]
        exact hQ (.exit i) σ' w' C' a' hr' hk
    | ret => exact hQ .ret σ' w' C' a' hr' hk
  | loop c ih =>
    intro out ex σ K r h w0 C0 H0 w C a hG hr Q hQ
    simp only [evC] at h
    cases hD : gcD cp.tm cp.P fi.ty (lv (.loop c) out ex fi.rt) σ with
    | none => rw [hD] at h; simp at h
    | some D =>
      rw [hD] at h
      simp only at h
      obtain ⟨C1, hg⟩ := gc_ok hr hD
      refine wp_loop_n (I := fun m a w => ∃ D C, RelB cp.P w0 C0 H0 w C a (unpack D) (unpack D).next ∧ evIter (gcD cp.tm cp.P fi.ty (lv (.loop c) out ex fi.rt)) (fun σ K => evC cp orc n fi c (lv (.loop c) out ex fi.rt) ex σ K) m D K = some r) ?_ ?_ ⟨D, C1, hg, h⟩
      · rintro a w ⟨D, C, _, h⟩
        rw [evIter_zero] at h
        cases h
      · rintro m a w ⟨D, C, hr, h⟩
        rw [evIter_succ] at h
        refine ih _ _ _ _ _ h w0 C0 H0 w C a hG hr _ fun e σ' w' C' a' hr' hk => ?_
        cases e with
        | normal =>
          simp only at hk
          cases hD' : gcD cp.tm cp.P fi.ty (lv (.loop c) out ex fi.rt) σ' with
          | none => rw [hD'] at hk; simp at hk
          | some D' =>
            rw [hD'] at hk
            obtain ⟨C2, hg2⟩ := gc_ok hr' hD'
            exact ⟨D', C2, hg2, hk⟩
        | exit id => exact hQ (.exit id) σ' w' C' a' hr' hk
        | ret => exact hQ .ret σ' w' C' a' hr' hk
  | rangeFunc f ps x y _ _ =>
    intro out ex σ K r h
    simp [evC] at h
  | exit id =>
    intro out ex σ K r h w0 C0 H0 w C a hG hr Q hQ
    exact wp_exit (hQ (.exit id) σ w C a hr h)
  | scope c _ =>
    intro out ex σ K r h
    simp [evC] at h
  | label l =>
    intro out ex σ K r h
    simp [evC] at h
  | goto l =>
    intro out ex σ K r h
    simp [evC] at h
  | ret =>
    intro out ex σ K r h w0 C0 H0 w C a hG hr Q hQ
    exact wp_ret (hQ .ret σ w C a hr h)
  | refuse why =>
    intro out ex σ K r h
    simp [evC] at h
end Go.Proofs.YtlcnpecejhcnfaaDoor.EV
