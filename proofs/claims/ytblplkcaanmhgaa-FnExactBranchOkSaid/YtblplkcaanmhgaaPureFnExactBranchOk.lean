/- FnExactBranchOk, the pure part: both say the same of every list of texts. No conditions. -/
import Derived.Test.YtblplkcaanmhgaaPFnExactBranchOkx1
import Derived.Test.YtblplkcaanmhgaaKindsFnExactBranchOk
import Derived.Test.YtblplkcaanmhgaaPLbase
namespace Go.Proofs.Ytblplkcaanmhgaa.Pure
open Go Go.RowKit Go.Proofs.Ytblplkcaanmhgaa.PFnExactBranchOk Go.Proofs.YtblplkcaanmhgaaW.PrintWords Go.Proofs.YtblplkcaanmhgaaW.PrintLast Go.Proofs.YtblplkcaanmhgaaW.PrintMore Go.Proofs.Ytblplkcaanmhgaa.PL
set_option linter.unusedVariables false
set_option linter.unusedSimpArgs false

theorem szStringS_l (x0 : List ByteArray) (hb : x0.length ≤ 281474976710656) (hs : ∀ s ∈ x0, s.size ≤ 9223372036854775807) (n : Nat) : ∀ (i : Nat) (v : Int), i + n = x0.length → 0 ≤ v → v ≤ 1048576 →
    ∃ r, Ev (fun k => laws_szStringS.l0 k x0 v (i : Int)) r ∧ (0 ≤ r → r ≤ v ∧ ∀ s ∈ x0.drop i, s.size ≤ 1048576) := by
  induction n with
  | zero =>
    intro i v hi h0 h1
    refine ⟨v, Ev.step (fun k => by rw [laws_szStringS.l0, if_neg (by omega)]) (Ev.now _), fun _ => ⟨by omega, ?_⟩⟩
    rw [List.drop_eq_nil_of_le (by omega)]
    simp
  | succ n ih =>
    intro i v hi h0 h1
    have hg := rdOf_get ByteArray.empty x0 i (by omega)
    have hm := hs _ (List.getElem_mem (show i < x0.length by omega))
    have e : wrap64 (v - ((rdOf ByteArray.empty x0 (i : Int)).size : Int)) = v - ((x0[i]'(by omega)).size : Int) := by rw [hg, w64 (by omega)]
    by_cases hc : v - ((x0[i]'(by omega)).size : Int) < 0
    · exact ⟨-1, Ev.step (fun k => by rw [laws_szStringS.l0, if_pos (by omega), if_pos (by omega), e, if_pos hc]) (Ev.now _), fun h => by omega⟩
    · obtain ⟨r, hr, hp⟩ := ih (i + 1) (v - ((x0[i]'(by omega)).size : Int)) (by omega) (by omega) (by omega)
      refine ⟨r, Ev.step (fun k => by rw [laws_szStringS.l0, if_pos (by omega), if_pos (by omega), e, if_neg hc, wNat (by omega)]) hr, fun h => ?_⟩
      obtain ⟨h2, h3⟩ := hp h
      refine ⟨by omega, ?_⟩
      rw [drop_cons x0 i (by omega)]
      intro s hs'
      rcases List.mem_cons.1 hs' with rfl | hs'
      · omega
      · exact h3 s hs'
theorem szStringS_ev (x0 : List ByteArray) (hl : x0.length ≤ 9223372036854775807) (hs : ∀ s ∈ x0, s.size ≤ 9223372036854775807) (v : Int) (h0 : 0 ≤ v) (h1 : v ≤ 1048576) :
    ∃ r, Ev (fun k => laws_szStringS.f k x0 v) r ∧ (0 ≤ r → r ≤ v ∧ x0.length ≤ 1048576 ∧ ∀ s ∈ x0, s.size ≤ 1048576) := by
  unfold laws_szStringS.f
  have e : wrap64 (v - (x0.length : Int)) = v - (x0.length : Int) := w64 (by omega)
  rw [e]
  by_cases hc : v - (x0.length : Int) < 0
  · exact ⟨-1, Ev.pos hc (Ev.now _), fun h => by omega⟩
  · obtain ⟨r, hr, hp⟩ := szStringS_l x0 (by omega) hs x0.length 0 (v - (x0.length : Int)) (by omega) (by omega) (by omega)
    refine ⟨r, Ev.neg hc hr, fun h => ?_⟩
    obtain ⟨h2, h3⟩ := hp h
    exact ⟨by omega, by omega, by simpa using h3⟩

theorem toStringS_l (x0 : List ByteArray) (hb : x0.length ≤ 281474976710656) (n : Nat) : ∀ (i : Nat) (x3 : List ByteArray), i + n = x0.length → x3.length = x0.length → x3.take i = (x0.map id).take i →
    Ev (fun k => laws_toStringS.l0 k x0 x3 (i : Int)) x0 := by
  induction n with
  | zero =>
    intro i x3 hi hl ht
    refine Ev.step (fun k => by rw [laws_toStringS.l0, if_neg (by omega)]) (Ev.some_ ?_)
    have hi' : i = x0.length := by omega
    subst hi'
    rw [fill_done id x0 x3 hl ht, List.map_id]
  | succ n ih =>
    intro i x3 hi hl ht
    refine Ev.step (fun k => by rw [laws_toStringS.l0, if_pos (by omega), if_pos (by omega), if_pos (by omega), rdOf_get _ x0 i (by omega), wNat (by omega), Int.toNat_natCast]) ?_
    exact ih (i + 1) _ (by omega) (by simp [hl]) (fill_step id x0 x3 i (by omega) hl ht)
theorem toStringS_ev (x0 : List ByteArray) (hb : x0.length ≤ 17592186044416) : Ev (fun k => laws_toStringS.f k x0) x0 := by
  unfold laws_toStringS.f
  refine Ev.pos (by omega) (Ev.pos (by omega) ?_)
  exact toStringS_l x0 (by omega) x0.length 0 _ (by omega) (by simp) (by simp)

theorem eqStringS_l (x0 x1 : List ByteArray) (hb : x0.length ≤ 281474976710656) (hl : x0.length = x1.length) (n : Nat) : ∀ (i : Nat), i + n = x0.length →
    Ev (fun k => laws_eqStringS.l0 k x0 x1 (i : Int)) (decide (x0.drop i = x1.drop i)) := by
  induction n with
  | zero =>
    intro i hi
    refine Ev.step (fun k => by rw [laws_eqStringS.l0, if_neg (by omega)]) (Ev.some_ ?_)
    rw [List.drop_eq_nil_of_le (by omega), List.drop_eq_nil_of_le (by omega)]
    rfl
  | succ n ih =>
    intro i hi
    rw [drop_cons x0 i (by omega), drop_cons x1 i (by omega)]
    by_cases hc : x0[i]'(by omega) = x1[i]'(by omega)
    · refine Ev.step (fun k => by rw [laws_eqStringS.l0, if_pos (by omega), if_pos (by omega), if_pos (by omega), if_pos (by rw [rdOf_get _ x0 i (by omega), rdOf_get _ x1 i (by omega), hc])]) ?_
      rw [wNat (by omega)]
      exact (ih (i + 1) (by omega)).eq (dec_cons hc _ _)
    · refine Ev.step (fun k => by rw [laws_eqStringS.l0, if_pos (by omega), if_pos (by omega), if_pos (by omega), if_neg (by rw [rdOf_get _ x0 i (by omega), rdOf_get _ x1 i (by omega), ba_eq]; exact hc)]) (Ev.some_ (dec_ne hc _ _))
theorem eqStringS_ev (x0 x1 : List ByteArray) (hb : x0.length ≤ 281474976710656) : Ev (fun k => laws_eqStringS.f k x0 x1) (decide (x0 = x1)) := by
  unfold laws_eqStringS.f
  by_cases hl : x0.length = x1.length
  · refine Ev.pos (by omega) ?_
    exact eqStringS_l x0 x1 hb hl x0.length 0 (by omega)
  · refine Ev.neg (by omega) (Ev.some_ ?_)
    rw [eq_comm, decide_eq_false_iff_not]
    intro h
    rw [h] at hl
    exact hl rfl
theorem eqStringS_same (x0 : List ByteArray) (hb : x0.length ≤ 281474976710656) : Ev (fun k => laws_eqStringS.f k x0 x0) true := (eqStringS_ev x0 x0 hb).eq (by simp)

def branchOk (l : List ByteArray) : Bool := l.all (fun s => decide (s.size = 32)) && decide (l.length = 2)

theorem spec_BranchOk_l (x0 : List ByteArray) (hb : x0.length ≤ 281474976710656) (n : Nat) : ∀ (i : Nat), i + n = x0.length →
    Ev (fun k => spec_BranchOk.l0 k x0 (i : Int)) ((x0.drop i).all (fun s => decide (s.size = 32)) && decide (x0.length = 2)) := by
  induction n with
  | zero =>
    intro i hi
    refine Ev.step (fun k => by rw [spec_BranchOk.l0, if_neg (by omega)]) (Ev.some_ ?_)
    rw [List.drop_eq_nil_of_le (by omega), List.all_nil, Bool.true_and, beq_dec]
    exact decide_eq_decide.2 (by omega)
  | succ n ih =>
    intro i hi
    rw [drop_cons x0 i (by omega), List.all_cons]
    have hg := rdOf_get ByteArray.empty x0 i (by omega)
    by_cases hc : (x0[i]'(by omega)).size = 32
    · refine Ev.step (fun k => by rw [spec_BranchOk.l0, if_pos (by omega), if_pos (by omega), if_pos (by rw [hg]; omega)]) ?_
      rw [wNat (by omega), decide_eq_true hc, Bool.true_and]
      exact ih (i + 1) (by omega)
    · refine Ev.step (fun k => by rw [spec_BranchOk.l0, if_pos (by omega), if_pos (by omega), if_neg (by rw [hg]; omega)]) (Ev.some_ ?_)
      rw [decide_eq_false hc, Bool.false_and, Bool.false_and]
theorem spec_BranchOk_ev (x0 : List ByteArray) (hb : x0.length ≤ 281474976710656) : Ev (fun k => spec_BranchOk.f k x0) (branchOk x0) := by
  unfold spec_BranchOk.f
  exact spec_BranchOk_l x0 hb x0.length 0 (by omega)

theorem impl_isDigest_eq (s : ByteArray) : impl_isDigest.f s = some (decide (s.size = 32)) := by
  unfold impl_isDigest.f
  congr 1
  rw [beq_dec]
  exact decide_eq_decide.2 (by omega)
theorem impl_BranchOk_eq (l : List ByteArray) : impl_BranchOk.f l = some (branchOk l) := by
  unfold impl_BranchOk.f branchOk
  by_cases h : l.length = 2
  · match l, h with
    | [a, b], _ =>
      rw [if_pos (by simp), if_pos (by simp)]
      rw [show rdOf ByteArray.empty [a, b] 0 = a from rfl, show rdOf ByteArray.empty [a, b] 1 = b from rfl, impl_isDigest_eq, impl_isDigest_eq]
      simp only [Option.bind_some]
      by_cases ha : a.size = 32
      · rw [if_pos (decide_eq_true ha), if_pos (by simp)]
        simp [ha]
      · rw [if_neg (by simpa using ha)]
        simp [ha]
  · rw [if_neg (by omega), decide_eq_false h, Bool.and_false]

theorem FnExactBranchOk (x0 : List ByteArray) : (x0.length ≤ 9223372036854775807 ∧ ∀ y ∈ x0, y.size ≤ 9223372036854775807) → ∃ k, laws_FnExactBranchOk.f k x0 = some true := by
  rintro ⟨hl, hs⟩
  apply Ev.rounds
  unfold laws_FnExactBranchOk.f
  obtain ⟨r, hr, hp⟩ := szStringS_ev x0 hl hs 1048576 (by omega) (by omega)
  refine Ev.bind hr ?_
  by_cases h0 : r < 0
  · exact Ev.pos h0 (Ev.now _)
  obtain ⟨_, h1, _⟩ := hp (by omega)
  have t0 := toStringS_ev x0 (by omega)
  refine Ev.neg h0 (Ev.bind t0 (Ev.bind (spec_BranchOk_ev x0 (by omega)) (Ev.bind t0 (Ev.bindc (impl_BranchOk_eq x0) ?_))))
  exact Ev.neg (by simp) (Ev.bind t0 (Ev.bind (eqStringS_same x0 (by omega)) (Ev.pos rfl (Ev.now _))))

end Go.Proofs.Ytblplkcaanmhgaa.Pure
