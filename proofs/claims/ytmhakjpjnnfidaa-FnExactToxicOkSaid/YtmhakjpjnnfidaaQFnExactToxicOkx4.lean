-- by a program of this session, out of Lean's print of the loaded program
import Derived.Test.YtmhakjpjnnfidaaQFnExactToxicOkx0
import Derived.Test.YtmhakjpjnnfidaaQFnExactToxicOkx3
namespace Go.Proofs.Ytmhakjpjnnfidaa.QFnExactToxicOk
open Go.RowKit Go.Proofs.YtmhakjpjnnfidaaW.PrintWords Go.Proofs.YtmhakjpjnnfidaaW.PrintLast Go.Proofs.YtmhakjpjnnfidaaW.PrintMore
attribute [local go_sem] max2_int min2_int max_two min_two max_three min_three max_four min_four   -- for this text's walks alone
set_option linter.unusedVariables false
set_option linter.unusedSimpArgs false

/-! ### impl_SystemOk: function 91 -/
mutual
def impl_SystemOk.j0 : Nat → Bool → Int → Int → List (S162) → Option (Bool)
  | 0, _, _, _, _ => none
  | k + 1, x27, x173000, x173001, x173002 => if x27 = true then (some false) else (if (x173002.length : Int) < 1 then (impl_SystemOk.j1 k true x173000 x173001 x173002) else (impl_SystemOk.j1 k (decide ((x173002.length : Int) > 16)) x173000 x173001 x173002))
def impl_SystemOk.j1 : Nat → Bool → Int → Int → List (S162) → Option (Bool)
  | 0, _, _, _, _ => none
  | k + 1, x37, x173000, x173001, x173002 => if x37 = true then (some false) else (impl_SystemOk.l0 k x173002 (x173002.length : Int) 0 x173000 x173001 x173002)
def impl_SystemOk.l0 : Nat → List (S162) → Int → Int → Int → Int → List (S162) → Option (Bool)
  | 0, _, _, _, _, _, _ => none
  | k + 1, x39, x40, x41, x173000, x173001, x173002 => if x41 < x40 then (if 0 ≤ x41 then (if x41 < (x39.length : Int) then ((some (([(rd_T162 x39 x41).f0, (rd_T162 x39 x41).f1, (rd_T162 x39 x41).f2] : List (List Int)) : List (List Int))).bind fun y175 => (impl_SystemOk.l1 k x39 x40 x41 y175 (y175.length : Int) 0 x173000 x173001 x173002)) else (none)) else (none)) else (some true)
def impl_SystemOk.l1 : Nat → List (S162) → Int → Int → List (List Int) → Int → Int → Int → Int → List (S162) → Option (Bool)
  | 0, _, _, _, _, _, _, _, _, _ => none
  | k + 1, x39, x40, x41, x51, x52, x53, x173000, x173001, x173002 => if x53 < x52 then (if 0 ≤ x53 then (if x53 < (x51.length : Int) then (if ((rd_L1 x51 x53).length : Int) = x173000 then ((impl_areScalars.f k (rd_L1 x51 x53)).bind fun t179 => (if t179 = true then (impl_SystemOk.l1 k x39 x40 x41 x51 x52 (wrap64 (x53 + 1)) x173000 x173001 x173002) else (some false))) else (some false)) else (none)) else (none)) else (impl_SystemOk.l0 k x39 x40 (wrap64 (x41 + 1)) x173000 x173001 x173002)
end
def impl_SystemOk.f (k : Nat) (a0_0 : Int) (a0_1 : Int) (l0_2 : List (S162)) : Option (Bool) := if a0_0 < 1 then (impl_SystemOk.j0 k true a0_0 a0_1 l0_2) else (if a0_0 > 20 then (impl_SystemOk.j0 k true a0_0 a0_1 l0_2) else (if a0_1 < 0 then (impl_SystemOk.j0 k true a0_0 a0_1 l0_2) else (impl_SystemOk.j0 k (decide (a0_1 > (wrap64 (a0_0 - 1)))) a0_0 a0_1 l0_2)))
theorem impl_SystemOk.mono_l : ∀ k, (∀ y0 y1 y2 y3, LeO (impl_SystemOk.j0 k y0 y1 y2 y3) (impl_SystemOk.j0 (k + 1) y0 y1 y2 y3)) ∧ (∀ y0 y1 y2 y3, LeO (impl_SystemOk.j1 k y0 y1 y2 y3) (impl_SystemOk.j1 (k + 1) y0 y1 y2 y3)) ∧ (∀ y0 y1 y2 y3 y4 y5, LeO (impl_SystemOk.l0 k y0 y1 y2 y3 y4 y5) (impl_SystemOk.l0 (k + 1) y0 y1 y2 y3 y4 y5)) ∧ (∀ y0 y1 y2 y3 y4 y5 y6 y7 y8, LeO (impl_SystemOk.l1 k y0 y1 y2 y3 y4 y5 y6 y7 y8) (impl_SystemOk.l1 (k + 1) y0 y1 y2 y3 y4 y5 y6 y7 y8))
  | 0 => ⟨fun _ _ _ _ r h => by simp [impl_SystemOk.j0] at h, fun _ _ _ _ r h => by simp [impl_SystemOk.j1] at h, fun _ _ _ _ _ _ r h => by simp [impl_SystemOk.l0] at h, fun _ _ _ _ _ _ _ _ _ r h => by simp [impl_SystemOk.l1] at h⟩
  | k + 1 => by
    obtain ⟨ih0, ih1, ih2, ih3⟩ := impl_SystemOk.mono_l k
    refine ⟨?_, ?_, ?_, ?_⟩
    · intro y0 y1 y2 y3
      unfold impl_SystemOk.j0
      repeat' first
      | (with_reducible exact ih0 _ _ _ _)
      | (with_reducible exact ih1 _ _ _ _)
      | (with_reducible exact ih2 _ _ _ _ _ _)
      | (with_reducible exact ih3 _ _ _ _ _ _ _ _ _)
      | (with_reducible exact impl_areScalars.mono _ _)
      | (with_reducible exact LeO.refl _)
      | (with_reducible exact LeO.none _)
      | (with_reducible refine LeO.ite ?_ ?_)
      | (with_reducible refine LeO.bind ?_ (fun _ => ?_))
      | exact ih0 _ _ _ _
      | exact ih1 _ _ _ _
      | exact ih2 _ _ _ _ _ _
      | exact ih3 _ _ _ _ _ _ _ _ _
      | exact impl_areScalars.mono _ _
      | exact LeO.none _
      | refine LeO.ite ?_ ?_
      | refine LeO.bind ?_ (fun _ => ?_)
    · intro y0 y1 y2 y3
      unfold impl_SystemOk.j1
      repeat' first
      | (with_reducible exact ih0 _ _ _ _)
      | (with_reducible exact ih1 _ _ _ _)
      | (with_reducible exact ih2 _ _ _ _ _ _)
      | (with_reducible exact ih3 _ _ _ _ _ _ _ _ _)
      | (with_reducible exact impl_areScalars.mono _ _)
      | (with_reducible exact LeO.refl _)
      | (with_reducible exact LeO.none _)
      | (with_reducible refine LeO.ite ?_ ?_)
      | (with_reducible refine LeO.bind ?_ (fun _ => ?_))
      | exact ih0 _ _ _ _
      | exact ih1 _ _ _ _
      | exact ih2 _ _ _ _ _ _
      | exact ih3 _ _ _ _ _ _ _ _ _
      | exact impl_areScalars.mono _ _
      | exact LeO.none _
      | refine LeO.ite ?_ ?_
      | refine LeO.bind ?_ (fun _ => ?_)
    · intro y0 y1 y2 y3 y4 y5
      unfold impl_SystemOk.l0
      repeat' first
      | (with_reducible exact ih0 _ _ _ _)
      | (with_reducible exact ih1 _ _ _ _)
      | (with_reducible exact ih2 _ _ _ _ _ _)
      | (with_reducible exact ih3 _ _ _ _ _ _ _ _ _)
      | (with_reducible exact impl_areScalars.mono _ _)
      | (with_reducible exact LeO.refl _)
      | (with_reducible exact LeO.none _)
      | (with_reducible refine LeO.ite ?_ ?_)
      | (with_reducible refine LeO.bind ?_ (fun _ => ?_))
      | exact ih0 _ _ _ _
      | exact ih1 _ _ _ _
      | exact ih2 _ _ _ _ _ _
      | exact ih3 _ _ _ _ _ _ _ _ _
      | exact impl_areScalars.mono _ _
      | exact LeO.none _
      | refine LeO.ite ?_ ?_
      | refine LeO.bind ?_ (fun _ => ?_)
    · intro y0 y1 y2 y3 y4 y5 y6 y7 y8
      unfold impl_SystemOk.l1
      repeat' first
      | (with_reducible exact ih0 _ _ _ _)
      | (with_reducible exact ih1 _ _ _ _)
      | (with_reducible exact ih2 _ _ _ _ _ _)
      | (with_reducible exact ih3 _ _ _ _ _ _ _ _ _)
      | (with_reducible exact impl_areScalars.mono _ _)
      | (with_reducible exact LeO.refl _)
      | (with_reducible exact LeO.none _)
      | (with_reducible refine LeO.ite ?_ ?_)
      | (with_reducible refine LeO.bind ?_ (fun _ => ?_))
      | exact ih0 _ _ _ _
      | exact ih1 _ _ _ _
      | exact ih2 _ _ _ _ _ _
      | exact ih3 _ _ _ _ _ _ _ _ _
      | exact impl_areScalars.mono _ _
      | exact LeO.none _
      | refine LeO.ite ?_ ?_
      | refine LeO.bind ?_ (fun _ => ?_)
theorem impl_SystemOk.mono : ∀ a0 a1 a2 k, LeO (impl_SystemOk.f k a0 a1 a2) (impl_SystemOk.f (k + 1) a0 a1 a2) := by
  intro a0 a1 a2 k
  obtain ⟨ih0, ih1, ih2, ih3⟩ := impl_SystemOk.mono_l k
  unfold impl_SystemOk.f
  repeat' first
      | (with_reducible exact ih0 _ _ _ _)
      | (with_reducible exact ih1 _ _ _ _)
      | (with_reducible exact ih2 _ _ _ _ _ _)
      | (with_reducible exact ih3 _ _ _ _ _ _ _ _ _)
      | (with_reducible exact impl_areScalars.mono _ _)
      | (with_reducible exact LeO.refl _)
      | (with_reducible exact LeO.none _)
      | (with_reducible refine LeO.ite ?_ ?_)
      | (with_reducible refine LeO.bind ?_ (fun _ => ?_))
      | exact ih0 _ _ _ _
      | exact ih1 _ _ _ _
      | exact ih2 _ _ _ _ _ _
      | exact ih3 _ _ _ _ _ _ _ _ _
      | exact impl_areScalars.mono _ _
      | exact LeO.none _
      | refine LeO.ite ?_ ?_
      | refine LeO.bind ?_ (fun _ => ?_)
set_option maxHeartbeats 8000000 in
set_option maxRecDepth 100000 in
theorem impl_SystemOk.calls (k : Nat) (a0_0 : Int) (a0_1 : Int) (P0_2_ : Nat → Prop) (A0_2 : Option Addr) (c0_2 : Nat) (l0_2 : List (S162)) (r : Bool) (w : World) (hs0_2 : Kd.V k162 162 w w.heap.size (fun k_ => P0_2_ k_) (.slice A0_2 l0_2.length c0_2) l0_2) (h : impl_SystemOk.f k a0_0 a0_1 l0_2 = some r) :
    Calls Try.prog 91 #[.agg #[.int .i64 a0_0, .int .i64 a0_1, .slice A0_2 l0_2.length c0_2]] w fun e w' => e = .returned (.bool r) ∧ Below w.heap.size w w' := by
  have hu63 := Try.underlying63
  have hu162 := Try.underlying162
  have HO0_2 := Aside0.mk (show Kd.V k162 162 w w.heap.size (fun k_ => (P0_2_ k_ ∨ w.heap.size ≤ k_)) (.slice A0_2 l0_2.length c0_2) l0_2 from Kd.V_mono hs0_2 (fun k_ hk => .inl hk))
  have HB := Aside0.mk (Below.refl w.heap.size w)
  have H : (if a0_0 < 1 then (impl_SystemOk.j0 k true a0_0 a0_1 l0_2) else (if a0_0 > 20 then (impl_SystemOk.j0 k true a0_0 a0_1 l0_2) else (if a0_1 < 0 then (impl_SystemOk.j0 k true a0_0 a0_1 l0_2) else (impl_SystemOk.j0 k (decide (a0_1 > (wrap64 (a0_0 - 1)))) a0_0 a0_1 l0_2)))) = some r := h
  clear h
  have HC2 := Aside0.mk H
  clear H
  go_enter Try.func91, Try.ntmps91
  go_upto_region 1 with (first | ((with_reducible refine gate_dst (N := 1) rfl ?_); (try (refine gate_guard (by rfl) ?_; dsimp only)); refine box_event ?hg (N := 1) ?hd (cs := #[.int .i64 a0_0, .int .i64 a0_1, .slice A0_2 l0_2.length c0_2]) (t := 63) ?hr ?_; (case hd => rfl); (case hg => rfl); (case hr => first | (go_simp; done) | (go_simp; rfl)); intro gb172 hg w3 hbox hb; have n0_ := Aside0.mk (Kd.V_below (Kd.V_elderB (by (with_reducible repeat (first | apply Kd.V_alloc | apply Kd.V_drewN | apply Kd.V_drew)); exact HO0_2.out) gb172 (Nat.le_of_eq hg.symm)) hb); have n1_ := Aside0.mk (below_step (by repeat (first | (with_reducible first | exact HB.out | apply below_alloc | apply pw_below_drewN | apply below_drew1) | exact HB.out)) hb); have n2_ := Aside0.mk (hbox); have n3_ := Aside0.mk ((by rw [hg]; exact (below_size (by repeat (first | (with_reducible first | exact HB.out | apply below_alloc | apply pw_below_drewN | apply below_drew1) | exact HB.out))) : w.heap.size ≤ gb172)); have n4_ := Aside0.mk ((by rw [hg]; exact (below_size (by repeat (first | (with_reducible first | exact HB.out | apply below_alloc | apply pw_below_drewN | apply below_drew1) | exact HB.out))) : w.heap.size ≤ gb172)); clear HO0_2; clear HB; have HO0_2 := n0_; have HB := n1_; have BK172 := n2_; have GW172 := n3_; have GE172 := n4_; clear n0_ n1_ n2_ n3_ n4_; clear hb hbox hg))
  (try simp only [Act.put, List.setIfInBounds_toArray, List.set_cons_zero, List.set_cons_succ])
  go_cut [27] (fun v27 wc => ∃ (kq : Nat) (x27_1 : Bool), v27 = .bool x27_1 ∧ Aside0 (impl_SystemOk.j0 kq x27_1 a0_0 a0_1 l0_2 = some r) ∧ Aside0 (kq ≤ k) ∧ Aside0 (Kd.V k162 162 wc w.heap.size (fun k_ => (P0_2_ k_ ∨ w.heap.size ≤ k_) ∧ k_ ≠ gb172) (.slice A0_2 l0_2.length c0_2) l0_2) ∧ Aside0 (wc.heap[gb172]? = some (.cells #[.int .i64 a0_0, .int .i64 a0_1, (.slice A0_2 l0_2.length c0_2)] 63 (0, 0))) ∧ Aside0 (Below w.heap.size w wc))
  case first =>
    have H := HC2.out
    clear HC2
    by_cases c4 : a0_0 < 1
    · rw [if_pos c4] at H
      have c4b0 : decide (a0_0 < 1) = true := decide_eq_true c4
      clear c4
      (first | rw [c4b0] | rw [c4b1] | rw [c4b2] | (simp only [i64_w, i32_w]; first | rw [c4b0] | rw [c4b1]) | skip)
      have H' := Aside0.mk H
      clear H
      have hcz5_0 : w3.cell? ⟨gb172, 0, none⟩ = some (.int .i64 a0_0) := (blk_cell BK172.out 0).trans rfl
      have hcz5_1 : w3.cell? ⟨gb172, 1, none⟩ = some (.int .i64 a0_1) := (blk_cell BK172.out 1).trans rfl
      have hcz5_2 : w3.cell? ⟨gb172, 2, none⟩ = some (.slice A0_2 l0_2.length c0_2) := (blk_cell BK172.out 2).trans rfl
      have hfz5_0 := blk_frozen BK172.out 0
      have hfz5_1 := blk_frozen BK172.out 1
      have hfz5_2 := blk_frozen BK172.out 2
      go_wp2
      go_meet
      case rel => exact ⟨_, (true), (by first | rfl | (simp; done) | (simp [*]; done)), H', ⟨by first | omega | exact Nat.le_refl _⟩, ⟨by (with_reducible repeat (first | apply Kd.V_alloc | apply Kd.V_drewN | apply Kd.V_drew)); exact HO0_2.out⟩, ⟨by (with_reducible repeat (first | refine blk_drewN ?_ _ | refine blk_drew ?_ | refine blk_alloc ?_ _)); exact BK172.out⟩, ⟨by repeat (first | (with_reducible first | exact HB.out | apply below_alloc | apply pw_below_drewN | apply below_drew1 | refine below_set ?_ GE172.out) | exact HB.out)⟩⟩
    · rw [if_neg c4] at H
      have c4b0 : decide (a0_0 < 1) = false := decide_eq_false c4
      clear c4
      (first | rw [c4b0] | rw [c4b1] | rw [c4b2] | (simp only [i64_w, i32_w]; first | rw [c4b0] | rw [c4b1]) | skip)
      by_cases c6 : a0_0 > 20
      · rw [if_pos c6] at H
        have c6b0 : decide (20 < a0_0) = true := decide_eq_true c6
        clear c6
        have H' := Aside0.mk H
        clear H
        have hcz7_0 : w3.cell? ⟨gb172, 0, none⟩ = some (.int .i64 a0_0) := (blk_cell BK172.out 0).trans rfl
        have hcz7_1 : w3.cell? ⟨gb172, 1, none⟩ = some (.int .i64 a0_1) := (blk_cell BK172.out 1).trans rfl
        have hcz7_2 : w3.cell? ⟨gb172, 2, none⟩ = some (.slice A0_2 l0_2.length c0_2) := (blk_cell BK172.out 2).trans rfl
        have hfz7_0 := blk_frozen BK172.out 0
        have hfz7_1 := blk_frozen BK172.out 1
        have hfz7_2 := blk_frozen BK172.out 2
        go_wp2
        go_meet
        case rel => exact ⟨_, (true), (by first | rfl | (simp; done) | (simp [*]; done)), H', ⟨by first | omega | exact Nat.le_refl _⟩, ⟨by (with_reducible repeat (first | apply Kd.V_alloc | apply Kd.V_drewN | apply Kd.V_drew)); exact HO0_2.out⟩, ⟨by (with_reducible repeat (first | refine blk_drewN ?_ _ | refine blk_drew ?_ | refine blk_alloc ?_ _)); exact BK172.out⟩, ⟨by repeat (first | (with_reducible first | exact HB.out | apply below_alloc | apply pw_below_drewN | apply below_drew1 | refine below_set ?_ GE172.out) | exact HB.out)⟩⟩
      · rw [if_neg c6] at H
        have c6b0 : decide (20 < a0_0) = false := decide_eq_false c6
        clear c6
        by_cases c8 : a0_1 < 0
        · rw [if_pos c8] at H
          have c8b0 : decide (a0_1 < 0) = true := decide_eq_true c8
          clear c8
          have H' := Aside0.mk H
          clear H
          have hcz9_0 : w3.cell? ⟨gb172, 0, none⟩ = some (.int .i64 a0_0) := (blk_cell BK172.out 0).trans rfl
          have hcz9_1 : w3.cell? ⟨gb172, 1, none⟩ = some (.int .i64 a0_1) := (blk_cell BK172.out 1).trans rfl
          have hcz9_2 : w3.cell? ⟨gb172, 2, none⟩ = some (.slice A0_2 l0_2.length c0_2) := (blk_cell BK172.out 2).trans rfl
          have hfz9_0 := blk_frozen BK172.out 0
          have hfz9_1 := blk_frozen BK172.out 1
          have hfz9_2 := blk_frozen BK172.out 2
          go_wp2
          go_meet
          case rel => exact ⟨_, (true), (by first | rfl | (simp; done) | (simp [*]; done)), H', ⟨by first | omega | exact Nat.le_refl _⟩, ⟨by (with_reducible repeat (first | apply Kd.V_alloc | apply Kd.V_drewN | apply Kd.V_drew)); exact HO0_2.out⟩, ⟨by (with_reducible repeat (first | refine blk_drewN ?_ _ | refine blk_drew ?_ | refine blk_alloc ?_ _)); exact BK172.out⟩, ⟨by repeat (first | (with_reducible first | exact HB.out | apply below_alloc | apply pw_below_drewN | apply below_drew1 | refine below_set ?_ GE172.out) | exact HB.out)⟩⟩
        · rw [if_neg c8] at H
          have c8b0 : decide (a0_1 < 0) = false := decide_eq_false c8
          clear c8
          have H' := Aside0.mk H
          clear H
          have hcz10_0 : w3.cell? ⟨gb172, 0, none⟩ = some (.int .i64 a0_0) := (blk_cell BK172.out 0).trans rfl
          have hcz10_1 : w3.cell? ⟨gb172, 1, none⟩ = some (.int .i64 a0_1) := (blk_cell BK172.out 1).trans rfl
          have hcz10_2 : w3.cell? ⟨gb172, 2, none⟩ = some (.slice A0_2 l0_2.length c0_2) := (blk_cell BK172.out 2).trans rfl
          have hfz10_0 := blk_frozen BK172.out 0
          have hfz10_1 := blk_frozen BK172.out 1
          have hfz10_2 := blk_frozen BK172.out 2
          go_wp2
          go_meet
          case rel => exact ⟨_, (decide (a0_1 > (wrap64 (a0_0 - 1)))), (by first | rfl | (simp; done) | (simp [*]; done)), H', ⟨by first | omega | exact Nat.le_refl _⟩, ⟨by (with_reducible repeat (first | apply Kd.V_alloc | apply Kd.V_drewN | apply Kd.V_drew)); exact HO0_2.out⟩, ⟨by (with_reducible repeat (first | refine blk_drewN ?_ _ | refine blk_drew ?_ | refine blk_alloc ?_ _)); exact BK172.out⟩, ⟨by repeat (first | (with_reducible first | exact HB.out | apply below_alloc | apply pw_below_drewN | apply below_drew1 | refine below_set ?_ GE172.out) | exact HB.out)⟩⟩
  case rest =>
    clear HC2
    try clear p2
    try clear c4
    try clear c4b0
    try clear c4b1
    try clear c4b2
    try clear c6
    try clear c6b0
    try clear p6
    try clear c8
    try clear c8b0
    try clear c9
    try clear hcz10_0
    try clear hcz10_1
    try clear hcz10_2
    try clear hcz5_0
    try clear hcz5_1
    try clear hcz5_2
    try clear hcz7_0
    try clear hcz7_1
    try clear hcz7_2
    try clear hcz9_0
    try clear hcz9_1
    try clear hcz9_2
    try clear hfz10_0
    try clear hfz10_1
    try clear hfz10_2
    try clear hfz5_0
    try clear hfz5_1
    try clear hfz5_2
    try clear hfz7_0
    try clear hfz7_1
    try clear hfz7_2
    try clear hfz9_0
    try clear hfz9_1
    try clear hfz9_2
    obtain ⟨kq, x27_1, rfl, HA, HJ1, HO_173002, BK172, HB⟩ := hcut
    cases kq with
    | zero => exact absurd HA.out (by simp [impl_SystemOk.j0])
    | succ kj1 =>
      have H := HA.out
      clear HA
      simp only [impl_SystemOk.j0] at H
      by_cases c11 : x27_1 = true
      · subst c11
        have H1 : (some false) = some r := by rw [if_pos rfl] at H; exact H
        clear H
        have H := H1
        clear H1
        obtain rfl := Option.some.inj H
        go_wp2
        go_ret
        exact ⟨by first | rfl | (simp [errW_none, errW_some] <;> rfl) | (simp [*, errW_none, errW_some] <;> rfl), by repeat (first | (with_reducible first | exact HB.out | apply below_alloc | apply pw_below_drewN | apply below_drew1 | refine below_set ?_ GE172.out) | exact HB.out)⟩
      · replace c11 := Bool.eq_false_iff.mpr c11
        subst c11
        have H1 : (if (l0_2.length : Int) < 1 then (impl_SystemOk.j1 kj1 true a0_0 a0_1 l0_2) else (impl_SystemOk.j1 kj1 (decide ((l0_2.length : Int) > 16)) a0_0 a0_1 l0_2)) = some r := by rw [if_neg (show ¬ (false = true) by decide)] at H; exact H
        clear H
        have H := H1
        clear H1
        have HC12 := Aside0.mk H
        clear H
        go_upto_region 3 with (fail)
        go_cut [37] (fun v37 wc => ∃ (kq : Nat) (x37_11 : Bool), v37 = .bool x37_11 ∧ Aside0 (impl_SystemOk.j1 kq x37_11 a0_0 a0_1 l0_2 = some r) ∧ Aside0 (kq ≤ kj1) ∧ Aside0 (Kd.V k162 162 wc w.heap.size (fun k_ => (P0_2_ k_ ∨ w.heap.size ≤ k_) ∧ k_ ≠ gb172) (.slice A0_2 l0_2.length c0_2) l0_2) ∧ Aside0 (wc.heap[gb172]? = some (.cells #[.int .i64 a0_0, .int .i64 a0_1, (.slice A0_2 l0_2.length c0_2)] 63 (0, 0))) ∧ Aside0 (Below w.heap.size w wc))
        case first =>
          have H := HC12.out
          clear HC12
          by_cases c13 : (l0_2.length : Int) < 1
          · rw [if_pos c13] at H
            have c13b0 : decide ((l0_2.length : Int) < 1) = true := decide_eq_true c13
            have c13b1 : decide (l0_2.length < 1) = true := decide_eq_true (by omega)
            clear c13
            (first | rw [c13b0] | rw [c13b1] | rw [c13b2] | (simp only [i64_w, i32_w]; first | rw [c13b0] | rw [c13b1]) | skip)
            have H' := Aside0.mk H
            clear H
            have hcz14_0 : wc.cell? ⟨gb172, 0, none⟩ = some (.int .i64 a0_0) := (blk_cell BK172.out 0).trans rfl
            have hcz14_1 : wc.cell? ⟨gb172, 1, none⟩ = some (.int .i64 a0_1) := (blk_cell BK172.out 1).trans rfl
            have hcz14_2 : wc.cell? ⟨gb172, 2, none⟩ = some (.slice A0_2 l0_2.length c0_2) := (blk_cell BK172.out 2).trans rfl
            have hfz14_0 := blk_frozen BK172.out 0
            have hfz14_1 := blk_frozen BK172.out 1
            have hfz14_2 := blk_frozen BK172.out 2
            go_wp2
            go_meet
            case rel => exact ⟨_, (true), (by first | rfl | (simp; done) | (simp [*]; done)), H', ⟨by have := HJ1.out; first | omega | exact Nat.le_refl _⟩, ⟨by (with_reducible repeat (first | apply Kd.V_alloc | apply Kd.V_drewN | apply Kd.V_drew)); exact HO_173002.out⟩, ⟨by (with_reducible repeat (first | refine blk_drewN ?_ _ | refine blk_drew ?_ | refine blk_alloc ?_ _)); exact BK172.out⟩, ⟨by repeat (first | (with_reducible first | exact HB.out | apply below_alloc | apply pw_below_drewN | apply below_drew1 | refine below_set ?_ GE172.out) | exact HB.out)⟩⟩
          · rw [if_neg c13] at H
            have c13b0 : decide ((l0_2.length : Int) < 1) = false := decide_eq_false c13
            have c13b1 : decide (l0_2.length < 1) = false := decide_eq_false (by omega)
            clear c13
            (first | rw [c13b0] | rw [c13b1] | rw [c13b2] | (simp only [i64_w, i32_w]; first | rw [c13b0] | rw [c13b1]) | skip)
            have H' := Aside0.mk H
            clear H
            have hcz15_0 : wc.cell? ⟨gb172, 0, none⟩ = some (.int .i64 a0_0) := (blk_cell BK172.out 0).trans rfl
            have hcz15_1 : wc.cell? ⟨gb172, 1, none⟩ = some (.int .i64 a0_1) := (blk_cell BK172.out 1).trans rfl
            have hcz15_2 : wc.cell? ⟨gb172, 2, none⟩ = some (.slice A0_2 l0_2.length c0_2) := (blk_cell BK172.out 2).trans rfl
            have hfz15_0 := blk_frozen BK172.out 0
            have hfz15_1 := blk_frozen BK172.out 1
            have hfz15_2 := blk_frozen BK172.out 2
            go_wp2
            go_meet
            case rel => exact ⟨_, (decide ((l0_2.length : Int) > 16)), (by first | rfl | (simp; done) | (simp [*]; done)), H', ⟨by have := HJ1.out; first | omega | exact Nat.le_refl _⟩, ⟨by (with_reducible repeat (first | apply Kd.V_alloc | apply Kd.V_drewN | apply Kd.V_drew)); exact HO_173002.out⟩, ⟨by (with_reducible repeat (first | refine blk_drewN ?_ _ | refine blk_drew ?_ | refine blk_alloc ?_ _)); exact BK172.out⟩, ⟨by repeat (first | (with_reducible first | exact HB.out | apply below_alloc | apply pw_below_drewN | apply below_drew1 | refine below_set ?_ GE172.out) | exact HB.out)⟩⟩
        case rest =>
          clear HC12
          try clear c1
          try clear p2
          try clear c4
          try clear c4b0
          try clear c4b1
          try clear c4b2
          try clear c6
          try clear c6b0
          try clear p6
          try clear c8
          try clear c8b0
          try clear c9
          try clear c11
          try clear c13
          try clear c13b0
          try clear c13b1
          try clear c13b2
          try clear hcz10_0
          try clear hcz10_1
          try clear hcz10_2
          try clear hcz14_0
          try clear hcz14_1
          try clear hcz14_2
          try clear hcz15_0
          try clear hcz15_1
          try clear hcz15_2
          try clear hcz5_0
          try clear hcz5_1
          try clear hcz5_2
          try clear hcz7_0
          try clear hcz7_1
          try clear hcz7_2
          try clear hcz9_0
          try clear hcz9_1
          try clear hcz9_2
          try clear hfz10_0
          try clear hfz10_1
          try clear hfz10_2
          try clear hfz14_0
          try clear hfz14_1
          try clear hfz14_2
          try clear hfz15_0
          try clear hfz15_1
          try clear hfz15_2
          try clear hfz5_0
          try clear hfz5_1
          try clear hfz5_2
          try clear hfz7_0
          try clear hfz7_1
          try clear hfz7_2
          try clear hfz9_0
          try clear hfz9_1
          try clear hfz9_2
          try clear p2
          try clear p6
          obtain ⟨kq, x37_11, rfl, HA, HJ11, HO_173002, BK172, HB⟩ := hcut
          cases kq with
          | zero => exact absurd HA.out (by simp [impl_SystemOk.j1])
          | succ kj11 =>
            have H := HA.out
            clear HA
            simp only [impl_SystemOk.j1] at H
            by_cases c16 : x37_11 = true
            · subst c16
              have H1 : (some false) = some r := by rw [if_pos rfl] at H; exact H
              clear H
              have H := H1
              clear H1
              obtain rfl := Option.some.inj H
              go_wp2
              go_ret
              exact ⟨by first | rfl | (simp [errW_none, errW_some] <;> rfl) | (simp [*, errW_none, errW_some] <;> rfl), by repeat (first | (with_reducible first | exact HB.out | apply below_alloc | apply pw_below_drewN | apply below_drew1 | refine below_set ?_ GE172.out) | exact HB.out)⟩
            · replace c16 := Bool.eq_false_iff.mpr c16
              subst c16
              have H1 : (impl_SystemOk.l0 kj11 l0_2 (l0_2.length : Int) 0 a0_0 a0_1 l0_2) = some r := by rw [if_neg (show ¬ (false = true) by decide)] at H; exact H
              clear H
              have H := H1
              clear H1
              have H' := Aside0.mk H
              clear H
              have hcz17_0 : wc.cell? ⟨gb172, 0, none⟩ = some (.int .i64 a0_0) := (blk_cell BK172.out 0).trans rfl
              have hcz17_1 : wc.cell? ⟨gb172, 1, none⟩ = some (.int .i64 a0_1) := (blk_cell BK172.out 1).trans rfl
              have hcz17_2 : wc.cell? ⟨gb172, 2, none⟩ = some (.slice A0_2 l0_2.length c0_2) := (blk_cell BK172.out 2).trans rfl
              have hfz17_0 := blk_frozen BK172.out 0
              have hfz17_1 := blk_frozen BK172.out 1
              have hfz17_2 := blk_frozen BK172.out 2
              go_wp2
              (try simp only [Act.put, List.setIfInBounds_toArray, List.set_cons_zero, List.set_cons_succ])
              go_loopg [41] kj11 (fun kq v41 w' => ∃ (x41_3 : Int), v41 = .int .i64 x41_3 ∧ Aside0 (impl_SystemOk.l0 kq l0_2 (l0_2.length : Int) x41_3 a0_0 a0_1 l0_2 = some r) ∧ Aside0 (kq ≤ kj11) ∧ Aside0 (Kd.V k162 162 w' w.heap.size (fun k_ => (P0_2_ k_ ∨ w.heap.size ≤ k_) ∧ k_ ≠ gb172) (.slice A0_2 l0_2.length c0_2) l0_2) ∧ Aside0 (Kd.V k162 162 w' w.heap.size (fun k_ => (P0_2_ k_ ∨ w.heap.size ≤ k_) ∧ k_ ≠ gb172) (.slice A0_2 l0_2.length c0_2) l0_2) ∧ Aside0 (w'.heap[gb172]? = some (.cells #[.int .i64 a0_0, .int .i64 a0_1, (.slice A0_2 l0_2.length c0_2)] 63 (0, 0))) ∧ Aside0 (Below w.heap.size w w'))
              case atStart => exact ⟨(0), (by first | rfl | (simp; done) | (simp [*]; done)), H', ⟨Nat.le_refl _⟩, ⟨by (with_reducible repeat (first | apply Kd.V_alloc | apply Kd.V_drewN | apply Kd.V_drew)); exact HO_173002.out⟩, ⟨by (with_reducible repeat (first | apply Kd.V_alloc | apply Kd.V_drewN | apply Kd.V_drew)); exact HO_173002.out⟩, ⟨by (with_reducible repeat (first | refine blk_drewN ?_ _ | refine blk_drew ?_ | refine blk_alloc ?_ _)); exact BK172.out⟩, ⟨by repeat (first | (with_reducible first | exact HB.out | apply below_alloc | apply pw_below_drewN | apply below_drew1 | refine below_set ?_ GE172.out) | exact HB.out)⟩⟩
              case round =>
                clear H'
                try clear c1
                try clear p2
                try clear c4
                try clear c4b0
                try clear c4b1
                try clear c4b2
                try clear c6
                try clear c6b0
                try clear p6
                try clear c8
                try clear c8b0
                try clear c9
                try clear c11
                try clear c13
                try clear c13b0
                try clear c13b1
                try clear c13b2
                try clear c16
                try clear hcz10_0
                try clear hcz10_1
                try clear hcz10_2
                try clear hcz14_0
                try clear hcz14_1
                try clear hcz14_2
                try clear hcz15_0
                try clear hcz15_1
                try clear hcz15_2
                try clear hcz17_0
                try clear hcz17_1
                try clear hcz17_2
                try clear hcz5_0
                try clear hcz5_1
                try clear hcz5_2
                try clear hcz7_0
                try clear hcz7_1
                try clear hcz7_2
                try clear hcz9_0
                try clear hcz9_1
                try clear hcz9_2
                try clear hfz10_0
                try clear hfz10_1
                try clear hfz10_2
                try clear hfz14_0
                try clear hfz14_1
                try clear hfz14_2
                try clear hfz15_0
                try clear hfz15_1
                try clear hfz15_2
                try clear hfz17_0
                try clear hfz17_1
                try clear hfz17_2
                try clear hfz5_0
                try clear hfz5_1
                try clear hfz5_2
                try clear hfz7_0
                try clear hfz7_1
                try clear hfz7_2
                try clear hfz9_0
                try clear hfz9_1
                try clear hfz9_2
                try clear p2
                try clear p6
                obtain ⟨x41_3, rfl, HA, HK3, HO_39, HO_173002, BK172, HB⟩ := hrel
                cases gk with
                | zero => exact absurd HA.out (by simp [impl_SystemOk.l0])
                | succ k3 =>
                  have H := HA.out
                  clear HA
                  simp only [impl_SystemOk.l0] at H
                  by_cases c18 : x41_3 < (l0_2.length : Int)
                  · rw [if_pos c18] at H
                    have c18b0 : decide (x41_3 < (l0_2.length : Int)) = true := decide_eq_true c18
                    clear c18
                    by_cases c19 : 0 ≤ x41_3
                    · rw [if_pos c19] at H
                      have c19b0 : decide (0 ≤ x41_3) = true := decide_eq_true c19
                      clear c19
                      by_cases c20 : x41_3 < (l0_2.length : Int)
                      · rw [if_pos c20] at H
                        have c20b0 : decide (x41_3 < (l0_2.length : Int)) = true := decide_eq_true c20
                        clear c20
                        obtain ⟨y175, hy175⟩ : ∃ y_ : List (List Int), y_ = (([(rd_T162 l0_2 x41_3).f0, (rd_T162 l0_2 x41_3).f1, (rd_T162 l0_2 x41_3).f2] : List (List Int))) := ⟨_, rfl⟩
                        replace H : (impl_SystemOk.l1 k3 l0_2 (l0_2.length : Int) x41_3 y175 (y175.length : Int) 0 a0_0 a0_1 l0_2) = some r := by first | (rw [hy175]; with_reducible exact H) | (have H2_ := (Option.bind_some _ _).symm.trans H; rw [hy175]; with_reducible exact H2_) | (have H2_ := (Option.bind_some _ _).symm.trans H; with_reducible exact H2_) | with_reducible exact H | (rw [hy175]; exact H) | exact H
                        have Ny175 := Aside0.mk hy175
                        clear hy175
                        have H' := Aside0.mk H
                        clear H
                        have p173 : 0 ≤ (x41_3 : Int) := of_decide_eq_true (by first | (with_reducible assumption) | assumption)
                        have q173 : x41_3 < (l0_2.length : Int) := of_decide_eq_true (by first | (with_reducible assumption) | assumption)
                        obtain ⟨ad173, A173_0, c173_0, A173_1, c173_1, A173_2, c173_2, e173, hx173_0, hx173_1, hx173_2, hl173_0, hi173_0, hl173_1, hi173_1, hl173_2, hi173_2⟩ := at_T162 (Kd.V_reads' HO_39.out).2.2 x41_3 p173 q173
                        cases e173
                        obtain ⟨ce173, hce173, hMe173, hcc173⟩ := Kd.V_get HO_39.out z162 x41_3 p173 (by first | exact q173 | exact of_decide_eq_true (by first | (with_reducible assumption) | assumption) | (have e_ := (Kd.V_reads' HO_39.out).1; omega))
                        obtain ⟨ua173_0, uc173_0, ua173_1, uc173_1, ua173_2, uc173_2, rfl, ul173_0, ge173_0, ul173_1, ge173_1, ul173_2, ge173_2⟩ := k162_openF hMe173
                        have hv173_0 := hcc173 0 _ rfl
                        rw [Nat.add_zero] at hv173_0
                        replace hv173_0 := Option.some.inj (hv173_0.symm.trans hx173_0)
                        injection hv173_0 with hva_ hvn_ hvc_
                        rw [hva_] at ge173_0
                        rw [hvc_] at ul173_0
                        have HL173_0 := Aside0.mk (show Kd.V (Kd.int .i64) 3 _ w.heap.size _ _ ((rd_T162 l0_2 x41_3).f0) from Kd.V_mk ul173_0 ge173_0)
                        clear hva_ hvn_ hvc_ ge173_0 ul173_0
                        have hv173_1 := hcc173 1 _ rfl
                        rw [add_field _ _ 1 (by omega)] at hv173_1
                        replace hv173_1 := Option.some.inj (hv173_1.symm.trans hx173_1)
                        injection hv173_1 with hva_ hvn_ hvc_
                        rw [hva_] at ge173_1
                        rw [hvc_] at ul173_1
                        have HL173_1 := Aside0.mk (show Kd.V (Kd.int .i64) 3 _ w.heap.size _ _ ((rd_T162 l0_2 x41_3).f1) from Kd.V_mk ul173_1 ge173_1)
                        clear hva_ hvn_ hvc_ ge173_1 ul173_1
                        have hv173_2 := hcc173 2 _ rfl
                        rw [add_field _ _ 2 (by omega)] at hv173_2
                        replace hv173_2 := Option.some.inj (hv173_2.symm.trans hx173_2)
                        injection hv173_2 with hva_ hvn_ hvc_
                        rw [hva_] at ge173_2
                        rw [hvc_] at ul173_2
                        have HL173_2 := Aside0.mk (show Kd.V (Kd.int .i64) 3 _ w.heap.size _ _ ((rd_T162 l0_2 x41_3).f2) from Kd.V_mk ul173_2 ge173_2)
                        clear hva_ hvn_ hvc_ ge173_2 ul173_2
                        clear hcc173 hce173
                        have HR173_0 := Aside0.mk hi173_0
                        have HC173_0 := Aside0.mk hl173_0
                        clear hi173_0 hl173_0
                        have HR173_1 := Aside0.mk hi173_1
                        have HC173_1 := Aside0.mk hl173_1
                        clear hi173_1 hl173_1
                        have HR173_2 := Aside0.mk hi173_2
                        have HC173_2 := Aside0.mk hl173_2
                        clear hi173_2 hl173_2
                        (try simp only [Go.IntWalk.toNatUp] at hx173_0)
                        (try simp only [Go.IntWalk.toNatUp] at hx173_1)
                        (try simp only [Go.IntWalk.toNatUp] at hx173_2)
                        replace p173 := eq_true p173
                        replace q173 := eq_true q173
                        go_wp2_with (first | ((with_reducible refine gate_dst (N := 4) rfl ?_); (try (refine gate_guard (by rfl) ?_; dsimp only)); refine box_event ?hg (N := 4) ?hd (cs := #[.slice none 0 0, .slice none 0 0, .slice none 0 0]) (t := 162) ?hr ?_; (case hd => rfl); (case hg => rfl); (case hr => first | (go_simp; done) | (go_simp; rfl)); intro gb174 hg w21 hbox hb; have n0_ := Aside0.mk (Kd.V_below (Kd.V_elderB (by (with_reducible repeat (first | apply Kd.V_alloc | apply Kd.V_drewN | apply Kd.V_drew)); exact HO_39.out) gb174 (Nat.le_of_eq hg.symm)) hb); have n1_ := Aside0.mk (Kd.V_below (Kd.V_elderB (by (with_reducible repeat (first | apply Kd.V_alloc | apply Kd.V_drewN | apply Kd.V_drew)); exact HO_173002.out) gb174 (Nat.le_of_eq hg.symm)) hb); have n2_ := Aside0.mk (Kd.V_below (Kd.V_elderB (by (with_reducible repeat (first | apply Kd.V_alloc | apply Kd.V_drewN | apply Kd.V_drew)); exact HL173_0.out) gb174 (Nat.le_of_eq hg.symm)) hb); have n3_ := Aside0.mk (Kd.V_below (Kd.V_elderB (by (with_reducible repeat (first | apply Kd.V_alloc | apply Kd.V_drewN | apply Kd.V_drew)); exact HL173_1.out) gb174 (Nat.le_of_eq hg.symm)) hb); have n4_ := Aside0.mk (Kd.V_below (Kd.V_elderB (by (with_reducible repeat (first | apply Kd.V_alloc | apply Kd.V_drewN | apply Kd.V_drew)); exact HL173_2.out) gb174 (Nat.le_of_eq hg.symm)) hb); have n5_ := Aside0.mk (blk_below (g := gb172) (o := .cells #[.int .i64 a0_0, .int .i64 a0_1, .slice (some ad173) l0_2.length c0_2] 63 (0, 0)) (by (with_reducible repeat (first | refine blk_drewN ?_ _ | refine blk_drew ?_ | refine blk_alloc ?_ _)); exact BK172.out) hb); have n6_ := Aside0.mk (Kd.C_below (by repeat (first | (with_reducible exact HR173_0.out) | (with_reducible refine Kd.C_alloc ?_ _) | (with_reducible refine Kd.C_drewN ?_ _) | (with_reducible refine Kd.C_drew ?_) | exact HR173_0.out)) hb); have n7_ := Aside0.mk (Kd.C_below (by repeat (first | (with_reducible exact HR173_1.out) | (with_reducible refine Kd.C_alloc ?_ _) | (with_reducible refine Kd.C_drewN ?_ _) | (with_reducible refine Kd.C_drew ?_) | exact HR173_1.out)) hb); have n8_ := Aside0.mk (Kd.C_below (by repeat (first | (with_reducible exact HR173_2.out) | (with_reducible refine Kd.C_alloc ?_ _) | (with_reducible refine Kd.C_drewN ?_ _) | (with_reducible refine Kd.C_drew ?_) | exact HR173_2.out)) hb); have n9_ := Aside0.mk (below_step (by repeat (first | (with_reducible first | exact HB.out | apply below_alloc | apply pw_below_drewN | apply below_drew1 | refine below_set ?_ GE172.out) | exact HB.out)) hb); have n10_ := Aside0.mk (hbox); have n11_ := Aside0.mk ((by rw [hg]; exact (below_size (by repeat (first | (with_reducible first | exact HB.out | apply below_alloc | apply pw_below_drewN | apply below_drew1 | refine below_set ?_ GE172.out) | exact HB.out))) : w.heap.size ≤ gb174)); have n12_ := Aside0.mk ((by rw [hg]; exact (below_size (by repeat (first | (with_reducible first | exact HB.out | apply below_alloc | apply pw_below_drewN | apply below_drew1 | refine below_set ?_ GE172.out) | exact HB.out))) : w.heap.size ≤ gb174)); have n13_ := Aside0.mk ((by rw [hg]; exact Nat.ne_of_lt (blk_lt (g := gb172) (o := .cells #[.int .i64 a0_0, .int .i64 a0_1, .slice (some ad173) l0_2.length c0_2] 63 (0, 0)) (by (with_reducible repeat (first | refine blk_drewN ?_ _ | refine blk_drew ?_ | refine blk_alloc ?_ _)); exact BK172.out)) : gb172 ≠ gb174)); have n14_ := Aside0.mk ((by rw [hg]; exact Nat.ne_of_gt (blk_lt (g := gb172) (o := .cells #[.int .i64 a0_0, .int .i64 a0_1, .slice (some ad173) l0_2.length c0_2] 63 (0, 0)) (by (with_reducible repeat (first | refine blk_drewN ?_ _ | refine blk_drew ?_ | refine blk_alloc ?_ _)); exact BK172.out)) : gb174 ≠ gb172)); clear HO_39; clear HO_173002; clear HL173_0; clear HL173_1; clear HL173_2; clear BK172; clear HR173_0; clear HR173_1; clear HR173_2; clear HB; have HO_39 := n0_; have HO_173002 := n1_; have HL173_0 := n2_; have HL173_1 := n3_; have HL173_2 := n4_; have BK172 := n5_; have HR173_0 := n6_; have HR173_1 := n7_; have HR173_2 := n8_; have HB := n9_; have BK174 := n10_; have GW174 := n11_; have GE174 := n12_; have NB172_174 := n13_; have NB174_172 := n14_; clear n0_ n1_ n2_ n3_ n4_ n5_ n6_ n7_ n8_ n9_ n10_ n11_ n12_ n13_ n14_; clear hb hbox hg; have hnb22 := NB174_172.out; have hnc22 := NB172_174.out; have hcz23_0 : w21.cell? ⟨gb174, 0, none⟩ = some (.slice none 0 0) := (blk_cell BK174.out 0).trans rfl; have hcz23_1 : w21.cell? ⟨gb174, 1, none⟩ = some (.slice none 0 0) := (blk_cell BK174.out 1).trans rfl; have hcz23_2 : w21.cell? ⟨gb174, 2, none⟩ = some (.slice none 0 0) := (blk_cell BK174.out 2).trans rfl; have hfz23_0 := blk_frozen BK174.out 0; have hfz23_1 := blk_frozen BK174.out 1; have hfz23_2 := blk_frozen BK174.out 2) | ((with_reducible refine gate_store (t := 162) (p := 4) rfl ?_); refine store_event (t := 162) (p := 4) (v := ?vo_w24) (w1 := (((w21.setCell ⟨gb174, 0, none⟩ (.slice A173_0 ((rd_T162 l0_2 x41_3).f0).length c173_0)).setCell ⟨gb174, 1, none⟩ (.slice A173_1 ((rd_T162 l0_2 x41_3).f1).length c173_1)).setCell ⟨gb174, 2, none⟩ (.slice A173_2 ((rd_T162 l0_2 x41_3).f2).length c173_2))) ?hg ?ho ?hn ?hr ?_; (case ho => rfl); (case hg => rfl); (case hn => rfl); (case hr => first | (go_simp; done) | (go_simp; rfl)); intro w24 hw; have n0_ : Aside0 (Kd.V k162 162 w24 w.heap.size (fun k_ => (P0_2_ k_ ∨ w.heap.size ≤ k_) ∧ k_ ≠ gb172 ∧ k_ ≠ gb174) (.slice (some ad173) l0_2.length c0_2) l0_2) := ⟨(by rw [hw]; exact (by (with_reducible repeat (first | apply Kd.V_alloc | apply Kd.V_drewN | apply Kd.V_drew)); exact Kd.V_mono (Kd.V_far (p := ⟨gb174, 2, none⟩) (Kd.V_far (p := ⟨gb174, 1, none⟩) (Kd.V_far (p := ⟨gb174, 0, none⟩) (Kd.V_mono HO_39.out (fun k_ hk => (⟨hk, hk.2⟩ : _ ∧ k_ ≠ gb174))) (fun _ hk => hk.2) (.slice A173_0 ((rd_T162 l0_2 x41_3).f0).length c173_0)) (fun _ hk => hk.2) (.slice A173_1 ((rd_T162 l0_2 x41_3).f1).length c173_1)) (fun _ hk => hk.2) (.slice A173_2 ((rd_T162 l0_2 x41_3).f2).length c173_2)) (fun _ hk => ⟨hk.1.1.1, ⟨hk.1.1.2, hk.1.2⟩⟩)))⟩; have n1_ : Aside0 (Kd.V k162 162 w24 w.heap.size (fun k_ => (P0_2_ k_ ∨ w.heap.size ≤ k_) ∧ k_ ≠ gb172 ∧ k_ ≠ gb174) (.slice (some ad173) l0_2.length c0_2) l0_2) := ⟨(by rw [hw]; exact (by (with_reducible repeat (first | apply Kd.V_alloc | apply Kd.V_drewN | apply Kd.V_drew)); exact Kd.V_mono (Kd.V_far (p := ⟨gb174, 2, none⟩) (Kd.V_far (p := ⟨gb174, 1, none⟩) (Kd.V_far (p := ⟨gb174, 0, none⟩) (Kd.V_mono HO_173002.out (fun k_ hk => (⟨hk, hk.2⟩ : _ ∧ k_ ≠ gb174))) (fun _ hk => hk.2) (.slice A173_0 ((rd_T162 l0_2 x41_3).f0).length c173_0)) (fun _ hk => hk.2) (.slice A173_1 ((rd_T162 l0_2 x41_3).f1).length c173_1)) (fun _ hk => hk.2) (.slice A173_2 ((rd_T162 l0_2 x41_3).f2).length c173_2)) (fun _ hk => ⟨hk.1.1.1, ⟨hk.1.1.2, hk.1.2⟩⟩)))⟩; have n2_ : Aside0 (Kd.V (Kd.int .i64) 3 w24 w.heap.size (fun k_ => (P0_2_ k_ ∨ w.heap.size ≤ k_) ∧ k_ ≠ gb172 ∧ k_ ≠ gb174) (.slice A173_0 ((rd_T162 l0_2 x41_3).f0).length c173_0) ((rd_T162 l0_2 x41_3).f0)) := ⟨(by rw [hw]; exact (by (with_reducible repeat (first | apply Kd.V_alloc | apply Kd.V_drewN | apply Kd.V_drew)); exact Kd.V_mono (Kd.V_far (p := ⟨gb174, 2, none⟩) (Kd.V_far (p := ⟨gb174, 1, none⟩) (Kd.V_far (p := ⟨gb174, 0, none⟩) (Kd.V_mono HL173_0.out (fun k_ hk => (⟨hk, hk.2⟩ : _ ∧ k_ ≠ gb174))) (fun _ hk => hk.2) (.slice A173_0 ((rd_T162 l0_2 x41_3).f0).length c173_0)) (fun _ hk => hk.2) (.slice A173_1 ((rd_T162 l0_2 x41_3).f1).length c173_1)) (fun _ hk => hk.2) (.slice A173_2 ((rd_T162 l0_2 x41_3).f2).length c173_2)) (fun _ hk => ⟨hk.1.1.1, ⟨hk.1.1.2, hk.1.2⟩⟩)))⟩; have n3_ : Aside0 (Kd.V (Kd.int .i64) 3 w24 w.heap.size (fun k_ => (P0_2_ k_ ∨ w.heap.size ≤ k_) ∧ k_ ≠ gb172 ∧ k_ ≠ gb174) (.slice A173_1 ((rd_T162 l0_2 x41_3).f1).length c173_1) ((rd_T162 l0_2 x41_3).f1)) := ⟨(by rw [hw]; exact (by (with_reducible repeat (first | apply Kd.V_alloc | apply Kd.V_drewN | apply Kd.V_drew)); exact Kd.V_mono (Kd.V_far (p := ⟨gb174, 2, none⟩) (Kd.V_far (p := ⟨gb174, 1, none⟩) (Kd.V_far (p := ⟨gb174, 0, none⟩) (Kd.V_mono HL173_1.out (fun k_ hk => (⟨hk, hk.2⟩ : _ ∧ k_ ≠ gb174))) (fun _ hk => hk.2) (.slice A173_0 ((rd_T162 l0_2 x41_3).f0).length c173_0)) (fun _ hk => hk.2) (.slice A173_1 ((rd_T162 l0_2 x41_3).f1).length c173_1)) (fun _ hk => hk.2) (.slice A173_2 ((rd_T162 l0_2 x41_3).f2).length c173_2)) (fun _ hk => ⟨hk.1.1.1, ⟨hk.1.1.2, hk.1.2⟩⟩)))⟩; have n4_ : Aside0 (Kd.V (Kd.int .i64) 3 w24 w.heap.size (fun k_ => (P0_2_ k_ ∨ w.heap.size ≤ k_) ∧ k_ ≠ gb172 ∧ k_ ≠ gb174) (.slice A173_2 ((rd_T162 l0_2 x41_3).f2).length c173_2) ((rd_T162 l0_2 x41_3).f2)) := ⟨(by rw [hw]; exact (by (with_reducible repeat (first | apply Kd.V_alloc | apply Kd.V_drewN | apply Kd.V_drew)); exact Kd.V_mono (Kd.V_far (p := ⟨gb174, 2, none⟩) (Kd.V_far (p := ⟨gb174, 1, none⟩) (Kd.V_far (p := ⟨gb174, 0, none⟩) (Kd.V_mono HL173_2.out (fun k_ hk => (⟨hk, hk.2⟩ : _ ∧ k_ ≠ gb174))) (fun _ hk => hk.2) (.slice A173_0 ((rd_T162 l0_2 x41_3).f0).length c173_0)) (fun _ hk => hk.2) (.slice A173_1 ((rd_T162 l0_2 x41_3).f1).length c173_1)) (fun _ hk => hk.2) (.slice A173_2 ((rd_T162 l0_2 x41_3).f2).length c173_2)) (fun _ hk => ⟨hk.1.1.1, ⟨hk.1.1.2, hk.1.2⟩⟩)))⟩; have n5_ : Aside0 (w24.heap[gb172]? = some (.cells #[.int .i64 a0_0, .int .i64 a0_1, .slice (some ad173) l0_2.length c0_2] 63 (0, 0))) := ⟨(by rw [hw]; exact (by (with_reducible repeat (first | refine blk_drewN ?_ _ | refine blk_drew ?_ | refine blk_alloc ?_ _)); refine blk_far ?_ NB172_174.out _; (with_reducible repeat (first | refine blk_drewN ?_ _ | refine blk_drew ?_ | refine blk_alloc ?_ _)); refine blk_far ?_ NB172_174.out _; (with_reducible repeat (first | refine blk_drewN ?_ _ | refine blk_drew ?_ | refine blk_alloc ?_ _)); refine blk_far ?_ NB172_174.out _; (with_reducible repeat (first | refine blk_drewN ?_ _ | refine blk_drew ?_ | refine blk_alloc ?_ _)); exact BK172.out))⟩; have n6_ : Aside0 (w24.heap[gb174]? = some (.cells #[.slice A173_0 ((rd_T162 l0_2 x41_3).f0).length c173_0, .slice A173_1 ((rd_T162 l0_2 x41_3).f1).length c173_1, .slice A173_2 ((rd_T162 l0_2 x41_3).f2).length c173_2] 162 (0, 0))) := ⟨(by rw [hw]; exact (by (with_reducible repeat (first | refine blk_drewN ?_ _ | refine blk_drew ?_ | refine blk_alloc ?_ _)); refine blk_put (cs := #[.slice A173_0 ((rd_T162 l0_2 x41_3).f0).length c173_0, .slice A173_1 ((rd_T162 l0_2 x41_3).f1).length c173_1, .slice none 0 0]) ?_ 2 _ rfl; (with_reducible repeat (first | refine blk_drewN ?_ _ | refine blk_drew ?_ | refine blk_alloc ?_ _)); refine blk_put (cs := #[.slice A173_0 ((rd_T162 l0_2 x41_3).f0).length c173_0, .slice none 0 0, .slice none 0 0]) ?_ 1 _ rfl; (with_reducible repeat (first | refine blk_drewN ?_ _ | refine blk_drew ?_ | refine blk_alloc ?_ _)); refine blk_put (cs := #[.slice none 0 0, .slice none 0 0, .slice none 0 0]) ?_ 0 _ rfl; (with_reducible repeat (first | refine blk_drewN ?_ _ | refine blk_drew ?_ | refine blk_alloc ?_ _)); exact BK174.out))⟩; have n7_ : Aside0 (Kd.C (Kd.int .i64) w24 A173_0 ((rd_T162 l0_2 x41_3).f0).length ((rd_T162 l0_2 x41_3).f0)) := ⟨(by rw [hw]; exact ((Kd.V_reads' (by (with_reducible repeat (first | apply Kd.V_alloc | apply Kd.V_drewN | apply Kd.V_drew)); exact (Kd.V_mono (Kd.V_far (p := ⟨gb174, 2, none⟩) (Kd.V_far (p := ⟨gb174, 1, none⟩) (Kd.V_far (p := ⟨gb174, 0, none⟩) (Kd.V_mono HL173_0.out (fun k_ hk => (⟨hk, hk.2⟩ : _ ∧ k_ ≠ gb174))) (fun _ hk => hk.2) (.slice A173_0 ((rd_T162 l0_2 x41_3).f0).length c173_0)) (fun _ hk => hk.2) (.slice A173_1 ((rd_T162 l0_2 x41_3).f1).length c173_1)) (fun _ hk => hk.2) (.slice A173_2 ((rd_T162 l0_2 x41_3).f2).length c173_2)) (fun _ h_ => h_.1)))).2.2))⟩; have n8_ : Aside0 (Kd.C (Kd.int .i64) w24 A173_1 ((rd_T162 l0_2 x41_3).f1).length ((rd_T162 l0_2 x41_3).f1)) := ⟨(by rw [hw]; exact ((Kd.V_reads' (by (with_reducible repeat (first | apply Kd.V_alloc | apply Kd.V_drewN | apply Kd.V_drew)); exact (Kd.V_mono (Kd.V_far (p := ⟨gb174, 2, none⟩) (Kd.V_far (p := ⟨gb174, 1, none⟩) (Kd.V_far (p := ⟨gb174, 0, none⟩) (Kd.V_mono HL173_1.out (fun k_ hk => (⟨hk, hk.2⟩ : _ ∧ k_ ≠ gb174))) (fun _ hk => hk.2) (.slice A173_0 ((rd_T162 l0_2 x41_3).f0).length c173_0)) (fun _ hk => hk.2) (.slice A173_1 ((rd_T162 l0_2 x41_3).f1).length c173_1)) (fun _ hk => hk.2) (.slice A173_2 ((rd_T162 l0_2 x41_3).f2).length c173_2)) (fun _ h_ => h_.1)))).2.2))⟩; have n9_ : Aside0 (Kd.C (Kd.int .i64) w24 A173_2 ((rd_T162 l0_2 x41_3).f2).length ((rd_T162 l0_2 x41_3).f2)) := ⟨(by rw [hw]; exact ((Kd.V_reads' (by (with_reducible repeat (first | apply Kd.V_alloc | apply Kd.V_drewN | apply Kd.V_drew)); exact (Kd.V_mono (Kd.V_far (p := ⟨gb174, 2, none⟩) (Kd.V_far (p := ⟨gb174, 1, none⟩) (Kd.V_far (p := ⟨gb174, 0, none⟩) (Kd.V_mono HL173_2.out (fun k_ hk => (⟨hk, hk.2⟩ : _ ∧ k_ ≠ gb174))) (fun _ hk => hk.2) (.slice A173_0 ((rd_T162 l0_2 x41_3).f0).length c173_0)) (fun _ hk => hk.2) (.slice A173_1 ((rd_T162 l0_2 x41_3).f1).length c173_1)) (fun _ hk => hk.2) (.slice A173_2 ((rd_T162 l0_2 x41_3).f2).length c173_2)) (fun _ h_ => h_.1)))).2.2))⟩; have n10_ : Aside0 (Below w.heap.size w w24) := ⟨(by rw [hw]; exact (by repeat (first | (with_reducible first | exact HB.out | apply below_alloc | apply pw_below_drewN | apply below_drew1 | refine below_set ?_ GE172.out | refine below_set ?_ GE174.out) | exact HB.out)))⟩; clear hw; clear HO_39; clear HO_173002; clear HL173_0; clear HL173_1; clear HL173_2; clear BK172; clear BK174; clear HR173_0; clear HR173_1; clear HR173_2; clear HB; have HO_39 := n0_; have HO_173002 := n1_; have HL173_0 := n2_; have HL173_1 := n3_; have HL173_2 := n4_; have BK172 := n5_; have BK174 := n6_; have HR173_0 := n7_; have HR173_1 := n8_; have HR173_2 := n9_; have HB := n10_; clear n0_ n1_ n2_ n3_ n4_ n5_ n6_ n7_ n8_ n9_ n10_; have hcz25_0 : w24.cell? ⟨gb174, 0, none⟩ = some (.slice A173_0 ((rd_T162 l0_2 x41_3).f0).length c173_0) := (blk_cell BK174.out 0).trans rfl; have hcz25_1 : w24.cell? ⟨gb174, 1, none⟩ = some (.slice A173_1 ((rd_T162 l0_2 x41_3).f1).length c173_1) := (blk_cell BK174.out 1).trans rfl; have hcz25_2 : w24.cell? ⟨gb174, 2, none⟩ = some (.slice A173_2 ((rd_T162 l0_2 x41_3).f2).length c173_2) := (blk_cell BK174.out 2).trans rfl; have hfz25_0 := blk_frozen BK174.out 0; have hfz25_1 := blk_frozen BK174.out 1; have hfz25_2 := blk_frozen BK174.out 2) | ((with_reducible refine gate_dst (N := 51) rfl ?_); (try (refine gate_guard (by rfl) ?_; dsimp only)); refine Kd.N_lit (Kd.slice 3 (Kd.int .i64)) _ 34 ?hg (N' := 51) ?hd (xs := ([(rd_T162 l0_2 x41_3).f0, (rd_T162 l0_2 x41_3).f1, (rd_T162 l0_2 x41_3).f2] : List (List Int))) (inner := [.slice A173_0 ((rd_T162 l0_2 x41_3).f0).length c173_0, .slice A173_1 ((rd_T162 l0_2 x41_3).f1).length c173_1, .slice A173_2 ((rd_T162 l0_2 x41_3).f2).length c173_2]) (ok := (fun k_ => (P0_2_ k_ ∨ w.heap.size ≤ k_) ∧ k_ ≠ gb172 ∧ k_ ≠ gb174)) (okp := (fun k_ => (P0_2_ k_ ∨ w.heap.size ≤ k_) ∧ k_ ≠ gb172 ∧ k_ ≠ gb174)) ?hr ?hp (fun _ hk => hk) ((show ∀ k_, w24.heap.size ≤ k_ → (fun k_ => (P0_2_ k_ ∨ w.heap.size ≤ k_) ∧ k_ ≠ gb172 ∧ k_ ≠ gb174) k_ from fun k_ hk => ⟨(.inr (Nat.le_trans (below_size (by repeat (first | (with_reducible first | exact HB.out | apply below_alloc | apply pw_below_drewN | apply below_drew1 | refine below_set ?_ GE172.out | refine below_set ?_ GE174.out) | exact HB.out))) hk)), Kd.freshB (g := gb172) (o := .cells #[.int .i64 a0_0, .int .i64 a0_1, .slice (some ad173) l0_2.length c0_2] 63 (0, 0)) (by (with_reducible repeat (first | refine blk_drewN ?_ _ | refine blk_drew ?_ | refine blk_alloc ?_ _)); exact BK172.out) k_ hk, Kd.freshB (g := gb174) (o := .cells #[.slice A173_0 ((rd_T162 l0_2 x41_3).f0).length c173_0, .slice A173_1 ((rd_T162 l0_2 x41_3).f1).length c173_1, .slice A173_2 ((rd_T162 l0_2 x41_3).f2).length c173_2] 162 (0, 0)) (by (with_reducible repeat (first | refine blk_drewN ?_ _ | refine blk_drew ?_ | refine blk_alloc ?_ _)); exact BK174.out) k_ hk⟩) _ (Nat.le_refl _)) (Below.refl _ _) (Nat.le_refl _) (by simp) ?_; (case hd => rfl); (case hg => rfl); (case hr => first | (go_simp; done) | (go_simp; rfl)); (case hp => exact (Reps.one (show Kd.FK (Kd.slice 3 (Kd.int .i64)) _ _ ((rd_T162 l0_2 x41_3).f0) [.slice A173_0 ((rd_T162 l0_2 x41_3).f0).length c173_0] from (Kd.FK_slice_mk (Kd.V_reads' (Kd.V_mono (ok' := (fun k_ => (P0_2_ k_ ∨ w.heap.size ≤ k_) ∧ k_ ≠ gb172 ∧ k_ ≠ gb174)) (HL173_0.out) (fun k_ hk => ⟨hk.1, ⟨hk.2.1, hk.2.2⟩⟩))).2.1 (Kd.V_F (Kd.V_mono (ok' := (fun k_ => (P0_2_ k_ ∨ w.heap.size ≤ k_) ∧ k_ ≠ gb172 ∧ k_ ≠ gb174)) (HL173_0.out) (fun k_ hk => ⟨hk.1, ⟨hk.2.1, hk.2.2⟩⟩))))) (Reps.one (show Kd.FK (Kd.slice 3 (Kd.int .i64)) _ _ ((rd_T162 l0_2 x41_3).f1) [.slice A173_1 ((rd_T162 l0_2 x41_3).f1).length c173_1] from (Kd.FK_slice_mk (Kd.V_reads' (Kd.V_mono (ok' := (fun k_ => (P0_2_ k_ ∨ w.heap.size ≤ k_) ∧ k_ ≠ gb172 ∧ k_ ≠ gb174)) (HL173_1.out) (fun k_ hk => ⟨hk.1, ⟨hk.2.1, hk.2.2⟩⟩))).2.1 (Kd.V_F (Kd.V_mono (ok' := (fun k_ => (P0_2_ k_ ∨ w.heap.size ≤ k_) ∧ k_ ≠ gb172 ∧ k_ ≠ gb174)) (HL173_1.out) (fun k_ hk => ⟨hk.1, ⟨hk.2.1, hk.2.2⟩⟩))))) (Reps.one (show Kd.FK (Kd.slice 3 (Kd.int .i64)) _ _ ((rd_T162 l0_2 x41_3).f2) [.slice A173_2 ((rd_T162 l0_2 x41_3).f2).length c173_2] from (Kd.FK_slice_mk (Kd.V_reads' (Kd.V_mono (ok' := (fun k_ => (P0_2_ k_ ∨ w.heap.size ≤ k_) ∧ k_ ≠ gb172 ∧ k_ ≠ gb174)) (HL173_2.out) (fun k_ hk => ⟨hk.1, ⟨hk.2.1, hk.2.2⟩⟩))).2.1 (Kd.V_F (Kd.V_mono (ok' := (fun k_ => (P0_2_ k_ ∨ w.heap.size ≤ k_) ∧ k_ ≠ gb172 ∧ k_ ≠ gb174)) (HL173_2.out) (fun k_ hk => ⟨hk.1, ⟨hk.2.1, hk.2.2⟩⟩))))) (Reps.none _ _))))); intro v176 w26 ho27 hb hg_ hnew_; clear hg_ hnew_; (first | rw [← Ny175.out] at ho27 | (simp only [Int.reduceToNat] at ho27; rw [← Ny175.out] at ho27)); have n0_ := Aside0.mk (Kd.V_elder' (by (with_reducible repeat (first | apply Kd.V_alloc | apply Kd.V_drewN | apply Kd.V_drew)); exact HO_39.out) (Kd.N_base ho27) hb); have n1_ := Aside0.mk (Kd.V_elder' (by (with_reducible repeat (first | apply Kd.V_alloc | apply Kd.V_drewN | apply Kd.V_drew)); exact HO_173002.out) (Kd.N_base ho27) hb); have n2_ := Aside0.mk (Kd.V_elder' (by (with_reducible repeat (first | apply Kd.V_alloc | apply Kd.V_drewN | apply Kd.V_drew)); exact HL173_0.out) (Kd.N_base ho27) hb); have n3_ := Aside0.mk (Kd.V_elder' (by (with_reducible repeat (first | apply Kd.V_alloc | apply Kd.V_drewN | apply Kd.V_drew)); exact HL173_1.out) (Kd.N_base ho27) hb); have n4_ := Aside0.mk (Kd.V_elder' (by (with_reducible repeat (first | apply Kd.V_alloc | apply Kd.V_drewN | apply Kd.V_drew)); exact HL173_2.out) (Kd.N_base ho27) hb); have n5_ := Aside0.mk (Kd.N_lower ho27 (below_size (by repeat (first | (with_reducible first | exact HB.out | apply below_alloc | apply pw_below_drewN | apply below_drew1 | refine below_set ?_ GE172.out | refine below_set ?_ GE174.out) | exact HB.out)))); have n6_ := Aside0.mk (blk_below (g := gb172) (o := .cells #[.int .i64 a0_0, .int .i64 a0_1, .slice (some ad173) l0_2.length c0_2] 63 (0, 0)) (by (with_reducible repeat (first | refine blk_drewN ?_ _ | refine blk_drew ?_ | refine blk_alloc ?_ _)); exact BK172.out) hb); have n7_ := Aside0.mk (Kd.C_below (by repeat (first | (with_reducible exact HR173_0.out) | (with_reducible refine Kd.C_alloc ?_ _) | (with_reducible refine Kd.C_drewN ?_ _) | (with_reducible refine Kd.C_drew ?_) | exact HR173_0.out)) hb); have n8_ := Aside0.mk (Kd.C_below (by repeat (first | (with_reducible exact HR173_1.out) | (with_reducible refine Kd.C_alloc ?_ _) | (with_reducible refine Kd.C_drewN ?_ _) | (with_reducible refine Kd.C_drew ?_) | exact HR173_1.out)) hb); have n9_ := Aside0.mk (Kd.C_below (by repeat (first | (with_reducible exact HR173_2.out) | (with_reducible refine Kd.C_alloc ?_ _) | (with_reducible refine Kd.C_drewN ?_ _) | (with_reducible refine Kd.C_drew ?_) | exact HR173_2.out)) hb); have n10_ := Aside0.mk (blk_below (g := gb174) (o := .cells #[.slice A173_0 ((rd_T162 l0_2 x41_3).f0).length c173_0, .slice A173_1 ((rd_T162 l0_2 x41_3).f1).length c173_1, .slice A173_2 ((rd_T162 l0_2 x41_3).f2).length c173_2] 162 (0, 0)) (by (with_reducible repeat (first | refine blk_drewN ?_ _ | refine blk_drew ?_ | refine blk_alloc ?_ _)); exact BK174.out) hb); have n11_ := Aside0.mk (below_step (by repeat (first | (with_reducible first | exact HB.out | apply below_alloc | apply pw_below_drewN | apply below_drew1 | refine below_set ?_ GE172.out | refine below_set ?_ GE174.out) | exact HB.out)) hb); clear HO_39; clear HO_173002; clear HL173_0; clear HL173_1; clear HL173_2; clear BK172; clear HR173_0; clear HR173_1; clear HR173_2; clear BK174; clear HB; have HO_39 := n0_; have HO_173002 := n1_; have HL173_0 := n2_; have HL173_1 := n3_; have HL173_2 := n4_; have HO177 := n5_; have BK172 := n6_; have HR173_0 := n7_; have HR173_1 := n8_; have HR173_2 := n9_; have BK174 := n10_; have HB := n11_; clear n0_ n1_ n2_ n3_ n4_ n5_ n6_ n7_ n8_ n9_ n10_ n11_; clear hb ho27; obtain ⟨Ao28, co28, eo28⟩ := Kd.N_slice HO177.out; subst eo28))
                        (try simp only [Act.put, List.setIfInBounds_toArray, List.set_cons_zero, List.set_cons_succ])
                        go_loopg [53] k3 (fun kq v53 w' => ∃ (x53_4 : Int), v53 = .int .i64 x53_4 ∧ Aside0 (impl_SystemOk.l1 kq l0_2 (l0_2.length : Int) x41_3 y175 (y175.length : Int) x53_4 a0_0 a0_1 l0_2 = some r) ∧ Aside0 (kq ≤ k3) ∧ Aside0 (Kd.V k162 162 w' w.heap.size (fun k_ => (P0_2_ k_ ∨ w.heap.size ≤ k_) ∧ some k_ ≠ ((.slice Ao28 y175.length co28) : Value).ownBlock ∧ k_ ≠ gb172 ∧ k_ ≠ gb174) (.slice (some ad173) l0_2.length c0_2) l0_2) ∧ Aside0 (Kd.N (Kd.slice 3 (Kd.int .i64)) 34 w' w.heap.size (fun k_ => (P0_2_ k_ ∨ w.heap.size ≤ k_) ∧ k_ ≠ gb172 ∧ k_ ≠ gb174) (.slice Ao28 y175.length co28) y175) ∧ Aside0 (Kd.V k162 162 w' w.heap.size (fun k_ => (P0_2_ k_ ∨ w.heap.size ≤ k_) ∧ some k_ ≠ ((.slice Ao28 y175.length co28) : Value).ownBlock ∧ k_ ≠ gb172 ∧ k_ ≠ gb174) (.slice (some ad173) l0_2.length c0_2) l0_2) ∧ Aside0 (w'.heap[gb172]? = some (.cells #[.int .i64 a0_0, .int .i64 a0_1, (.slice (some ad173) l0_2.length c0_2)] 63 (0, 0))) ∧ Aside0 (w'.heap[gb174]? = some (.cells #[(.slice A173_0 ((rd_T162 l0_2 x41_3).f0).length c173_0), (.slice A173_1 ((rd_T162 l0_2 x41_3).f1).length c173_1), (.slice A173_2 ((rd_T162 l0_2 x41_3).f2).length c173_2)] 162 (0, 0))) ∧ Aside0 (Kd.C (Kd.int .i64) w' A173_0 ((rd_T162 l0_2 x41_3).f0).length ((rd_T162 l0_2 x41_3).f0)) ∧ Aside0 (Kd.C (Kd.int .i64) w' A173_1 ((rd_T162 l0_2 x41_3).f1).length ((rd_T162 l0_2 x41_3).f1)) ∧ Aside0 (Kd.C (Kd.int .i64) w' A173_2 ((rd_T162 l0_2 x41_3).f2).length ((rd_T162 l0_2 x41_3).f2)) ∧ Aside0 (Below w.heap.size w w'))
                        case atStart => exact ⟨(0), (by first | rfl | (simp; done) | (simp [*]; done)), H', ⟨Nat.le_refl _⟩, ⟨by (with_reducible repeat (first | apply Kd.V_alloc | apply Kd.V_drewN | apply Kd.V_drew)); exact Kd.V_mono HO_39.out (fun _ hk => ⟨hk.1.1, ⟨hk.2, ⟨hk.1.2.1, hk.1.2.2⟩⟩⟩)⟩, ⟨by (with_reducible repeat (first | apply Kd.N_alloc | apply Kd.N_drewN | apply Kd.N_drew)); exact HO177.out⟩, ⟨by (with_reducible repeat (first | apply Kd.V_alloc | apply Kd.V_drewN | apply Kd.V_drew)); exact Kd.V_mono HO_173002.out (fun _ hk => ⟨hk.1.1, ⟨hk.2, ⟨hk.1.2.1, hk.1.2.2⟩⟩⟩)⟩, ⟨by (with_reducible repeat (first | refine blk_drewN ?_ _ | refine blk_drew ?_ | refine blk_alloc ?_ _)); exact BK172.out⟩, ⟨by (with_reducible repeat (first | refine blk_drewN ?_ _ | refine blk_drew ?_ | refine blk_alloc ?_ _)); exact BK174.out⟩, ⟨by repeat (first | (with_reducible exact HR173_0.out) | (with_reducible refine Kd.C_alloc ?_ _) | (with_reducible refine Kd.C_drewN ?_ _) | (with_reducible refine Kd.C_drew ?_) | exact HR173_0.out)⟩, ⟨by repeat (first | (with_reducible exact HR173_1.out) | (with_reducible refine Kd.C_alloc ?_ _) | (with_reducible refine Kd.C_drewN ?_ _) | (with_reducible refine Kd.C_drew ?_) | exact HR173_1.out)⟩, ⟨by repeat (first | (with_reducible exact HR173_2.out) | (with_reducible refine Kd.C_alloc ?_ _) | (with_reducible refine Kd.C_drewN ?_ _) | (with_reducible refine Kd.C_drew ?_) | exact HR173_2.out)⟩, ⟨by repeat (first | (with_reducible first | exact HB.out | apply below_alloc | apply pw_below_drewN | apply below_drew1 | refine below_set ?_ GE172.out | refine below_set ?_ GE174.out) | exact HB.out)⟩⟩
                        case round =>
                          clear H'
                          try clear c1
                          try clear p1
                          try clear q1
                          try clear hx1
                          try clear c2
                          try clear p2
                          try clear c4
                          try clear c4b0
                          try clear c4b1
                          try clear c4b2
                          try clear c6
                          try clear c6b0
                          try clear p6
                          try clear c8
                          try clear c8b0
                          try clear c9
                          try clear c11
                          try clear c13
                          try clear c13b0
                          try clear c13b1
                          try clear c13b2
                          try clear c16
                          try clear c17
                          try clear p17
                          try clear q17
                          try clear hx17
                          try clear c18
                          try clear c18b0
                          try clear c19
                          try clear c19b0
                          try clear c20
                          try clear c20b0
                          try clear c22
                          try clear hcz10_0
                          try clear hcz10_1
                          try clear hcz10_2
                          try clear hcz14_0
                          try clear hcz14_1
                          try clear hcz14_2
                          try clear hcz15_0
                          try clear hcz15_1
                          try clear hcz15_2
                          try clear hcz17_0
                          try clear hcz17_1
                          try clear hcz17_2
                          try clear hcz23_0
                          try clear hcz23_1
                          try clear hcz23_2
                          try clear hcz25_0
                          try clear hcz25_1
                          try clear hcz25_2
                          try clear hcz5_0
                          try clear hcz5_1
                          try clear hcz5_2
                          try clear hcz7_0
                          try clear hcz7_1
                          try clear hcz7_2
                          try clear hcz9_0
                          try clear hcz9_1
                          try clear hcz9_2
                          try clear hfz10_0
                          try clear hfz10_1
                          try clear hfz10_2
                          try clear hfz14_0
                          try clear hfz14_1
                          try clear hfz14_2
                          try clear hfz15_0
                          try clear hfz15_1
                          try clear hfz15_2
                          try clear hfz17_0
                          try clear hfz17_1
                          try clear hfz17_2
                          try clear hfz23_0
                          try clear hfz23_1
                          try clear hfz23_2
                          try clear hfz25_0
                          try clear hfz25_1
                          try clear hfz25_2
                          try clear hfz5_0
                          try clear hfz5_1
                          try clear hfz5_2
                          try clear hfz7_0
                          try clear hfz7_1
                          try clear hfz7_2
                          try clear hfz9_0
                          try clear hfz9_1
                          try clear hfz9_2
                          try clear hx173_0
                          try clear hx173_1
                          try clear hx173_2
                          try clear p173
                          try clear p2
                          try clear p6
                          try clear q173
                          obtain ⟨x53_4, rfl, HA, HK4, HO_39, HO_51, HO_173002, BK172, BK174, HR173_0, HR173_1, HR173_2, HB⟩ := hrel
                          cases gk with
                          | zero => exact absurd HA.out (by simp [impl_SystemOk.l1])
                          | succ k4 =>
                            have H := HA.out
                            clear HA
                            simp only [impl_SystemOk.l1] at H
                            by_cases c29 : x53_4 < (y175.length : Int)
                            · rw [if_pos c29] at H
                              have c29b0 : decide (x53_4 < (y175.length : Int)) = true := decide_eq_true c29
                              clear c29
                              by_cases c30 : 0 ≤ x53_4
                              · rw [if_pos c30] at H
                                have c30b0 : decide (0 ≤ x53_4) = true := decide_eq_true c30
                                clear c30
                                by_cases c31 : x53_4 < (y175.length : Int)
                                · rw [if_pos c31] at H
                                  have c31b0 : decide (x53_4 < (y175.length : Int)) = true := decide_eq_true c31
                                  clear c31
                                  by_cases c32 : ((rd_L1 y175 x53_4).length : Int) = a0_0
                                  · rw [if_pos c32] at H
                                    have c32b0 : (((rd_L1 y175 x53_4).length : Int) == a0_0) = true := beq_iff_eq.mpr c32
                                    have c32b1 : (((rd_L1 y175 x53_4).length : Int) != a0_0) = false := bne_eq_false_iff_eq.mpr c32
                                    clear c32
                                    replace H := Option.bind_eq_some_iff.mp H
                                    obtain ⟨t179, A330, H⟩ := H
                                    replace H : (if t179 = true then (impl_SystemOk.l1 k4 l0_2 (l0_2.length : Int) x41_3 y175 (y175.length : Int) (wrap64 (x53_4 + 1)) a0_0 a0_1 l0_2) else (some false)) = some r := H
                                    have A33 := Aside0.mk A330
                                    clear A330
                                    have HQ34 := Aside0.mk H
                                    clear H
                                    have p178 : 0 ≤ (x53_4 : Int) := of_decide_eq_true (by first | (with_reducible assumption) | assumption)
                                    have q178 : x53_4 < (y175.length : Int) := of_decide_eq_true (by first | (with_reducible assumption) | assumption)
                                    obtain ⟨ad178, A178_0, c178_0, e178, hx178_0, hl178_0, hi178_0⟩ := at_L1 (Kd.N_reads' HO_51.out).2.2 x53_4 p178 q178
                                    cases e178
                                    obtain ⟨ce178, hce178, hMe178, hcc178⟩ := Kd.N_get HO_51.out [] x53_4 p178 (by first | exact q178 | exact of_decide_eq_true (by first | (with_reducible assumption) | assumption) | (have e_ := (Kd.N_reads' HO_51.out).1; omega))
                                    obtain ⟨ua178_0, uc178_0, rfl, ul178_0, ge178_0⟩ := Kd.FK_slice_open hMe178
                                    have hv178_0 := hcc178 0 _ rfl
                                    rw [Nat.add_zero, show ((Kd.slice 3 (Kd.int .i64))).sz = 1 from rfl, Nat.mul_one] at hv178_0
                                    replace hv178_0 := Option.some.inj (hv178_0.symm.trans hx178_0)
                                    injection hv178_0 with hva_ hvn_ hvc_
                                    rw [hva_] at ge178_0
                                    rw [hvc_] at ul178_0
                                    have HL178_0 := Aside0.mk (show Kd.V (Kd.int .i64) 3 _ w.heap.size _ _ (rd_L1 y175 x53_4) from Kd.V_mk ul178_0 ge178_0)
                                    clear hva_ hvn_ hvc_ ge178_0 ul178_0
                                    clear hcc178 hce178
                                    have HR178_0 := Aside0.mk hi178_0
                                    have HC178_0 := Aside0.mk hl178_0
                                    clear hi178_0 hl178_0
                                    (try simp only [Go.IntWalk.toNatUp] at hx178_0)
                                    replace p178 := eq_true p178
                                    replace q178 := eq_true q178
                                    have hnb35 := NB172_174.out
                                    have hnc35 := NB174_172.out
                                    have hcz36_0 : wr.cell? ⟨gb172, 0, none⟩ = some (.int .i64 a0_0) := (blk_cell BK172.out 0).trans rfl
                                    have hcz36_1 : wr.cell? ⟨gb172, 1, none⟩ = some (.int .i64 a0_1) := (blk_cell BK172.out 1).trans rfl
                                    have hcz36_2 : wr.cell? ⟨gb172, 2, none⟩ = some (.slice (some ad173) l0_2.length c0_2) := (blk_cell BK172.out 2).trans rfl
                                    have hfz36_0 := blk_frozen BK172.out 0
                                    have hfz36_1 := blk_frozen BK172.out 1
                                    have hfz36_2 := blk_frozen BK172.out 2
                                    repeat' (first | (go_big_may; (first | (go_at_call 140; (with_reducible refine (impl_areScalars.calls k4 _ _ (rd_L1 y175 x53_4) t179 _ ?side1 ?side2 A33.out).mono ?_); (case side1 => repeat (first | exact (by repeat (first | (with_reducible exact HR178_0.out) | (with_reducible refine Kd.C_alloc ?_ _) | (with_reducible refine Kd.C_drewN ?_ _) | (with_reducible refine Kd.C_drew ?_) | exact HR178_0.out)) | (with_reducible refine Kd.C_alloc ?_ _) | (with_reducible refine Kd.C_drewN ?_ _) | (with_reducible refine Kd.C_drew ?_))); (case side2 => exact HC178_0.out); rintro e w' ⟨rfl, ⟨nd, rfl⟩⟩))) | go_values | go_skip | go_guarded | ((with_reducible refine wp_cond_true ?_ ?_); (focus rfl)) | ((with_reducible refine wp_cond_false ?_ ?_); (focus rfl)) | ((fail_if_success (with_reducible apply wp_cond_split)); (first | go_step | go_upon | go_back)) | dsimp only)
                                    have H := HQ34.out
                                    clear HQ34
                                    by_cases c37 : t179 = true
                                    · subst c37
                                      have H1 : (impl_SystemOk.l1 k4 l0_2 (l0_2.length : Int) x41_3 y175 (y175.length : Int) (wrap64 (x53_4 + 1)) a0_0 a0_1 l0_2) = some r := by rw [if_pos rfl] at H; exact H
                                      clear H
                                      have H := H1
                                      clear H1
                                      have H' := Aside0.mk H
                                      clear H
                                      go_wp2
                                      go_roundg k4
                                      case measure => have := HJ1.out; have := HJ11.out; have := HK3.out; have := HK4.out; omega
                                      case rel => exact ⟨(wrap64 (x53_4 + 1)), (by first | rfl | (simp; done) | (simp [*]; done)), H', ⟨by have := HJ1.out; have := HJ11.out; have := HK3.out; have := HK4.out; omega⟩, ⟨by (with_reducible repeat (first | apply Kd.V_alloc | apply Kd.V_drewN | apply Kd.V_drew)); exact HO_39.out⟩, ⟨by (with_reducible repeat (first | apply Kd.N_alloc | apply Kd.N_drewN | apply Kd.N_drew)); exact HO_51.out⟩, ⟨by (with_reducible repeat (first | apply Kd.V_alloc | apply Kd.V_drewN | apply Kd.V_drew)); exact HO_173002.out⟩, ⟨by (with_reducible repeat (first | refine blk_drewN ?_ _ | refine blk_drew ?_ | refine blk_alloc ?_ _)); exact BK172.out⟩, ⟨by (with_reducible repeat (first | refine blk_drewN ?_ _ | refine blk_drew ?_ | refine blk_alloc ?_ _)); exact BK174.out⟩, ⟨by repeat (first | (with_reducible exact HR173_0.out) | (with_reducible refine Kd.C_alloc ?_ _) | (with_reducible refine Kd.C_drewN ?_ _) | (with_reducible refine Kd.C_drew ?_) | exact HR173_0.out)⟩, ⟨by repeat (first | (with_reducible exact HR173_1.out) | (with_reducible refine Kd.C_alloc ?_ _) | (with_reducible refine Kd.C_drewN ?_ _) | (with_reducible refine Kd.C_drew ?_) | exact HR173_1.out)⟩, ⟨by repeat (first | (with_reducible exact HR173_2.out) | (with_reducible refine Kd.C_alloc ?_ _) | (with_reducible refine Kd.C_drewN ?_ _) | (with_reducible refine Kd.C_drew ?_) | exact HR173_2.out)⟩, ⟨by repeat (first | (with_reducible first | exact HB.out | apply below_alloc | apply pw_below_drewN | apply below_drew1 | refine below_set ?_ GE172.out | refine below_set ?_ GE174.out) | exact HB.out)⟩⟩
                                    · replace c37 := Bool.eq_false_iff.mpr c37
                                      subst c37
                                      have H1 : (some false) = some r := by rw [if_neg (show ¬ (false = true) by decide)] at H; exact H
                                      clear H
                                      have H := H1
                                      clear H1
                                      obtain rfl := Option.some.inj H
                                      go_wp2
                                      go_ret
                                      exact ⟨by first | rfl | (simp [errW_none, errW_some] <;> rfl) | (simp [*, errW_none, errW_some] <;> rfl), by repeat (first | (with_reducible first | exact HB.out | apply below_alloc | apply pw_below_drewN | apply below_drew1 | refine below_set ?_ GE172.out | refine below_set ?_ GE174.out) | exact HB.out)⟩
                                  · rw [if_neg c32] at H
                                    have c32b0 : (((rd_L1 y175 x53_4).length : Int) == a0_0) = false := beq_eq_false_iff_ne.mpr c32
                                    have c32b1 : (((rd_L1 y175 x53_4).length : Int) != a0_0) = true := bne_iff_ne.mpr c32
                                    obtain rfl := Option.some.inj H
                                    have p178 : 0 ≤ (x53_4 : Int) := of_decide_eq_true (by first | (with_reducible assumption) | assumption)
                                    have q178 : x53_4 < (y175.length : Int) := of_decide_eq_true (by first | (with_reducible assumption) | assumption)
                                    obtain ⟨ad178, A178_0, c178_0, e178, hx178_0, hl178_0, hi178_0⟩ := at_L1 (Kd.N_reads' HO_51.out).2.2 x53_4 p178 q178
                                    cases e178
                                    obtain ⟨ce178, hce178, hMe178, hcc178⟩ := Kd.N_get HO_51.out [] x53_4 p178 (by first | exact q178 | exact of_decide_eq_true (by first | (with_reducible assumption) | assumption) | (have e_ := (Kd.N_reads' HO_51.out).1; omega))
                                    obtain ⟨ua178_0, uc178_0, rfl, ul178_0, ge178_0⟩ := Kd.FK_slice_open hMe178
                                    have hv178_0 := hcc178 0 _ rfl
                                    rw [Nat.add_zero, show ((Kd.slice 3 (Kd.int .i64))).sz = 1 from rfl, Nat.mul_one] at hv178_0
                                    replace hv178_0 := Option.some.inj (hv178_0.symm.trans hx178_0)
                                    injection hv178_0 with hva_ hvn_ hvc_
                                    rw [hva_] at ge178_0
                                    rw [hvc_] at ul178_0
                                    have HL178_0 := Aside0.mk (show Kd.V (Kd.int .i64) 3 _ w.heap.size _ _ (rd_L1 y175 x53_4) from Kd.V_mk ul178_0 ge178_0)
                                    clear hva_ hvn_ hvc_ ge178_0 ul178_0
                                    clear hcc178 hce178
                                    have HR178_0 := Aside0.mk hi178_0
                                    have HC178_0 := Aside0.mk hl178_0
                                    clear hi178_0 hl178_0
                                    (try simp only [Go.IntWalk.toNatUp] at hx178_0)
                                    replace p178 := eq_true p178
                                    replace q178 := eq_true q178
                                    have hnb38 := NB172_174.out
                                    have hnc38 := NB174_172.out
                                    have hcz39_0 : wr.cell? ⟨gb172, 0, none⟩ = some (.int .i64 a0_0) := (blk_cell BK172.out 0).trans rfl
                                    have hcz39_1 : wr.cell? ⟨gb172, 1, none⟩ = some (.int .i64 a0_1) := (blk_cell BK172.out 1).trans rfl
                                    have hcz39_2 : wr.cell? ⟨gb172, 2, none⟩ = some (.slice (some ad173) l0_2.length c0_2) := (blk_cell BK172.out 2).trans rfl
                                    have hfz39_0 := blk_frozen BK172.out 0
                                    have hfz39_1 := blk_frozen BK172.out 1
                                    have hfz39_2 := blk_frozen BK172.out 2
                                    go_wp2
                                    go_ret
                                    exact ⟨by first | rfl | (simp [errW_none, errW_some] <;> rfl) | (simp [*, errW_none, errW_some] <;> rfl), by repeat (first | (with_reducible first | exact HB.out | apply below_alloc | apply pw_below_drewN | apply below_drew1 | refine below_set ?_ GE172.out | refine below_set ?_ GE174.out) | exact HB.out)⟩
                                · rw [if_neg c31] at H
                                  exact absurd H (by simp)
                              · rw [if_neg c30] at H
                                exact absurd H (by simp)
                            · rw [if_neg c29] at H
                              have c29b0 : decide (x53_4 < (y175.length : Int)) = false := decide_eq_false c29
                              clear c29
                              have H' := Aside0.mk H
                              clear H
                              go_wp2
                              go_roundg k4
                              case measure => have := HJ1.out; have := HJ11.out; have := HK3.out; have := HK4.out; omega
                              case rel => exact ⟨(wrap64 (x41_3 + 1)), (by first | rfl | (simp; done) | (simp [*]; done)), H', ⟨by have := HJ1.out; have := HJ11.out; have := HK3.out; have := HK4.out; omega⟩, ⟨by (with_reducible repeat (first | apply Kd.V_alloc | apply Kd.V_drewN | apply Kd.V_drew)); exact Kd.V_mono HO_39.out (fun _ hk => ⟨hk.1, hk.2.2.1⟩)⟩, ⟨by (with_reducible repeat (first | apply Kd.V_alloc | apply Kd.V_drewN | apply Kd.V_drew)); exact Kd.V_mono HO_173002.out (fun _ hk => ⟨hk.1, hk.2.2.1⟩)⟩, ⟨by (with_reducible repeat (first | refine blk_drewN ?_ _ | refine blk_drew ?_ | refine blk_alloc ?_ _)); exact BK172.out⟩, ⟨by repeat (first | (with_reducible first | exact HB.out | apply below_alloc | apply pw_below_drewN | apply below_drew1 | refine below_set ?_ GE172.out | refine below_set ?_ GE174.out) | exact HB.out)⟩⟩
                      · rw [if_neg c20] at H
                        exact absurd H (by simp)
                    · rw [if_neg c19] at H
                      exact absurd H (by simp)
                  · rw [if_neg c18] at H
                    have c18b0 : decide (x41_3 < (l0_2.length : Int)) = false := decide_eq_false c18
                    clear c18
                    obtain rfl := Option.some.inj H
                    go_wp2
                    go_ret
                    exact ⟨by first | rfl | (simp [errW_none, errW_some] <;> rfl) | (simp [*, errW_none, errW_some] <;> rfl), by repeat (first | (with_reducible first | exact HB.out | apply below_alloc | apply pw_below_drewN | apply below_drew1 | refine below_set ?_ GE172.out) | exact HB.out)⟩

end Go.Proofs.Ytmhakjpjnnfidaa.QFnExactToxicOk
