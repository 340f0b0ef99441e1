-- by a program of this session, out of Lean's print of the loaded program
import Derived.Test.YtegchimmolpmeaaQFnExactInputSumx0
namespace Go.Proofs.Ytegchimmolpmeaa.QFnExactInputSum
open Go.RowKit Go.Proofs.YtegchimmolpmeaaW.PrintWords Go.Proofs.YtegchimmolpmeaaW.PrintLast Go.Proofs.YtegchimmolpmeaaW.PrintMore
attribute [local go_sem] max2_int min2_int max_two min_two max_three min_three max_four min_four   -- for this text's walks alone
set_option linter.unusedVariables false
set_option linter.unusedSimpArgs false

/-! ### laws_eqPoint: function 31 -/
def laws_eqPoint.f (a0_0 : Int) (a0_1 : Int) (a0_2 : Bool) (a1_0 : Int) (a1_1 : Int) (a1_2 : Bool) : Option (Bool) := if a0_0 = a1_0 then (if a0_1 = a1_1 then (if (a0_2 != a1_2) = true then (some false) else (some true)) else (some false)) else (some false)
set_option maxHeartbeats 8000000 in
set_option maxRecDepth 100000 in
theorem laws_eqPoint.calls (a0_0 : Int) (a0_1 : Int) (a0_2 : Bool) (a1_0 : Int) (a1_1 : Int) (a1_2 : Bool) (r : Bool) (w : World) (h : laws_eqPoint.f a0_0 a0_1 a0_2 a1_0 a1_1 a1_2 = some r) :
    Calls Try.prog 31 #[.agg #[.int .i64 a0_0, .int .i64 a0_1, .bool a0_2], .agg #[.int .i64 a1_0, .int .i64 a1_1, .bool a1_2]] w fun e w' => e = .returned (.bool r) ∧ Below w.heap.size w w' := by
  have hu28 := Try.underlying28
  have HB := Aside0.mk (Below.refl w.heap.size w)
  have H : (if a0_0 = a1_0 then (if a0_1 = a1_1 then (if (a0_2 != a1_2) = true then (some false) else (some true)) else (some false)) else (some false)) = some r := h
  clear h
  have HQ3 := Aside0.mk H
  clear H
  go_enter Try.func31, Try.ntmps31
  repeat' (first | (go_big_may; (first | ((with_reducible refine gate_dst (N := 2) rfl ?_); refine box_event ?hg (N := 2) ?hd (cs := #[.int .i64 a0_0, .int .i64 a0_1, .bool a0_2]) (t := 28) ?hr ?_; (case hd => rfl); (case hg => rfl); (case hr => first | (go_simp; done) | (go_simp; rfl)); intro gb338 hg w4 hbox hb; have n0_ := Aside0.mk (below_step (by repeat (first | (with_reducible first | exact HB.out | apply below_alloc | apply pw_below_drewN | apply below_drew1) | exact HB.out)) hb); have n1_ := Aside0.mk (hbox); have n2_ := Aside0.mk ((by rw [hg]; exact (below_size (by repeat (first | (with_reducible first | exact HB.out | apply below_alloc | apply pw_below_drewN | apply below_drew1) | exact HB.out))) : w.heap.size ≤ gb338)); have n3_ := Aside0.mk ((by rw [hg]; exact (below_size (by repeat (first | (with_reducible first | exact HB.out | apply below_alloc | apply pw_below_drewN | apply below_drew1) | exact HB.out))) : w.heap.size ≤ gb338)); clear HB; have HB := n0_; have BK338 := n1_; have GW338 := n2_; have GE338 := n3_; clear n0_ n1_ n2_ n3_; clear hb hbox hg) | ((with_reducible refine gate_dst (N := 3) rfl ?_); refine box_event ?hg (N := 3) ?hd (cs := #[.int .i64 a1_0, .int .i64 a1_1, .bool a1_2]) (t := 28) ?hr ?_; (case hd => rfl); (case hg => rfl); (case hr => first | (go_simp; done) | (go_simp; rfl)); intro gb339 hg w5 hbox hb; have n0_ := Aside0.mk (blk_below (g := gb338) (o := .cells #[.int .i64 a0_0, .int .i64 a0_1, .bool a0_2] 28 (0, 0)) (by (with_reducible repeat (first | refine blk_drewN ?_ _ | refine blk_drew ?_ | refine blk_alloc ?_ _)); exact BK338.out) hb); have n1_ := Aside0.mk (below_step (by repeat (first | (with_reducible first | exact HB.out | apply below_alloc | apply pw_below_drewN | apply below_drew1 | refine below_set ?_ GE338.out) | exact HB.out)) hb); have n2_ := Aside0.mk (hbox); have n3_ := Aside0.mk ((by rw [hg]; exact (below_size (by repeat (first | (with_reducible first | exact HB.out | apply below_alloc | apply pw_below_drewN | apply below_drew1 | refine below_set ?_ GE338.out) | exact HB.out))) : w.heap.size ≤ gb339)); have n4_ := Aside0.mk ((by rw [hg]; exact (below_size (by repeat (first | (with_reducible first | exact HB.out | apply below_alloc | apply pw_below_drewN | apply below_drew1 | refine below_set ?_ GE338.out) | exact HB.out))) : w.heap.size ≤ gb339)); have n5_ := Aside0.mk ((by rw [hg]; exact Nat.ne_of_lt (blk_lt (g := gb338) (o := .cells #[.int .i64 a0_0, .int .i64 a0_1, .bool a0_2] 28 (0, 0)) (by (with_reducible repeat (first | refine blk_drewN ?_ _ | refine blk_drew ?_ | refine blk_alloc ?_ _)); exact BK338.out)) : gb338 ≠ gb339)); have n6_ := Aside0.mk ((by rw [hg]; exact Nat.ne_of_gt (blk_lt (g := gb338) (o := .cells #[.int .i64 a0_0, .int .i64 a0_1, .bool a0_2] 28 (0, 0)) (by (with_reducible repeat (first | refine blk_drewN ?_ _ | refine blk_drew ?_ | refine blk_alloc ?_ _)); exact BK338.out)) : gb339 ≠ gb338)); clear BK338; clear HB; have BK338 := n0_; have HB := n1_; have BK339 := n2_; have GW339 := n3_; have GE339 := n4_; have NB338_339 := n5_; have NB339_338 := n6_; clear n0_ n1_ n2_ n3_ n4_ n5_ n6_; clear hb hbox hg; have hnb6 := NB338_339.out; have hnc6 := NB339_338.out; have hcz7_0 : w5.cell? ⟨gb338, 0, none⟩ = some (.int .i64 a0_0) := (blk_cell BK338.out 0).trans rfl; have hcz7_1 : w5.cell? ⟨gb338, 1, none⟩ = some (.int .i64 a0_1) := (blk_cell BK338.out 1).trans rfl; have hcz7_2 : w5.cell? ⟨gb338, 2, none⟩ = some (.bool a0_2) := (blk_cell BK338.out 2).trans rfl; have hfz7_0 := blk_frozen BK338.out 0; have hfz7_1 := blk_frozen BK338.out 1; have hfz7_2 := blk_frozen BK338.out 2; have hcz8_0 : w5.cell? ⟨gb339, 0, none⟩ = some (.int .i64 a1_0) := (blk_cell BK339.out 0).trans rfl; have hcz8_1 : w5.cell? ⟨gb339, 1, none⟩ = some (.int .i64 a1_1) := (blk_cell BK339.out 1).trans rfl; have hcz8_2 : w5.cell? ⟨gb339, 2, none⟩ = some (.bool a1_2) := (blk_cell BK339.out 2).trans rfl; have hfz8_0 := blk_frozen BK339.out 0; have hfz8_1 := blk_frozen BK339.out 1; have hfz8_2 := blk_frozen BK339.out 2))) | go_values | go_skip | go_guarded | ((with_reducible refine wp_cond_true ?_ ?_); (focus rfl)) | ((with_reducible refine wp_cond_false ?_ ?_); (focus rfl)) | ((fail_if_success (with_reducible apply wp_cond_split)); (first | go_step | go_upon | go_back)) | dsimp only)
  have H := HQ3.out
  clear HQ3
  by_cases c9 : a0_0 = a1_0
  · rw [if_pos c9] at H
    have c9b0 : (a0_0 == a1_0) = true := beq_iff_eq.mpr c9
    have c9b1 : (a0_0 != a1_0) = false := bne_eq_false_iff_eq.mpr c9
    clear c9
    (first | rw [c9b0] | rw [c9b1] | rw [c9b2] | (simp only [i64_w, i32_w]; first | rw [c9b0] | rw [c9b1]) | skip)
    by_cases c10 : a0_1 = a1_1
    · rw [if_pos c10] at H
      have c10b0 : (a0_1 == a1_1) = true := beq_iff_eq.mpr c10
      have c10b1 : (a0_1 != a1_1) = false := bne_eq_false_iff_eq.mpr c10
      clear c10
      by_cases c11 : (a0_2 != a1_2) = true
      · rw [if_pos c11] at H
        have c11b0 : (a0_2 != a1_2) = true := c11
        (try (have c11b1 : decide (a0_2 = a1_2) = false := by simpa using c11))
        (try (have c11b2 : (a0_2 == a1_2) = false := by simpa using c11))
        (try (have c11b3 : ¬ (a0_2 = a1_2) := by simpa using c11))
        clear c11
        obtain rfl := Option.some.inj H
        have hnb12 := NB338_339.out
        have hnc12 := NB339_338.out
        have hcz13_0 : w5.cell? ⟨gb338, 0, none⟩ = some (.int .i64 a0_0) := (blk_cell BK338.out 0).trans rfl
        have hcz13_1 : w5.cell? ⟨gb338, 1, none⟩ = some (.int .i64 a0_1) := (blk_cell BK338.out 1).trans rfl
        have hcz13_2 : w5.cell? ⟨gb338, 2, none⟩ = some (.bool a0_2) := (blk_cell BK338.out 2).trans rfl
        have hfz13_0 := blk_frozen BK338.out 0
        have hfz13_1 := blk_frozen BK338.out 1
        have hfz13_2 := blk_frozen BK338.out 2
        have hcz14_0 : w5.cell? ⟨gb339, 0, none⟩ = some (.int .i64 a1_0) := (blk_cell BK339.out 0).trans rfl
        have hcz14_1 : w5.cell? ⟨gb339, 1, none⟩ = some (.int .i64 a1_1) := (blk_cell BK339.out 1).trans rfl
        have hcz14_2 : w5.cell? ⟨gb339, 2, none⟩ = some (.bool a1_2) := (blk_cell BK339.out 2).trans rfl
        have hfz14_0 := blk_frozen BK339.out 0
        have hfz14_1 := blk_frozen BK339.out 1
        have hfz14_2 := blk_frozen BK339.out 2
        go_wp2
        go_ret
        exact ⟨by first | rfl | (simp [errW_none, errW_some] <;> rfl) | (simp [*, errW_none, errW_some] <;> rfl), by repeat (first | (with_reducible first | exact HB.out | apply below_alloc | apply pw_below_drewN | apply below_drew1 | refine below_set ?_ GE338.out | refine below_set ?_ GE339.out) | exact HB.out)⟩
      · rw [if_neg c11] at H
        have c11b0 : (a0_2 != a1_2) = false := by simpa using c11
        (try (have c11b1 : decide (a0_2 = a1_2) = true := by simpa using c11))
        (try (have c11b2 : (a0_2 == a1_2) = true := by simpa using c11))
        clear c11
        obtain rfl := Option.some.inj H
        have hnb15 := NB338_339.out
        have hnc15 := NB339_338.out
        have hcz16_0 : w5.cell? ⟨gb338, 0, none⟩ = some (.int .i64 a0_0) := (blk_cell BK338.out 0).trans rfl
        have hcz16_1 : w5.cell? ⟨gb338, 1, none⟩ = some (.int .i64 a0_1) := (blk_cell BK338.out 1).trans rfl
        have hcz16_2 : w5.cell? ⟨gb338, 2, none⟩ = some (.bool a0_2) := (blk_cell BK338.out 2).trans rfl
        have hfz16_0 := blk_frozen BK338.out 0
        have hfz16_1 := blk_frozen BK338.out 1
        have hfz16_2 := blk_frozen BK338.out 2
        have hcz17_0 : w5.cell? ⟨gb339, 0, none⟩ = some (.int .i64 a1_0) := (blk_cell BK339.out 0).trans rfl
        have hcz17_1 : w5.cell? ⟨gb339, 1, none⟩ = some (.int .i64 a1_1) := (blk_cell BK339.out 1).trans rfl
        have hcz17_2 : w5.cell? ⟨gb339, 2, none⟩ = some (.bool a1_2) := (blk_cell BK339.out 2).trans rfl
        have hfz17_0 := blk_frozen BK339.out 0
        have hfz17_1 := blk_frozen BK339.out 1
        have hfz17_2 := blk_frozen BK339.out 2
        go_wp2
        go_ret
        exact ⟨by first | rfl | (simp [errW_none, errW_some] <;> rfl) | (simp [*, errW_none, errW_some] <;> rfl), by repeat (first | (with_reducible first | exact HB.out | apply below_alloc | apply pw_below_drewN | apply below_drew1 | refine below_set ?_ GE338.out | refine below_set ?_ GE339.out) | exact HB.out)⟩
    · rw [if_neg c10] at H
      have c10b0 : (a0_1 == a1_1) = false := beq_eq_false_iff_ne.mpr c10
      have c10b1 : (a0_1 != a1_1) = true := bne_iff_ne.mpr c10
      obtain rfl := Option.some.inj H
      have hnb18 := NB338_339.out
      have hnc18 := NB339_338.out
      have hcz19_0 : w5.cell? ⟨gb338, 0, none⟩ = some (.int .i64 a0_0) := (blk_cell BK338.out 0).trans rfl
      have hcz19_1 : w5.cell? ⟨gb338, 1, none⟩ = some (.int .i64 a0_1) := (blk_cell BK338.out 1).trans rfl
      have hcz19_2 : w5.cell? ⟨gb338, 2, none⟩ = some (.bool a0_2) := (blk_cell BK338.out 2).trans rfl
      have hfz19_0 := blk_frozen BK338.out 0
      have hfz19_1 := blk_frozen BK338.out 1
      have hfz19_2 := blk_frozen BK338.out 2
      have hcz20_0 : w5.cell? ⟨gb339, 0, none⟩ = some (.int .i64 a1_0) := (blk_cell BK339.out 0).trans rfl
      have hcz20_1 : w5.cell? ⟨gb339, 1, none⟩ = some (.int .i64 a1_1) := (blk_cell BK339.out 1).trans rfl
      have hcz20_2 : w5.cell? ⟨gb339, 2, none⟩ = some (.bool a1_2) := (blk_cell BK339.out 2).trans rfl
      have hfz20_0 := blk_frozen BK339.out 0
      have hfz20_1 := blk_frozen BK339.out 1
      have hfz20_2 := blk_frozen BK339.out 2
      go_wp2
      go_ret
      exact ⟨by first | rfl | (simp [errW_none, errW_some] <;> rfl) | (simp [*, errW_none, errW_some] <;> rfl), by repeat (first | (with_reducible first | exact HB.out | apply below_alloc | apply pw_below_drewN | apply below_drew1 | refine below_set ?_ GE338.out | refine below_set ?_ GE339.out) | exact HB.out)⟩
  · rw [if_neg c9] at H
    have c9b0 : (a0_0 == a1_0) = false := beq_eq_false_iff_ne.mpr c9
    have c9b1 : (a0_0 != a1_0) = true := bne_iff_ne.mpr c9
    (first | rw [c9b0] | rw [c9b1] | rw [c9b2] | (simp only [i64_w, i32_w]; first | rw [c9b0] | rw [c9b1]) | skip)
    obtain rfl := Option.some.inj H
    go_wp2
    go_ret
    exact ⟨by first | rfl | (simp [errW_none, errW_some] <;> rfl) | (simp [*, errW_none, errW_some] <;> rfl), by repeat (first | (with_reducible first | exact HB.out | apply below_alloc | apply pw_below_drewN | apply below_drew1 | refine below_set ?_ GE338.out | refine below_set ?_ GE339.out) | exact HB.out)⟩

/-! ### laws_eqPointS: function 75 -/
def laws_eqPointS.l0 : Nat → List (S28) → List (S28) → Int → Option (Bool)
  | 0, _, _, _ => none
  | k + 1, x0, x1, x5 => if x5 < (x0.length : Int) then (if 0 ≤ x5 then (if x5 < (x1.length : Int) then ((laws_eqPoint.f ((rd_T28 x0 x5).f0) ((rd_T28 x0 x5).f1) ((rd_T28 x0 x5).f2) ((rd_T28 x1 x5).f0) ((rd_T28 x1 x5).f1) ((rd_T28 x1 x5).f2)).bind fun t342 => (if t342 = true then (laws_eqPointS.l0 k x0 x1 (wrap64 (x5 + 1))) else (some false))) else (none)) else (none)) else (some true)
def laws_eqPointS.f (k : Nat) (l0 : List (S28)) (l1 : List (S28)) : Option (Bool) := if (l0.length : Int) = (l1.length : Int) then (laws_eqPointS.l0 k l0 l1 0) else (some false)
theorem laws_eqPointS.mono_l : ∀ k, (∀ y0 y1 y2, LeO (laws_eqPointS.l0 k y0 y1 y2) (laws_eqPointS.l0 (k + 1) y0 y1 y2))
  | 0 => fun _ _ _ r h => by simp [laws_eqPointS.l0] at h
  | k + 1 => by
    have ih0 := laws_eqPointS.mono_l k
    · intro y0 y1 y2
      unfold laws_eqPointS.l0
      repeat' first
      | (with_reducible exact ih0 _ _ _)
      | (with_reducible exact LeO.refl _)
      | (with_reducible exact LeO.none _)
      | (with_reducible refine LeO.ite ?_ ?_)
      | (with_reducible refine LeO.bind ?_ (fun _ => ?_))
      | exact ih0 _ _ _
      | exact LeO.none _
      | refine LeO.ite ?_ ?_
      | refine LeO.bind ?_ (fun _ => ?_)
theorem laws_eqPointS.mono : ∀ a0 a1 k, LeO (laws_eqPointS.f k a0 a1) (laws_eqPointS.f (k + 1) a0 a1) := by
  intro a0 a1 k
  have ih0 := laws_eqPointS.mono_l k
  unfold laws_eqPointS.f
  repeat' first
      | (with_reducible exact ih0 _ _ _)
      | (with_reducible exact LeO.refl _)
      | (with_reducible exact LeO.none _)
      | (with_reducible refine LeO.ite ?_ ?_)
      | (with_reducible refine LeO.bind ?_ (fun _ => ?_))
      | exact ih0 _ _ _
      | exact LeO.none _
      | refine LeO.ite ?_ ?_
      | refine LeO.bind ?_ (fun _ => ?_)
def laws_eqPointS.T6 : Bool × List (List Nat × List Nat) := (true, [([], []), ([], []), ([0, 1], [0, 1]), ([2], [2]), ([], []), ([], []), ([4, 5], [4, 5]), ([6], [6]), ([3, 7], [3, 7]), ([8], [8])])
def laws_eqPointS.B6 : List Nat := [0, 0, 3, 7, 0, 0, 48, 112, 255, 511]
theorem laws_eqPointS.tab6 : rtab .any (opsOf Try.f75 6) = laws_eqPointS.T6 := by kernel_rfl
theorem laws_eqPointS.bits6 : waitsOk laws_eqPointS.T6.2 laws_eqPointS.B6 = true := by kernel_rfl
set_option maxHeartbeats 8000000 in
set_option maxRecDepth 100000 in
theorem laws_eqPointS.calls (k : Nat) (A0 : Option Addr) (c0 : Nat) (l0 : List (S28)) (A1 : Option Addr) (c1 : Nat) (l1 : List (S28)) (r : Bool) (w : World) (hr0 : Kd.C k28 w A0 l0.length l0) (hc0 : l0.length ≤ c0) (hr1 : Kd.C k28 w A1 l1.length l1) (hc1 : l1.length ≤ c1) (h : laws_eqPointS.f k l0 l1 = some r) :
    Calls Try.prog 75 #[.slice A0 l0.length c0, .slice A1 l1.length c1] w fun e w' => e = .returned (.bool r) ∧ Below w.heap.size w w' := by
  have hu28 := Try.underlying28
  have HR0 := Aside0.mk hr0
  have HC0 := Aside0.mk hc0
  clear hr0 hc0
  have HR1 := Aside0.mk hr1
  have HC1 := Aside0.mk hc1
  clear hr1 hc1
  have HB := Aside0.mk (Below.refl w.heap.size w)
  have H : (if (l0.length : Int) = (l1.length : Int) then (laws_eqPointS.l0 k l0 l1 0) else (some false)) = some r := h
  clear h
  by_cases c3 : (l0.length : Int) = (l1.length : Int)
  · rw [if_pos c3] at H
    have c3b0 : ((l0.length : Int) == (l1.length : Int)) = true := beq_iff_eq.mpr c3
    have c3b1 : ((l0.length : Int) != (l1.length : Int)) = false := bne_eq_false_iff_eq.mpr c3
    have c3b2 : (l0.length == l1.length) = true := by first | simpa using c3 | (simp at c3 ⊢; omega)
    clear c3
    have H' := Aside0.mk H
    clear H
    go_enter Try.func75, Try.ntmps75
    go_wp2
    (try simp only [Act.put, List.setIfInBounds_toArray, List.set_cons_zero, List.set_cons_succ])
    go_loopg [5] k (fun kq v5 w' => ∃ (x5_1 : Int), v5 = .int .i64 x5_1 ∧ Aside0 (laws_eqPointS.l0 kq l0 l1 x5_1 = some r) ∧ Aside0 (kq ≤ k) ∧ Aside0 (Below w.heap.size w w'))
    case atStart => exact ⟨(0), (by first | rfl | (simp; done) | (simp [*]; done)), H', ⟨Nat.le_refl _⟩, ⟨by repeat (first | (with_reducible first | exact HB.out | apply below_alloc | apply pw_below_drewN | apply below_drew1) | exact HB.out)⟩⟩
    case round =>
      clear H'
      try clear c1
      try clear p2
      try clear c3
      try clear c3b0
      try clear c3b1
      try clear c3b2
      obtain ⟨x5_1, rfl, HA, HK1, HB⟩ := hrel
      cases gk with
      | zero => exact absurd HA.out (by simp [laws_eqPointS.l0])
      | succ k1 =>
        have H := HA.out
        clear HA
        simp only [laws_eqPointS.l0] at H
        by_cases c4 : x5_1 < (l0.length : Int)
        · rw [if_pos c4] at H
          have c4b0 : decide (x5_1 < (l0.length : Int)) = true := decide_eq_true c4
          clear c4
          by_cases c5 : 0 ≤ x5_1
          · rw [if_pos c5] at H
            have c5b0 : decide (0 ≤ x5_1) = true := decide_eq_true c5
            clear c5
            by_cases c6 : x5_1 < (l1.length : Int)
            · rw [if_pos c6] at H
              have c6b0 : decide (x5_1 < (l1.length : Int)) = true := decide_eq_true c6
              clear c6
              replace H := Option.bind_eq_some_iff.mp H
              obtain ⟨t342, A70, H⟩ := H
              replace H : (if t342 = true then (laws_eqPointS.l0 k1 l0 l1 (wrap64 (x5_1 + 1))) else (some false)) = some r := H
              have A7 := Aside0.mk A70
              clear A70
              by_cases c11 : t342 = true
              · subst c11
                have H1 : (laws_eqPointS.l0 k1 l0 l1 (wrap64 (x5_1 + 1))) = some r := by rw [if_pos rfl] at H; exact H
                clear H
                have H := H1
                clear H1
                have H' := Aside0.mk H
                clear H
                try go_wp2
                have n0_ := Aside0.mk (below_drew1 HB.out)
                clear HB
                have HB := n0_
                clear n0_
                have p340 : 0 ≤ (x5_1 : Int) := of_decide_eq_true (by first | (with_reducible assumption) | assumption)
                have q340 : x5_1 < (l0.length : Int) := of_decide_eq_true (by first | (with_reducible assumption) | assumption)
                obtain ⟨ad340, e340, hx340_0, hx340_1, hx340_2⟩ := at_T28 HR0.out x5_1 p340 q340
                have hw340_2 := hx340_2
                have hw340_1 := hx340_1
                have hw340_0 := hx340_0
                cases e340
                replace hx340_0 := (HB.out.cell (World.block_lt_of_cell? w _ hx340_0)).trans hx340_0
                replace hx340_1 := (HB.out.cell (World.block_lt_of_cell? w _ hx340_1)).trans hx340_1
                replace hx340_2 := (HB.out.cell (World.block_lt_of_cell? w _ hx340_2)).trans hx340_2
                (try simp only [Go.IntWalk.toNatUp] at hx340_0)
                (try simp only [Go.IntWalk.toNatUp] at hx340_1)
                (try simp only [Go.IntWalk.toNatUp] at hx340_2)
                replace p340 := eq_true p340
                replace q340 := eq_true q340
                have p341 : 0 ≤ (x5_1 : Int) := of_decide_eq_true (by first | (with_reducible assumption) | assumption)
                have q341 : x5_1 < (l1.length : Int) := of_decide_eq_true (by first | (with_reducible assumption) | assumption)
                obtain ⟨ad341, e341, hx341_0, hx341_1, hx341_2⟩ := at_T28 HR1.out x5_1 p341 q341
                have hw341_2 := hx341_2
                have hw341_1 := hx341_1
                have hw341_0 := hx341_0
                cases e341
                replace hx341_0 := (HB.out.cell (World.block_lt_of_cell? w _ hx341_0)).trans hx341_0
                replace hx341_1 := (HB.out.cell (World.block_lt_of_cell? w _ hx341_1)).trans hx341_1
                replace hx341_2 := (HB.out.cell (World.block_lt_of_cell? w _ hx341_2)).trans hx341_2
                (try simp only [Go.IntWalk.toNatUp] at hx341_0)
                (try simp only [Go.IntWalk.toNatUp] at hx341_1)
                (try simp only [Go.IntWalk.toNatUp] at hx341_2)
                replace p341 := eq_true p341
                replace q341 := eq_true q341
                refine start_ (n := 10) (S := fun w' => w'.cell? (ad340.add ((x5_1).toNat * 3)) = some (.int .i64 ((rd_T28 l0 x5_1).f0)) ∧ w'.cell? ⟨(ad340.add ((x5_1).toNat * 3)).block, (ad340.add ((x5_1).toNat * 3)).off + 1, none⟩ = some (.int .i64 ((rd_T28 l0 x5_1).f1)) ∧ w'.cell? ⟨(ad340.add ((x5_1).toNat * 3)).block, (ad340.add ((x5_1).toNat * 3)).off + 2, none⟩ = some (.bool ((rd_T28 l0 x5_1).f2)) ∧ w'.cell? (ad341.add ((x5_1).toNat * 3)) = some (.int .i64 ((rd_T28 l1 x5_1).f0)) ∧ w'.cell? ⟨(ad341.add ((x5_1).toNat * 3)).block, (ad341.add ((x5_1).toNat * 3)).off + 1, none⟩ = some (.int .i64 ((rd_T28 l1 x5_1).f1)) ∧ w'.cell? ⟨(ad341.add ((x5_1).toNat * 3)).block, (ad341.add ((x5_1).toNat * 3)).off + 2, none⟩ = some (.bool ((rd_T28 l1 x5_1).f2))) (ds := []) #[false, false, false, false, false, false, false, false, false, false] (by kernel_rfl) rfl rfl ⟨((HB.out.cell (World.block_lt_of_cell? w _ hw340_0)).trans hw340_0), ((HB.out.cell (World.block_lt_of_cell? w _ hw340_1)).trans hw340_1), ((HB.out.cell (World.block_lt_of_cell? w _ hw340_2)).trans hw340_2), ((HB.out.cell (World.block_lt_of_cell? w _ hw341_0)).trans hw341_0), ((HB.out.cell (World.block_lt_of_cell? w _ hw341_1)).trans hw341_1), ((HB.out.cell (World.block_lt_of_cell? w _ hw341_2)).trans hw341_2)⟩ (fun hHeld => ?_); refine with_tabW laws_eqPointS.tab6 laws_eqPointS.bits6 (fun HT_ HW_ => ?_)
                generalize wr.drew = w12 at HB hx340_0 hx340_1 hx340_2 hx341_0 hx341_1 hx341_2 hHeld ⊢
                refine pure_ (i := 0) (N := some 17) (v := ?_) (a' := ?_) #[true, false, false, false, false, false, false, false, false, false] rfl rfl (any_of HT_.out (by kernel_rfl)) (fun _ _ _ h => h) (Or.inl ⟨by rfl, ?_⟩) ?_ ?_
                rotate_left
                · intro w'
                  go_simp
                  with_reducible rfl
                rotate_left
                · simp only [Act.put, List.setIfInBounds_toArray, List.set_cons_zero, List.set_cons_succ, i64_w, i32_w]
                  rfl
                refine pure_ (i := 1) (N := some 18) (v := ?_) (a' := ?_) #[true, true, false, false, false, false, false, false, false, false] rfl rfl (any_of HT_.out (by kernel_rfl)) (fun _ _ _ h => h) (Or.inl ⟨by rfl, ?_⟩) ?_ ?_
                rotate_left
                · intro w'
                  go_simp
                  with_reducible rfl
                rotate_left
                · simp only [Act.put, List.setIfInBounds_toArray, List.set_cons_zero, List.set_cons_succ, i64_w, i32_w]
                  rfl
                refine pure_ (i := 2) (N := some 19) (v := ?_) (a' := ?_) #[true, true, true, false, false, false, false, false, false, false] rfl rfl (any_of HT_.out (by kernel_rfl)) (fun _ _ _ h => h) (Or.inl ⟨by rfl, ?_⟩) ?_ ?_
                rotate_left
                · intro w'
                  go_simp
                  with_reducible rfl
                rotate_left
                · simp only [Act.put, List.setIfInBounds_toArray, List.set_cons_zero, List.set_cons_succ, i64_w, i32_w]
                  rfl
                refine pure_ (i := 4) (N := some 21) (v := ?_) (a' := ?_) #[true, true, true, false, true, false, false, false, false, false] rfl rfl (any_of HT_.out (by kernel_rfl)) (fun _ _ _ h => h) (Or.inl ⟨by rfl, ?_⟩) ?_ ?_
                rotate_left
                · intro w'
                  go_simp
                  with_reducible rfl
                rotate_left
                · simp only [Act.put, List.setIfInBounds_toArray, List.set_cons_zero, List.set_cons_succ, i64_w, i32_w]
                  rfl
                refine pure_ (i := 5) (N := some 22) (v := ?_) (a' := ?_) #[true, true, true, false, true, true, false, false, false, false] rfl rfl (any_of HT_.out (by kernel_rfl)) (fun _ _ _ h => h) (Or.inl ⟨by rfl, ?_⟩) ?_ ?_
                rotate_left
                · intro w'
                  go_simp
                  with_reducible rfl
                rotate_left
                · simp only [Act.put, List.setIfInBounds_toArray, List.set_cons_zero, List.set_cons_succ, i64_w, i32_w]
                  rfl
                refine pure_ (i := 6) (N := some 23) (v := ?_) (a' := ?_) #[true, true, true, false, true, true, true, false, false, false] rfl rfl (any_of HT_.out (by kernel_rfl)) (fun _ _ _ h => h) (Or.inl ⟨by rfl, ?_⟩) ?_ ?_
                rotate_left
                · intro w'
                  go_simp
                  with_reducible rfl
                rotate_left
                · simp only [Act.put, List.setIfInBounds_toArray, List.set_cons_zero, List.set_cons_succ, i64_w, i32_w]
                  rfl
                refine take_ (i := 3) (N := some 20) (v := ?_) (a' := ?_) #[true, true, true, true, true, true, true, false, false, false] rfl rfl (take_ofW HT_.out HW_.out (by kernel_rfl)) (fun _ _ _ h => h) (Or.inl ⟨by rfl, ?_⟩) hHeld ?_ ?_
                rotate_left
                · rintro w' ⟨s0, s1, s2, s3, s4, s5⟩
                  go_simp
                  with_reducible rfl
                rotate_left
                · simp only [Act.put, List.setIfInBounds_toArray, List.set_cons_zero, List.set_cons_succ, i64_w, i32_w]
                  rfl
                refine take_ (i := 7) (N := some 24) (v := ?_) (a' := ?_) #[true, true, true, true, true, true, true, true, false, false] rfl rfl (take_ofW HT_.out HW_.out (by kernel_rfl)) (fun _ _ _ h => h) (Or.inl ⟨by rfl, ?_⟩) hHeld ?_ ?_
                rotate_left
                · rintro w' ⟨s0, s1, s2, s3, s4, s5⟩
                  go_simp
                  with_reducible rfl
                rotate_left
                · simp only [Act.put, List.setIfInBounds_toArray, List.set_cons_zero, List.set_cons_succ, i64_w, i32_w]
                  rfl
                refine one_ (i := 8) (N := some 25) #[true, true, true, true, true, true, true, true, true, false] rfl rfl (one_of HT_.out (by kernel_rfl)) (by decide) (fun K hK => ?_)
                refine goes_ Try.func31 (by kernel_rfl) rfl #[.agg #[.int .i64 ((rd_T28 l0 x5_1).f0), .int .i64 ((rd_T28 l0 x5_1).f1), .bool ((rd_T28 l0 x5_1).f2)], .agg #[.int .i64 ((rd_T28 l1 x5_1).f0), .int .i64 ((rd_T28 l1 x5_1).f1), .bool ((rd_T28 l1 x5_1).f2)]] (by rfl) rfl rfl (by (try simp only [List.map_toArray, List.map_cons, List.map_nil]); first | done | rfl | (simp only [List.length_drop, List.length_take]; rfl)) ?_
                with_reducible refine (laws_eqPoint.calls ((rd_T28 l0 x5_1).f0) ((rd_T28 l0 x5_1).f1) ((rd_T28 l0 x5_1).f2) ((rd_T28 l1 x5_1).f0) ((rd_T28 l1 x5_1).f1) ((rd_T28 l1 x5_1).f2) true _ A7.out).mono ?_
                rintro e w13 ⟨rfl, hb⟩
                refine ⟨_, rfl, ?_⟩
                have n0_ := Aside0.mk (below_step (by repeat (first | (with_reducible first | exact HB.out | apply below_alloc | apply pw_below_drewN | apply below_drew1) | exact HB.out)) hb)
                clear HB
                have HB := n0_
                clear n0_
                (try clear hb)
                (try clear hb2)
                (try clear hk)
                (try clear hi)
                refine hK.out _ _ ⟨((HB.out.cell (World.block_lt_of_cell? w _ hw340_0)).trans hw340_0), ((HB.out.cell (World.block_lt_of_cell? w _ hw340_1)).trans hw340_1), ((HB.out.cell (World.block_lt_of_cell? w _ hw340_2)).trans hw340_2), ((HB.out.cell (World.block_lt_of_cell? w _ hw341_0)).trans hw341_0), ((HB.out.cell (World.block_lt_of_cell? w _ hw341_1)).trans hw341_1), ((HB.out.cell (World.block_lt_of_cell? w _ hw341_2)).trans hw341_2)⟩ (fun hHeld => ?_)
                clear hK K
                refine norm_ (a' := ?_) ?_ ?_
                rotate_left
                · show Act.put _ (some 25) _ = _
                  simp only [Act.put, List.setIfInBounds_toArray, List.set_cons_zero, List.set_cons_succ, i64_w, i32_w]
                  rfl
                refine pure_ (i := 9) (N := some 26) (v := ?_) (a' := ?_) #[true, true, true, true, true, true, true, true, true, true] rfl rfl (any_of HT_.out (by kernel_rfl)) (fun _ _ _ h => h) (Or.inl ⟨by rfl, ?_⟩) ?_ ?_
                rotate_left
                · intro w'
                  go_simp
                  with_reducible rfl
                rotate_left
                · simp only [Act.put, List.setIfInBounds_toArray, List.set_cons_zero, List.set_cons_succ, i64_w, i32_w]
                  rfl
                refine done_ (done_of HT_.out (by kernel_rfl)) ?_
                try go_wp2
                go_roundg k1
                case measure => have := HK1.out; omega
                case rel => exact ⟨(wrap64 (x5_1 + 1)), (by first | rfl | (simp; done) | (simp [*]; done)), H', ⟨by have := HK1.out; omega⟩, ⟨by repeat (first | (with_reducible first | exact HB.out | apply below_alloc | apply pw_below_drewN | apply below_drew1) | exact HB.out)⟩⟩
              · replace c11 := Bool.eq_false_iff.mpr c11
                subst c11
                have H1 : (some false) = some r := by rw [if_neg (show ¬ (false = true) by decide)] at H; exact H
                clear H
                have H := H1
                clear H1
                obtain rfl := Option.some.inj H
                try go_wp2
                have n0_ := Aside0.mk (below_drew1 HB.out)
                clear HB
                have HB := n0_
                clear n0_
                have p340 : 0 ≤ (x5_1 : Int) := of_decide_eq_true (by first | (with_reducible assumption) | assumption)
                have q340 : x5_1 < (l0.length : Int) := of_decide_eq_true (by first | (with_reducible assumption) | assumption)
                obtain ⟨ad340, e340, hx340_0, hx340_1, hx340_2⟩ := at_T28 HR0.out x5_1 p340 q340
                have hw340_2 := hx340_2
                have hw340_1 := hx340_1
                have hw340_0 := hx340_0
                cases e340
                replace hx340_0 := (HB.out.cell (World.block_lt_of_cell? w _ hx340_0)).trans hx340_0
                replace hx340_1 := (HB.out.cell (World.block_lt_of_cell? w _ hx340_1)).trans hx340_1
                replace hx340_2 := (HB.out.cell (World.block_lt_of_cell? w _ hx340_2)).trans hx340_2
                (try simp only [Go.IntWalk.toNatUp] at hx340_0)
                (try simp only [Go.IntWalk.toNatUp] at hx340_1)
                (try simp only [Go.IntWalk.toNatUp] at hx340_2)
                replace p340 := eq_true p340
                replace q340 := eq_true q340
                have p341 : 0 ≤ (x5_1 : Int) := of_decide_eq_true (by first | (with_reducible assumption) | assumption)
                have q341 : x5_1 < (l1.length : Int) := of_decide_eq_true (by first | (with_reducible assumption) | assumption)
                obtain ⟨ad341, e341, hx341_0, hx341_1, hx341_2⟩ := at_T28 HR1.out x5_1 p341 q341
                have hw341_2 := hx341_2
                have hw341_1 := hx341_1
                have hw341_0 := hx341_0
                cases e341
                replace hx341_0 := (HB.out.cell (World.block_lt_of_cell? w _ hx341_0)).trans hx341_0
                replace hx341_1 := (HB.out.cell (World.block_lt_of_cell? w _ hx341_1)).trans hx341_1
                replace hx341_2 := (HB.out.cell (World.block_lt_of_cell? w _ hx341_2)).trans hx341_2
                (try simp only [Go.IntWalk.toNatUp] at hx341_0)
                (try simp only [Go.IntWalk.toNatUp] at hx341_1)
                (try simp only [Go.IntWalk.toNatUp] at hx341_2)
                replace p341 := eq_true p341
                replace q341 := eq_true q341
                refine start_ (n := 10) (S := fun w' => w'.cell? (ad340.add ((x5_1).toNat * 3)) = some (.int .i64 ((rd_T28 l0 x5_1).f0)) ∧ w'.cell? ⟨(ad340.add ((x5_1).toNat * 3)).block, (ad340.add ((x5_1).toNat * 3)).off + 1, none⟩ = some (.int .i64 ((rd_T28 l0 x5_1).f1)) ∧ w'.cell? ⟨(ad340.add ((x5_1).toNat * 3)).block, (ad340.add ((x5_1).toNat * 3)).off + 2, none⟩ = some (.bool ((rd_T28 l0 x5_1).f2)) ∧ w'.cell? (ad341.add ((x5_1).toNat * 3)) = some (.int .i64 ((rd_T28 l1 x5_1).f0)) ∧ w'.cell? ⟨(ad341.add ((x5_1).toNat * 3)).block, (ad341.add ((x5_1).toNat * 3)).off + 1, none⟩ = some (.int .i64 ((rd_T28 l1 x5_1).f1)) ∧ w'.cell? ⟨(ad341.add ((x5_1).toNat * 3)).block, (ad341.add ((x5_1).toNat * 3)).off + 2, none⟩ = some (.bool ((rd_T28 l1 x5_1).f2))) (ds := []) #[false, false, false, false, false, false, false, false, false, false] (by kernel_rfl) rfl rfl ⟨((HB.out.cell (World.block_lt_of_cell? w _ hw340_0)).trans hw340_0), ((HB.out.cell (World.block_lt_of_cell? w _ hw340_1)).trans hw340_1), ((HB.out.cell (World.block_lt_of_cell? w _ hw340_2)).trans hw340_2), ((HB.out.cell (World.block_lt_of_cell? w _ hw341_0)).trans hw341_0), ((HB.out.cell (World.block_lt_of_cell? w _ hw341_1)).trans hw341_1), ((HB.out.cell (World.block_lt_of_cell? w _ hw341_2)).trans hw341_2)⟩ (fun hHeld => ?_); refine with_tabW laws_eqPointS.tab6 laws_eqPointS.bits6 (fun HT_ HW_ => ?_)
                generalize wr.drew = w14 at HB hx340_0 hx340_1 hx340_2 hx341_0 hx341_1 hx341_2 hHeld ⊢
                refine pure_ (i := 0) (N := some 17) (v := ?_) (a' := ?_) #[true, false, false, false, false, false, false, false, false, false] rfl rfl (any_of HT_.out (by kernel_rfl)) (fun _ _ _ h => h) (Or.inl ⟨by rfl, ?_⟩) ?_ ?_
                rotate_left
                · intro w'
                  go_simp
                  with_reducible rfl
                rotate_left
                · simp only [Act.put, List.setIfInBounds_toArray, List.set_cons_zero, List.set_cons_succ, i64_w, i32_w]
                  rfl
                refine pure_ (i := 1) (N := some 18) (v := ?_) (a' := ?_) #[true, true, false, false, false, false, false, false, false, false] rfl rfl (any_of HT_.out (by kernel_rfl)) (fun _ _ _ h => h) (Or.inl ⟨by rfl, ?_⟩) ?_ ?_
                rotate_left
                · intro w'
                  go_simp
                  with_reducible rfl
                rotate_left
                · simp only [Act.put, List.setIfInBounds_toArray, List.set_cons_zero, List.set_cons_succ, i64_w, i32_w]
                  rfl
                refine pure_ (i := 2) (N := some 19) (v := ?_) (a' := ?_) #[true, true, true, false, false, false, false, false, false, false] rfl rfl (any_of HT_.out (by kernel_rfl)) (fun _ _ _ h => h) (Or.inl ⟨by rfl, ?_⟩) ?_ ?_
                rotate_left
                · intro w'
                  go_simp
                  with_reducible rfl
                rotate_left
                · simp only [Act.put, List.setIfInBounds_toArray, List.set_cons_zero, List.set_cons_succ, i64_w, i32_w]
                  rfl
                refine pure_ (i := 4) (N := some 21) (v := ?_) (a' := ?_) #[true, true, true, false, true, false, false, false, false, false] rfl rfl (any_of HT_.out (by kernel_rfl)) (fun _ _ _ h => h) (Or.inl ⟨by rfl, ?_⟩) ?_ ?_
                rotate_left
                · intro w'
                  go_simp
                  with_reducible rfl
                rotate_left
                · simp only [Act.put, List.setIfInBounds_toArray, List.set_cons_zero, List.set_cons_succ, i64_w, i32_w]
                  rfl
                refine pure_ (i := 5) (N := some 22) (v := ?_) (a' := ?_) #[true, true, true, false, true, true, false, false, false, false] rfl rfl (any_of HT_.out (by kernel_rfl)) (fun _ _ _ h => h) (Or.inl ⟨by rfl, ?_⟩) ?_ ?_
                rotate_left
                · intro w'
                  go_simp
                  with_reducible rfl
                rotate_left
                · simp only [Act.put, List.setIfInBounds_toArray, List.set_cons_zero, List.set_cons_succ, i64_w, i32_w]
                  rfl
                refine pure_ (i := 6) (N := some 23) (v := ?_) (a' := ?_) #[true, true, true, false, true, true, true, false, false, false] rfl rfl (any_of HT_.out (by kernel_rfl)) (fun _ _ _ h => h) (Or.inl ⟨by rfl, ?_⟩) ?_ ?_
                rotate_left
                · intro w'
                  go_simp
                  with_reducible rfl
                rotate_left
                · simp only [Act.put, List.setIfInBounds_toArray, List.set_cons_zero, List.set_cons_succ, i64_w, i32_w]
                  rfl
                refine take_ (i := 3) (N := some 20) (v := ?_) (a' := ?_) #[true, true, true, true, true, true, true, false, false, false] rfl rfl (take_ofW HT_.out HW_.out (by kernel_rfl)) (fun _ _ _ h => h) (Or.inl ⟨by rfl, ?_⟩) hHeld ?_ ?_
                rotate_left
                · rintro w' ⟨s0, s1, s2, s3, s4, s5⟩
                  go_simp
                  with_reducible rfl
                rotate_left
                · simp only [Act.put, List.setIfInBounds_toArray, List.set_cons_zero, List.set_cons_succ, i64_w, i32_w]
                  rfl
                refine take_ (i := 7) (N := some 24) (v := ?_) (a' := ?_) #[true, true, true, true, true, true, true, true, false, false] rfl rfl (take_ofW HT_.out HW_.out (by kernel_rfl)) (fun _ _ _ h => h) (Or.inl ⟨by rfl, ?_⟩) hHeld ?_ ?_
                rotate_left
                · rintro w' ⟨s0, s1, s2, s3, s4, s5⟩
                  go_simp
                  with_reducible rfl
                rotate_left
                · simp only [Act.put, List.setIfInBounds_toArray, List.set_cons_zero, List.set_cons_succ, i64_w, i32_w]
                  rfl
                refine one_ (i := 8) (N := some 25) #[true, true, true, true, true, true, true, true, true, false] rfl rfl (one_of HT_.out (by kernel_rfl)) (by decide) (fun K hK => ?_)
                refine goes_ Try.func31 (by kernel_rfl) rfl #[.agg #[.int .i64 ((rd_T28 l0 x5_1).f0), .int .i64 ((rd_T28 l0 x5_1).f1), .bool ((rd_T28 l0 x5_1).f2)], .agg #[.int .i64 ((rd_T28 l1 x5_1).f0), .int .i64 ((rd_T28 l1 x5_1).f1), .bool ((rd_T28 l1 x5_1).f2)]] (by rfl) rfl rfl (by (try simp only [List.map_toArray, List.map_cons, List.map_nil]); first | done | rfl | (simp only [List.length_drop, List.length_take]; rfl)) ?_
                with_reducible refine (laws_eqPoint.calls ((rd_T28 l0 x5_1).f0) ((rd_T28 l0 x5_1).f1) ((rd_T28 l0 x5_1).f2) ((rd_T28 l1 x5_1).f0) ((rd_T28 l1 x5_1).f1) ((rd_T28 l1 x5_1).f2) false _ A7.out).mono ?_
                rintro e w15 ⟨rfl, hb⟩
                refine ⟨_, rfl, ?_⟩
                have n0_ := Aside0.mk (below_step (by repeat (first | (with_reducible first | exact HB.out | apply below_alloc | apply pw_below_drewN | apply below_drew1) | exact HB.out)) hb)
                clear HB
                have HB := n0_
                clear n0_
                (try clear hb)
                (try clear hb2)
                (try clear hk)
                (try clear hi)
                refine hK.out _ _ ⟨((HB.out.cell (World.block_lt_of_cell? w _ hw340_0)).trans hw340_0), ((HB.out.cell (World.block_lt_of_cell? w _ hw340_1)).trans hw340_1), ((HB.out.cell (World.block_lt_of_cell? w _ hw340_2)).trans hw340_2), ((HB.out.cell (World.block_lt_of_cell? w _ hw341_0)).trans hw341_0), ((HB.out.cell (World.block_lt_of_cell? w _ hw341_1)).trans hw341_1), ((HB.out.cell (World.block_lt_of_cell? w _ hw341_2)).trans hw341_2)⟩ (fun hHeld => ?_)
                clear hK K
                refine norm_ (a' := ?_) ?_ ?_
                rotate_left
                · show Act.put _ (some 25) _ = _
                  simp only [Act.put, List.setIfInBounds_toArray, List.set_cons_zero, List.set_cons_succ, i64_w, i32_w]
                  rfl
                refine pure_ (i := 9) (N := some 26) (v := ?_) (a' := ?_) #[true, true, true, true, true, true, true, true, true, true] rfl rfl (any_of HT_.out (by kernel_rfl)) (fun _ _ _ h => h) (Or.inl ⟨by rfl, ?_⟩) ?_ ?_
                rotate_left
                · intro w'
                  go_simp
                  with_reducible rfl
                rotate_left
                · simp only [Act.put, List.setIfInBounds_toArray, List.set_cons_zero, List.set_cons_succ, i64_w, i32_w]
                  rfl
                refine done_ (done_of HT_.out (by kernel_rfl)) ?_
                try go_wp2
                go_ret
                exact ⟨by first | rfl | (simp [errW_none, errW_some] <;> rfl) | (simp [*, errW_none, errW_some] <;> rfl), by repeat (first | (with_reducible first | exact HB.out | apply below_alloc | apply pw_below_drewN | apply below_drew1) | exact HB.out)⟩
            · rw [if_neg c6] at H
              exact absurd H (by simp)
          · rw [if_neg c5] at H
            exact absurd H (by simp)
        · rw [if_neg c4] at H
          have c4b0 : decide (x5_1 < (l0.length : Int)) = false := decide_eq_false c4
          clear c4
          obtain rfl := Option.some.inj H
          go_wp2
          go_ret
          exact ⟨by first | rfl | (simp [errW_none, errW_some] <;> rfl) | (simp [*, errW_none, errW_some] <;> rfl), by repeat (first | (with_reducible first | exact HB.out | apply below_alloc | apply pw_below_drewN | apply below_drew1) | exact HB.out)⟩
  · rw [if_neg c3] at H
    have c3b0 : ((l0.length : Int) == (l1.length : Int)) = false := beq_eq_false_iff_ne.mpr c3
    have c3b1 : ((l0.length : Int) != (l1.length : Int)) = true := bne_iff_ne.mpr c3
    have c3b2 : (l0.length == l1.length) = false := by first | simpa using c3 | (simp at c3 ⊢; omega)
    obtain rfl := Option.some.inj H
    go_enter Try.func75, Try.ntmps75
    go_wp2
    go_ret
    exact ⟨by first | rfl | (simp [errW_none, errW_some] <;> rfl) | (simp [*, errW_none, errW_some] <;> rfl), by repeat (first | (with_reducible first | exact HB.out | apply below_alloc | apply pw_below_drewN | apply below_drew1) | exact HB.out)⟩

/-! ### laws_eqKeys: function 32 -/
def laws_eqKeys.f (k : Nat) (a0_0 : Int) (a0_1 : Int) (a0_2 : Bool) (a0_3 : Int) (a0_4 : Int) (a0_5 : Bool) (a0_6 : Int) (a0_7 : Int) (a0_8 : Bool) (a0_9 : Int) (a0_10 : Int) (a0_11 : Bool) (l0_12 : List (S28)) (a1_0 : Int) (a1_1 : Int) (a1_2 : Bool) (a1_3 : Int) (a1_4 : Int) (a1_5 : Bool) (a1_6 : Int) (a1_7 : Int) (a1_8 : Bool) (a1_9 : Int) (a1_10 : Int) (a1_11 : Bool) (l1_12 : List (S28)) : Option (Bool) := (laws_eqPoint.f a0_0 a0_1 a0_2 a1_0 a1_1 a1_2).bind fun t345 => (if t345 = true then ((laws_eqPoint.f a0_3 a0_4 a0_5 a1_3 a1_4 a1_5).bind fun t346 => (if t346 = true then ((laws_eqPoint.f a0_6 a0_7 a0_8 a1_6 a1_7 a1_8).bind fun t347 => (if t347 = true then ((laws_eqPoint.f a0_9 a0_10 a0_11 a1_9 a1_10 a1_11).bind fun t348 => (if t348 = true then ((laws_eqPointS.f k l0_12 l1_12).bind fun t349 => (if t349 = true then (some true) else (some false))) else (some false))) else (some false))) else (some false))) else (some false))
theorem laws_eqKeys.mono : ∀ a0 a1 a2 a3 a4 a5 a6 a7 a8 a9 a10 a11 a12 a13 a14 a15 a16 a17 a18 a19 a20 a21 a22 a23 a24 a25 k, LeO (laws_eqKeys.f k a0 a1 a2 a3 a4 a5 a6 a7 a8 a9 a10 a11 a12 a13 a14 a15 a16 a17 a18 a19 a20 a21 a22 a23 a24 a25) (laws_eqKeys.f (k + 1) a0 a1 a2 a3 a4 a5 a6 a7 a8 a9 a10 a11 a12 a13 a14 a15 a16 a17 a18 a19 a20 a21 a22 a23 a24 a25) := by
  intro a0 a1 a2 a3 a4 a5 a6 a7 a8 a9 a10 a11 a12 a13 a14 a15 a16 a17 a18 a19 a20 a21 a22 a23 a24 a25 k
  unfold laws_eqKeys.f
  repeat' first
      | (with_reducible exact laws_eqPointS.mono _ _ _)
      | (with_reducible exact LeO.refl _)
      | (with_reducible exact LeO.none _)
      | (with_reducible refine LeO.ite ?_ ?_)
      | (with_reducible refine LeO.bind ?_ (fun _ => ?_))
      | exact laws_eqPointS.mono _ _ _
      | exact LeO.none _
      | refine LeO.ite ?_ ?_
      | refine LeO.bind ?_ (fun _ => ?_)
set_option maxHeartbeats 8000000 in
set_option maxRecDepth 100000 in
theorem laws_eqKeys.calls (k : Nat) (a0_0 : Int) (a0_1 : Int) (a0_2 : Bool) (a0_3 : Int) (a0_4 : Int) (a0_5 : Bool) (a0_6 : Int) (a0_7 : Int) (a0_8 : Bool) (a0_9 : Int) (a0_10 : Int) (a0_11 : Bool) (A0_12 : Option Addr) (c0_12 : Nat) (l0_12 : List (S28)) (a1_0 : Int) (a1_1 : Int) (a1_2 : Bool) (a1_3 : Int) (a1_4 : Int) (a1_5 : Bool) (a1_6 : Int) (a1_7 : Int) (a1_8 : Bool) (a1_9 : Int) (a1_10 : Int) (a1_11 : Bool) (A1_12 : Option Addr) (c1_12 : Nat) (l1_12 : List (S28)) (r : Bool) (w : World) (hr0_12 : Kd.C k28 w A0_12 l0_12.length l0_12) (hc0_12 : l0_12.length ≤ c0_12) (hr1_12 : Kd.C k28 w A1_12 l1_12.length l1_12) (hc1_12 : l1_12.length ≤ c1_12) (h : laws_eqKeys.f k a0_0 a0_1 a0_2 a0_3 a0_4 a0_5 a0_6 a0_7 a0_8 a0_9 a0_10 a0_11 l0_12 a1_0 a1_1 a1_2 a1_3 a1_4 a1_5 a1_6 a1_7 a1_8 a1_9 a1_10 a1_11 l1_12 = some r) :
    Calls Try.prog 32 #[.agg #[.int .i64 a0_0, .int .i64 a0_1, .bool a0_2, .int .i64 a0_3, .int .i64 a0_4, .bool a0_5, .int .i64 a0_6, .int .i64 a0_7, .bool a0_8, .int .i64 a0_9, .int .i64 a0_10, .bool a0_11, .slice A0_12 l0_12.length c0_12], .agg #[.int .i64 a1_0, .int .i64 a1_1, .bool a1_2, .int .i64 a1_3, .int .i64 a1_4, .bool a1_5, .int .i64 a1_6, .int .i64 a1_7, .bool a1_8, .int .i64 a1_9, .int .i64 a1_10, .bool a1_11, .slice A1_12 l1_12.length c1_12]] w fun e w' => e = .returned (.bool r) ∧ Below w.heap.size w w' := by
  have hu50 := Try.underlying50
  have hu28 := Try.underlying28
  have HR0_12 := Aside0.mk hr0_12
  have HC0_12 := Aside0.mk hc0_12
  clear hr0_12 hc0_12
  have HR1_12 := Aside0.mk hr1_12
  have HC1_12 := Aside0.mk hc1_12
  clear hr1_12 hc1_12
  have HB := Aside0.mk (Below.refl w.heap.size w)
  have H : ((laws_eqPoint.f a0_0 a0_1 a0_2 a1_0 a1_1 a1_2).bind fun t345 => (if t345 = true then ((laws_eqPoint.f a0_3 a0_4 a0_5 a1_3 a1_4 a1_5).bind fun t346 => (if t346 = true then ((laws_eqPoint.f a0_6 a0_7 a0_8 a1_6 a1_7 a1_8).bind fun t347 => (if t347 = true then ((laws_eqPoint.f a0_9 a0_10 a0_11 a1_9 a1_10 a1_11).bind fun t348 => (if t348 = true then ((laws_eqPointS.f k l0_12 l1_12).bind fun t349 => (if t349 = true then (some true) else (some false))) else (some false))) else (some false))) else (some false))) else (some false))) = some r := h
  clear h
  replace H := Option.bind_eq_some_iff.mp H
  obtain ⟨t345, A30, H⟩ := H
  replace H : (if t345 = true then ((laws_eqPoint.f a0_3 a0_4 a0_5 a1_3 a1_4 a1_5).bind fun t346 => (if t346 = true then ((laws_eqPoint.f a0_6 a0_7 a0_8 a1_6 a1_7 a1_8).bind fun t347 => (if t347 = true then ((laws_eqPoint.f a0_9 a0_10 a0_11 a1_9 a1_10 a1_11).bind fun t348 => (if t348 = true then ((laws_eqPointS.f k l0_12 l1_12).bind fun t349 => (if t349 = true then (some true) else (some false))) else (some false))) else (some false))) else (some false))) else (some false)) = some r := H
  have A3 := Aside0.mk A30
  clear A30
  have HQ4 := Aside0.mk H
  clear H
  go_enter Try.func32, Try.ntmps32
  repeat' (first | (go_big_may; (first | ((with_reducible refine gate_dst (N := 2) rfl ?_); refine box_event ?hg (N := 2) ?hd (cs := #[.int .i64 a0_0, .int .i64 a0_1, .bool a0_2, .int .i64 a0_3, .int .i64 a0_4, .bool a0_5, .int .i64 a0_6, .int .i64 a0_7, .bool a0_8, .int .i64 a0_9, .int .i64 a0_10, .bool a0_11, .slice A0_12 l0_12.length c0_12]) (t := 50) ?hr ?_; (case hd => rfl); (case hg => rfl); (case hr => first | (go_simp; done) | (go_simp; rfl)); intro gb343 hg w5 hbox hb; have n0_ := Aside0.mk (below_step (by repeat (first | (with_reducible first | exact HB.out | apply below_alloc | apply pw_below_drewN | apply below_drew1) | exact HB.out)) hb); have n1_ := Aside0.mk (hbox); have n2_ := Aside0.mk ((by rw [hg]; exact (below_size (by repeat (first | (with_reducible first | exact HB.out | apply below_alloc | apply pw_below_drewN | apply below_drew1) | exact HB.out))) : w.heap.size ≤ gb343)); have n3_ := Aside0.mk ((by rw [hg]; exact (below_size (by repeat (first | (with_reducible first | exact HB.out | apply below_alloc | apply pw_below_drewN | apply below_drew1) | exact HB.out))) : w.heap.size ≤ gb343)); clear HB; have HB := n0_; have BK343 := n1_; have GW343 := n2_; have GE343 := n3_; clear n0_ n1_ n2_ n3_; clear hb hbox hg) | ((with_reducible refine gate_dst (N := 3) rfl ?_); refine box_event ?hg (N := 3) ?hd (cs := #[.int .i64 a1_0, .int .i64 a1_1, .bool a1_2, .int .i64 a1_3, .int .i64 a1_4, .bool a1_5, .int .i64 a1_6, .int .i64 a1_7, .bool a1_8, .int .i64 a1_9, .int .i64 a1_10, .bool a1_11, .slice A1_12 l1_12.length c1_12]) (t := 50) ?hr ?_; (case hd => rfl); (case hg => rfl); (case hr => first | (go_simp; done) | (go_simp; rfl)); intro gb344 hg w6 hbox hb; have n0_ := Aside0.mk (blk_below (g := gb343) (o := .cells #[.int .i64 a0_0, .int .i64 a0_1, .bool a0_2, .int .i64 a0_3, .int .i64 a0_4, .bool a0_5, .int .i64 a0_6, .int .i64 a0_7, .bool a0_8, .int .i64 a0_9, .int .i64 a0_10, .bool a0_11, .slice A0_12 l0_12.length c0_12] 50 (0, 0)) (by (with_reducible repeat (first | refine blk_drewN ?_ _ | refine blk_drew ?_ | refine blk_alloc ?_ _)); exact BK343.out) hb); have n1_ := Aside0.mk (below_step (by repeat (first | (with_reducible first | exact HB.out | apply below_alloc | apply pw_below_drewN | apply below_drew1 | refine below_set ?_ GE343.out) | exact HB.out)) hb); have n2_ := Aside0.mk (hbox); have n3_ := Aside0.mk ((by rw [hg]; exact (below_size (by repeat (first | (with_reducible first | exact HB.out | apply below_alloc | apply pw_below_drewN | apply below_drew1 | refine below_set ?_ GE343.out) | exact HB.out))) : w.heap.size ≤ gb344)); have n4_ := Aside0.mk ((by rw [hg]; exact (below_size (by repeat (first | (with_reducible first | exact HB.out | apply below_alloc | apply pw_below_drewN | apply below_drew1 | refine below_set ?_ GE343.out) | exact HB.out))) : w.heap.size ≤ gb344)); have n5_ := Aside0.mk ((by rw [hg]; exact Nat.ne_of_lt (blk_lt (g := gb343) (o := .cells #[.int .i64 a0_0, .int .i64 a0_1, .bool a0_2, .int .i64 a0_3, .int .i64 a0_4, .bool a0_5, .int .i64 a0_6, .int .i64 a0_7, .bool a0_8, .int .i64 a0_9, .int .i64 a0_10, .bool a0_11, .slice A0_12 l0_12.length c0_12] 50 (0, 0)) (by (with_reducible repeat (first | refine blk_drewN ?_ _ | refine blk_drew ?_ | refine blk_alloc ?_ _)); exact BK343.out)) : gb343 ≠ gb344)); have n6_ := Aside0.mk ((by rw [hg]; exact Nat.ne_of_gt (blk_lt (g := gb343) (o := .cells #[.int .i64 a0_0, .int .i64 a0_1, .bool a0_2, .int .i64 a0_3, .int .i64 a0_4, .bool a0_5, .int .i64 a0_6, .int .i64 a0_7, .bool a0_8, .int .i64 a0_9, .int .i64 a0_10, .bool a0_11, .slice A0_12 l0_12.length c0_12] 50 (0, 0)) (by (with_reducible repeat (first | refine blk_drewN ?_ _ | refine blk_drew ?_ | refine blk_alloc ?_ _)); exact BK343.out)) : gb344 ≠ gb343)); clear BK343; clear HB; have BK343 := n0_; have HB := n1_; have BK344 := n2_; have GW344 := n3_; have GE344 := n4_; have NB343_344 := n5_; have NB344_343 := n6_; clear n0_ n1_ n2_ n3_ n4_ n5_ n6_; clear hb hbox hg; have hnb7 := NB343_344.out; have hnc7 := NB344_343.out; have hcz8_0 : w6.cell? ⟨gb343, 0, none⟩ = some (.int .i64 a0_0) := (blk_cell BK343.out 0).trans rfl; have hcz8_1 : w6.cell? ⟨gb343, 1, none⟩ = some (.int .i64 a0_1) := (blk_cell BK343.out 1).trans rfl; have hcz8_2 : w6.cell? ⟨gb343, 2, none⟩ = some (.bool a0_2) := (blk_cell BK343.out 2).trans rfl; have hcz8_3 : w6.cell? ⟨gb343, 3, none⟩ = some (.int .i64 a0_3) := (blk_cell BK343.out 3).trans rfl; have hcz8_4 : w6.cell? ⟨gb343, 4, none⟩ = some (.int .i64 a0_4) := (blk_cell BK343.out 4).trans rfl; have hcz8_5 : w6.cell? ⟨gb343, 5, none⟩ = some (.bool a0_5) := (blk_cell BK343.out 5).trans rfl; have hcz8_6 : w6.cell? ⟨gb343, 6, none⟩ = some (.int .i64 a0_6) := (blk_cell BK343.out 6).trans rfl; have hcz8_7 : w6.cell? ⟨gb343, 7, none⟩ = some (.int .i64 a0_7) := (blk_cell BK343.out 7).trans rfl; have hcz8_8 : w6.cell? ⟨gb343, 8, none⟩ = some (.bool a0_8) := (blk_cell BK343.out 8).trans rfl; have hcz8_9 : w6.cell? ⟨gb343, 9, none⟩ = some (.int .i64 a0_9) := (blk_cell BK343.out 9).trans rfl; have hcz8_10 : w6.cell? ⟨gb343, 10, none⟩ = some (.int .i64 a0_10) := (blk_cell BK343.out 10).trans rfl; have hcz8_11 : w6.cell? ⟨gb343, 11, none⟩ = some (.bool a0_11) := (blk_cell BK343.out 11).trans rfl; have hcz8_12 : w6.cell? ⟨gb343, 12, none⟩ = some (.slice A0_12 l0_12.length c0_12) := (blk_cell BK343.out 12).trans rfl; have hfz8_0 := blk_frozen BK343.out 0; have hfz8_1 := blk_frozen BK343.out 1; have hfz8_2 := blk_frozen BK343.out 2; have hfz8_3 := blk_frozen BK343.out 3; have hfz8_4 := blk_frozen BK343.out 4; have hfz8_5 := blk_frozen BK343.out 5; have hfz8_6 := blk_frozen BK343.out 6; have hfz8_7 := blk_frozen BK343.out 7; have hfz8_8 := blk_frozen BK343.out 8; have hfz8_9 := blk_frozen BK343.out 9; have hfz8_10 := blk_frozen BK343.out 10; have hfz8_11 := blk_frozen BK343.out 11; have hfz8_12 := blk_frozen BK343.out 12; have hcz9_0 : w6.cell? ⟨gb344, 0, none⟩ = some (.int .i64 a1_0) := (blk_cell BK344.out 0).trans rfl; have hcz9_1 : w6.cell? ⟨gb344, 1, none⟩ = some (.int .i64 a1_1) := (blk_cell BK344.out 1).trans rfl; have hcz9_2 : w6.cell? ⟨gb344, 2, none⟩ = some (.bool a1_2) := (blk_cell BK344.out 2).trans rfl; have hcz9_3 : w6.cell? ⟨gb344, 3, none⟩ = some (.int .i64 a1_3) := (blk_cell BK344.out 3).trans rfl; have hcz9_4 : w6.cell? ⟨gb344, 4, none⟩ = some (.int .i64 a1_4) := (blk_cell BK344.out 4).trans rfl; have hcz9_5 : w6.cell? ⟨gb344, 5, none⟩ = some (.bool a1_5) := (blk_cell BK344.out 5).trans rfl; have hcz9_6 : w6.cell? ⟨gb344, 6, none⟩ = some (.int .i64 a1_6) := (blk_cell BK344.out 6).trans rfl; have hcz9_7 : w6.cell? ⟨gb344, 7, none⟩ = some (.int .i64 a1_7) := (blk_cell BK344.out 7).trans rfl; have hcz9_8 : w6.cell? ⟨gb344, 8, none⟩ = some (.bool a1_8) := (blk_cell BK344.out 8).trans rfl; have hcz9_9 : w6.cell? ⟨gb344, 9, none⟩ = some (.int .i64 a1_9) := (blk_cell BK344.out 9).trans rfl; have hcz9_10 : w6.cell? ⟨gb344, 10, none⟩ = some (.int .i64 a1_10) := (blk_cell BK344.out 10).trans rfl; have hcz9_11 : w6.cell? ⟨gb344, 11, none⟩ = some (.bool a1_11) := (blk_cell BK344.out 11).trans rfl; have hcz9_12 : w6.cell? ⟨gb344, 12, none⟩ = some (.slice A1_12 l1_12.length c1_12) := (blk_cell BK344.out 12).trans rfl; have hfz9_0 := blk_frozen BK344.out 0; have hfz9_1 := blk_frozen BK344.out 1; have hfz9_2 := blk_frozen BK344.out 2; have hfz9_3 := blk_frozen BK344.out 3; have hfz9_4 := blk_frozen BK344.out 4; have hfz9_5 := blk_frozen BK344.out 5; have hfz9_6 := blk_frozen BK344.out 6; have hfz9_7 := blk_frozen BK344.out 7; have hfz9_8 := blk_frozen BK344.out 8; have hfz9_9 := blk_frozen BK344.out 9; have hfz9_10 := blk_frozen BK344.out 10; have hfz9_11 := blk_frozen BK344.out 11; have hfz9_12 := blk_frozen BK344.out 12) | ((with_reducible refine gate_callee (f := 31) rfl ?_); refine goesL_ (some 9) rfl rfl Try.func31 (by kernel_rfl) rfl #[.agg #[.int .i64 a0_0, .int .i64 a0_1, .bool a0_2], .agg #[.int .i64 a1_0, .int .i64 a1_1, .bool a1_2]] rfl (by (try simp only [List.map_toArray, List.map_cons, List.map_nil]); first | done | rfl | (simp only [List.length_drop, List.length_take]; rfl)) ?_; (with_reducible refine (laws_eqPoint.calls a0_0 a0_1 a0_2 a1_0 a1_1 a1_2 t345 _ A3.out).mono ?_); rintro e w10 ⟨rfl, hb⟩; refine ⟨_, rfl, ?_⟩; have n0_ := Aside0.mk (blk_below (g := gb343) (o := .cells #[.int .i64 a0_0, .int .i64 a0_1, .bool a0_2, .int .i64 a0_3, .int .i64 a0_4, .bool a0_5, .int .i64 a0_6, .int .i64 a0_7, .bool a0_8, .int .i64 a0_9, .int .i64 a0_10, .bool a0_11, .slice A0_12 l0_12.length c0_12] 50 (0, 0)) (by (with_reducible repeat (first | refine blk_drewN ?_ _ | refine blk_drew ?_ | refine blk_alloc ?_ _)); exact BK343.out) hb); have n1_ := Aside0.mk (blk_below (g := gb344) (o := .cells #[.int .i64 a1_0, .int .i64 a1_1, .bool a1_2, .int .i64 a1_3, .int .i64 a1_4, .bool a1_5, .int .i64 a1_6, .int .i64 a1_7, .bool a1_8, .int .i64 a1_9, .int .i64 a1_10, .bool a1_11, .slice A1_12 l1_12.length c1_12] 50 (0, 0)) (by (with_reducible repeat (first | refine blk_drewN ?_ _ | refine blk_drew ?_ | refine blk_alloc ?_ _)); exact BK344.out) hb); have n2_ := Aside0.mk (below_step (by repeat (first | (with_reducible first | exact HB.out | apply below_alloc | apply pw_below_drewN | apply below_drew1 | refine below_set ?_ GE343.out | refine below_set ?_ GE344.out) | exact HB.out)) hb); clear BK343; clear BK344; clear HB; have BK343 := n0_; have BK344 := n1_; have HB := n2_; clear n0_ n1_ n2_; (try clear hb); (try clear hb2); (try clear hk); (try clear hi)))) | go_values | go_skip | go_guarded | ((with_reducible refine wp_cond_true ?_ ?_); (focus rfl)) | ((with_reducible refine wp_cond_false ?_ ?_); (focus rfl)) | ((fail_if_success (with_reducible apply wp_cond_split)); (first | go_step | go_upon | go_back)) | dsimp only)
  have H := HQ4.out
  clear HQ4
  by_cases c11 : t345 = true
  · subst c11
    have H1 : ((laws_eqPoint.f a0_3 a0_4 a0_5 a1_3 a1_4 a1_5).bind fun t346 => (if t346 = true then ((laws_eqPoint.f a0_6 a0_7 a0_8 a1_6 a1_7 a1_8).bind fun t347 => (if t347 = true then ((laws_eqPoint.f a0_9 a0_10 a0_11 a1_9 a1_10 a1_11).bind fun t348 => (if t348 = true then ((laws_eqPointS.f k l0_12 l1_12).bind fun t349 => (if t349 = true then (some true) else (some false))) else (some false))) else (some false))) else (some false))) = some r := by rw [if_pos rfl] at H; exact H
    clear H
    have H := H1
    clear H1
    replace H := Option.bind_eq_some_iff.mp H
    obtain ⟨t346, A120, H⟩ := H
    replace H : (if t346 = true then ((laws_eqPoint.f a0_6 a0_7 a0_8 a1_6 a1_7 a1_8).bind fun t347 => (if t347 = true then ((laws_eqPoint.f a0_9 a0_10 a0_11 a1_9 a1_10 a1_11).bind fun t348 => (if t348 = true then ((laws_eqPointS.f k l0_12 l1_12).bind fun t349 => (if t349 = true then (some true) else (some false))) else (some false))) else (some false))) else (some false)) = some r := H
    have A12 := Aside0.mk A120
    clear A120
    have HQ13 := Aside0.mk H
    clear H
    have hnb14 := NB343_344.out
    have hnc14 := NB344_343.out
    have hcz15_0 : w10.cell? ⟨gb343, 0, none⟩ = some (.int .i64 a0_0) := (blk_cell BK343.out 0).trans rfl
    have hcz15_1 : w10.cell? ⟨gb343, 1, none⟩ = some (.int .i64 a0_1) := (blk_cell BK343.out 1).trans rfl
    have hcz15_2 : w10.cell? ⟨gb343, 2, none⟩ = some (.bool a0_2) := (blk_cell BK343.out 2).trans rfl
    have hcz15_3 : w10.cell? ⟨gb343, 3, none⟩ = some (.int .i64 a0_3) := (blk_cell BK343.out 3).trans rfl
    have hcz15_4 : w10.cell? ⟨gb343, 4, none⟩ = some (.int .i64 a0_4) := (blk_cell BK343.out 4).trans rfl
    have hcz15_5 : w10.cell? ⟨gb343, 5, none⟩ = some (.bool a0_5) := (blk_cell BK343.out 5).trans rfl
    have hcz15_6 : w10.cell? ⟨gb343, 6, none⟩ = some (.int .i64 a0_6) := (blk_cell BK343.out 6).trans rfl
    have hcz15_7 : w10.cell? ⟨gb343, 7, none⟩ = some (.int .i64 a0_7) := (blk_cell BK343.out 7).trans rfl
    have hcz15_8 : w10.cell? ⟨gb343, 8, none⟩ = some (.bool a0_8) := (blk_cell BK343.out 8).trans rfl
    have hcz15_9 : w10.cell? ⟨gb343, 9, none⟩ = some (.int .i64 a0_9) := (blk_cell BK343.out 9).trans rfl
    have hcz15_10 : w10.cell? ⟨gb343, 10, none⟩ = some (.int .i64 a0_10) := (blk_cell BK343.out 10).trans rfl
    have hcz15_11 : w10.cell? ⟨gb343, 11, none⟩ = some (.bool a0_11) := (blk_cell BK343.out 11).trans rfl
    have hcz15_12 : w10.cell? ⟨gb343, 12, none⟩ = some (.slice A0_12 l0_12.length c0_12) := (blk_cell BK343.out 12).trans rfl
    have hfz15_0 := blk_frozen BK343.out 0
    have hfz15_1 := blk_frozen BK343.out 1
    have hfz15_2 := blk_frozen BK343.out 2
    have hfz15_3 := blk_frozen BK343.out 3
    have hfz15_4 := blk_frozen BK343.out 4
    have hfz15_5 := blk_frozen BK343.out 5
    have hfz15_6 := blk_frozen BK343.out 6
    have hfz15_7 := blk_frozen BK343.out 7
    have hfz15_8 := blk_frozen BK343.out 8
    have hfz15_9 := blk_frozen BK343.out 9
    have hfz15_10 := blk_frozen BK343.out 10
    have hfz15_11 := blk_frozen BK343.out 11
    have hfz15_12 := blk_frozen BK343.out 12
    have hcz16_0 : w10.cell? ⟨gb344, 0, none⟩ = some (.int .i64 a1_0) := (blk_cell BK344.out 0).trans rfl
    have hcz16_1 : w10.cell? ⟨gb344, 1, none⟩ = some (.int .i64 a1_1) := (blk_cell BK344.out 1).trans rfl
    have hcz16_2 : w10.cell? ⟨gb344, 2, none⟩ = some (.bool a1_2) := (blk_cell BK344.out 2).trans rfl
    have hcz16_3 : w10.cell? ⟨gb344, 3, none⟩ = some (.int .i64 a1_3) := (blk_cell BK344.out 3).trans rfl
    have hcz16_4 : w10.cell? ⟨gb344, 4, none⟩ = some (.int .i64 a1_4) := (blk_cell BK344.out 4).trans rfl
    have hcz16_5 : w10.cell? ⟨gb344, 5, none⟩ = some (.bool a1_5) := (blk_cell BK344.out 5).trans rfl
    have hcz16_6 : w10.cell? ⟨gb344, 6, none⟩ = some (.int .i64 a1_6) := (blk_cell BK344.out 6).trans rfl
    have hcz16_7 : w10.cell? ⟨gb344, 7, none⟩ = some (.int .i64 a1_7) := (blk_cell BK344.out 7).trans rfl
    have hcz16_8 : w10.cell? ⟨gb344, 8, none⟩ = some (.bool a1_8) := (blk_cell BK344.out 8).trans rfl
    have hcz16_9 : w10.cell? ⟨gb344, 9, none⟩ = some (.int .i64 a1_9) := (blk_cell BK344.out 9).trans rfl
    have hcz16_10 : w10.cell? ⟨gb344, 10, none⟩ = some (.int .i64 a1_10) := (blk_cell BK344.out 10).trans rfl
    have hcz16_11 : w10.cell? ⟨gb344, 11, none⟩ = some (.bool a1_11) := (blk_cell BK344.out 11).trans rfl
    have hcz16_12 : w10.cell? ⟨gb344, 12, none⟩ = some (.slice A1_12 l1_12.length c1_12) := (blk_cell BK344.out 12).trans rfl
    have hfz16_0 := blk_frozen BK344.out 0
    have hfz16_1 := blk_frozen BK344.out 1
    have hfz16_2 := blk_frozen BK344.out 2
    have hfz16_3 := blk_frozen BK344.out 3
    have hfz16_4 := blk_frozen BK344.out 4
    have hfz16_5 := blk_frozen BK344.out 5
    have hfz16_6 := blk_frozen BK344.out 6
    have hfz16_7 := blk_frozen BK344.out 7
    have hfz16_8 := blk_frozen BK344.out 8
    have hfz16_9 := blk_frozen BK344.out 9
    have hfz16_10 := blk_frozen BK344.out 10
    have hfz16_11 := blk_frozen BK344.out 11
    have hfz16_12 := blk_frozen BK344.out 12
    repeat' (first | (go_big_may; (first | ((with_reducible refine gate_callee (f := 31) rfl ?_); refine goesL_ (some 15) rfl rfl Try.func31 (by kernel_rfl) rfl #[.agg #[.int .i64 a0_3, .int .i64 a0_4, .bool a0_5], .agg #[.int .i64 a1_3, .int .i64 a1_4, .bool a1_5]] rfl (by (try simp only [List.map_toArray, List.map_cons, List.map_nil]); first | done | rfl | (simp only [List.length_drop, List.length_take]; rfl)) ?_; (with_reducible refine (laws_eqPoint.calls a0_3 a0_4 a0_5 a1_3 a1_4 a1_5 t346 _ A12.out).mono ?_); rintro e w17 ⟨rfl, hb⟩; refine ⟨_, rfl, ?_⟩; have n0_ := Aside0.mk (blk_below (g := gb343) (o := .cells #[.int .i64 a0_0, .int .i64 a0_1, .bool a0_2, .int .i64 a0_3, .int .i64 a0_4, .bool a0_5, .int .i64 a0_6, .int .i64 a0_7, .bool a0_8, .int .i64 a0_9, .int .i64 a0_10, .bool a0_11, .slice A0_12 l0_12.length c0_12] 50 (0, 0)) (by (with_reducible repeat (first | refine blk_drewN ?_ _ | refine blk_drew ?_ | refine blk_alloc ?_ _)); exact BK343.out) hb); have n1_ := Aside0.mk (blk_below (g := gb344) (o := .cells #[.int .i64 a1_0, .int .i64 a1_1, .bool a1_2, .int .i64 a1_3, .int .i64 a1_4, .bool a1_5, .int .i64 a1_6, .int .i64 a1_7, .bool a1_8, .int .i64 a1_9, .int .i64 a1_10, .bool a1_11, .slice A1_12 l1_12.length c1_12] 50 (0, 0)) (by (with_reducible repeat (first | refine blk_drewN ?_ _ | refine blk_drew ?_ | refine blk_alloc ?_ _)); exact BK344.out) hb); have n2_ := Aside0.mk (below_step (by repeat (first | (with_reducible first | exact HB.out | apply below_alloc | apply pw_below_drewN | apply below_drew1 | refine below_set ?_ GE343.out | refine below_set ?_ GE344.out) | exact HB.out)) hb); clear BK343; clear BK344; clear HB; have BK343 := n0_; have BK344 := n1_; have HB := n2_; clear n0_ n1_ n2_; (try clear hb); (try clear hb2); (try clear hk); (try clear hi)))) | go_values | go_skip | go_guarded | ((with_reducible refine wp_cond_true ?_ ?_); (focus rfl)) | ((with_reducible refine wp_cond_false ?_ ?_); (focus rfl)) | ((fail_if_success (with_reducible apply wp_cond_split)); (first | go_step | go_upon | go_back)) | dsimp only)
    have H := HQ13.out
    clear HQ13
    by_cases c18 : t346 = true
    · subst c18
      have H1 : ((laws_eqPoint.f a0_6 a0_7 a0_8 a1_6 a1_7 a1_8).bind fun t347 => (if t347 = true then ((laws_eqPoint.f a0_9 a0_10 a0_11 a1_9 a1_10 a1_11).bind fun t348 => (if t348 = true then ((laws_eqPointS.f k l0_12 l1_12).bind fun t349 => (if t349 = true then (some true) else (some false))) else (some false))) else (some false))) = some r := by rw [if_pos rfl] at H; exact H
      clear H
      have H := H1
      clear H1
      replace H := Option.bind_eq_some_iff.mp H
      obtain ⟨t347, A190, H⟩ := H
      replace H : (if t347 = true then ((laws_eqPoint.f a0_9 a0_10 a0_11 a1_9 a1_10 a1_11).bind fun t348 => (if t348 = true then ((laws_eqPointS.f k l0_12 l1_12).bind fun t349 => (if t349 = true then (some true) else (some false))) else (some false))) else (some false)) = some r := H
      have A19 := Aside0.mk A190
      clear A190
      have HQ20 := Aside0.mk H
      clear H
      have hnb21 := NB343_344.out
      have hnc21 := NB344_343.out
      have hcz22_0 : w17.cell? ⟨gb343, 0, none⟩ = some (.int .i64 a0_0) := (blk_cell BK343.out 0).trans rfl
      have hcz22_1 : w17.cell? ⟨gb343, 1, none⟩ = some (.int .i64 a0_1) := (blk_cell BK343.out 1).trans rfl
      have hcz22_2 : w17.cell? ⟨gb343, 2, none⟩ = some (.bool a0_2) := (blk_cell BK343.out 2).trans rfl
      have hcz22_3 : w17.cell? ⟨gb343, 3, none⟩ = some (.int .i64 a0_3) := (blk_cell BK343.out 3).trans rfl
      have hcz22_4 : w17.cell? ⟨gb343, 4, none⟩ = some (.int .i64 a0_4) := (blk_cell BK343.out 4).trans rfl
      have hcz22_5 : w17.cell? ⟨gb343, 5, none⟩ = some (.bool a0_5) := (blk_cell BK343.out 5).trans rfl
      have hcz22_6 : w17.cell? ⟨gb343, 6, none⟩ = some (.int .i64 a0_6) := (blk_cell BK343.out 6).trans rfl
      have hcz22_7 : w17.cell? ⟨gb343, 7, none⟩ = some (.int .i64 a0_7) := (blk_cell BK343.out 7).trans rfl
      have hcz22_8 : w17.cell? ⟨gb343, 8, none⟩ = some (.bool a0_8) := (blk_cell BK343.out 8).trans rfl
      have hcz22_9 : w17.cell? ⟨gb343, 9, none⟩ = some (.int .i64 a0_9) := (blk_cell BK343.out 9).trans rfl
      have hcz22_10 : w17.cell? ⟨gb343, 10, none⟩ = some (.int .i64 a0_10) := (blk_cell BK343.out 10).trans rfl
      have hcz22_11 : w17.cell? ⟨gb343, 11, none⟩ = some (.bool a0_11) := (blk_cell BK343.out 11).trans rfl
      have hcz22_12 : w17.cell? ⟨gb343, 12, none⟩ = some (.slice A0_12 l0_12.length c0_12) := (blk_cell BK343.out 12).trans rfl
      have hfz22_0 := blk_frozen BK343.out 0
      have hfz22_1 := blk_frozen BK343.out 1
      have hfz22_2 := blk_frozen BK343.out 2
      have hfz22_3 := blk_frozen BK343.out 3
      have hfz22_4 := blk_frozen BK343.out 4
      have hfz22_5 := blk_frozen BK343.out 5
      have hfz22_6 := blk_frozen BK343.out 6
      have hfz22_7 := blk_frozen BK343.out 7
      have hfz22_8 := blk_frozen BK343.out 8
      have hfz22_9 := blk_frozen BK343.out 9
      have hfz22_10 := blk_frozen BK343.out 10
      have hfz22_11 := blk_frozen BK343.out 11
      have hfz22_12 := blk_frozen BK343.out 12
      have hcz23_0 : w17.cell? ⟨gb344, 0, none⟩ = some (.int .i64 a1_0) := (blk_cell BK344.out 0).trans rfl
      have hcz23_1 : w17.cell? ⟨gb344, 1, none⟩ = some (.int .i64 a1_1) := (blk_cell BK344.out 1).trans rfl
      have hcz23_2 : w17.cell? ⟨gb344, 2, none⟩ = some (.bool a1_2) := (blk_cell BK344.out 2).trans rfl
      have hcz23_3 : w17.cell? ⟨gb344, 3, none⟩ = some (.int .i64 a1_3) := (blk_cell BK344.out 3).trans rfl
      have hcz23_4 : w17.cell? ⟨gb344, 4, none⟩ = some (.int .i64 a1_4) := (blk_cell BK344.out 4).trans rfl
      have hcz23_5 : w17.cell? ⟨gb344, 5, none⟩ = some (.bool a1_5) := (blk_cell BK344.out 5).trans rfl
      have hcz23_6 : w17.cell? ⟨gb344, 6, none⟩ = some (.int .i64 a1_6) := (blk_cell BK344.out 6).trans rfl
      have hcz23_7 : w17.cell? ⟨gb344, 7, none⟩ = some (.int .i64 a1_7) := (blk_cell BK344.out 7).trans rfl
      have hcz23_8 : w17.cell? ⟨gb344, 8, none⟩ = some (.bool a1_8) := (blk_cell BK344.out 8).trans rfl
      have hcz23_9 : w17.cell? ⟨gb344, 9, none⟩ = some (.int .i64 a1_9) := (blk_cell BK344.out 9).trans rfl
      have hcz23_10 : w17.cell? ⟨gb344, 10, none⟩ = some (.int .i64 a1_10) := (blk_cell BK344.out 10).trans rfl
      have hcz23_11 : w17.cell? ⟨gb344, 11, none⟩ = some (.bool a1_11) := (blk_cell BK344.out 11).trans rfl
      have hcz23_12 : w17.cell? ⟨gb344, 12, none⟩ = some (.slice A1_12 l1_12.length c1_12) := (blk_cell BK344.out 12).trans rfl
      have hfz23_0 := blk_frozen BK344.out 0
      have hfz23_1 := blk_frozen BK344.out 1
      have hfz23_2 := blk_frozen BK344.out 2
      have hfz23_3 := blk_frozen BK344.out 3
      have hfz23_4 := blk_frozen BK344.out 4
      have hfz23_5 := blk_frozen BK344.out 5
      have hfz23_6 := blk_frozen BK344.out 6
      have hfz23_7 := blk_frozen BK344.out 7
      have hfz23_8 := blk_frozen BK344.out 8
      have hfz23_9 := blk_frozen BK344.out 9
      have hfz23_10 := blk_frozen BK344.out 10
      have hfz23_11 := blk_frozen BK344.out 11
      have hfz23_12 := blk_frozen BK344.out 12
      repeat' (first | (go_big_may; (first | ((with_reducible refine gate_callee (f := 31) rfl ?_); refine goesL_ (some 21) rfl rfl Try.func31 (by kernel_rfl) rfl #[.agg #[.int .i64 a0_6, .int .i64 a0_7, .bool a0_8], .agg #[.int .i64 a1_6, .int .i64 a1_7, .bool a1_8]] rfl (by (try simp only [List.map_toArray, List.map_cons, List.map_nil]); first | done | rfl | (simp only [List.length_drop, List.length_take]; rfl)) ?_; (with_reducible refine (laws_eqPoint.calls a0_6 a0_7 a0_8 a1_6 a1_7 a1_8 t347 _ A19.out).mono ?_); rintro e w24 ⟨rfl, hb⟩; refine ⟨_, rfl, ?_⟩; have n0_ := Aside0.mk (blk_below (g := gb343) (o := .cells #[.int .i64 a0_0, .int .i64 a0_1, .bool a0_2, .int .i64 a0_3, .int .i64 a0_4, .bool a0_5, .int .i64 a0_6, .int .i64 a0_7, .bool a0_8, .int .i64 a0_9, .int .i64 a0_10, .bool a0_11, .slice A0_12 l0_12.length c0_12] 50 (0, 0)) (by (with_reducible repeat (first | refine blk_drewN ?_ _ | refine blk_drew ?_ | refine blk_alloc ?_ _)); exact BK343.out) hb); have n1_ := Aside0.mk (blk_below (g := gb344) (o := .cells #[.int .i64 a1_0, .int .i64 a1_1, .bool a1_2, .int .i64 a1_3, .int .i64 a1_4, .bool a1_5, .int .i64 a1_6, .int .i64 a1_7, .bool a1_8, .int .i64 a1_9, .int .i64 a1_10, .bool a1_11, .slice A1_12 l1_12.length c1_12] 50 (0, 0)) (by (with_reducible repeat (first | refine blk_drewN ?_ _ | refine blk_drew ?_ | refine blk_alloc ?_ _)); exact BK344.out) hb); have n2_ := Aside0.mk (below_step (by repeat (first | (with_reducible first | exact HB.out | apply below_alloc | apply pw_below_drewN | apply below_drew1 | refine below_set ?_ GE343.out | refine below_set ?_ GE344.out) | exact HB.out)) hb); clear BK343; clear BK344; clear HB; have BK343 := n0_; have BK344 := n1_; have HB := n2_; clear n0_ n1_ n2_; (try clear hb); (try clear hb2); (try clear hk); (try clear hi)))) | go_values | go_skip | go_guarded | ((with_reducible refine wp_cond_true ?_ ?_); (focus rfl)) | ((with_reducible refine wp_cond_false ?_ ?_); (focus rfl)) | ((fail_if_success (with_reducible apply wp_cond_split)); (first | go_step | go_upon | go_back)) | dsimp only)
      have H := HQ20.out
      clear HQ20
      by_cases c25 : t347 = true
      · subst c25
        have H1 : ((laws_eqPoint.f a0_9 a0_10 a0_11 a1_9 a1_10 a1_11).bind fun t348 => (if t348 = true then ((laws_eqPointS.f k l0_12 l1_12).bind fun t349 => (if t349 = true then (some true) else (some false))) else (some false))) = some r := by rw [if_pos rfl] at H; exact H
        clear H
        have H := H1
        clear H1
        replace H := Option.bind_eq_some_iff.mp H
        obtain ⟨t348, A260, H⟩ := H
        replace H : (if t348 = true then ((laws_eqPointS.f k l0_12 l1_12).bind fun t349 => (if t349 = true then (some true) else (some false))) else (some false)) = some r := H
        have A26 := Aside0.mk A260
        clear A260
        have HQ27 := Aside0.mk H
        clear H
        have hnb28 := NB343_344.out
        have hnc28 := NB344_343.out
        have hcz29_0 : w24.cell? ⟨gb343, 0, none⟩ = some (.int .i64 a0_0) := (blk_cell BK343.out 0).trans rfl
        have hcz29_1 : w24.cell? ⟨gb343, 1, none⟩ = some (.int .i64 a0_1) := (blk_cell BK343.out 1).trans rfl
        have hcz29_2 : w24.cell? ⟨gb343, 2, none⟩ = some (.bool a0_2) := (blk_cell BK343.out 2).trans rfl
        have hcz29_3 : w24.cell? ⟨gb343, 3, none⟩ = some (.int .i64 a0_3) := (blk_cell BK343.out 3).trans rfl
        have hcz29_4 : w24.cell? ⟨gb343, 4, none⟩ = some (.int .i64 a0_4) := (blk_cell BK343.out 4).trans rfl
        have hcz29_5 : w24.cell? ⟨gb343, 5, none⟩ = some (.bool a0_5) := (blk_cell BK343.out 5).trans rfl
        have hcz29_6 : w24.cell? ⟨gb343, 6, none⟩ = some (.int .i64 a0_6) := (blk_cell BK343.out 6).trans rfl
        have hcz29_7 : w24.cell? ⟨gb343, 7, none⟩ = some (.int .i64 a0_7) := (blk_cell BK343.out 7).trans rfl
        have hcz29_8 : w24.cell? ⟨gb343, 8, none⟩ = some (.bool a0_8) := (blk_cell BK343.out 8).trans rfl
        have hcz29_9 : w24.cell? ⟨gb343, 9, none⟩ = some (.int .i64 a0_9) := (blk_cell BK343.out 9).trans rfl
        have hcz29_10 : w24.cell? ⟨gb343, 10, none⟩ = some (.int .i64 a0_10) := (blk_cell BK343.out 10).trans rfl
        have hcz29_11 : w24.cell? ⟨gb343, 11, none⟩ = some (.bool a0_11) := (blk_cell BK343.out 11).trans rfl
        have hcz29_12 : w24.cell? ⟨gb343, 12, none⟩ = some (.slice A0_12 l0_12.length c0_12) := (blk_cell BK343.out 12).trans rfl
        have hfz29_0 := blk_frozen BK343.out 0
        have hfz29_1 := blk_frozen BK343.out 1
        have hfz29_2 := blk_frozen BK343.out 2
        have hfz29_3 := blk_frozen BK343.out 3
        have hfz29_4 := blk_frozen BK343.out 4
        have hfz29_5 := blk_frozen BK343.out 5
        have hfz29_6 := blk_frozen BK343.out 6
        have hfz29_7 := blk_frozen BK343.out 7
        have hfz29_8 := blk_frozen BK343.out 8
        have hfz29_9 := blk_frozen BK343.out 9
        have hfz29_10 := blk_frozen BK343.out 10
        have hfz29_11 := blk_frozen BK343.out 11
        have hfz29_12 := blk_frozen BK343.out 12
        have hcz30_0 : w24.cell? ⟨gb344, 0, none⟩ = some (.int .i64 a1_0) := (blk_cell BK344.out 0).trans rfl
        have hcz30_1 : w24.cell? ⟨gb344, 1, none⟩ = some (.int .i64 a1_1) := (blk_cell BK344.out 1).trans rfl
        have hcz30_2 : w24.cell? ⟨gb344, 2, none⟩ = some (.bool a1_2) := (blk_cell BK344.out 2).trans rfl
        have hcz30_3 : w24.cell? ⟨gb344, 3, none⟩ = some (.int .i64 a1_3) := (blk_cell BK344.out 3).trans rfl
        have hcz30_4 : w24.cell? ⟨gb344, 4, none⟩ = some (.int .i64 a1_4) := (blk_cell BK344.out 4).trans rfl
        have hcz30_5 : w24.cell? ⟨gb344, 5, none⟩ = some (.bool a1_5) := (blk_cell BK344.out 5).trans rfl
        have hcz30_6 : w24.cell? ⟨gb344, 6, none⟩ = some (.int .i64 a1_6) := (blk_cell BK344.out 6).trans rfl
        have hcz30_7 : w24.cell? ⟨gb344, 7, none⟩ = some (.int .i64 a1_7) := (blk_cell BK344.out 7).trans rfl
        have hcz30_8 : w24.cell? ⟨gb344, 8, none⟩ = some (.bool a1_8) := (blk_cell BK344.out 8).trans rfl
        have hcz30_9 : w24.cell? ⟨gb344, 9, none⟩ = some (.int .i64 a1_9) := (blk_cell BK344.out 9).trans rfl
        have hcz30_10 : w24.cell? ⟨gb344, 10, none⟩ = some (.int .i64 a1_10) := (blk_cell BK344.out 10).trans rfl
        have hcz30_11 : w24.cell? ⟨gb344, 11, none⟩ = some (.bool a1_11) := (blk_cell BK344.out 11).trans rfl
        have hcz30_12 : w24.cell? ⟨gb344, 12, none⟩ = some (.slice A1_12 l1_12.length c1_12) := (blk_cell BK344.out 12).trans rfl
        have hfz30_0 := blk_frozen BK344.out 0
        have hfz30_1 := blk_frozen BK344.out 1
        have hfz30_2 := blk_frozen BK344.out 2
        have hfz30_3 := blk_frozen BK344.out 3
        have hfz30_4 := blk_frozen BK344.out 4
        have hfz30_5 := blk_frozen BK344.out 5
        have hfz30_6 := blk_frozen BK344.out 6
        have hfz30_7 := blk_frozen BK344.out 7
        have hfz30_8 := blk_frozen BK344.out 8
        have hfz30_9 := blk_frozen BK344.out 9
        have hfz30_10 := blk_frozen BK344.out 10
        have hfz30_11 := blk_frozen BK344.out 11
        have hfz30_12 := blk_frozen BK344.out 12
        repeat' (first | (go_big_may; (first | ((with_reducible refine gate_callee (f := 31) rfl ?_); refine goesL_ (some 27) rfl rfl Try.func31 (by kernel_rfl) rfl #[.agg #[.int .i64 a0_9, .int .i64 a0_10, .bool a0_11], .agg #[.int .i64 a1_9, .int .i64 a1_10, .bool a1_11]] rfl (by (try simp only [List.map_toArray, List.map_cons, List.map_nil]); first | done | rfl | (simp only [List.length_drop, List.length_take]; rfl)) ?_; (with_reducible refine (laws_eqPoint.calls a0_9 a0_10 a0_11 a1_9 a1_10 a1_11 t348 _ A26.out).mono ?_); rintro e w31 ⟨rfl, hb⟩; refine ⟨_, rfl, ?_⟩; have n0_ := Aside0.mk (blk_below (g := gb343) (o := .cells #[.int .i64 a0_0, .int .i64 a0_1, .bool a0_2, .int .i64 a0_3, .int .i64 a0_4, .bool a0_5, .int .i64 a0_6, .int .i64 a0_7, .bool a0_8, .int .i64 a0_9, .int .i64 a0_10, .bool a0_11, .slice A0_12 l0_12.length c0_12] 50 (0, 0)) (by (with_reducible repeat (first | refine blk_drewN ?_ _ | refine blk_drew ?_ | refine blk_alloc ?_ _)); exact BK343.out) hb); have n1_ := Aside0.mk (blk_below (g := gb344) (o := .cells #[.int .i64 a1_0, .int .i64 a1_1, .bool a1_2, .int .i64 a1_3, .int .i64 a1_4, .bool a1_5, .int .i64 a1_6, .int .i64 a1_7, .bool a1_8, .int .i64 a1_9, .int .i64 a1_10, .bool a1_11, .slice A1_12 l1_12.length c1_12] 50 (0, 0)) (by (with_reducible repeat (first | refine blk_drewN ?_ _ | refine blk_drew ?_ | refine blk_alloc ?_ _)); exact BK344.out) hb); have n2_ := Aside0.mk (below_step (by repeat (first | (with_reducible first | exact HB.out | apply below_alloc | apply pw_below_drewN | apply below_drew1 | refine below_set ?_ GE343.out | refine below_set ?_ GE344.out) | exact HB.out)) hb); clear BK343; clear BK344; clear HB; have BK343 := n0_; have BK344 := n1_; have HB := n2_; clear n0_ n1_ n2_; (try clear hb); (try clear hb2); (try clear hk); (try clear hi)))) | go_values | go_skip | go_guarded | ((with_reducible refine wp_cond_true ?_ ?_); (focus rfl)) | ((with_reducible refine wp_cond_false ?_ ?_); (focus rfl)) | ((fail_if_success (with_reducible apply wp_cond_split)); (first | go_step | go_upon | go_back)) | dsimp only)
        have H := HQ27.out
        clear HQ27
        by_cases c32 : t348 = true
        · subst c32
          have H1 : ((laws_eqPointS.f k l0_12 l1_12).bind fun t349 => (if t349 = true then (some true) else (some false))) = some r := by rw [if_pos rfl] at H; exact H
          clear H
          have H := H1
          clear H1
          replace H := Option.bind_eq_some_iff.mp H
          obtain ⟨t349, A330, H⟩ := H
          replace H : (if t349 = true then (some true) else (some false)) = some r := H
          have A33 := Aside0.mk A330
          clear A330
          have HQ34 := Aside0.mk H
          clear H
          have hnb35 := NB343_344.out
          have hnc35 := NB344_343.out
          have hcz36_0 : w31.cell? ⟨gb343, 0, none⟩ = some (.int .i64 a0_0) := (blk_cell BK343.out 0).trans rfl
          have hcz36_1 : w31.cell? ⟨gb343, 1, none⟩ = some (.int .i64 a0_1) := (blk_cell BK343.out 1).trans rfl
          have hcz36_2 : w31.cell? ⟨gb343, 2, none⟩ = some (.bool a0_2) := (blk_cell BK343.out 2).trans rfl
          have hcz36_3 : w31.cell? ⟨gb343, 3, none⟩ = some (.int .i64 a0_3) := (blk_cell BK343.out 3).trans rfl
          have hcz36_4 : w31.cell? ⟨gb343, 4, none⟩ = some (.int .i64 a0_4) := (blk_cell BK343.out 4).trans rfl
          have hcz36_5 : w31.cell? ⟨gb343, 5, none⟩ = some (.bool a0_5) := (blk_cell BK343.out 5).trans rfl
          have hcz36_6 : w31.cell? ⟨gb343, 6, none⟩ = some (.int .i64 a0_6) := (blk_cell BK343.out 6).trans rfl
          have hcz36_7 : w31.cell? ⟨gb343, 7, none⟩ = some (.int .i64 a0_7) := (blk_cell BK343.out 7).trans rfl
          have hcz36_8 : w31.cell? ⟨gb343, 8, none⟩ = some (.bool a0_8) := (blk_cell BK343.out 8).trans rfl
          have hcz36_9 : w31.cell? ⟨gb343, 9, none⟩ = some (.int .i64 a0_9) := (blk_cell BK343.out 9).trans rfl
          have hcz36_10 : w31.cell? ⟨gb343, 10, none⟩ = some (.int .i64 a0_10) := (blk_cell BK343.out 10).trans rfl
          have hcz36_11 : w31.cell? ⟨gb343, 11, none⟩ = some (.bool a0_11) := (blk_cell BK343.out 11).trans rfl
          have hcz36_12 : w31.cell? ⟨gb343, 12, none⟩ = some (.slice A0_12 l0_12.length c0_12) := (blk_cell BK343.out 12).trans rfl
          have hfz36_0 := blk_frozen BK343.out 0
          have hfz36_1 := blk_frozen BK343.out 1
          have hfz36_2 := blk_frozen BK343.out 2
          have hfz36_3 := blk_frozen BK343.out 3
          have hfz36_4 := blk_frozen BK343.out 4
          have hfz36_5 := blk_frozen BK343.out 5
          have hfz36_6 := blk_frozen BK343.out 6
          have hfz36_7 := blk_frozen BK343.out 7
          have hfz36_8 := blk_frozen BK343.out 8
          have hfz36_9 := blk_frozen BK343.out 9
          have hfz36_10 := blk_frozen BK343.out 10
          have hfz36_11 := blk_frozen BK343.out 11
          have hfz36_12 := blk_frozen BK343.out 12
          have hcz37_0 : w31.cell? ⟨gb344, 0, none⟩ = some (.int .i64 a1_0) := (blk_cell BK344.out 0).trans rfl
          have hcz37_1 : w31.cell? ⟨gb344, 1, none⟩ = some (.int .i64 a1_1) := (blk_cell BK344.out 1).trans rfl
          have hcz37_2 : w31.cell? ⟨gb344, 2, none⟩ = some (.bool a1_2) := (blk_cell BK344.out 2).trans rfl
          have hcz37_3 : w31.cell? ⟨gb344, 3, none⟩ = some (.int .i64 a1_3) := (blk_cell BK344.out 3).trans rfl
          have hcz37_4 : w31.cell? ⟨gb344, 4, none⟩ = some (.int .i64 a1_4) := (blk_cell BK344.out 4).trans rfl
          have hcz37_5 : w31.cell? ⟨gb344, 5, none⟩ = some (.bool a1_5) := (blk_cell BK344.out 5).trans rfl
          have hcz37_6 : w31.cell? ⟨gb344, 6, none⟩ = some (.int .i64 a1_6) := (blk_cell BK344.out 6).trans rfl
          have hcz37_7 : w31.cell? ⟨gb344, 7, none⟩ = some (.int .i64 a1_7) := (blk_cell BK344.out 7).trans rfl
          have hcz37_8 : w31.cell? ⟨gb344, 8, none⟩ = some (.bool a1_8) := (blk_cell BK344.out 8).trans rfl
          have hcz37_9 : w31.cell? ⟨gb344, 9, none⟩ = some (.int .i64 a1_9) := (blk_cell BK344.out 9).trans rfl
          have hcz37_10 : w31.cell? ⟨gb344, 10, none⟩ = some (.int .i64 a1_10) := (blk_cell BK344.out 10).trans rfl
          have hcz37_11 : w31.cell? ⟨gb344, 11, none⟩ = some (.bool a1_11) := (blk_cell BK344.out 11).trans rfl
          have hcz37_12 : w31.cell? ⟨gb344, 12, none⟩ = some (.slice A1_12 l1_12.length c1_12) := (blk_cell BK344.out 12).trans rfl
          have hfz37_0 := blk_frozen BK344.out 0
          have hfz37_1 := blk_frozen BK344.out 1
          have hfz37_2 := blk_frozen BK344.out 2
          have hfz37_3 := blk_frozen BK344.out 3
          have hfz37_4 := blk_frozen BK344.out 4
          have hfz37_5 := blk_frozen BK344.out 5
          have hfz37_6 := blk_frozen BK344.out 6
          have hfz37_7 := blk_frozen BK344.out 7
          have hfz37_8 := blk_frozen BK344.out 8
          have hfz37_9 := blk_frozen BK344.out 9
          have hfz37_10 := blk_frozen BK344.out 10
          have hfz37_11 := blk_frozen BK344.out 11
          have hfz37_12 := blk_frozen BK344.out 12
          repeat' (first | (go_big_may; (first | ((with_reducible refine gate_callee (f := 75) rfl ?_); refine goesL_ (some 33) rfl rfl Try.func75 (by kernel_rfl) rfl #[.slice A0_12 l0_12.length c0_12, .slice A1_12 l1_12.length c1_12] rfl (by (try simp only [List.map_toArray, List.map_cons, List.map_nil]); first | done | rfl | (simp only [List.length_drop, List.length_take]; rfl)) ?_; (with_reducible refine (laws_eqPointS.calls k _ _ l0_12 _ _ l1_12 t349 _ ?side1 ?side2 ?side3 ?side4 A33.out).mono ?_); (case side1 => repeat (first | exact (Kd.C_below HR0_12.out HB.out) | (with_reducible refine Kd.C_alloc ?_ _) | (with_reducible refine Kd.C_drewN ?_ _) | (with_reducible refine Kd.C_drew ?_))); (case side2 => exact HC0_12.out); (case side3 => repeat (first | exact (Kd.C_below HR1_12.out HB.out) | (with_reducible refine Kd.C_alloc ?_ _) | (with_reducible refine Kd.C_drewN ?_ _) | (with_reducible refine Kd.C_drew ?_))); (case side4 => exact HC1_12.out); rintro e w38 ⟨rfl, hb⟩; refine ⟨_, rfl, ?_⟩; have n0_ := Aside0.mk (blk_below (g := gb343) (o := .cells #[.int .i64 a0_0, .int .i64 a0_1, .bool a0_2, .int .i64 a0_3, .int .i64 a0_4, .bool a0_5, .int .i64 a0_6, .int .i64 a0_7, .bool a0_8, .int .i64 a0_9, .int .i64 a0_10, .bool a0_11, .slice A0_12 l0_12.length c0_12] 50 (0, 0)) (by (with_reducible repeat (first | refine blk_drewN ?_ _ | refine blk_drew ?_ | refine blk_alloc ?_ _)); exact BK343.out) hb); have n1_ := Aside0.mk (blk_below (g := gb344) (o := .cells #[.int .i64 a1_0, .int .i64 a1_1, .bool a1_2, .int .i64 a1_3, .int .i64 a1_4, .bool a1_5, .int .i64 a1_6, .int .i64 a1_7, .bool a1_8, .int .i64 a1_9, .int .i64 a1_10, .bool a1_11, .slice A1_12 l1_12.length c1_12] 50 (0, 0)) (by (with_reducible repeat (first | refine blk_drewN ?_ _ | refine blk_drew ?_ | refine blk_alloc ?_ _)); exact BK344.out) hb); have n2_ := Aside0.mk (below_step (by repeat (first | (with_reducible first | exact HB.out | apply below_alloc | apply pw_below_drewN | apply below_drew1 | refine below_set ?_ GE343.out | refine below_set ?_ GE344.out) | exact HB.out)) hb); clear BK343; clear BK344; clear HB; have BK343 := n0_; have BK344 := n1_; have HB := n2_; clear n0_ n1_ n2_; (try clear hb); (try clear hb2); (try clear hk); (try clear hi)))) | go_values | go_skip | go_guarded | ((with_reducible refine wp_cond_true ?_ ?_); (focus rfl)) | ((with_reducible refine wp_cond_false ?_ ?_); (focus rfl)) | ((fail_if_success (with_reducible apply wp_cond_split)); (first | go_step | go_upon | go_back)) | dsimp only)
          have H := HQ34.out
          clear HQ34
          by_cases c39 : t349 = true
          · subst c39
            have H1 : (some true) = some r := by rw [if_pos rfl] at H; exact H
            clear H
            have H := H1
            clear H1
            obtain rfl := Option.some.inj H
            go_wp2
            go_ret
            exact ⟨by first | rfl | (simp [errW_none, errW_some] <;> rfl) | (simp [*, errW_none, errW_some] <;> rfl), by repeat (first | (with_reducible first | exact HB.out | apply below_alloc | apply pw_below_drewN | apply below_drew1 | refine below_set ?_ GE343.out | refine below_set ?_ GE344.out) | exact HB.out)⟩
          · replace c39 := Bool.eq_false_iff.mpr c39
            subst c39
            have H1 : (some false) = some r := by rw [if_neg (show ¬ (false = true) by decide)] at H; exact H
            clear H
            have H := H1
            clear H1
            obtain rfl := Option.some.inj H
            go_wp2
            go_ret
            exact ⟨by first | rfl | (simp [errW_none, errW_some] <;> rfl) | (simp [*, errW_none, errW_some] <;> rfl), by repeat (first | (with_reducible first | exact HB.out | apply below_alloc | apply pw_below_drewN | apply below_drew1 | refine below_set ?_ GE343.out | refine below_set ?_ GE344.out) | exact HB.out)⟩
        · replace c32 := Bool.eq_false_iff.mpr c32
          subst c32
          have H1 : (some false) = some r := by rw [if_neg (show ¬ (false = true) by decide)] at H; exact H
          clear H
          have H := H1
          clear H1
          obtain rfl := Option.some.inj H
          go_wp2
          go_ret
          exact ⟨by first | rfl | (simp [errW_none, errW_some] <;> rfl) | (simp [*, errW_none, errW_some] <;> rfl), by repeat (first | (with_reducible first | exact HB.out | apply below_alloc | apply pw_below_drewN | apply below_drew1 | refine below_set ?_ GE343.out | refine below_set ?_ GE344.out) | exact HB.out)⟩
      · replace c25 := Bool.eq_false_iff.mpr c25
        subst c25
        have H1 : (some false) = some r := by rw [if_neg (show ¬ (false = true) by decide)] at H; exact H
        clear H
        have H := H1
        clear H1
        obtain rfl := Option.some.inj H
        go_wp2
        go_ret
        exact ⟨by first | rfl | (simp [errW_none, errW_some] <;> rfl) | (simp [*, errW_none, errW_some] <;> rfl), by repeat (first | (with_reducible first | exact HB.out | apply below_alloc | apply pw_below_drewN | apply below_drew1 | refine below_set ?_ GE343.out | refine below_set ?_ GE344.out) | exact HB.out)⟩
    · replace c18 := Bool.eq_false_iff.mpr c18
      subst c18
      have H1 : (some false) = some r := by rw [if_neg (show ¬ (false = true) by decide)] at H; exact H
      clear H
      have H := H1
      clear H1
      obtain rfl := Option.some.inj H
      go_wp2
      go_ret
      exact ⟨by first | rfl | (simp [errW_none, errW_some] <;> rfl) | (simp [*, errW_none, errW_some] <;> rfl), by repeat (first | (with_reducible first | exact HB.out | apply below_alloc | apply pw_below_drewN | apply below_drew1 | refine below_set ?_ GE343.out | refine below_set ?_ GE344.out) | exact HB.out)⟩
  · replace c11 := Bool.eq_false_iff.mpr c11
    subst c11
    have H1 : (some false) = some r := by rw [if_neg (show ¬ (false = true) by decide)] at H; exact H
    clear H
    have H := H1
    clear H1
    obtain rfl := Option.some.inj H
    go_wp2
    go_ret
    exact ⟨by first | rfl | (simp [errW_none, errW_some] <;> rfl) | (simp [*, errW_none, errW_some] <;> rfl), by repeat (first | (with_reducible first | exact HB.out | apply below_alloc | apply pw_below_drewN | apply below_drew1 | refine below_set ?_ GE343.out | refine below_set ?_ GE344.out) | exact HB.out)⟩

end Go.Proofs.Ytegchimmolpmeaa.QFnExactInputSum
