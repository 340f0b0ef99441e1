-- by a program of this session, out of Lean's print of the loaded program
import Derived.Test.YtegchimmolpmeaaQFnExactClientOkx0
import Derived.Test.YtegchimmolpmeaaQFnExactClientOkx2
namespace Go.Proofs.Ytegchimmolpmeaa.QFnExactClientOk
open Go.RowKit Go.Proofs.YtegchimmolpmeaaW.PrintWords Go.Proofs.YtegchimmolpmeaaW.PrintLast Go.Proofs.YtegchimmolpmeaaW.PrintMore
attribute [local go_sem] max2_int min2_int max_two min_two max_three min_three max_four min_four   -- for this text's walks alone
set_option linter.unusedVariables false
set_option linter.unusedSimpArgs false

/-! ### laws_eqHead: function 76 -/
def laws_eqHead.f (a0_0 : Int) (a0_1 : ByteArray) (a0_2 : ByteArray) (a0_3 : ByteArray) (a1_0 : Int) (a1_1 : ByteArray) (a1_2 : ByteArray) (a1_3 : ByteArray) : Option (Bool) := if a0_0 = a1_0 then (if a0_1.toList = a1_1.toList then (if a0_2.toList = a1_2.toList then (if a0_3.toList = a1_3.toList then (some true) else (some false)) else (some false)) else (some false)) else (some false)
set_option maxHeartbeats 8000000 in
set_option maxRecDepth 100000 in
theorem laws_eqHead.calls (a0_0 : Int) (a0_1 : ByteArray) (a0_2 : ByteArray) (a0_3 : ByteArray) (a1_0 : Int) (a1_1 : ByteArray) (a1_2 : ByteArray) (a1_3 : ByteArray) (r : Bool) (w : World) (h : laws_eqHead.f a0_0 a0_1 a0_2 a0_3 a1_0 a1_1 a1_2 a1_3 = some r) :
    Calls Try.prog 76 #[.agg #[.int .i64 a0_0, .string a0_1, .string a0_2, .string a0_3], .agg #[.int .i64 a1_0, .string a1_1, .string a1_2, .string a1_3]] w fun e w' => e = .returned (.bool r) ∧ Below w.heap.size w w' := by
  have hu48 := Try.underlying48
  have HB := Aside0.mk (Below.refl w.heap.size w)
  have H : (if a0_0 = a1_0 then (if a0_1.toList = a1_1.toList then (if a0_2.toList = a1_2.toList then (if a0_3.toList = a1_3.toList then (some true) else (some false)) else (some false)) else (some false)) else (some false)) = some r := h
  clear h
  have HQ3 := Aside0.mk H
  clear H
  go_enter Try.func76, Try.ntmps76
  repeat' (first | (go_big_may; (first | ((with_reducible refine gate_dst (N := 2) rfl ?_); refine box_event ?hg (N := 2) ?hd (cs := #[.int .i64 a0_0, .string a0_1, .string a0_2, .string a0_3]) (t := 48) ?hr ?_; (case hd => rfl); (case hg => rfl); (case hr => first | (go_simp; done) | (go_simp; rfl)); intro gb192 hg w4 hbox hb; have n0_ := Aside0.mk (below_step (by repeat (first | (with_reducible first | exact HB.out | apply below_alloc | apply pw_below_drewN | apply below_drew1) | exact HB.out)) hb); have n1_ := Aside0.mk (hbox); have n2_ := Aside0.mk ((by rw [hg]; exact (below_size (by repeat (first | (with_reducible first | exact HB.out | apply below_alloc | apply pw_below_drewN | apply below_drew1) | exact HB.out))) : w.heap.size ≤ gb192)); have n3_ := Aside0.mk ((by rw [hg]; exact (below_size (by repeat (first | (with_reducible first | exact HB.out | apply below_alloc | apply pw_below_drewN | apply below_drew1) | exact HB.out))) : w.heap.size ≤ gb192)); clear HB; have HB := n0_; have BK192 := n1_; have GW192 := n2_; have GE192 := n3_; clear n0_ n1_ n2_ n3_; clear hb hbox hg) | ((with_reducible refine gate_dst (N := 3) rfl ?_); refine box_event ?hg (N := 3) ?hd (cs := #[.int .i64 a1_0, .string a1_1, .string a1_2, .string a1_3]) (t := 48) ?hr ?_; (case hd => rfl); (case hg => rfl); (case hr => first | (go_simp; done) | (go_simp; rfl)); intro gb193 hg w5 hbox hb; have n0_ := Aside0.mk (blk_below (g := gb192) (o := .cells #[.int .i64 a0_0, .string a0_1, .string a0_2, .string a0_3] 48 (0, 0)) (by (with_reducible repeat (first | refine blk_drewN ?_ _ | refine blk_drew ?_ | refine blk_alloc ?_ _)); exact BK192.out) hb); have n1_ := Aside0.mk (below_step (by repeat (first | (with_reducible first | exact HB.out | apply below_alloc | apply pw_below_drewN | apply below_drew1 | refine below_set ?_ GE192.out) | exact HB.out)) hb); have n2_ := Aside0.mk (hbox); have n3_ := Aside0.mk ((by rw [hg]; exact (below_size (by repeat (first | (with_reducible first | exact HB.out | apply below_alloc | apply pw_below_drewN | apply below_drew1 | refine below_set ?_ GE192.out) | exact HB.out))) : w.heap.size ≤ gb193)); have n4_ := Aside0.mk ((by rw [hg]; exact (below_size (by repeat (first | (with_reducible first | exact HB.out | apply below_alloc | apply pw_below_drewN | apply below_drew1 | refine below_set ?_ GE192.out) | exact HB.out))) : w.heap.size ≤ gb193)); have n5_ := Aside0.mk ((by rw [hg]; exact Nat.ne_of_lt (blk_lt (g := gb192) (o := .cells #[.int .i64 a0_0, .string a0_1, .string a0_2, .string a0_3] 48 (0, 0)) (by (with_reducible repeat (first | refine blk_drewN ?_ _ | refine blk_drew ?_ | refine blk_alloc ?_ _)); exact BK192.out)) : gb192 ≠ gb193)); have n6_ := Aside0.mk ((by rw [hg]; exact Nat.ne_of_gt (blk_lt (g := gb192) (o := .cells #[.int .i64 a0_0, .string a0_1, .string a0_2, .string a0_3] 48 (0, 0)) (by (with_reducible repeat (first | refine blk_drewN ?_ _ | refine blk_drew ?_ | refine blk_alloc ?_ _)); exact BK192.out)) : gb193 ≠ gb192)); clear BK192; clear HB; have BK192 := n0_; have HB := n1_; have BK193 := n2_; have GW193 := n3_; have GE193 := n4_; have NB192_193 := n5_; have NB193_192 := n6_; clear n0_ n1_ n2_ n3_ n4_ n5_ n6_; clear hb hbox hg; have hnb6 := NB192_193.out; have hnc6 := NB193_192.out; have hcz7_0 : w5.cell? ⟨gb192, 0, none⟩ = some (.int .i64 a0_0) := (blk_cell BK192.out 0).trans rfl; have hcz7_1 : w5.cell? ⟨gb192, 1, none⟩ = some (.string a0_1) := (blk_cell BK192.out 1).trans rfl; have hcz7_2 : w5.cell? ⟨gb192, 2, none⟩ = some (.string a0_2) := (blk_cell BK192.out 2).trans rfl; have hcz7_3 : w5.cell? ⟨gb192, 3, none⟩ = some (.string a0_3) := (blk_cell BK192.out 3).trans rfl; have hfz7_0 := blk_frozen BK192.out 0; have hfz7_1 := blk_frozen BK192.out 1; have hfz7_2 := blk_frozen BK192.out 2; have hfz7_3 := blk_frozen BK192.out 3; have hcz8_0 : w5.cell? ⟨gb193, 0, none⟩ = some (.int .i64 a1_0) := (blk_cell BK193.out 0).trans rfl; have hcz8_1 : w5.cell? ⟨gb193, 1, none⟩ = some (.string a1_1) := (blk_cell BK193.out 1).trans rfl; have hcz8_2 : w5.cell? ⟨gb193, 2, none⟩ = some (.string a1_2) := (blk_cell BK193.out 2).trans rfl; have hcz8_3 : w5.cell? ⟨gb193, 3, none⟩ = some (.string a1_3) := (blk_cell BK193.out 3).trans rfl; have hfz8_0 := blk_frozen BK193.out 0; have hfz8_1 := blk_frozen BK193.out 1; have hfz8_2 := blk_frozen BK193.out 2; have hfz8_3 := blk_frozen BK193.out 3))) | go_values | go_skip | go_guarded | ((with_reducible refine wp_cond_true ?_ ?_); (focus rfl)) | ((with_reducible refine wp_cond_false ?_ ?_); (focus rfl)) | ((fail_if_success (with_reducible apply wp_cond_split)); (first | go_step | go_upon | go_back)) | dsimp only)
  have H := HQ3.out
  clear HQ3
  by_cases c9 : a0_0 = a1_0
  · rw [if_pos c9] at H
    have c9b0 : (a0_0 == a1_0) = true := beq_iff_eq.mpr c9
    have c9b1 : (a0_0 != a1_0) = false := bne_eq_false_iff_eq.mpr c9
    clear c9
    (first | rw [c9b0] | rw [c9b1] | rw [c9b2] | (simp only [i64_w, i32_w]; first | rw [c9b0] | rw [c9b1]) | skip)
    by_cases c10 : a0_1.toList = a1_1.toList
    · rw [if_pos c10] at H
      have c10b0 : (a0_1.toList == a1_1.toList) = true := beq_iff_eq.mpr c10
      have c10b1 : (a0_1.toList != a1_1.toList) = false := bne_eq_false_iff_eq.mpr c10
      clear c10
      by_cases c11 : a0_2.toList = a1_2.toList
      · rw [if_pos c11] at H
        have c11b0 : (a0_2.toList == a1_2.toList) = true := beq_iff_eq.mpr c11
        have c11b1 : (a0_2.toList != a1_2.toList) = false := bne_eq_false_iff_eq.mpr c11
        clear c11
        by_cases c12 : a0_3.toList = a1_3.toList
        · rw [if_pos c12] at H
          have c12b0 : (a0_3.toList == a1_3.toList) = true := beq_iff_eq.mpr c12
          have c12b1 : (a0_3.toList != a1_3.toList) = false := bne_eq_false_iff_eq.mpr c12
          clear c12
          obtain rfl := Option.some.inj H
          have hnb13 := NB192_193.out
          have hnc13 := NB193_192.out
          have hcz14_0 : w5.cell? ⟨gb192, 0, none⟩ = some (.int .i64 a0_0) := (blk_cell BK192.out 0).trans rfl
          have hcz14_1 : w5.cell? ⟨gb192, 1, none⟩ = some (.string a0_1) := (blk_cell BK192.out 1).trans rfl
          have hcz14_2 : w5.cell? ⟨gb192, 2, none⟩ = some (.string a0_2) := (blk_cell BK192.out 2).trans rfl
          have hcz14_3 : w5.cell? ⟨gb192, 3, none⟩ = some (.string a0_3) := (blk_cell BK192.out 3).trans rfl
          have hfz14_0 := blk_frozen BK192.out 0
          have hfz14_1 := blk_frozen BK192.out 1
          have hfz14_2 := blk_frozen BK192.out 2
          have hfz14_3 := blk_frozen BK192.out 3
          have hcz15_0 : w5.cell? ⟨gb193, 0, none⟩ = some (.int .i64 a1_0) := (blk_cell BK193.out 0).trans rfl
          have hcz15_1 : w5.cell? ⟨gb193, 1, none⟩ = some (.string a1_1) := (blk_cell BK193.out 1).trans rfl
          have hcz15_2 : w5.cell? ⟨gb193, 2, none⟩ = some (.string a1_2) := (blk_cell BK193.out 2).trans rfl
          have hcz15_3 : w5.cell? ⟨gb193, 3, none⟩ = some (.string a1_3) := (blk_cell BK193.out 3).trans rfl
          have hfz15_0 := blk_frozen BK193.out 0
          have hfz15_1 := blk_frozen BK193.out 1
          have hfz15_2 := blk_frozen BK193.out 2
          have hfz15_3 := blk_frozen BK193.out 3
          go_wp2
          go_ret
          exact ⟨by first | rfl | (simp [errW_none, errW_some] <;> rfl) | (simp [*, errW_none, errW_some] <;> rfl), by repeat (first | (with_reducible first | exact HB.out | apply below_alloc | apply pw_below_drewN | apply below_drew1 | refine below_set ?_ GE192.out | refine below_set ?_ GE193.out) | exact HB.out)⟩
        · rw [if_neg c12] at H
          have c12b0 : (a0_3.toList == a1_3.toList) = false := beq_eq_false_iff_ne.mpr c12
          have c12b1 : (a0_3.toList != a1_3.toList) = true := bne_iff_ne.mpr c12
          obtain rfl := Option.some.inj H
          have hnb16 := NB192_193.out
          have hnc16 := NB193_192.out
          have hcz17_0 : w5.cell? ⟨gb192, 0, none⟩ = some (.int .i64 a0_0) := (blk_cell BK192.out 0).trans rfl
          have hcz17_1 : w5.cell? ⟨gb192, 1, none⟩ = some (.string a0_1) := (blk_cell BK192.out 1).trans rfl
          have hcz17_2 : w5.cell? ⟨gb192, 2, none⟩ = some (.string a0_2) := (blk_cell BK192.out 2).trans rfl
          have hcz17_3 : w5.cell? ⟨gb192, 3, none⟩ = some (.string a0_3) := (blk_cell BK192.out 3).trans rfl
          have hfz17_0 := blk_frozen BK192.out 0
          have hfz17_1 := blk_frozen BK192.out 1
          have hfz17_2 := blk_frozen BK192.out 2
          have hfz17_3 := blk_frozen BK192.out 3
          have hcz18_0 : w5.cell? ⟨gb193, 0, none⟩ = some (.int .i64 a1_0) := (blk_cell BK193.out 0).trans rfl
          have hcz18_1 : w5.cell? ⟨gb193, 1, none⟩ = some (.string a1_1) := (blk_cell BK193.out 1).trans rfl
          have hcz18_2 : w5.cell? ⟨gb193, 2, none⟩ = some (.string a1_2) := (blk_cell BK193.out 2).trans rfl
          have hcz18_3 : w5.cell? ⟨gb193, 3, none⟩ = some (.string a1_3) := (blk_cell BK193.out 3).trans rfl
          have hfz18_0 := blk_frozen BK193.out 0
          have hfz18_1 := blk_frozen BK193.out 1
          have hfz18_2 := blk_frozen BK193.out 2
          have hfz18_3 := blk_frozen BK193.out 3
          go_wp2
          go_ret
          exact ⟨by first | rfl | (simp [errW_none, errW_some] <;> rfl) | (simp [*, errW_none, errW_some] <;> rfl), by repeat (first | (with_reducible first | exact HB.out | apply below_alloc | apply pw_below_drewN | apply below_drew1 | refine below_set ?_ GE192.out | refine below_set ?_ GE193.out) | exact HB.out)⟩
      · rw [if_neg c11] at H
        have c11b0 : (a0_2.toList == a1_2.toList) = false := beq_eq_false_iff_ne.mpr c11
        have c11b1 : (a0_2.toList != a1_2.toList) = true := bne_iff_ne.mpr c11
        obtain rfl := Option.some.inj H
        have hnb19 := NB192_193.out
        have hnc19 := NB193_192.out
        have hcz20_0 : w5.cell? ⟨gb192, 0, none⟩ = some (.int .i64 a0_0) := (blk_cell BK192.out 0).trans rfl
        have hcz20_1 : w5.cell? ⟨gb192, 1, none⟩ = some (.string a0_1) := (blk_cell BK192.out 1).trans rfl
        have hcz20_2 : w5.cell? ⟨gb192, 2, none⟩ = some (.string a0_2) := (blk_cell BK192.out 2).trans rfl
        have hcz20_3 : w5.cell? ⟨gb192, 3, none⟩ = some (.string a0_3) := (blk_cell BK192.out 3).trans rfl
        have hfz20_0 := blk_frozen BK192.out 0
        have hfz20_1 := blk_frozen BK192.out 1
        have hfz20_2 := blk_frozen BK192.out 2
        have hfz20_3 := blk_frozen BK192.out 3
        have hcz21_0 : w5.cell? ⟨gb193, 0, none⟩ = some (.int .i64 a1_0) := (blk_cell BK193.out 0).trans rfl
        have hcz21_1 : w5.cell? ⟨gb193, 1, none⟩ = some (.string a1_1) := (blk_cell BK193.out 1).trans rfl
        have hcz21_2 : w5.cell? ⟨gb193, 2, none⟩ = some (.string a1_2) := (blk_cell BK193.out 2).trans rfl
        have hcz21_3 : w5.cell? ⟨gb193, 3, none⟩ = some (.string a1_3) := (blk_cell BK193.out 3).trans rfl
        have hfz21_0 := blk_frozen BK193.out 0
        have hfz21_1 := blk_frozen BK193.out 1
        have hfz21_2 := blk_frozen BK193.out 2
        have hfz21_3 := blk_frozen BK193.out 3
        go_wp2
        go_ret
        exact ⟨by first | rfl | (simp [errW_none, errW_some] <;> rfl) | (simp [*, errW_none, errW_some] <;> rfl), by repeat (first | (with_reducible first | exact HB.out | apply below_alloc | apply pw_below_drewN | apply below_drew1 | refine below_set ?_ GE192.out | refine below_set ?_ GE193.out) | exact HB.out)⟩
    · rw [if_neg c10] at H
      have c10b0 : (a0_1.toList == a1_1.toList) = false := beq_eq_false_iff_ne.mpr c10
      have c10b1 : (a0_1.toList != a1_1.toList) = true := bne_iff_ne.mpr c10
      obtain rfl := Option.some.inj H
      have hnb22 := NB192_193.out
      have hnc22 := NB193_192.out
      have hcz23_0 : w5.cell? ⟨gb192, 0, none⟩ = some (.int .i64 a0_0) := (blk_cell BK192.out 0).trans rfl
      have hcz23_1 : w5.cell? ⟨gb192, 1, none⟩ = some (.string a0_1) := (blk_cell BK192.out 1).trans rfl
      have hcz23_2 : w5.cell? ⟨gb192, 2, none⟩ = some (.string a0_2) := (blk_cell BK192.out 2).trans rfl
      have hcz23_3 : w5.cell? ⟨gb192, 3, none⟩ = some (.string a0_3) := (blk_cell BK192.out 3).trans rfl
      have hfz23_0 := blk_frozen BK192.out 0
      have hfz23_1 := blk_frozen BK192.out 1
      have hfz23_2 := blk_frozen BK192.out 2
      have hfz23_3 := blk_frozen BK192.out 3
      have hcz24_0 : w5.cell? ⟨gb193, 0, none⟩ = some (.int .i64 a1_0) := (blk_cell BK193.out 0).trans rfl
      have hcz24_1 : w5.cell? ⟨gb193, 1, none⟩ = some (.string a1_1) := (blk_cell BK193.out 1).trans rfl
      have hcz24_2 : w5.cell? ⟨gb193, 2, none⟩ = some (.string a1_2) := (blk_cell BK193.out 2).trans rfl
      have hcz24_3 : w5.cell? ⟨gb193, 3, none⟩ = some (.string a1_3) := (blk_cell BK193.out 3).trans rfl
      have hfz24_0 := blk_frozen BK193.out 0
      have hfz24_1 := blk_frozen BK193.out 1
      have hfz24_2 := blk_frozen BK193.out 2
      have hfz24_3 := blk_frozen BK193.out 3
      go_wp2
      go_ret
      exact ⟨by first | rfl | (simp [errW_none, errW_some] <;> rfl) | (simp [*, errW_none, errW_some] <;> rfl), by repeat (first | (with_reducible first | exact HB.out | apply below_alloc | apply pw_below_drewN | apply below_drew1 | refine below_set ?_ GE192.out | refine below_set ?_ GE193.out) | exact HB.out)⟩
  · rw [if_neg c9] at H
    have c9b0 : (a0_0 == a1_0) = false := beq_eq_false_iff_ne.mpr c9
    have c9b1 : (a0_0 != a1_0) = true := bne_iff_ne.mpr c9
    (first | rw [c9b0] | rw [c9b1] | rw [c9b2] | (simp only [i64_w, i32_w]; first | rw [c9b0] | rw [c9b1]) | skip)
    obtain rfl := Option.some.inj H
    go_wp2
    go_ret
    exact ⟨by first | rfl | (simp [errW_none, errW_some] <;> rfl) | (simp [*, errW_none, errW_some] <;> rfl), by repeat (first | (with_reducible first | exact HB.out | apply below_alloc | apply pw_below_drewN | apply below_drew1 | refine below_set ?_ GE192.out | refine below_set ?_ GE193.out) | exact HB.out)⟩

/-! ### laws_eqClient: function 22 -/
def laws_eqClient.f (k : Nat) (a0_0 : Int) (a0_1 : ByteArray) (a0_2 : ByteArray) (a0_3 : ByteArray) (l0_4 : List (S28)) (l0_5 : List (S28)) (a0_6 : Bool) (a0_7 : Int) (a0_8 : Int) (a0_9 : Bool) (a0_10 : Int) (a0_11 : Int) (a0_12 : Bool) (a0_13 : Int) (a0_14 : Int) (a0_15 : Bool) (a0_16 : Int) (a0_17 : Int) (a0_18 : Bool) (l0_19 : List (S28)) (a1_0 : Int) (a1_1 : ByteArray) (a1_2 : ByteArray) (a1_3 : ByteArray) (l1_4 : List (S28)) (l1_5 : List (S28)) (a1_6 : Bool) (a1_7 : Int) (a1_8 : Int) (a1_9 : Bool) (a1_10 : Int) (a1_11 : Int) (a1_12 : Bool) (a1_13 : Int) (a1_14 : Int) (a1_15 : Bool) (a1_16 : Int) (a1_17 : Int) (a1_18 : Bool) (l1_19 : List (S28)) : Option (Bool) := (laws_eqHead.f a0_0 a0_1 a0_2 a0_3 a1_0 a1_1 a1_2 a1_3).bind fun t196 => (if t196 = true then ((laws_eqCommittee.f k l0_4 l1_4).bind fun t197 => (if t197 = true then ((laws_eqCommittee.f k l0_5 l1_5).bind fun t198 => (if t198 = true then (if (a0_6 != a1_6) = true then (some false) else ((laws_eqKeys.f k a0_7 a0_8 a0_9 a0_10 a0_11 a0_12 a0_13 a0_14 a0_15 a0_16 a0_17 a0_18 l0_19 a1_7 a1_8 a1_9 a1_10 a1_11 a1_12 a1_13 a1_14 a1_15 a1_16 a1_17 a1_18 l1_19).bind fun t199 => (if t199 = true then (some true) else (some false)))) else (some false))) else (some false))) else (some false))
theorem laws_eqClient.mono : ∀ a0 a1 a2 a3 a4 a5 a6 a7 a8 a9 a10 a11 a12 a13 a14 a15 a16 a17 a18 a19 a20 a21 a22 a23 a24 a25 a26 a27 a28 a29 a30 a31 a32 a33 a34 a35 a36 a37 a38 a39 k, LeO (laws_eqClient.f k a0 a1 a2 a3 a4 a5 a6 a7 a8 a9 a10 a11 a12 a13 a14 a15 a16 a17 a18 a19 a20 a21 a22 a23 a24 a25 a26 a27 a28 a29 a30 a31 a32 a33 a34 a35 a36 a37 a38 a39) (laws_eqClient.f (k + 1) a0 a1 a2 a3 a4 a5 a6 a7 a8 a9 a10 a11 a12 a13 a14 a15 a16 a17 a18 a19 a20 a21 a22 a23 a24 a25 a26 a27 a28 a29 a30 a31 a32 a33 a34 a35 a36 a37 a38 a39) := by
  intro a0 a1 a2 a3 a4 a5 a6 a7 a8 a9 a10 a11 a12 a13 a14 a15 a16 a17 a18 a19 a20 a21 a22 a23 a24 a25 a26 a27 a28 a29 a30 a31 a32 a33 a34 a35 a36 a37 a38 a39 k
  unfold laws_eqClient.f
  repeat' first
      | (with_reducible exact laws_eqCommittee.mono _ _ _)
      | (with_reducible exact laws_eqKeys.mono _ _ _ _ _ _ _ _ _ _ _ _ _ _ _ _ _ _ _ _ _ _ _ _ _ _ _)
      | (with_reducible exact LeO.refl _)
      | (with_reducible exact LeO.none _)
      | (with_reducible refine LeO.ite ?_ ?_)
      | (with_reducible refine LeO.bind ?_ (fun _ => ?_))
      | exact laws_eqCommittee.mono _ _ _
      | exact laws_eqKeys.mono _ _ _ _ _ _ _ _ _ _ _ _ _ _ _ _ _ _ _ _ _ _ _ _ _ _ _
      | exact LeO.none _
      | refine LeO.ite ?_ ?_
      | refine LeO.bind ?_ (fun _ => ?_)
set_option maxHeartbeats 8000000 in
set_option maxRecDepth 100000 in
theorem laws_eqClient.calls (k : Nat) (a0_0 : Int) (a0_1 : ByteArray) (a0_2 : ByteArray) (a0_3 : ByteArray) (A0_4 : Option Addr) (c0_4 : Nat) (l0_4 : List (S28)) (A0_5 : Option Addr) (c0_5 : Nat) (l0_5 : List (S28)) (a0_6 : Bool) (a0_7 : Int) (a0_8 : Int) (a0_9 : Bool) (a0_10 : Int) (a0_11 : Int) (a0_12 : Bool) (a0_13 : Int) (a0_14 : Int) (a0_15 : Bool) (a0_16 : Int) (a0_17 : Int) (a0_18 : Bool) (A0_19 : Option Addr) (c0_19 : Nat) (l0_19 : List (S28)) (a1_0 : Int) (a1_1 : ByteArray) (a1_2 : ByteArray) (a1_3 : ByteArray) (A1_4 : Option Addr) (c1_4 : Nat) (l1_4 : List (S28)) (A1_5 : Option Addr) (c1_5 : Nat) (l1_5 : List (S28)) (a1_6 : Bool) (a1_7 : Int) (a1_8 : Int) (a1_9 : Bool) (a1_10 : Int) (a1_11 : Int) (a1_12 : Bool) (a1_13 : Int) (a1_14 : Int) (a1_15 : Bool) (a1_16 : Int) (a1_17 : Int) (a1_18 : Bool) (A1_19 : Option Addr) (c1_19 : Nat) (l1_19 : List (S28)) (r : Bool) (w : World) (hr0_4 : Kd.C k28 w A0_4 l0_4.length l0_4) (hc0_4 : l0_4.length ≤ c0_4) (hr0_5 : Kd.C k28 w A0_5 l0_5.length l0_5) (hc0_5 : l0_5.length ≤ c0_5) (hr0_19 : Kd.C k28 w A0_19 l0_19.length l0_19) (hc0_19 : l0_19.length ≤ c0_19) (hr1_4 : Kd.C k28 w A1_4 l1_4.length l1_4) (hc1_4 : l1_4.length ≤ c1_4) (hr1_5 : Kd.C k28 w A1_5 l1_5.length l1_5) (hc1_5 : l1_5.length ≤ c1_5) (hr1_19 : Kd.C k28 w A1_19 l1_19.length l1_19) (hc1_19 : l1_19.length ≤ c1_19) (h : laws_eqClient.f k a0_0 a0_1 a0_2 a0_3 l0_4 l0_5 a0_6 a0_7 a0_8 a0_9 a0_10 a0_11 a0_12 a0_13 a0_14 a0_15 a0_16 a0_17 a0_18 l0_19 a1_0 a1_1 a1_2 a1_3 l1_4 l1_5 a1_6 a1_7 a1_8 a1_9 a1_10 a1_11 a1_12 a1_13 a1_14 a1_15 a1_16 a1_17 a1_18 l1_19 = some r) :
    Calls Try.prog 22 #[.agg #[.int .i64 a0_0, .string a0_1, .string a0_2, .string a0_3, .slice A0_4 l0_4.length c0_4, .slice A0_5 l0_5.length c0_5, .bool a0_6, .int .i64 a0_7, .int .i64 a0_8, .bool a0_9, .int .i64 a0_10, .int .i64 a0_11, .bool a0_12, .int .i64 a0_13, .int .i64 a0_14, .bool a0_15, .int .i64 a0_16, .int .i64 a0_17, .bool a0_18, .slice A0_19 l0_19.length c0_19], .agg #[.int .i64 a1_0, .string a1_1, .string a1_2, .string a1_3, .slice A1_4 l1_4.length c1_4, .slice A1_5 l1_5.length c1_5, .bool a1_6, .int .i64 a1_7, .int .i64 a1_8, .bool a1_9, .int .i64 a1_10, .int .i64 a1_11, .bool a1_12, .int .i64 a1_13, .int .i64 a1_14, .bool a1_15, .int .i64 a1_16, .int .i64 a1_17, .bool a1_18, .slice A1_19 l1_19.length c1_19]] w fun e w' => e = .returned (.bool r) ∧ Below w.heap.size w w' := by
  have hu52 := Try.underlying52
  have hu48 := Try.underlying48
  have hu45 := Try.underlying45
  have hu50 := Try.underlying50
  have HR0_4 := Aside0.mk hr0_4
  have HC0_4 := Aside0.mk hc0_4
  clear hr0_4 hc0_4
  have HR0_5 := Aside0.mk hr0_5
  have HC0_5 := Aside0.mk hc0_5
  clear hr0_5 hc0_5
  have HR0_19 := Aside0.mk hr0_19
  have HC0_19 := Aside0.mk hc0_19
  clear hr0_19 hc0_19
  have HR1_4 := Aside0.mk hr1_4
  have HC1_4 := Aside0.mk hc1_4
  clear hr1_4 hc1_4
  have HR1_5 := Aside0.mk hr1_5
  have HC1_5 := Aside0.mk hc1_5
  clear hr1_5 hc1_5
  have HR1_19 := Aside0.mk hr1_19
  have HC1_19 := Aside0.mk hc1_19
  clear hr1_19 hc1_19
  have HB := Aside0.mk (Below.refl w.heap.size w)
  have H : ((laws_eqHead.f a0_0 a0_1 a0_2 a0_3 a1_0 a1_1 a1_2 a1_3).bind fun t196 => (if t196 = true then ((laws_eqCommittee.f k l0_4 l1_4).bind fun t197 => (if t197 = true then ((laws_eqCommittee.f k l0_5 l1_5).bind fun t198 => (if t198 = true then (if (a0_6 != a1_6) = true then (some false) else ((laws_eqKeys.f k a0_7 a0_8 a0_9 a0_10 a0_11 a0_12 a0_13 a0_14 a0_15 a0_16 a0_17 a0_18 l0_19 a1_7 a1_8 a1_9 a1_10 a1_11 a1_12 a1_13 a1_14 a1_15 a1_16 a1_17 a1_18 l1_19).bind fun t199 => (if t199 = true then (some true) else (some false)))) else (some false))) else (some false))) else (some false))) = some r := h
  clear h
  replace H := Option.bind_eq_some_iff.mp H
  obtain ⟨t196, A30, H⟩ := H
  replace H : (if t196 = true then ((laws_eqCommittee.f k l0_4 l1_4).bind fun t197 => (if t197 = true then ((laws_eqCommittee.f k l0_5 l1_5).bind fun t198 => (if t198 = true then (if (a0_6 != a1_6) = true then (some false) else ((laws_eqKeys.f k a0_7 a0_8 a0_9 a0_10 a0_11 a0_12 a0_13 a0_14 a0_15 a0_16 a0_17 a0_18 l0_19 a1_7 a1_8 a1_9 a1_10 a1_11 a1_12 a1_13 a1_14 a1_15 a1_16 a1_17 a1_18 l1_19).bind fun t199 => (if t199 = true then (some true) else (some false)))) else (some false))) else (some false))) else (some false)) = some r := H
  have A3 := Aside0.mk A30
  clear A30
  have HQ4 := Aside0.mk H
  clear H
  go_enter Try.func22, Try.ntmps22
  repeat' (first | (go_big_may; (first | ((with_reducible refine gate_dst (N := 2) rfl ?_); refine box_event ?hg (N := 2) ?hd (cs := #[.int .i64 a0_0, .string a0_1, .string a0_2, .string a0_3, .slice A0_4 l0_4.length c0_4, .slice A0_5 l0_5.length c0_5, .bool a0_6, .int .i64 a0_7, .int .i64 a0_8, .bool a0_9, .int .i64 a0_10, .int .i64 a0_11, .bool a0_12, .int .i64 a0_13, .int .i64 a0_14, .bool a0_15, .int .i64 a0_16, .int .i64 a0_17, .bool a0_18, .slice A0_19 l0_19.length c0_19]) (t := 52) ?hr ?_; (case hd => rfl); (case hg => rfl); (case hr => first | (go_simp; done) | (go_simp; rfl)); intro gb194 hg w5 hbox hb; have n0_ := Aside0.mk (below_step (by repeat (first | (with_reducible first | exact HB.out | apply below_alloc | apply pw_below_drewN | apply below_drew1) | exact HB.out)) hb); have n1_ := Aside0.mk (hbox); have n2_ := Aside0.mk ((by rw [hg]; exact (below_size (by repeat (first | (with_reducible first | exact HB.out | apply below_alloc | apply pw_below_drewN | apply below_drew1) | exact HB.out))) : w.heap.size ≤ gb194)); have n3_ := Aside0.mk ((by rw [hg]; exact (below_size (by repeat (first | (with_reducible first | exact HB.out | apply below_alloc | apply pw_below_drewN | apply below_drew1) | exact HB.out))) : w.heap.size ≤ gb194)); clear HB; have HB := n0_; have BK194 := n1_; have GW194 := n2_; have GE194 := n3_; clear n0_ n1_ n2_ n3_; clear hb hbox hg) | ((with_reducible refine gate_dst (N := 3) rfl ?_); refine box_event ?hg (N := 3) ?hd (cs := #[.int .i64 a1_0, .string a1_1, .string a1_2, .string a1_3, .slice A1_4 l1_4.length c1_4, .slice A1_5 l1_5.length c1_5, .bool a1_6, .int .i64 a1_7, .int .i64 a1_8, .bool a1_9, .int .i64 a1_10, .int .i64 a1_11, .bool a1_12, .int .i64 a1_13, .int .i64 a1_14, .bool a1_15, .int .i64 a1_16, .int .i64 a1_17, .bool a1_18, .slice A1_19 l1_19.length c1_19]) (t := 52) ?hr ?_; (case hd => rfl); (case hg => rfl); (case hr => first | (go_simp; done) | (go_simp; rfl)); intro gb195 hg w6 hbox hb; have n0_ := Aside0.mk (blk_below (g := gb194) (o := .cells #[.int .i64 a0_0, .string a0_1, .string a0_2, .string a0_3, .slice A0_4 l0_4.length c0_4, .slice A0_5 l0_5.length c0_5, .bool a0_6, .int .i64 a0_7, .int .i64 a0_8, .bool a0_9, .int .i64 a0_10, .int .i64 a0_11, .bool a0_12, .int .i64 a0_13, .int .i64 a0_14, .bool a0_15, .int .i64 a0_16, .int .i64 a0_17, .bool a0_18, .slice A0_19 l0_19.length c0_19] 52 (0, 0)) (by (with_reducible repeat (first | refine blk_drewN ?_ _ | refine blk_drew ?_ | refine blk_alloc ?_ _)); exact BK194.out) hb); have n1_ := Aside0.mk (below_step (by repeat (first | (with_reducible first | exact HB.out | apply below_alloc | apply pw_below_drewN | apply below_drew1 | refine below_set ?_ GE194.out) | exact HB.out)) hb); have n2_ := Aside0.mk (hbox); have n3_ := Aside0.mk ((by rw [hg]; exact (below_size (by repeat (first | (with_reducible first | exact HB.out | apply below_alloc | apply pw_below_drewN | apply below_drew1 | refine below_set ?_ GE194.out) | exact HB.out))) : w.heap.size ≤ gb195)); have n4_ := Aside0.mk ((by rw [hg]; exact (below_size (by repeat (first | (with_reducible first | exact HB.out | apply below_alloc | apply pw_below_drewN | apply below_drew1 | refine below_set ?_ GE194.out) | exact HB.out))) : w.heap.size ≤ gb195)); have n5_ := Aside0.mk ((by rw [hg]; exact Nat.ne_of_lt (blk_lt (g := gb194) (o := .cells #[.int .i64 a0_0, .string a0_1, .string a0_2, .string a0_3, .slice A0_4 l0_4.length c0_4, .slice A0_5 l0_5.length c0_5, .bool a0_6, .int .i64 a0_7, .int .i64 a0_8, .bool a0_9, .int .i64 a0_10, .int .i64 a0_11, .bool a0_12, .int .i64 a0_13, .int .i64 a0_14, .bool a0_15, .int .i64 a0_16, .int .i64 a0_17, .bool a0_18, .slice A0_19 l0_19.length c0_19] 52 (0, 0)) (by (with_reducible repeat (first | refine blk_drewN ?_ _ | refine blk_drew ?_ | refine blk_alloc ?_ _)); exact BK194.out)) : gb194 ≠ gb195)); have n6_ := Aside0.mk ((by rw [hg]; exact Nat.ne_of_gt (blk_lt (g := gb194) (o := .cells #[.int .i64 a0_0, .string a0_1, .string a0_2, .string a0_3, .slice A0_4 l0_4.length c0_4, .slice A0_5 l0_5.length c0_5, .bool a0_6, .int .i64 a0_7, .int .i64 a0_8, .bool a0_9, .int .i64 a0_10, .int .i64 a0_11, .bool a0_12, .int .i64 a0_13, .int .i64 a0_14, .bool a0_15, .int .i64 a0_16, .int .i64 a0_17, .bool a0_18, .slice A0_19 l0_19.length c0_19] 52 (0, 0)) (by (with_reducible repeat (first | refine blk_drewN ?_ _ | refine blk_drew ?_ | refine blk_alloc ?_ _)); exact BK194.out)) : gb195 ≠ gb194)); clear BK194; clear HB; have BK194 := n0_; have HB := n1_; have BK195 := n2_; have GW195 := n3_; have GE195 := n4_; have NB194_195 := n5_; have NB195_194 := n6_; clear n0_ n1_ n2_ n3_ n4_ n5_ n6_; clear hb hbox hg; have hnb7 := NB194_195.out; have hnc7 := NB195_194.out; have hcz8_0 : w6.cell? ⟨gb194, 0, none⟩ = some (.int .i64 a0_0) := (blk_cell BK194.out 0).trans rfl; have hcz8_1 : w6.cell? ⟨gb194, 1, none⟩ = some (.string a0_1) := (blk_cell BK194.out 1).trans rfl; have hcz8_2 : w6.cell? ⟨gb194, 2, none⟩ = some (.string a0_2) := (blk_cell BK194.out 2).trans rfl; have hcz8_3 : w6.cell? ⟨gb194, 3, none⟩ = some (.string a0_3) := (blk_cell BK194.out 3).trans rfl; have hcz8_4 : w6.cell? ⟨gb194, 4, none⟩ = some (.slice A0_4 l0_4.length c0_4) := (blk_cell BK194.out 4).trans rfl; have hcz8_5 : w6.cell? ⟨gb194, 5, none⟩ = some (.slice A0_5 l0_5.length c0_5) := (blk_cell BK194.out 5).trans rfl; have hcz8_6 : w6.cell? ⟨gb194, 6, none⟩ = some (.bool a0_6) := (blk_cell BK194.out 6).trans rfl; have hcz8_7 : w6.cell? ⟨gb194, 7, none⟩ = some (.int .i64 a0_7) := (blk_cell BK194.out 7).trans rfl; have hcz8_8 : w6.cell? ⟨gb194, 8, none⟩ = some (.int .i64 a0_8) := (blk_cell BK194.out 8).trans rfl; have hcz8_9 : w6.cell? ⟨gb194, 9, none⟩ = some (.bool a0_9) := (blk_cell BK194.out 9).trans rfl; have hcz8_10 : w6.cell? ⟨gb194, 10, none⟩ = some (.int .i64 a0_10) := (blk_cell BK194.out 10).trans rfl; have hcz8_11 : w6.cell? ⟨gb194, 11, none⟩ = some (.int .i64 a0_11) := (blk_cell BK194.out 11).trans rfl; have hcz8_12 : w6.cell? ⟨gb194, 12, none⟩ = some (.bool a0_12) := (blk_cell BK194.out 12).trans rfl; have hcz8_13 : w6.cell? ⟨gb194, 13, none⟩ = some (.int .i64 a0_13) := (blk_cell BK194.out 13).trans rfl; have hcz8_14 : w6.cell? ⟨gb194, 14, none⟩ = some (.int .i64 a0_14) := (blk_cell BK194.out 14).trans rfl; have hcz8_15 : w6.cell? ⟨gb194, 15, none⟩ = some (.bool a0_15) := (blk_cell BK194.out 15).trans rfl; have hcz8_16 : w6.cell? ⟨gb194, 16, none⟩ = some (.int .i64 a0_16) := (blk_cell BK194.out 16).trans rfl; have hcz8_17 : w6.cell? ⟨gb194, 17, none⟩ = some (.int .i64 a0_17) := (blk_cell BK194.out 17).trans rfl; have hcz8_18 : w6.cell? ⟨gb194, 18, none⟩ = some (.bool a0_18) := (blk_cell BK194.out 18).trans rfl; have hcz8_19 : w6.cell? ⟨gb194, 19, none⟩ = some (.slice A0_19 l0_19.length c0_19) := (blk_cell BK194.out 19).trans rfl; have hfz8_0 := blk_frozen BK194.out 0; have hfz8_1 := blk_frozen BK194.out 1; have hfz8_2 := blk_frozen BK194.out 2; have hfz8_3 := blk_frozen BK194.out 3; have hfz8_4 := blk_frozen BK194.out 4; have hfz8_5 := blk_frozen BK194.out 5; have hfz8_6 := blk_frozen BK194.out 6; have hfz8_7 := blk_frozen BK194.out 7; have hfz8_8 := blk_frozen BK194.out 8; have hfz8_9 := blk_frozen BK194.out 9; have hfz8_10 := blk_frozen BK194.out 10; have hfz8_11 := blk_frozen BK194.out 11; have hfz8_12 := blk_frozen BK194.out 12; have hfz8_13 := blk_frozen BK194.out 13; have hfz8_14 := blk_frozen BK194.out 14; have hfz8_15 := blk_frozen BK194.out 15; have hfz8_16 := blk_frozen BK194.out 16; have hfz8_17 := blk_frozen BK194.out 17; have hfz8_18 := blk_frozen BK194.out 18; have hfz8_19 := blk_frozen BK194.out 19; have hcz9_0 : w6.cell? ⟨gb195, 0, none⟩ = some (.int .i64 a1_0) := (blk_cell BK195.out 0).trans rfl; have hcz9_1 : w6.cell? ⟨gb195, 1, none⟩ = some (.string a1_1) := (blk_cell BK195.out 1).trans rfl; have hcz9_2 : w6.cell? ⟨gb195, 2, none⟩ = some (.string a1_2) := (blk_cell BK195.out 2).trans rfl; have hcz9_3 : w6.cell? ⟨gb195, 3, none⟩ = some (.string a1_3) := (blk_cell BK195.out 3).trans rfl; have hcz9_4 : w6.cell? ⟨gb195, 4, none⟩ = some (.slice A1_4 l1_4.length c1_4) := (blk_cell BK195.out 4).trans rfl; have hcz9_5 : w6.cell? ⟨gb195, 5, none⟩ = some (.slice A1_5 l1_5.length c1_5) := (blk_cell BK195.out 5).trans rfl; have hcz9_6 : w6.cell? ⟨gb195, 6, none⟩ = some (.bool a1_6) := (blk_cell BK195.out 6).trans rfl; have hcz9_7 : w6.cell? ⟨gb195, 7, none⟩ = some (.int .i64 a1_7) := (blk_cell BK195.out 7).trans rfl; have hcz9_8 : w6.cell? ⟨gb195, 8, none⟩ = some (.int .i64 a1_8) := (blk_cell BK195.out 8).trans rfl; have hcz9_9 : w6.cell? ⟨gb195, 9, none⟩ = some (.bool a1_9) := (blk_cell BK195.out 9).trans rfl; have hcz9_10 : w6.cell? ⟨gb195, 10, none⟩ = some (.int .i64 a1_10) := (blk_cell BK195.out 10).trans rfl; have hcz9_11 : w6.cell? ⟨gb195, 11, none⟩ = some (.int .i64 a1_11) := (blk_cell BK195.out 11).trans rfl; have hcz9_12 : w6.cell? ⟨gb195, 12, none⟩ = some (.bool a1_12) := (blk_cell BK195.out 12).trans rfl; have hcz9_13 : w6.cell? ⟨gb195, 13, none⟩ = some (.int .i64 a1_13) := (blk_cell BK195.out 13).trans rfl; have hcz9_14 : w6.cell? ⟨gb195, 14, none⟩ = some (.int .i64 a1_14) := (blk_cell BK195.out 14).trans rfl; have hcz9_15 : w6.cell? ⟨gb195, 15, none⟩ = some (.bool a1_15) := (blk_cell BK195.out 15).trans rfl; have hcz9_16 : w6.cell? ⟨gb195, 16, none⟩ = some (.int .i64 a1_16) := (blk_cell BK195.out 16).trans rfl; have hcz9_17 : w6.cell? ⟨gb195, 17, none⟩ = some (.int .i64 a1_17) := (blk_cell BK195.out 17).trans rfl; have hcz9_18 : w6.cell? ⟨gb195, 18, none⟩ = some (.bool a1_18) := (blk_cell BK195.out 18).trans rfl; have hcz9_19 : w6.cell? ⟨gb195, 19, none⟩ = some (.slice A1_19 l1_19.length c1_19) := (blk_cell BK195.out 19).trans rfl; have hfz9_0 := blk_frozen BK195.out 0; have hfz9_1 := blk_frozen BK195.out 1; have hfz9_2 := blk_frozen BK195.out 2; have hfz9_3 := blk_frozen BK195.out 3; have hfz9_4 := blk_frozen BK195.out 4; have hfz9_5 := blk_frozen BK195.out 5; have hfz9_6 := blk_frozen BK195.out 6; have hfz9_7 := blk_frozen BK195.out 7; have hfz9_8 := blk_frozen BK195.out 8; have hfz9_9 := blk_frozen BK195.out 9; have hfz9_10 := blk_frozen BK195.out 10; have hfz9_11 := blk_frozen BK195.out 11; have hfz9_12 := blk_frozen BK195.out 12; have hfz9_13 := blk_frozen BK195.out 13; have hfz9_14 := blk_frozen BK195.out 14; have hfz9_15 := blk_frozen BK195.out 15; have hfz9_16 := blk_frozen BK195.out 16; have hfz9_17 := blk_frozen BK195.out 17; have hfz9_18 := blk_frozen BK195.out 18; have hfz9_19 := blk_frozen BK195.out 19) | ((with_reducible refine gate_callee (f := 76) rfl ?_); refine goesL_ (some 9) rfl rfl Try.func76 (by kernel_rfl) rfl #[.agg #[.int .i64 a0_0, .string a0_1, .string a0_2, .string a0_3], .agg #[.int .i64 a1_0, .string a1_1, .string a1_2, .string a1_3]] rfl (by (try simp only [List.map_toArray, List.map_cons, List.map_nil]); first | done | rfl | (simp only [List.length_drop, List.length_take]; rfl)) ?_; (with_reducible refine (laws_eqHead.calls a0_0 a0_1 a0_2 a0_3 a1_0 a1_1 a1_2 a1_3 t196 _ A3.out).mono ?_); rintro e w10 ⟨rfl, hb⟩; refine ⟨_, rfl, ?_⟩; have n0_ := Aside0.mk (blk_below (g := gb194) (o := .cells #[.int .i64 a0_0, .string a0_1, .string a0_2, .string a0_3, .slice A0_4 l0_4.length c0_4, .slice A0_5 l0_5.length c0_5, .bool a0_6, .int .i64 a0_7, .int .i64 a0_8, .bool a0_9, .int .i64 a0_10, .int .i64 a0_11, .bool a0_12, .int .i64 a0_13, .int .i64 a0_14, .bool a0_15, .int .i64 a0_16, .int .i64 a0_17, .bool a0_18, .slice A0_19 l0_19.length c0_19] 52 (0, 0)) (by (with_reducible repeat (first | refine blk_drewN ?_ _ | refine blk_drew ?_ | refine blk_alloc ?_ _)); exact BK194.out) hb); have n1_ := Aside0.mk (blk_below (g := gb195) (o := .cells #[.int .i64 a1_0, .string a1_1, .string a1_2, .string a1_3, .slice A1_4 l1_4.length c1_4, .slice A1_5 l1_5.length c1_5, .bool a1_6, .int .i64 a1_7, .int .i64 a1_8, .bool a1_9, .int .i64 a1_10, .int .i64 a1_11, .bool a1_12, .int .i64 a1_13, .int .i64 a1_14, .bool a1_15, .int .i64 a1_16, .int .i64 a1_17, .bool a1_18, .slice A1_19 l1_19.length c1_19] 52 (0, 0)) (by (with_reducible repeat (first | refine blk_drewN ?_ _ | refine blk_drew ?_ | refine blk_alloc ?_ _)); exact BK195.out) hb); have n2_ := Aside0.mk (below_step (by repeat (first | (with_reducible first | exact HB.out | apply below_alloc | apply pw_below_drewN | apply below_drew1 | refine below_set ?_ GE194.out | refine below_set ?_ GE195.out) | exact HB.out)) hb); clear BK194; clear BK195; clear HB; have BK194 := n0_; have BK195 := n1_; have HB := n2_; clear n0_ n1_ n2_; (try clear hb); (try clear hb2); (try clear hk); (try clear hi)))) | go_values | go_skip | go_guarded | ((with_reducible refine wp_cond_true ?_ ?_); (focus rfl)) | ((with_reducible refine wp_cond_false ?_ ?_); (focus rfl)) | ((fail_if_success (with_reducible apply wp_cond_split)); (first | go_step | go_upon | go_back)) | dsimp only)
  have H := HQ4.out
  clear HQ4
  by_cases c11 : t196 = true
  · subst c11
    have H1 : ((laws_eqCommittee.f k l0_4 l1_4).bind fun t197 => (if t197 = true then ((laws_eqCommittee.f k l0_5 l1_5).bind fun t198 => (if t198 = true then (if (a0_6 != a1_6) = true then (some false) else ((laws_eqKeys.f k a0_7 a0_8 a0_9 a0_10 a0_11 a0_12 a0_13 a0_14 a0_15 a0_16 a0_17 a0_18 l0_19 a1_7 a1_8 a1_9 a1_10 a1_11 a1_12 a1_13 a1_14 a1_15 a1_16 a1_17 a1_18 l1_19).bind fun t199 => (if t199 = true then (some true) else (some false)))) else (some false))) else (some false))) = some r := by rw [if_pos rfl] at H; exact H
    clear H
    have H := H1
    clear H1
    replace H := Option.bind_eq_some_iff.mp H
    obtain ⟨t197, A120, H⟩ := H
    replace H : (if t197 = true then ((laws_eqCommittee.f k l0_5 l1_5).bind fun t198 => (if t198 = true then (if (a0_6 != a1_6) = true then (some false) else ((laws_eqKeys.f k a0_7 a0_8 a0_9 a0_10 a0_11 a0_12 a0_13 a0_14 a0_15 a0_16 a0_17 a0_18 l0_19 a1_7 a1_8 a1_9 a1_10 a1_11 a1_12 a1_13 a1_14 a1_15 a1_16 a1_17 a1_18 l1_19).bind fun t199 => (if t199 = true then (some true) else (some false)))) else (some false))) else (some false)) = some r := H
    have A12 := Aside0.mk A120
    clear A120
    have HQ13 := Aside0.mk H
    clear H
    have hnb14 := NB194_195.out
    have hnc14 := NB195_194.out
    have hcz15_0 : w10.cell? ⟨gb194, 0, none⟩ = some (.int .i64 a0_0) := (blk_cell BK194.out 0).trans rfl
    have hcz15_1 : w10.cell? ⟨gb194, 1, none⟩ = some (.string a0_1) := (blk_cell BK194.out 1).trans rfl
    have hcz15_2 : w10.cell? ⟨gb194, 2, none⟩ = some (.string a0_2) := (blk_cell BK194.out 2).trans rfl
    have hcz15_3 : w10.cell? ⟨gb194, 3, none⟩ = some (.string a0_3) := (blk_cell BK194.out 3).trans rfl
    have hcz15_4 : w10.cell? ⟨gb194, 4, none⟩ = some (.slice A0_4 l0_4.length c0_4) := (blk_cell BK194.out 4).trans rfl
    have hcz15_5 : w10.cell? ⟨gb194, 5, none⟩ = some (.slice A0_5 l0_5.length c0_5) := (blk_cell BK194.out 5).trans rfl
    have hcz15_6 : w10.cell? ⟨gb194, 6, none⟩ = some (.bool a0_6) := (blk_cell BK194.out 6).trans rfl
    have hcz15_7 : w10.cell? ⟨gb194, 7, none⟩ = some (.int .i64 a0_7) := (blk_cell BK194.out 7).trans rfl
    have hcz15_8 : w10.cell? ⟨gb194, 8, none⟩ = some (.int .i64 a0_8) := (blk_cell BK194.out 8).trans rfl
    have hcz15_9 : w10.cell? ⟨gb194, 9, none⟩ = some (.bool a0_9) := (blk_cell BK194.out 9).trans rfl
    have hcz15_10 : w10.cell? ⟨gb194, 10, none⟩ = some (.int .i64 a0_10) := (blk_cell BK194.out 10).trans rfl
    have hcz15_11 : w10.cell? ⟨gb194, 11, none⟩ = some (.int .i64 a0_11) := (blk_cell BK194.out 11).trans rfl
    have hcz15_12 : w10.cell? ⟨gb194, 12, none⟩ = some (.bool a0_12) := (blk_cell BK194.out 12).trans rfl
    have hcz15_13 : w10.cell? ⟨gb194, 13, none⟩ = some (.int .i64 a0_13) := (blk_cell BK194.out 13).trans rfl
    have hcz15_14 : w10.cell? ⟨gb194, 14, none⟩ = some (.int .i64 a0_14) := (blk_cell BK194.out 14).trans rfl
    have hcz15_15 : w10.cell? ⟨gb194, 15, none⟩ = some (.bool a0_15) := (blk_cell BK194.out 15).trans rfl
    have hcz15_16 : w10.cell? ⟨gb194, 16, none⟩ = some (.int .i64 a0_16) := (blk_cell BK194.out 16).trans rfl
    have hcz15_17 : w10.cell? ⟨gb194, 17, none⟩ = some (.int .i64 a0_17) := (blk_cell BK194.out 17).trans rfl
    have hcz15_18 : w10.cell? ⟨gb194, 18, none⟩ = some (.bool a0_18) := (blk_cell BK194.out 18).trans rfl
    have hcz15_19 : w10.cell? ⟨gb194, 19, none⟩ = some (.slice A0_19 l0_19.length c0_19) := (blk_cell BK194.out 19).trans rfl
    have hfz15_0 := blk_frozen BK194.out 0
    have hfz15_1 := blk_frozen BK194.out 1
    have hfz15_2 := blk_frozen BK194.out 2
    have hfz15_3 := blk_frozen BK194.out 3
    have hfz15_4 := blk_frozen BK194.out 4
    have hfz15_5 := blk_frozen BK194.out 5
    have hfz15_6 := blk_frozen BK194.out 6
    have hfz15_7 := blk_frozen BK194.out 7
    have hfz15_8 := blk_frozen BK194.out 8
    have hfz15_9 := blk_frozen BK194.out 9
    have hfz15_10 := blk_frozen BK194.out 10
    have hfz15_11 := blk_frozen BK194.out 11
    have hfz15_12 := blk_frozen BK194.out 12
    have hfz15_13 := blk_frozen BK194.out 13
    have hfz15_14 := blk_frozen BK194.out 14
    have hfz15_15 := blk_frozen BK194.out 15
    have hfz15_16 := blk_frozen BK194.out 16
    have hfz15_17 := blk_frozen BK194.out 17
    have hfz15_18 := blk_frozen BK194.out 18
    have hfz15_19 := blk_frozen BK194.out 19
    have hcz16_0 : w10.cell? ⟨gb195, 0, none⟩ = some (.int .i64 a1_0) := (blk_cell BK195.out 0).trans rfl
    have hcz16_1 : w10.cell? ⟨gb195, 1, none⟩ = some (.string a1_1) := (blk_cell BK195.out 1).trans rfl
    have hcz16_2 : w10.cell? ⟨gb195, 2, none⟩ = some (.string a1_2) := (blk_cell BK195.out 2).trans rfl
    have hcz16_3 : w10.cell? ⟨gb195, 3, none⟩ = some (.string a1_3) := (blk_cell BK195.out 3).trans rfl
    have hcz16_4 : w10.cell? ⟨gb195, 4, none⟩ = some (.slice A1_4 l1_4.length c1_4) := (blk_cell BK195.out 4).trans rfl
    have hcz16_5 : w10.cell? ⟨gb195, 5, none⟩ = some (.slice A1_5 l1_5.length c1_5) := (blk_cell BK195.out 5).trans rfl
    have hcz16_6 : w10.cell? ⟨gb195, 6, none⟩ = some (.bool a1_6) := (blk_cell BK195.out 6).trans rfl
    have hcz16_7 : w10.cell? ⟨gb195, 7, none⟩ = some (.int .i64 a1_7) := (blk_cell BK195.out 7).trans rfl
    have hcz16_8 : w10.cell? ⟨gb195, 8, none⟩ = some (.int .i64 a1_8) := (blk_cell BK195.out 8).trans rfl
    have hcz16_9 : w10.cell? ⟨gb195, 9, none⟩ = some (.bool a1_9) := (blk_cell BK195.out 9).trans rfl
    have hcz16_10 : w10.cell? ⟨gb195, 10, none⟩ = some (.int .i64 a1_10) := (blk_cell BK195.out 10).trans rfl
    have hcz16_11 : w10.cell? ⟨gb195, 11, none⟩ = some (.int .i64 a1_11) := (blk_cell BK195.out 11).trans rfl
    have hcz16_12 : w10.cell? ⟨gb195, 12, none⟩ = some (.bool a1_12) := (blk_cell BK195.out 12).trans rfl
    have hcz16_13 : w10.cell? ⟨gb195, 13, none⟩ = some (.int .i64 a1_13) := (blk_cell BK195.out 13).trans rfl
    have hcz16_14 : w10.cell? ⟨gb195, 14, none⟩ = some (.int .i64 a1_14) := (blk_cell BK195.out 14).trans rfl
    have hcz16_15 : w10.cell? ⟨gb195, 15, none⟩ = some (.bool a1_15) := (blk_cell BK195.out 15).trans rfl
    have hcz16_16 : w10.cell? ⟨gb195, 16, none⟩ = some (.int .i64 a1_16) := (blk_cell BK195.out 16).trans rfl
    have hcz16_17 : w10.cell? ⟨gb195, 17, none⟩ = some (.int .i64 a1_17) := (blk_cell BK195.out 17).trans rfl
    have hcz16_18 : w10.cell? ⟨gb195, 18, none⟩ = some (.bool a1_18) := (blk_cell BK195.out 18).trans rfl
    have hcz16_19 : w10.cell? ⟨gb195, 19, none⟩ = some (.slice A1_19 l1_19.length c1_19) := (blk_cell BK195.out 19).trans rfl
    have hfz16_0 := blk_frozen BK195.out 0
    have hfz16_1 := blk_frozen BK195.out 1
    have hfz16_2 := blk_frozen BK195.out 2
    have hfz16_3 := blk_frozen BK195.out 3
    have hfz16_4 := blk_frozen BK195.out 4
    have hfz16_5 := blk_frozen BK195.out 5
    have hfz16_6 := blk_frozen BK195.out 6
    have hfz16_7 := blk_frozen BK195.out 7
    have hfz16_8 := blk_frozen BK195.out 8
    have hfz16_9 := blk_frozen BK195.out 9
    have hfz16_10 := blk_frozen BK195.out 10
    have hfz16_11 := blk_frozen BK195.out 11
    have hfz16_12 := blk_frozen BK195.out 12
    have hfz16_13 := blk_frozen BK195.out 13
    have hfz16_14 := blk_frozen BK195.out 14
    have hfz16_15 := blk_frozen BK195.out 15
    have hfz16_16 := blk_frozen BK195.out 16
    have hfz16_17 := blk_frozen BK195.out 17
    have hfz16_18 := blk_frozen BK195.out 18
    have hfz16_19 := blk_frozen BK195.out 19
    repeat' (first | (go_big_may; (first | ((with_reducible refine gate_callee (f := 21) rfl ?_); refine goesL_ (some 15) rfl rfl Try.func21 (by kernel_rfl) rfl #[.agg #[.slice A0_4 l0_4.length c0_4], .agg #[.slice A1_4 l1_4.length c1_4]] rfl (by (try simp only [List.map_toArray, List.map_cons, List.map_nil]); first | done | rfl | (simp only [List.length_drop, List.length_take]; rfl)) ?_; (with_reducible refine (laws_eqCommittee.calls k _ _ l0_4 _ _ l1_4 t197 _ ?side1 ?side2 ?side3 ?side4 A12.out).mono ?_); (case side1 => repeat (first | exact (Kd.C_below HR0_4.out HB.out) | (with_reducible refine Kd.C_alloc ?_ _) | (with_reducible refine Kd.C_drewN ?_ _) | (with_reducible refine Kd.C_drew ?_))); (case side2 => exact HC0_4.out); (case side3 => repeat (first | exact (Kd.C_below HR1_4.out HB.out) | (with_reducible refine Kd.C_alloc ?_ _) | (with_reducible refine Kd.C_drewN ?_ _) | (with_reducible refine Kd.C_drew ?_))); (case side4 => exact HC1_4.out); rintro e w17 ⟨rfl, hb⟩; refine ⟨_, rfl, ?_⟩; have n0_ := Aside0.mk (blk_below (g := gb194) (o := .cells #[.int .i64 a0_0, .string a0_1, .string a0_2, .string a0_3, .slice A0_4 l0_4.length c0_4, .slice A0_5 l0_5.length c0_5, .bool a0_6, .int .i64 a0_7, .int .i64 a0_8, .bool a0_9, .int .i64 a0_10, .int .i64 a0_11, .bool a0_12, .int .i64 a0_13, .int .i64 a0_14, .bool a0_15, .int .i64 a0_16, .int .i64 a0_17, .bool a0_18, .slice A0_19 l0_19.length c0_19] 52 (0, 0)) (by (with_reducible repeat (first | refine blk_drewN ?_ _ | refine blk_drew ?_ | refine blk_alloc ?_ _)); exact BK194.out) hb); have n1_ := Aside0.mk (blk_below (g := gb195) (o := .cells #[.int .i64 a1_0, .string a1_1, .string a1_2, .string a1_3, .slice A1_4 l1_4.length c1_4, .slice A1_5 l1_5.length c1_5, .bool a1_6, .int .i64 a1_7, .int .i64 a1_8, .bool a1_9, .int .i64 a1_10, .int .i64 a1_11, .bool a1_12, .int .i64 a1_13, .int .i64 a1_14, .bool a1_15, .int .i64 a1_16, .int .i64 a1_17, .bool a1_18, .slice A1_19 l1_19.length c1_19] 52 (0, 0)) (by (with_reducible repeat (first | refine blk_drewN ?_ _ | refine blk_drew ?_ | refine blk_alloc ?_ _)); exact BK195.out) hb); have n2_ := Aside0.mk (below_step (by repeat (first | (with_reducible first | exact HB.out | apply below_alloc | apply pw_below_drewN | apply below_drew1 | refine below_set ?_ GE194.out | refine below_set ?_ GE195.out) | exact HB.out)) hb); clear BK194; clear BK195; clear HB; have BK194 := n0_; have BK195 := n1_; have HB := n2_; clear n0_ n1_ n2_; (try clear hb); (try clear hb2); (try clear hk); (try clear hi)))) | go_values | go_skip | go_guarded | ((with_reducible refine wp_cond_true ?_ ?_); (focus rfl)) | ((with_reducible refine wp_cond_false ?_ ?_); (focus rfl)) | ((fail_if_success (with_reducible apply wp_cond_split)); (first | go_step | go_upon | go_back)) | dsimp only)
    have H := HQ13.out
    clear HQ13
    by_cases c18 : t197 = true
    · subst c18
      have H1 : ((laws_eqCommittee.f k l0_5 l1_5).bind fun t198 => (if t198 = true then (if (a0_6 != a1_6) = true then (some false) else ((laws_eqKeys.f k a0_7 a0_8 a0_9 a0_10 a0_11 a0_12 a0_13 a0_14 a0_15 a0_16 a0_17 a0_18 l0_19 a1_7 a1_8 a1_9 a1_10 a1_11 a1_12 a1_13 a1_14 a1_15 a1_16 a1_17 a1_18 l1_19).bind fun t199 => (if t199 = true then (some true) else (some false)))) else (some false))) = some r := by rw [if_pos rfl] at H; exact H
      clear H
      have H := H1
      clear H1
      replace H := Option.bind_eq_some_iff.mp H
      obtain ⟨t198, A190, H⟩ := H
      replace H : (if t198 = true then (if (a0_6 != a1_6) = true then (some false) else ((laws_eqKeys.f k a0_7 a0_8 a0_9 a0_10 a0_11 a0_12 a0_13 a0_14 a0_15 a0_16 a0_17 a0_18 l0_19 a1_7 a1_8 a1_9 a1_10 a1_11 a1_12 a1_13 a1_14 a1_15 a1_16 a1_17 a1_18 l1_19).bind fun t199 => (if t199 = true then (some true) else (some false)))) else (some false)) = some r := H
      have A19 := Aside0.mk A190
      clear A190
      have HQ20 := Aside0.mk H
      clear H
      have hnb21 := NB194_195.out
      have hnc21 := NB195_194.out
      have hcz22_0 : w17.cell? ⟨gb194, 0, none⟩ = some (.int .i64 a0_0) := (blk_cell BK194.out 0).trans rfl
      have hcz22_1 : w17.cell? ⟨gb194, 1, none⟩ = some (.string a0_1) := (blk_cell BK194.out 1).trans rfl
      have hcz22_2 : w17.cell? ⟨gb194, 2, none⟩ = some (.string a0_2) := (blk_cell BK194.out 2).trans rfl
      have hcz22_3 : w17.cell? ⟨gb194, 3, none⟩ = some (.string a0_3) := (blk_cell BK194.out 3).trans rfl
      have hcz22_4 : w17.cell? ⟨gb194, 4, none⟩ = some (.slice A0_4 l0_4.length c0_4) := (blk_cell BK194.out 4).trans rfl
      have hcz22_5 : w17.cell? ⟨gb194, 5, none⟩ = some (.slice A0_5 l0_5.length c0_5) := (blk_cell BK194.out 5).trans rfl
      have hcz22_6 : w17.cell? ⟨gb194, 6, none⟩ = some (.bool a0_6) := (blk_cell BK194.out 6).trans rfl
      have hcz22_7 : w17.cell? ⟨gb194, 7, none⟩ = some (.int .i64 a0_7) := (blk_cell BK194.out 7).trans rfl
      have hcz22_8 : w17.cell? ⟨gb194, 8, none⟩ = some (.int .i64 a0_8) := (blk_cell BK194.out 8).trans rfl
      have hcz22_9 : w17.cell? ⟨gb194, 9, none⟩ = some (.bool a0_9) := (blk_cell BK194.out 9).trans rfl
      have hcz22_10 : w17.cell? ⟨gb194, 10, none⟩ = some (.int .i64 a0_10) := (blk_cell BK194.out 10).trans rfl
      have hcz22_11 : w17.cell? ⟨gb194, 11, none⟩ = some (.int .i64 a0_11) := (blk_cell BK194.out 11).trans rfl
      have hcz22_12 : w17.cell? ⟨gb194, 12, none⟩ = some (.bool a0_12) := (blk_cell BK194.out 12).trans rfl
      have hcz22_13 : w17.cell? ⟨gb194, 13, none⟩ = some (.int .i64 a0_13) := (blk_cell BK194.out 13).trans rfl
      have hcz22_14 : w17.cell? ⟨gb194, 14, none⟩ = some (.int .i64 a0_14) := (blk_cell BK194.out 14).trans rfl
      have hcz22_15 : w17.cell? ⟨gb194, 15, none⟩ = some (.bool a0_15) := (blk_cell BK194.out 15).trans rfl
      have hcz22_16 : w17.cell? ⟨gb194, 16, none⟩ = some (.int .i64 a0_16) := (blk_cell BK194.out 16).trans rfl
      have hcz22_17 : w17.cell? ⟨gb194, 17, none⟩ = some (.int .i64 a0_17) := (blk_cell BK194.out 17).trans rfl
      have hcz22_18 : w17.cell? ⟨gb194, 18, none⟩ = some (.bool a0_18) := (blk_cell BK194.out 18).trans rfl
      have hcz22_19 : w17.cell? ⟨gb194, 19, none⟩ = some (.slice A0_19 l0_19.length c0_19) := (blk_cell BK194.out 19).trans rfl
      have hfz22_0 := blk_frozen BK194.out 0
      have hfz22_1 := blk_frozen BK194.out 1
      have hfz22_2 := blk_frozen BK194.out 2
      have hfz22_3 := blk_frozen BK194.out 3
      have hfz22_4 := blk_frozen BK194.out 4
      have hfz22_5 := blk_frozen BK194.out 5
      have hfz22_6 := blk_frozen BK194.out 6
      have hfz22_7 := blk_frozen BK194.out 7
      have hfz22_8 := blk_frozen BK194.out 8
      have hfz22_9 := blk_frozen BK194.out 9
      have hfz22_10 := blk_frozen BK194.out 10
      have hfz22_11 := blk_frozen BK194.out 11
      have hfz22_12 := blk_frozen BK194.out 12
      have hfz22_13 := blk_frozen BK194.out 13
      have hfz22_14 := blk_frozen BK194.out 14
      have hfz22_15 := blk_frozen BK194.out 15
      have hfz22_16 := blk_frozen BK194.out 16
      have hfz22_17 := blk_frozen BK194.out 17
      have hfz22_18 := blk_frozen BK194.out 18
      have hfz22_19 := blk_frozen BK194.out 19
      have hcz23_0 : w17.cell? ⟨gb195, 0, none⟩ = some (.int .i64 a1_0) := (blk_cell BK195.out 0).trans rfl
      have hcz23_1 : w17.cell? ⟨gb195, 1, none⟩ = some (.string a1_1) := (blk_cell BK195.out 1).trans rfl
      have hcz23_2 : w17.cell? ⟨gb195, 2, none⟩ = some (.string a1_2) := (blk_cell BK195.out 2).trans rfl
      have hcz23_3 : w17.cell? ⟨gb195, 3, none⟩ = some (.string a1_3) := (blk_cell BK195.out 3).trans rfl
      have hcz23_4 : w17.cell? ⟨gb195, 4, none⟩ = some (.slice A1_4 l1_4.length c1_4) := (blk_cell BK195.out 4).trans rfl
      have hcz23_5 : w17.cell? ⟨gb195, 5, none⟩ = some (.slice A1_5 l1_5.length c1_5) := (blk_cell BK195.out 5).trans rfl
      have hcz23_6 : w17.cell? ⟨gb195, 6, none⟩ = some (.bool a1_6) := (blk_cell BK195.out 6).trans rfl
      have hcz23_7 : w17.cell? ⟨gb195, 7, none⟩ = some (.int .i64 a1_7) := (blk_cell BK195.out 7).trans rfl
      have hcz23_8 : w17.cell? ⟨gb195, 8, none⟩ = some (.int .i64 a1_8) := (blk_cell BK195.out 8).trans rfl
      have hcz23_9 : w17.cell? ⟨gb195, 9, none⟩ = some (.bool a1_9) := (blk_cell BK195.out 9).trans rfl
      have hcz23_10 : w17.cell? ⟨gb195, 10, none⟩ = some (.int .i64 a1_10) := (blk_cell BK195.out 10).trans rfl
      have hcz23_11 : w17.cell? ⟨gb195, 11, none⟩ = some (.int .i64 a1_11) := (blk_cell BK195.out 11).trans rfl
      have hcz23_12 : w17.cell? ⟨gb195, 12, none⟩ = some (.bool a1_12) := (blk_cell BK195.out 12).trans rfl
      have hcz23_13 : w17.cell? ⟨gb195, 13, none⟩ = some (.int .i64 a1_13) := (blk_cell BK195.out 13).trans rfl
      have hcz23_14 : w17.cell? ⟨gb195, 14, none⟩ = some (.int .i64 a1_14) := (blk_cell BK195.out 14).trans rfl
      have hcz23_15 : w17.cell? ⟨gb195, 15, none⟩ = some (.bool a1_15) := (blk_cell BK195.out 15).trans rfl
      have hcz23_16 : w17.cell? ⟨gb195, 16, none⟩ = some (.int .i64 a1_16) := (blk_cell BK195.out 16).trans rfl
      have hcz23_17 : w17.cell? ⟨gb195, 17, none⟩ = some (.int .i64 a1_17) := (blk_cell BK195.out 17).trans rfl
      have hcz23_18 : w17.cell? ⟨gb195, 18, none⟩ = some (.bool a1_18) := (blk_cell BK195.out 18).trans rfl
      have hcz23_19 : w17.cell? ⟨gb195, 19, none⟩ = some (.slice A1_19 l1_19.length c1_19) := (blk_cell BK195.out 19).trans rfl
      have hfz23_0 := blk_frozen BK195.out 0
      have hfz23_1 := blk_frozen BK195.out 1
      have hfz23_2 := blk_frozen BK195.out 2
      have hfz23_3 := blk_frozen BK195.out 3
      have hfz23_4 := blk_frozen BK195.out 4
      have hfz23_5 := blk_frozen BK195.out 5
      have hfz23_6 := blk_frozen BK195.out 6
      have hfz23_7 := blk_frozen BK195.out 7
      have hfz23_8 := blk_frozen BK195.out 8
      have hfz23_9 := blk_frozen BK195.out 9
      have hfz23_10 := blk_frozen BK195.out 10
      have hfz23_11 := blk_frozen BK195.out 11
      have hfz23_12 := blk_frozen BK195.out 12
      have hfz23_13 := blk_frozen BK195.out 13
      have hfz23_14 := blk_frozen BK195.out 14
      have hfz23_15 := blk_frozen BK195.out 15
      have hfz23_16 := blk_frozen BK195.out 16
      have hfz23_17 := blk_frozen BK195.out 17
      have hfz23_18 := blk_frozen BK195.out 18
      have hfz23_19 := blk_frozen BK195.out 19
      repeat' (first | (go_big_may; (first | ((with_reducible refine gate_callee (f := 21) rfl ?_); refine goesL_ (some 21) rfl rfl Try.func21 (by kernel_rfl) rfl #[.agg #[.slice A0_5 l0_5.length c0_5], .agg #[.slice A1_5 l1_5.length c1_5]] rfl (by (try simp only [List.map_toArray, List.map_cons, List.map_nil]); first | done | rfl | (simp only [List.length_drop, List.length_take]; rfl)) ?_; (with_reducible refine (laws_eqCommittee.calls k _ _ l0_5 _ _ l1_5 t198 _ ?side1 ?side2 ?side3 ?side4 A19.out).mono ?_); (case side1 => repeat (first | exact (Kd.C_below HR0_5.out HB.out) | (with_reducible refine Kd.C_alloc ?_ _) | (with_reducible refine Kd.C_drewN ?_ _) | (with_reducible refine Kd.C_drew ?_))); (case side2 => exact HC0_5.out); (case side3 => repeat (first | exact (Kd.C_below HR1_5.out HB.out) | (with_reducible refine Kd.C_alloc ?_ _) | (with_reducible refine Kd.C_drewN ?_ _) | (with_reducible refine Kd.C_drew ?_))); (case side4 => exact HC1_5.out); rintro e w24 ⟨rfl, hb⟩; refine ⟨_, rfl, ?_⟩; have n0_ := Aside0.mk (blk_below (g := gb194) (o := .cells #[.int .i64 a0_0, .string a0_1, .string a0_2, .string a0_3, .slice A0_4 l0_4.length c0_4, .slice A0_5 l0_5.length c0_5, .bool a0_6, .int .i64 a0_7, .int .i64 a0_8, .bool a0_9, .int .i64 a0_10, .int .i64 a0_11, .bool a0_12, .int .i64 a0_13, .int .i64 a0_14, .bool a0_15, .int .i64 a0_16, .int .i64 a0_17, .bool a0_18, .slice A0_19 l0_19.length c0_19] 52 (0, 0)) (by (with_reducible repeat (first | refine blk_drewN ?_ _ | refine blk_drew ?_ | refine blk_alloc ?_ _)); exact BK194.out) hb); have n1_ := Aside0.mk (blk_below (g := gb195) (o := .cells #[.int .i64 a1_0, .string a1_1, .string a1_2, .string a1_3, .slice A1_4 l1_4.length c1_4, .slice A1_5 l1_5.length c1_5, .bool a1_6, .int .i64 a1_7, .int .i64 a1_8, .bool a1_9, .int .i64 a1_10, .int .i64 a1_11, .bool a1_12, .int .i64 a1_13, .int .i64 a1_14, .bool a1_15, .int .i64 a1_16, .int .i64 a1_17, .bool a1_18, .slice A1_19 l1_19.length c1_19] 52 (0, 0)) (by (with_reducible repeat (first | refine blk_drewN ?_ _ | refine blk_drew ?_ | refine blk_alloc ?_ _)); exact BK195.out) hb); have n2_ := Aside0.mk (below_step (by repeat (first | (with_reducible first | exact HB.out | apply below_alloc | apply pw_below_drewN | apply below_drew1 | refine below_set ?_ GE194.out | refine below_set ?_ GE195.out) | exact HB.out)) hb); clear BK194; clear BK195; clear HB; have BK194 := n0_; have BK195 := n1_; have HB := n2_; clear n0_ n1_ n2_; (try clear hb); (try clear hb2); (try clear hk); (try clear hi)))) | go_values | go_skip | go_guarded | ((with_reducible refine wp_cond_true ?_ ?_); (focus rfl)) | ((with_reducible refine wp_cond_false ?_ ?_); (focus rfl)) | ((fail_if_success (with_reducible apply wp_cond_split)); (first | go_step | go_upon | go_back)) | dsimp only)
      have H := HQ20.out
      clear HQ20
      by_cases c25 : t198 = true
      · subst c25
        have H1 : (if (a0_6 != a1_6) = true then (some false) else ((laws_eqKeys.f k a0_7 a0_8 a0_9 a0_10 a0_11 a0_12 a0_13 a0_14 a0_15 a0_16 a0_17 a0_18 l0_19 a1_7 a1_8 a1_9 a1_10 a1_11 a1_12 a1_13 a1_14 a1_15 a1_16 a1_17 a1_18 l1_19).bind fun t199 => (if t199 = true then (some true) else (some false)))) = some r := by rw [if_pos rfl] at H; exact H
        clear H
        have H := H1
        clear H1
        by_cases c26 : (a0_6 != a1_6) = true
        · rw [if_pos c26] at H
          have c26b0 : (a0_6 != a1_6) = true := c26
          (try (have c26b1 : decide (a0_6 = a1_6) = false := by simpa using c26))
          (try (have c26b2 : (a0_6 == a1_6) = false := by simpa using c26))
          (try (have c26b3 : ¬ (a0_6 = a1_6) := by simpa using c26))
          clear c26
          obtain rfl := Option.some.inj H
          have hnb27 := NB194_195.out
          have hnc27 := NB195_194.out
          have hcz28_0 : w24.cell? ⟨gb194, 0, none⟩ = some (.int .i64 a0_0) := (blk_cell BK194.out 0).trans rfl
          have hcz28_1 : w24.cell? ⟨gb194, 1, none⟩ = some (.string a0_1) := (blk_cell BK194.out 1).trans rfl
          have hcz28_2 : w24.cell? ⟨gb194, 2, none⟩ = some (.string a0_2) := (blk_cell BK194.out 2).trans rfl
          have hcz28_3 : w24.cell? ⟨gb194, 3, none⟩ = some (.string a0_3) := (blk_cell BK194.out 3).trans rfl
          have hcz28_4 : w24.cell? ⟨gb194, 4, none⟩ = some (.slice A0_4 l0_4.length c0_4) := (blk_cell BK194.out 4).trans rfl
          have hcz28_5 : w24.cell? ⟨gb194, 5, none⟩ = some (.slice A0_5 l0_5.length c0_5) := (blk_cell BK194.out 5).trans rfl
          have hcz28_6 : w24.cell? ⟨gb194, 6, none⟩ = some (.bool a0_6) := (blk_cell BK194.out 6).trans rfl
          have hcz28_7 : w24.cell? ⟨gb194, 7, none⟩ = some (.int .i64 a0_7) := (blk_cell BK194.out 7).trans rfl
          have hcz28_8 : w24.cell? ⟨gb194, 8, none⟩ = some (.int .i64 a0_8) := (blk_cell BK194.out 8).trans rfl
          have hcz28_9 : w24.cell? ⟨gb194, 9, none⟩ = some (.bool a0_9) := (blk_cell BK194.out 9).trans rfl
          have hcz28_10 : w24.cell? ⟨gb194, 10, none⟩ = some (.int .i64 a0_10) := (blk_cell BK194.out 10).trans rfl
          have hcz28_11 : w24.cell? ⟨gb194, 11, none⟩ = some (.int .i64 a0_11) := (blk_cell BK194.out 11).trans rfl
          have hcz28_12 : w24.cell? ⟨gb194, 12, none⟩ = some (.bool a0_12) := (blk_cell BK194.out 12).trans rfl
          have hcz28_13 : w24.cell? ⟨gb194, 13, none⟩ = some (.int .i64 a0_13) := (blk_cell BK194.out 13).trans rfl
          have hcz28_14 : w24.cell? ⟨gb194, 14, none⟩ = some (.int .i64 a0_14) := (blk_cell BK194.out 14).trans rfl
          have hcz28_15 : w24.cell? ⟨gb194, 15, none⟩ = some (.bool a0_15) := (blk_cell BK194.out 15).trans rfl
          have hcz28_16 : w24.cell? ⟨gb194, 16, none⟩ = some (.int .i64 a0_16) := (blk_cell BK194.out 16).trans rfl
          have hcz28_17 : w24.cell? ⟨gb194, 17, none⟩ = some (.int .i64 a0_17) := (blk_cell BK194.out 17).trans rfl
          have hcz28_18 : w24.cell? ⟨gb194, 18, none⟩ = some (.bool a0_18) := (blk_cell BK194.out 18).trans rfl
          have hcz28_19 : w24.cell? ⟨gb194, 19, none⟩ = some (.slice A0_19 l0_19.length c0_19) := (blk_cell BK194.out 19).trans rfl
          have hfz28_0 := blk_frozen BK194.out 0
          have hfz28_1 := blk_frozen BK194.out 1
          have hfz28_2 := blk_frozen BK194.out 2
          have hfz28_3 := blk_frozen BK194.out 3
          have hfz28_4 := blk_frozen BK194.out 4
          have hfz28_5 := blk_frozen BK194.out 5
          have hfz28_6 := blk_frozen BK194.out 6
          have hfz28_7 := blk_frozen BK194.out 7
          have hfz28_8 := blk_frozen BK194.out 8
          have hfz28_9 := blk_frozen BK194.out 9
          have hfz28_10 := blk_frozen BK194.out 10
          have hfz28_11 := blk_frozen BK194.out 11
          have hfz28_12 := blk_frozen BK194.out 12
          have hfz28_13 := blk_frozen BK194.out 13
          have hfz28_14 := blk_frozen BK194.out 14
          have hfz28_15 := blk_frozen BK194.out 15
          have hfz28_16 := blk_frozen BK194.out 16
          have hfz28_17 := blk_frozen BK194.out 17
          have hfz28_18 := blk_frozen BK194.out 18
          have hfz28_19 := blk_frozen BK194.out 19
          have hcz29_0 : w24.cell? ⟨gb195, 0, none⟩ = some (.int .i64 a1_0) := (blk_cell BK195.out 0).trans rfl
          have hcz29_1 : w24.cell? ⟨gb195, 1, none⟩ = some (.string a1_1) := (blk_cell BK195.out 1).trans rfl
          have hcz29_2 : w24.cell? ⟨gb195, 2, none⟩ = some (.string a1_2) := (blk_cell BK195.out 2).trans rfl
          have hcz29_3 : w24.cell? ⟨gb195, 3, none⟩ = some (.string a1_3) := (blk_cell BK195.out 3).trans rfl
          have hcz29_4 : w24.cell? ⟨gb195, 4, none⟩ = some (.slice A1_4 l1_4.length c1_4) := (blk_cell BK195.out 4).trans rfl
          have hcz29_5 : w24.cell? ⟨gb195, 5, none⟩ = some (.slice A1_5 l1_5.length c1_5) := (blk_cell BK195.out 5).trans rfl
          have hcz29_6 : w24.cell? ⟨gb195, 6, none⟩ = some (.bool a1_6) := (blk_cell BK195.out 6).trans rfl
          have hcz29_7 : w24.cell? ⟨gb195, 7, none⟩ = some (.int .i64 a1_7) := (blk_cell BK195.out 7).trans rfl
          have hcz29_8 : w24.cell? ⟨gb195, 8, none⟩ = some (.int .i64 a1_8) := (blk_cell BK195.out 8).trans rfl
          have hcz29_9 : w24.cell? ⟨gb195, 9, none⟩ = some (.bool a1_9) := (blk_cell BK195.out 9).trans rfl
          have hcz29_10 : w24.cell? ⟨gb195, 10, none⟩ = some (.int .i64 a1_10) := (blk_cell BK195.out 10).trans rfl
          have hcz29_11 : w24.cell? ⟨gb195, 11, none⟩ = some (.int .i64 a1_11) := (blk_cell BK195.out 11).trans rfl
          have hcz29_12 : w24.cell? ⟨gb195, 12, none⟩ = some (.bool a1_12) := (blk_cell BK195.out 12).trans rfl
          have hcz29_13 : w24.cell? ⟨gb195, 13, none⟩ = some (.int .i64 a1_13) := (blk_cell BK195.out 13).trans rfl
          have hcz29_14 : w24.cell? ⟨gb195, 14, none⟩ = some (.int .i64 a1_14) := (blk_cell BK195.out 14).trans rfl
          have hcz29_15 : w24.cell? ⟨gb195, 15, none⟩ = some (.bool a1_15) := (blk_cell BK195.out 15).trans rfl
          have hcz29_16 : w24.cell? ⟨gb195, 16, none⟩ = some (.int .i64 a1_16) := (blk_cell BK195.out 16).trans rfl
          have hcz29_17 : w24.cell? ⟨gb195, 17, none⟩ = some (.int .i64 a1_17) := (blk_cell BK195.out 17).trans rfl
          have hcz29_18 : w24.cell? ⟨gb195, 18, none⟩ = some (.bool a1_18) := (blk_cell BK195.out 18).trans rfl
          have hcz29_19 : w24.cell? ⟨gb195, 19, none⟩ = some (.slice A1_19 l1_19.length c1_19) := (blk_cell BK195.out 19).trans rfl
          have hfz29_0 := blk_frozen BK195.out 0
          have hfz29_1 := blk_frozen BK195.out 1
          have hfz29_2 := blk_frozen BK195.out 2
          have hfz29_3 := blk_frozen BK195.out 3
          have hfz29_4 := blk_frozen BK195.out 4
          have hfz29_5 := blk_frozen BK195.out 5
          have hfz29_6 := blk_frozen BK195.out 6
          have hfz29_7 := blk_frozen BK195.out 7
          have hfz29_8 := blk_frozen BK195.out 8
          have hfz29_9 := blk_frozen BK195.out 9
          have hfz29_10 := blk_frozen BK195.out 10
          have hfz29_11 := blk_frozen BK195.out 11
          have hfz29_12 := blk_frozen BK195.out 12
          have hfz29_13 := blk_frozen BK195.out 13
          have hfz29_14 := blk_frozen BK195.out 14
          have hfz29_15 := blk_frozen BK195.out 15
          have hfz29_16 := blk_frozen BK195.out 16
          have hfz29_17 := blk_frozen BK195.out 17
          have hfz29_18 := blk_frozen BK195.out 18
          have hfz29_19 := blk_frozen BK195.out 19
          go_wp2
          go_ret
          exact ⟨by first | rfl | (simp [errW_none, errW_some] <;> rfl) | (simp [*, errW_none, errW_some] <;> rfl), by repeat (first | (with_reducible first | exact HB.out | apply below_alloc | apply pw_below_drewN | apply below_drew1 | refine below_set ?_ GE194.out | refine below_set ?_ GE195.out) | exact HB.out)⟩
        · rw [if_neg c26] at H
          have c26b0 : (a0_6 != a1_6) = false := by simpa using c26
          (try (have c26b1 : decide (a0_6 = a1_6) = true := by simpa using c26))
          (try (have c26b2 : (a0_6 == a1_6) = true := by simpa using c26))
          clear c26
          replace H := Option.bind_eq_some_iff.mp H
          obtain ⟨t199, A300, H⟩ := H
          replace H : (if t199 = true then (some true) else (some false)) = some r := H
          have A30 := Aside0.mk A300
          clear A300
          have HQ31 := Aside0.mk H
          clear H
          have hnb32 := NB194_195.out
          have hnc32 := NB195_194.out
          have hcz33_0 : w24.cell? ⟨gb194, 0, none⟩ = some (.int .i64 a0_0) := (blk_cell BK194.out 0).trans rfl
          have hcz33_1 : w24.cell? ⟨gb194, 1, none⟩ = some (.string a0_1) := (blk_cell BK194.out 1).trans rfl
          have hcz33_2 : w24.cell? ⟨gb194, 2, none⟩ = some (.string a0_2) := (blk_cell BK194.out 2).trans rfl
          have hcz33_3 : w24.cell? ⟨gb194, 3, none⟩ = some (.string a0_3) := (blk_cell BK194.out 3).trans rfl
          have hcz33_4 : w24.cell? ⟨gb194, 4, none⟩ = some (.slice A0_4 l0_4.length c0_4) := (blk_cell BK194.out 4).trans rfl
          have hcz33_5 : w24.cell? ⟨gb194, 5, none⟩ = some (.slice A0_5 l0_5.length c0_5) := (blk_cell BK194.out 5).trans rfl
          have hcz33_6 : w24.cell? ⟨gb194, 6, none⟩ = some (.bool a0_6) := (blk_cell BK194.out 6).trans rfl
          have hcz33_7 : w24.cell? ⟨gb194, 7, none⟩ = some (.int .i64 a0_7) := (blk_cell BK194.out 7).trans rfl
          have hcz33_8 : w24.cell? ⟨gb194, 8, none⟩ = some (.int .i64 a0_8) := (blk_cell BK194.out 8).trans rfl
          have hcz33_9 : w24.cell? ⟨gb194, 9, none⟩ = some (.bool a0_9) := (blk_cell BK194.out 9).trans rfl
          have hcz33_10 : w24.cell? ⟨gb194, 10, none⟩ = some (.int .i64 a0_10) := (blk_cell BK194.out 10).trans rfl
          have hcz33_11 : w24.cell? ⟨gb194, 11, none⟩ = some (.int .i64 a0_11) := (blk_cell BK194.out 11).trans rfl
          have hcz33_12 : w24.cell? ⟨gb194, 12, none⟩ = some (.bool a0_12) := (blk_cell BK194.out 12).trans rfl
          have hcz33_13 : w24.cell? ⟨gb194, 13, none⟩ = some (.int .i64 a0_13) := (blk_cell BK194.out 13).trans rfl
          have hcz33_14 : w24.cell? ⟨gb194, 14, none⟩ = some (.int .i64 a0_14) := (blk_cell BK194.out 14).trans rfl
          have hcz33_15 : w24.cell? ⟨gb194, 15, none⟩ = some (.bool a0_15) := (blk_cell BK194.out 15).trans rfl
          have hcz33_16 : w24.cell? ⟨gb194, 16, none⟩ = some (.int .i64 a0_16) := (blk_cell BK194.out 16).trans rfl
          have hcz33_17 : w24.cell? ⟨gb194, 17, none⟩ = some (.int .i64 a0_17) := (blk_cell BK194.out 17).trans rfl
          have hcz33_18 : w24.cell? ⟨gb194, 18, none⟩ = some (.bool a0_18) := (blk_cell BK194.out 18).trans rfl
          have hcz33_19 : w24.cell? ⟨gb194, 19, none⟩ = some (.slice A0_19 l0_19.length c0_19) := (blk_cell BK194.out 19).trans rfl
          have hfz33_0 := blk_frozen BK194.out 0
          have hfz33_1 := blk_frozen BK194.out 1
          have hfz33_2 := blk_frozen BK194.out 2
          have hfz33_3 := blk_frozen BK194.out 3
          have hfz33_4 := blk_frozen BK194.out 4
          have hfz33_5 := blk_frozen BK194.out 5
          have hfz33_6 := blk_frozen BK194.out 6
          have hfz33_7 := blk_frozen BK194.out 7
          have hfz33_8 := blk_frozen BK194.out 8
          have hfz33_9 := blk_frozen BK194.out 9
          have hfz33_10 := blk_frozen BK194.out 10
          have hfz33_11 := blk_frozen BK194.out 11
          have hfz33_12 := blk_frozen BK194.out 12
          have hfz33_13 := blk_frozen BK194.out 13
          have hfz33_14 := blk_frozen BK194.out 14
          have hfz33_15 := blk_frozen BK194.out 15
          have hfz33_16 := blk_frozen BK194.out 16
          have hfz33_17 := blk_frozen BK194.out 17
          have hfz33_18 := blk_frozen BK194.out 18
          have hfz33_19 := blk_frozen BK194.out 19
          have hcz34_0 : w24.cell? ⟨gb195, 0, none⟩ = some (.int .i64 a1_0) := (blk_cell BK195.out 0).trans rfl
          have hcz34_1 : w24.cell? ⟨gb195, 1, none⟩ = some (.string a1_1) := (blk_cell BK195.out 1).trans rfl
          have hcz34_2 : w24.cell? ⟨gb195, 2, none⟩ = some (.string a1_2) := (blk_cell BK195.out 2).trans rfl
          have hcz34_3 : w24.cell? ⟨gb195, 3, none⟩ = some (.string a1_3) := (blk_cell BK195.out 3).trans rfl
          have hcz34_4 : w24.cell? ⟨gb195, 4, none⟩ = some (.slice A1_4 l1_4.length c1_4) := (blk_cell BK195.out 4).trans rfl
          have hcz34_5 : w24.cell? ⟨gb195, 5, none⟩ = some (.slice A1_5 l1_5.length c1_5) := (blk_cell BK195.out 5).trans rfl
          have hcz34_6 : w24.cell? ⟨gb195, 6, none⟩ = some (.bool a1_6) := (blk_cell BK195.out 6).trans rfl
          have hcz34_7 : w24.cell? ⟨gb195, 7, none⟩ = some (.int .i64 a1_7) := (blk_cell BK195.out 7).trans rfl
          have hcz34_8 : w24.cell? ⟨gb195, 8, none⟩ = some (.int .i64 a1_8) := (blk_cell BK195.out 8).trans rfl
          have hcz34_9 : w24.cell? ⟨gb195, 9, none⟩ = some (.bool a1_9) := (blk_cell BK195.out 9).trans rfl
          have hcz34_10 : w24.cell? ⟨gb195, 10, none⟩ = some (.int .i64 a1_10) := (blk_cell BK195.out 10).trans rfl
          have hcz34_11 : w24.cell? ⟨gb195, 11, none⟩ = some (.int .i64 a1_11) := (blk_cell BK195.out 11).trans rfl
          have hcz34_12 : w24.cell? ⟨gb195, 12, none⟩ = some (.bool a1_12) := (blk_cell BK195.out 12).trans rfl
          have hcz34_13 : w24.cell? ⟨gb195, 13, none⟩ = some (.int .i64 a1_13) := (blk_cell BK195.out 13).trans rfl
          have hcz34_14 : w24.cell? ⟨gb195, 14, none⟩ = some (.int .i64 a1_14) := (blk_cell BK195.out 14).trans rfl
          have hcz34_15 : w24.cell? ⟨gb195, 15, none⟩ = some (.bool a1_15) := (blk_cell BK195.out 15).trans rfl
          have hcz34_16 : w24.cell? ⟨gb195, 16, none⟩ = some (.int .i64 a1_16) := (blk_cell BK195.out 16).trans rfl
          have hcz34_17 : w24.cell? ⟨gb195, 17, none⟩ = some (.int .i64 a1_17) := (blk_cell BK195.out 17).trans rfl
          have hcz34_18 : w24.cell? ⟨gb195, 18, none⟩ = some (.bool a1_18) := (blk_cell BK195.out 18).trans rfl
          have hcz34_19 : w24.cell? ⟨gb195, 19, none⟩ = some (.slice A1_19 l1_19.length c1_19) := (blk_cell BK195.out 19).trans rfl
          have hfz34_0 := blk_frozen BK195.out 0
          have hfz34_1 := blk_frozen BK195.out 1
          have hfz34_2 := blk_frozen BK195.out 2
          have hfz34_3 := blk_frozen BK195.out 3
          have hfz34_4 := blk_frozen BK195.out 4
          have hfz34_5 := blk_frozen BK195.out 5
          have hfz34_6 := blk_frozen BK195.out 6
          have hfz34_7 := blk_frozen BK195.out 7
          have hfz34_8 := blk_frozen BK195.out 8
          have hfz34_9 := blk_frozen BK195.out 9
          have hfz34_10 := blk_frozen BK195.out 10
          have hfz34_11 := blk_frozen BK195.out 11
          have hfz34_12 := blk_frozen BK195.out 12
          have hfz34_13 := blk_frozen BK195.out 13
          have hfz34_14 := blk_frozen BK195.out 14
          have hfz34_15 := blk_frozen BK195.out 15
          have hfz34_16 := blk_frozen BK195.out 16
          have hfz34_17 := blk_frozen BK195.out 17
          have hfz34_18 := blk_frozen BK195.out 18
          have hfz34_19 := blk_frozen BK195.out 19
          repeat' (first | (go_big_may; (first | ((with_reducible refine gate_callee (f := 32) rfl ?_); refine goesL_ (some 32) rfl rfl Try.func32 (by kernel_rfl) rfl #[.agg #[.int .i64 a0_7, .int .i64 a0_8, .bool a0_9, .int .i64 a0_10, .int .i64 a0_11, .bool a0_12, .int .i64 a0_13, .int .i64 a0_14, .bool a0_15, .int .i64 a0_16, .int .i64 a0_17, .bool a0_18, .slice A0_19 l0_19.length c0_19], .agg #[.int .i64 a1_7, .int .i64 a1_8, .bool a1_9, .int .i64 a1_10, .int .i64 a1_11, .bool a1_12, .int .i64 a1_13, .int .i64 a1_14, .bool a1_15, .int .i64 a1_16, .int .i64 a1_17, .bool a1_18, .slice A1_19 l1_19.length c1_19]] rfl (by (try simp only [List.map_toArray, List.map_cons, List.map_nil]); first | done | rfl | (simp only [List.length_drop, List.length_take]; rfl)) ?_; (with_reducible refine (laws_eqKeys.calls k a0_7 a0_8 a0_9 a0_10 a0_11 a0_12 a0_13 a0_14 a0_15 a0_16 a0_17 a0_18 _ _ l0_19 a1_7 a1_8 a1_9 a1_10 a1_11 a1_12 a1_13 a1_14 a1_15 a1_16 a1_17 a1_18 _ _ l1_19 t199 _ ?side1 ?side2 ?side3 ?side4 A30.out).mono ?_); (case side1 => repeat (first | exact (Kd.C_below HR0_19.out HB.out) | (with_reducible refine Kd.C_alloc ?_ _) | (with_reducible refine Kd.C_drewN ?_ _) | (with_reducible refine Kd.C_drew ?_))); (case side2 => exact HC0_19.out); (case side3 => repeat (first | exact (Kd.C_below HR1_19.out HB.out) | (with_reducible refine Kd.C_alloc ?_ _) | (with_reducible refine Kd.C_drewN ?_ _) | (with_reducible refine Kd.C_drew ?_))); (case side4 => exact HC1_19.out); rintro e w35 ⟨rfl, hb⟩; refine ⟨_, rfl, ?_⟩; have n0_ := Aside0.mk (blk_below (g := gb194) (o := .cells #[.int .i64 a0_0, .string a0_1, .string a0_2, .string a0_3, .slice A0_4 l0_4.length c0_4, .slice A0_5 l0_5.length c0_5, .bool a0_6, .int .i64 a0_7, .int .i64 a0_8, .bool a0_9, .int .i64 a0_10, .int .i64 a0_11, .bool a0_12, .int .i64 a0_13, .int .i64 a0_14, .bool a0_15, .int .i64 a0_16, .int .i64 a0_17, .bool a0_18, .slice A0_19 l0_19.length c0_19] 52 (0, 0)) (by (with_reducible repeat (first | refine blk_drewN ?_ _ | refine blk_drew ?_ | refine blk_alloc ?_ _)); exact BK194.out) hb); have n1_ := Aside0.mk (blk_below (g := gb195) (o := .cells #[.int .i64 a1_0, .string a1_1, .string a1_2, .string a1_3, .slice A1_4 l1_4.length c1_4, .slice A1_5 l1_5.length c1_5, .bool a1_6, .int .i64 a1_7, .int .i64 a1_8, .bool a1_9, .int .i64 a1_10, .int .i64 a1_11, .bool a1_12, .int .i64 a1_13, .int .i64 a1_14, .bool a1_15, .int .i64 a1_16, .int .i64 a1_17, .bool a1_18, .slice A1_19 l1_19.length c1_19] 52 (0, 0)) (by (with_reducible repeat (first | refine blk_drewN ?_ _ | refine blk_drew ?_ | refine blk_alloc ?_ _)); exact BK195.out) hb); have n2_ := Aside0.mk (below_step (by repeat (first | (with_reducible first | exact HB.out | apply below_alloc | apply pw_below_drewN | apply below_drew1 | refine below_set ?_ GE194.out | refine below_set ?_ GE195.out) | exact HB.out)) hb); clear BK194; clear BK195; clear HB; have BK194 := n0_; have BK195 := n1_; have HB := n2_; clear n0_ n1_ n2_; (try clear hb); (try clear hb2); (try clear hk); (try clear hi)))) | go_values | go_skip | go_guarded | ((with_reducible refine wp_cond_true ?_ ?_); (focus rfl)) | ((with_reducible refine wp_cond_false ?_ ?_); (focus rfl)) | ((fail_if_success (with_reducible apply wp_cond_split)); (first | go_step | go_upon | go_back)) | dsimp only)
          have H := HQ31.out
          clear HQ31
          by_cases c36 : t199 = true
          · subst c36
            have H1 : (some true) = some r := by rw [if_pos rfl] at H; exact H
            clear H
            have H := H1
            clear H1
            obtain rfl := Option.some.inj H
            go_wp2
            go_ret
            exact ⟨by first | rfl | (simp [errW_none, errW_some] <;> rfl) | (simp [*, errW_none, errW_some] <;> rfl), by repeat (first | (with_reducible first | exact HB.out | apply below_alloc | apply pw_below_drewN | apply below_drew1 | refine below_set ?_ GE194.out | refine below_set ?_ GE195.out) | exact HB.out)⟩
          · replace c36 := Bool.eq_false_iff.mpr c36
            subst c36
            have H1 : (some false) = some r := by rw [if_neg (show ¬ (false = true) by decide)] at H; exact H
            clear H
            have H := H1
            clear H1
            obtain rfl := Option.some.inj H
            go_wp2
            go_ret
            exact ⟨by first | rfl | (simp [errW_none, errW_some] <;> rfl) | (simp [*, errW_none, errW_some] <;> rfl), by repeat (first | (with_reducible first | exact HB.out | apply below_alloc | apply pw_below_drewN | apply below_drew1 | refine below_set ?_ GE194.out | refine below_set ?_ GE195.out) | exact HB.out)⟩
      · replace c25 := Bool.eq_false_iff.mpr c25
        subst c25
        have H1 : (some false) = some r := by rw [if_neg (show ¬ (false = true) by decide)] at H; exact H
        clear H
        have H := H1
        clear H1
        obtain rfl := Option.some.inj H
        go_wp2
        go_ret
        exact ⟨by first | rfl | (simp [errW_none, errW_some] <;> rfl) | (simp [*, errW_none, errW_some] <;> rfl), by repeat (first | (with_reducible first | exact HB.out | apply below_alloc | apply pw_below_drewN | apply below_drew1 | refine below_set ?_ GE194.out | refine below_set ?_ GE195.out) | exact HB.out)⟩
    · replace c18 := Bool.eq_false_iff.mpr c18
      subst c18
      have H1 : (some false) = some r := by rw [if_neg (show ¬ (false = true) by decide)] at H; exact H
      clear H
      have H := H1
      clear H1
      obtain rfl := Option.some.inj H
      go_wp2
      go_ret
      exact ⟨by first | rfl | (simp [errW_none, errW_some] <;> rfl) | (simp [*, errW_none, errW_some] <;> rfl), by repeat (first | (with_reducible first | exact HB.out | apply below_alloc | apply pw_below_drewN | apply below_drew1 | refine below_set ?_ GE194.out | refine below_set ?_ GE195.out) | exact HB.out)⟩
  · replace c11 := Bool.eq_false_iff.mpr c11
    subst c11
    have H1 : (some false) = some r := by rw [if_neg (show ¬ (false = true) by decide)] at H; exact H
    clear H
    have H := H1
    clear H1
    obtain rfl := Option.some.inj H
    go_wp2
    go_ret
    exact ⟨by first | rfl | (simp [errW_none, errW_some] <;> rfl) | (simp [*, errW_none, errW_some] <;> rfl), by repeat (first | (with_reducible first | exact HB.out | apply below_alloc | apply pw_below_drewN | apply below_drew1 | refine below_set ?_ GE194.out | refine below_set ?_ GE195.out) | exact HB.out)⟩

/-! ### spec_l01In: function 95 -/
def spec_l01In.f (a0 : Int) (a1 : Int) (a2 : Int) : Option (Bool) := if a0 ≥ a1 then (some (decide (a0 ≤ a2))) else (some false)
set_option maxHeartbeats 8000000 in
set_option maxRecDepth 100000 in
theorem spec_l01In.calls (a0 : Int) (a1 : Int) (a2 : Int) (r : Bool) (w : World) (h : spec_l01In.f a0 a1 a2 = some r) :
    Calls Try.prog 95 #[.int .i64 a0, .int .i64 a1, .int .i64 a2] w fun e w' => e = .returned (.bool r) ∧ Drawn0 w w' := by
  have H : (if a0 ≥ a1 then (some (decide (a0 ≤ a2))) else (some false)) = some r := h
  clear h
  by_cases c4 : a0 ≥ a1
  · rw [if_pos c4] at H
    have c4b0 : decide (a1 ≤ a0) = true := decide_eq_true c4
    clear c4
    obtain rfl := Option.some.inj H
    go_enter Try.func95, Try.ntmps95
    go_wp2
    go_ret
    exact ⟨by first | rfl | (simp; done) | (simp [*]; done), by repeat (first | exact Drawn0.refl _ | apply Drawn0.step)⟩
  · rw [if_neg c4] at H
    have c4b0 : decide (a1 ≤ a0) = false := decide_eq_false c4
    clear c4
    obtain rfl := Option.some.inj H
    go_enter Try.func95, Try.ntmps95
    go_wp2
    go_ret
    exact ⟨by first | rfl | (simp; done) | (simp [*]; done), by repeat (first | exact Drawn0.refl _ | apply Drawn0.step)⟩

/-! ### spec_HeadOk: function 89 -/
def spec_HeadOk.f (a0_0 : Int) (a0_1 : ByteArray) (a0_2 : ByteArray) (a0_3 : ByteArray) : Option (Bool) := (spec_l01In.f a0_0 0 10000).bind fun t201 => (if t201 = true then (if (a0_1.size : Int) = 32 then (if (a0_2.size : Int) = 32 then (some ((a0_3.size : Int) == 32)) else (some false)) else (some false)) else (some false))
set_option maxHeartbeats 8000000 in
set_option maxRecDepth 100000 in
theorem spec_HeadOk.calls (a0_0 : Int) (a0_1 : ByteArray) (a0_2 : ByteArray) (a0_3 : ByteArray) (r : Bool) (w : World) (h : spec_HeadOk.f a0_0 a0_1 a0_2 a0_3 = some r) :
    Calls Try.prog 89 #[.agg #[.int .i64 a0_0, .string a0_1, .string a0_2, .string a0_3]] w fun e w' => e = .returned (.bool r) ∧ Below w.heap.size w w' := by
  have hu48 := Try.underlying48
  have HB := Aside0.mk (Below.refl w.heap.size w)
  have H : ((spec_l01In.f a0_0 0 10000).bind fun t201 => (if t201 = true then (if (a0_1.size : Int) = 32 then (if (a0_2.size : Int) = 32 then (some ((a0_3.size : Int) == 32)) else (some false)) else (some false)) else (some false))) = some r := h
  clear h
  replace H := Option.bind_eq_some_iff.mp H
  obtain ⟨t201, A20, H⟩ := H
  replace H : (if t201 = true then (if (a0_1.size : Int) = 32 then (if (a0_2.size : Int) = 32 then (some ((a0_3.size : Int) == 32)) else (some false)) else (some false)) else (some false)) = some r := H
  have A2 := Aside0.mk A20
  clear A20
  by_cases c3 : t201 = true
  · subst c3
    have H1 : (if (a0_1.size : Int) = 32 then (if (a0_2.size : Int) = 32 then (some ((a0_3.size : Int) == 32)) else (some false)) else (some false)) = some r := by rw [if_pos rfl] at H; exact H
    clear H
    have H := H1
    clear H1
    by_cases c4 : (a0_1.size : Int) = 32
    · rw [if_pos c4] at H
      have c4b0 : ((a0_1.size : Int) == 32) = true := beq_iff_eq.mpr c4
      have c4b1 : ((a0_1.size : Int) != 32) = false := bne_eq_false_iff_eq.mpr c4
      clear c4
      by_cases c5 : (a0_2.size : Int) = 32
      · rw [if_pos c5] at H
        have c5b0 : ((a0_2.size : Int) == 32) = true := beq_iff_eq.mpr c5
        have c5b1 : ((a0_2.size : Int) != 32) = false := bne_eq_false_iff_eq.mpr c5
        clear c5
        obtain rfl := Option.some.inj H
        go_enter Try.func89, Try.ntmps89
        go_wp2_with (first | ((with_reducible refine gate_dst (N := 1) rfl ?_); (try (refine gate_guard (by rfl) ?_; dsimp only)); refine box_event ?hg (N := 1) ?hd (cs := #[.int .i64 a0_0, .string a0_1, .string a0_2, .string a0_3]) (t := 48) ?hr ?_; (case hd => rfl); (case hg => rfl); (case hr => first | (go_simp; done) | (go_simp; rfl)); intro gb200 hg w6 hbox hb; have n0_ := Aside0.mk (below_step (by repeat (first | (with_reducible first | exact HB.out | apply below_alloc | apply pw_below_drewN | apply below_drew1) | exact HB.out)) hb); have n1_ := Aside0.mk (hbox); have n2_ := Aside0.mk ((by rw [hg]; exact (below_size (by repeat (first | (with_reducible first | exact HB.out | apply below_alloc | apply pw_below_drewN | apply below_drew1) | exact HB.out))) : w.heap.size ≤ gb200)); have n3_ := Aside0.mk ((by rw [hg]; exact (below_size (by repeat (first | (with_reducible first | exact HB.out | apply below_alloc | apply pw_below_drewN | apply below_drew1) | exact HB.out))) : w.heap.size ≤ gb200)); clear HB; have HB := n0_; have BK200 := n1_; have GW200 := n2_; have GE200 := n3_; clear n0_ n1_ n2_ n3_; clear hb hbox hg; have hcz7_0 : w6.cell? ⟨gb200, 0, none⟩ = some (.int .i64 a0_0) := (blk_cell BK200.out 0).trans rfl; have hcz7_1 : w6.cell? ⟨gb200, 1, none⟩ = some (.string a0_1) := (blk_cell BK200.out 1).trans rfl; have hcz7_2 : w6.cell? ⟨gb200, 2, none⟩ = some (.string a0_2) := (blk_cell BK200.out 2).trans rfl; have hcz7_3 : w6.cell? ⟨gb200, 3, none⟩ = some (.string a0_3) := (blk_cell BK200.out 3).trans rfl; have hfz7_0 := blk_frozen BK200.out 0; have hfz7_1 := blk_frozen BK200.out 1; have hfz7_2 := blk_frozen BK200.out 2; have hfz7_3 := blk_frozen BK200.out 3) | ((with_reducible refine gate_callee (f := 95) rfl ?_); refine goesL_ (some 5) rfl rfl Try.func95 (by kernel_rfl) rfl #[.int .i64 a0_0, .int .i64 0, .int .i64 10000] rfl (by (try simp only [List.map_toArray, List.map_cons, List.map_nil]); first | done | rfl | (simp only [List.length_drop, List.length_take]; rfl)) ?_; (with_reducible refine (spec_l01In.calls a0_0 0 10000 true _ A2.out).mono ?_); rintro e w' ⟨rfl, ⟨nd, rfl⟩⟩; refine ⟨_, rfl, ?_⟩))
        go_ret
        exact ⟨by first | rfl | (simp [errW_none, errW_some] <;> rfl) | (simp [*, errW_none, errW_some] <;> rfl), by repeat (first | (with_reducible first | exact HB.out | apply below_alloc | apply pw_below_drewN | apply below_drew1 | refine below_set ?_ GE200.out) | exact HB.out)⟩
      · rw [if_neg c5] at H
        have c5b0 : ((a0_2.size : Int) == 32) = false := beq_eq_false_iff_ne.mpr c5
        have c5b1 : ((a0_2.size : Int) != 32) = true := bne_iff_ne.mpr c5
        obtain rfl := Option.some.inj H
        go_enter Try.func89, Try.ntmps89
        go_wp2_with (first | ((with_reducible refine gate_dst (N := 1) rfl ?_); (try (refine gate_guard (by rfl) ?_; dsimp only)); refine box_event ?hg (N := 1) ?hd (cs := #[.int .i64 a0_0, .string a0_1, .string a0_2, .string a0_3]) (t := 48) ?hr ?_; (case hd => rfl); (case hg => rfl); (case hr => first | (go_simp; done) | (go_simp; rfl)); intro gb200 hg w8 hbox hb; have n0_ := Aside0.mk (below_step (by repeat (first | (with_reducible first | exact HB.out | apply below_alloc | apply pw_below_drewN | apply below_drew1) | exact HB.out)) hb); have n1_ := Aside0.mk (hbox); have n2_ := Aside0.mk ((by rw [hg]; exact (below_size (by repeat (first | (with_reducible first | exact HB.out | apply below_alloc | apply pw_below_drewN | apply below_drew1) | exact HB.out))) : w.heap.size ≤ gb200)); have n3_ := Aside0.mk ((by rw [hg]; exact (below_size (by repeat (first | (with_reducible first | exact HB.out | apply below_alloc | apply pw_below_drewN | apply below_drew1) | exact HB.out))) : w.heap.size ≤ gb200)); clear HB; have HB := n0_; have BK200 := n1_; have GW200 := n2_; have GE200 := n3_; clear n0_ n1_ n2_ n3_; clear hb hbox hg; have hcz9_0 : w8.cell? ⟨gb200, 0, none⟩ = some (.int .i64 a0_0) := (blk_cell BK200.out 0).trans rfl; have hcz9_1 : w8.cell? ⟨gb200, 1, none⟩ = some (.string a0_1) := (blk_cell BK200.out 1).trans rfl; have hcz9_2 : w8.cell? ⟨gb200, 2, none⟩ = some (.string a0_2) := (blk_cell BK200.out 2).trans rfl; have hcz9_3 : w8.cell? ⟨gb200, 3, none⟩ = some (.string a0_3) := (blk_cell BK200.out 3).trans rfl; have hfz9_0 := blk_frozen BK200.out 0; have hfz9_1 := blk_frozen BK200.out 1; have hfz9_2 := blk_frozen BK200.out 2; have hfz9_3 := blk_frozen BK200.out 3) | ((with_reducible refine gate_callee (f := 95) rfl ?_); refine goesL_ (some 5) rfl rfl Try.func95 (by kernel_rfl) rfl #[.int .i64 a0_0, .int .i64 0, .int .i64 10000] rfl (by (try simp only [List.map_toArray, List.map_cons, List.map_nil]); first | done | rfl | (simp only [List.length_drop, List.length_take]; rfl)) ?_; (with_reducible refine (spec_l01In.calls a0_0 0 10000 true _ A2.out).mono ?_); rintro e w' ⟨rfl, ⟨nd, rfl⟩⟩; refine ⟨_, rfl, ?_⟩))
        go_ret
        exact ⟨by first | rfl | (simp [errW_none, errW_some] <;> rfl) | (simp [*, errW_none, errW_some] <;> rfl), by repeat (first | (with_reducible first | exact HB.out | apply below_alloc | apply pw_below_drewN | apply below_drew1 | refine below_set ?_ GE200.out) | exact HB.out)⟩
    · rw [if_neg c4] at H
      have c4b0 : ((a0_1.size : Int) == 32) = false := beq_eq_false_iff_ne.mpr c4
      have c4b1 : ((a0_1.size : Int) != 32) = true := bne_iff_ne.mpr c4
      obtain rfl := Option.some.inj H
      go_enter Try.func89, Try.ntmps89
      go_wp2_with (first | ((with_reducible refine gate_dst (N := 1) rfl ?_); (try (refine gate_guard (by rfl) ?_; dsimp only)); refine box_event ?hg (N := 1) ?hd (cs := #[.int .i64 a0_0, .string a0_1, .string a0_2, .string a0_3]) (t := 48) ?hr ?_; (case hd => rfl); (case hg => rfl); (case hr => first | (go_simp; done) | (go_simp; rfl)); intro gb200 hg w10 hbox hb; have n0_ := Aside0.mk (below_step (by repeat (first | (with_reducible first | exact HB.out | apply below_alloc | apply pw_below_drewN | apply below_drew1) | exact HB.out)) hb); have n1_ := Aside0.mk (hbox); have n2_ := Aside0.mk ((by rw [hg]; exact (below_size (by repeat (first | (with_reducible first | exact HB.out | apply below_alloc | apply pw_below_drewN | apply below_drew1) | exact HB.out))) : w.heap.size ≤ gb200)); have n3_ := Aside0.mk ((by rw [hg]; exact (below_size (by repeat (first | (with_reducible first | exact HB.out | apply below_alloc | apply pw_below_drewN | apply below_drew1) | exact HB.out))) : w.heap.size ≤ gb200)); clear HB; have HB := n0_; have BK200 := n1_; have GW200 := n2_; have GE200 := n3_; clear n0_ n1_ n2_ n3_; clear hb hbox hg; have hcz11_0 : w10.cell? ⟨gb200, 0, none⟩ = some (.int .i64 a0_0) := (blk_cell BK200.out 0).trans rfl; have hcz11_1 : w10.cell? ⟨gb200, 1, none⟩ = some (.string a0_1) := (blk_cell BK200.out 1).trans rfl; have hcz11_2 : w10.cell? ⟨gb200, 2, none⟩ = some (.string a0_2) := (blk_cell BK200.out 2).trans rfl; have hcz11_3 : w10.cell? ⟨gb200, 3, none⟩ = some (.string a0_3) := (blk_cell BK200.out 3).trans rfl; have hfz11_0 := blk_frozen BK200.out 0; have hfz11_1 := blk_frozen BK200.out 1; have hfz11_2 := blk_frozen BK200.out 2; have hfz11_3 := blk_frozen BK200.out 3) | ((with_reducible refine gate_callee (f := 95) rfl ?_); refine goesL_ (some 5) rfl rfl Try.func95 (by kernel_rfl) rfl #[.int .i64 a0_0, .int .i64 0, .int .i64 10000] rfl (by (try simp only [List.map_toArray, List.map_cons, List.map_nil]); first | done | rfl | (simp only [List.length_drop, List.length_take]; rfl)) ?_; (with_reducible refine (spec_l01In.calls a0_0 0 10000 true _ A2.out).mono ?_); rintro e w' ⟨rfl, ⟨nd, rfl⟩⟩; refine ⟨_, rfl, ?_⟩))
      go_ret
      exact ⟨by first | rfl | (simp [errW_none, errW_some] <;> rfl) | (simp [*, errW_none, errW_some] <;> rfl), by repeat (first | (with_reducible first | exact HB.out | apply below_alloc | apply pw_below_drewN | apply below_drew1 | refine below_set ?_ GE200.out) | exact HB.out)⟩
  · replace c3 := Bool.eq_false_iff.mpr c3
    subst c3
    have H1 : (some false) = some r := by rw [if_neg (show ¬ (false = true) by decide)] at H; exact H
    clear H
    have H := H1
    clear H1
    obtain rfl := Option.some.inj H
    go_enter Try.func89, Try.ntmps89
    go_wp2_with (first | ((with_reducible refine gate_dst (N := 1) rfl ?_); (try (refine gate_guard (by rfl) ?_; dsimp only)); refine box_event ?hg (N := 1) ?hd (cs := #[.int .i64 a0_0, .string a0_1, .string a0_2, .string a0_3]) (t := 48) ?hr ?_; (case hd => rfl); (case hg => rfl); (case hr => first | (go_simp; done) | (go_simp; rfl)); intro gb200 hg w12 hbox hb; have n0_ := Aside0.mk (below_step (by repeat (first | (with_reducible first | exact HB.out | apply below_alloc | apply pw_below_drewN | apply below_drew1) | exact HB.out)) hb); have n1_ := Aside0.mk (hbox); have n2_ := Aside0.mk ((by rw [hg]; exact (below_size (by repeat (first | (with_reducible first | exact HB.out | apply below_alloc | apply pw_below_drewN | apply below_drew1) | exact HB.out))) : w.heap.size ≤ gb200)); have n3_ := Aside0.mk ((by rw [hg]; exact (below_size (by repeat (first | (with_reducible first | exact HB.out | apply below_alloc | apply pw_below_drewN | apply below_drew1) | exact HB.out))) : w.heap.size ≤ gb200)); clear HB; have HB := n0_; have BK200 := n1_; have GW200 := n2_; have GE200 := n3_; clear n0_ n1_ n2_ n3_; clear hb hbox hg; have hcz13_0 : w12.cell? ⟨gb200, 0, none⟩ = some (.int .i64 a0_0) := (blk_cell BK200.out 0).trans rfl; have hcz13_1 : w12.cell? ⟨gb200, 1, none⟩ = some (.string a0_1) := (blk_cell BK200.out 1).trans rfl; have hcz13_2 : w12.cell? ⟨gb200, 2, none⟩ = some (.string a0_2) := (blk_cell BK200.out 2).trans rfl; have hcz13_3 : w12.cell? ⟨gb200, 3, none⟩ = some (.string a0_3) := (blk_cell BK200.out 3).trans rfl; have hfz13_0 := blk_frozen BK200.out 0; have hfz13_1 := blk_frozen BK200.out 1; have hfz13_2 := blk_frozen BK200.out 2; have hfz13_3 := blk_frozen BK200.out 3) | ((with_reducible refine gate_callee (f := 95) rfl ?_); refine goesL_ (some 5) rfl rfl Try.func95 (by kernel_rfl) rfl #[.int .i64 a0_0, .int .i64 0, .int .i64 10000] rfl (by (try simp only [List.map_toArray, List.map_cons, List.map_nil]); first | done | rfl | (simp only [List.length_drop, List.length_take]; rfl)) ?_; (with_reducible refine (spec_l01In.calls a0_0 0 10000 false _ A2.out).mono ?_); rintro e w' ⟨rfl, ⟨nd, rfl⟩⟩; refine ⟨_, rfl, ?_⟩))
    go_ret
    exact ⟨by first | rfl | (simp [errW_none, errW_some] <;> rfl) | (simp [*, errW_none, errW_some] <;> rfl), by repeat (first | (with_reducible first | exact HB.out | apply below_alloc | apply pw_below_drewN | apply below_drew1 | refine below_set ?_ GE200.out) | exact HB.out)⟩

/-! ### spec_l07Zero: function 81 -/
def spec_l07Zero.f  : Option (Int × Int × Bool) := some (0, 0, true)
set_option maxHeartbeats 8000000 in
set_option maxRecDepth 100000 in
theorem spec_l07Zero.calls  (r1 : Int) (r2 : Int) (r3 : Bool) (w : World) (h : spec_l07Zero.f  = some (r1, r2, r3)) :
    Calls Try.prog 81 #[] w fun e w' => e = .returned (.agg #[.int .i64 r1, .int .i64 r2, .bool r3]) ∧ Below w.heap.size w w' := by
  have hu28 := Try.underlying28
  have HB := Aside0.mk (Below.refl w.heap.size w)
  have H : (some (0, 0, true)) = some (r1, r2, r3) := h
  clear h
  simp only [Option.some.injEq, Prod.mk.injEq] at H
  obtain ⟨rfl, rfl, rfl⟩ := H
  go_enter Try.func81, Try.ntmps81
  go_wp2_with (first | ((with_reducible refine gate_dst (N := 0) rfl ?_); refine box_event ?hg (N := 0) ?hd (cs := #[.int .i64 0, .int .i64 0, .bool false]) (t := 28) ?hr ?_; (case hd => rfl); (case hg => rfl); (case hr => first | (go_simp; done) | (go_simp; rfl)); intro gb202 hg w1 hbox hb; have n0_ := Aside0.mk (below_step (by repeat (first | (with_reducible first | exact HB.out | apply below_alloc | apply pw_below_drewN | apply below_drew1) | exact HB.out)) hb); have n1_ := Aside0.mk (hbox); have n2_ := Aside0.mk ((by rw [hg]; exact (below_size (by repeat (first | (with_reducible first | exact HB.out | apply below_alloc | apply pw_below_drewN | apply below_drew1) | exact HB.out))) : w.heap.size ≤ gb202)); have n3_ := Aside0.mk ((by rw [hg]; exact (below_size (by repeat (first | (with_reducible first | exact HB.out | apply below_alloc | apply pw_below_drewN | apply below_drew1) | exact HB.out))) : w.heap.size ≤ gb202)); clear HB; have HB := n0_; have BK202 := n1_; have GW202 := n2_; have GE202 := n3_; clear n0_ n1_ n2_ n3_; clear hb hbox hg; have hcz2_0 : w1.cell? ⟨gb202, 0, none⟩ = some (.int .i64 0) := (blk_cell BK202.out 0).trans rfl; have hcz2_1 : w1.cell? ⟨gb202, 1, none⟩ = some (.int .i64 0) := (blk_cell BK202.out 1).trans rfl; have hcz2_2 : w1.cell? ⟨gb202, 2, none⟩ = some (.bool false) := (blk_cell BK202.out 2).trans rfl; have hfz2_0 := blk_frozen BK202.out 0; have hfz2_1 := blk_frozen BK202.out 1; have hfz2_2 := blk_frozen BK202.out 2))
  refine bodyPost_ret (results_cell_row rfl _ _ gb202 28 #[.int .i64 0, .int .i64 0, .bool true] (0, 0) _ rfl (by (with_reducible repeat (first | refine blk_drewN ?_ _ | refine blk_drew ?_ | refine blk_alloc ?_ _)); refine blk_put (cs := #[.int .i64 0, .int .i64 0, .bool false]) ?_ 2 _ rfl; (with_reducible repeat (first | refine blk_drewN ?_ _ | refine blk_drew ?_ | refine blk_alloc ?_ _)); refine blk_put (cs := #[.int .i64 0, .int .i64 0, .bool false]) ?_ 1 _ rfl; (with_reducible repeat (first | refine blk_drewN ?_ _ | refine blk_drew ?_ | refine blk_alloc ?_ _)); refine blk_put (cs := #[.int .i64 0, .int .i64 0, .bool false]) ?_ 0 _ rfl; (with_reducible repeat (first | refine blk_drewN ?_ _ | refine blk_drew ?_ | refine blk_alloc ?_ _)); exact BK202.out) Try.underlying28 rfl (by kernel_rfl)) rfl ?_
  exact ⟨by first | rfl | (simp [errW_none, errW_some] <;> rfl) | (simp [*, errW_none, errW_some] <;> rfl), by repeat (first | (with_reducible first | exact HB.out | apply below_alloc | apply pw_below_drewN | apply below_drew1 | refine below_set ?_ GE202.out) | exact HB.out)⟩

/-! ### spec_FpOk: function 152 -/
def spec_FpOk.f (a0 : Int) : Option (Bool) := (spec_l01In.f a0 0 12106).bind fun t203 => (some t203)
set_option maxHeartbeats 8000000 in
set_option maxRecDepth 100000 in
theorem spec_FpOk.calls (a0 : Int) (r : Bool) (w : World) (h : spec_FpOk.f a0 = some r) :
    Calls Try.prog 152 #[.int .i64 a0] w fun e w' => e = .returned (.bool r) ∧ Drawn0 w w' := by
  have H : ((spec_l01In.f a0 0 12106).bind fun t203 => (some t203)) = some r := h
  clear h
  replace H := Option.bind_eq_some_iff.mp H
  obtain ⟨t203, A20, H⟩ := H
  replace H : (some t203) = some r := H
  have A2 := Aside0.mk A20
  clear A20
  obtain rfl := Option.some.inj H
  go_enter Try.func152, Try.ntmps152
  go_wp2_with (first | ((with_reducible refine gate_callee (f := 95) rfl ?_); refine goesL_ (some 4) rfl rfl Try.func95 (by kernel_rfl) rfl #[.int .i64 a0, .int .i64 0, .int .i64 12106] rfl (by (try simp only [List.map_toArray, List.map_cons, List.map_nil]); first | done | rfl | (simp only [List.length_drop, List.length_take]; rfl)) ?_; (with_reducible refine (spec_l01In.calls a0 0 12106 t203 _ A2.out).mono ?_); rintro e w' ⟨rfl, ⟨nd, rfl⟩⟩; refine ⟨_, rfl, ?_⟩))
  go_ret
  exact ⟨by first | rfl | (simp; done) | (simp [*]; done), by repeat (first | exact Drawn0.refl _ | apply Drawn0.step)⟩

/-! ### spec_FpOf: function 200 -/
def spec_FpOf.f (a0 : Int) : Option (Int) := if (Int.tmod a0 12107) < 0 then (some (wrap64 ((Int.tmod a0 12107) + 12107))) else (some (Int.tmod a0 12107))
set_option maxHeartbeats 8000000 in
set_option maxRecDepth 100000 in
theorem spec_FpOf.calls (a0 : Int) (r : Int) (w : World) (h : spec_FpOf.f a0 = some r) :
    Calls Try.prog 200 #[.int .i64 a0] w fun e w' => e = .returned (.int .i64 r) ∧ Drawn0 w w' := by
  have H : (if (Int.tmod a0 12107) < 0 then (some (wrap64 ((Int.tmod a0 12107) + 12107))) else (some (Int.tmod a0 12107))) = some r := h
  clear h
  by_cases c2 : (Int.tmod a0 12107) < 0
  · rw [if_pos c2] at H
    have c2b0 : decide ((Int.tmod a0 12107) < 0) = true := decide_eq_true c2
    clear c2
    obtain rfl := Option.some.inj H
    go_enter Try.func200, Try.ntmps200
    go_wp2
    go_ret
    exact ⟨by first | rfl | (simp; done) | (simp [*]; done), by repeat (first | exact Drawn0.refl _ | apply Drawn0.step)⟩
  · rw [if_neg c2] at H
    have c2b0 : decide ((Int.tmod a0 12107) < 0) = false := decide_eq_false c2
    clear c2
    obtain rfl := Option.some.inj H
    go_enter Try.func200, Try.ntmps200
    go_wp2
    go_ret
    exact ⟨by first | rfl | (simp; done) | (simp [*]; done), by repeat (first | exact Drawn0.refl _ | apply Drawn0.step)⟩

/-! ### spec_FpMul: function 160 -/
def spec_FpMul.f (a0 : Int) (a1 : Int) : Option (Int) := (spec_FpOf.f a0).bind fun t204 => ((spec_FpOf.f a1).bind fun t205 => ((spec_FpOf.f (wrap64 (t204 * t205))).bind fun t206 => (some t206)))
set_option maxHeartbeats 8000000 in
set_option maxRecDepth 100000 in
theorem spec_FpMul.calls (a0 : Int) (a1 : Int) (r : Int) (w : World) (h : spec_FpMul.f a0 a1 = some r) :
    Calls Try.prog 160 #[.int .i64 a0, .int .i64 a1] w fun e w' => e = .returned (.int .i64 r) ∧ Drawn0 w w' := by
  have H : ((spec_FpOf.f a0).bind fun t204 => ((spec_FpOf.f a1).bind fun t205 => ((spec_FpOf.f (wrap64 (t204 * t205))).bind fun t206 => (some t206)))) = some r := h
  clear h
  replace H := Option.bind_eq_some_iff.mp H
  obtain ⟨t204, A30, H⟩ := H
  replace H : ((spec_FpOf.f a1).bind fun t205 => ((spec_FpOf.f (wrap64 (t204 * t205))).bind fun t206 => (some t206))) = some r := H
  have A3 := Aside0.mk A30
  clear A30
  replace H := Option.bind_eq_some_iff.mp H
  obtain ⟨t205, A40, H⟩ := H
  replace H : ((spec_FpOf.f (wrap64 (t204 * t205))).bind fun t206 => (some t206)) = some r := H
  have A4 := Aside0.mk A40
  clear A40
  replace H := Option.bind_eq_some_iff.mp H
  obtain ⟨t206, A50, H⟩ := H
  replace H : (some t206) = some r := H
  have A5 := Aside0.mk A50
  clear A50
  obtain rfl := Option.some.inj H
  go_enter Try.func160, Try.ntmps160
  go_wp2_with (first | ((with_reducible refine gate_callee (f := 200) rfl ?_); refine goesL_ (some 6) rfl rfl Try.func200 (by kernel_rfl) rfl #[.int .i64 a0] rfl (by (try simp only [List.map_toArray, List.map_cons, List.map_nil]); first | done | rfl | (simp only [List.length_drop, List.length_take]; rfl)) ?_; (with_reducible refine (spec_FpOf.calls a0 t204 _ A3.out).mono ?_); rintro e w' ⟨rfl, ⟨nd, rfl⟩⟩; refine ⟨_, rfl, ?_⟩) | ((with_reducible refine gate_callee (f := 200) rfl ?_); refine goesL_ (some 8) rfl rfl Try.func200 (by kernel_rfl) rfl #[.int .i64 a1] rfl (by (try simp only [List.map_toArray, List.map_cons, List.map_nil]); first | done | rfl | (simp only [List.length_drop, List.length_take]; rfl)) ?_; (with_reducible refine (spec_FpOf.calls a1 t205 _ A4.out).mono ?_); rintro e w' ⟨rfl, ⟨nd, rfl⟩⟩; refine ⟨_, rfl, ?_⟩) | ((with_reducible refine gate_callee (f := 200) rfl ?_); refine goesL_ (some 10) rfl rfl Try.func200 (by kernel_rfl) rfl #[.int .i64 (wrap64 (t204 * t205))] rfl (by (try simp only [List.map_toArray, List.map_cons, List.map_nil]); first | done | rfl | (simp only [List.length_drop, List.length_take]; rfl)) ?_; (with_reducible refine (spec_FpOf.calls (wrap64 (t204 * t205)) t206 _ A5.out).mono ?_); rintro e w' ⟨rfl, ⟨nd, rfl⟩⟩; refine ⟨_, rfl, ?_⟩))
  go_ret
  exact ⟨by first | rfl | (simp; done) | (simp [*]; done), by repeat (first | exact Drawn0.refl _ | apply Drawn0.step)⟩

/-! ### spec_FpAdd: function 161 -/
def spec_FpAdd.f (a0 : Int) (a1 : Int) : Option (Int) := (spec_FpOf.f a0).bind fun t207 => ((spec_FpOf.f a1).bind fun t208 => ((spec_FpOf.f (wrap64 (t207 + t208))).bind fun t209 => (some t209)))
set_option maxHeartbeats 8000000 in
set_option maxRecDepth 100000 in
theorem spec_FpAdd.calls (a0 : Int) (a1 : Int) (r : Int) (w : World) (h : spec_FpAdd.f a0 a1 = some r) :
    Calls Try.prog 161 #[.int .i64 a0, .int .i64 a1] w fun e w' => e = .returned (.int .i64 r) ∧ Drawn0 w w' := by
  have H : ((spec_FpOf.f a0).bind fun t207 => ((spec_FpOf.f a1).bind fun t208 => ((spec_FpOf.f (wrap64 (t207 + t208))).bind fun t209 => (some t209)))) = some r := h
  clear h
  replace H := Option.bind_eq_some_iff.mp H
  obtain ⟨t207, A30, H⟩ := H
  replace H : ((spec_FpOf.f a1).bind fun t208 => ((spec_FpOf.f (wrap64 (t207 + t208))).bind fun t209 => (some t209))) = some r := H
  have A3 := Aside0.mk A30
  clear A30
  replace H := Option.bind_eq_some_iff.mp H
  obtain ⟨t208, A40, H⟩ := H
  replace H : ((spec_FpOf.f (wrap64 (t207 + t208))).bind fun t209 => (some t209)) = some r := H
  have A4 := Aside0.mk A40
  clear A40
  replace H := Option.bind_eq_some_iff.mp H
  obtain ⟨t209, A50, H⟩ := H
  replace H : (some t209) = some r := H
  have A5 := Aside0.mk A50
  clear A50
  obtain rfl := Option.some.inj H
  go_enter Try.func161, Try.ntmps161
  go_wp2_with (first | ((with_reducible refine gate_callee (f := 200) rfl ?_); refine goesL_ (some 6) rfl rfl Try.func200 (by kernel_rfl) rfl #[.int .i64 a0] rfl (by (try simp only [List.map_toArray, List.map_cons, List.map_nil]); first | done | rfl | (simp only [List.length_drop, List.length_take]; rfl)) ?_; (with_reducible refine (spec_FpOf.calls a0 t207 _ A3.out).mono ?_); rintro e w' ⟨rfl, ⟨nd, rfl⟩⟩; refine ⟨_, rfl, ?_⟩) | ((with_reducible refine gate_callee (f := 200) rfl ?_); refine goesL_ (some 8) rfl rfl Try.func200 (by kernel_rfl) rfl #[.int .i64 a1] rfl (by (try simp only [List.map_toArray, List.map_cons, List.map_nil]); first | done | rfl | (simp only [List.length_drop, List.length_take]; rfl)) ?_; (with_reducible refine (spec_FpOf.calls a1 t208 _ A4.out).mono ?_); rintro e w' ⟨rfl, ⟨nd, rfl⟩⟩; refine ⟨_, rfl, ?_⟩) | ((with_reducible refine gate_callee (f := 200) rfl ?_); refine goesL_ (some 10) rfl rfl Try.func200 (by kernel_rfl) rfl #[.int .i64 (wrap64 (t207 + t208))] rfl (by (try simp only [List.map_toArray, List.map_cons, List.map_nil]); first | done | rfl | (simp only [List.length_drop, List.length_take]; rfl)) ?_; (with_reducible refine (spec_FpOf.calls (wrap64 (t207 + t208)) t209 _ A5.out).mono ?_); rintro e w' ⟨rfl, ⟨nd, rfl⟩⟩; refine ⟨_, rfl, ?_⟩))
  go_ret
  exact ⟨by first | rfl | (simp; done) | (simp [*]; done), by repeat (first | exact Drawn0.refl _ | apply Drawn0.step)⟩

/-! ### spec_l07Right: function 154 -/
def spec_l07Right.f (a0 : Int) : Option (Int) := (spec_FpMul.f a0 a0).bind fun t210 => ((spec_FpMul.f t210 a0).bind fun t211 => ((spec_FpAdd.f t211 a0).bind fun t212 => (some t212)))
set_option maxHeartbeats 8000000 in
set_option maxRecDepth 100000 in
theorem spec_l07Right.calls (a0 : Int) (r : Int) (w : World) (h : spec_l07Right.f a0 = some r) :
    Calls Try.prog 154 #[.int .i64 a0] w fun e w' => e = .returned (.int .i64 r) ∧ Drawn0 w w' := by
  have H : ((spec_FpMul.f a0 a0).bind fun t210 => ((spec_FpMul.f t210 a0).bind fun t211 => ((spec_FpAdd.f t211 a0).bind fun t212 => (some t212)))) = some r := h
  clear h
  replace H := Option.bind_eq_some_iff.mp H
  obtain ⟨t210, A20, H⟩ := H
  replace H : ((spec_FpMul.f t210 a0).bind fun t211 => ((spec_FpAdd.f t211 a0).bind fun t212 => (some t212))) = some r := H
  have A2 := Aside0.mk A20
  clear A20
  replace H := Option.bind_eq_some_iff.mp H
  obtain ⟨t211, A30, H⟩ := H
  replace H : ((spec_FpAdd.f t211 a0).bind fun t212 => (some t212)) = some r := H
  have A3 := Aside0.mk A30
  clear A30
  replace H := Option.bind_eq_some_iff.mp H
  obtain ⟨t212, A40, H⟩ := H
  replace H : (some t212) = some r := H
  have A4 := Aside0.mk A40
  clear A40
  obtain rfl := Option.some.inj H
  go_enter Try.func154, Try.ntmps154
  go_wp2_with (first | ((with_reducible refine gate_callee (f := 160) rfl ?_); refine goesL_ (some 5) rfl rfl Try.func160 (by kernel_rfl) rfl #[.int .i64 a0, .int .i64 a0] rfl (by (try simp only [List.map_toArray, List.map_cons, List.map_nil]); first | done | rfl | (simp only [List.length_drop, List.length_take]; rfl)) ?_; (with_reducible refine (spec_FpMul.calls a0 a0 t210 _ A2.out).mono ?_); rintro e w' ⟨rfl, ⟨nd, rfl⟩⟩; refine ⟨_, rfl, ?_⟩) | ((with_reducible refine gate_callee (f := 160) rfl ?_); refine goesL_ (some 7) rfl rfl Try.func160 (by kernel_rfl) rfl #[.int .i64 t210, .int .i64 a0] rfl (by (try simp only [List.map_toArray, List.map_cons, List.map_nil]); first | done | rfl | (simp only [List.length_drop, List.length_take]; rfl)) ?_; (with_reducible refine (spec_FpMul.calls t210 a0 t211 _ A3.out).mono ?_); rintro e w' ⟨rfl, ⟨nd, rfl⟩⟩; refine ⟨_, rfl, ?_⟩) | ((with_reducible refine gate_callee (f := 161) rfl ?_); refine goesL_ (some 9) rfl rfl Try.func161 (by kernel_rfl) rfl #[.int .i64 t211, .int .i64 a0] rfl (by (try simp only [List.map_toArray, List.map_cons, List.map_nil]); first | done | rfl | (simp only [List.length_drop, List.length_take]; rfl)) ?_; (with_reducible refine (spec_FpAdd.calls t211 a0 t212 _ A4.out).mono ?_); rintro e w' ⟨rfl, ⟨nd, rfl⟩⟩; refine ⟨_, rfl, ?_⟩))
  go_ret
  exact ⟨by first | rfl | (simp; done) | (simp [*]; done), by repeat (first | exact Drawn0.refl _ | apply Drawn0.step)⟩

end Go.Proofs.Ytegchimmolpmeaa.QFnExactClientOk
