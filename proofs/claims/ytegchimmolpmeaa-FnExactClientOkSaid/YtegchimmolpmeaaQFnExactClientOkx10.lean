-- by a program of this session, out of Lean's print of the loaded program
import Derived.Test.YtegchimmolpmeaaQFnExactClientOkx0
import Derived.Test.YtegchimmolpmeaaQFnExactClientOkx7
import Derived.Test.YtegchimmolpmeaaQFnExactClientOkx9
namespace Go.Proofs.Ytegchimmolpmeaa.QFnExactClientOk
open Go.RowKit Go.Proofs.YtegchimmolpmeaaW.PrintWords Go.Proofs.YtegchimmolpmeaaW.PrintLast Go.Proofs.YtegchimmolpmeaaW.PrintMore
attribute [local go_sem] max2_int min2_int max_two min_two max_three min_three max_four min_four   -- for this text's walks alone
set_option linter.unusedVariables false
set_option linter.unusedSimpArgs false

/-! ### impl_ClientOk: function 38 -/
def impl_ClientOk.j0 : Nat → Bool → Int → ByteArray → ByteArray → ByteArray → List (S28) → List (S28) → Bool → Int → Int → Bool → Int → Int → Bool → Int → Int → Bool → Int → Int → Bool → List (S28) → Option (Bool)
  | 0, _, _, _, _, _, _, _, _, _, _, _, _, _, _, _, _, _, _, _, _, _ => none
  | k + 1, x12, x367000, x367001, x367002, x367003, x367004, x367005, x367006, x367007, x367008, x367009, x367010, x367011, x367012, x367013, x367014, x367015, x367016, x367017, x367018, x367019 => if x12 = true then (some false) else (if x367006 = true then ((impl_CommitteeOk.f k x367005).bind fun t369 => (some t369)) else (some ((x367005.length : Int) == 0)))
def impl_ClientOk.f (k : Nat) (a0_0 : Int) (a0_1 : ByteArray) (a0_2 : ByteArray) (a0_3 : ByteArray) (l0_4 : List (S28)) (l0_5 : List (S28)) (a0_6 : Bool) (a0_7 : Int) (a0_8 : Int) (a0_9 : Bool) (a0_10 : Int) (a0_11 : Int) (a0_12 : Bool) (a0_13 : Int) (a0_14 : Int) (a0_15 : Bool) (a0_16 : Int) (a0_17 : Int) (a0_18 : Bool) (l0_19 : List (S28)) : Option (Bool) := (impl_HeadOk.f a0_0 a0_1 a0_2 a0_3).bind fun t367 => (if t367 = true then ((impl_CommitteeOk.f k l0_4).bind fun t368 => (impl_ClientOk.j0 k (!t368) a0_0 a0_1 a0_2 a0_3 l0_4 l0_5 a0_6 a0_7 a0_8 a0_9 a0_10 a0_11 a0_12 a0_13 a0_14 a0_15 a0_16 a0_17 a0_18 l0_19)) else (impl_ClientOk.j0 k true a0_0 a0_1 a0_2 a0_3 l0_4 l0_5 a0_6 a0_7 a0_8 a0_9 a0_10 a0_11 a0_12 a0_13 a0_14 a0_15 a0_16 a0_17 a0_18 l0_19))
theorem impl_ClientOk.mono_l : ∀ k, (∀ y0 y1 y2 y3 y4 y5 y6 y7 y8 y9 y10 y11 y12 y13 y14 y15 y16 y17 y18 y19 y20, LeO (impl_ClientOk.j0 k y0 y1 y2 y3 y4 y5 y6 y7 y8 y9 y10 y11 y12 y13 y14 y15 y16 y17 y18 y19 y20) (impl_ClientOk.j0 (k + 1) y0 y1 y2 y3 y4 y5 y6 y7 y8 y9 y10 y11 y12 y13 y14 y15 y16 y17 y18 y19 y20))
  | 0 => fun _ _ _ _ _ _ _ _ _ _ _ _ _ _ _ _ _ _ _ _ _ r h => by simp [impl_ClientOk.j0] at h
  | k + 1 => by
    have ih0 := impl_ClientOk.mono_l k
    · intro y0 y1 y2 y3 y4 y5 y6 y7 y8 y9 y10 y11 y12 y13 y14 y15 y16 y17 y18 y19 y20
      unfold impl_ClientOk.j0
      repeat' first
      | (with_reducible exact ih0 _ _ _ _ _ _ _ _ _ _ _ _ _ _ _ _ _ _ _ _ _)
      | (with_reducible exact impl_CommitteeOk.mono _ _)
      | (with_reducible exact LeO.refl _)
      | (with_reducible exact LeO.none _)
      | (with_reducible refine LeO.ite ?_ ?_)
      | (with_reducible refine LeO.bind ?_ (fun _ => ?_))
      | exact ih0 _ _ _ _ _ _ _ _ _ _ _ _ _ _ _ _ _ _ _ _ _
      | exact impl_CommitteeOk.mono _ _
      | exact LeO.none _
      | refine LeO.ite ?_ ?_
      | refine LeO.bind ?_ (fun _ => ?_)
theorem impl_ClientOk.mono : ∀ a0 a1 a2 a3 a4 a5 a6 a7 a8 a9 a10 a11 a12 a13 a14 a15 a16 a17 a18 a19 k, LeO (impl_ClientOk.f k a0 a1 a2 a3 a4 a5 a6 a7 a8 a9 a10 a11 a12 a13 a14 a15 a16 a17 a18 a19) (impl_ClientOk.f (k + 1) a0 a1 a2 a3 a4 a5 a6 a7 a8 a9 a10 a11 a12 a13 a14 a15 a16 a17 a18 a19) := by
  intro a0 a1 a2 a3 a4 a5 a6 a7 a8 a9 a10 a11 a12 a13 a14 a15 a16 a17 a18 a19 k
  have ih0 := impl_ClientOk.mono_l k
  unfold impl_ClientOk.f
  repeat' first
      | (with_reducible exact ih0 _ _ _ _ _ _ _ _ _ _ _ _ _ _ _ _ _ _ _ _ _)
      | (with_reducible exact impl_CommitteeOk.mono _ _)
      | (with_reducible exact LeO.refl _)
      | (with_reducible exact LeO.none _)
      | (with_reducible refine LeO.ite ?_ ?_)
      | (with_reducible refine LeO.bind ?_ (fun _ => ?_))
      | exact ih0 _ _ _ _ _ _ _ _ _ _ _ _ _ _ _ _ _ _ _ _ _
      | exact impl_CommitteeOk.mono _ _
      | exact LeO.none _
      | refine LeO.ite ?_ ?_
      | refine LeO.bind ?_ (fun _ => ?_)
set_option maxHeartbeats 8000000 in
set_option maxRecDepth 100000 in
theorem impl_ClientOk.calls (k : Nat) (a0_0 : Int) (a0_1 : ByteArray) (a0_2 : ByteArray) (a0_3 : ByteArray) (A0_4 : Option Addr) (c0_4 : Nat) (l0_4 : List (S28)) (A0_5 : Option Addr) (c0_5 : Nat) (l0_5 : List (S28)) (a0_6 : Bool) (a0_7 : Int) (a0_8 : Int) (a0_9 : Bool) (a0_10 : Int) (a0_11 : Int) (a0_12 : Bool) (a0_13 : Int) (a0_14 : Int) (a0_15 : Bool) (a0_16 : Int) (a0_17 : Int) (a0_18 : Bool) (A0_19 : Option Addr) (c0_19 : Nat) (l0_19 : List (S28)) (r : Bool) (w : World) (hr0_4 : Kd.C k28 w A0_4 l0_4.length l0_4) (hc0_4 : l0_4.length ≤ c0_4) (hr0_5 : Kd.C k28 w A0_5 l0_5.length l0_5) (hc0_5 : l0_5.length ≤ c0_5) (hr0_19 : Kd.C k28 w A0_19 l0_19.length l0_19) (hc0_19 : l0_19.length ≤ c0_19) (h : impl_ClientOk.f k a0_0 a0_1 a0_2 a0_3 l0_4 l0_5 a0_6 a0_7 a0_8 a0_9 a0_10 a0_11 a0_12 a0_13 a0_14 a0_15 a0_16 a0_17 a0_18 l0_19 = some r) :
    Calls Try.prog 38 #[.agg #[.int .i64 a0_0, .string a0_1, .string a0_2, .string a0_3, .slice A0_4 l0_4.length c0_4, .slice A0_5 l0_5.length c0_5, .bool a0_6, .int .i64 a0_7, .int .i64 a0_8, .bool a0_9, .int .i64 a0_10, .int .i64 a0_11, .bool a0_12, .int .i64 a0_13, .int .i64 a0_14, .bool a0_15, .int .i64 a0_16, .int .i64 a0_17, .bool a0_18, .slice A0_19 l0_19.length c0_19]] w fun e w' => e = .returned (.bool r) ∧ Below w.heap.size w w' := by
  have hu52 := Try.underlying52
  have hu48 := Try.underlying48
  have hu45 := Try.underlying45
  have HR0_4 := Aside0.mk hr0_4
  have HC0_4 := Aside0.mk hc0_4
  clear hr0_4 hc0_4
  have HR0_5 := Aside0.mk hr0_5
  have HC0_5 := Aside0.mk hc0_5
  clear hr0_5 hc0_5
  have HR0_19 := Aside0.mk hr0_19
  have HC0_19 := Aside0.mk hc0_19
  clear hr0_19 hc0_19
  have HB := Aside0.mk (Below.refl w.heap.size w)
  have H : ((impl_HeadOk.f a0_0 a0_1 a0_2 a0_3).bind fun t367 => (if t367 = true then ((impl_CommitteeOk.f k l0_4).bind fun t368 => (impl_ClientOk.j0 k (!t368) a0_0 a0_1 a0_2 a0_3 l0_4 l0_5 a0_6 a0_7 a0_8 a0_9 a0_10 a0_11 a0_12 a0_13 a0_14 a0_15 a0_16 a0_17 a0_18 l0_19)) else (impl_ClientOk.j0 k true a0_0 a0_1 a0_2 a0_3 l0_4 l0_5 a0_6 a0_7 a0_8 a0_9 a0_10 a0_11 a0_12 a0_13 a0_14 a0_15 a0_16 a0_17 a0_18 l0_19))) = some r := h
  clear h
  have HC2 := Aside0.mk H
  clear H
  go_enter Try.func38, Try.ntmps38
  go_upto_region 1 with (first | ((with_reducible refine gate_dst (N := 1) rfl ?_); refine box_event ?hg (N := 1) ?hd (cs := #[.int .i64 a0_0, .string a0_1, .string a0_2, .string a0_3, .slice A0_4 l0_4.length c0_4, .slice A0_5 l0_5.length c0_5, .bool a0_6, .int .i64 a0_7, .int .i64 a0_8, .bool a0_9, .int .i64 a0_10, .int .i64 a0_11, .bool a0_12, .int .i64 a0_13, .int .i64 a0_14, .bool a0_15, .int .i64 a0_16, .int .i64 a0_17, .bool a0_18, .slice A0_19 l0_19.length c0_19]) (t := 52) ?hr ?_; (case hd => rfl); (case hg => rfl); (case hr => first | (go_simp; done) | (go_simp; rfl)); intro gb366 hg w3 hbox hb; have n0_ := Aside0.mk (below_step (by repeat (first | (with_reducible first | exact HB.out | apply below_alloc | apply pw_below_drewN | apply below_drew1) | exact HB.out)) hb); have n1_ := Aside0.mk (hbox); have n2_ := Aside0.mk ((by rw [hg]; exact (below_size (by repeat (first | (with_reducible first | exact HB.out | apply below_alloc | apply pw_below_drewN | apply below_drew1) | exact HB.out))) : w.heap.size ≤ gb366)); have n3_ := Aside0.mk ((by rw [hg]; exact (below_size (by repeat (first | (with_reducible first | exact HB.out | apply below_alloc | apply pw_below_drewN | apply below_drew1) | exact HB.out))) : w.heap.size ≤ gb366)); clear HB; have HB := n0_; have BK366 := n1_; have GW366 := n2_; have GE366 := n3_; clear n0_ n1_ n2_ n3_; clear hb hbox hg))
  (try simp only [Act.put, List.setIfInBounds_toArray, List.set_cons_zero, List.set_cons_succ])
  go_cut [12] (fun v12 wc => ∃ (kq : Nat) (x12_1 : Bool), v12 = .bool x12_1 ∧ Aside0 (impl_ClientOk.j0 kq x12_1 a0_0 a0_1 a0_2 a0_3 l0_4 l0_5 a0_6 a0_7 a0_8 a0_9 a0_10 a0_11 a0_12 a0_13 a0_14 a0_15 a0_16 a0_17 a0_18 l0_19 = some r) ∧ Aside0 (kq ≤ k) ∧ Aside0 (wc.heap[gb366]? = some (.cells #[.int .i64 a0_0, .string a0_1, .string a0_2, .string a0_3, (.slice A0_4 l0_4.length c0_4), (.slice A0_5 l0_5.length c0_5), .bool a0_6, .int .i64 a0_7, .int .i64 a0_8, .bool a0_9, .int .i64 a0_10, .int .i64 a0_11, .bool a0_12, .int .i64 a0_13, .int .i64 a0_14, .bool a0_15, .int .i64 a0_16, .int .i64 a0_17, .bool a0_18, (.slice A0_19 l0_19.length c0_19)] 52 (0, 0))) ∧ Aside0 (Below w.heap.size w wc))
  case first =>
    have H := HC2.out
    clear HC2
    replace H := Option.bind_eq_some_iff.mp H
    obtain ⟨t367, A40, H⟩ := H
    replace H : (if t367 = true then ((impl_CommitteeOk.f k l0_4).bind fun t368 => (impl_ClientOk.j0 k (!t368) a0_0 a0_1 a0_2 a0_3 l0_4 l0_5 a0_6 a0_7 a0_8 a0_9 a0_10 a0_11 a0_12 a0_13 a0_14 a0_15 a0_16 a0_17 a0_18 l0_19)) else (impl_ClientOk.j0 k true a0_0 a0_1 a0_2 a0_3 l0_4 l0_5 a0_6 a0_7 a0_8 a0_9 a0_10 a0_11 a0_12 a0_13 a0_14 a0_15 a0_16 a0_17 a0_18 l0_19)) = some r := H
    have A4 := Aside0.mk A40
    clear A40
    by_cases c5 : t367 = true
    · subst c5
      have H1 : ((impl_CommitteeOk.f k l0_4).bind fun t368 => (impl_ClientOk.j0 k (!t368) a0_0 a0_1 a0_2 a0_3 l0_4 l0_5 a0_6 a0_7 a0_8 a0_9 a0_10 a0_11 a0_12 a0_13 a0_14 a0_15 a0_16 a0_17 a0_18 l0_19)) = some r := by rw [if_pos rfl] at H; exact H
      clear H
      have H := H1
      clear H1
      replace H := Option.bind_eq_some_iff.mp H
      obtain ⟨t368, A60, H⟩ := H
      replace H : (impl_ClientOk.j0 k (!t368) a0_0 a0_1 a0_2 a0_3 l0_4 l0_5 a0_6 a0_7 a0_8 a0_9 a0_10 a0_11 a0_12 a0_13 a0_14 a0_15 a0_16 a0_17 a0_18 l0_19) = some r := H
      have A6 := Aside0.mk A60
      clear A60
      have H' := Aside0.mk H
      clear H
      have hcz7_0 : w3.cell? ⟨gb366, 0, none⟩ = some (.int .i64 a0_0) := (blk_cell BK366.out 0).trans rfl
      have hcz7_1 : w3.cell? ⟨gb366, 1, none⟩ = some (.string a0_1) := (blk_cell BK366.out 1).trans rfl
      have hcz7_2 : w3.cell? ⟨gb366, 2, none⟩ = some (.string a0_2) := (blk_cell BK366.out 2).trans rfl
      have hcz7_3 : w3.cell? ⟨gb366, 3, none⟩ = some (.string a0_3) := (blk_cell BK366.out 3).trans rfl
      have hcz7_4 : w3.cell? ⟨gb366, 4, none⟩ = some (.slice A0_4 l0_4.length c0_4) := (blk_cell BK366.out 4).trans rfl
      have hcz7_5 : w3.cell? ⟨gb366, 5, none⟩ = some (.slice A0_5 l0_5.length c0_5) := (blk_cell BK366.out 5).trans rfl
      have hcz7_6 : w3.cell? ⟨gb366, 6, none⟩ = some (.bool a0_6) := (blk_cell BK366.out 6).trans rfl
      have hcz7_7 : w3.cell? ⟨gb366, 7, none⟩ = some (.int .i64 a0_7) := (blk_cell BK366.out 7).trans rfl
      have hcz7_8 : w3.cell? ⟨gb366, 8, none⟩ = some (.int .i64 a0_8) := (blk_cell BK366.out 8).trans rfl
      have hcz7_9 : w3.cell? ⟨gb366, 9, none⟩ = some (.bool a0_9) := (blk_cell BK366.out 9).trans rfl
      have hcz7_10 : w3.cell? ⟨gb366, 10, none⟩ = some (.int .i64 a0_10) := (blk_cell BK366.out 10).trans rfl
      have hcz7_11 : w3.cell? ⟨gb366, 11, none⟩ = some (.int .i64 a0_11) := (blk_cell BK366.out 11).trans rfl
      have hcz7_12 : w3.cell? ⟨gb366, 12, none⟩ = some (.bool a0_12) := (blk_cell BK366.out 12).trans rfl
      have hcz7_13 : w3.cell? ⟨gb366, 13, none⟩ = some (.int .i64 a0_13) := (blk_cell BK366.out 13).trans rfl
      have hcz7_14 : w3.cell? ⟨gb366, 14, none⟩ = some (.int .i64 a0_14) := (blk_cell BK366.out 14).trans rfl
      have hcz7_15 : w3.cell? ⟨gb366, 15, none⟩ = some (.bool a0_15) := (blk_cell BK366.out 15).trans rfl
      have hcz7_16 : w3.cell? ⟨gb366, 16, none⟩ = some (.int .i64 a0_16) := (blk_cell BK366.out 16).trans rfl
      have hcz7_17 : w3.cell? ⟨gb366, 17, none⟩ = some (.int .i64 a0_17) := (blk_cell BK366.out 17).trans rfl
      have hcz7_18 : w3.cell? ⟨gb366, 18, none⟩ = some (.bool a0_18) := (blk_cell BK366.out 18).trans rfl
      have hcz7_19 : w3.cell? ⟨gb366, 19, none⟩ = some (.slice A0_19 l0_19.length c0_19) := (blk_cell BK366.out 19).trans rfl
      have hfz7_0 := blk_frozen BK366.out 0
      have hfz7_1 := blk_frozen BK366.out 1
      have hfz7_2 := blk_frozen BK366.out 2
      have hfz7_3 := blk_frozen BK366.out 3
      have hfz7_4 := blk_frozen BK366.out 4
      have hfz7_5 := blk_frozen BK366.out 5
      have hfz7_6 := blk_frozen BK366.out 6
      have hfz7_7 := blk_frozen BK366.out 7
      have hfz7_8 := blk_frozen BK366.out 8
      have hfz7_9 := blk_frozen BK366.out 9
      have hfz7_10 := blk_frozen BK366.out 10
      have hfz7_11 := blk_frozen BK366.out 11
      have hfz7_12 := blk_frozen BK366.out 12
      have hfz7_13 := blk_frozen BK366.out 13
      have hfz7_14 := blk_frozen BK366.out 14
      have hfz7_15 := blk_frozen BK366.out 15
      have hfz7_16 := blk_frozen BK366.out 16
      have hfz7_17 := blk_frozen BK366.out 17
      have hfz7_18 := blk_frozen BK366.out 18
      have hfz7_19 := blk_frozen BK366.out 19
      go_wp2_with (first | ((with_reducible refine gate_callee (f := 91) rfl ?_); refine goesL_ (some 5) rfl rfl Try.func91 (by kernel_rfl) rfl #[.agg #[.int .i64 a0_0, .string a0_1, .string a0_2, .string a0_3]] rfl (by (try simp only [List.map_toArray, List.map_cons, List.map_nil]); first | done | rfl | (simp only [List.length_drop, List.length_take]; rfl)) ?_; (with_reducible refine (impl_HeadOk.calls a0_0 a0_1 a0_2 a0_3 true _ A4.out).mono ?_); rintro e w8 ⟨rfl, hb⟩; refine ⟨_, rfl, ?_⟩; have n0_ := Aside0.mk (blk_below (g := gb366) (o := .cells #[.int .i64 a0_0, .string a0_1, .string a0_2, .string a0_3, .slice A0_4 l0_4.length c0_4, .slice A0_5 l0_5.length c0_5, .bool a0_6, .int .i64 a0_7, .int .i64 a0_8, .bool a0_9, .int .i64 a0_10, .int .i64 a0_11, .bool a0_12, .int .i64 a0_13, .int .i64 a0_14, .bool a0_15, .int .i64 a0_16, .int .i64 a0_17, .bool a0_18, .slice A0_19 l0_19.length c0_19] 52 (0, 0)) (by (with_reducible repeat (first | refine blk_drewN ?_ _ | refine blk_drew ?_ | refine blk_alloc ?_ _)); exact BK366.out) hb); have n1_ := Aside0.mk (below_step (by repeat (first | (with_reducible first | exact HB.out | apply below_alloc | apply pw_below_drewN | apply below_drew1 | refine below_set ?_ GE366.out) | exact HB.out)) hb); clear BK366; clear HB; have BK366 := n0_; have HB := n1_; clear n0_ n1_; (try clear hb); (try clear hb2); (try clear hk); (try clear hi); have hcz9_0 : w8.cell? ⟨gb366, 0, none⟩ = some (.int .i64 a0_0) := (blk_cell BK366.out 0).trans rfl; have hcz9_1 : w8.cell? ⟨gb366, 1, none⟩ = some (.string a0_1) := (blk_cell BK366.out 1).trans rfl; have hcz9_2 : w8.cell? ⟨gb366, 2, none⟩ = some (.string a0_2) := (blk_cell BK366.out 2).trans rfl; have hcz9_3 : w8.cell? ⟨gb366, 3, none⟩ = some (.string a0_3) := (blk_cell BK366.out 3).trans rfl; have hcz9_4 : w8.cell? ⟨gb366, 4, none⟩ = some (.slice A0_4 l0_4.length c0_4) := (blk_cell BK366.out 4).trans rfl; have hcz9_5 : w8.cell? ⟨gb366, 5, none⟩ = some (.slice A0_5 l0_5.length c0_5) := (blk_cell BK366.out 5).trans rfl; have hcz9_6 : w8.cell? ⟨gb366, 6, none⟩ = some (.bool a0_6) := (blk_cell BK366.out 6).trans rfl; have hcz9_7 : w8.cell? ⟨gb366, 7, none⟩ = some (.int .i64 a0_7) := (blk_cell BK366.out 7).trans rfl; have hcz9_8 : w8.cell? ⟨gb366, 8, none⟩ = some (.int .i64 a0_8) := (blk_cell BK366.out 8).trans rfl; have hcz9_9 : w8.cell? ⟨gb366, 9, none⟩ = some (.bool a0_9) := (blk_cell BK366.out 9).trans rfl; have hcz9_10 : w8.cell? ⟨gb366, 10, none⟩ = some (.int .i64 a0_10) := (blk_cell BK366.out 10).trans rfl; have hcz9_11 : w8.cell? ⟨gb366, 11, none⟩ = some (.int .i64 a0_11) := (blk_cell BK366.out 11).trans rfl; have hcz9_12 : w8.cell? ⟨gb366, 12, none⟩ = some (.bool a0_12) := (blk_cell BK366.out 12).trans rfl; have hcz9_13 : w8.cell? ⟨gb366, 13, none⟩ = some (.int .i64 a0_13) := (blk_cell BK366.out 13).trans rfl; have hcz9_14 : w8.cell? ⟨gb366, 14, none⟩ = some (.int .i64 a0_14) := (blk_cell BK366.out 14).trans rfl; have hcz9_15 : w8.cell? ⟨gb366, 15, none⟩ = some (.bool a0_15) := (blk_cell BK366.out 15).trans rfl; have hcz9_16 : w8.cell? ⟨gb366, 16, none⟩ = some (.int .i64 a0_16) := (blk_cell BK366.out 16).trans rfl; have hcz9_17 : w8.cell? ⟨gb366, 17, none⟩ = some (.int .i64 a0_17) := (blk_cell BK366.out 17).trans rfl; have hcz9_18 : w8.cell? ⟨gb366, 18, none⟩ = some (.bool a0_18) := (blk_cell BK366.out 18).trans rfl; have hcz9_19 : w8.cell? ⟨gb366, 19, none⟩ = some (.slice A0_19 l0_19.length c0_19) := (blk_cell BK366.out 19).trans rfl; have hfz9_0 := blk_frozen BK366.out 0; have hfz9_1 := blk_frozen BK366.out 1; have hfz9_2 := blk_frozen BK366.out 2; have hfz9_3 := blk_frozen BK366.out 3; have hfz9_4 := blk_frozen BK366.out 4; have hfz9_5 := blk_frozen BK366.out 5; have hfz9_6 := blk_frozen BK366.out 6; have hfz9_7 := blk_frozen BK366.out 7; have hfz9_8 := blk_frozen BK366.out 8; have hfz9_9 := blk_frozen BK366.out 9; have hfz9_10 := blk_frozen BK366.out 10; have hfz9_11 := blk_frozen BK366.out 11; have hfz9_12 := blk_frozen BK366.out 12; have hfz9_13 := blk_frozen BK366.out 13; have hfz9_14 := blk_frozen BK366.out 14; have hfz9_15 := blk_frozen BK366.out 15; have hfz9_16 := blk_frozen BK366.out 16; have hfz9_17 := blk_frozen BK366.out 17; have hfz9_18 := blk_frozen BK366.out 18; have hfz9_19 := blk_frozen BK366.out 19) | (go_at_call 92; (with_reducible refine (impl_CommitteeOk.calls k _ _ l0_4 t368 _ ?side1 ?side2 A6.out).mono ?_); (case side1 => repeat (first | exact (Kd.C_below HR0_4.out HB.out) | (with_reducible refine Kd.C_alloc ?_ _) | (with_reducible refine Kd.C_drewN ?_ _) | (with_reducible refine Kd.C_drew ?_))); (case side2 => exact HC0_4.out); rintro e w10 ⟨rfl, hb⟩; have n0_ := Aside0.mk (blk_below (g := gb366) (o := .cells #[.int .i64 a0_0, .string a0_1, .string a0_2, .string a0_3, .slice A0_4 l0_4.length c0_4, .slice A0_5 l0_5.length c0_5, .bool a0_6, .int .i64 a0_7, .int .i64 a0_8, .bool a0_9, .int .i64 a0_10, .int .i64 a0_11, .bool a0_12, .int .i64 a0_13, .int .i64 a0_14, .bool a0_15, .int .i64 a0_16, .int .i64 a0_17, .bool a0_18, .slice A0_19 l0_19.length c0_19] 52 (0, 0)) (by (with_reducible repeat (first | refine blk_drewN ?_ _ | refine blk_drew ?_ | refine blk_alloc ?_ _)); exact BK366.out) hb); have n1_ := Aside0.mk (below_step (by repeat (first | (with_reducible first | exact HB.out | apply below_alloc | apply pw_below_drewN | apply below_drew1 | refine below_set ?_ GE366.out) | exact HB.out)) hb); clear BK366; clear HB; have BK366 := n0_; have HB := n1_; clear n0_ n1_; (try clear hb); (try clear hb2); (try clear hk); (try clear hi)))
      go_meet
      case rel => exact ⟨_, (!t368), (by first | rfl | (simp; done) | (simp [*]; done)), H', ⟨by first | omega | exact Nat.le_refl _⟩, ⟨by (with_reducible repeat (first | refine blk_drewN ?_ _ | refine blk_drew ?_ | refine blk_alloc ?_ _)); exact BK366.out⟩, ⟨by repeat (first | (with_reducible first | exact HB.out | apply below_alloc | apply pw_below_drewN | apply below_drew1 | refine below_set ?_ GE366.out) | exact HB.out)⟩⟩
    · replace c5 := Bool.eq_false_iff.mpr c5
      subst c5
      have H1 : (impl_ClientOk.j0 k true a0_0 a0_1 a0_2 a0_3 l0_4 l0_5 a0_6 a0_7 a0_8 a0_9 a0_10 a0_11 a0_12 a0_13 a0_14 a0_15 a0_16 a0_17 a0_18 l0_19) = some r := by rw [if_neg (show ¬ (false = true) by decide)] at H; exact H
      clear H
      have H := H1
      clear H1
      have H' := Aside0.mk H
      clear H
      have hcz11_0 : w3.cell? ⟨gb366, 0, none⟩ = some (.int .i64 a0_0) := (blk_cell BK366.out 0).trans rfl
      have hcz11_1 : w3.cell? ⟨gb366, 1, none⟩ = some (.string a0_1) := (blk_cell BK366.out 1).trans rfl
      have hcz11_2 : w3.cell? ⟨gb366, 2, none⟩ = some (.string a0_2) := (blk_cell BK366.out 2).trans rfl
      have hcz11_3 : w3.cell? ⟨gb366, 3, none⟩ = some (.string a0_3) := (blk_cell BK366.out 3).trans rfl
      have hcz11_4 : w3.cell? ⟨gb366, 4, none⟩ = some (.slice A0_4 l0_4.length c0_4) := (blk_cell BK366.out 4).trans rfl
      have hcz11_5 : w3.cell? ⟨gb366, 5, none⟩ = some (.slice A0_5 l0_5.length c0_5) := (blk_cell BK366.out 5).trans rfl
      have hcz11_6 : w3.cell? ⟨gb366, 6, none⟩ = some (.bool a0_6) := (blk_cell BK366.out 6).trans rfl
      have hcz11_7 : w3.cell? ⟨gb366, 7, none⟩ = some (.int .i64 a0_7) := (blk_cell BK366.out 7).trans rfl
      have hcz11_8 : w3.cell? ⟨gb366, 8, none⟩ = some (.int .i64 a0_8) := (blk_cell BK366.out 8).trans rfl
      have hcz11_9 : w3.cell? ⟨gb366, 9, none⟩ = some (.bool a0_9) := (blk_cell BK366.out 9).trans rfl
      have hcz11_10 : w3.cell? ⟨gb366, 10, none⟩ = some (.int .i64 a0_10) := (blk_cell BK366.out 10).trans rfl
      have hcz11_11 : w3.cell? ⟨gb366, 11, none⟩ = some (.int .i64 a0_11) := (blk_cell BK366.out 11).trans rfl
      have hcz11_12 : w3.cell? ⟨gb366, 12, none⟩ = some (.bool a0_12) := (blk_cell BK366.out 12).trans rfl
      have hcz11_13 : w3.cell? ⟨gb366, 13, none⟩ = some (.int .i64 a0_13) := (blk_cell BK366.out 13).trans rfl
      have hcz11_14 : w3.cell? ⟨gb366, 14, none⟩ = some (.int .i64 a0_14) := (blk_cell BK366.out 14).trans rfl
      have hcz11_15 : w3.cell? ⟨gb366, 15, none⟩ = some (.bool a0_15) := (blk_cell BK366.out 15).trans rfl
      have hcz11_16 : w3.cell? ⟨gb366, 16, none⟩ = some (.int .i64 a0_16) := (blk_cell BK366.out 16).trans rfl
      have hcz11_17 : w3.cell? ⟨gb366, 17, none⟩ = some (.int .i64 a0_17) := (blk_cell BK366.out 17).trans rfl
      have hcz11_18 : w3.cell? ⟨gb366, 18, none⟩ = some (.bool a0_18) := (blk_cell BK366.out 18).trans rfl
      have hcz11_19 : w3.cell? ⟨gb366, 19, none⟩ = some (.slice A0_19 l0_19.length c0_19) := (blk_cell BK366.out 19).trans rfl
      have hfz11_0 := blk_frozen BK366.out 0
      have hfz11_1 := blk_frozen BK366.out 1
      have hfz11_2 := blk_frozen BK366.out 2
      have hfz11_3 := blk_frozen BK366.out 3
      have hfz11_4 := blk_frozen BK366.out 4
      have hfz11_5 := blk_frozen BK366.out 5
      have hfz11_6 := blk_frozen BK366.out 6
      have hfz11_7 := blk_frozen BK366.out 7
      have hfz11_8 := blk_frozen BK366.out 8
      have hfz11_9 := blk_frozen BK366.out 9
      have hfz11_10 := blk_frozen BK366.out 10
      have hfz11_11 := blk_frozen BK366.out 11
      have hfz11_12 := blk_frozen BK366.out 12
      have hfz11_13 := blk_frozen BK366.out 13
      have hfz11_14 := blk_frozen BK366.out 14
      have hfz11_15 := blk_frozen BK366.out 15
      have hfz11_16 := blk_frozen BK366.out 16
      have hfz11_17 := blk_frozen BK366.out 17
      have hfz11_18 := blk_frozen BK366.out 18
      have hfz11_19 := blk_frozen BK366.out 19
      go_wp2_with (first | ((with_reducible refine gate_callee (f := 91) rfl ?_); refine goesL_ (some 5) rfl rfl Try.func91 (by kernel_rfl) rfl #[.agg #[.int .i64 a0_0, .string a0_1, .string a0_2, .string a0_3]] rfl (by (try simp only [List.map_toArray, List.map_cons, List.map_nil]); first | done | rfl | (simp only [List.length_drop, List.length_take]; rfl)) ?_; (with_reducible refine (impl_HeadOk.calls a0_0 a0_1 a0_2 a0_3 false _ A4.out).mono ?_); rintro e w12 ⟨rfl, hb⟩; refine ⟨_, rfl, ?_⟩; have n0_ := Aside0.mk (blk_below (g := gb366) (o := .cells #[.int .i64 a0_0, .string a0_1, .string a0_2, .string a0_3, .slice A0_4 l0_4.length c0_4, .slice A0_5 l0_5.length c0_5, .bool a0_6, .int .i64 a0_7, .int .i64 a0_8, .bool a0_9, .int .i64 a0_10, .int .i64 a0_11, .bool a0_12, .int .i64 a0_13, .int .i64 a0_14, .bool a0_15, .int .i64 a0_16, .int .i64 a0_17, .bool a0_18, .slice A0_19 l0_19.length c0_19] 52 (0, 0)) (by (with_reducible repeat (first | refine blk_drewN ?_ _ | refine blk_drew ?_ | refine blk_alloc ?_ _)); exact BK366.out) hb); have n1_ := Aside0.mk (below_step (by repeat (first | (with_reducible first | exact HB.out | apply below_alloc | apply pw_below_drewN | apply below_drew1 | refine below_set ?_ GE366.out) | exact HB.out)) hb); clear BK366; clear HB; have BK366 := n0_; have HB := n1_; clear n0_ n1_; (try clear hb); (try clear hb2); (try clear hk); (try clear hi)))
      go_meet
      case rel => exact ⟨_, (true), (by first | rfl | (simp; done) | (simp [*]; done)), H', ⟨by first | omega | exact Nat.le_refl _⟩, ⟨by (with_reducible repeat (first | refine blk_drewN ?_ _ | refine blk_drew ?_ | refine blk_alloc ?_ _)); exact BK366.out⟩, ⟨by repeat (first | (with_reducible first | exact HB.out | apply below_alloc | apply pw_below_drewN | apply below_drew1 | refine below_set ?_ GE366.out) | exact HB.out)⟩⟩
  case rest =>
    clear HC2
    try clear p2
    try clear c3
    try clear c5
    try clear c9
    try clear hcz11_0
    try clear hcz11_1
    try clear hcz11_10
    try clear hcz11_11
    try clear hcz11_12
    try clear hcz11_13
    try clear hcz11_14
    try clear hcz11_15
    try clear hcz11_16
    try clear hcz11_17
    try clear hcz11_18
    try clear hcz11_19
    try clear hcz11_2
    try clear hcz11_3
    try clear hcz11_4
    try clear hcz11_5
    try clear hcz11_6
    try clear hcz11_7
    try clear hcz11_8
    try clear hcz11_9
    try clear hcz7_0
    try clear hcz7_1
    try clear hcz7_10
    try clear hcz7_11
    try clear hcz7_12
    try clear hcz7_13
    try clear hcz7_14
    try clear hcz7_15
    try clear hcz7_16
    try clear hcz7_17
    try clear hcz7_18
    try clear hcz7_19
    try clear hcz7_2
    try clear hcz7_3
    try clear hcz7_4
    try clear hcz7_5
    try clear hcz7_6
    try clear hcz7_7
    try clear hcz7_8
    try clear hcz7_9
    try clear hcz9_0
    try clear hcz9_1
    try clear hcz9_10
    try clear hcz9_11
    try clear hcz9_12
    try clear hcz9_13
    try clear hcz9_14
    try clear hcz9_15
    try clear hcz9_16
    try clear hcz9_17
    try clear hcz9_18
    try clear hcz9_19
    try clear hcz9_2
    try clear hcz9_3
    try clear hcz9_4
    try clear hcz9_5
    try clear hcz9_6
    try clear hcz9_7
    try clear hcz9_8
    try clear hcz9_9
    try clear hfz11_0
    try clear hfz11_1
    try clear hfz11_10
    try clear hfz11_11
    try clear hfz11_12
    try clear hfz11_13
    try clear hfz11_14
    try clear hfz11_15
    try clear hfz11_16
    try clear hfz11_17
    try clear hfz11_18
    try clear hfz11_19
    try clear hfz11_2
    try clear hfz11_3
    try clear hfz11_4
    try clear hfz11_5
    try clear hfz11_6
    try clear hfz11_7
    try clear hfz11_8
    try clear hfz11_9
    try clear hfz7_0
    try clear hfz7_1
    try clear hfz7_10
    try clear hfz7_11
    try clear hfz7_12
    try clear hfz7_13
    try clear hfz7_14
    try clear hfz7_15
    try clear hfz7_16
    try clear hfz7_17
    try clear hfz7_18
    try clear hfz7_19
    try clear hfz7_2
    try clear hfz7_3
    try clear hfz7_4
    try clear hfz7_5
    try clear hfz7_6
    try clear hfz7_7
    try clear hfz7_8
    try clear hfz7_9
    try clear hfz9_0
    try clear hfz9_1
    try clear hfz9_10
    try clear hfz9_11
    try clear hfz9_12
    try clear hfz9_13
    try clear hfz9_14
    try clear hfz9_15
    try clear hfz9_16
    try clear hfz9_17
    try clear hfz9_18
    try clear hfz9_19
    try clear hfz9_2
    try clear hfz9_3
    try clear hfz9_4
    try clear hfz9_5
    try clear hfz9_6
    try clear hfz9_7
    try clear hfz9_8
    try clear hfz9_9
    obtain ⟨kq, x12_1, rfl, HA, HJ1, BK366, HB⟩ := hcut
    cases kq with
    | zero => exact absurd HA.out (by simp [impl_ClientOk.j0])
    | succ kj1 =>
      have H := HA.out
      clear HA
      simp only [impl_ClientOk.j0] at H
      by_cases c13 : x12_1 = true
      · subst c13
        have H1 : (some false) = some r := by rw [if_pos rfl] at H; exact H
        clear H
        have H := H1
        clear H1
        obtain rfl := Option.some.inj H
        go_wp2
        go_ret
        exact ⟨by first | rfl | (simp [errW_none, errW_some] <;> rfl) | (simp [*, errW_none, errW_some] <;> rfl), by repeat (first | (with_reducible first | exact HB.out | apply below_alloc | apply pw_below_drewN | apply below_drew1 | refine below_set ?_ GE366.out) | exact HB.out)⟩
      · replace c13 := Bool.eq_false_iff.mpr c13
        subst c13
        have H1 : (if a0_6 = true then ((impl_CommitteeOk.f kj1 l0_5).bind fun t369 => (some t369)) else (some ((l0_5.length : Int) == 0))) = some r := by rw [if_neg (show ¬ (false = true) by decide)] at H; exact H
        clear H
        have H := H1
        clear H1
        by_cases c14 : a0_6 = true
        · subst c14
          have H1 : ((impl_CommitteeOk.f kj1 l0_5).bind fun t369 => (some t369)) = some r := by rw [if_pos rfl] at H; exact H
          clear H
          have H := H1
          clear H1
          replace H := Option.bind_eq_some_iff.mp H
          obtain ⟨t369, A150, H⟩ := H
          replace H : (some t369) = some r := H
          have A15 := Aside0.mk A150
          clear A150
          obtain rfl := Option.some.inj H
          have hcz16_0 : wc.cell? ⟨gb366, 0, none⟩ = some (.int .i64 a0_0) := (blk_cell BK366.out 0).trans rfl
          have hcz16_1 : wc.cell? ⟨gb366, 1, none⟩ = some (.string a0_1) := (blk_cell BK366.out 1).trans rfl
          have hcz16_2 : wc.cell? ⟨gb366, 2, none⟩ = some (.string a0_2) := (blk_cell BK366.out 2).trans rfl
          have hcz16_3 : wc.cell? ⟨gb366, 3, none⟩ = some (.string a0_3) := (blk_cell BK366.out 3).trans rfl
          have hcz16_4 : wc.cell? ⟨gb366, 4, none⟩ = some (.slice A0_4 l0_4.length c0_4) := (blk_cell BK366.out 4).trans rfl
          have hcz16_5 : wc.cell? ⟨gb366, 5, none⟩ = some (.slice A0_5 l0_5.length c0_5) := (blk_cell BK366.out 5).trans rfl
          have hcz16_6 : wc.cell? ⟨gb366, 6, none⟩ = some (.bool true) := (blk_cell BK366.out 6).trans rfl
          have hcz16_7 : wc.cell? ⟨gb366, 7, none⟩ = some (.int .i64 a0_7) := (blk_cell BK366.out 7).trans rfl
          have hcz16_8 : wc.cell? ⟨gb366, 8, none⟩ = some (.int .i64 a0_8) := (blk_cell BK366.out 8).trans rfl
          have hcz16_9 : wc.cell? ⟨gb366, 9, none⟩ = some (.bool a0_9) := (blk_cell BK366.out 9).trans rfl
          have hcz16_10 : wc.cell? ⟨gb366, 10, none⟩ = some (.int .i64 a0_10) := (blk_cell BK366.out 10).trans rfl
          have hcz16_11 : wc.cell? ⟨gb366, 11, none⟩ = some (.int .i64 a0_11) := (blk_cell BK366.out 11).trans rfl
          have hcz16_12 : wc.cell? ⟨gb366, 12, none⟩ = some (.bool a0_12) := (blk_cell BK366.out 12).trans rfl
          have hcz16_13 : wc.cell? ⟨gb366, 13, none⟩ = some (.int .i64 a0_13) := (blk_cell BK366.out 13).trans rfl
          have hcz16_14 : wc.cell? ⟨gb366, 14, none⟩ = some (.int .i64 a0_14) := (blk_cell BK366.out 14).trans rfl
          have hcz16_15 : wc.cell? ⟨gb366, 15, none⟩ = some (.bool a0_15) := (blk_cell BK366.out 15).trans rfl
          have hcz16_16 : wc.cell? ⟨gb366, 16, none⟩ = some (.int .i64 a0_16) := (blk_cell BK366.out 16).trans rfl
          have hcz16_17 : wc.cell? ⟨gb366, 17, none⟩ = some (.int .i64 a0_17) := (blk_cell BK366.out 17).trans rfl
          have hcz16_18 : wc.cell? ⟨gb366, 18, none⟩ = some (.bool a0_18) := (blk_cell BK366.out 18).trans rfl
          have hcz16_19 : wc.cell? ⟨gb366, 19, none⟩ = some (.slice A0_19 l0_19.length c0_19) := (blk_cell BK366.out 19).trans rfl
          have hfz16_0 := blk_frozen BK366.out 0
          have hfz16_1 := blk_frozen BK366.out 1
          have hfz16_2 := blk_frozen BK366.out 2
          have hfz16_3 := blk_frozen BK366.out 3
          have hfz16_4 := blk_frozen BK366.out 4
          have hfz16_5 := blk_frozen BK366.out 5
          have hfz16_6 := blk_frozen BK366.out 6
          have hfz16_7 := blk_frozen BK366.out 7
          have hfz16_8 := blk_frozen BK366.out 8
          have hfz16_9 := blk_frozen BK366.out 9
          have hfz16_10 := blk_frozen BK366.out 10
          have hfz16_11 := blk_frozen BK366.out 11
          have hfz16_12 := blk_frozen BK366.out 12
          have hfz16_13 := blk_frozen BK366.out 13
          have hfz16_14 := blk_frozen BK366.out 14
          have hfz16_15 := blk_frozen BK366.out 15
          have hfz16_16 := blk_frozen BK366.out 16
          have hfz16_17 := blk_frozen BK366.out 17
          have hfz16_18 := blk_frozen BK366.out 18
          have hfz16_19 := blk_frozen BK366.out 19
          go_wp2_with (first | ((with_reducible refine gate_callee (f := 92) rfl ?_); refine goesL_ (some 17) rfl rfl Try.func92 (by kernel_rfl) rfl #[.agg #[.slice A0_5 l0_5.length c0_5]] rfl (by (try simp only [List.map_toArray, List.map_cons, List.map_nil]); first | done | rfl | (simp only [List.length_drop, List.length_take]; rfl)) ?_; (with_reducible refine (impl_CommitteeOk.calls kj1 _ _ l0_5 t369 _ ?side1 ?side2 A15.out).mono ?_); (case side1 => repeat (first | exact (Kd.C_below HR0_5.out HB.out) | (with_reducible refine Kd.C_alloc ?_ _) | (with_reducible refine Kd.C_drewN ?_ _) | (with_reducible refine Kd.C_drew ?_))); (case side2 => exact HC0_5.out); rintro e w17 ⟨rfl, hb⟩; refine ⟨_, rfl, ?_⟩; have n0_ := Aside0.mk (blk_below (g := gb366) (o := .cells #[.int .i64 a0_0, .string a0_1, .string a0_2, .string a0_3, .slice A0_4 l0_4.length c0_4, .slice A0_5 l0_5.length c0_5, .bool true, .int .i64 a0_7, .int .i64 a0_8, .bool a0_9, .int .i64 a0_10, .int .i64 a0_11, .bool a0_12, .int .i64 a0_13, .int .i64 a0_14, .bool a0_15, .int .i64 a0_16, .int .i64 a0_17, .bool a0_18, .slice A0_19 l0_19.length c0_19] 52 (0, 0)) (by (with_reducible repeat (first | refine blk_drewN ?_ _ | refine blk_drew ?_ | refine blk_alloc ?_ _)); exact BK366.out) hb); have n1_ := Aside0.mk (below_step (by repeat (first | (with_reducible first | exact HB.out | apply below_alloc | apply pw_below_drewN | apply below_drew1 | refine below_set ?_ GE366.out) | exact HB.out)) hb); clear BK366; clear HB; have BK366 := n0_; have HB := n1_; clear n0_ n1_; (try clear hb); (try clear hb2); (try clear hk); (try clear hi)))
          go_ret
          exact ⟨by first | rfl | (simp [errW_none, errW_some] <;> rfl) | (simp [*, errW_none, errW_some] <;> rfl), by repeat (first | (with_reducible first | exact HB.out | apply below_alloc | apply pw_below_drewN | apply below_drew1 | refine below_set ?_ GE366.out) | exact HB.out)⟩
        · replace c14 := Bool.eq_false_iff.mpr c14
          subst c14
          have H1 : (some ((l0_5.length : Int) == 0)) = some r := by rw [if_neg (show ¬ (false = true) by decide)] at H; exact H
          clear H
          have H := H1
          clear H1
          obtain rfl := Option.some.inj H
          have hcz18_0 : wc.cell? ⟨gb366, 0, none⟩ = some (.int .i64 a0_0) := (blk_cell BK366.out 0).trans rfl
          have hcz18_1 : wc.cell? ⟨gb366, 1, none⟩ = some (.string a0_1) := (blk_cell BK366.out 1).trans rfl
          have hcz18_2 : wc.cell? ⟨gb366, 2, none⟩ = some (.string a0_2) := (blk_cell BK366.out 2).trans rfl
          have hcz18_3 : wc.cell? ⟨gb366, 3, none⟩ = some (.string a0_3) := (blk_cell BK366.out 3).trans rfl
          have hcz18_4 : wc.cell? ⟨gb366, 4, none⟩ = some (.slice A0_4 l0_4.length c0_4) := (blk_cell BK366.out 4).trans rfl
          have hcz18_5 : wc.cell? ⟨gb366, 5, none⟩ = some (.slice A0_5 l0_5.length c0_5) := (blk_cell BK366.out 5).trans rfl
          have hcz18_6 : wc.cell? ⟨gb366, 6, none⟩ = some (.bool false) := (blk_cell BK366.out 6).trans rfl
          have hcz18_7 : wc.cell? ⟨gb366, 7, none⟩ = some (.int .i64 a0_7) := (blk_cell BK366.out 7).trans rfl
          have hcz18_8 : wc.cell? ⟨gb366, 8, none⟩ = some (.int .i64 a0_8) := (blk_cell BK366.out 8).trans rfl
          have hcz18_9 : wc.cell? ⟨gb366, 9, none⟩ = some (.bool a0_9) := (blk_cell BK366.out 9).trans rfl
          have hcz18_10 : wc.cell? ⟨gb366, 10, none⟩ = some (.int .i64 a0_10) := (blk_cell BK366.out 10).trans rfl
          have hcz18_11 : wc.cell? ⟨gb366, 11, none⟩ = some (.int .i64 a0_11) := (blk_cell BK366.out 11).trans rfl
          have hcz18_12 : wc.cell? ⟨gb366, 12, none⟩ = some (.bool a0_12) := (blk_cell BK366.out 12).trans rfl
          have hcz18_13 : wc.cell? ⟨gb366, 13, none⟩ = some (.int .i64 a0_13) := (blk_cell BK366.out 13).trans rfl
          have hcz18_14 : wc.cell? ⟨gb366, 14, none⟩ = some (.int .i64 a0_14) := (blk_cell BK366.out 14).trans rfl
          have hcz18_15 : wc.cell? ⟨gb366, 15, none⟩ = some (.bool a0_15) := (blk_cell BK366.out 15).trans rfl
          have hcz18_16 : wc.cell? ⟨gb366, 16, none⟩ = some (.int .i64 a0_16) := (blk_cell BK366.out 16).trans rfl
          have hcz18_17 : wc.cell? ⟨gb366, 17, none⟩ = some (.int .i64 a0_17) := (blk_cell BK366.out 17).trans rfl
          have hcz18_18 : wc.cell? ⟨gb366, 18, none⟩ = some (.bool a0_18) := (blk_cell BK366.out 18).trans rfl
          have hcz18_19 : wc.cell? ⟨gb366, 19, none⟩ = some (.slice A0_19 l0_19.length c0_19) := (blk_cell BK366.out 19).trans rfl
          have hfz18_0 := blk_frozen BK366.out 0
          have hfz18_1 := blk_frozen BK366.out 1
          have hfz18_2 := blk_frozen BK366.out 2
          have hfz18_3 := blk_frozen BK366.out 3
          have hfz18_4 := blk_frozen BK366.out 4
          have hfz18_5 := blk_frozen BK366.out 5
          have hfz18_6 := blk_frozen BK366.out 6
          have hfz18_7 := blk_frozen BK366.out 7
          have hfz18_8 := blk_frozen BK366.out 8
          have hfz18_9 := blk_frozen BK366.out 9
          have hfz18_10 := blk_frozen BK366.out 10
          have hfz18_11 := blk_frozen BK366.out 11
          have hfz18_12 := blk_frozen BK366.out 12
          have hfz18_13 := blk_frozen BK366.out 13
          have hfz18_14 := blk_frozen BK366.out 14
          have hfz18_15 := blk_frozen BK366.out 15
          have hfz18_16 := blk_frozen BK366.out 16
          have hfz18_17 := blk_frozen BK366.out 17
          have hfz18_18 := blk_frozen BK366.out 18
          have hfz18_19 := blk_frozen BK366.out 19
          go_wp2
          go_ret
          exact ⟨by first | rfl | (simp [errW_none, errW_some] <;> rfl) | (simp [*, errW_none, errW_some] <;> rfl), by repeat (first | (with_reducible first | exact HB.out | apply below_alloc | apply pw_below_drewN | apply below_drew1 | refine below_set ?_ GE366.out) | exact HB.out)⟩

end Go.Proofs.Ytegchimmolpmeaa.QFnExactClientOk
