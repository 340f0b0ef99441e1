/- FnExactCutJournal, the pure part: both cut the same beginning of the text. No conditions. -/
import Derived.Test.YtblplkcaanmhgaaPFnExactCutJournalx1
import Derived.Test.YtblplkcaanmhgaaPLbase
namespace Go.Proofs.Ytblplkcaanmhgaa.Pure
open Go Go.RowKit Go.Proofs.Ytblplkcaanmhgaa.PFnExactCutJournal Go.Proofs.YtblplkcaanmhgaaW.PrintWords Go.Proofs.YtblplkcaanmhgaaW.PrintLast Go.Proofs.YtblplkcaanmhgaaW.PrintMore Go.Proofs.Ytblplkcaanmhgaa.PL
set_option linter.unusedVariables false
set_option linter.unusedSimpArgs false

theorem FnExactCutJournal : laws_FnExactCutJournal.Pure := by
  intro a0 a1 hs h
  have h' := wf64.1 h
  unfold laws_FnExactCutJournal.f spec_CutJournal.f impl_CutJournal.f
  rw [mn_eq, mx_eq]
  by_cases hb : (a0.size : Int) > 1048576
  · rw [if_pos hb]
  rw [if_neg hb, if_pos (show 0 ≤ max 0 (min a1 (a0.size : Int)) by omega), if_pos (show max 0 (min a1 (a0.size : Int)) ≤ (a0.size : Int) by omega)]
  by_cases h1 : a1 < 0
  · rw [if_pos h1, Int.max_eq_left (by omega)]
    simp only [Option.bind_some]
    rw [if_pos]
    rw [ba_eq]
    apply bytesOf_inj
    rw [bytesOf_extract]
    simp [bytesOf_nil]
  rw [if_neg h1]
  by_cases h2 : a1 > (a0.size : Int)
  · rw [if_pos h2, Int.min_eq_right (by omega), Int.max_eq_right (by omega)]
    simp only [Option.bind_some]
    rw [if_pos]
    rw [ba_eq]
    apply bytesOf_inj
    rw [bytesOf_extract, Int.toNat_natCast, List.drop_zero, Nat.sub_zero, size_eq, List.take_length]
  rw [if_neg h2, if_pos (by omega), if_pos (by omega), Int.min_eq_left (by omega), Int.max_eq_right (by omega)]
  simp only [Option.bind_some, if_true]

end Go.Proofs.Ytblplkcaanmhgaa.Pure
