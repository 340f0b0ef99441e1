/- FnExactPeriodOf, the pure part: the two answers are the same number, for every slot. No conditions. -/
import Derived.Test.YtblplkcaanmhgaaQFnExactPeriodOfx1
import Derived.Test.YtblplkcaanmhgaaPLbase
namespace Go.Proofs.Ytblplkcaanmhgaa.Pure
open Go Go.RowKit Go.Proofs.Ytblplkcaanmhgaa.QFnExactPeriodOf Go.Proofs.YtblplkcaanmhgaaW.PrintWords Go.Proofs.YtblplkcaanmhgaaW.PrintLast Go.Proofs.YtblplkcaanmhgaaW.PrintMore Go.Proofs.Ytblplkcaanmhgaa.PL
set_option linter.unusedVariables false
set_option linter.unusedSimpArgs false

theorem FnExactPeriodOf : laws_FnExactPeriodOf.Pure := by
  intro a0 h
  have h' := wf64.1 h
  unfold laws_FnExactPeriodOf.f spec_PeriodOf.f impl_PeriodOf.f
  rw [mx_eq]
  by_cases h0 : a0 < 0
  · rw [if_pos h0]
    simp only [Option.bind_some]
    rw [Int.max_eq_right (by omega), if_pos (by rw [w64 (by decide)]; rfl)]
  · rw [if_neg h0]
    simp only [Option.bind_some]
    rw [Int.max_eq_left (by omega), tdiv_pos (by omega), if_pos rfl]

end Go.Proofs.Ytblplkcaanmhgaa.Pure
