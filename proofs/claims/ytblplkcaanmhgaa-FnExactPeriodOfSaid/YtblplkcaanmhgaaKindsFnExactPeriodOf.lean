/- FnExactPeriodOf: what its arguments read as. No conditions. -/
import Derived.Test.YtblplkcaanmhgaaPLopen
import Derived.Test.YtblplkcaanmhgaaQFnExactPeriodOfx0
import Derived.OpenShut
namespace Go.Proofs.Ytblplkcaanmhgaa.QFnExactPeriodOf
open Go Go.RowKit Go.ChangeShapes Go.WideShapes Go.Proofs.YtblplkcaanmhgaaW.PrintWords Go.Proofs.YtblplkcaanmhgaaW.PrintLast Go.Proofs.YtblplkcaanmhgaaW.PrintMore Go.Proofs.Ytblplkcaanmhgaa.PL
set_option linter.unusedVariables false
set_option linter.unusedSimpArgs false
set_option maxRecDepth 100000
end Go.Proofs.Ytblplkcaanmhgaa.QFnExactPeriodOf
