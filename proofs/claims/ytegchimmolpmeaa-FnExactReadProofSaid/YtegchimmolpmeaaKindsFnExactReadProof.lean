/- FnExactReadProof: what its arguments read as. No conditions. -/
import Derived.Test.YtegchimmolpmeaaPLopenFnExactReadProof
import Derived.Test.YtegchimmolpmeaaQFnExactReadProofx0
import Derived.OpenShut
namespace Go.Proofs.Ytegchimmolpmeaa.QFnExactReadProof
open Go Go.RowKit Go.ChangeShapes Go.WideShapes Go.Proofs.YtegchimmolpmeaaW.PrintWords Go.Proofs.YtegchimmolpmeaaW.PrintLast Go.Proofs.YtegchimmolpmeaaW.PrintMore Go.Proofs.Ytegchimmolpmeaa.PL
set_option linter.unusedVariables false
set_option linter.unusedSimpArgs false
set_option maxRecDepth 100000
end Go.Proofs.Ytegchimmolpmeaa.QFnExactReadProof
