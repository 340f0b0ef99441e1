/- FnExactReadPrefix: what its arguments read as. No conditions. -/
import Derived.Test.YtmhakjpjnnfidaaPLopenFnExactReadPrefix
import Derived.Test.YtmhakjpjnnfidaaQFnExactReadPrefixx0
import Derived.OpenShut
namespace Go.Proofs.Ytmhakjpjnnfidaa.QFnExactReadPrefix
open Go Go.RowKit Go.ChangeShapes Go.WideShapes Go.Proofs.YtmhakjpjnnfidaaW.PrintWords Go.Proofs.YtmhakjpjnnfidaaW.PrintLast Go.Proofs.YtmhakjpjnnfidaaW.PrintMore Go.Proofs.Ytmhakjpjnnfidaa.PL
set_option linter.unusedVariables false
set_option linter.unusedSimpArgs false
set_option maxRecDepth 100000
end Go.Proofs.Ytmhakjpjnnfidaa.QFnExactReadPrefix
