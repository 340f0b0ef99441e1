-- by a program of this session, out of Lean's print of the loaded program
import Derived.Test.YtblplkcaanmhgaaProg
import Derived.Below
import Derived.Deep.Draws
import Derived.Deep.AppendLies
import Derived.Maps.AppendAt
import Derived.OwnWalk
import Derived.Laws.BytesArg
import Derived.Laws.MakeOwn
import Derived.Laws.OwnMore
import Derived.Deep.OwnRows
import Derived.Tactics
import Derived.Lib.ConvBytes
import Derived.Laws.Slices
import Derived.WalkKit
import Derived.KernelRfl
import Derived.RowKit3
import Derived.Deep.LoopGhost
import Derived.Deep.QuietTactic
import Derived.BigQuiet
import Derived.WideLaws
import Derived.Deep.DeepCutAuto
import Derived.Deep.CutBlock
import Derived.Deep.RegionHeld3
import Derived.Laws.Rows
import Derived.Lib.AppendStr
import Derived.ArgAppend
import Derived.Laws.IdiomCopy
import Derived.OrdersHeld
import Derived.Laws.BitsLemmas
import Derived.RowKit
import Derived.Test.YtblplkcaanmhgaaWWords
import Derived.Test.YtblplkcaanmhgaaWLast
import Derived.Test.YtblplkcaanmhgaaWTab
import Derived.Test.YtblplkcaanmhgaaWFour
import Derived.Test.YtblplkcaanmhgaaWQPut
import Derived.Test.YtblplkcaanmhgaaWApart
import Derived.Test.YtblplkcaanmhgaaWArr
import Derived.Test.YtblplkcaanmhgaaWZeros
import Derived.Test.YtblplkcaanmhgaaWFoot
import Derived.Test.YtblplkcaanmhgaaWKept
import Derived.Test.YtblplkcaanmhgaaWShare
import Derived.Test.YtblplkcaanmhgaaWN
import Derived.Test.YtblplkcaanmhgaaWFootNe
import Derived.Test.YtblplkcaanmhgaaWAt
import Derived.Test.YtblplkcaanmhgaaWEqStruct
import Derived.Test.YtblplkcaanmhgaaWRepsOne
import Derived.Test.YtblplkcaanmhgaaWInv
import Derived.Test.YtblplkcaanmhgaaWInvWords
import Derived.Test.YtblplkcaanmhgaaWGuard
import Derived.Test.YtblplkcaanmhgaaWNEv
import Derived.Test.YtblplkcaanmhgaaWMore
namespace Go.Proofs.Ytblplkcaanmhgaa.QFnExactAddRecord
open Go.RowKit Go.Proofs.YtblplkcaanmhgaaW.PrintWords Go.Proofs.YtblplkcaanmhgaaW.PrintLast Go.Proofs.YtblplkcaanmhgaaW.PrintMore
attribute [local go_sem] max2_int min2_int max_two min_two max_three min_three max_four min_four   -- for this text's walks alone
set_option linter.unusedVariables false
set_option linter.unusedSimpArgs false



def errW : Option Int → Value
  | none => .nilIface
  | some c => .iface 0 (.int .i64 c)
theorem errW_none : errW none = .nilIface := rfl
theorem errW_some (c : Int) : errW (some c) = .iface 0 (.int .i64 c) := rfl

theorem info5 : (Try.prog.info? 5).map (fun i => (i.zero, i.size, i.bytes)) = some (some (.int .u8 0), 1, 1) := by kernel_rfl
-- the values' own types

end Go.Proofs.Ytblplkcaanmhgaa.QFnExactAddRecord
