-- PRINTED BY print.sh 35421559b90ae4d0a3588c463048766b98c2df88dd9212a6774a882060cdf62d: not written by this session
import Derived.Test.YtmhakjpjnnfidaaProg
import Derived.Below
import Derived.Deep.Draws
import Derived.Deep.AppendLies
import Derived.Maps.AppendAt
import Derived.OwnWalk
import Derived.Laws.BytesArg
import Derived.Laws.MakeOwn
import Derived.Laws.OwnMore
import Derived.Deep.OwnRows
import Derived.Tactics
import Derived.Lib.ConvBytes
import Derived.Laws.Slices
import Derived.WalkKit
import Derived.KernelRfl
import Derived.RowKit3
import Derived.Deep.LoopGhost
import Derived.Deep.QuietTactic
import Derived.BigQuiet
import Derived.WideLaws
import Derived.Deep.DeepCutAuto
import Derived.Deep.CutBlock
import Derived.Deep.RegionHeld3
import Derived.Laws.Rows
import Derived.Lib.AppendStr
import Derived.ArgAppend
import Derived.Laws.IdiomCopy
import Derived.OrdersHeld
import Derived.Laws.BitsLemmas
import Derived.RowKit
import Derived.Test.YtmhakjpjnnfidaaWWords
import Derived.Test.YtmhakjpjnnfidaaWLast
import Derived.Test.YtmhakjpjnnfidaaWTab
import Derived.Test.YtmhakjpjnnfidaaWFour
import Derived.Test.YtmhakjpjnnfidaaWQPut
import Derived.Test.YtmhakjpjnnfidaaWApart
import Derived.Test.YtmhakjpjnnfidaaWArr
import Derived.Test.YtmhakjpjnnfidaaWZeros
import Derived.Test.YtmhakjpjnnfidaaWFoot
import Derived.Test.YtmhakjpjnnfidaaWKept
import Derived.Test.YtmhakjpjnnfidaaWShare
import Derived.Test.YtmhakjpjnnfidaaWN
import Derived.Test.YtmhakjpjnnfidaaWFootNe
import Derived.Test.YtmhakjpjnnfidaaWAt
import Derived.Test.YtmhakjpjnnfidaaWEqStruct
import Derived.Test.YtmhakjpjnnfidaaWRepsOne
import Derived.Test.YtmhakjpjnnfidaaWInv
import Derived.Test.YtmhakjpjnnfidaaWInvWords
import Derived.Test.YtmhakjpjnnfidaaWGuard
import Derived.Test.YtmhakjpjnnfidaaWNEv
import Derived.Test.YtmhakjpjnnfidaaWMore
namespace Go.Proofs.Ytmhakjpjnnfidaa.PFnExactReadJournal
open Go.RowKit Go.Proofs.YtmhakjpjnnfidaaW.PrintWords Go.Proofs.YtmhakjpjnnfidaaW.PrintLast Go.Proofs.YtmhakjpjnnfidaaW.PrintMore
attribute [local go_sem] max2_int min2_int max_two min_two max_three min_three max_four min_four   -- for this text's walks alone
set_option linter.unusedVariables false
set_option linter.unusedSimpArgs false



def errW : Option Int → Value
  | none => .nilIface
  | some c => .iface 0 (.int .i64 c)
theorem errW_none : errW none = .nilIface := rfl
theorem errW_some (c : Int) : errW (some c) = .iface 0 (.int .i64 c) := rfl

theorem info5 : (Try.prog.info? 5).map (fun i => (i.zero, i.size, i.bytes)) = some (some (.int .u8 0), 1, 1) := by kernel_rfl
theorem info9 : (Try.prog.info? 9).map (fun i => (i.zero, i.size, i.bytes)) = some (some (.string ⟨#[]⟩), 1, 16) := by kernel_rfl
-- the values' own types

end Go.Proofs.Ytmhakjpjnnfidaa.PFnExactReadJournal
