-- Walks by a program: this session's turn of the kit's print, over contracts of the session's own.
import Derived.Test.YthlllcmffgdcmaaProg
import Derived.Below
import Derived.Deep.Draws
import Derived.Deep.AppendLies
import Derived.Maps.AppendAt
import Derived.OwnWalk
import Derived.Laws.BytesArg
import Derived.Laws.MakeOwn
import Derived.Laws.OwnMore
import Derived.Deep.OwnRows
import Derived.Tactics
import Derived.Lib.ConvBytes
import Derived.Laws.Slices
import Derived.WalkKit
import Derived.KernelRfl
import Derived.RowKit3
import Derived.Deep.LoopGhost
import Derived.Deep.QuietTactic
import Derived.BigQuiet
import Derived.WideLaws
import Derived.Deep.DeepCutAuto
import Derived.Deep.CutBlock
import Derived.Deep.RegionHeld3
import Derived.Laws.Rows
import Derived.Lib.AppendStr
import Derived.ArgAppend
import Derived.Laws.IdiomCopy
import Derived.OrdersHeld
import Derived.Laws.BitsLemmas
import Derived.RowKit
import Derived.Test.YthlllcmffgdcmaaCrcA
import Derived.Test.YthlllcmffgdcmaaWWords
import Derived.Test.YthlllcmffgdcmaaWLast
import Derived.Test.YthlllcmffgdcmaaWTab
import Derived.Test.YthlllcmffgdcmaaWFour
import Derived.Test.YthlllcmffgdcmaaWQPut
import Derived.Test.YthlllcmffgdcmaaWApart
import Derived.Test.YthlllcmffgdcmaaWArr
import Derived.Test.YthlllcmffgdcmaaWZeros
import Derived.Test.YthlllcmffgdcmaaWFoot
import Derived.Test.YthlllcmffgdcmaaWKept
import Derived.Test.YthlllcmffgdcmaaWShare
import Derived.Test.YthlllcmffgdcmaaWN
import Derived.Test.YthlllcmffgdcmaaWFootNe
import Derived.Test.YthlllcmffgdcmaaWAt
import Derived.Test.YthlllcmffgdcmaaWEqStruct
import Derived.Test.YthlllcmffgdcmaaWRepsOne
import Derived.Test.YthlllcmffgdcmaaWInv
import Derived.Test.YthlllcmffgdcmaaWInvWords
import Derived.Test.YthlllcmffgdcmaaWGuard
import Derived.Test.YthlllcmffgdcmaaWNEv
import Derived.Test.YthlllcmffgdcmaaWMore
namespace Go.Proofs.Ythlllcmffgdcmaa.QSegmentOpens
open Go.RowKit Go.Proofs.Ythlllcmffgdcmaa.Crc Go.Proofs.YthlllcmffgdcmaaW.PrintWords Go.Proofs.YthlllcmffgdcmaaW.PrintLast Go.Proofs.YthlllcmffgdcmaaW.PrintMore
attribute [local go_sem] max2_int min2_int max_two min_two max_three min_three max_four min_four   -- for this text's walks alone
set_option linter.unusedVariables false
set_option linter.unusedSimpArgs false



def errW : Option Int → Value
  | none => .nilIface
  | some c => .iface 0 (.int .i64 c)
theorem errW_none : errW none = .nilIface := rfl
theorem errW_some (c : Int) : errW (some c) = .iface 0 (.int .i64 c) := rfl

theorem info5 : (Try.prog.info? 5).map (fun i => (i.zero, i.size, i.bytes)) = some (some (.int .u8 0), 1, 1) := by kernel_rfl
theorem info9 : (Try.prog.info? 9).map (fun i => (i.zero, i.size, i.bytes)) = some (some (.string ⟨#[]⟩), 1, 16) := by kernel_rfl
-- the values' own types

end Go.Proofs.Ythlllcmffgdcmaa.QSegmentOpens
