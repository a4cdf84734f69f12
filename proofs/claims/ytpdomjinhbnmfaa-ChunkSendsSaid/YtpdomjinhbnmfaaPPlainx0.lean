-- PRINTED BY print.sh 35421559b90ae4d0a3588c463048766b98c2df88dd9212a6774a882060cdf62d: not written by this session
import Derived.Test.YtpdomjinhbnmfaaProg
import Derived.Below
import Derived.Deep.Draws
import Derived.Deep.AppendLies
import Derived.Maps.AppendAt
import Derived.OwnWalk
import Derived.Laws.BytesArg
import Derived.Laws.MakeOwn
import Derived.Laws.OwnMore
import Derived.Deep.OwnRows
import Derived.Tactics
import Derived.Lib.ConvBytes
import Derived.Laws.Slices
import Derived.WalkKit
import Derived.KernelRfl
import Derived.RowKit3
import Derived.Deep.LoopGhost
import Derived.Deep.QuietTactic
import Derived.BigQuiet
import Derived.WideLaws
import Derived.Deep.DeepCutAuto
import Derived.Deep.CutBlock
import Derived.Deep.RegionHeld3
import Derived.Laws.Rows
import Derived.Lib.AppendStr
import Derived.ArgAppend
import Derived.Laws.IdiomCopy
import Derived.OrdersHeld
import Derived.Laws.BitsLemmas
import Derived.RowKit
import Derived.Test.YtpdomjinhbnmfaaWWords
import Derived.Test.YtpdomjinhbnmfaaWLast
import Derived.Test.YtpdomjinhbnmfaaWTab
import Derived.Test.YtpdomjinhbnmfaaWFour
import Derived.Test.YtpdomjinhbnmfaaWQPut
import Derived.Test.YtpdomjinhbnmfaaWApart
import Derived.Test.YtpdomjinhbnmfaaWArr
import Derived.Test.YtpdomjinhbnmfaaWZeros
import Derived.Test.YtpdomjinhbnmfaaWFoot
import Derived.Test.YtpdomjinhbnmfaaWKept
import Derived.Test.YtpdomjinhbnmfaaWShare
import Derived.Test.YtpdomjinhbnmfaaWN
import Derived.Test.YtpdomjinhbnmfaaWFootNe
import Derived.Test.YtpdomjinhbnmfaaWAt
import Derived.Test.YtpdomjinhbnmfaaWEqStruct
import Derived.Test.YtpdomjinhbnmfaaWRepsOne
import Derived.Test.YtpdomjinhbnmfaaWInv
import Derived.Test.YtpdomjinhbnmfaaWInvWords
import Derived.Test.YtpdomjinhbnmfaaWGuard
import Derived.Test.YtpdomjinhbnmfaaWNEv
import Derived.Test.YtpdomjinhbnmfaaWMore
namespace Go.Proofs.Ytpdomjinhbnmfaa.PPlain
open Go.RowKit Go.Proofs.YtpdomjinhbnmfaaW.PrintWords Go.Proofs.YtpdomjinhbnmfaaW.PrintLast Go.Proofs.YtpdomjinhbnmfaaW.PrintMore
attribute [local go_sem] max2_int min2_int max_two min_two max_three min_three max_four min_four   -- for this text's walks alone
set_option linter.unusedVariables false
set_option linter.unusedSimpArgs false



def errW : Option Int → Value
  | none => .nilIface
  | some c => .iface 0 (.int .i64 c)
theorem errW_none : errW none = .nilIface := rfl
theorem errW_some (c : Int) : errW (some c) = .iface 0 (.int .i64 c) := rfl

theorem info5 : (Try.prog.info? 5).map (fun i => (i.zero, i.size, i.bytes)) = some (some (.int .u8 0), 1, 1) := by kernel_rfl
-- the values' own types

end Go.Proofs.Ytpdomjinhbnmfaa.PPlain
