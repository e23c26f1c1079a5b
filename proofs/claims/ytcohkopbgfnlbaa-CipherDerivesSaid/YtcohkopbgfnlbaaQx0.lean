/- Made by wip/myprint.py of this session (it drives the kit's printer): what the calls of the Go functions come to, as plain Lean functions, and the row of a law over them; without conditions. -/
import Derived.Test.YtcohkopbgfnlbaaProg
import Derived.Below
import Derived.Deep.Draws
import Derived.Deep.AppendLies
import Derived.Maps.AppendAt
import Derived.OwnWalk
import Derived.Laws.BytesArg
import Derived.Laws.MakeOwn
import Derived.Laws.OwnMore
import Derived.Deep.OwnRows
import Derived.Tactics
import Derived.Lib.ConvBytes
import Derived.Laws.Slices
import Derived.WalkKit
import Derived.KernelRfl
import Derived.RowKit3
import Derived.Deep.LoopGhost
import Derived.Deep.QuietTactic
import Derived.BigQuiet
import Derived.WideLaws
import Derived.Deep.DeepCutAuto
import Derived.Deep.CutBlock
import Derived.Deep.RegionHeld3
import Derived.Laws.Rows
import Derived.Lib.AppendStr
import Derived.ArgAppend
import Derived.Laws.IdiomCopy
import Derived.OrdersHeld
import Derived.Laws.BitsLemmas
import Derived.RowKit
import Derived.Test.YtcohkopbgfnlbaaWWords
import Derived.Test.YtcohkopbgfnlbaaWLast
import Derived.Test.YtcohkopbgfnlbaaWTab
import Derived.Test.YtcohkopbgfnlbaaWFour
import Derived.Test.YtcohkopbgfnlbaaWQPut
import Derived.Test.YtcohkopbgfnlbaaWApart
import Derived.Test.YtcohkopbgfnlbaaWArr
import Derived.Test.YtcohkopbgfnlbaaWZeros
import Derived.Test.YtcohkopbgfnlbaaWFoot
import Derived.Test.YtcohkopbgfnlbaaWKept
import Derived.Test.YtcohkopbgfnlbaaWShare
import Derived.Test.YtcohkopbgfnlbaaWN
import Derived.Test.YtcohkopbgfnlbaaWFootNe
import Derived.Test.YtcohkopbgfnlbaaWAt
import Derived.Test.YtcohkopbgfnlbaaWEqStruct
import Derived.Test.YtcohkopbgfnlbaaWRepsOne
import Derived.Test.YtcohkopbgfnlbaaWInv
import Derived.Test.YtcohkopbgfnlbaaWInvWords
import Derived.Test.YtcohkopbgfnlbaaWGuard
import Derived.Test.YtcohkopbgfnlbaaWNEv
import Derived.Test.YtcohkopbgfnlbaaWMore
namespace Go.Proofs.Ytcohkopbgfnlbaa.Q
open Go.RowKit Go.Proofs.YtcohkopbgfnlbaaW.PrintWords Go.Proofs.YtcohkopbgfnlbaaW.PrintLast Go.Proofs.YtcohkopbgfnlbaaW.PrintMore
attribute [local go_sem] max2_int min2_int max_two min_two max_three min_three max_four min_four   -- for this text's walks alone
set_option linter.unusedVariables false
set_option linter.unusedSimpArgs false



def errW : Option Int → Value
  | none => .nilIface
  | some c => .iface 0 (.int .i64 c)
theorem errW_none : errW none = .nilIface := rfl
theorem errW_some (c : Int) : errW (some c) = .iface 0 (.int .i64 c) := rfl

theorem info5 : (Try.prog.info? 5).map (fun i => (i.zero, i.size, i.bytes)) = some (some (.int .u8 0), 1, 1) := by kernel_rfl
-- the values' own types

end Go.Proofs.Ytcohkopbgfnlbaa.Q
