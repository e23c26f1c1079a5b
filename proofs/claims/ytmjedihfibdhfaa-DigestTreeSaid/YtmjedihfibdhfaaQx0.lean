/- Made by wip/myprint.py of this session (it drives the kit's printer): what the calls of the Go functions come to, as plain Lean functions, and the row of a law over them; without conditions. -/
import Derived.Test.YtmjedihfibdhfaaProg
import Derived.Below
import Derived.Deep.Draws
import Derived.Deep.AppendLies
import Derived.Maps.AppendAt
import Derived.OwnWalk
import Derived.Laws.BytesArg
import Derived.Laws.MakeOwn
import Derived.Laws.OwnMore
import Derived.Deep.OwnRows
import Derived.Tactics
import Derived.Lib.ConvBytes
import Derived.Laws.Slices
import Derived.WalkKit
import Derived.KernelRfl
import Derived.RowKit3
import Derived.Deep.LoopGhost
import Derived.Deep.QuietTactic
import Derived.BigQuiet
import Derived.WideLaws
import Derived.Deep.DeepCutAuto
import Derived.Deep.CutBlock
import Derived.Deep.RegionHeld3
import Derived.Laws.Rows
import Derived.Lib.AppendStr
import Derived.ArgAppend
import Derived.Laws.IdiomCopy
import Derived.OrdersHeld
import Derived.Laws.BitsLemmas
import Derived.RowKit
import Derived.Test.YtmjedihfibdhfaaWWords
import Derived.Test.YtmjedihfibdhfaaWLast
import Derived.Test.YtmjedihfibdhfaaWTab
import Derived.Test.YtmjedihfibdhfaaWFour
import Derived.Test.YtmjedihfibdhfaaWQPut
import Derived.Test.YtmjedihfibdhfaaWApart
import Derived.Test.YtmjedihfibdhfaaWArr
import Derived.Test.YtmjedihfibdhfaaWZeros
import Derived.Test.YtmjedihfibdhfaaWFoot
import Derived.Test.YtmjedihfibdhfaaWKept
import Derived.Test.YtmjedihfibdhfaaWShare
import Derived.Test.YtmjedihfibdhfaaWN
import Derived.Test.YtmjedihfibdhfaaWFootNe
import Derived.Test.YtmjedihfibdhfaaWAt
import Derived.Test.YtmjedihfibdhfaaWEqStruct
import Derived.Test.YtmjedihfibdhfaaWRepsOne
import Derived.Test.YtmjedihfibdhfaaWInv
import Derived.Test.YtmjedihfibdhfaaWInvWords
import Derived.Test.YtmjedihfibdhfaaWGuard
import Derived.Test.YtmjedihfibdhfaaWNEv
import Derived.Test.YtmjedihfibdhfaaWMore
namespace Go.Proofs.Ytmjedihfibdhfaa.Q
open Go.RowKit Go.Proofs.YtmjedihfibdhfaaW.PrintWords Go.Proofs.YtmjedihfibdhfaaW.PrintLast Go.Proofs.YtmjedihfibdhfaaW.PrintMore
attribute [local go_sem] max2_int min2_int max_two min_two max_three min_three max_four min_four   -- for this text's walks alone
set_option linter.unusedVariables false
set_option linter.unusedSimpArgs false



def errW : Option Int → Value
  | none => .nilIface
  | some c => .iface 0 (.int .i64 c)
theorem errW_none : errW none = .nilIface := rfl
theorem errW_some (c : Int) : errW (some c) = .iface 0 (.int .i64 c) := rfl

theorem info5 : (Try.prog.info? 5).map (fun i => (i.zero, i.size, i.bytes)) = some (some (.int .u8 0), 1, 1) := by kernel_rfl
theorem info23 : (Try.prog.info? 23).map (fun i => (i.zero, i.size, i.bytes)) = some (some (.int .u64 0), 1, 8) := by kernel_rfl
-- the values' own types

end Go.Proofs.Ytmjedihfibdhfaa.Q
