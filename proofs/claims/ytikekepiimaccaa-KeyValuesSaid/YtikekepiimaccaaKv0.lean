/- Printed by hp.py, a program of this session, out of the translation: each Go function as a plain Lean function and the contract of its call. No conditions beyond those in the statements. -/
import Derived.Test.YtikekepiimaccaaProg
import Derived.Below
import Derived.Deep.Draws
import Derived.Deep.AppendLies
import Derived.Maps.AppendAt
import Derived.OwnWalk
import Derived.Laws.BytesArg
import Derived.Laws.MakeOwn
import Derived.Laws.OwnMore
import Derived.Deep.OwnRows
import Derived.Tactics
import Derived.Lib.ConvBytes
import Derived.Laws.Slices
import Derived.WalkKit
import Derived.KernelRfl
import Derived.RowKit3
import Derived.Deep.LoopGhost
import Derived.Deep.QuietTactic
import Derived.BigQuiet
import Derived.WideLaws
import Derived.Deep.DeepCutAuto
import Derived.Deep.CutBlock
import Derived.Deep.RegionHeld3
import Derived.Laws.Rows
import Derived.Lib.AppendStr
import Derived.ArgAppend
import Derived.Laws.IdiomCopy
import Derived.OrdersHeld
import Derived.Laws.BitsLemmas
import Derived.RowKit
import Derived.Test.YtikekepiimaccaaWWords
import Derived.Test.YtikekepiimaccaaWLast
import Derived.Test.YtikekepiimaccaaWTab
import Derived.Test.YtikekepiimaccaaWFour
import Derived.Test.YtikekepiimaccaaWQPut
import Derived.Test.YtikekepiimaccaaWApart
import Derived.Test.YtikekepiimaccaaWArr
import Derived.Test.YtikekepiimaccaaWZeros
import Derived.Test.YtikekepiimaccaaWFoot
import Derived.Test.YtikekepiimaccaaWKept
import Derived.Test.YtikekepiimaccaaWShare
import Derived.Test.YtikekepiimaccaaWN
import Derived.Test.YtikekepiimaccaaWFootNe
import Derived.Test.YtikekepiimaccaaWAt
import Derived.Test.YtikekepiimaccaaWEqStruct
import Derived.Test.YtikekepiimaccaaWRepsOne
import Derived.Test.YtikekepiimaccaaWInv
import Derived.Test.YtikekepiimaccaaWInvWords
import Derived.Test.YtikekepiimaccaaWGuard
import Derived.Test.YtikekepiimaccaaWNEv
import Derived.Test.YtikekepiimaccaaWMore
import Derived.Test.YtikekepiimaccaaX0
namespace Go.Proofs.Ytikekepiimaccaa.Kv
open Go.RowKit Go.Proofs.YtikekepiimaccaaW.PrintWords Go.Proofs.YtikekepiimaccaaW.PrintLast Go.Proofs.YtikekepiimaccaaW.PrintMore
attribute [local go_sem] max2_int min2_int max_two min_two max_three min_three max_four min_four   -- for this text's walks alone
set_option linter.unusedVariables false
set_option linter.unusedSimpArgs false



def errW : Option Int → Value
  | none => .nilIface
  | some c => .iface 0 (.int .i64 c)
theorem errW_none : errW none = .nilIface := rfl
theorem errW_some (c : Int) : errW (some c) = .iface 0 (.int .i64 c) := rfl

theorem info5 : (Try.prog.info? 5).map (fun i => (i.zero, i.size, i.bytes)) = some (some (.int .u8 0), 1, 1) := by kernel_rfl
theorem info22 : (Try.prog.info? 22).map (fun i => (i.zero, i.size, i.bytes)) = some (some (.int .u64 0), 1, 8) := by kernel_rfl
-- the values' own types

end Go.Proofs.Ytikekepiimaccaa.Kv
