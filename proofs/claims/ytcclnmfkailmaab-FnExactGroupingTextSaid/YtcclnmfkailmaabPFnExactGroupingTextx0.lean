-- Written by a program of this claim, over the kit's print: the functions that a law reaches, their plain forms and the walks.
import Derived.Test.YtcclnmfkailmaabProg
import Derived.Below
import Derived.Deep.Draws
import Derived.Deep.AppendLies
import Derived.Maps.AppendAt
import Derived.OwnWalk
import Derived.Laws.BytesArg
import Derived.Laws.MakeOwn
import Derived.Laws.OwnMore
import Derived.Deep.OwnRows
import Derived.Tactics
import Derived.Lib.ConvBytes
import Derived.Laws.Slices
import Derived.WalkKit
import Derived.KernelRfl
import Derived.RowKit3
import Derived.Deep.LoopGhost
import Derived.Deep.QuietTactic
import Derived.BigQuiet
import Derived.WideLaws
import Derived.Deep.DeepCutAuto
import Derived.Deep.CutBlock
import Derived.Deep.RegionHeld3
import Derived.Laws.Rows
import Derived.Lib.AppendStr
import Derived.ArgAppend
import Derived.Laws.IdiomCopy
import Derived.OrdersHeld
import Derived.Laws.BitsLemmas
import Derived.RowKit
import Derived.Test.YtcclnmfkailmaabWWords
import Derived.Test.YtcclnmfkailmaabWLast
import Derived.Test.YtcclnmfkailmaabWTab
import Derived.Test.YtcclnmfkailmaabWFour
import Derived.Test.YtcclnmfkailmaabWQPut
import Derived.Test.YtcclnmfkailmaabWApart
import Derived.Test.YtcclnmfkailmaabWArr
import Derived.Test.YtcclnmfkailmaabWZeros
import Derived.Test.YtcclnmfkailmaabWFoot
import Derived.Test.YtcclnmfkailmaabWKept
import Derived.Test.YtcclnmfkailmaabWShare
import Derived.Test.YtcclnmfkailmaabWN
import Derived.Test.YtcclnmfkailmaabWFootNe
import Derived.Test.YtcclnmfkailmaabWAt
import Derived.Test.YtcclnmfkailmaabWEqStruct
import Derived.Test.YtcclnmfkailmaabWRepsOne
import Derived.Test.YtcclnmfkailmaabWInv
import Derived.Test.YtcclnmfkailmaabWInvWords
import Derived.Test.YtcclnmfkailmaabWGuard
import Derived.Test.YtcclnmfkailmaabWNEv
import Derived.Test.YtcclnmfkailmaabWMore
namespace Go.Proofs.Ytcclnmfkailmaab.PFnExactGroupingText
open Go.RowKit Go.Proofs.YtcclnmfkailmaabW.PrintWords Go.Proofs.YtcclnmfkailmaabW.PrintLast Go.Proofs.YtcclnmfkailmaabW.PrintMore
attribute [local go_sem] max2_int min2_int max_two min_two max_three min_three max_four min_four   -- for this text's walks alone
set_option linter.unusedVariables false
set_option linter.unusedSimpArgs false



def errW : Option Int → Value
  | none => .nilIface
  | some c => .iface 0 (.int .i64 c)
theorem errW_none : errW none = .nilIface := rfl
theorem errW_some (c : Int) : errW (some c) = .iface 0 (.int .i64 c) := rfl

theorem info3 : (Try.prog.info? 3).map (fun i => (i.zero, i.size, i.bytes)) = some (some (.int .i64 0), 1, 8) := by kernel_rfl
theorem info5 : (Try.prog.info? 5).map (fun i => (i.zero, i.size, i.bytes)) = some (some (.int .u8 0), 1, 1) := by kernel_rfl
-- the values' own types

end Go.Proofs.Ytcclnmfkailmaab.PFnExactGroupingText
