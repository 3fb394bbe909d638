-- Written by a program of this claim, over the kit's print: the functions that a law reaches, their plain forms and the walks.
import Derived.Test.YtoncbgjbkgdbaaaProg
import Derived.Below
import Derived.Deep.Draws
import Derived.Deep.AppendLies
import Derived.Maps.AppendAt
import Derived.OwnWalk
import Derived.Laws.BytesArg
import Derived.Laws.MakeOwn
import Derived.Laws.OwnMore
import Derived.Deep.OwnRows
import Derived.Tactics
import Derived.Lib.ConvBytes
import Derived.Laws.Slices
import Derived.WalkKit
import Derived.KernelRfl
import Derived.RowKit3
import Derived.Deep.LoopGhost
import Derived.Deep.QuietTactic
import Derived.BigQuiet
import Derived.WideLaws
import Derived.Deep.DeepCutAuto
import Derived.Deep.CutBlock
import Derived.Deep.RegionHeld3
import Derived.Laws.Rows
import Derived.Lib.AppendStr
import Derived.ArgAppend
import Derived.Laws.IdiomCopy
import Derived.OrdersHeld
import Derived.Laws.BitsLemmas
import Derived.RowKit
import Derived.Test.YtoncbgjbkgdbaaaHelp
import Derived.Test.YtoncbgjbkgdbaaaRng
import Derived.Shelf.Abstract
import Derived.Laws.CopyOwn
import Derived.Deep.DeepMust
import Derived.Deep.RegionLaw
import Derived.Deep.WholeRow
import Derived.Shelf.Sort.Plain
import Derived.Shelf.Slices.In.SortNone
import Derived.RangeFuncBox
import Derived.RangeFuncLeaves
import Derived.RangeFuncFrom
import Derived.RangeFuncWrites
import Derived.OwnWalkIn
import Derived.TacticsInMore
import Derived.LoopNIn
import Derived.LoopIn
import Derived.Test.YtoncbgjbkgdbaaaWWords
import Derived.Test.YtoncbgjbkgdbaaaWLast
import Derived.Test.YtoncbgjbkgdbaaaWTab
import Derived.Test.YtoncbgjbkgdbaaaWFour
import Derived.Test.YtoncbgjbkgdbaaaWQPut
import Derived.Test.YtoncbgjbkgdbaaaWApart
import Derived.Test.YtoncbgjbkgdbaaaWArr
import Derived.Test.YtoncbgjbkgdbaaaWZeros
import Derived.Test.YtoncbgjbkgdbaaaWFoot
import Derived.Test.YtoncbgjbkgdbaaaWKept
import Derived.Test.YtoncbgjbkgdbaaaWShare
import Derived.Test.YtoncbgjbkgdbaaaWN
import Derived.Test.YtoncbgjbkgdbaaaWFootNe
import Derived.Test.YtoncbgjbkgdbaaaWAt
import Derived.Test.YtoncbgjbkgdbaaaWEqStruct
import Derived.Test.YtoncbgjbkgdbaaaWRepsOne
import Derived.Test.YtoncbgjbkgdbaaaWInv
import Derived.Test.YtoncbgjbkgdbaaaWInvWords
import Derived.Test.YtoncbgjbkgdbaaaWGuard
import Derived.Test.YtoncbgjbkgdbaaaWNEv
import Derived.Test.YtoncbgjbkgdbaaaWMore
namespace Go.Proofs.Ytoncbgjbkgdbaaa.PFnExactRenameWires
open Go.RowKit Go.Proofs.YtoncbgjbkgdbaaaW.PrintWords Go.Proofs.YtoncbgjbkgdbaaaW.PrintLast Go.Proofs.YtoncbgjbkgdbaaaW.PrintMore
attribute [local go_sem] max2_int min2_int max_two min_two max_three min_three max_four min_four   -- for this text's walks alone
set_option linter.unusedVariables false
set_option linter.unusedSimpArgs false



def errW : Option Int → Value
  | none => .nilIface
  | some c => .iface 0 (.int .i64 c)
theorem errW_none : errW none = .nilIface := rfl
theorem errW_some (c : Int) : errW (some c) = .iface 0 (.int .i64 c) := rfl

theorem info3 : (Try.prog.info? 3).map (fun i => (i.zero, i.size, i.bytes)) = some (some (.int .i64 0), 1, 8) := by kernel_rfl
-- the values' own types

end Go.Proofs.Ytoncbgjbkgdbaaa.PFnExactRenameWires
