-- Written by a program of this claim, over the kit's print: the functions that a law reaches, their plain forms and the walks.
import Derived.Test.YtcclnmfkailmaaaProg
import Derived.Below
import Derived.Deep.Draws
import Derived.Deep.AppendLies
import Derived.Maps.AppendAt
import Derived.OwnWalk
import Derived.Laws.BytesArg
import Derived.Laws.MakeOwn
import Derived.Laws.OwnMore
import Derived.Deep.OwnRows
import Derived.Tactics
import Derived.Lib.ConvBytes
import Derived.Laws.Slices
import Derived.WalkKit
import Derived.KernelRfl
import Derived.RowKit3
import Derived.Deep.LoopGhost
import Derived.Deep.QuietTactic
import Derived.BigQuiet
import Derived.WideLaws
import Derived.Deep.DeepCutAuto
import Derived.Deep.CutBlock
import Derived.Deep.RegionHeld3
import Derived.Laws.Rows
import Derived.Lib.AppendStr
import Derived.ArgAppend
import Derived.Laws.IdiomCopy
import Derived.OrdersHeld
import Derived.Laws.BitsLemmas
import Derived.RowKit
import Derived.Test.YtcclnmfkailmaaaHelp
import Derived.Test.YtcclnmfkailmaaaRng
import Derived.Shelf.Abstract
import Derived.Laws.CopyOwn
import Derived.Deep.DeepMust
import Derived.Deep.RegionLaw
import Derived.Deep.WholeRow
import Derived.Shelf.Small.Bits
import Derived.Test.YtcclnmfkailmaaaWWords
import Derived.Test.YtcclnmfkailmaaaWLast
import Derived.Test.YtcclnmfkailmaaaWTab
import Derived.Test.YtcclnmfkailmaaaWFour
import Derived.Test.YtcclnmfkailmaaaWQPut
import Derived.Test.YtcclnmfkailmaaaWApart
import Derived.Test.YtcclnmfkailmaaaWArr
import Derived.Test.YtcclnmfkailmaaaWZeros
import Derived.Test.YtcclnmfkailmaaaWFoot
import Derived.Test.YtcclnmfkailmaaaWKept
import Derived.Test.YtcclnmfkailmaaaWShare
import Derived.Test.YtcclnmfkailmaaaWN
import Derived.Test.YtcclnmfkailmaaaWFootNe
import Derived.Test.YtcclnmfkailmaaaWAt
import Derived.Test.YtcclnmfkailmaaaWEqStruct
import Derived.Test.YtcclnmfkailmaaaWRepsOne
import Derived.Test.YtcclnmfkailmaaaWInv
import Derived.Test.YtcclnmfkailmaaaWInvWords
import Derived.Test.YtcclnmfkailmaaaWGuard
import Derived.Test.YtcclnmfkailmaaaWNEv
import Derived.Test.YtcclnmfkailmaaaWMore
namespace Go.Proofs.Ytcclnmfkailmaaa.PFnExactFewestTests
open Go.RowKit Go.Proofs.YtcclnmfkailmaaaW.PrintWords Go.Proofs.YtcclnmfkailmaaaW.PrintLast Go.Proofs.YtcclnmfkailmaaaW.PrintMore
attribute [local go_sem] max2_int min2_int max_two min_two max_three min_three max_four min_four   -- for this text's walks alone
set_option linter.unusedVariables false
set_option linter.unusedSimpArgs false



def errW : Option Int → Value
  | none => .nilIface
  | some c => .iface 0 (.int .i64 c)
theorem errW_none : errW none = .nilIface := rfl
theorem errW_some (c : Int) : errW (some c) = .iface 0 (.int .i64 c) := rfl

-- the values' own types

end Go.Proofs.Ytcclnmfkailmaaa.PFnExactFewestTests
