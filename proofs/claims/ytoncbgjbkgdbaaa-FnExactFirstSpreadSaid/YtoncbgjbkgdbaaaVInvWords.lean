import Derived.Test.YtoncbgjbkgdbaaaVInv
import Derived.Test.YtoncbgjbkgdbaaaVFootNe
namespace Go.Proofs.YtoncbgjbkgdbaaaW.PrintWords
open Go.RowKit
end Go.Proofs.YtoncbgjbkgdbaaaW.PrintWords
namespace Go.Proofs.YtoncbgjbkgdbaaaW.PrintLast
section
variable {ops : Array Oper} {a : Act} {o og : Oper} {g : Nat} {t : Tmp} {u : Bool}
end
end Go.Proofs.YtoncbgjbkgdbaaaW.PrintLast
