import Derived.Test.YtelhcooeafhgoaaVInv
import Derived.Test.YtelhcooeafhgoaaVFootNe
namespace Go.Proofs.YtelhcooeafhgoaaW.PrintWords
open Go.RowKit
end Go.Proofs.YtelhcooeafhgoaaW.PrintWords
namespace Go.Proofs.YtelhcooeafhgoaaW.PrintLast
section
variable {ops : Array Oper} {a : Act} {o og : Oper} {g : Nat} {t : Tmp} {u : Bool}
end
end Go.Proofs.YtelhcooeafhgoaaW.PrintLast
