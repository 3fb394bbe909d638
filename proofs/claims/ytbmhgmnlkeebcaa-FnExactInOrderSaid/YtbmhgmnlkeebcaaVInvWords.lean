import Derived.Test.YtbmhgmnlkeebcaaVInv
import Derived.Test.YtbmhgmnlkeebcaaVFootNe
namespace Go.Proofs.YtbmhgmnlkeebcaaW.PrintWords
open Go.RowKit
end Go.Proofs.YtbmhgmnlkeebcaaW.PrintWords
namespace Go.Proofs.YtbmhgmnlkeebcaaW.PrintLast
section
variable {ops : Array Oper} {a : Act} {o og : Oper} {g : Nat} {t : Tmp} {u : Bool}
end
end Go.Proofs.YtbmhgmnlkeebcaaW.PrintLast
