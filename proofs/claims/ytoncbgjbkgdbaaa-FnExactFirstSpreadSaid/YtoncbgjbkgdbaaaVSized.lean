import Derived.SizedLaws
import Derived.ChangeSlices
namespace Go.Proofs.YtoncbgjbkgdbaaaW.PrintWords
open Go.ChangeShapes Go.WideShapes
end Go.Proofs.YtoncbgjbkgdbaaaW.PrintWords
