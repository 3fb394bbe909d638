import Derived.SizedLaws
import Derived.ChangeSlices
namespace Go.Proofs.YtelhcooeafhgoaaW.PrintWords
open Go.ChangeShapes Go.WideShapes
end Go.Proofs.YtelhcooeafhgoaaW.PrintWords
