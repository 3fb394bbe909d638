import Derived.SizedLaws
import Derived.ChangeSlices
namespace Go.Proofs.YtbmhgmnlkeebcaaW.PrintWords
open Go.ChangeShapes Go.WideShapes
end Go.Proofs.YtbmhgmnlkeebcaaW.PrintWords
