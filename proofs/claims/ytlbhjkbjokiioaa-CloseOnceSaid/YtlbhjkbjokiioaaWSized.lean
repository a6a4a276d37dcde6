-- a shortened text: what this claim does not name is left out (wip/xprint/prune.py of this repo)
import Derived.SizedLaws
import Derived.ChangeSlices
namespace Go.Proofs.YtlbhjkbjokiioaaW.PrintWords
open Go.ChangeShapes Go.WideShapes
end Go.Proofs.YtlbhjkbjokiioaaW.PrintWords
