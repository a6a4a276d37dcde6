-- a shortened text: what this claim does not name is left out (wip/xprint/prune.py of this repo)
import Derived.Test.YtlbhjkbjokiioaaWInv
import Derived.Test.YtlbhjkbjokiioaaWFootNe
namespace Go.Proofs.YtlbhjkbjokiioaaW.PrintWords
open Go.RowKit
end Go.Proofs.YtlbhjkbjokiioaaW.PrintWords
namespace Go.Proofs.YtlbhjkbjokiioaaW.PrintLast
end Go.Proofs.YtlbhjkbjokiioaaW.PrintLast
