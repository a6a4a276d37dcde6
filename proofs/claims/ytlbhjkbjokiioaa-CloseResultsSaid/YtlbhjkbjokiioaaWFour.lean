-- a shortened text: what this claim does not name is left out (wip/xprint/prune.py of this repo)
import Derived.Test.YtlbhjkbjokiioaaWTab
namespace Go.Proofs.YtlbhjkbjokiioaaW.PrintLast
end Go.Proofs.YtlbhjkbjokiioaaW.PrintLast
