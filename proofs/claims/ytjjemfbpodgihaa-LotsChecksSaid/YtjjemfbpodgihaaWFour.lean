-- a shortened text: what this claim does not name is left out (wip/xprint/prune.py of this repo)
import Derived.Test.YtjjemfbpodgihaaWTab
namespace Go.Proofs.YtjjemfbpodgihaaW.PrintLast
end Go.Proofs.YtjjemfbpodgihaaW.PrintLast
