-- a shortened text: what this claim does not name is left out (wip/xprint/prune.py of this repo)
import Derived.Test.YtjjemfbpodgihaaWInv
import Derived.Test.YtjjemfbpodgihaaWFootNe
namespace Go.Proofs.YtjjemfbpodgihaaW.PrintWords
open Go.RowKit
end Go.Proofs.YtjjemfbpodgihaaW.PrintWords
namespace Go.Proofs.YtjjemfbpodgihaaW.PrintLast
end Go.Proofs.YtjjemfbpodgihaaW.PrintLast
