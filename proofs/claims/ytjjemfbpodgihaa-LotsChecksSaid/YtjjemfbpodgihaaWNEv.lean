-- a shortened text: what this claim does not name is left out (wip/xprint/prune.py of this repo)
import Derived.Test.YtjjemfbpodgihaaWN
namespace Go.Proofs.YtjjemfbpodgihaaW.PrintWords
open Go.RowKit
namespace Kd
end Kd
end Go.Proofs.YtjjemfbpodgihaaW.PrintWords
