-- a shortened text: what this claim does not name is left out (wip/xprint/prune.py of this repo)
import Derived.Test.YtlbhjkbjokiioaaWApart
import Derived.Test.YtlbhjkbjokiioaaWArr
namespace Go.Proofs.YtlbhjkbjokiioaaW.PrintWords
open Go.RowKit
namespace Kd
end Kd
end Go.Proofs.YtlbhjkbjokiioaaW.PrintWords
