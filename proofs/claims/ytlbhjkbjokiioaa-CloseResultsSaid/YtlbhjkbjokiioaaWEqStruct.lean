-- a shortened text: what this claim does not name is left out (wip/xprint/prune.py of this repo)
import Derived.Test.YtlbhjkbjokiioaaWWords
import Derived.Laws.StructEq
namespace Go.Proofs.YtlbhjkbjokiioaaW.PrintWords
open Go.RowKit
end Go.Proofs.YtlbhjkbjokiioaaW.PrintWords
