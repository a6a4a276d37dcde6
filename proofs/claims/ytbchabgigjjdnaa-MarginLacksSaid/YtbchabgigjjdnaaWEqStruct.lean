-- a shortened text: what this claim does not name is left out (wip/xprint/prune.py of this repo)
import Derived.Test.YtbchabgigjjdnaaWWords
import Derived.Laws.StructEq
namespace Go.Proofs.YtbchabgigjjdnaaW.PrintWords
open Go.RowKit
end Go.Proofs.YtbchabgigjjdnaaW.PrintWords
