-- a shortened text: what this claim does not name is left out (wip/xprint/prune.py of this repo)
import Derived.Test.YtbchabgigjjdnaaWInv
import Derived.Test.YtbchabgigjjdnaaWFootNe
namespace Go.Proofs.YtbchabgigjjdnaaW.PrintWords
open Go.RowKit
end Go.Proofs.YtbchabgigjjdnaaW.PrintWords
namespace Go.Proofs.YtbchabgigjjdnaaW.PrintLast
end Go.Proofs.YtbchabgigjjdnaaW.PrintLast
