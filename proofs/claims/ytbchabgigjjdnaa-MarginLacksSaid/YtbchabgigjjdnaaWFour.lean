-- a shortened text: what this claim does not name is left out (wip/xprint/prune.py of this repo)
import Derived.Test.YtbchabgigjjdnaaWTab
namespace Go.Proofs.YtbchabgigjjdnaaW.PrintLast
end Go.Proofs.YtbchabgigjjdnaaW.PrintLast
