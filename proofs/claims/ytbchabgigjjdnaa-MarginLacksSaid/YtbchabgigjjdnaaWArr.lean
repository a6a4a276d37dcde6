-- a shortened text: what this claim does not name is left out (wip/xprint/prune.py of this repo)
import Derived.Test.YtbchabgigjjdnaaWWords
namespace Go.Proofs.YtbchabgigjjdnaaW.PrintWords
open Go.RowKit
namespace Kd
end Kd
end Go.Proofs.YtbchabgigjjdnaaW.PrintWords
