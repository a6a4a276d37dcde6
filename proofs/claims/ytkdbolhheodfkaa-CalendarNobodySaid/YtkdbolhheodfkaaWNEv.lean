-- a shortened text: what this claim does not name is left out (wip/xprint/prune.py of this repo)
import Derived.Test.YtkdbolhheodfkaaWN
namespace Go.Proofs.YtkdbolhheodfkaaW.PrintWords
open Go.RowKit
namespace Kd
end Kd
end Go.Proofs.YtkdbolhheodfkaaW.PrintWords
