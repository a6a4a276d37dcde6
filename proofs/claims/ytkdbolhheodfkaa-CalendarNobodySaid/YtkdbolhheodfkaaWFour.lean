-- a shortened text: what this claim does not name is left out (wip/xprint/prune.py of this repo)
import Derived.Test.YtkdbolhheodfkaaWTab
namespace Go.Proofs.YtkdbolhheodfkaaW.PrintLast
end Go.Proofs.YtkdbolhheodfkaaW.PrintLast
