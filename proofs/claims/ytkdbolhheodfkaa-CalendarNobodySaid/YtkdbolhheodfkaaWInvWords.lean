-- a shortened text: what this claim does not name is left out (wip/xprint/prune.py of this repo)
import Derived.Test.YtkdbolhheodfkaaWInv
import Derived.Test.YtkdbolhheodfkaaWFootNe
namespace Go.Proofs.YtkdbolhheodfkaaW.PrintWords
open Go.RowKit
end Go.Proofs.YtkdbolhheodfkaaW.PrintWords
namespace Go.Proofs.YtkdbolhheodfkaaW.PrintLast
end Go.Proofs.YtkdbolhheodfkaaW.PrintLast
