-- a shortened text: what this claim does not name is left out (wip/xprint/prune.py of this repo)
import Derived.Laws.MakeOwn
import Derived.Test.YtkdbolhheodfkaaWWords
import Derived.Test.YtkdbolhheodfkaaWNEv
import Derived.Test.YtkdbolhheodfkaaWApart
namespace Go.Proofs.Ytkdbolhheodfkaa.XWords
open Go Go.RowKit Go.Proofs.YtkdbolhheodfkaaW.PrintWords
end Go.Proofs.Ytkdbolhheodfkaa.XWords
