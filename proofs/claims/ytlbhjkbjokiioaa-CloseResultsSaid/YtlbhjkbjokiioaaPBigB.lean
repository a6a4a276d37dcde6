-- a shortened text: what this claim does not name is left out (wip/xprint/prune.py of this repo)
import Derived.Test.YtlbhjkbjokiioaaPBig
namespace Go.Proofs.Ytlbhjkbjokiioaa.PBig
open Go Go.RowKit Go.Proofs.Ytlbhjkbjokiioaa.X Go.Proofs.YtlbhjkbjokiioaaW.PrintWords Go.Proofs.YtlbhjkbjokiioaaW.PrintLast Go.Proofs.Ytlbhjkbjokiioaa.Big
end Go.Proofs.Ytlbhjkbjokiioaa.PBig
