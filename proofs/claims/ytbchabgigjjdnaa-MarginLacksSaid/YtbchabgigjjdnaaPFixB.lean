-- a shortened text: what this claim does not name is left out (wip/xprint/prune.py of this repo)
import Derived.Test.YtbchabgigjjdnaaPFix
namespace Go.Proofs.Ytbchabgigjjdnaa.PFix
open Go Go.RowKit Go.Proofs.Ytbchabgigjjdnaa.X Go.Proofs.YtbchabgigjjdnaaW.PrintWords Go.Proofs.YtbchabgigjjdnaaW.PrintLast Go.Proofs.YtbchabgigjjdnaaW.PrintMore Go.Proofs.Ytbchabgigjjdnaa.MDS
end Go.Proofs.Ytbchabgigjjdnaa.PFix
