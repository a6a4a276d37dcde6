-- a shortened text: what this claim does not name is left out (wip/xprint/prune.py of this repo)
import Derived.Laws.BitsLemmas
import Derived.Test.YtbchabgigjjdnaaMDS
import Derived.Test.YtbchabgigjjdnaaX10
namespace Go.Proofs.Ytbchabgigjjdnaa.PFix
open Go Go.RowKit Go.Proofs.Ytbchabgigjjdnaa.X Go.Proofs.YtbchabgigjjdnaaW.PrintWords Go.Proofs.YtbchabgigjjdnaaW.PrintLast Go.Proofs.YtbchabgigjjdnaaW.PrintMore Go.Proofs.Ytbchabgigjjdnaa.MDS
theorem w64 {x : Int} (h0 : -9223372036854775808 ≤ x) (h1 : x ≤ 9223372036854775807) : wrap64 x = x := by unfold wrap64; omega
theorem u64 {x : Int} (h0 : 0 ≤ x) (h1 : x ≤ 18446744073709551615) : IntKind.u64.wrap x = x := IntWalk.u64_in x ⟨h0, h1⟩
end Go.Proofs.Ytbchabgigjjdnaa.PFix
