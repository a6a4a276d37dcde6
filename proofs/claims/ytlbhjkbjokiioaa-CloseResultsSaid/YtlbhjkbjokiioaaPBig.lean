-- a shortened text: what this claim does not name is left out (wip/xprint/prune.py of this repo)
import Derived.Test.YtlbhjkbjokiioaaBigV
import Derived.Test.YtlbhjkbjokiioaaX5
import Derived.Test.YtlbhjkbjokiioaaX6
import Derived.Test.YtlbhjkbjokiioaaX7
namespace Go.Proofs.Ytlbhjkbjokiioaa.PBig
open Go Go.RowKit Go.Proofs.Ytlbhjkbjokiioaa.X Go.Proofs.YtlbhjkbjokiioaaW.PrintWords Go.Proofs.YtlbhjkbjokiioaaW.PrintLast Go.Proofs.Ytlbhjkbjokiioaa.Big
theorem w64 {x : Int} (h0 : -9223372036854775808 ≤ x) (h1 : x ≤ 9223372036854775807) : wrap64 x = x := by unfold wrap64; omega
theorem u64 {x : Int} (h0 : 0 ≤ x) (h1 : x ≤ 18446744073709551615) : IntKind.u64.wrap x = x := IntWalk.u64_in x ⟨h0, h1⟩
end Go.Proofs.Ytlbhjkbjokiioaa.PBig
