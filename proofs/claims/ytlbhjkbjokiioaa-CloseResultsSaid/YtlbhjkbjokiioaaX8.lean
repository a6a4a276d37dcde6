-- a shortened text: what this claim does not name is left out (wip/xprint/prune.py of this repo)
import Derived.Test.YtlbhjkbjokiioaaX0
import Derived.Test.YtlbhjkbjokiioaaX4
import Derived.Test.YtlbhjkbjokiioaaMD
namespace Go.Proofs.Ytlbhjkbjokiioaa.X
open Go.RowKit Go.Proofs.YtlbhjkbjokiioaaW.PrintWords Go.Proofs.YtlbhjkbjokiioaaW.PrintLast Go.Proofs.YtlbhjkbjokiioaaW.PrintMore
attribute [local go_sem] max2_int min2_int max_two min_two max_three min_three max_four min_four
set_option linter.unusedVariables false
set_option linter.unusedSimpArgs false
end Go.Proofs.Ytlbhjkbjokiioaa.X
