import Derived.Test.YtgncepjnbdhmkaaGreatOpenAllocTops
set_option linter.unusedVariables false
set_option linter.unusedSimpArgs false
namespace Go.Proofs.YtgncepjnbdhmkaaGreat.Pure
open Go Go.Ab Go.Proofs.YtgncepjnbdhmkaaGreat.R
theorem AllocTops : AllocTops_pure := by
  exact fun b h f n _ _ _ _ => AllocTops_r b h f n
end Go.Proofs.YtgncepjnbdhmkaaGreat.Pure
