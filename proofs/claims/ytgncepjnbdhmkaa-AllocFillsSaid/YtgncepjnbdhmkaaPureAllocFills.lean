import Derived.Test.YtgncepjnbdhmkaaOpenAllocFills
set_option linter.unusedVariables false
set_option linter.unusedSimpArgs false
namespace Go.Proofs.Ytgncepjnbdhmkaa.Pure
open Go Go.Ab Go.Proofs.Ytgncepjnbdhmkaa.R
theorem AllocFills : AllocFills_pure := by
  exact fun b l n _ _ _ => AllocFills_r b l n
end Go.Proofs.Ytgncepjnbdhmkaa.Pure
