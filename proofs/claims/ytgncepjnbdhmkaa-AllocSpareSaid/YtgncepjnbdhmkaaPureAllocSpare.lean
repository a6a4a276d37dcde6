import Derived.Test.YtgncepjnbdhmkaaOpenAllocSpare
set_option linter.unusedVariables false
set_option linter.unusedSimpArgs false
namespace Go.Proofs.Ytgncepjnbdhmkaa.Pure
open Go Go.Ab Go.Proofs.Ytgncepjnbdhmkaa.R
theorem AllocSpare : AllocSpare_pure := by
  exact fun l n _ hn => AllocSpare_r l n hn
end Go.Proofs.Ytgncepjnbdhmkaa.Pure
