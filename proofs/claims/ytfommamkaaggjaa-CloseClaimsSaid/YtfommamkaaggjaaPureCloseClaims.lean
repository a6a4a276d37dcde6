import Derived.Test.YtfommamkaaggjaaOpenCloseClaims
set_option linter.unusedVariables false
set_option linter.unusedSimpArgs false
namespace Go.Proofs.Ytfommamkaaggjaa.Pure
open Go Go.Ab Go.Proofs.Ytfommamkaaggjaa.R
theorem CloseClaims : CloseClaims_pure := by
  exact fun _ _ _ _ _ _ => law_r
end Go.Proofs.Ytfommamkaaggjaa.Pure
