import Derived.Test.YtmopmbehbehilaaOpenLimitNobody
set_option linter.unusedVariables false
set_option linter.unusedSimpArgs false
namespace Go.Proofs.Ytmopmbehbehilaa.Pure
open Go Go.Ab Go.Proofs.Ytmopmbehbehilaa.R
theorem LimitNobody : LimitNobody_pure := by
  exact fun a n _ _ => LimitNobody_r a n
end Go.Proofs.Ytmopmbehbehilaa.Pure
