import Derived.Test.YtmopmbehbehilaaOpenLimitKeeps
set_option linter.unusedVariables false
set_option linter.unusedSimpArgs false
namespace Go.Proofs.Ytmopmbehbehilaa.Pure
open Go Go.Ab Go.Proofs.Ytmopmbehbehilaa.R
theorem LimitKeeps : LimitKeeps_pure := by
  exact fun b need acts _ _ ha => LimitKeeps_r b need acts fun x hx => by
    have h := (ha.2 x hx).2.1
    exact ⟨h.2.1, by have := h.1; unfold maxLen; omega⟩
end Go.Proofs.Ytmopmbehbehilaa.Pure
