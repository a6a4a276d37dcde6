import Derived.Test.YtmopmbehbehilaaOpenLimitPlays
set_option linter.unusedVariables false
set_option linter.unusedSimpArgs false
namespace Go.Proofs.Ytmopmbehbehilaa.Pure
open Go Go.Ab Go.Proofs.Ytmopmbehbehilaa.R
theorem LimitPlays : LimitPlays_pure := by
  exact fun b need acts a _ _ hx _ => LimitPlays_r b need acts a (fun x hm => by
    have h := (hx.2 x hm).2.1
    exact ⟨h.2.1, by have := h.1; unfold maxLen; omega⟩)
end Go.Proofs.Ytmopmbehbehilaa.Pure
