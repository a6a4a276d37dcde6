import Derived.Test.YtmopmbehbehilaaOpenLimitBack
set_option linter.unusedVariables false
set_option linter.unusedSimpArgs false
namespace Go.Proofs.Ytmopmbehbehilaa.Pure
open Go Go.Ab Go.Proofs.Ytmopmbehbehilaa.R
theorem LimitBack : LimitBack_pure := by
  exact fun b need acts a c _ _ hx ha _ => LimitBack_r b need acts a c (fun x hm => by
    have h := (hx.2 x hm).2.1
    exact ⟨h.2.1, by have := h.1; unfold maxLen; omega⟩) ha.2.1 (by have := ha.1; unfold maxLen; omega)
end Go.Proofs.Ytmopmbehbehilaa.Pure
