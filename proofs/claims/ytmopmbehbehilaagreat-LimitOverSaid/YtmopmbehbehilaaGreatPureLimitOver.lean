import Derived.Test.YtmopmbehbehilaaGreatOpenLimitOver
set_option linter.unusedVariables false
set_option linter.unusedSimpArgs false
namespace Go.Proofs.YtmopmbehbehilaaGreat.Pure
open Go Go.Ab Go.Proofs.YtmopmbehbehilaaGreat.R
theorem LimitOver : LimitOver_pure := by
  exact fun b need l _ _ hl => LimitOver_r b need l (by have := hl.1; omega) fun x hx => by
    have h := (hl.2 x hx).2.1
    exact ⟨h.2.1, by have := h.1; unfold maxLen; omega⟩
end Go.Proofs.YtmopmbehbehilaaGreat.Pure
