import Derived.Test.YtgncepjnbdhmkaaGreatOpenAllocSpares
set_option linter.unusedVariables false
set_option linter.unusedSimpArgs false
namespace Go.Proofs.YtgncepjnbdhmkaaGreat.Pure
open Go Go.Ab Go.Proofs.YtgncepjnbdhmkaaGreat.R
theorem AllocSpares : AllocSpares_pure := by
  exact fun b l n _ h hn => AllocSpares_r b l n (fun x hx => by have h := (h.2 x hx).2.1; exact ⟨h.2.1, by have := h.1; unfold maxLen; omega⟩) hn
end Go.Proofs.YtgncepjnbdhmkaaGreat.Pure
