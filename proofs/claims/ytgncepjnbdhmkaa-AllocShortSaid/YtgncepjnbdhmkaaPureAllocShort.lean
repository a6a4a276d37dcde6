import Derived.Test.YtgncepjnbdhmkaaOpenAllocShort
set_option linter.unusedVariables false
set_option linter.unusedSimpArgs false
namespace Go.Proofs.Ytgncepjnbdhmkaa.Pure
open Go Go.Ab Go.Proofs.Ytgncepjnbdhmkaa.R
theorem AllocShort : AllocShort_pure := by
  exact fun b l n _ h _ => AllocShort_r b l n (fun x hx => by have h := (h.2 x hx).2.1; exact ⟨h.2.1, by have := h.1; unfold maxLen; omega⟩)
end Go.Proofs.Ytgncepjnbdhmkaa.Pure
