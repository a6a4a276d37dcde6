import Derived.Test.YtdljcgikknaffaaOpenLotsEligible
set_option linter.unusedVariables false
set_option linter.unusedSimpArgs false
namespace Go.Proofs.Ytdljcgikknaffaa.Pure
open Go Go.Ab Go.Proofs.Ytdljcgikknaffaa.R
theorem LotsEligible : LotsEligible_pure := by
  exact fun _ _ _ _ _ _ _ h _ _ => law_r (by simp only [api_Basket.ok] at h; omega)
end Go.Proofs.Ytdljcgikknaffaa.Pure
