import Derived.Test.YtjlkmdmaimednaaGreatOpenSubstStates
set_option linter.unusedVariables false
set_option linter.unusedSimpArgs false
namespace Go.Proofs.YtjlkmdmaimednaaGreat.Pure
open Go Go.Ab Go.Proofs.YtjlkmdmaimednaaGreat.R
theorem SubstStates : SubstStates_pure := by
  exact fun _ _ _ _ _ h _ _ => states_r (by simp only [lombardref19_Cover.ok, api_Basket.ok] at h; omega) (by simp only [lombardref19_Cover.ok] at h; exact h.2.1)
end Go.Proofs.YtjlkmdmaimednaaGreat.Pure
