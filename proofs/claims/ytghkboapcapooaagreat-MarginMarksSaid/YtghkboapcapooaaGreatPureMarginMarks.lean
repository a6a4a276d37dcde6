import Derived.Test.YtghkboapcapooaaGreatOpenMarginMarks
set_option linter.unusedVariables false
set_option linter.unusedSimpArgs false
namespace Go.Proofs.YtghkboapcapooaaGreat.Pure
open Go Go.Ab Go.Proofs.YtghkboapcapooaaGreat.R
theorem MarginMarks : MarginMarks_pure := by
  exact fun _ _ _ _ _ _ h _ _ hk => law_r (by simp only [api_Basket.ok] at h; omega) hk
end Go.Proofs.YtghkboapcapooaaGreat.Pure
