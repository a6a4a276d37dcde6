import Derived.Test.YtjlkmdmaimednaaGreatOpenSubstRenews
set_option linter.unusedVariables false
set_option linter.unusedSimpArgs false
namespace Go.Proofs.YtjlkmdmaimednaaGreat.Pure
open Go Go.Ab Go.Proofs.YtjlkmdmaimednaaGreat.R
theorem SubstRenews:SubstRenews_pure:=by
 exact fun _ _ _ _ h _=>renews_r (by simp only [zbn.ok,zav.ok] at h; omega) (by simp only [zbn.ok] at h; exact h.2.1)
end Go.Proofs.YtjlkmdmaimednaaGreat.Pure
