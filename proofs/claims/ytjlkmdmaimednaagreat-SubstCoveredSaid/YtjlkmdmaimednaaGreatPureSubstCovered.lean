import Derived.Test.YtjlkmdmaimednaaGreatOpenSubstCovered
set_option linter.unusedVariables false
set_option linter.unusedSimpArgs false
namespace Go.Proofs.YtjlkmdmaimednaaGreat.Pure
open Go Go.Ab Go.Proofs.YtjlkmdmaimednaaGreat.R
theorem SubstCovered:SubstCovered_pure:=by
 exact fun _ _ _ _ _ h _ _=>covered_r (by simp only[zbg.ok,zat.ok] at h;omega) (by simp only[zbg.ok] at h;exact h.2.1)
end Go.Proofs.YtjlkmdmaimednaaGreat.Pure
