import Derived.Test.YtbhfedfkckddjaaOpenBasketWithin
set_option linter.unusedVariables false
set_option linter.unusedSimpArgs false
namespace Go.Proofs.Ytbhfedfkckddjaa.Pure
open Go Go.Ab Go.Proofs.Ytbhfedfkckddjaa.R
theorem BasketWithin : BasketWithin_pure := by
  intro b c a day hb hc ha hd
  have l1 : b.Cuts.length ≤ 140737488351232 := by have := hb.2.2.2.2.2.2.1.1; omega
  have l2 : b.Barred.length ≤ 140737488351232 := by have := hb.2.2.2.2.2.2.2.2.2.1; omega
  have l3 : c.Cuts.length ≤ 140737488351232 := by have := hc.2.2.2.2.2.2.1.1; omega
  have l4 : c.Barred.length ≤ 140737488351232 := by have := hc.2.2.2.2.2.2.2.2.2.1; omega
  exact withins b c a day l1 l2 l3 l4
end Go.Proofs.Ytbhfedfkckddjaa.Pure
