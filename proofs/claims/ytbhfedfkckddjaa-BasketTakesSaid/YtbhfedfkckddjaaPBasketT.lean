/- The two laws of rules. -/
import Derived.Test.YtbhfedfkckddjaaRB
import Derived.Test.YtbhfedfkckddjaaPBasket
set_option linter.unusedVariables false
set_option linter.unusedSimpArgs false
namespace Go.Proofs.Ytbhfedfkckddjaa.Pure
open Go Go.Ab Go.Proofs.Ytbhfedfkckddjaa.R
theorem takes (b c : api_Basket) (a : api_Asset) (day : Int) (h1 : b.Cuts.length ≤ 140737488351232) (h2 : b.Barred.length ≤ 140737488351232) (h3 : c.Cuts.length ≤ 140737488351232) (h4 : c.Barred.length ≤ 140737488351232) : lombardlaw14_BasketTakes b c a day true := by
  obtain ⟨r1, k1, g1⟩ := basket_ok b h1 h2
  obtain ⟨r2, k2, g2⟩ := basket_ok c h3 h4
  have aw : ∃ r, lombardlaw14_awake r ∧ r = true := ⟨true, .p0, rfl⟩
  obtain ⟨r, h, rfl⟩ := lombardlaw14_BasketTakes_of (a0 := b) (a1 := c) (a2 := a) (a3 := day) (Q := fun r => r = true) (by
    unfold lombardlaw14_BasketTakes_wp
    try dsimp only
    refine ⟨r1, k1, ?_⟩
    split
    · rename_i e1
      refine ⟨r2, k2, ?_⟩
      split
      · rename_i e2
        split
        · exact aw
        · split
          · exact aw
          · refine ⟨_, why2 b a day (g1 e1) (by omega) (by omega), _, why1 b a day (g1 e1) (by omega) (by omega), ?_⟩
            rw [if_pos rfl]
            refine ⟨_, fits1 b a day (g1 e1) (by omega) (by omega), ?_⟩
            rw [if_pos rfl]
            refine ⟨_, within1 b c (g1 e1) (g2 e2), _, within2 b c (g1 e1) (g2 e2), ?_⟩
            rw [if_pos rfl]
            exact aw
      · exact aw
    · exact aw)
  exact h

theorem withins (b c : api_Basket) (a : api_Asset) (day : Int) (h1 : b.Cuts.length ≤ 140737488351232) (h2 : b.Barred.length ≤ 140737488351232) (h3 : c.Cuts.length ≤ 140737488351232) (h4 : c.Barred.length ≤ 140737488351232) : lombardlaw14_BasketWithin b c a day true := by
  obtain ⟨r1, k1, g1⟩ := basket_ok b h1 h2
  obtain ⟨r2, k2, g2⟩ := basket_ok c h3 h4
  have aw : ∃ r, lombardlaw14_awake r ∧ r = true := ⟨true, .p0, rfl⟩
  obtain ⟨r, h, rfl⟩ := lombardlaw14_BasketWithin_of (a0 := b) (a1 := c) (a2 := a) (a3 := day) (Q := fun r => r = true) (by
    unfold lombardlaw14_BasketWithin_wp
    try dsimp only
    refine ⟨r1, k1, ?_⟩
    split
    · rename_i e1
      refine ⟨r2, k2, ?_⟩
      split
      · rename_i e2
        have self : ∃ r, basket_Within b b r ∧ (if r = true then ∃ r, lombardlaw14_awake r ∧ r = true else false = true) := ⟨_, within1 b b (g1 e1) (g1 e1), by rw [if_pos (within_self b)]; exact aw⟩
        split
        · exact aw
        · split
          · exact aw
          · refine ⟨_, within1 b c (g1 e1) (g2 e2), ?_⟩
            split
            · rename_i hw
              refine ⟨_, fits1 b a day (g1 e1) (by omega) (by omega), ?_⟩
              split
              · rename_i hf
                refine ⟨_, fits1 c a day (g2 e2) (by omega) (by omega), ?_⟩
                rw [if_pos (by rw [within_why hw (by simpa using hf) (g2 e2).least]; rfl)]
                exact self
              · exact self
            · exact self
      · exact aw
    · exact aw)
  exact h
end Go.Proofs.Ytbhfedfkckddjaa.Pure
