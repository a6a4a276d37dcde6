/- CalendarRolls: where New makes a calendar the law's printed function answers true. -/
import Derived.Test.YtkdbolhheodfkaaPCalF
import Derived.Test.YtkdbolhheodfkaaX16
namespace Go.Proofs.Ytkdbolhheodfkaa.PCal
open Go Go.RowKit Go.Proofs.Ytkdbolhheodfkaa.X Go.Proofs.YtkdbolhheodfkaaW.PrintWords Go.Proofs.YtkdbolhheodfkaaW.PrintLast Go.Proofs.YtkdbolhheodfkaaW.PrintMore

theorem rolls_law {l : List Int} (h : Fine l) (a b : Int) : ∃ k, lombardlaw02_CalendarRolls.f k l a b = some true := by
  have j0 : ∀ q, Ev (fun k => lombardlaw02_CalendarRolls.j0 k l a b q (sortedOff l)) true := fun q => by
    refine Ev.step (f := fun k => lombardlaw02_CalendarRolls.j0 (k + 1) l a b q (sortedOff l)) (fun k => rfl) ?_
    simp only [lombardlaw02_CalendarRolls.j0]
    cases q with
    | true => simp only [if_true]; exact Ev.bind awake_ev (Ev.now _)
    | false =>
      simp only [Bool.false_eq_true, if_false]
      obtain ⟨r, r1, r2, _⟩ := roll_ev h a
      obtain ⟨m, m1, m2⟩ := months_ev h a b
      refine Ev.bind r1 (Ev.bind r2 (Ev.bind m1 (Ev.bind m2 ?_)))
      simp only [if_true]
      exact Ev.bind awake_ev (Ev.now _)
  apply Ev.rounds
  unfold lombardlaw02_CalendarRolls.f
  simp only [new_eq h, Option.bind_some, if_true]
  exact j0 _
end Go.Proofs.Ytkdbolhheodfkaa.PCal
