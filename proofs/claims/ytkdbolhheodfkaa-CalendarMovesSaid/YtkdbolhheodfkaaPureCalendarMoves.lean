/- CalendarMoves: where New makes a calendar the law's printed function answers true. -/
import Derived.Test.YtkdbolhheodfkaaPCalE
import Derived.Test.YtkdbolhheodfkaaX14
namespace Go.Proofs.Ytkdbolhheodfkaa.PCal
open Go Go.RowKit Go.Proofs.Ytkdbolhheodfkaa.X Go.Proofs.YtkdbolhheodfkaaW.PrintWords Go.Proofs.YtkdbolhheodfkaaW.PrintLast Go.Proofs.YtkdbolhheodfkaaW.PrintMore

theorem moves_law {l : List Int} (h : Fine l) (a b : Int) : ∃ k, lombardlaw02_CalendarMoves.f k l a b = some true := by
  have j0 : ∀ q, Ev (fun k => lombardlaw02_CalendarMoves.j0 k l a b q (sortedOff l)) true := fun q => by
    refine Ev.step (f := fun k => lombardlaw02_CalendarMoves.j0 (k + 1) l a b q (sortedOff l)) (fun k => rfl) ?_
    simp only [lombardlaw02_CalendarMoves.j0]
    cases q with
    | true => simp only [if_true]; exact Ev.bind awake_ev (Ev.now _)
    | false =>
      simp only [Bool.false_eq_true, if_false]
      refine Ev.bind (next_ev h a).1 (Ev.bind (next_ev h a).2 (Ev.bind (back_ev h a).1 (Ev.bind (back_ev h a).2 (Ev.bind (move_ev h a b) (Ev.bind (rmove_ev h a b) ?_)))))
      simp only [if_true]
      exact Ev.bind awake_ev (Ev.now _)
  apply Ev.rounds
  unfold lombardlaw02_CalendarMoves.f
  simp only [new_eq h, Option.bind_some, if_true]
  repeat' split
  all_goals exact j0 _
end Go.Proofs.Ytkdbolhheodfkaa.PCal
