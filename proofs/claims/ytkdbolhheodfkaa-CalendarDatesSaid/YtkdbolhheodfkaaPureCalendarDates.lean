/- CalendarDates: the law's printed function answers true at every day and date. No condition. -/
import Derived.Test.YtkdbolhheodfkaaPCalC
import Derived.Test.YtkdbolhheodfkaaOpenCalendarDates
namespace Go.Proofs.Ytkdbolhheodfkaa.Pure
open Go Go.RowKit Go.Proofs.Ytkdbolhheodfkaa.X Go.Proofs.YtkdbolhheodfkaaW.PrintWords Go.Proofs.YtkdbolhheodfkaaW.PrintLast Go.Proofs.YtkdbolhheodfkaaW.PrintMore Go.Proofs.Ytkdbolhheodfkaa.PCal

theorem CalendarDates : Go.Proofs.Ytkdbolhheodfkaa.X.CalendarDates.Pure := by
  intro day y m d _ _ _ _
  apply Ev.rounds
  unfold lombardlaw02_CalendarDates.f
  obtain ⟨r, h1, h2⟩ : ∃ r, Ev (fun k => calendar_Of.f k day) r ∧ Ev (fun k => lombardref02_Of.f k day) r := by
    by_cases c : 0 ≤ day ∧ day ≤ 200000
    · obtain ⟨z, j, e, _, k2, k3⟩ := of_ev c.1 c.2
      exact ⟨_, k2, k3⟩
    · exact ⟨_, of_bad c⟩
  refine Ev.bind h1 (Ev.bind h2 ?_)
  simp only [lombardlaw02_of.f, Option.bind_some]
  refine Ev.bind (num_ev y m d) (Ev.bind (rnum_ev y m d) ?_)
  simp only [good_eq, rgood_eq, Option.bind_some, beq_self_eq_true, Bool.and_self, if_true, wk_eq, rwk_eq]
  refine Ev.bind awake_ev ?_
  exact Ev.step (f := fun _ => some true) (fun k => by simp only [lombardlaw02_CalendarDates.j0]) (Ev.now _)
end Go.Proofs.Ytkdbolhheodfkaa.Pure
