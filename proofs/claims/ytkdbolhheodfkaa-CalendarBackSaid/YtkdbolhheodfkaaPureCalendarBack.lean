/- CalendarBack: the law's printed function answers true at every day and date. No condition. -/
import Derived.Test.YtkdbolhheodfkaaPCalC
import Derived.Test.YtkdbolhheodfkaaOpenCalendarBack
namespace Go.Proofs.Ytkdbolhheodfkaa.Pure
open Go Go.RowKit Go.Proofs.Ytkdbolhheodfkaa.X Go.Proofs.YtkdbolhheodfkaaW.PrintWords Go.Proofs.YtkdbolhheodfkaaW.PrintLast Go.Proofs.YtkdbolhheodfkaaW.PrintMore Go.Proofs.Ytkdbolhheodfkaa.PCal

theorem back_j0 (y m d : Int) : Ev (fun k => lombardlaw02_CalendarBack.j0 k y m d) true := by
  refine Ev.step (f := fun k => lombardlaw02_CalendarBack.j0 (k + 1) y m d) (fun k => rfl) ?_
  simp only [lombardlaw02_CalendarBack.j0, lombardlaw02_of.f, Option.bind_some]
  refine Ev.bind (num_ev y m d) ?_
  by_cases c : (numS y m d).2 = 0
  · obtain ⟨h, hn⟩ := num_date (n := (numS y m d).1) (y := y) (m := m) (d := d) (by rw [← c])
    obtain ⟨z, j, e, k1, k2, _⟩ := of_ev h.nonneg hn
    obtain ⟨rfl, rfl, rfl⟩ := h.one k1
    have hm : (((m - 1).toNat : Nat) : Int) + 1 = m := by
      have : ¬ badDate y m d := fun z => by unfold numS at c; rw [if_pos z] at c; cases c
      unfold badDate at this
      omega
    rw [hm] at k2
    simp only [if_pos c]
    refine Ev.bind k2 ?_
    simp only [if_true, beq_self_eq_true, Bool.and_self]
    exact Ev.bind awake_ev (Ev.now _)
  · have e : (numS y m d).1 = 0 := by
      unfold numS at c ⊢
      split
      · rfl
      · split
        · rename_i a b; rw [if_neg a, if_pos b] at c; exact absurd rfl c
        · rfl
    simp only [if_neg c, e, if_true]
    exact Ev.bind awake_ev (Ev.now _)
theorem CalendarBack : Go.Proofs.Ytkdbolhheodfkaa.X.CalendarBack.Pure := by
  intro day y m d _ _ _ _
  apply Ev.rounds
  unfold lombardlaw02_CalendarBack.f
  by_cases c : 0 ≤ day ∧ day ≤ 200000
  · obtain ⟨z, j, e, k1, k2, _⟩ := of_ev c.1 c.2
    refine Ev.bind k2 ?_
    simp only [if_true]
    have n := num_ev z ((j : Int) + 1) e
    rw [k1.num c.2] at n
    refine Ev.bind n ?_
    simp only [if_true]
    exact back_j0 y m d
  · refine Ev.bind (of_bad c).1 ?_
    simp only [if_neg (show ¬ (10 : Int) = 0 by omega)]
    exact back_j0 y m d
end Go.Proofs.Ytkdbolhheodfkaa.Pure
