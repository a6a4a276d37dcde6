-- a shortened text: what this claim does not name is left out (wip/xprint/prune.py of this repo)
import Derived.Test.YtkdbolhheodfkaaPCalE
import Derived.Test.YtkdbolhheodfkaaX14
import Derived.Test.YtkdbolhheodfkaaX15
import Derived.Test.YtkdbolhheodfkaaX16
namespace Go.Proofs.Ytkdbolhheodfkaa.PCal
open Go Go.RowKit Go.Proofs.Ytkdbolhheodfkaa.X Go.Proofs.YtkdbolhheodfkaaW.PrintWords Go.Proofs.YtkdbolhheodfkaaW.PrintLast Go.Proofs.YtkdbolhheodfkaaW.PrintMore
theorem roll_ev {l : List Int} (h : Fine l) (x : Int) : ∃ r, Ev (fun k => calendar_Calendar_Roll.f k (sortedOff l) x) r ∧ Ev (fun k => lombardref02_Calendar_Roll.f k l x) r ∧ (r.2 = 0 → worksS l r.1 = true) := by
  obtain ⟨nx1, nx2⟩ := next_ev h x
  obtain ⟨bk1, bk2⟩ := back_ev h x
  unfold calendar_Calendar_Roll.f lombardref02_Calendar_Roll.f
  by_cases g : Good x
  · obtain ⟨y, j, d, hd, o1, o2⟩ := of_ev g.1 g.2
    simp only [rgood_eq, decide_eq_true (show 0 ≤ x ∧ x ≤ 200000 from g), Option.bind_some, if_true]
    have bk : (backS (worksS l) x).2 = 0 → worksS l (backS (worksS l) x).1 = true := fun q => (backS_good _ _ q).2
    rcases nextS_is (worksS l) g with ⟨z, e, h1, h2, h3, _⟩ | e
    · rw [e] at nx1 nx2
      obtain ⟨y2, j2, d2, hd2, p1, p2⟩ := of_ev h2.1 h2.2
      by_cases c : (j : Int) + 1 = (j2 : Int) + 1
      · refine ⟨(z, 0), Ev.bind nx1 ?_, Ev.bind nx2 (Ev.bind o2 (Ev.bind p2 ?_)), fun _ => h3⟩
        · simp only [if_true]
          refine Ev.step (f := fun k => (calendar_Of.f k x).bind fun a => (calendar_Of.f k z).bind fun b => if a.2.1 = b.2.1 then some (z, 0) else (calendar_Calendar_Back.f k (sortedOff l) x).bind fun bt => some (bt.1, bt.2)) (fun k => by simp only [calendar_Calendar_Roll.j0, Bool.false_eq_true, if_false, if_true]) ?_
          refine Ev.bind o1 (Ev.bind p1 ?_)
          simp only [if_pos c]
          exact Ev.now _
        · simp only [if_true, if_pos c]
          exact Ev.now _
      · refine ⟨backS (worksS l) x, Ev.bind nx1 ?_, Ev.bind nx2 (Ev.bind o2 (Ev.bind p2 ?_)), bk⟩
        · simp only [if_true]
          refine Ev.step (f := fun k => (calendar_Of.f k x).bind fun a => (calendar_Of.f k z).bind fun b => if a.2.1 = b.2.1 then some (z, 0) else (calendar_Calendar_Back.f k (sortedOff l) x).bind fun bt => some (bt.1, bt.2)) (fun k => by simp only [calendar_Calendar_Roll.j0, Bool.false_eq_true, if_false, if_true]) ?_
          refine Ev.bind o1 (Ev.bind p1 ?_)
          simp only [if_neg c]
          exact Ev.bind bk1 (Ev.now _)
        · simp only [if_true, if_neg c]
          exact Ev.bind bk2 (Ev.now _)
    · rw [e] at nx1 nx2
      obtain ⟨y2, j2, d2, hd2, p1, p2⟩ := of_ev (day := 0) (by omega) (by omega)
      refine ⟨backS (worksS l) x, Ev.bind nx1 ?_, Ev.bind nx2 (Ev.bind o2 (Ev.bind p2 ?_)), bk⟩
      · simp only [if_neg (show ¬ (6 : Int) = 0 by omega), bne_self_eq_false]
        refine Ev.step (f := fun k => (calendar_Of.f k x).bind fun a => (calendar_Calendar_Back.f k (sortedOff l) x).bind fun bt => some (bt.1, bt.2)) (fun k => by simp only [calendar_Calendar_Roll.j0, Bool.false_eq_true, if_false, if_neg (show ¬ (6 : Int) = 0 by omega)]) ?_
        exact Ev.bind o1 (Ev.bind bk1 (Ev.now _))
      · simp only [if_neg (show ¬ (6 : Int) = 0 by omega)]
        exact Ev.bind bk2 (Ev.now _)
  · have e : nextS (worksS l) x = (0, 10) := if_neg g
    rw [e] at nx1
    refine ⟨(0, 10), Ev.bind nx1 ?_, ?_, fun q => by cases q⟩
    · simp only [if_neg (show ¬ (10 : Int) = 0 by omega)]
      exact Ev.step (f := fun _ => some (0, 10)) (fun k => by simp only [calendar_Calendar_Roll.j0]; rw [if_pos (by decide)]) (Ev.now _)
    · simp only [rgood_eq, decide_eq_false (show ¬ (0 ≤ x ∧ x ≤ 200000) from g), Option.bind_some, Bool.false_eq_true, if_false]
      exact Ev.now _
end Go.Proofs.Ytkdbolhheodfkaa.PCal
