-- a shortened text: what this claim does not name is left out (wip/xprint/prune.py of this repo)
import Derived.Test.YtkdbolhheodfkaaPCalE
import Derived.Test.YtkdbolhheodfkaaX14
import Derived.Test.YtkdbolhheodfkaaX15
import Derived.Test.YtkdbolhheodfkaaX16
namespace Go.Proofs.Ytkdbolhheodfkaa.PCal
open Go Go.RowKit Go.Proofs.Ytkdbolhheodfkaa.X Go.Proofs.YtkdbolhheodfkaaW.PrintWords Go.Proofs.YtkdbolhheodfkaaW.PrintLast Go.Proofs.YtkdbolhheodfkaaW.PrintMore
theorem roll_ev {l : List Int} (h : Fine l) (x : Int) : ∃ r, Ev (fun k => calendar_Calendar_Roll.f k (sortedOff l) x) r ∧ Ev (fun k => lombardref02_Calendar_Roll.f k l x) r ∧ (r.2 = 0 → worksS l r.1 = true) := by
  obtain ⟨nx1, nx2⟩ := next_ev h x
  obtain ⟨bk1, bk2⟩ := back_ev h x
  unfold calendar_Calendar_Roll.f lombardref02_Calendar_Roll.f
  by_cases g : Good x
  · obtain ⟨y, j, d, hd, o1, o2⟩ := of_ev g.1 g.2
    simp only [rgood_eq, decide_eq_true (show 0 ≤ x ∧ x ≤ 200000 from g), Option.bind_some, if_true]
    have bk : (backS (worksS l) x).2 = 0 → worksS l (backS (worksS l) x).1 = true := fun q => (backS_good _ _ q).2
    rcases nextS_is (worksS l) g with ⟨z, e, h1, h2, h3, _⟩ | e
    · rw [e] at nx1 nx2
      obtain ⟨y2, j2, d2, hd2, p1, p2⟩ := of_ev h2.1 h2.2
      by_cases c : (j : Int) + 1 = (j2 : Int) + 1
      · refine ⟨(z, 0), Ev.bind nx1 ?_, Ev.bind nx2 (Ev.bind o2 (Ev.bind p2 ?_)), fun _ => h3⟩
        · simp only [if_true]
          refine Ev.step (f := fun k => (calendar_Of.f k x).bind fun a => (calendar_Of.f k z).bind fun b => if a.2.1 = b.2.1 then some (z, 0) else (calendar_Calendar_Back.f k (sortedOff l) x).bind fun bt => some (bt.1, bt.2)) (fun k => by simp only [calendar_Calendar_Roll.j0, Bool.false_eq_true, if_false, if_true]) ?_
          refine Ev.bind o1 (Ev.bind p1 ?_)
          simp only [if_pos c]
          exact Ev.now _
        · simp only [if_true, if_pos c]
          exact Ev.now _
      · refine ⟨backS (worksS l) x, Ev.bind nx1 ?_, Ev.bind nx2 (Ev.bind o2 (Ev.bind p2 ?_)), bk⟩
        · simp only [if_true]
          refine Ev.step (f := fun k => (calendar_Of.f k x).bind fun a => (calendar_Of.f k z).bind fun b => if a.2.1 = b.2.1 then some (z, 0) else (calendar_Calendar_Back.f k (sortedOff l) x).bind fun bt => some (bt.1, bt.2)) (fun k => by simp only [calendar_Calendar_Roll.j0, Bool.false_eq_true, if_false, if_true]) ?_
          refine Ev.bind o1 (Ev.bind p1 ?_)
          simp only [if_neg c]
          exact Ev.bind bk1 (Ev.now _)
        · simp only [if_true, if_neg c]
          exact Ev.bind bk2 (Ev.now _)
    · rw [e] at nx1 nx2
      obtain ⟨y2, j2, d2, hd2, p1, p2⟩ := of_ev (day := 0) (by omega) (by omega)
      refine ⟨backS (worksS l) x, Ev.bind nx1 ?_, Ev.bind nx2 (Ev.bind o2 (Ev.bind p2 ?_)), bk⟩
      · simp only [if_neg (show ¬ (6 : Int) = 0 by omega), bne_self_eq_false]
        refine Ev.step (f := fun k => (calendar_Of.f k x).bind fun a => (calendar_Calendar_Back.f k (sortedOff l) x).bind fun bt => some (bt.1, bt.2)) (fun k => by simp only [calendar_Calendar_Roll.j0, Bool.false_eq_true, if_false, if_neg (show ¬ (6 : Int) = 0 by omega)]) ?_
        exact Ev.bind o1 (Ev.bind bk1 (Ev.now _))
      · simp only [if_neg (show ¬ (6 : Int) = 0 by omega)]
        exact Ev.bind bk2 (Ev.now _)
  · have e : nextS (worksS l) x = (0, 10) := if_neg g
    rw [e] at nx1
    refine ⟨(0, 10), Ev.bind nx1 ?_, ?_, fun q => by cases q⟩
    · simp only [if_neg (show ¬ (10 : Int) = 0 by omega)]
      exact Ev.step (f := fun _ => some (0, 10)) (fun k => by simp only [calendar_Calendar_Roll.j0]; rw [if_pos (by decide)]) (Ev.now _)
    · simp only [rgood_eq, decide_eq_false (show ¬ (0 ≤ x ∧ x ≤ 200000) from g), Option.bind_some, Bool.false_eq_true, if_false]
      exact Ev.now _
theorem mn_eq (a b : Int) : mn a b = if b < a then b else a := by
  unfold mn
  repeat' split
  all_goals first | rfl | omega
theorem rmonths_l0 {l : List Int} {y d : Int} {j : Nat} (hj : j ≤ 11) (y0 : 1970 ≤ y) (y1 : y ≤ 2600) (n : Int) (n1 : n ≤ 120) {r : Int × Int} :
    ∀ (f i : Nat), (i : Int) + f = n →
      (Ev (fun k => lombardref02_Calendar_Months.j2 k l (y + (j + n) / 12) ((j + n) % 12 + 1) (mn d (mlen (y + (j + n) / 12) ((j + n) % 12 + 1)))) r) →
      Ev (fun k => lombardref02_Calendar_Months.l0 k n i l (y + (j + i) / 12) ((j + i) % 12 + 1) d) r := by
  intro f
  induction f with
  | zero =>
    intro i hi he
    obtain rfl : n = (i : Int) := by omega
    have dd := days_eq (y := y + (j + (i : Int)) / 12) (m := (j + (i : Int)) % 12 + 1) (by omega) (by omega) (by omega)
    rw [mn_eq] at he
    refine Ev.step (f := fun k => if d > mlen (y + (j + (i : Int)) / 12) ((j + (i : Int)) % 12 + 1) then lombardref02_Calendar_Months.j2 k l (y + (j + (i : Int)) / 12) ((j + (i : Int)) % 12 + 1) (mlen (y + (j + (i : Int)) / 12) ((j + (i : Int)) % 12 + 1)) else lombardref02_Calendar_Months.j2 k l (y + (j + (i : Int)) / 12) ((j + (i : Int)) % 12 + 1) d) (fun k => ?_) ?_
    · simp only [lombardref02_Calendar_Months.l0, dd, Option.bind_some]
      rw [if_neg (by omega)]
    · by_cases c : mlen (y + (j + (i : Int)) / 12) ((j + (i : Int)) % 12 + 1) < d
      · rw [if_pos c] at he
        simp only [if_pos (show d > mlen (y + (j + (i : Int)) / 12) ((j + (i : Int)) % 12 + 1) from c)]
        exact he
      · rw [if_neg c] at he
        simp only [if_neg (show ¬ d > mlen (y + (j + (i : Int)) / 12) ((j + (i : Int)) % 12 + 1) from c)]
        exact he
  | succ f ih =>
    intro i hi he
    have hx := ih (i + 1) (by omega) he
    refine Ev.step (fun k => ?_) hx
    simp only [lombardref02_Calendar_Months.l0]
    rw [if_pos (by omega), w_id (x := (j + (i : Int)) % 12 + 1 + 1) (by omega) (by omega), w_id (x := (i : Int) + 1) (by omega) (by omega), w_id (x := y + (j + (i : Int)) / 12 + 1) (by omega) (by omega)]
    by_cases c : (j + (i : Int)) % 12 + 1 + 1 > 12
    · have ea : y + (j + ((i + 1 : Nat) : Int)) / 12 = y + (j + (i : Int)) / 12 + 1 := by omega
      have eb : (j + ((i + 1 : Nat) : Int)) % 12 + 1 = 1 := by omega
      rw [if_pos c, ea, eb]
      rfl
    · have ea : y + (j + ((i + 1 : Nat) : Int)) / 12 = y + (j + (i : Int)) / 12 := by omega
      have eb : (j + ((i + 1 : Nat) : Int)) % 12 + 1 = (j + (i : Int)) % 12 + 1 + 1 := by omega
      rw [if_neg c, ea, eb]
      rfl
theorem months_ev {l : List Int} (h : Fine l) (x n : Int) : ∃ r, Ev (fun k => calendar_Calendar_Months.f k (sortedOff l) x n) r ∧ Ev (fun k => lombardref02_Calendar_Months.f k l x n) r := by
  unfold calendar_Calendar_Months.f lombardref02_Calendar_Months.f
  by_cases g : Good x
  · obtain ⟨y, j, d, hd, o1, o2⟩ := of_ev g.1 g.2
    by_cases c : n < 0 ∨ n > 120
    · refine ⟨(0, 1), Ev.bind o1 ?_, Ev.bind o2 ?_⟩
      · refine Ev.step (g := _) (f := fun _ => some (0, 1)) (fun k => ?_) (Ev.now _)
        by_cases c1 : n < 0
        · simp only [if_true, if_pos c1, calendar_Calendar_Months.j0]
        · simp only [if_true, if_neg c1, decide_eq_true (show n > 120 by omega), calendar_Calendar_Months.j0]
      · refine Ev.step (g := _) (f := fun _ => some (0, 1)) (fun k => ?_) (Ev.now _)
        by_cases c1 : n < 0
        · simp only [if_true, if_pos c1, lombardref02_Calendar_Months.j0]
        · simp only [if_true, if_neg c1, decide_eq_true (show n > 120 by omega), lombardref02_Calendar_Months.j0]
    · have y0 := hd.y0
      have i1 := hd.i1
      have d0 := hd.d0
      have y1 := hd.year_le g.2
      have c1 : ¬ n < 0 := by omega
      have c2 : ¬ n > 120 := by omega
      have e1 : wrap64 ((j : Int) + 1 - 1) = j := by rw [w_id (by omega) (by omega)]; omega
      have e2 : wrap64 ((j : Int) + n) = j + n := w_id (by omega) (by omega)
      have e3 : Int.tdiv ((j : Int) + n) 12 = (j + n) / 12 := Int.tdiv_eq_ediv_of_nonneg (by omega)
      have e4 : Int.tmod ((j : Int) + n) 12 = (j + n) % 12 := Int.tmod_eq_emod_of_nonneg (by omega)
      have e5 : wrap64 (((j : Int) + n) / 12) = (j + n) / 12 := w_id (by omega) (by omega)
      have e6 : wrap64 (y + ((j : Int) + n) / 12) = y + (j + n) / 12 := w_id (by omega) (by omega)
      have e7 : wrap64 (((j : Int) + n) % 12 + 1) = (j + n) % 12 + 1 := w_id (by omega) (by omega)
      have ll := length_eq (y := y + ((j : Int) + n) / 12) (by omega) (((j : Int) + n) % 12 + 1)
      have nn := num_ev (y + ((j : Int) + n) / 12) (((j : Int) + n) % 12 + 1) (mn d (mlen (y + ((j : Int) + n) / 12) (((j : Int) + n) % 12 + 1)))
      have rn := rnum_ev (y + ((j : Int) + n) / 12) (((j : Int) + n) % 12 + 1) (mn d (mlen (y + ((j : Int) + n) / 12) (((j : Int) + n) % 12 + 1)))
      have key : ∃ r, Ev (fun k => calendar_Calendar_Months.j0 k n false (sortedOff l) y ((j : Int) + 1) d) r ∧ Ev (fun k => lombardref02_Calendar_Months.j2 k l (y + (j + n) / 12) ((j + n) % 12 + 1) (mn d (mlen (y + (j + n) / 12) ((j + n) % 12 + 1)))) r := by
        have st : ∀ r, Ev (fun k => (calendar_Number.f k (y + ((j : Int) + n) / 12) (((j : Int) + n) % 12 + 1) (mn d (mlen (y + ((j : Int) + n) / 12) (((j : Int) + n) % 12 + 1)))).bind fun bt => if bt.2 = 0 then (calendar_Calendar_Roll.f k (sortedOff l) bt.1).bind fun b2 => some (b2.1, b2.2) else some (0, bt.2)) r → Ev (fun k => calendar_Calendar_Months.j0 k n false (sortedOff l) y ((j : Int) + 1) d) r := fun r hr => Ev.step (fun k => by
          simp only [calendar_Calendar_Months.j0, Bool.false_eq_true, if_false, e1, e2, e3, e4, e5, e6, e7, ll, Option.bind_some]) hr
        generalize numS (y + ((j : Int) + n) / 12) (((j : Int) + n) % 12 + 1) (mn d (mlen (y + ((j : Int) + n) / 12) (((j : Int) + n) % 12 + 1))) = q at nn rn
        by_cases cq : q.2 = 0
        · obtain ⟨r, r1, r2, _⟩ := roll_ev h q.1
          refine ⟨r, st r (Ev.bind nn ?_), Ev.step (f := fun k => (lombardref02_Number.f k (y + ((j : Int) + n) / 12) (((j : Int) + n) % 12 + 1) (mn d (mlen (y + ((j : Int) + n) / 12) (((j : Int) + n) % 12 + 1)))).bind fun bt => if bt.2 = 0 then (lombardref02_Calendar_Roll.f k l bt.1).bind fun b2 => some (b2.1, b2.2) else some (0, bt.2)) (fun k => by simp only [lombardref02_Calendar_Months.j2]) (Ev.bind rn ?_)⟩
          · simp only [if_pos cq]
            exact Ev.bind r1 (Ev.now _)
          · simp only [if_pos cq]
            exact Ev.bind r2 (Ev.now _)
        · refine ⟨(0, q.2), st _ (Ev.bind nn ?_), Ev.step (f := fun k => (lombardref02_Number.f k (y + ((j : Int) + n) / 12) (((j : Int) + n) % 12 + 1) (mn d (mlen (y + ((j : Int) + n) / 12) (((j : Int) + n) % 12 + 1)))).bind fun bt => if bt.2 = 0 then (lombardref02_Calendar_Roll.f k l bt.1).bind fun b2 => some (b2.1, b2.2) else some (0, bt.2)) (fun k => by simp only [lombardref02_Calendar_Months.j2]) (Ev.bind rn ?_)⟩
          · simp only [if_neg cq]
            exact Ev.now _
          · simp only [if_neg cq]
            exact Ev.now _
      obtain ⟨r, k1, k2⟩ := key
      have k3 := rmonths_l0 (l := l) (y := y) (d := d) (j := j) (by omega) y0 y1 n (by omega) n.toNat 0 (by omega) k2
      refine ⟨r, Ev.bind o1 ?_, Ev.bind o2 ?_⟩
      · simp only [if_true, if_neg c1, decide_eq_false c2]
        exact k1
      · simp only [if_true, if_neg c1, decide_eq_false c2]
        refine Ev.step (fun k => ?_) k3
        simp only [lombardref02_Calendar_Months.j0, Bool.false_eq_true, if_false]
        rw [show y + ((j : Int) + ((0 : Nat) : Int)) / 12 = y by omega, show ((j : Int) + ((0 : Nat) : Int)) % 12 + 1 = j + 1 by omega]
        rfl
  · obtain ⟨o1, o2⟩ := of_bad (day := x) g
    refine ⟨(0, 10), Ev.bind o1 ?_, Ev.bind o2 ?_⟩
    · simp only [if_neg (show ¬ (10 : Int) = 0 by omega)]
      exact Ev.now _
    · simp only [if_neg (show ¬ (10 : Int) = 0 by omega)]
      exact Ev.now _
end Go.Proofs.Ytkdbolhheodfkaa.PCal
