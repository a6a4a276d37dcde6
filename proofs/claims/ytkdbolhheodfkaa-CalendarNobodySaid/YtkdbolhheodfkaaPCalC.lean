-- a shortened text: what this claim does not name is left out (wip/xprint/prune.py of this repo)
import Derived.Test.YtkdbolhheodfkaaPCalB
import Derived.Test.YtkdbolhheodfkaaX7
namespace Go.Proofs.Ytkdbolhheodfkaa.PCal
open Go Go.RowKit Go.Proofs.Ytkdbolhheodfkaa.X Go.Proofs.YtkdbolhheodfkaaW.PrintWords Go.Proofs.YtkdbolhheodfkaaW.PrintLast Go.Proofs.YtkdbolhheodfkaaW.PrintMore
def badDate (y m d : Int) : Prop := y < 1970 ∨ y > 9999 ∨ m < 1 ∨ m > 12 ∨ d < 1 ∨ d > mlen y m
instance (y m d : Int) : Decidable (badDate y m d) := by unfold badDate; infer_instance
def dayOf (y m d : Int) : Int := B y - 719162 + cum y (m - 1).toNat + d - 1
def numS (y m d : Int) : Int × Int := if badDate y m d then (0, 10) else if dayOf y m d ≤ 200000 then (dayOf y m d, 0) else (0, 10)
theorem num_l0 {y m d : Int} (y0 : 1970 ≤ y) (y1 : y ≤ 9999) (m0 : 1 ≤ m) (m1 : m ≤ 12) (d0 : 1 ≤ d) (d1 : d ≤ 31) : ∀ (f i : Nat), i + f = (m - 1).toNat →
    Ev (fun k => calendar_Number.l0 k (B y - 719162 + cum y i + d - 1) ((i : Int) + 1) y m d) (if dayOf y m d ≤ 200000 then (dayOf y m d, 0) else (0, 10)) := by
  have yb := B_bd (y := y) (by omega) (by omega)
  have yl := B_mono y0
  rw [B_1970] at yl
  have c12 := cum_12 y
  have yb2 := ylen_bd y
  intro f
  induction f with
  | zero =>
    intro i hi
    have cn := cum_nonneg y i
    refine Ev.step (f := fun _ => some (if dayOf y m d ≤ 200000 then (dayOf y m d, 0) else (0, 10))) (fun k => ?_) (Ev.now _)
    have e : B y - 719162 + cum y i + d - 1 = dayOf y m d := by unfold dayOf; rw [show (m - 1).toNat = i by omega]
    rw [e]
    have g0 : 0 ≤ dayOf y m d := by rw [← e]; omega
    simp only [calendar_Number.l0]
    rw [if_neg (by omega), good_eq]
    simp only [Option.bind_some]
    by_cases c : dayOf y m d ≤ 200000
    · rw [if_pos (decide_eq_true ⟨g0, c⟩), if_pos c]
    · rw [if_neg (by simp; omega), if_neg c]
  | succ f ih =>
    intro i hi
    have cn := cum_nonneg y i
    have cm := cum_mono y (show i + 1 ≤ 12 by omega)
    have l := length_eq (y := y) (by omega) ((i : Int) + 1)
    have mb := mlen_bd y ((i : Int) + 1)
    have ec : cum y (i + 1) = cum y i + mlen y ((i : Int) + 1) := rfl
    refine Ev.step (fun k => ?_) (ih (i + 1) (by omega))
    simp only [calendar_Number.l0, l, Option.bind_some]
    rw [if_pos (by omega), w_id (by omega) (by omega), w_id (by omega) (by omega)]
    rw [show B y - 719162 + cum y i + d - 1 + mlen y ((i : Int) + 1) = B y - 719162 + cum y (i + 1) + d - 1 by omega]
    rfl
theorem num_ev (y m d : Int) : Ev (fun k => calendar_Number.f k y m d) (numS y m d) := by
  have bd : Ev (fun k => calendar_Number.j0 k true y m d) (0, 10) := Ev.step (f := fun _ => some (0, 10)) (fun k => by simp only [calendar_Number.j0]; rw [if_pos trivial]) (Ev.now _)
  unfold calendar_Number.f numS
  by_cases c1 : y < 1970
  · simp only [if_pos c1]; rw [if_pos (.inl c1)]; exact bd
  by_cases c2 : y > 9999
  · simp only [if_neg c1, if_pos c2]; rw [if_pos (.inr (.inl c2))]; exact bd
  by_cases c3 : m < 1
  · simp only [if_neg c1, if_neg c2, if_pos c3]; rw [if_pos (.inr (.inr (.inl c3)))]; exact bd
  by_cases c4 : m > 12
  · simp only [if_neg c1, if_neg c2, if_neg c3, if_pos c4]; rw [if_pos (.inr (.inr (.inr (.inl c4))))]; exact bd
  by_cases c5 : d < 1
  · simp only [if_neg c1, if_neg c2, if_neg c3, if_neg c4, if_pos c5]; rw [if_pos (.inr (.inr (.inr (.inr (.inl c5)))))]; exact bd
  have l := length_eq (y := y) (by omega) m
  have mb := mlen_bd y m
  simp only [if_neg c1, if_neg c2, if_neg c3, if_neg c4, if_neg c5, l, Option.bind_some]
  by_cases c6 : d > mlen y m
  · rw [decide_eq_true c6, if_pos (.inr (.inr (.inr (.inr (.inr c6)))))]; exact bd
  rw [decide_eq_false c6, if_neg (fun z => by unfold badDate at z; omega)]
  have yb := B_bd (y := y) (by omega) (by omega)
  have yl := B_mono (show 1970 ≤ y by omega)
  rw [B_1970] at yl
  have b1 := before_eq (y := y) (by omega) (by omega)
  have b2 := before_eq (y := 1970) (by omega) (by omega)
  rw [B_1970] at b2
  refine Ev.step (f := fun k => calendar_Number.l0 k (B y - 719162 + cum y 0 + d - 1) (((0 : Nat) : Int) + 1) y m d) (fun k => ?_) (num_l0 (by omega) (by omega) (by omega) (by omega) (by omega) (by omega) (m - 1).toNat 0 (by omega))
  simp only [calendar_Number.j0, b1, b2, Option.bind_some, Bool.false_eq_true, if_false, cum, Int.add_zero]
  rw [w_id (x := B y - 719162) (by omega) (by omega), w_id (x := B y - 719162 + d) (by omega) (by omega), w_id (by omega) (by omega)]
  rfl
def wkday (day : Int) : Int := Int.tmod (Int.tmod day 7 + 10) 7
theorem tmod7 (day : Int) : -6 ≤ Int.tmod day 7 ∧ Int.tmod day 7 ≤ 6 := by
  have h1 := Int.tmod_lt_of_pos day (show (0 : Int) < 7 by omega)
  have h2 := Int.lt_tmod_of_pos day (show (0 : Int) < 7 by omega)
  omega
theorem wk_eq (day : Int) : calendar_Weekday.f day = some (wkday day) := by
  have h := tmod7 day
  unfold calendar_Weekday.f wkday
  rw [w_id (x := Int.tmod day 7 + 7) (by omega) (by omega), w_id (by omega) (by omega), show Int.tmod day 7 + 7 + 3 = Int.tmod day 7 + 10 by omega]
theorem awake_ev : Ev (fun k => lombardlaw02_awake.f k) true := by
  obtain ⟨y, j, d, h1, h2, _⟩ := of_ev (day := 0) (by omega) (by omega)
  have z : IsDate 0 1970 0 1 := ⟨by omega, by omega, by omega, by decide, by rw [B_1970]; rfl⟩
  obtain ⟨rfl, rfl, rfl⟩ := h1.one z
  have n1 := num_ev 2000 2 29
  rw [show numS 2000 2 29 = (11016, 0) by decide] at n1
  have nw : calendar_New.f ([] : List Int) = some ([], 0) := by
    unfold calendar_New.f
    rw [if_pos ⟨by simp, fun _ h => by cases h⟩]
    simp [sortedOff, Lib.compact, Lib.compactUpTo]
  have wk : ∀ x : Int, calendar_Calendar_Works.f [] x = some (decide (0 ≤ x ∧ x ≤ 200000) && decide (wkday x ≤ 4)) := fun x => by
    unfold calendar_Calendar_Works.f
    rw [if_pos ⟨List.Pairwise.nil, by simp⟩, good_eq, wk_eq]
    simp only [Option.bind_some]
    by_cases a : 0 ≤ x ∧ x ≤ 200000
    · rw [decide_eq_true a, if_pos rfl, Bool.true_and]
      by_cases b : wkday x > 4
      · rw [if_pos b, decide_eq_false (by omega)]
      · rw [if_neg b, decide_eq_true (by omega)]; rfl
    · rw [decide_eq_false a, if_neg (by simp), Bool.false_and]
  have nx : Ev (fun k => calendar_Calendar_Next.f k [] 2) (4, 0) := by
    unfold calendar_Calendar_Next.f
    simp only [good_eq, show decide ((0 : Int) ≤ 2 ∧ (2 : Int) ≤ 200000) = true by decide, Option.bind_some, if_true]
    refine Ev.step (f := fun k => calendar_Calendar_Next.l0 k 3 []) (fun k => ?_) (Ev.step (f := fun k => calendar_Calendar_Next.l0 k 4 []) (fun k => ?_) (Ev.step (f := fun _ => some (4, 0)) (fun k => ?_) (Ev.now _)))
    · simp only [calendar_Calendar_Next.l0, good_eq, wk, Option.bind_some]
      rw [if_pos (by decide), if_neg (by decide), show wrap64 ((2 : Int) + 1) = 3 by unfold wrap64; rfl]
    · simp only [calendar_Calendar_Next.l0, good_eq, wk, Option.bind_some]
      rw [if_pos (by decide), if_neg (by decide), show wrap64 ((3 : Int) + 1) = 4 by unfold wrap64; rfl]
    · simp only [calendar_Calendar_Next.l0, good_eq, wk, Option.bind_some]
      rw [if_pos (by decide), if_pos (by decide)]
  unfold lombardlaw02_awake.f
  refine Ev.bind h2 (Ev.bind n1 ?_)
  simp only [nw, Option.bind_some]
  refine Ev.bind nx ?_
  simp only [if_true, wk_eq, Option.bind_some]
  exact Ev.now _
end Go.Proofs.Ytkdbolhheodfkaa.PCal
