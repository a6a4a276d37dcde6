-- a shortened text: what this claim does not name is left out (wip/xprint/prune.py of this repo)
import Derived.Test.YtkdbolhheodfkaaPCal
import Derived.Test.YtkdbolhheodfkaaX2
import Derived.Test.YtkdbolhheodfkaaX3
import Derived.Test.YtkdbolhheodfkaaX5
import Derived.Test.YtkdbolhheodfkaaX6
namespace Go.Proofs.Ytkdbolhheodfkaa.PCal
open Go Go.RowKit Go.Proofs.Ytkdbolhheodfkaa.X Go.Proofs.YtkdbolhheodfkaaW.PrintWords Go.Proofs.YtkdbolhheodfkaaW.PrintLast Go.Proofs.YtkdbolhheodfkaaW.PrintMore
theorem w_id {x : Int} (h0 : -9223372036854775808 ≤ x) (h1 : x ≤ 9223372036854775807) : wrap64 x = x := by unfold wrap64; omega
theorem B_bd {y : Int} (h0 : 1 ≤ y) (h1 : y ≤ 20000) : 0 ≤ B y ∧ B y ≤ 8000000 := by unfold B; omega
theorem before_eq {y : Int} (h0 : 1 ≤ y) (h1 : y ≤ 20000) : calendar_before.f y = some (B y) := by
  unfold calendar_before.f B
  have e1 : wrap64 (y - 1) = y - 1 := w_id (by omega) (by omega)
  rw [e1, Int.tdiv_eq_ediv_of_nonneg (by omega), Int.tdiv_eq_ediv_of_nonneg (by omega), Int.tdiv_eq_ediv_of_nonneg (by omega)]
  rw [w_id (x := 365 * (y - 1)) (by omega) (by omega), w_id (x := (y - 1) / 4) (by omega) (by omega), w_id (x := (y - 1) / 100) (by omega) (by omega), w_id (x := (y - 1) / 400) (by omega) (by omega),
    w_id (x := 365 * (y - 1) + (y - 1) / 4) (by omega) (by omega), w_id (x := 365 * (y - 1) + (y - 1) / 4 - (y - 1) / 100) (by omega) (by omega), w_id (by omega) (by omega)]
theorem leap_eq {y : Int} (h0 : 0 ≤ y) : calendar_leap.f y = some (leapS y) := by
  unfold calendar_leap.f leapS
  rw [Int.tmod_eq_emod_of_nonneg h0, Int.tmod_eq_emod_of_nonneg h0, Int.tmod_eq_emod_of_nonneg h0]
  by_cases a : y % 4 = 0
  · rw [if_pos a]
    by_cases b : y % 100 = 0
    · rw [if_pos b]
      by_cases c : y % 400 = 0
      · rw [decide_eq_true ⟨a, .inr c⟩, c]; rfl
      · rw [decide_eq_false (fun z => z.2.elim (fun n => n b) c)]
        simpa using c
    · rw [if_neg b, decide_eq_true ⟨a, .inl b⟩]
  · rw [if_neg a, decide_eq_false (fun z => a z.1)]
theorem length_eq {y : Int} (h0 : 0 ≤ y) (m : Int) : calendar_length.f y m = some (mlen y m) := by
  unfold calendar_length.f mlen
  by_cases a : m = 2
  · rw [if_pos a, if_pos a, leap_eq h0]
    simp only [Option.bind_some]
    split <;> rfl
  · rw [if_neg a, if_neg a]
    repeat' split
    all_goals first | rfl | (exfalso; omega)
theorem days_eq {y m : Int} (h0 : 0 ≤ y) (m0 : 1 ≤ m) (m1 : m ≤ 12) : lombardref02_Days.f y m = some (mlen y m) := by
  unfold lombardref02_Days.f mlen leapS
  rw [Int.tmod_eq_emod_of_nonneg h0, Int.tmod_eq_emod_of_nonneg h0, Int.tmod_eq_emod_of_nonneg h0]
  have hm : m = 1 ∨ m = 2 ∨ m = 3 ∨ m = 4 ∨ m = 5 ∨ m = 6 ∨ m = 7 ∨ m = 8 ∨ m = 9 ∨ m = 10 ∨ m = 11 ∨ m = 12 := by omega
  rcases hm with rfl | rfl | rfl | rfl | rfl | rfl | rfl | rfl | rfl | rfl | rfl | rfl
  case inr.inl =>
    simp only [Option.bind_some, if_true]
    by_cases a : y % 400 = 0
    · rw [if_pos a, decide_eq_true ⟨by omega, .inr a⟩]; rfl
    · rw [if_neg a]
      by_cases b : y % 4 = 0
      · rw [if_pos b]
        by_cases c : y % 100 = 0
        · rw [if_pos c, decide_eq_false (fun z => z.2.elim (fun n => n c) a)]; simp [wrap64, rd]
        · rw [if_neg c, decide_eq_true ⟨b, .inl c⟩]; rfl
      · rw [if_neg b, decide_eq_false (fun z => b z.1)]; simp [wrap64, rd]
  all_goals simp [wrap64, rd]
theorem ylen_eq (y : Int) : ylen y = 337 + mlen y 2 := by
  unfold ylen mlen
  rw [if_pos rfl]
  split <;> rfl
theorem of_l1 {day y : Int} (y0 : 1970 ≤ y) (y1 : y ≤ 3000) (hy : day + 719162 < B (y + 1)) : ∀ (f i : Nat) (x : Int), i + f = 11 → 0 ≤ x → cum y i + x = day + 719162 - B y →
    ∃ (j : Nat) (d : Int), IsDate day y j d ∧ Ev (fun k => calendar_Of.l1 k x y ((i : Int) + 1)) (y, (j : Int) + 1, d, 0) ∧ Ev (fun k => lombardref02_Of.l1 k x y ((i : Int) + 1)) (y, (j : Int) + 1, d, 0) := by
  have yb := B_bd (y := y) (by omega) (by omega)
  have yb2 := B_bd (y := y + 1) (by omega) (by omega)
  have hc12 : day + 719162 - B y < cum y 12 := by rw [cum_12]; have := B_succ y; omega
  intro f
  induction f with
  | zero =>
    intro i x hi x0 he
    have l := length_eq (y := y) (by omega) ((i : Int) + 1)
    have r := days_eq (y := y) (m := (i : Int) + 1) (by omega) (by omega) (by omega)
    have mb := mlen_bd y ((i : Int) + 1)
    have c : ¬ x ≥ mlen y ((i : Int) + 1) := by
      have : cum y 12 = cum y 11 + mlen y ((11 : Nat) + 1 : Nat) := rfl
      obtain rfl : i = 11 := by omega
      have e : (((11 : Nat) + 1 : Nat) : Int) = ((11 : Nat) : Int) + 1 := rfl
      rw [e] at this
      omega
    have e1 : wrap64 (x + 1) = x + 1 := w_id (by omega) (by omega)
    refine ⟨i, x + 1, ⟨y0, by omega, by omega, by show x + 1 ≤ mlen y ((i : Int) + 1); omega, by omega⟩, Ev.step (f := fun _ => some (y, (i : Int) + 1, x + 1, 0)) (fun k => ?_) (Ev.now _), Ev.step (f := fun _ => some (y, (i : Int) + 1, x + 1, 0)) (fun k => ?_) (Ev.now _)⟩
    · simp only [calendar_Of.l1, l, Option.bind_some, e1]
      rw [if_neg c]
    · simp only [lombardref02_Of.l1, r, Option.bind_some, e1]
      rw [if_neg c]
  | succ f ih =>
    intro i x hi x0 he
    have l := length_eq (y := y) (by omega) ((i : Int) + 1)
    have r := days_eq (y := y) (m := (i : Int) + 1) (by omega) (by omega) (by omega)
    have mb := mlen_bd y ((i : Int) + 1)
    have cn := cum_nonneg y i
    by_cases c : x ≥ mlen y ((i : Int) + 1)
    · have e2 : wrap64 (x - mlen y ((i : Int) + 1)) = x - mlen y ((i : Int) + 1) := w_id (by omega) (by omega)
      have e3 : wrap64 ((i : Int) + 1 + 1) = ((i + 1 : Nat) : Int) + 1 := by rw [w_id (by omega) (by omega)]; omega
      have ec : cum y (i + 1) = cum y i + mlen y ((i : Int) + 1) := rfl
      obtain ⟨j, d, h1, h2, h3⟩ := ih (i + 1) (x - mlen y ((i : Int) + 1)) (by omega) (by omega) (by omega)
      refine ⟨j, d, h1, Ev.step (fun k => ?_) h2, Ev.step (fun k => ?_) h3⟩
      · simp only [calendar_Of.l1, l, Option.bind_some, e2, e3]
        rw [if_pos c]
      · simp only [lombardref02_Of.l1, r, Option.bind_some, e2, e3]
        rw [if_pos c]
    · have e1 : wrap64 (x + 1) = x + 1 := w_id (by omega) (by omega)
      refine ⟨i, x + 1, ⟨y0, by omega, by omega, by show x + 1 ≤ mlen y ((i : Int) + 1); omega, by omega⟩, Ev.step (f := fun _ => some (y, (i : Int) + 1, x + 1, 0)) (fun k => ?_) (Ev.now _), Ev.step (f := fun _ => some (y, (i : Int) + 1, x + 1, 0)) (fun k => ?_) (Ev.now _)⟩
      · simp only [calendar_Of.l1, l, Option.bind_some, e1]
        rw [if_neg c]
      · simp only [lombardref02_Of.l1, r, Option.bind_some, e1]
        rw [if_neg c]
theorem B_3000 : B 3000 = 1095362 := by decide
theorem of_l0 {day : Int} (d0 : 0 ≤ day) (d1 : day ≤ 200000) : ∀ (f : Nat) (y : Int), y + f = 3000 → 1900 ≤ y → B y ≤ day + 719162 →
    ∃ (z : Int) (j : Nat) (d : Int), IsDate day z j d ∧ Ev (fun k => calendar_Of.l0 k (day + 719162) y) (z, (j : Int) + 1, d, 0) := by
  intro f
  induction f with
  | zero =>
    intro y hy y0 hb
    obtain rfl : y = 3000 := by omega
    rw [B_3000] at hb
    omega
  | succ f ih =>
    intro y hy y0 hb
    have b1 := before_eq (y := y + 1) (by omega) (by omega)
    have b0 := before_eq (y := y) (by omega) (by omega)
    have yb := B_bd (y := y) (by omega) (by omega)
    have ew : wrap64 (y + 1) = y + 1 := w_id (by omega) (by omega)
    by_cases c : B (y + 1) ≤ day + 719162
    · obtain ⟨z, j, d, h1, h2⟩ := ih (y + 1) (by omega) (by omega) c
      refine ⟨z, j, d, h1, Ev.step (fun k => ?_) h2⟩
      simp only [calendar_Of.l0, ew, b1, Option.bind_some]
      rw [if_pos c]
    · have y70 : 1970 ≤ y := by
        rcases Int.lt_or_le y 1970 with z | z
        · have := B_mono (show y + 1 ≤ 1970 by omega)
          rw [B_1970] at this
          omega
        · exact z
      obtain ⟨j, d, h1, h2, _⟩ := of_l1 (day := day) y70 (by omega) (by omega) 11 0 (day + 719162 - B y) rfl (by omega) (by simp only [cum]; omega)
      refine ⟨y, j, d, h1, Ev.step (fun k => ?_) h2⟩
      simp only [calendar_Of.l0, ew, b1, b0, Option.bind_some]
      rw [if_neg c, w_id (by omega) (by omega)]
      rfl
theorem rof_l0 {day : Int} (d0 : 0 ≤ day) (d1 : day ≤ 200000) : ∀ (f : Nat) (y : Int), y + f = 3000 → 1970 ≤ y → B y ≤ day + 719162 →
    ∃ (z : Int) (j : Nat) (d : Int), IsDate day z j d ∧ Ev (fun k => lombardref02_Of.l0 k (day + 719162 - B y) y 1) (z, (j : Int) + 1, d, 0) := by
  intro f
  induction f with
  | zero =>
    intro y hy y0 hb
    obtain rfl : y = 3000 := by omega
    rw [B_3000] at hb
    omega
  | succ f ih =>
    intro y hy y0 hb
    have r := days_eq (y := y) (m := 2) (by omega) (by omega) (by omega)
    have yb := B_bd (y := y) (by omega) (by omega)
    have ye := ylen_eq y
    have ybd := ylen_bd y
    have bs := B_succ y
    have ew : wrap64 (y + 1) = y + 1 := w_id (by omega) (by omega)
    have e1 : wrap64 (337 + mlen y 2) = ylen y := by rw [w_id (by omega) (by omega), ye]
    by_cases c : day + 719162 - B y ≥ ylen y
    · obtain ⟨z, j, d, h1, h2⟩ := ih (y + 1) (by omega) (by omega) (by omega)
      refine ⟨z, j, d, h1, Ev.step (fun k => ?_) h2⟩
      simp only [lombardref02_Of.l0, r, Option.bind_some, e1]
      rw [if_pos c, ew, w_id (x := day + 719162 - B y - 337) (by omega) (by omega), w_id (by omega) (by omega), show day + 719162 - B y - 337 - mlen y 2 = day + 719162 - B (y + 1) by omega]
    · obtain ⟨j, d, h1, _, h3⟩ := of_l1 (day := day) y0 (by omega) (by omega) 11 0 (day + 719162 - B y) rfl (by omega) (by simp only [cum]; omega)
      refine ⟨y, j, d, h1, Ev.step (fun k => ?_) h3⟩
      simp only [lombardref02_Of.l0, r, Option.bind_some, e1]
      rw [if_neg c]
      rfl
theorem good_eq (x : Int) : calendar_Good.f x = some (decide (0 ≤ x ∧ x ≤ 200000)) := by
  unfold calendar_Good.f
  by_cases a : x ≥ 0
  · rw [if_pos a]
    by_cases b : x ≤ 200000
    · rw [decide_eq_true b, decide_eq_true ⟨a, b⟩]
    · rw [decide_eq_false b, decide_eq_false (fun z => b z.2)]
  · rw [if_neg a, decide_eq_false (fun z => a z.1)]
theorem rgood_eq (x : Int) : lombardref02_Good.f x = some (decide (0 ≤ x ∧ x ≤ 200000)) := good_eq x
theorem of_ev {day : Int} (d0 : 0 ≤ day) (d1 : day ≤ 200000) : ∃ (y : Int) (j : Nat) (d : Int), IsDate day y j d ∧ Ev (fun k => calendar_Of.f k day) (y, (j : Int) + 1, d, 0) ∧ Ev (fun k => lombardref02_Of.f k day) (y, (j : Int) + 1, d, 0) := by
  have e1 : wrap64 (day + 719162) = day + 719162 := w_id (by omega) (by omega)
  have e2 : Int.tdiv (day + 719162) 366 = (day + 719162) / 366 := Int.tdiv_eq_ediv_of_nonneg (by omega)
  have e3 : wrap64 ((day + 719162) / 366) = (day + 719162) / 366 := w_id (by omega) (by omega)
  have e4 : wrap64 ((day + 719162) / 366 + 1) = (day + 719162) / 366 + 1 := w_id (by omega) (by omega)
  have lo := B_lower ((day + 719162) / 366 + 1) (by omega)
  obtain ⟨y, j, d, h1, h2⟩ := of_l0 d0 d1 (3000 - ((day + 719162) / 366 + 1)).toNat ((day + 719162) / 366 + 1) (by omega) (by omega) (by omega)
  obtain ⟨z, i, e, k1, k2⟩ := rof_l0 d0 d1 1030 1970 rfl (by omega) (by rw [B_1970]; omega)
  obtain ⟨rfl, rfl, rfl⟩ := h1.one k1
  refine ⟨y, j, d, h1, ?_, ?_⟩
  · unfold calendar_Of.f
    have b := before_eq (y := 1970) (by omega) (by omega)
    rw [B_1970] at b
    simp only [good_eq, decide_eq_true (show 0 ≤ day ∧ day ≤ 200000 from ⟨d0, d1⟩), Option.bind_some, if_true, b, e1, e2, e3, e4]
    exact h2
  · unfold lombardref02_Of.f
    simp only [rgood_eq, decide_eq_true (show 0 ≤ day ∧ day ≤ 200000 from ⟨d0, d1⟩), Option.bind_some, if_true]
    rw [B_1970, show day + 719162 - 719162 = day by omega] at k2
    exact k2
end Go.Proofs.Ytkdbolhheodfkaa.PCal
