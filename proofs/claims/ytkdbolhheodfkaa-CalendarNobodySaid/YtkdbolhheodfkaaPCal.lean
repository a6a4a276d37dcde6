-- a shortened text: what this claim does not name is left out (wip/xprint/prune.py of this repo)
import Derived.Test.YtkdbolhheodfkaaX0
namespace Go.Proofs.Ytkdbolhheodfkaa.PCal
def leapS (y : Int) : Bool := decide (y % 4 = 0 ∧ (y % 100 ≠ 0 ∨ y % 400 = 0))
def ylen (y : Int) : Int := if leapS y = true then 366 else 365
def B (y : Int) : Int := 365 * (y - 1) + (y - 1) / 4 - (y - 1) / 100 + (y - 1) / 400
theorem B_succ (y : Int) : B (y + 1) = B y + ylen y := by
  unfold B ylen leapS
  by_cases c : y % 4 = 0 ∧ (y % 100 ≠ 0 ∨ y % 400 = 0)
  · rw [if_pos (decide_eq_true c)]
    omega
  · rw [if_neg (by simpa using c)]
    omega
theorem ylen_bd (y : Int) : 365 ≤ ylen y ∧ ylen y ≤ 366 := by unfold ylen; split <;> omega
theorem B_mono {y z : Int} (h : y ≤ z) : B y ≤ B z := by unfold B; omega
theorem B_lower (y : Int) (h : 1 ≤ y) : B y ≤ 366 * (y - 1) := by unfold B; omega
theorem B_1970 : B 1970 = 719162 := by decide
theorem year_one {n y z : Int} (h1 : B y ≤ n) (h2 : n < B (y + 1)) (h3 : B z ≤ n) (h4 : n < B (z + 1)) : y = z := by
  rcases Int.lt_trichotomy y z with c | c | c
  · have := B_mono (show y + 1 ≤ z by omega); omega
  · exact c
  · have := B_mono (show z + 1 ≤ y by omega); omega
def mlen (y m : Int) : Int := if m = 2 then (if leapS y = true then 29 else 28) else if m = 4 ∨ m = 6 ∨ m = 9 ∨ m = 11 then 30 else 31
theorem mlen_bd (y m : Int) : 28 ≤ mlen y m ∧ mlen y m ≤ 31 := by unfold mlen; repeat' split
                                                                  all_goals omega
def cum (y : Int) : Nat → Int
  | 0 => 0
  | i + 1 => cum y i + mlen y (i + 1 : Nat)
theorem cum_12 (y : Int) : cum y 12 = ylen y := by
  simp only [cum, mlen, ylen]
  cases leapS y <;> simp
theorem cum_mono (y : Int) {i j : Nat} (h : i ≤ j) : cum y i ≤ cum y j := by
  induction j with
  | zero => rw [show i = 0 by omega]; exact Int.le_refl _
  | succ j ih =>
    by_cases c : i = j + 1
    · rw [c]; exact Int.le_refl _
    · have := ih (by omega)
      have := mlen_bd y ((j + 1 : Nat) : Int)
      simp only [cum]
      omega
theorem cum_nonneg (y : Int) (i : Nat) : 0 ≤ cum y i := cum_mono y (Nat.zero_le i)
theorem month_one {y n : Int} {i j : Nat} (h1 : cum y i ≤ n) (h2 : n < cum y (i + 1)) (h3 : cum y j ≤ n) (h4 : n < cum y (j + 1)) : i = j := by
  rcases Nat.lt_trichotomy i j with c | c | c
  · have := cum_mono y (show i + 1 ≤ j by omega); omega
  · exact c
  · have := cum_mono y (show j + 1 ≤ i by omega); omega
structure IsDate (day y : Int) (i : Nat) (d : Int) : Prop where
  y0 : 1970 ≤ y
  i1 : i ≤ 11
  d0 : 1 ≤ d
  d1 : d ≤ mlen y (i + 1 : Nat)
  eq : B y - 719162 + cum y i + d - 1 = day
theorem IsDate.inYear {day y d : Int} {i : Nat} (h : IsDate day y i d) : B y ≤ day + 719162 ∧ day + 719162 < B (y + 1) := by
  have h1 := h.eq
  have h2 := cum_nonneg y i
  have h3 := h.d0
  have h4 := h.d1
  have h5 := cum_mono y (show i + 1 ≤ 12 by have := h.i1; omega)
  rw [cum_12] at h5
  rw [B_succ]
  simp only [cum] at h5
  omega
theorem IsDate.one {day y z d e : Int} {i j : Nat} (h : IsDate day y i d) (k : IsDate day z j e) : y = z ∧ i = j ∧ d = e := by
  obtain ⟨a, b⟩ := h.inYear
  obtain ⟨a', b'⟩ := k.inYear
  obtain rfl := year_one a b a' b'
  have h1 := h.eq
  have k1 := k.eq
  have h2 := h.d0
  have h3 := h.d1
  have k2 := k.d0
  have k3 := k.d1
  have e1 : i = j := month_one (y := y) (n := day + 719162 - B y) (by omega) (by simp only [cum]; omega) (by omega) (by simp only [cum]; omega)
  subst e1
  exact ⟨rfl, rfl, by omega⟩
end Go.Proofs.Ytkdbolhheodfkaa.PCal
