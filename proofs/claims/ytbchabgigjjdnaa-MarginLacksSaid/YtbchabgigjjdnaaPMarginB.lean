-- a shortened text: what this claim does not name is left out (wip/xprint/prune.py of this repo)
import Derived.Test.YtbchabgigjjdnaaPMargin
import Derived.Test.YtbchabgigjjdnaaPFixB
import Derived.Test.YtbchabgigjjdnaaMD
import Derived.Test.YtbchabgigjjdnaaX8
import Derived.Test.YtbchabgigjjdnaaX10
import Derived.Test.YtbchabgigjjdnaaX11
namespace Go.Proofs.Ytbchabgigjjdnaa.PMargin
open Go Go.RowKit Go.Proofs.Ytbchabgigjjdnaa.X Go.Proofs.YtbchabgigjjdnaaW.PrintWords Go.Proofs.YtbchabgigjjdnaaW.PrintLast Go.Proofs.YtbchabgigjjdnaaW.PrintMore Go.Proofs.Ytbchabgigjjdnaa.MDS
theorem md_pos {n s : Int} (n0 : 0 ≤ n) (n1 : n ≤ 1125899906842624) (s0 : 1 ≤ s) (s1 : s ≤ 1125899906842624) : mulDivS n 1 s 2 = ((n + s - 1) / s, 0) := by
  unfold mulDivS
  rw [if_neg (by omega)]
  have m : minusOf n 1 s = false := by
    unfold minusOf
    rw [decide_eq_false (show ¬ n < 0 by omega), decide_eq_false (show ¬ s < 0 by omega)]
    rfl
  have e1 : (n.natAbs : Int) * (1 : Int).natAbs = n := by simp; omega
  have e2 : (s.natAbs : Int) = s := by omega
  simp only [m, e1, e2]
  have h1 := Int.emod_nonneg n (show s ≠ 0 by omega)
  have h2 := Int.emod_lt_of_pos n (show 0 < s by omega)
  have h3 := Int.mul_ediv_add_emod n s
  have q0 : 0 ≤ n / s := Int.ediv_nonneg n0 (by omega)
  have q1 : n / s ≤ n := Int.ediv_le_self _ n0
  have key : n / s + (if upOf false (n / s) (n % s) s 2 = true then 1 else 0) = (n + s - 1) / s := by
    unfold upOf
    by_cases r : n % s = 0
    · rw [if_pos r]
      simp only [Bool.false_eq_true, if_false, Int.add_zero]
      have : n + s - 1 = (s - 1) + s * (n / s) := by omega
      have z : (s - 1) / s = 0 := Int.ediv_eq_zero_of_lt (by omega) (by omega)
      rw [this, Int.add_mul_ediv_left _ _ (by omega), z]; omega
    · rw [if_neg r]
      simp
      have : n + s - 1 = (n % s - 1) + s * (n / s + 1) := by rw [Int.mul_add]; omega
      have z : (n % s - 1) / s = 0 := Int.ediv_eq_zero_of_lt (by omega) (by omega)
      rw [this, Int.add_mul_ediv_left _ _ (by omega), z]; omega
  rw [key]
  have k0 : 0 ≤ (n + s - 1) / s := Int.ediv_nonneg (by omega) (by omega)
  have k1 : (n + s - 1) / s ≤ n + s - 1 := Int.ediv_le_self _ (by omega)
  unfold signOf
  rw [if_neg (by simp; omega)]
  rfl
theorem md_neg {n s : Int} (n0 : n < 0) (n1 : -1125899906842624 ≤ n) (s0 : 1 ≤ s) (s1 : s ≤ 1125899906842624) : mulDivS n 1 s 2 = (-((-n) / s), 0) := by
  unfold mulDivS
  rw [if_neg (by omega)]
  have m : minusOf n 1 s = true := by
    unfold minusOf
    rw [decide_eq_true n0, decide_eq_false (show ¬ s < 0 by omega)]
    rfl
  have e1 : (n.natAbs : Int) * (1 : Int).natAbs = -n := by simp; omega
  have e2 : (s.natAbs : Int) = s := by omega
  simp only [m, e1, e2]
  have q0 : 0 ≤ (-n) / s := Int.ediv_nonneg (by omega) (by omega)
  have q1 : (-n) / s ≤ -n := Int.ediv_le_self _ (by omega)
  have key : upOf true ((-n) / s) ((-n) % s) s 2 = false := by
    unfold upOf
    by_cases r : (-n) % s = 0
    · rw [if_pos r]
    · rw [if_neg r]; rfl
  rw [key]
  unfold signOf
  rw [if_neg (by simp; omega)]
  simp
theorem ref_fair (k : Nat) {l s a h : Int} (F : Fair l s a h) : lombardref28_Call.f (k + 1) l s a h = some (callOf l s (a - h), 0) := by
  obtain ⟨l0, l1, s0, s1, a0, a1, h0, h1⟩ := F
  have e1 : wrap64 (a - h) = a - h := w_id (by omega) (by omega)
  have e2 : wrap64 (-(a - h)) = -(a - h) := w_id (by omega) (by omega)
  unfold lombardref28_Call.f lombardref28_Rules.f
  rw [if_pos (show l ≥ 0 from l0), if_pos l1, if_pos (show s ≥ 1 from s0)]
  simp only [s1, decide_true, Option.bind_some, if_true]
  rw [if_neg (by omega), if_neg (by omega), if_neg (by omega), decide_eq_false (show ¬ h > 1125899906842624 by omega)]
  simp only [lombardref28_Call.j0, e1, e2]
  rw [if_neg (by simp)]
  have P := up_bd (n := a - h + s - 1) (s := s) s0
  have Q := up_bd (n := -(a - h)) (s := s) s0
  have md : (lombardref01_MulDiv.f (a - h) 1 s 2).bind (fun bt => some (wrap64 (bt.1 * s), (0 : Int))) = some (if a - h > 0 then (a - h + s - 1) / s * s else -((-(a - h)) / s * s), 0) := by
    unfold lombardref01_MulDiv.f in64
    rw [if_pos (by omega)]
    simp only [Option.bind_some]
    by_cases c : a - h < 0
    · rw [md_neg c (by omega) s0 s1, if_neg (by omega)]
      have := Q (by omega)
      simp only
      rw [Int.neg_mul, w_id (by omega) (by omega)]
    · rw [md_pos (by omega) (by omega) s0 s1]
      have := P (by omega)
      simp only
      rw [w_id (by omega) (by omega)]
      by_cases d : a - h > 0
      · rw [if_pos d]
      · have z : a - h = 0 := by omega
        rw [if_neg d, z]
        have e3 : (0 + s - 1) / s = 0 := Int.ediv_eq_zero_of_lt (by omega) (by omega)
        rw [e3]; simp
  rw [md]
  unfold callOf
  by_cases c1 : a - h < l
  · rw [if_pos c1]
    by_cases c2 : -(a - h) < l
    · rw [if_pos c2, if_pos (by omega)]
    · rw [if_neg c2, if_neg (show ¬ (a - h < l ∧ a - h > -l) by omega)]
  · rw [if_neg c1, if_neg (show ¬ (a - h < l ∧ a - h > -l) by omega)]
theorem ref_bad (k : Nat) {l s a h : Int} (F : ¬ Fair l s a h) : lombardref28_Call.f (k + 1) l s a h = some (0, 1) := by
  unfold lombardref28_Call.f lombardref28_Rules.f
  have key : lombardref28_Call.j0 (k + 1) l s a h true = some (0, 1) := by simp [lombardref28_Call.j0]
  by_cases c1 : l ≥ 0
  · rw [if_pos c1]
    by_cases c2 : l ≤ 1125899906842624
    · rw [if_pos c2]
      by_cases c3 : s ≥ 1
      · rw [if_pos c3]
        by_cases c4 : s ≤ 1125899906842624
        · simp only [c4, decide_true, Option.bind_some, if_true]
          by_cases c5 : a < 0
          · rw [if_pos c5]; exact key
          · rw [if_neg c5]
            by_cases c6 : a > 1125899906842624
            · rw [if_pos c6]; exact key
            · rw [if_neg c6]
              by_cases c7 : h < 0
              · rw [if_pos c7]; exact key
              · rw [if_neg c7]
                have c8 : h > 1125899906842624 := by unfold Fair at F; omega
                rw [decide_eq_true c8]; exact key
        · simp only [c4, decide_false, Option.bind_some]; rw [if_neg (by simp)]; exact key
      · rw [if_neg c3]; simp only [Option.bind_some]; rw [if_neg (by simp)]; exact key
    · rw [if_neg c2]; simp only [Option.bind_some]; rw [if_neg (by simp)]; exact key
  · rw [if_neg c1]; simp only [Option.bind_some]; rw [if_neg (by simp)]; exact key
end Go.Proofs.Ytbchabgigjjdnaa.PMargin
