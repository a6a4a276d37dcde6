/- CloseResults: the law's printed function answers true at all numbers. No condition. -/
import Derived.Test.YtlbhjkbjokiioaaPFallB
import Derived.Test.YtlbhjkbjokiioaaX12
namespace Go.Proofs.Ytlbhjkbjokiioaa.Pure
open Go Go.RowKit Go.Proofs.Ytlbhjkbjokiioaa.X Go.Proofs.YtlbhjkbjokiioaaW.PrintWords Go.Proofs.YtlbhjkbjokiioaaW.PrintLast Go.Proofs.YtlbhjkbjokiioaaW.PrintMore Go.Proofs.Ytlbhjkbjokiioaa.PShare Go.Proofs.Ytlbhjkbjokiioaa.PFall

theorem minus_fix {a b : Int} (ha : In a) (hb : In b) : fixnum_Minus.f a b = some (if In (a - b) then (a - b, 0) else (0, 9)) := by
  unfold In at ha hb
  have hw : (-9223372036854775808 ≤ a - b ∧ a - b ≤ 9223372036854775807 ∧ wrap64 (a - b) = a - b) ∨ (9223372036854775807 < a - b ∧ wrap64 (a - b) = a - b - 18446744073709551616) ∨ (a - b < -9223372036854775808 ∧ wrap64 (a - b) = a - b + 18446744073709551616) := by unfold wrap64; omega
  unfold fixnum_Minus.f
  by_cases c : In (a - b)
  · have e : wrap64 (a - b) = a - b := w_id c.1 c.2
    rw [if_pos c, e]
    unfold In at c
    repeat' split
    all_goals first | rfl | (exfalso; omega)
  · rw [if_neg c]
    unfold In at c
    repeat' split
    all_goals first | rfl | (exfalso; omega)
theorem minus_ref {a b : Int} (ha : In a) (hb : In b) : lombardref01_Minus.f a b = some (if In (a - b) then (a - b, 0) else (0, 9)) := by
  unfold In at ha hb
  have e1 : b < 0 → wrap64 (9223372036854775807 + b) = 9223372036854775807 + b := fun h => w_id (by omega) (by omega)
  have e2 : b > 0 → wrap64 ((-9223372036854775808) + b) = (-9223372036854775808) + b := fun h => w_id (by omega) (by omega)
  unfold lombardref01_Minus.f
  by_cases p : b < 0
  · rw [if_pos p, e1 p]
    by_cases c : In (a - b)
    · have e : wrap64 (a - b) = a - b := w_id c.1 c.2
      rw [if_pos c, e]
      unfold In at c
      rw [if_neg (by omega), if_neg (by omega)]
    · rw [if_neg c]
      unfold In at c
      rw [if_pos (by omega)]
  · rw [if_neg p]
    by_cases n : b > 0
    · rw [if_pos n, e2 n]
      by_cases c : In (a - b)
      · have e : wrap64 (a - b) = a - b := w_id c.1 c.2
        rw [if_pos c, e]
        unfold In at c
        rw [if_neg (by omega)]
      · rw [if_neg c]
        unfold In at c
        rw [if_pos (by omega)]
    · rw [if_neg n, if_pos (show In (a - b) by unfold In; omega), w_id (by omega) (by omega)]
theorem in_of {n : Int} (h : (Lit.int .i64 n).wf = true) : In n := by
  simp only [Lit.wf, IntKind.min, IntKind.max, IntKind.signed, IntKind.bits, Bool.and_eq_true, decide_eq_true_eq, if_true] at h
  unfold In
  omega
theorem CloseResults : lombardlaw29_CloseResults.Pure := by
  intro a0 a1 a2 w0 w1 w2
  apply Ev.rounds
  have i0 := in_of w0
  have i1 := in_of w1
  have i2 := in_of w2
  unfold lombardlaw29_CloseResults.f close_Result.f
  rw [minus_fix i0 i1, minus_ref i0 i1]
  by_cases c : In (a0 - a1)
  · simp only [if_pos c, Option.bind_some, if_true, plus_fix c i2, plus_ref c i2]
    exact Ev.bind awake_ev (Ev.now _)
  · simp only [if_neg c, Option.bind_some, if_neg (show ¬ (9 : Int) = 0 by omega), if_true]
    exact Ev.bind awake_ev (Ev.now _)
end Go.Proofs.Ytlbhjkbjokiioaa.Pure
