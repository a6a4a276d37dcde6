/- The printed functions of margin: what Call answers, at fair and at other arguments; and the chapter's example. -/
import Derived.Test.YtbchabgigjjdnaaXS1
import Derived.Test.YtbchabgigjjdnaaXS2
namespace Go.Proofs.Ytbchabgigjjdnaa.PMargin
open Go Go.RowKit Go.Proofs.Ytbchabgigjjdnaa.XS Go.Proofs.YtbchabgigjjdnaaW.PrintWords Go.Proofs.YtbchabgigjjdnaaW.PrintLast Go.Proofs.YtbchabgigjjdnaaW.PrintMore

/-- What is called, in plain numbers. -/
def callOf (l s n : Int) : Int := if n < l ∧ n > -l then 0 else if n > 0 then (n + s - 1) / s * s else -((-n) / s * s)

def Fair (l s a h : Int) : Prop := 0 ≤ l ∧ l ≤ 1125899906842624 ∧ 1 ≤ s ∧ s ≤ 1125899906842624 ∧ 0 ≤ a ∧ a ≤ 1125899906842624 ∧ 0 ≤ h ∧ h ≤ 1125899906842624

theorem w_id {x : Int} (h0 : -9223372036854775808 ≤ x) (h1 : x ≤ 9223372036854775807) : wrap64 x = x := by unfold wrap64; omega

theorem up_bd {n s : Int} (hs : 1 ≤ s) (hn : 0 ≤ n) : 0 ≤ n / s * s ∧ n / s * s ≤ n ∧ n < n / s * s + s := by
  have h1 := Int.emod_nonneg n (show s ≠ 0 by omega)
  have h2 := Int.emod_lt_of_pos n (show 0 < s by omega)
  have h3 := Int.mul_ediv_add_emod n s
  have h4 : s * (n / s) = n / s * s := Int.mul_comm _ _
  have h5 : 0 ≤ n / s := Int.ediv_nonneg hn (by omega)
  have h6 : 0 ≤ n / s * s := Int.mul_nonneg h5 (by omega)
  omega

theorem call_fair (k : Nat) {l s a h : Int} (F : Fair l s a h) : margin_Rules_Call.f (k + 2) l s a h = some (callOf l s (a - h), 0) := by
  obtain ⟨l0, l1, s0, s1, a0, a1, h0, h1⟩ := F
  have e1 : wrap64 (a - h) = a - h := w_id (by omega) (by omega)
  have e2 : wrap64 (-l) = -l := w_id (by omega) (by omega)
  unfold margin_Rules_Call.f margin_Rules_good.f
  rw [if_pos (show l ≥ 0 from l0), if_pos l1, if_pos (show s ≥ 1 from s0)]
  simp only [s1, decide_true, Option.bind_some, if_true]
  rw [if_neg (by omega), if_neg (by omega), if_neg (by omega)]
  have e3 : decide (h > 1125899906842624) = false := decide_eq_false (by omega)
  rw [e3]
  simp only [margin_Rules_Call.j0, e1, e2]
  rw [if_neg (by simp)]
  have P := up_bd (n := a - h + s - 1) (s := s) s0
  have Q := up_bd (n := -(a - h)) (s := s) s0
  have key : ∀ b : Bool, b = decide (a - h < l ∧ a - h > -l) → margin_Rules_Call.j1 (k + 1) (a - h) b l s = some (callOf l s (a - h), 0) := by
    intro b hb
    subst hb
    simp only [margin_Rules_Call.j1, callOf]
    by_cases c : a - h < l ∧ a - h > -l
    · rw [if_pos (decide_eq_true c), if_pos c]
    · rw [if_neg (by simpa using c), if_neg c]
      have sne : s ≠ 0 := by omega
      by_cases d : a - h > 0
      · rw [if_pos d, if_neg sne, if_pos d]
        obtain ⟨p0, p1, p2⟩ := P (by omega)
        have e4 : wrap64 (a - h + s) = a - h + s := w_id (by omega) (by omega)
        have e5 : wrap64 (a - h + s - 1) = a - h + s - 1 := w_id (by omega) (by omega)
        have e6 : Int.tdiv (a - h + s - 1) s = (a - h + s - 1) / s := Int.tdiv_eq_ediv_of_nonneg (by omega)
        have q0 : 0 ≤ (a - h + s - 1) / s := Int.ediv_nonneg (by omega) (by omega)
        have q1 : (a - h + s - 1) / s ≤ a - h + s - 1 := Int.ediv_le_self _ (by omega)
        have e7 : wrap64 ((a - h + s - 1) / s) = (a - h + s - 1) / s := w_id (by omega) (by omega)
        rw [e4, e5, e6, e7, w_id (by omega) (by omega)]
      · rw [if_neg d, if_neg sne, if_neg d]
        obtain ⟨p0, p1, p2⟩ := Q (by omega)
        have e4 : wrap64 (-(a - h)) = -(a - h) := w_id (by omega) (by omega)
        have e6 : Int.tdiv (-(a - h)) s = (-(a - h)) / s := Int.tdiv_eq_ediv_of_nonneg (by omega)
        have q0 : 0 ≤ (-(a - h)) / s := Int.ediv_nonneg (by omega) (by omega)
        have q1 : (-(a - h)) / s ≤ -(a - h) := Int.ediv_le_self _ (by omega)
        have e7 : wrap64 ((-(a - h)) / s) = (-(a - h)) / s := w_id (by omega) (by omega)
        rw [e4, e6, e7, w_id (x := -(a - h) / s * s) (by omega) (by omega), w_id (by omega) (by omega)]
  by_cases c : a - h < l
  · rw [if_pos c]
    exact key _ (by simp [c])
  · rw [if_neg c]
    exact key _ (by simp [c])

theorem call_low {l s n : Int} (hs : 1 ≤ s) (hn : n ≤ 0) : callOf l s n ≤ 0 := by
  have Q := up_bd (n := -n) (s := s) hs (by omega)
  unfold callOf
  split
  · omega
  · rw [if_neg (by omega)]; omega

theorem call_bad (k : Nat) {l s a h : Int} (F : ¬ Fair l s a h) : margin_Rules_Call.f (k + 2) l s a h = some (0, 1) := by
  unfold margin_Rules_Call.f margin_Rules_good.f
  have key : margin_Rules_Call.j0 (k + 2) a h true l s = some (0, 1) := by simp [margin_Rules_Call.j0]
  by_cases c1 : l ≥ 0
  · rw [if_pos c1]
    by_cases c2 : l ≤ 1125899906842624
    · rw [if_pos c2]
      by_cases c3 : s ≥ 1
      · rw [if_pos c3]
        by_cases c4 : s ≤ 1125899906842624
        · simp only [c4, decide_true, Option.bind_some, if_true]
          by_cases c5 : a < 0
          · rw [if_pos c5]; exact key
          · rw [if_neg c5]
            by_cases c6 : a > 1125899906842624
            · rw [if_pos c6]; exact key
            · rw [if_neg c6]
              by_cases c7 : h < 0
              · rw [if_pos c7]; exact key
              · rw [if_neg c7]
                have c8 : h > 1125899906842624 := by unfold Fair at F; omega
                rw [decide_eq_true c8]; exact key
        · simp only [c4, decide_false, Option.bind_some]; rw [if_neg (by simp)]; exact key
      · rw [if_neg c3]; simp only [Option.bind_some]; rw [if_neg (by simp)]; exact key
    · rw [if_neg c2]; simp only [Option.bind_some]; rw [if_neg (by simp)]; exact key
  · rw [if_neg c1]; simp only [Option.bind_some]; rw [if_neg (by simp)]; exact key

theorem awake_true (k : Nat) : lombardlaw28_awake.f (k + 2) = some true := by
  unfold lombardlaw28_awake.f
  rw [call_fair k (by unfold Fair; omega), call_fair k (by unfold Fair; omega)]
  rfl

theorem wf64 {x : Int} (h : (Lit.int .i64 x).wf = true) : -9223372036854775808 ≤ x ∧ x ≤ 9223372036854775807 := by
  simp only [Lit.wf, IntKind.min, IntKind.max, IntKind.signed, IntKind.bits, Bool.and_eq_true, decide_eq_true_eq, if_true] at h
  omega


end Go.Proofs.Ytbchabgigjjdnaa.PMargin
