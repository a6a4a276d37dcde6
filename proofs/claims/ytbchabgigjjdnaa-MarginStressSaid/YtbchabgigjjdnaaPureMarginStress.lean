/- MarginStress: the law's printed function answers true at all marks and shocks. No condition. -/
import Derived.Test.YtbchabgigjjdnaaPMargin
import Derived.Test.YtbchabgigjjdnaaPFixB
import Derived.Test.YtbchabgigjjdnaaOpenMarginStress
namespace Go.Proofs.Ytbchabgigjjdnaa.Pure
open Go Go.RowKit Go.Proofs.Ytbchabgigjjdnaa.XS Go.Proofs.YtbchabgigjjdnaaW.PrintWords Go.Proofs.YtbchabgigjjdnaaW.PrintLast Go.Proofs.YtbchabgigjjdnaaW.PrintMore Go.Proofs.Ytbchabgigjjdnaa.PMargin Go.Proofs.Ytbchabgigjjdnaa.MDS

def In (x : Int) : Prop := -9223372036854775808 ≤ x ∧ x ≤ 9223372036854775807
instance (x : Int) : Decidable (In x) := by unfold In; infer_instance
abbrev Ls := List S102

theorem minus_fix {a b : Int} (ha : In a) (hb : In b) : fixnum_Minus.f a b = some (if In (a - b) then (a - b, 0) else (0, 9)) := by
  unfold In at ha hb
  have hw : (-9223372036854775808 ≤ a - b ∧ a - b ≤ 9223372036854775807 ∧ wrap64 (a - b) = a - b) ∨ (9223372036854775807 < a - b ∧ wrap64 (a - b) = a - b - 18446744073709551616) ∨ (a - b < -9223372036854775808 ∧ wrap64 (a - b) = a - b + 18446744073709551616) := by unfold wrap64; omega
  unfold fixnum_Minus.f
  by_cases c : In (a - b)
  · have e : wrap64 (a - b) = a - b := w_id c.1 c.2
    rw [if_pos c, e]
    unfold In at c
    repeat' split
    all_goals first | rfl | (exfalso; omega)
  · rw [if_neg c]
    unfold In at c
    repeat' split
    all_goals first | rfl | (exfalso; omega)

theorem md_floor {a b : Int} (a0 : 0 ≤ a) (a1 : a ≤ 9223372036854775807) (b0 : 0 ≤ b) (b1 : b ≤ 1000000) : mulDivS a b 1000000 1 = (a * b / 1000000, 0) := by
  unfold mulDivS
  rw [if_neg (by omega)]
  have m : minusOf a b 1000000 = false := by
    unfold minusOf
    rw [decide_eq_false (show ¬ a < 0 by omega), decide_eq_false (show ¬ b < 0 by omega)]
    rfl
  have e1 : (a.natAbs : Int) * b.natAbs = a * b := by rw [show (a.natAbs : Int) = a by omega, show (b.natAbs : Int) = b by omega]
  have e2 : ((1000000 : Int).natAbs : Int) = 1000000 := rfl
  simp only [m, e1, e2]
  have up0 : upOf false (a * b / 1000000) (a * b % 1000000) 1000000 1 = false := by
    unfold upOf
    split <;> rfl
  have h : a * b ≤ a * 1000000 := Int.mul_le_mul_of_nonneg_left b1 a0
  have q1 : a * b / 1000000 ≤ a := by
    have := Int.ediv_le_ediv (c := 1000000) (by omega) h
    rw [Int.mul_ediv_cancel _ (by omega)] at this
    exact this
  rw [up0]
  simp only [Bool.false_eq_true, if_false, Int.add_zero]
  unfold signOf
  rw [if_neg (by simp; omega)]
  rfl

def coverS (c s : Int) : Int := c * (1000000 - s) / 1000000
theorem cover_bd {c s : Int} (c0 : 0 ≤ c) (s0 : 0 ≤ s) (s1 : s ≤ 1000000) : 0 ≤ coverS c s ∧ coverS c s ≤ c := by
  unfold coverS
  have h : c * (1000000 - s) ≤ c * 1000000 := Int.mul_le_mul_of_nonneg_left (by omega) c0
  refine ⟨Int.ediv_nonneg (Int.mul_nonneg c0 (by omega)) (by omega), ?_⟩
  have := Int.ediv_le_ediv (c := 1000000) (by omega) h
  rw [Int.mul_ediv_cancel _ (by omega)] at this
  exact this
theorem cover_mono {c s t : Int} (c0 : 0 ≤ c) (h : s ≤ t) : coverS c t ≤ coverS c s := by
  unfold coverS
  exact Int.ediv_le_ediv (by omega) (Int.mul_le_mul_of_nonneg_left (by omega) c0)

def stressS (f0 f1 f2 f3 : Int) (l : Ls) (s : Int) : Int × Int × Int × Int × Int × Ls × Int :=
  if s < 0 ∨ 1000000 < s ∨ f3 < 0 then (0, 0, 0, 0, 0, [], 1)
  else if In (f2 - coverS f3 s) then (f0, f1, f2, coverS f3 s, f2 - coverS f3 s, l, 0) else (0, 0, 0, 0, 0, [], 9)

theorem stressed_ev (f0 f1 : Int) {f2 f3 : Int} (f4 : Int) (l : Ls) (s : Int) (h2 : In f2) (h3 : In f3) : Ev (fun k => margin_Mark_Stressed.f k f0 f1 f2 f3 f4 l s) (stressS f0 f1 f2 f3 l s) := by
  have bad : Ev (fun k => margin_Mark_Stressed.j0 k s true f0 f1 f2 f3 f4 l) (0, 0, 0, 0, 0, [], 1) :=
    Ev.step (f := fun _ => some (0, 0, 0, 0, 0, [], 1)) (fun k => by simp only [margin_Mark_Stressed.j0]; rw [if_pos trivial]) (Ev.now _)
  unfold margin_Mark_Stressed.f stressS
  by_cases c1 : s < 0
  · simp only [if_pos c1]; rw [if_pos (.inl c1)]; exact bad
  simp only [if_neg c1]
  by_cases c2 : s > 1000000
  · simp only [if_pos c2]; rw [if_pos (.inr (.inl c2))]; exact bad
  simp only [if_neg c2]
  by_cases c3 : f3 < 0
  · rw [decide_eq_true c3, if_pos (.inr (.inr c3))]; exact bad
  rw [decide_eq_false c3, if_neg (by omega)]
  have ms := PFix.muldiv_ev (how := 1) h3.1 h3.2 (b := 1000000 - s) (by omega) (by omega) (c := 1000000) (by omega) (by omega)
  rw [md_floor (by omega) h3.2 (by omega) (by omega)] at ms
  obtain ⟨b0, b1⟩ := cover_bd (c := f3) (s := s) (by omega) (by omega) (by omega)
  have mn := minus_fix h2 (show In (coverS f3 s) by unfold In at h3 ⊢; omega)
  refine Ev.step (fun k => by simp only [margin_Mark_Stressed.j0, w_id (x := 1000000 - s) (by omega) (by omega)]; rw [if_neg (by simp)]) (Ev.bind ms ?_)
  simp only [if_true]
  unfold coverS at mn ⊢
  rw [mn]
  simp only [Option.bind_some]
  by_cases c : In (f2 - f3 * (1000000 - s) / 1000000)
  · simp only [if_pos c, if_true]; exact Ev.now _
  · simp only [if_neg c]; rw [if_neg (by decide)]; exact Ev.now _

theorem awake_ev : Ev (fun k => lombardlaw28_awake.f k) true := ⟨2, fun k hk => by obtain ⟨m, rfl⟩ : ∃ m, k = m + 2 := ⟨k - 2, by omega⟩; exact awake_true m⟩

theorem marks_one (x : S53) : Ev (fun k => lombardlaw28_marks.f k [x]) [(⟨x.f0, x.f1, x.f2, x.f3, x.f4, x.f5⟩ : S54)] := by
  refine ⟨2, fun k hk => ?_⟩
  obtain ⟨m, rfl⟩ : ∃ m, k = m + 2 := ⟨k - 2, by omega⟩
  show lombardlaw28_marks.l0 (m + 2) [x] [] 0 = _
  simp [lombardlaw28_marks.l0, rd_T53, wrap64]

theorem law_ev (f0 f1 f2 f3 f4 : Int) (l : Ls) (a b : Int) (h2 : In f2) (h3 : In f3) (ab : a ≤ b) : Ev (fun k => lombardlaw28_MarginStress.j0 k a b f0 f1 f2 f3 f4 l) true := by
  refine Ev.step (f := fun k => lombardlaw28_MarginStress.j0 (k + 1) a b f0 f1 f2 f3 f4 l) (fun k => rfl) ?_
  simp only [lombardlaw28_MarginStress.j0]
  refine Ev.bind (marks_one _) ?_
  have e : rd_T54 [(⟨f0, f1, f2, f3, f4, l⟩ : S54)] 0 = ⟨f0, f1, f2, f3, f4, l⟩ := rfl
  have one : (0 : Int) < (([(⟨f0, f1, f2, f3, f4, l⟩ : S54)] : List S54).length : Int) := by simp
  simp only [e, if_pos one]
  have pa := stressed_ev f0 f1 f4 l a h2 h3
  have pb := stressed_ev f0 f1 f4 l b h2 h3
  have aw : ∀ x0 x1 x2 x3 x4 x5 x6 x7 x8 x9 x10 x11 x12 x13 x14 x15 x16 x17, Ev (fun k => lombardlaw28_MarginStress.j1 k true x0 x1 x2 x3 x4 x5 x6 x7 x8 x9 x10 x11 x12 x13 x14 x15 x16 x17) true := by
    intros
    exact Ev.step (f := fun k => (lombardlaw28_awake.f k).bind fun t => some t) (fun k => by simp only [lombardlaw28_MarginStress.j1]; rw [if_pos trivial]) (Ev.bind awake_ev (Ev.now _))
  refine Ev.bind pa (Ev.bind pb ?_)
  unfold stressS
  by_cases c1 : a < 0 ∨ 1000000 < a ∨ f3 < 0
  · rw [if_pos c1]; simp only [if_neg (show ¬ ((1 : Int) = 0) by decide)]; exact aw ..
  rw [if_neg c1]
  by_cases c2 : In (f2 - coverS f3 a)
  · rw [if_pos c2]
    simp only [if_true]
    by_cases d1 : b < 0 ∨ 1000000 < b ∨ f3 < 0
    · rw [if_pos d1]; exact aw ..
    rw [if_neg d1]
    by_cases d2 : In (f2 - coverS f3 b)
    · rw [if_pos d2]
      have m := cover_mono (c := f3) (by omega) ab
      obtain ⟨b0, b1⟩ := cover_bd (c := f3) (s := b) (by omega) (by omega) (by omega)
      refine Ev.step (f := fun k => (lombardlaw28_awake.f k).bind fun t => some t) (fun k => ?_) (Ev.bind awake_ev (Ev.now _))
      simp only [lombardlaw28_MarginStress.j1]
      rw [if_neg (by simp), if_pos (by omega), if_pos (by omega), if_pos (by omega), if_pos trivial]
    · rw [if_neg d2]; exact aw ..
  · rw [if_neg c2]; simp only [if_neg (show ¬ ((9 : Int) = 0) by decide)]; exact aw ..

theorem MarginStress : Go.Proofs.Ytbchabgigjjdnaa.XS.MarginStress.Pure := by
  intro f0 f1 f2 f3 f4 l a b h0 h1 h2 h3 h4 hl ha hb
  apply Ev.rounds
  unfold lombardlaw28_MarginStress.f
  by_cases c : a > b
  · simp only [if_pos c]; exact law_ev f0 f1 f2 f3 f4 l b a (wf64 h2) (wf64 h3) (by omega)
  · simp only [if_neg c]; exact law_ev f0 f1 f2 f3 f4 l a b (wf64 h2) (wf64 h3) (by omega)
end Go.Proofs.Ytbchabgigjjdnaa.Pure
