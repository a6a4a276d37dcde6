/- CalendarThere: where New makes a calendar the law's printed function answers true. -/
import Derived.Test.YtkdbolhheodfkaaPCalF
import Derived.Test.YtkdbolhheodfkaaX17
namespace Go.Proofs.Ytkdbolhheodfkaa.PCal
open Go Go.RowKit Go.Proofs.Ytkdbolhheodfkaa.X Go.Proofs.YtkdbolhheodfkaaW.PrintWords Go.Proofs.YtkdbolhheodfkaaW.PrintLast Go.Proofs.YtkdbolhheodfkaaW.PrintMore

/-- One step up, and what it tells: nothing is worked on between, and one step down comes back. -/
theorem step_up (W : Int → Bool) {d : Int} (hd : Good d) (hw : W d = true) : (∃ r, stepS W 1 d = (r, 0) ∧ d < r ∧ Good r ∧ W r = true ∧ (∀ z, d < z → z < r → W z = false) ∧ stepS W (-1) r = (d, 0)) ∨ stepS W 1 d = (0, 6) := by
  unfold stepS
  by_cases g : Good (d + 1)
  · rw [if_pos g, if_pos (by omega)]
    rcases nextS_is W g with ⟨r, h1, h2, h3, h4, h5⟩ | h1
    · refine .inl ⟨r, h1, by omega, h3, h4, fun z z1 z2 => h5 z (by omega) z2, ?_⟩
      have gr : Good (r + -1) := by unfold Good at *; omega
      rw [if_pos gr, if_neg (by omega)]
      rcases backS_is W gr with ⟨s, s1, s2, s3, s4, s5⟩ | ⟨s1, s2⟩
      · have : s = d := by
          rcases Int.lt_trichotomy s d with c | c | c
          · have := s5 d c (by omega); rw [hw] at this; cases this
          · exact c
          · have := h5 s (by omega) (by omega); rw [s4] at this; cases this
        rw [s1, this]
      · have := s2 d hd.1 (by omega); rw [hw] at this; cases this
    · exact .inr h1
  · rw [if_neg g]
    exact .inr rfl
theorem steps_last (W : Int → Bool) (b : Int) : ∀ (n : Nat) (d m r : Int), steps W b n d = (m, 0) → stepS W b m = (r, 0) → steps W b (n + 1) d = (r, 0)
  | 0, d, m, r, h, hs => by
    simp only [steps] at h
    obtain ⟨rfl, _⟩ := Prod.mk.inj h
    simp only [steps]
    rw [hs]
    rfl
  | n + 1, d, m, r, h, hs => by
    rw [steps] at h
    by_cases c : (stepS W b d).2 = 0
    · rw [if_pos c] at h
      rw [steps, if_pos c]
      exact steps_last W b n _ m r h hs
    · rw [if_neg c] at h
      exact absurd (Prod.mk.inj h).2 c
theorem steps_up (W : Int → Bool) : ∀ (n : Nat) (d : Int), Good d → W d = true → (∃ r, steps W 1 n d = (r, 0) ∧ d ≤ r ∧ Good r ∧ W r = true ∧ cnt W (r - d).toNat d = n ∧ steps W (-1) n r = (d, 0)) ∨ (steps W 1 n d).2 = 6
  | 0, d, hd, hw => .inl ⟨d, rfl, by omega, hd, hw, by rw [show (d - d).toNat = 0 by omega]; rfl, rfl⟩
  | n + 1, d, hd, hw => by
    rcases step_up W hd hw with ⟨m, m1, m2, m3, m4, m5, m6⟩ | m1
    · have e : steps W 1 (n + 1) d = steps W 1 n m := by rw [steps, m1]; exact if_pos rfl
      rw [e]
      rcases steps_up W n m m3 m4 with ⟨r, r1, r2, r3, r4, r5, r6⟩ | r1
      · refine .inl ⟨r, r1, by omega, r3, r4, ?_, steps_last W (-1) n r m d r6 m6⟩
        rw [show (r - d).toNat = 1 + ((m - d - 1).toNat + (r - m).toNat) by omega, cnt_add, cnt_add]
        rw [show d + ((1 : Nat) : Int) + (((m - d - 1).toNat : Nat) : Int) = m by omega, r5, cnt_none (W := W) (m - d - 1).toNat _ (fun z z1 z2 => m5 z (by omega) (by omega))]
        simp only [cnt, if_pos hw]
        omega
      · exact .inr r1
    · refine .inr ?_
      rw [steps, m1]
      rfl
theorem next_self (W : Int → Bool) {d : Int} (hd : Good d) (hw : W d = true) : nextS W d = (d, 0) := by
  unfold nextS
  rw [if_pos hd]
  unfold Good at hd
  obtain ⟨f, hf⟩ : ∃ f, (200001 - d).toNat = f + 1 := ⟨(200000 - d).toNat, by omega⟩
  rw [hf]
  simp only [up, if_pos hw]
theorem back_self (W : Int → Bool) {d : Int} (hd : Good d) (hw : W d = true) : backS W d = (d, 0) := by
  unfold backS
  rw [if_pos hd]
  unfold Good at hd
  obtain ⟨f, hf⟩ : ∃ f, (d + 1).toNat = f + 1 := ⟨d.toNat, by omega⟩
  rw [hf]
  simp only [down, if_pos hw]
theorem moveS_up (W : Int → Bool) {x b : Int} (b0 : 0 ≤ b) (b1 : b ≤ 3660) (h : nextS W x = (x, 0)) : moveS W x b = steps W 1 b.toNat x := by
  unfold moveS
  simp only [if_neg (show ¬ b < 0 by omega), h, if_true, if_neg (show ¬ (b > 3660 ∨ b < -3660) by omega)]
  rw [show b.natAbs = b.toNat by omega]
theorem moveS_down (W : Int → Bool) {x b : Int} (b0 : 0 < b) (b1 : b ≤ 3660) (h : backS W x = (x, 0)) : moveS W x (-b) = steps W (-1) b.toNat x := by
  unfold moveS
  simp only [if_pos (show -b < 0 by omega), h, if_true, if_neg (show ¬ (-b > 3660 ∨ -b < -3660) by omega)]
  rw [show (-b).natAbs = b.toNat by omega]
theorem there_law {l : List Int} (h : Fine l) (a b : Int) (wa : a ≤ 9223372036854775807) : ∃ k, lombardlaw02_CalendarThere.f k l a b = some true := by
  have aw : Ev (fun k => (lombardlaw02_awake.f k).bind fun t => some t) true := Ev.bind awake_ev (Ev.now _)
  have j1 : 0 ≤ b → b ≤ 60 → Ev (fun k => lombardlaw02_CalendarThere.j1 k a b false (sortedOff l)) true := fun b0 b1 => by
    refine Ev.step (f := fun k => lombardlaw02_CalendarThere.j1 (k + 1) a b false (sortedOff l)) (fun k => rfl) ?_
    simp only [lombardlaw02_CalendarThere.j1, Bool.false_eq_true, if_false, works_eq h, Option.bind_some]
    by_cases c : worksS l a = true
    · simp only [if_pos c]
      have ga := worksS_good c
      have mv := move_ev h a b
      have e : moveS (worksS l) a b = steps (worksS l) 1 b.toNat a := moveS_up _ b0 (by omega) (next_self _ ga c)
      rw [e] at mv
      rcases steps_up (worksS l) b.toNat a ga c with ⟨r, r1, r2, r3, r4, r5, r6⟩ | r1
      · rw [r1] at mv
        refine Ev.bind mv ?_
        simp only [if_true]
        have ew : wrap64 (-b) = -b := w_id (by omega) (by omega)
        have mv2 := move_ev h r (-b)
        have e2 : moveS (worksS l) r (-b) = (a, 0) := by
          by_cases z : b = 0
          · subst z
            rw [Int.neg_zero, moveS_up _ (by omega) (by omega) (next_self _ r3 r4), ← r6]
            rfl
          · rw [moveS_down _ (by omega) (by omega) (back_self _ r3 r4)]
            exact r6
        rw [e2] at mv2
        simp only [ew]
        refine Ev.bind mv2 ?_
        simp only [if_true]
        have ct := count_ev h a r wa (by unfold Good at r3; omega)
        have e3 : countS l a r = b := by
          unfold countS
          have em := mx_eq a 0
          unfold Good at ga r3
          rw [show mx a 0 = a by split at em <;> omega]
          unfold top
          rw [if_pos (by omega), r5]
          omega
        rw [e3] at ct
        refine Ev.bind ct ?_
        simp only [if_true, if_pos r4]
        exact aw
      · generalize steps (worksS l) 1 b.toNat a = q at mv r1
        refine Ev.bind mv ?_
        simp only [r1, if_neg (show ¬ (6 : Int) = 0 by omega), if_true]
        exact aw
    · simp only [if_neg c]
      exact aw
  have j0 : ∀ q, (q = true ∨ 0 ≤ b ∧ b ≤ 60) → Ev (fun k => lombardlaw02_CalendarThere.j0 k a b q (sortedOff l)) true := fun q hq => by
    refine Ev.step (f := fun k => lombardlaw02_CalendarThere.j0 (k + 1) a b q (sortedOff l)) (fun k => rfl) ?_
    simp only [lombardlaw02_CalendarThere.j0]
    cases q with
    | true => simp only [if_true]; exact aw
    | false =>
      obtain ⟨b0, b1⟩ := hq.resolve_left (by simp)
      simp only [Bool.false_eq_true, if_false]
      obtain ⟨r, r1, _, r2⟩ := roll_ev h a
      refine Ev.bind r1 ?_
      by_cases c : r.2 = 0
      · simp only [if_pos c, works_eq h, Option.bind_some, r2 c]
        exact j1 b0 b1
      · simp only [if_neg c]
        exact j1 b0 b1
  apply Ev.rounds
  unfold lombardlaw02_CalendarThere.f
  simp only [new_eq h, Option.bind_some, if_true]
  by_cases c : b < 0
  · simp only [if_pos c]; exact j0 _ (.inl rfl)
  · simp only [if_neg c]
    refine j0 _ ?_
    by_cases c2 : b > 60
    · exact .inl (decide_eq_true c2)
    · exact .inr ⟨by omega, by omega⟩
end Go.Proofs.Ytkdbolhheodfkaa.PCal
