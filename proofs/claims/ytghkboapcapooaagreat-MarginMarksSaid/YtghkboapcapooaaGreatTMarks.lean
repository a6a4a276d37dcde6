/- What a trade needs, what its lots cover, what is lacking, and under stress: the program's and the reference's; MarginMarks' law. -/
import Derived.Test.YtghkboapcapooaaGreatTTot
import Derived.Test.YtghkboapcapooaaGreatTOwedB
set_option linter.unusedVariables false
set_option linter.unusedSimpArgs false
namespace Go.Proofs.YtghkboapcapooaaGreat.Pure
open Go Go.Ab Go.Stable Go.Proofs.YtghkboapcapooaaGreat.R
set_option linter.unusedVariables false
/-! Minus. -/
theorem wHi {x : Int} (h1 : 9223372036854775808 ≤ x) (h2 : x ≤ 18446744073709551615) : IntKind.wrap .i64 x < 0 := by
  simp [IntKind.wrap, IntKind.bits, IntKind.signed]; omega
theorem wLo {x : Int} (h1 : x ≤ -9223372036854775809) (h2 : -18446744073709551615 ≤ x) : 0 ≤ IntKind.wrap .i64 x := by
  simp [IntKind.wrap, IntKind.bits, IntKind.signed]; omega
def minS (a b : Int) : Int × Int := if -9223372036854775808 ≤ a - b ∧ a - b ≤ 9223372036854775807 then (a - b, 0) else (0, 9)
theorem FMinus_r {a b : Int} (a0 : -9223372036854775808 ≤ a ∧ a ≤ 9223372036854775807) (b0 : -9223372036854775808 ≤ b ∧ b ≤ 9223372036854775807) : fixnum_Minus_r a b (minS a b) := by
  refine fixnum_Minus_of ?_
  unfold fixnum_Minus_w minS
  by_cases h : -9223372036854775808 ≤ a - b ∧ a - b ≤ 9223372036854775807
  · rw [if_pos h, iw (a - b) h.1 h.2]
    repeat' first
      | exact Rt.i rfl
      | refine Br.i (fun c => ?_) (fun c => ?_)
    all_goals exfalso; omega
  · rw [if_neg h]
    by_cases k : 9223372036854775808 ≤ a - b
    · have w := wHi k (by omega)
      exact Br.pos (by omega) (Br.pos (by omega) (Br.pos w (Rt.i rfl)))
    · have w := wLo (x := a - b) (by omega) (by omega)
      exact Br.neg (by omega) (Br.pos (by omega) (Br.pos (by omega) (Br.pos w (Rt.i rfl))))
theorem RMinus_r {a b : Int} (a0 : -9223372036854775808 ≤ a ∧ a ≤ 9223372036854775807) (b0 : -9223372036854775808 ≤ b ∧ b ≤ 9223372036854775807) : lombardref01_Minus_r a b (minS a b) := by
  refine lombardref01_Minus_of ?_
  unfold lombardref01_Minus_w minS
  by_cases h : -9223372036854775808 ≤ a - b ∧ a - b ≤ 9223372036854775807
  · rw [if_pos h]
    repeat' first
      | exact Rt.i rfl
      | refine Num.n (by omega) ?_
      | refine Br.i (fun c => ?_) (fun c => ?_)
    all_goals exfalso; omega
  · rw [if_neg h]
    repeat' first
      | exact Rt.i rfl
      | refine Num.n (by omega) ?_
      | refine Br.i (fun c => ?_) (fun c => ?_)
    all_goals exfalso; omega
theorem owed_bd {t : api_Trade} {day : Int} (ha : 1 ≤ t.Amount ∧ t.Amount ≤ 1125899906842624) : -30000000000000000 ≤ (owedS t day).1 ∧ (owedS t day).1 ≤ 30000000000000000 := by
  have bb := btw_bd (a := t.Amount) (l := t.Resets) (fr := t.Start) (to := untilS t day)
  unfold owedS
  split
  · exact ⟨by show -30000000000000000 ≤ (0 : Int); decide, by show (0 : Int) ≤ 30000000000000000; decide⟩
  · split
    · exact ⟨by show -30000000000000000 ≤ (0 : Int); decide, by show (0 : Int) ≤ 30000000000000000; decide⟩
    · exact ⟨by show _ ≤ t.Amount + _; omega, by show t.Amount + _ ≤ _; omega⟩
theorem trade_amt {t : api_Trade} (h : tradeS t = 0) : 1 ≤ t.Amount ∧ t.Amount ≤ 1125899906842624 := by
  unfold tradeS at h
  by_cases c : ¬ GoodT t
  · rw [if_pos c] at h; cases h
  rw [if_neg c] at h
  by_cases c1 : t.Side = 1 ∧ t.Twin ≠ t.ID + 1
  · rw [if_pos c1] at h; cases h
  rw [if_neg c1] at h
  by_cases c2 : t.Side = 2 ∧ t.Twin ≠ t.ID - 1
  · rw [if_pos c2] at h; cases h
  rw [if_neg c2] at h
  unfold tradeR at h
  by_cases c3 : resS t.Resets ≠ 0
  · rw [if_pos c3] at h; exact absurd h c3
  rw [if_neg c3] at h
  have ne := (resS_ok (Decidable.not_not.1 c3)).ne
  cases hr : t.Resets with
  | nil => exact absurd hr ne
  | cons x l =>
    rw [hr] at h
    have h : (if x.Day ≠ t.Start then 10 else if inS t.Member 1 32 = false then 22 else termsS t.Basket t.Amount x.Rate t.Start t.End) = 0 := h
    by_cases c4 : x.Day ≠ t.Start
    · rw [if_pos c4] at h; cases h
    rw [if_neg c4] at h
    by_cases c5 : inS t.Member 1 32 = false
    · rw [if_pos c5] at h; cases h
    rw [if_neg c5] at h
    unfold termsS at h
    by_cases c6 : ¬ ((1 ≤ t.Basket ∧ t.Basket ≤ 64) ∧ (1 ≤ t.Amount ∧ t.Amount ≤ 1125899906842624) ∧ -1000000 ≤ x.Rate ∧ x.Rate ≤ 1000000)
    · rw [if_pos c6] at h; cases h
    exact (Decidable.not_not.1 c6).2.1
/-! The mark. -/
abbrev Mk := lombardref28_Mark
def toM (m : Mk) : margin_Mark := ⟨m.Trade, m.Member, m.Need, m.Cover, m.Gap, m.Out⟩
def zM : Mk := ⟨0, 0, 0, 0, 0, []⟩
def two (p : Mk × Int) : margin_Mark × Int := (toM p.1, p.2)
def inM (r : List KN) (b : api_Basket) (day : Int) (l : List api_Lot) : List lombardref15_Item := (isort leE (inL r b day l)).map toR
def ofM (r : List KN) (b : api_Basket) (c : lombardref25_Covered) (day : Int) : Mk × Int :=
  if tradeS c.Trade ≠ 0 then (zM, tradeS c.Trade) else if (checkG c.Lots).2 ≠ 0 then (zM, (checkG c.Lots).2) else if b.ID ≠ c.Trade.Basket then (zM, 1) else if (owedS c.Trade day).2 ≠ 0 then (zM, (owedS c.Trade day).2) else if (totH (inM r b day c.Lots)).2 ≠ 0 then (zM, (totH (inM r b day c.Lots)).2) else if (minS (owedS c.Trade day).1 (totH (inM r b day c.Lots)).1).2 ≠ 0 then (zM, (minS (owedS c.Trade day).1 (totH (inM r b day c.Lots)).1).2) else (⟨c.Trade.ID, c.Trade.Member, (owedS c.Trade day).1, (totH (inM r b day c.Lots)).1, (minS (owedS c.Trade day).1 (totH (inM r b day c.Lots)).1).1, outL r b day c.Lots⟩, 0)
theorem totH_bd (l : List lombardref15_Item) : 0 ≤ (totH l).1 ∧ (totH l).1 ≤ 9223372036854775807 := by
  have := sumC_nn l
  unfold totH; split
  · exact ⟨this, by assumption⟩
  · exact ⟨by decide, by decide⟩
section
variable {r : List KN} {b : api_Basket} {c : lombardref25_Covered} {day : Int}
abbrev cov (r : List KN) (b : api_Basket) (c : lombardref25_Covered) (day : Int) : Int × Int := totH (inM r b day c.Lots)
abbrev gap (r : List KN) (b : api_Basket) (c : lombardref25_Covered) (day : Int) : Int × Int := minS (owedS c.Trade day).1 (cov r b c day).1
theorem of1 (c1 : tradeS c.Trade ≠ 0) : (zM, tradeS c.Trade) = ofM r b c day := by unfold ofM; rw [if_pos c1]
theorem of2 (c1 : ¬ tradeS c.Trade ≠ 0) (c2 : (checkG c.Lots).2 ≠ 0) : (zM, (checkG c.Lots).2) = ofM r b c day := by unfold ofM; rw [if_neg c1, if_pos c2]
theorem of3 (c1 : ¬ tradeS c.Trade ≠ 0) (c2 : ¬ (checkG c.Lots).2 ≠ 0) (c3 : b.ID ≠ c.Trade.Basket) : (zM, 1) = ofM r b c day := by unfold ofM; rw [if_neg c1, if_neg c2, if_pos c3]
theorem of4 (c1 : ¬ tradeS c.Trade ≠ 0) (c2 : ¬ (checkG c.Lots).2 ≠ 0) (c3 : ¬ b.ID ≠ c.Trade.Basket) (c4 : (owedS c.Trade day).2 ≠ 0) : (zM, (owedS c.Trade day).2) = ofM r b c day := by unfold ofM; rw [if_neg c1, if_neg c2, if_neg c3, if_pos c4]
theorem of5 (c1 : ¬ tradeS c.Trade ≠ 0) (c2 : ¬ (checkG c.Lots).2 ≠ 0) (c3 : ¬ b.ID ≠ c.Trade.Basket) (c4 : ¬ (owedS c.Trade day).2 ≠ 0) (c5 : (cov r b c day).2 ≠ 0) : (zM, (cov r b c day).2) = ofM r b c day := by unfold ofM; rw [if_neg c1, if_neg c2, if_neg c3, if_neg c4, if_pos c5]
theorem of6 (c1 : ¬ tradeS c.Trade ≠ 0) (c2 : ¬ (checkG c.Lots).2 ≠ 0) (c3 : ¬ b.ID ≠ c.Trade.Basket) (c4 : ¬ (owedS c.Trade day).2 ≠ 0) (c5 : ¬ (cov r b c day).2 ≠ 0) (c6 : (gap r b c day).2 ≠ 0) : (zM, (gap r b c day).2) = ofM r b c day := by unfold ofM; rw [if_neg c1, if_neg c2, if_neg c3, if_neg c4, if_neg c5, if_pos c6]
theorem of7 (c1 : ¬ tradeS c.Trade ≠ 0) (c2 : ¬ (checkG c.Lots).2 ≠ 0) (c3 : ¬ b.ID ≠ c.Trade.Basket) (c4 : ¬ (owedS c.Trade day).2 ≠ 0) (c5 : ¬ (cov r b c day).2 ≠ 0) (c6 : ¬ (gap r b c day).2 ≠ 0) : (⟨c.Trade.ID, c.Trade.Member, (owedS c.Trade day).1, (cov r b c day).1, (gap r b c day).1, outL r b day c.Lots⟩, 0) = ofM r b c day := by unfold ofM; rw [if_neg c1, if_neg c2, if_neg c3, if_neg c4, if_neg c5, if_neg c6]
theorem MOf_r (hq : Fine r) (hb : Rules b) (hl : c.Lots.length ≤ 80) (hr : c.Trade.Resets.length ≤ 80) : margin_Of_r (bk r) b ⟨c.Trade, c.Lots⟩ day (two (ofM r b c day)) := by
  refine margin_Of_of ?_
  unfold margin_Of_w
  refine ⟨_, Check_tr (by show c.Trade.Resets.length ≤ _; omega), Br.i (fun c1 => Rt.i (congrArg two (of1 c1))) (fun c1 => ?_)⟩
  refine ⟨_, LCheck_r (by show c.Lots.length ≤ _; omega), Br.i (fun c2 => Rt.i (congrArg two (of2 c1 c2))) (fun c2 => Br.i (fun c3 => Rt.i (congrArg two (of3 c1 c2 c3))) (fun c3 => ?_))⟩
  have am := trade_amt (Decidable.not_not.1 c1)
  have ob := owed_bd (t := c.Trade) (day := day) am
  have tb := totH_bd (inM r b day c.Lots)
  have o1 : -9223372036854775808 ≤ (owedS c.Trade day).1 ∧ (owedS c.Trade day).1 ≤ 9223372036854775807 := by omega
  have t1 : -9223372036854775808 ≤ (totH (inM r b day c.Lots)).1 ∧ (totH (inM r b day c.Lots)).1 ≤ 9223372036854775807 := by omega
  have len := in_out (r := r) (b := b) (day := day) c.Lots
  have e : (isort leE (inL r b day c.Lots)) = (inM r b day c.Lots).map toH := (toH_toR _).symm
  have il : (inM r b day c.Lots).length ≤ 1000 := by unfold inM; rw [List.length_map, isort_len]; omega
  have ht := Total_r il
  rw [← e] at ht
  exact ⟨_, Owed_r (by show c.Trade.Resets.length ≤ _; omega) am, Br.i (fun c4 => Rt.i (congrArg two (of4 c1 c2 c3 c4))) (fun c4 => ⟨_, Eligible_r hq hb (by show c.Lots.length ≤ _; omega), _, ht, Br.i (fun c5 => Rt.i (congrArg two (of5 c1 c2 c3 c4 c5))) (fun c5 => ⟨_, FMinus_r o1 t1, Br.i (fun c6 => Rt.i (congrArg two (of6 c1 c2 c3 c4 c5 c6))) (fun c6 => Rt.i (congrArg two (of7 c1 c2 c3 c4 c5 c6)))⟩)⟩)⟩
theorem ROf_m (hq : Fine r) (hb : Rules b) (hl : c.Lots.length ≤ 80) (hr : c.Trade.Resets.length ≤ 80) : lombardref28_Of_r r b c day (ofM r b c day) := by
  refine lombardref28_Of_of ?_
  unfold lombardref28_Of_w
  refine ⟨_, RCheck_tr (by omega), Br.i (fun c1 => Rt.i (of1 c1)) (fun c1 => ?_)⟩
  refine ⟨_, RCheck17_r (by omega), Br.i (fun c2 => Rt.i (of2 c1 c2)) (fun c2 => Br.i (fun c3 => Rt.i (of3 c1 c2 c3)) (fun c3 => ?_))⟩
  have am := trade_amt (Decidable.not_not.1 c1)
  have ob := owed_bd (t := c.Trade) (day := day) am
  have tb := totH_bd (inM r b day c.Lots)
  have o1 : -9223372036854775808 ≤ (owedS c.Trade day).1 ∧ (owedS c.Trade day).1 ≤ 9223372036854775807 := by omega
  have t1 : -9223372036854775808 ≤ (totH (inM r b day c.Lots)).1 ∧ (totH (inM r b day c.Lots)).1 ≤ 9223372036854775807 := by omega
  have len := in_out (r := r) (b := b) (day := day) c.Lots
  have il : (inM r b day c.Lots).length ≤ 1000 := by unfold inM; rw [List.length_map, isort_len]; omega
  exact ⟨_, ROwed_r (by omega) am, Br.i (fun c4 => Rt.i (of4 c1 c2 c3 c4)) (fun c4 => ⟨_, REligible_r hq hb (by omega), _, RTotal_r il, Br.i (fun c5 => Rt.i (of5 c1 c2 c3 c4 c5)) (fun c5 => ⟨_, RMinus_r o1 t1, Br.i (fun c6 => Rt.i (of6 c1 c2 c3 c4 c5 c6)) (fun c6 => Rt.i (of7 c1 c2 c3 c4 c5 c6))⟩)⟩)⟩
end
structure MOk (m : Mk) : Prop where
  cov : 0 ≤ m.Cover ∧ m.Cover ≤ 9223372036854775807
  need : -9223372036854775808 ≤ m.Need ∧ m.Need ≤ 9223372036854775807
  out : m.Out.length ≤ 80
theorem zM_ok : MOk zM := ⟨⟨by decide, by decide⟩, ⟨by decide, by decide⟩, by decide⟩
theorem ofM_ok (r : List KN) (b : api_Basket) {c : lombardref25_Covered} (day : Int) (hl : c.Lots.length ≤ 80) : MOk (ofM r b c day).1 := by
  unfold ofM
  split
  · exact zM_ok
  rename_i c1
  have ob := owed_bd (t := c.Trade) (day := day) (trade_amt (Decidable.not_not.1 c1))
  have len := in_out (r := r) (b := b) (day := day) c.Lots
  split
  · exact zM_ok
  split
  · exact zM_ok
  split
  · exact zM_ok
  split
  · exact zM_ok
  split
  · exact zM_ok
  · exact ⟨totH_bd _, by show _ ≤ (owedS c.Trade day).1 ∧ (owedS c.Trade day).1 ≤ _; omega, by show (outL r b day c.Lots).length ≤ 80; omega⟩
/-! Under stress. -/
def strS (m : Mk) (k : Int) : Mk × Int := if k < 0 then (zM, 1) else if 1000000 < k then (zM, 1) else if m.Cover < 0 then (zM, 1) else if (minS m.Need (m.Cover * (1000000 - k) / 1000000)).2 ≠ 0 then (zM, (minS m.Need (m.Cover * (1000000 - k) / 1000000)).2) else (⟨m.Trade, m.Member, m.Need, m.Cover * (1000000 - k) / 1000000, (minS m.Need (m.Cover * (1000000 - k) / 1000000)).1, m.Out⟩, 0)
theorem part_bd {a k : Int} (ha : 0 ≤ a ∧ a ≤ 9223372036854775807) (h0 : 0 ≤ k) (h1 : k ≤ 1000000) : 0 ≤ a * (1000000 - k) / 1000000 ∧ a * (1000000 - k) / 1000000 ≤ 9223372036854775807 := by
  have h2 : 0 ≤ a * (1000000 - k) := Int.mul_nonneg ha.1 (by omega)
  have h3 : a * (1000000 - k) ≤ a * 1000000 := Int.mul_le_mul_of_nonneg_left (by omega) ha.1
  omega
theorem Str_r {m : Mk} (h : MOk m) (k : Int) (hk : -9223372036854775808 ≤ k ∧ k ≤ 9223372036854775807) : _margin_Mark_Stressed_r (toM m) k (two (strS m k)) := by
  refine _margin_Mark_Stressed_of ?_
  unfold _margin_Mark_Stressed_w
  refine Br.i (fun c1 => Rt.i (congrArg two (show (zM, 1) = strS m k from (if_pos c1).symm))) (fun c1 => Br.i (fun c2 => Rt.i (congrArg two (show (zM, 1) = strS m k from ?_))) (fun c2 => Br.i (fun c3 => absurd h.cov.1 (Int.not_le.2 c3)) (fun c3 => Num.n (by omega) ?_)))
  · unfold strS; rw [if_neg c1, if_pos c2]
  have pb := part_bd h.cov (Int.not_lt.1 c1) (Int.not_lt.1 c2)
  have md := MulDiv_r (how := 1) (a := m.Cover) (b := 1000000 - k) (c := 1000000) ⟨by have := h.cov; omega, h.cov.2⟩ ⟨by omega, by omega⟩ ⟨by decide, by decide⟩
  rw [mulDiv1 h.cov.1 (by omega) pb.2] at md
  refine ⟨_, md, Br.t rfl ⟨_, FMinus_r h.need ⟨by show _ ≤ m.Cover * (1000000 - k) / 1000000; omega, pb.2⟩, Br.i (fun c4 => Rt.i (congrArg two (show (zM, (minS m.Need (m.Cover * (1000000 - k) / 1000000)).2) = strS m k from ?_))) (fun c4 => Rt.i (congrArg two (show (⟨m.Trade, m.Member, m.Need, m.Cover * (1000000 - k) / 1000000, (minS m.Need (m.Cover * (1000000 - k) / 1000000)).1, m.Out⟩, 0) = strS m k from ?_)))⟩⟩
  · unfold strS; rw [if_neg c1, if_neg c2, if_neg c3]; exact (if_pos c4).symm
  · unfold strS; rw [if_neg c1, if_neg c2, if_neg c3]; exact (if_neg c4).symm
theorem RStr_r {m : Mk} (h : MOk m) (k : Int) (hk : -9223372036854775808 ≤ k ∧ k ≤ 9223372036854775807) : lombardref28_Stressed_r m k (strS m k) := by
  refine lombardref28_Stressed_of ?_
  unfold lombardref28_Stressed_w
  refine Br.i (fun c1 => Rt.i (show (zM, 1) = strS m k from (if_pos c1).symm)) (fun c1 => Br.i (fun c2 => Rt.i (show (zM, 1) = strS m k from ?_)) (fun c2 => Br.i (fun c3 => absurd h.cov.1 (Int.not_le.2 c3)) (fun c3 => Num.n (by omega) ?_)))
  · unfold strS; rw [if_neg c1, if_pos c2]
  have pb := part_bd h.cov (Int.not_lt.1 c1) (Int.not_lt.1 c2)
  have md := RMulDiv_r (how := 1) (a := m.Cover) (b := 1000000 - k) (c := 1000000) ⟨by have := h.cov; omega, h.cov.2⟩ ⟨by omega, by omega⟩ ⟨by decide, by decide⟩
  rw [mulDiv1 h.cov.1 (by omega) pb.2] at md
  refine ⟨_, md, _, RMinus_r h.need ⟨by show _ ≤ m.Cover * (1000000 - k) / 1000000; omega, pb.2⟩, Br.i (fun c4 => Rt.i (show (zM, (minS m.Need (m.Cover * (1000000 - k) / 1000000)).2) = strS m k from ?_)) (fun c4 => Rt.i (show (⟨m.Trade, m.Member, m.Need, m.Cover * (1000000 - k) / 1000000, (minS m.Need (m.Cover * (1000000 - k) / 1000000)).1, m.Out⟩, 0) = strS m k from ?_))⟩
  · unfold strS; rw [if_neg c1, if_neg c2, if_neg c3]; exact (if_pos c4).symm
  · unfold strS; rw [if_neg c1, if_neg c2, if_neg c3]; exact (if_neg c4).symm
theorem strS_out {m : Mk} (h : MOk m) (k : Int) : (strS m k).1.Out.length ≤ 80 := by
  unfold strS
  split
  · exact zM_ok.out
  split
  · exact zM_ok.out
  split
  · exact zM_ok.out
  split
  · exact zM_ok.out
  · exact h.out
theorem same28 {m : Mk} (h : m.Out.length ≤ 80) : lombardlaw28_same_r (toM m) m true := by
  refine lombardlaw28_same_of ?_
  unfold lombardlaw28_same_w
  exact Br.pos rfl (Br.pos rfl (Br.pos rfl (Br.pos rfl (Br.pos rfl ⟨_, Lots_r (by show m.Out.length ≤ _; omega), Rt.i rfl⟩))))
/-! The book. -/
theorem book_l {w : lombardlaw28_World} : ∀ (n i : Nat) (r : List KN), n + i = min w.Known.length 40 → Fine r → r.length ≤ i → ∃ q, Fine q ∧ ∀ Q : (List KN) × Bool × (List api_Asset) × (List Int) → Prop, Q (q, true, q.map (·.A), q.map (·.Price)) → lombardlaw28_book_L0 w Q r (i : Int) true (r.map (·.A)) (r.map (·.Price)) := by
  intro n
  induction n with
  | zero =>
    intro i r hn hf hr
    refine ⟨r, hf, fun Q q => ?_⟩
    refine lombardlaw28_book_l0 ?_
    unfold lombardlaw28_book_w0
    rw [lenM_eq]
    exact Br.i (fun c1 => Br.neg (by omega) (Lf.i q)) (fun _ => Lf.i q)
  | succ n ih =>
    intro i r hn hf hr
    have hi : i < w.Known.length := by omega
    have g : w.Known[(i : Int).toNat]? = some w.Known[i] := by simp [hi]
    obtain ⟨r', e, h1, h2, h3, h4, h5⟩ := Add_both hf.1 (by omega) w.Known[i]
    obtain ⟨q, hq, k⟩ := ih (i + 1) r' (by omega) ⟨h3, by omega, fun y hy => by
      rcases h5 y hy with h | ⟨h, k⟩
      · exact hf.2.2 y h
      · rw [h]; exact k⟩ (by omega)
    refine ⟨q, hq, fun Q hQ => ?_⟩
    refine lombardlaw28_book_l0 ?_
    unfold lombardlaw28_book_w0
    rw [lenM_eq]
    exact Br.pos (by omega) (Br.pos (by omega) ⟨w.Known[i], Got.i ⟨_, h1, Got.i ⟨_, h2, Num.n (by omega) (k Q hQ)⟩ (by omega) g⟩ (by omega) g⟩)
theorem book_r (w : lombardlaw28_World) : ∃ q, Fine q ∧ lombardlaw28_book_r w (bk q, q) := by
  obtain ⟨r, hf, k⟩ := book_l (w := w) (min w.Known.length 40) 0 [] (by omega) ⟨List.Pairwise.nil, by simp, by simp⟩ (by simp)
  have hn : asset_New_r (bk []) := asset_New_of (by unfold asset_New_w; exact Rt.i rfl)
  by_cases hp : w.Prices.length ≤ 100
  · obtain ⟨q, n, e, h1, h2, h3⟩ := Set_both hf.1 hf.2.1 (p := w.Prices) (by omega)
    refine ⟨q, ⟨ord_A hf.1 h3.symm, ?_, fun y hy => ?_⟩, lombardlaw28_book_of ?_⟩
    · have := congrArg List.length h3
      rw [List.length_map, List.length_map] at this
      have := hf.2.1
      omega
    · have hm : y.A ∈ q.map (·.A) := List.mem_map.2 ⟨y, hy, rfl⟩
      rw [h3] at hm
      obtain ⟨z, hz, e⟩ := List.mem_map.1 hm
      rw [← e]; exact hf.2.2 z hz
    · unfold lombardlaw28_book_w
      simp only [lenM_eq]
      exact ⟨_, hn, k _ (Br.pos (by omega) ⟨_, h1, _, h2, Rt.i rfl⟩)⟩
  · refine ⟨r, hf, lombardlaw28_book_of ?_⟩
    unfold lombardlaw28_book_w
    simp only [lenM_eq]
    exact ⟨_, hn, k _ (Br.neg (by omega) (Rt.i rfl))⟩
/-! The chapter's example. -/
theorem rules1 : _margin_Rules_good_r ⟨10, 5⟩ true := by
  refine _margin_Rules_good_of ?_
  unfold _margin_Rules_good_w
  exact Br.t rfl (Br.t rfl (Br.t rfl (Rt.i rfl)))
theorem call1 : _margin_Rules_Call_r ⟨10, 5⟩ 23 10 (15, 0) := by
  refine _margin_Rules_Call_of ?_
  unfold _margin_Rules_Call_w
  refine ⟨_, rules1, Br.f rfl (Br.f rfl (Br.f rfl (Br.f rfl (Br.f rfl (Num.n (by decide) (Br.f rfl ?_))))))⟩
  unfold _margin_Rules_Call_j0
  exact Jn.i (Br.t rfl (Num.n (by decide) (Num.n (by decide) (Quo'.i (by decide) (Num.n (by decide) (Rt.i rfl))))))
theorem call2 : _margin_Rules_Call_r ⟨10, 5⟩ 3 26 (-20, 0) := by
  refine _margin_Rules_Call_of ?_
  unfold _margin_Rules_Call_w
  refine ⟨_, rules1, Br.f rfl (Br.f rfl (Br.f rfl (Br.f rfl (Br.f rfl (Num.n (by decide) (Br.t rfl (Br.f (by decide) ?_)))))))⟩
  unfold _margin_Rules_Call_j0
  exact Jn.i (Br.f rfl (Quo'.i (by decide) (Num.n (by decide) (Rt.i (by decide)))))
theorem awake_r : lombardlaw28_awake_r true := by
  refine lombardlaw28_awake_of ?_
  unfold lombardlaw28_awake_w
  exact ⟨_, call1, _, call2, Br.t rfl (Br.t rfl (Br.t rfl (Rt.i rfl)))⟩
/-! The law. -/
theorem law_r {w : lombardlaw28_World} {b : api_Basket} {c : lombardref25_Covered} {day shock : Int} (hc : b.Cuts.length ≤ 100000000000000000) (hk : -9223372036854775808 ≤ shock ∧ shock ≤ 9223372036854775807) : lombardlaw28_MarginMarks_r w b c day shock true := by
  refine lombardlaw28_MarginMarks_of ?_
  unfold lombardlaw28_MarginMarks_w
  simp only [lenM_eq]
  refine ⟨_, Basket_r hc, Br.i (fun _ => ⟨_, awake_r, Rt.i rfl⟩) (fun c0 => Br.i (fun _ => ⟨_, awake_r, Rt.i rfl⟩) (fun c1 => Br.i (fun _ => ⟨_, awake_r, Rt.i rfl⟩) (fun c2 => ?_)))⟩
  have hb := basket_ok (Decidable.not_not.1 c0)
  obtain ⟨q, hq, h1⟩ := book_r w
  have mk := ofM_ok q b (c := c) day (by omega)
  exact ⟨_, h1, _, MOf_r hq hb (by omega) (by omega), _, ROf_m hq hb (by omega) (by omega), _, Str_r mk shock hk, _, RStr_r mk shock hk, _, same28 mk.out, Br.t rfl (Br.pos rfl ⟨_, same28 (strS_out mk shock), Br.t rfl (Br.pos rfl ⟨_, awake_r, Rt.i rfl⟩)⟩)⟩
end Go.Proofs.YtghkboapcapooaaGreat.Pure
