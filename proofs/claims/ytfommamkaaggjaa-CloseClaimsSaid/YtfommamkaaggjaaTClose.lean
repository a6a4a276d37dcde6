/- What a member owes: the program's claims, and the reference's; CloseClaims' law. -/
import Derived.Test.YtfommamkaaggjaaTOwedB
import Derived.Test.YtfommamkaaggjaaTLotC
import Derived.Test.YtfommamkaaggjaaTCloneL
set_option linter.unusedVariables false
set_option linter.unusedSimpArgs false
namespace Go.Proofs.Ytfommamkaaggjaa.Pure
open Go Go.Ab Go.Proofs.Ytfommamkaaggjaa.R
set_option linter.unusedVariables false
/-! The chapter's example. -/
theorem sum_l {l : List Int} (hb : ∀ x ∈ l, 0 ≤ x ∧ x ≤ 1000) (hl : l.length ≤ 1000) {Q0 : Int → Prop} {Q1 : Int → Prop} : ∀ (n i : Nat) (s : Int), n + i = l.length → 0 ≤ s ∧ s ≤ 1000 * (i : Int) → Q1 ((l.drop i).foldl (· + ·) s) → fixnum_Sum_L0 l Q0 Q1 s (i : Int) := by
  intro n
  induction n with
  | zero =>
    intro i s h hs q
    refine fixnum_Sum_l0 ?_
    unfold fixnum_Sum_w0
    rw [lenM_eq]
    rw [List.drop_of_length_le (by omega)] at q
    exact Br.neg (by omega) (Lf.i q)
  | succ n ih =>
    intro i s h hs q
    have hi : i < l.length := by omega
    refine fixnum_Sum_l0 ?_
    unfold fixnum_Sum_w0
    rw [lenM_eq]
    rw [List.drop_eq_getElem_cons hi, List.foldl_cons] at q
    have g : l[(i : Int).toNat]? = some l[i] := by simp [hi]
    have hx := hb l[i] (List.getElem_mem hi)
    exact Br.pos (by omega) ⟨l[i], Got.i ⟨_, FPlus_s (by omega) (by omega), Br.f rfl (Num.n (by omega) (ih (i + 1) _ (by omega) (by omega) q))⟩ (by omega) g⟩
theorem Sum_r {l : List Int} (hb : ∀ x ∈ l, 0 ≤ x ∧ x ≤ 1000) (hl : l.length ≤ 1000) : fixnum_Sum_r l (l.foldl (· + ·) 0, 0) := by
  refine fixnum_Sum_of ?_
  unfold fixnum_Sum_w
  exact sum_l hb hl l.length 0 0 (by omega) (by omega) (Rt.i (by rw [List.drop_zero]))
theorem share1 : fixnum_Share_r 10 [50] ([10], 0) := by
  refine fixnum_Share_of ?_
  unfold fixnum_Share_w
  have M := MulDiv_r (a := 10) (b := 50) (c := 50) (how := 1) ⟨by decide, by decide⟩ ⟨by decide, by decide⟩ ⟨by decide, by decide⟩
  rw [show mulDivS 10 50 50 1 = (10, 0) by decide] at M
  refine Br.neg (by decide) (Br.neg (by decide) (fixnum_Share_l0 (Br.pos (by decide) ⟨50, Got.i (Br.neg (by decide) (Num.n (by decide) (fixnum_Share_l0 (Br.neg (by decide) (Lf.i ⟨_, Sum_r (l := [50]) (by decide) (by decide), Br.f rfl (Br.f rfl (Mk0.i (by decide) (fixnum_Share_l1 (Br.pos (by decide) ⟨50, Got.i ⟨_, M, App2.i ⟨by decide, by decide⟩ (Num.n (by decide) (Num.n (by decide) (fixnum_Share_l1 (Br.neg (by decide) (Lf.i (fixnum_Share_l2 (Br.pos (by decide) (Br.neg (by decide) (Num.n (by decide) (fixnum_Share_l2 (Br.neg (by decide) (Lf.i (Rt.i rfl)))))))))))))⟩ (by decide) rfl⟩))))⟩))))) (by decide) rfl⟩)))
abbrev LA : close_Layer := ⟨⟨#[97]⟩, [30]⟩
abbrev LB : close_Layer := ⟨⟨#[98]⟩, [10, 20, 30]⟩
abbrev LC : close_Layer := ⟨⟨#[99]⟩, [50]⟩
theorem parts_l {a0 : Int} {a1 : List close_Layer} {k : Int} {x : close_Layer} (hb : ∀ y ∈ x.Parts, 0 ≤ y ∧ y ≤ 1000) (hl : x.Parts.length ≤ 1000) {Q0 Q1 : Unit → Prop} (q : Q1 ()) : ∀ (n i : Nat), n + i = x.Parts.length → close_Fall_L1 a0 a1 k x Q0 Q1 (i : Int) := by
  intro n
  induction n with
  | zero =>
    intro i h
    refine close_Fall_l1 ?_
    unfold close_Fall_w1
    rw [lenM_eq]
    exact Br.neg (by omega) (Lf.i q)
  | succ n ih =>
    intro i h
    have hi : i < x.Parts.length := by omega
    refine close_Fall_l1 ?_
    unfold close_Fall_w1
    rw [lenM_eq]
    have g : x.Parts[(i : Int).toNat]? = some x.Parts[i] := by simp [hi]
    have hx := hb x.Parts[i] (List.getElem_mem hi)
    exact Br.pos (by omega) ⟨x.Parts[i], Got.i (Br.neg (by omega) (Br.neg (by omega) (Num.n (by omega) (ih (i + 1) (by omega))))) (by omega) g⟩
theorem app40 {n : Nat} (h : n ≤ 1000000) : App 40 n := ⟨by unfold maxLen; omega, by omega⟩
theorem fall1 : close_Fall_r 100 [LA, LB, LC] ([⟨⟨#[97]⟩, [30]⟩, ⟨⟨#[98]⟩, [10, 20, 30]⟩, ⟨⟨#[99]⟩, [10]⟩], 0, 0) := by
  refine close_Fall_of ?_
  unfold close_Fall_w
  refine Br.neg (by decide) (Br.neg (by decide) (Br.neg (by decide) ?_))
  refine close_Fall_l0 (Br.pos (by decide) ⟨LA, Got.i (Br.neg (by decide) (parts_l (by decide) (by decide) (Num.n (by decide) ?_) 1 0 rfl)) (by decide) rfl⟩)
  refine close_Fall_l0 (Br.pos (by decide) ⟨LB, Got.i (Br.neg (by decide) (parts_l (by decide) (by decide) (Num.n (by decide) ?_) 3 0 rfl)) (by decide) rfl⟩)
  refine close_Fall_l0 (Br.pos (by decide) ⟨LC, Got.i (Br.neg (by decide) (parts_l (by decide) (by decide) (Num.n (by decide) ?_) 1 0 rfl)) (by decide) rfl⟩)
  refine close_Fall_l0 (Br.neg (by decide) (Lf.i (Mk0.i (by decide) ?_)))
  refine close_Fall_l2 (Br.pos (by decide) ⟨LA, Got.i ⟨_, Sum_r (l := [30]) (by decide) (by decide), _, Clone27_r (l := [30]) (by decide), Br.neg (by decide) (Num.n (by decide) (App2.i (app40 (by decide)) (Num.n (by decide) ?_)))⟩ (by decide) rfl⟩)
  refine close_Fall_l2 (Br.pos (by decide) ⟨LB, Got.i ⟨_, Sum_r (l := [10, 20, 30]) (by decide) (by decide), _, Clone27_r (l := [10, 20, 30]) (by decide), Br.neg (by decide) (Num.n (by decide) (App2.i (app40 (by decide)) (Num.n (by decide) ?_)))⟩ (by decide) rfl⟩)
  refine close_Fall_l2 (Br.pos (by decide) ⟨LC, Got.i ⟨_, Sum_r (l := [50]) (by decide) (by decide), _, Clone27_r (l := [50]) (by decide), Br.pos (by decide) ⟨_, share1, Num.n (by decide) (App2.i (app40 (by decide)) (Num.n (by decide) ?_))⟩⟩ (by decide) rfl⟩)
  exact close_Fall_l2 (Br.neg (by decide) (Lf.i (Rt.i rfl)))
theorem ints_l {a : List Int} (hl : a.length ≤ 1000000) {Q0 Q1 : Unit → Prop} (q : Q1 ()) : ∀ (n i : Nat), n + i = a.length → lombardref01_Ints_L0 a a Q0 Q1 (i : Int) := by
  intro n
  induction n with
  | zero =>
    intro i h
    refine lombardref01_Ints_l0 ?_
    unfold lombardref01_Ints_w0
    rw [lenM_eq]
    exact Br.neg (by omega) (Lf.i q)
  | succ n ih =>
    intro i h
    have hi : i < a.length := by omega
    refine lombardref01_Ints_l0 ?_
    unfold lombardref01_Ints_w0
    rw [lenM_eq]
    have g : a[(i : Int).toNat]? = some a[i] := by simp [hi]
    exact Br.pos (by omega) ⟨a[i], Got.i ⟨a[i], Got.i (Br.f (by simp) (Num.n (by omega) (ih (i + 1) (by omega)))) (by omega) g⟩ (by omega) g⟩
theorem Ints_r {a : List Int} (hl : a.length ≤ 1000000) : lombardref01_Ints_r a a true := by
  refine lombardref01_Ints_of ?_
  unfold lombardref01_Ints_w
  rw [lenM_eq]
  exact Br.f (by simp) (ints_l hl (Rt.i rfl) a.length 0 (by omega))
theorem awake_r : lombardlaw29_awake_r true := by
  refine lombardlaw29_awake_of ?_
  unfold lombardlaw29_awake_w
  exact ⟨_, fall1, Br.t rfl (Br.t rfl (Br.t (by decide) ⟨_, Got.i ⟨_, Ints_r (by decide), Br.t rfl ⟨_, Got.i ⟨_, Ints_r (by decide), Br.t rfl ⟨_, Got.i ⟨_, Ints_r (by decide), Rt.i rfl⟩ (by decide) rfl⟩⟩ (by decide) rfl⟩⟩ (by decide) rfl⟩))⟩
theorem lots_l {a : List api_Lot} (hl : a.length ≤ 1000000) {Q0 Q1 : Unit → Prop} (q : Q1 ()) : ∀ (n i : Nat), n + i = a.length → lombardref10_Lots_L0 a a Q0 Q1 (i : Int) := by
  intro n
  induction n with
  | zero =>
    intro i h
    refine lombardref10_Lots_l0 ?_
    unfold lombardref10_Lots_w0
    rw [lenM_eq]
    exact Br.neg (by omega) (Lf.i q)
  | succ n ih =>
    intro i h
    have hi : i < a.length := by omega
    refine lombardref10_Lots_l0 ?_
    unfold lombardref10_Lots_w0
    rw [lenM_eq]
    have g : a[(i : Int).toNat]? = some a[i] := by simp [hi]
    have e : ∀ s : ByteArray, strEq s s = true := fun s => strEq_true rfl
    refine Br.pos (by omega) ⟨a[i], Got.i ⟨a[i], Got.i (Br.f (by simp [e]) (Num.n (by omega) (ih (i + 1) (by omega)))) (by omega) g⟩ (by omega) g⟩
theorem Lots_r {a : List api_Lot} (hl : a.length ≤ 1000000) : lombardref10_Lots_r a a true := by
  refine lombardref10_Lots_of ?_
  unfold lombardref10_Lots_w
  rw [lenM_eq]
  exact Br.f (by simp) (lots_l hl (Rt.i rfl) a.length 0 (by omega))
/-! Claims. -/
structure CS where
  cash : Int
  sell : List api_Lot
  buy : List api_Lot
def skipT (t : api_Trade) (m : Int) : Bool := decide (t.Member ≠ m) || decide (t.Stage = 4 ∨ t.Stage = 5) || decide (t.Stage = 1)
/-- One more trade: the state, or what is wrong. -/
def stepC (day : Int) (s : CS) (c : lombardref25_Covered) : CS ⊕ Int :=
  if tradeS c.Trade ≠ 0 then .inr (tradeS c.Trade) else if (checkG c.Lots).2 ≠ 0 then .inr (checkG c.Lots).2 else if (owedS c.Trade day).2 ≠ 0 then .inr (owedS c.Trade day).2
  else if c.Trade.Side = 1 then (if (plusG s.buy c.Lots).2 ≠ 0 then .inr (plusG s.buy c.Lots).2 else .inl ⟨s.cash + (0 - (owedS c.Trade day).1), s.sell, (plusG s.buy c.Lots).1⟩)
  else (if (plusG s.sell c.Lots).2 ≠ 0 then .inr (plusG s.sell c.Lots).2 else .inl ⟨s.cash + (owedS c.Trade day).1, (plusG s.sell c.Lots).1, s.buy⟩)
def runC (m day : Int) : CS → List lombardref25_Covered → CS ⊕ Int
  | s, [] => .inl s
  | s, c :: l => if skipT c.Trade m = true then runC m day s l else match stepC day s c with
    | .inl s' => runC m day s' l
    | .inr e => .inr e
theorem runC_skip {m day : Int} {s : CS} {c : lombardref25_Covered} {l : List lombardref25_Covered} (h : skipT c.Trade m = true) : runC m day s (c :: l) = runC m day s l := by
  show (if skipT c.Trade m = true then _ else _) = _
  rw [if_pos h]
theorem runC_ok {m day : Int} {s s' : CS} {c : lombardref25_Covered} {l : List lombardref25_Covered} (h : skipT c.Trade m = false) (k : stepC day s c = .inl s') : runC m day s (c :: l) = runC m day s' l := by
  show (if skipT c.Trade m = true then _ else _) = _
  rw [if_neg (by rw [h]; decide), k]
theorem runC_bad {m day : Int} {s : CS} {e : Int} {c : lombardref25_Covered} {l : List lombardref25_Covered} (h : skipT c.Trade m = false) (k : stepC day s c = .inr e) : runC m day s (c :: l) = .inr e := by
  show (if skipT c.Trade m = true then _ else _) = _
  rw [if_neg (by rw [h]; decide), k]
def toL (c : lombardref25_Covered) : leg_Covered := ⟨c.Trade, c.Lots⟩
theorem owed_bd {t : api_Trade} {day : Int} (ha : 1 ≤ t.Amount ∧ t.Amount ≤ 1125899906842624) : -30000000000000000 ≤ (owedS t day).1 ∧ (owedS t day).1 ≤ 30000000000000000 := by
  have bb := btw_bd (a := t.Amount) (l := t.Resets) (fr := t.Start) (to := untilS t day)
  unfold owedS
  split
  · exact ⟨by show -30000000000000000 ≤ (0 : Int); decide, by show (0 : Int) ≤ 30000000000000000; decide⟩
  · split
    · exact ⟨by show -30000000000000000 ≤ (0 : Int); decide, by show (0 : Int) ≤ 30000000000000000; decide⟩
    · exact ⟨by show _ ≤ t.Amount + _; omega, by show t.Amount + _ ≤ _; omega⟩
theorem trade_amt {t : api_Trade} (h : tradeS t = 0) : 1 ≤ t.Amount ∧ t.Amount ≤ 1125899906842624 := by
  unfold tradeS at h
  by_cases c : ¬ GoodT t
  · rw [if_pos c] at h; cases h
  rw [if_neg c] at h
  by_cases c1 : t.Side = 1 ∧ t.Twin ≠ t.ID + 1
  · rw [if_pos c1] at h; cases h
  rw [if_neg c1] at h
  by_cases c2 : t.Side = 2 ∧ t.Twin ≠ t.ID - 1
  · rw [if_pos c2] at h; cases h
  rw [if_neg c2] at h
  unfold tradeR at h
  by_cases c3 : resS t.Resets ≠ 0
  · rw [if_pos c3] at h; exact absurd h c3
  rw [if_neg c3] at h
  have ne := (resS_ok (Decidable.not_not.1 c3)).ne
  cases hr : t.Resets with
  | nil => exact absurd hr ne
  | cons x l =>
    rw [hr] at h
    have h : (if x.Day ≠ t.Start then 10 else if inS t.Member 1 32 = false then 22 else termsS t.Basket t.Amount x.Rate t.Start t.End) = 0 := h
    by_cases c4 : x.Day ≠ t.Start
    · rw [if_pos c4] at h; cases h
    rw [if_neg c4] at h
    by_cases c5 : inS t.Member 1 32 = false
    · rw [if_pos c5] at h; cases h
    rw [if_neg c5] at h
    unfold termsS at h
    by_cases c6 : ¬ ((1 ≤ t.Basket ∧ t.Basket ≤ 64) ∧ (1 ≤ t.Amount ∧ t.Amount ≤ 1125899906842624) ∧ -1000000 ≤ x.Rate ∧ x.Rate ≤ 1000000)
    · rw [if_pos c6] at h; cases h
    exact (Decidable.not_not.1 c6).2.1
structure COk (s : CS) (i : Nat) : Prop where
  cash : -(40000000000000000 * (i : Int)) ≤ s.cash ∧ s.cash ≤ 40000000000000000 * (i : Int)
  sell : Lk s.sell
  buy : Lk s.buy
theorem COk.up {s : CS} {i : Nat} (h : COk s i) : COk s (i + 1) := ⟨by have := h.cash; omega, h.sell, h.buy⟩
theorem ql_of {l : List api_Lot} (h : (checkG l).2 = 0) : Ql l := (check_ok h).pos
theorem step_ok {day : Int} {s s' : CS} {c : lombardref25_Covered} {i : Nat} (h : COk s i) (k : stepC day s c = .inl s') : COk s' (i + 1) := by
  unfold stepC at k
  by_cases c1 : tradeS c.Trade ≠ 0
  · rw [if_pos c1] at k; cases k
  rw [if_neg c1] at k
  by_cases c2 : (checkG c.Lots).2 ≠ 0
  · rw [if_pos c2] at k; cases k
  rw [if_neg c2] at k
  by_cases c3 : (owedS c.Trade day).2 ≠ 0
  · rw [if_pos c3] at k; cases k
  rw [if_neg c3] at k
  have ob := owed_bd (day := day) (trade_amt (Decidable.not_not.1 c1))
  have hq := ql_of (Decidable.not_not.1 c2)
  have hc := h.cash
  by_cases c4 : c.Trade.Side = 1
  · rw [if_pos c4] at k
    by_cases c5 : (plusG s.buy c.Lots).2 ≠ 0
    · rw [if_pos c5] at k; cases k
    rw [if_neg c5] at k; cases k
    exact ⟨by show _ ≤ s.cash + _ ∧ s.cash + _ ≤ _; omega, h.sell, plus_ok _ _ h.buy hq (Decidable.not_not.1 c5)⟩
  · rw [if_neg c4] at k
    by_cases c5 : (plusG s.sell c.Lots).2 ≠ 0
    · rw [if_pos c5] at k; cases k
    rw [if_neg c5] at k; cases k
    exact ⟨by show _ ≤ s.cash + _ ∧ s.cash + _ ≤ _; omega, plus_ok _ _ h.sell hq (Decidable.not_not.1 c5), h.buy⟩
def Short (l : List lombardref25_Covered) : Prop := l.length ≤ 70 ∧ ∀ c ∈ l, c.Lots.length ≤ 80 ∧ c.Trade.Resets.length ≤ 80
theorem over_r (t : api_Trade) : life_Over_r t (decide (t.Stage = 4 ∨ t.Stage = 5)) := by
  refine life_Over_of ?_
  unfold life_Over_w
  refine Br.i (fun c => Rt.i (decide_eq_true (.inl c)).symm) (fun c => Rt.i ?_)
  rw [show (t.Stage == 5) = decide (t.Stage = 5) from rfl]
  exact decide_eq_decide.2 ⟨fun k => .inr k, fun k => k.resolve_left c⟩
theorem claims_l {l : List lombardref25_Covered} {m day : Int} (hs : Short l) {Q0 : Int × (List api_Lot) × (List api_Lot) → Prop} {Q1 : Int → Prop} : ∀ (n i : Nat) (s : CS), n + i = l.length → COk s i → (∀ s', runC m day s (l.drop i) = .inl s' → Q0 (s'.cash, s'.sell, s'.buy)) → (∀ e, runC m day s (l.drop i) = .inr e → Q1 e) →
    close_Claims_L0 m day (l.map toL) Q0 Q1 (i : Int) s.cash s.sell s.buy := by
  have hl := hs.1
  intro n
  induction n with
  | zero =>
    intro i s h ok q0 q1
    refine close_Claims_l0 ?_
    unfold close_Claims_w0
    rw [lenM_eq, List.length_map]
    rw [List.drop_of_length_le (by omega)] at q0
    exact Br.neg (by omega) (Lf.i (q0 s rfl))
  | succ n ih =>
    intro i s h ok q0 q1
    have hi : i < l.length := by omega
    refine close_Claims_l0 ?_
    unfold close_Claims_w0
    rw [lenM_eq, List.length_map]
    rw [List.drop_eq_getElem_cons hi] at q0 q1
    have g : (l.map toL)[(i : Int).toNat]? = some (toL l[i]) := by simp [hi]
    have hsh := hs.2 l[i] (List.getElem_mem hi)
    have skp : skipT l[i].Trade m = true → close_Claims_L0 m day (l.map toL) Q0 Q1 ((i : Int) + 1) s.cash s.sell s.buy := fun k => ih (i + 1) s (by omega) ok.up (fun s' e => q0 s' (by rw [runC_skip k]; exact e)) (fun x e => q1 x (by rw [runC_skip k]; exact e))
    refine Br.pos (by omega) ⟨toL l[i], Got.i (Br.i (fun c => Num.n (by omega) (skp ?_)) (fun c0 => ⟨_, over_r _, Br.b (fun c => Num.n (by omega) (skp ?_)) (fun c1 => Br.i (fun c => Num.n (by omega) (skp ?_)) (fun c2 => ?_))⟩)) (by omega) g⟩
    · have c : l[i].Trade.Member ≠ m := c
      unfold skipT; rw [decide_eq_true c]; rfl
    · have c : decide (l[i].Trade.Stage = 4 ∨ l[i].Trade.Stage = 5) = true := c
      unfold skipT; rw [c]; simp
    · have c : l[i].Trade.Stage = 1 := c
      unfold skipT; rw [decide_eq_true c]; simp
    · have c0 : ¬ l[i].Trade.Member ≠ m := c0
      have c1 : decide (l[i].Trade.Stage = 4 ∨ l[i].Trade.Stage = 5) = false := c1
      have c2 : ¬ l[i].Trade.Stage = 1 := c2
      have ns : skipT l[i].Trade m = false := by
        unfold skipT
        rw [decide_eq_false c0, c1, decide_eq_false c2]; rfl
      have bad : ∀ e, stepC day s l[i] = .inr e → Q1 e := fun e k => q1 e (runC_bad ns k)
      have good : ∀ s', stepC day s l[i] = .inl s' → close_Claims_L0 m day (l.map toL) Q0 Q1 ((i : Int) + 1) s'.cash s'.sell s'.buy := fun s' k => ih (i + 1) s' (by omega) (step_ok ok k) (fun s2 e => q0 s2 (by rw [runC_ok ns k]; exact e)) (fun x e => q1 x (by rw [runC_ok ns k]; exact e))
      refine ⟨_, Check_tr (by show l[i].Trade.Resets.length ≤ _; omega), Br.i (fun c => Lf.i (bad _ ?_)) (fun c3 => ?_)⟩
      · have c : tradeS l[i].Trade ≠ 0 := c
        unfold stepC; rw [if_pos c]; rfl
      have c3 : ¬ tradeS l[i].Trade ≠ 0 := c3
      refine ⟨_, Check_r (by show l[i].Lots.length ≤ _; omega), Br.i (fun c => Lf.i (bad _ ?_)) (fun c4 => ?_)⟩
      · have c : (checkG l[i].Lots).2 ≠ 0 := c
        unfold stepC; rw [if_neg c3, if_pos c]; rfl
      have c4 : ¬ (checkG l[i].Lots).2 ≠ 0 := c4
      have amt := trade_amt (Decidable.not_not.1 c3)
      have hq := ql_of (Decidable.not_not.1 c4)
      have ob := owed_bd (day := day) amt
      have hc := ok.cash
      refine ⟨_, Owed_r (by show l[i].Trade.Resets.length ≤ _; omega) amt, Br.i (fun c => Lf.i (bad _ ?_)) (fun c5 => ?_)⟩
      · have c : (owedS l[i].Trade day).2 ≠ 0 := c
        unfold stepC; rw [if_neg c3, if_neg c4, if_pos c]; rfl
      have c5 : ¬ (owedS l[i].Trade day).2 ≠ 0 := c5
      refine Br.i (fun c6 => ?_) (fun c6 => ?_)
      · have c6 : l[i].Trade.Side = 1 := c6
        refine ⟨_, Plus_r ok.buy (by show l[i].Lots.length ≤ _; omega) hq, ?_⟩
        have w : IntKind.i64.wrap (0 - (owedS l[i].Trade day).1) = 0 - (owedS l[i].Trade day).1 := iw _ (by omega) (by omega)
        show close_Claims_j8 m day (plusG s.buy l[i].Lots) _ _ _ _ Q0 Q1 (IntKind.i64.wrap (0 - (owedS l[i].Trade day).1), s.sell, (plusG s.buy l[i].Lots).1)
        rw [w]
        unfold close_Claims_j8
        refine Jn.i (Br.i (fun c7 => ⟨_, FPlus_s (by omega) (by show _ ≤ 0 - (owedS l[i].Trade day).1 ∧ 0 - (owedS l[i].Trade day).1 ≤ _; omega), ?_⟩) (fun c7 => ?_))
        · unfold close_Claims_j9
          refine Jn.i (Br.f rfl (Num.n (by omega) (good ⟨s.cash + (0 - (owedS l[i].Trade day).1), s.sell, (plusG s.buy l[i].Lots).1⟩ ?_)))
          unfold stepC; rw [if_neg c3, if_neg c4, if_neg c5, if_pos c6, if_neg (fun q => q c7)]
        · unfold close_Claims_j9
          refine Jn.i (Br.pos c7 (Lf.i (bad _ ?_)))
          unfold stepC; rw [if_neg c3, if_neg c4, if_neg c5, if_pos c6, if_pos c7]
      · have c6 : ¬ l[i].Trade.Side = 1 := c6
        refine ⟨_, Plus_r ok.sell (by show l[i].Lots.length ≤ _; omega) hq, ?_⟩
        show close_Claims_j8 m day (plusG s.sell l[i].Lots) _ _ _ _ Q0 Q1 ((owedS l[i].Trade day).1, (plusG s.sell l[i].Lots).1, s.buy)
        unfold close_Claims_j8
        refine Jn.i (Br.i (fun c7 => ⟨_, FPlus_s (by omega) (by show _ ≤ (owedS l[i].Trade day).1 ∧ (owedS l[i].Trade day).1 ≤ _; omega), ?_⟩) (fun c7 => ?_))
        · unfold close_Claims_j9
          refine Jn.i (Br.f rfl (Num.n (by omega) (good ⟨s.cash + (owedS l[i].Trade day).1, (plusG s.sell l[i].Lots).1, s.buy⟩ ?_)))
          unfold stepC; rw [if_neg c3, if_neg c4, if_neg c5, if_neg c6, if_neg (fun q => q c7)]
        · unfold close_Claims_j9
          refine Jn.i (Br.pos c7 (Lf.i (bad _ ?_)))
          unfold stepC; rw [if_neg c3, if_neg c4, if_neg c5, if_neg c6, if_pos c7]
theorem rclaims_l {l : List lombardref25_Covered} {m day : Int} (hs : Short l) {Q0 : Int × (List api_Lot) × (List api_Lot) → Prop} {Q1 : Int → Prop} : ∀ (n i : Nat) (s : CS), n + i = l.length → COk s i → (∀ s', runC m day s (l.drop i) = .inl s' → Q0 (s'.cash, s'.sell, s'.buy)) → (∀ e, runC m day s (l.drop i) = .inr e → Q1 e) →
    lombardref29_Claims_L0 l m day Q0 Q1 (i : Int) s.cash s.sell s.buy := by
  have hl := hs.1
  intro n
  induction n with
  | zero =>
    intro i s h ok q0 q1
    refine lombardref29_Claims_l0 ?_
    unfold lombardref29_Claims_w0
    rw [lenM_eq]
    rw [List.drop_of_length_le (by omega)] at q0
    exact Br.neg (by omega) (Lf.i (q0 s rfl))
  | succ n ih =>
    intro i s h ok q0 q1
    have hi : i < l.length := by omega
    refine lombardref29_Claims_l0 ?_
    unfold lombardref29_Claims_w0
    rw [lenM_eq]
    rw [List.drop_eq_getElem_cons hi] at q0 q1
    have g : l[(i : Int).toNat]? = some l[i] := by simp [hi]
    have z : (0 : Int) ≤ (i : Int) := by omega
    have hsh := hs.2 l[i] (List.getElem_mem hi)
    have skp : skipT l[i].Trade m = true → lombardref29_Claims_L0 l m day Q0 Q1 ((i : Int) + 1) s.cash s.sell s.buy := fun k => ih (i + 1) s (by omega) ok.up (fun s' e => q0 s' (by rw [runC_skip k]; exact e)) (fun x e => q1 x (by rw [runC_skip k]; exact e))
    refine Br.pos (by omega) ⟨l[i], Got.i (Br.i (fun c => Num.n (by omega) (skp ?_)) (fun c0 => Br.i (fun c => Num.n (by omega) (skp ?_)) (fun c2 => Br.i (fun c => Num.n (by omega) (skp ?_)) (fun c11 => Br.i (fun c => Num.n (by omega) (skp ?_)) (fun c12 => ?_))))) z g⟩
    · unfold skipT; rw [decide_eq_true c]; rfl
    · unfold skipT; rw [decide_eq_true c]; simp
    · unfold skipT; rw [decide_eq_true (.inl c : l[i].Trade.Stage = 4 ∨ l[i].Trade.Stage = 5)]; simp
    · unfold skipT; rw [decide_eq_true (.inr c : l[i].Trade.Stage = 4 ∨ l[i].Trade.Stage = 5)]; simp
    · have ns : skipT l[i].Trade m = false := by
        unfold skipT
        rw [decide_eq_false c0, decide_eq_false (fun k => k.elim c11 c12 : ¬ (l[i].Trade.Stage = 4 ∨ l[i].Trade.Stage = 5)), decide_eq_false c2]; rfl
      have bad : ∀ e, stepC day s l[i] = .inr e → Q1 e := fun e k => q1 e (runC_bad ns k)
      have good : ∀ s', stepC day s l[i] = .inl s' → lombardref29_Claims_L0 l m day Q0 Q1 ((i : Int) + 1) s'.cash s'.sell s'.buy := fun s' k => ih (i + 1) s' (by omega) (step_ok ok k) (fun s2 e => q0 s2 (by rw [runC_ok ns k]; exact e)) (fun x e => q1 x (by rw [runC_ok ns k]; exact e))
      refine ⟨_, RCheck_tr (by omega), Br.i (fun c => Lf.i (bad _ (by unfold stepC; rw [if_pos c]))) (fun c3 => Got.i ⟨_, RCheck17_r (by omega), Br.i (fun c => Lf.i (bad _ (by unfold stepC; rw [if_neg c3, if_pos c]))) (fun c4 => ?_)⟩ z g)⟩
      have amt := trade_amt (Decidable.not_not.1 c3)
      have hq := ql_of (Decidable.not_not.1 c4)
      have ob := owed_bd (day := day) amt
      have hc := ok.cash
      refine ⟨_, ROwed_r (by omega) amt, Br.i (fun c => Lf.i (bad _ (by unfold stepC; rw [if_neg c3, if_neg c4, if_pos c]))) (fun c5 => Br.i (fun c6 => Num.n (by omega) (Got.i ?_ z g)) (fun c6 => Got.i ?_ z g))⟩
      · refine ⟨_, RPlus_r ok.buy (by omega) hq, ?_⟩
        unfold lombardref29_Claims_j1
        refine Jn.i (Br.i (fun c7 => Lf.i (bad _ ?_)) (fun c7 => ⟨_, RPlus_s (by omega) (by show _ ≤ 0 - (owedS l[i].Trade day).1 ∧ 0 - (owedS l[i].Trade day).1 ≤ _; omega), Br.f rfl (Num.n (by omega) (good ⟨s.cash + (0 - (owedS l[i].Trade day).1), s.sell, (plusG s.buy l[i].Lots).1⟩ ?_))⟩))
        · unfold stepC; rw [if_neg c3, if_neg c4, if_neg c5, if_pos c6, if_pos c7]
        · unfold stepC; rw [if_neg c3, if_neg c4, if_neg c5, if_pos c6, if_neg c7]
      · refine ⟨_, RPlus_r ok.sell (by omega) hq, ?_⟩
        unfold lombardref29_Claims_j1
        refine Jn.i (Br.i (fun c7 => Lf.i (bad _ ?_)) (fun c7 => ⟨_, RPlus_s (by omega) (by show _ ≤ (owedS l[i].Trade day).1 ∧ (owedS l[i].Trade day).1 ≤ _; omega), Br.f rfl (Num.n (by omega) (good ⟨s.cash + (owedS l[i].Trade day).1, (plusG s.sell l[i].Lots).1, s.buy⟩ ?_))⟩))
        · unfold stepC; rw [if_neg c3, if_neg c4, if_neg c5, if_neg c6, if_pos c7]
        · unfold stepC; rw [if_neg c3, if_neg c4, if_neg c5, if_neg c6, if_neg c7]
theorem Lk0 : Lk [] := ⟨List.Pairwise.nil, by simp, by simp⟩
theorem run_ok {m day : Int} : ∀ (l : List lombardref25_Covered) (s s' : CS) (i : Nat), COk s i → runC m day s l = .inl s' → COk s' (i + l.length)
  | [], s, s', i, ok, h => by cases h; exact ok
  | c :: l, s, s', i, ok, h => by
    cases k : skipT c.Trade m with
    | true =>
      rw [runC_skip k] at h
      have := run_ok l s s' (i + 1) ok.up h
      rw [List.length_cons, show i + (l.length + 1) = i + 1 + l.length by omega]; exact this
    | false =>
      cases e : stepC day s c with
      | inl s2 =>
        rw [runC_ok k e] at h
        have := run_ok l s2 s' (i + 1) (step_ok ok e) h
        rw [List.length_cons, show i + (l.length + 1) = i + 1 + l.length by omega]; exact this
      | inr x => rw [runC_bad k e] at h; cases h
def s0 : CS := ⟨0, [], []⟩
theorem ok0 : COk s0 0 := ⟨by decide, Lk0, Lk0⟩
def netC (s : CS) : CS := ⟨s.cash, (minusG s.sell (bothG s.buy s.sell)).1, (minusG s.buy (bothG s.buy s.sell)).1⟩
def claimS (m day : Int) (l : List lombardref25_Covered) : CS × Int := match runC m day s0 l with
  | .inl s => (netC s, 0)
  | .inr e => (s0, e)
theorem both_q {s : CS} (hs : Lk s.sell) (hb : Lk s.buy) : Ql (bothG s.buy s.sell) ∧ (bothG s.buy s.sell).Pairwise (fun x y => sLt x.ISIN y.ISIN) ∧ (bothG s.buy s.sell).length ≤ 64 := by
  obtain ⟨h1, h2, h3⟩ := both_ok (b := s.buy) hs.srt hs.pos
  exact ⟨h2, h1, by have := hs.len; omega⟩
theorem Claims_r {l : List lombardref25_Covered} {m day : Int} (hs : Short l) : close_Claims_r (l.map toL) m day (⟨(claimS m day l).1.cash, (claimS m day l).1.sell, (claimS m day l).1.buy⟩, (claimS m day l).2) := by
  refine close_Claims_of ?_
  unfold close_Claims_w
  have := claims_l (m := m) (day := day) hs (Q0 := fun (y1 : Int × (List api_Lot) × (List api_Lot)) => ∃ r2 : (List api_Lot), (lots_Both_r y1.2.1 y1.2.2 r2) ∧ (∃ r3 : (List api_Lot) × Int, (lots_Minus_r y1.2.1 r2 r3) ∧ (∃ r4 : (List api_Lot) × Int, (lots_Minus_r y1.2.2 r2 r4) ∧ (close_Claims_e (fun v_ => v_ = (⟨(claimS m day l).1.cash, (claimS m day l).1.sell, (claimS m day l).1.buy⟩, (claimS m day l).2)) ((⟨y1.1, r3.1, r4.1⟩ : close_Claim), 0)))))
    (Q1 := fun (y1 : Int) => close_Claims_e (fun v_ => v_ = (⟨(claimS m day l).1.cash, (claimS m day l).1.sell, (claimS m day l).1.buy⟩, (claimS m day l).2)) ((⟨0, [], []⟩ : close_Claim), y1)) l.length 0 s0 (by omega) ok0 (fun s e => ?_) (fun x e => Rt.i ?_)
  · exact this
  · rw [List.drop_zero] at e
    have ok := run_ok l s0 s 0 ok0 e
    obtain ⟨k1, k2, k3⟩ := both_q ok.sell ok.buy
    refine ⟨_, Both_r (by have := ok.sell.len; show s.sell.length ≤ _; omega) ok.buy, _, Minus_r ok.sell (by show (bothG s.buy s.sell).length ≤ _; omega) k1, _, Minus_r ok.buy (by show (bothG s.buy s.sell).length ≤ _; omega) k1, Rt.i ?_⟩
    unfold claimS; rw [e]; rfl
  · rw [List.drop_zero] at e
    unfold claimS; rw [e]; rfl
theorem RClaims_r {l : List lombardref25_Covered} {m day : Int} (hs : Short l) : lombardref29_Claims_r l m day (⟨(claimS m day l).1.cash, (claimS m day l).1.sell, (claimS m day l).1.buy⟩, (claimS m day l).2) := by
  refine lombardref29_Claims_of ?_
  unfold lombardref29_Claims_w
  have := rclaims_l (m := m) (day := day) hs (Q0 := fun (y1 : Int × (List api_Lot) × (List api_Lot)) => ∃ r2 : (List api_Lot), (lombardref17_Both_r y1.2.1 y1.2.2 r2) ∧ (∃ r3 : (List api_Lot) × Int, (lombardref17_Minus_r y1.2.1 r2 r3) ∧ (∃ r4 : (List api_Lot) × Int, (lombardref17_Minus_r y1.2.2 r2 r4) ∧ (lombardref29_Claims_e (fun v_ => v_ = (⟨(claimS m day l).1.cash, (claimS m day l).1.sell, (claimS m day l).1.buy⟩, (claimS m day l).2)) ((⟨y1.1, r3.1, r4.1⟩ : lombardref29_Claim), 0)))))
    (Q1 := fun (y1 : Int) => lombardref29_Claims_e (fun v_ => v_ = (⟨(claimS m day l).1.cash, (claimS m day l).1.sell, (claimS m day l).1.buy⟩, (claimS m day l).2)) ((⟨0, [], []⟩ : lombardref29_Claim), y1)) l.length 0 s0 (by omega) ok0 (fun s e => ?_) (fun x e => Rt.i ?_)
  · exact this
  · rw [List.drop_zero] at e
    have ok := run_ok l s0 s 0 ok0 e
    obtain ⟨k1, k2, k3⟩ := both_q ok.sell ok.buy
    refine ⟨_, RBoth_r (by have := ok.sell.len; show s.sell.length ≤ _; omega) ok.buy, _, RMinus_r ok.sell (by show (bothG s.buy s.sell).length ≤ _; omega) k1, _, RMinus_r ok.buy (by show (bothG s.buy s.sell).length ≤ _; omega) k1, Rt.i ?_⟩
    unfold claimS; rw [e]; rfl
  · rw [List.drop_zero] at e
    unfold claimS; rw [e]; rfl
theorem claim_ok (m day : Int) (l : List lombardref25_Covered) : Lk (claimS m day l).1.sell ∧ Lk (claimS m day l).1.buy ∧ bothG (claimS m day l).1.buy (claimS m day l).1.sell = [] := by
  unfold claimS
  cases e : runC m day s0 l with
  | inr x => exact ⟨Lk0, Lk0, rfl⟩
  | inl s =>
    have ok := run_ok l s0 s 0 ok0 e
    obtain ⟨k1, k2, k3⟩ := both_q ok.sell ok.buy
    have bq := both_qty (b := s.buy) ok.buy.pos ok.sell.srt ok.sell.pos
    obtain ⟨a1, a2⟩ := minus_qty (bothG s.buy s.sell) s.sell ok.sell k1 k2 (fun x => by rw [bq]; omega)
    obtain ⟨b1, b2⟩ := minus_qty (bothG s.buy s.sell) s.buy ok.buy k1 k2 (fun x => by rw [bq]; omega)
    have l1 := minus_ok _ _ ok.sell k1 a1
    have l2 := minus_ok _ _ ok.buy k1 b1
    refine ⟨l1, l2, both_nil l1.srt _ (fun x hx => hx) (fun x => ?_)⟩
    show min (qtyG x (minusG s.sell (bothG s.buy s.sell)).1) (qtyG x (minusG s.buy (bothG s.buy s.sell)).1) = 0
    rw [a2, b2, bq]; omega
/-! The law. -/
theorem app128 {n : Nat} (h : n ≤ 1000000) : App 128 n := ⟨by unfold maxLen; omega, by omega⟩
theorem law_l {l : List lombardref25_Covered} {m day : Int} (hl : l.length ≤ 70) {Q0 : Bool → Prop} {Q1 : List leg_Covered → Prop} (q0 : Q0 true) (q1 : Short l → Q1 (l.map toL)) : ∀ (n i : Nat), n + i = l.length → (∀ c ∈ l.take i, c.Lots.length ≤ 80 ∧ c.Trade.Resets.length ≤ 80) → lombardlaw29_CloseClaims_L0 l m day Q0 Q1 (i : Int) ((l.take i).map toL) := by
  intro n
  induction n with
  | zero =>
    intro i h hs
    refine lombardlaw29_CloseClaims_l0 ?_
    unfold lombardlaw29_CloseClaims_w0
    rw [lenM_eq]
    rw [List.take_of_length_le (by omega)] at hs ⊢
    exact Br.neg (by omega) (Lf.i (q1 ⟨hl, hs⟩))
  | succ n ih =>
    intro i h hs
    have hi : i < l.length := by omega
    refine lombardlaw29_CloseClaims_l0 ?_
    unfold lombardlaw29_CloseClaims_w0
    rw [lenM_eq]
    have g : l[(i : Int).toNat]? = some l[i] := by simp [hi]
    have z : (0 : Int) ≤ (i : Int) := by omega
    refine Br.pos (by omega) ⟨l[i], Got.i ?_ z g⟩
    rw [lenM_eq, lenM_eq]
    refine Br.i (fun c => ⟨_, awake_r, Lf.i q0⟩) (fun c1 => Got.i (Br.i (fun c => ⟨_, awake_r, Lf.i q0⟩) (fun c2 => Got.i (Got.i (App2.i (app128 (by simp; omega)) (Num.n (by omega) ?_)) z g) z g)) z g)
    have := ih (i + 1) (by omega) (fun c hc => by
      rw [List.take_succ_eq_append_getElem hi] at hc
      rcases List.mem_append.1 hc with hc | hc
      · exact hs c hc
      · simp at hc; subst hc; omega)
    rw [List.take_succ_eq_append_getElem hi, List.map_append] at this
    exact this
theorem law_r {l : List lombardref25_Covered} {m day : Int} : lombardlaw29_CloseClaims_r l m day true := by
  refine lombardlaw29_CloseClaims_of ?_
  unfold lombardlaw29_CloseClaims_w
  rw [lenM_eq]
  refine Br.i (fun _ => ⟨_, awake_r, Rt.i rfl⟩) (fun c => ?_)
  refine law_l (by omega) (Rt.i rfl) (fun hs => ?_) l.length 0 (by omega) (by simp)
  obtain ⟨k1, k2, k3⟩ := claim_ok m day l
  have h1 := k1.len
  have h2 := k2.len
  refine ⟨_, Claims_r hs, _, RClaims_r hs, Br.t (by simp) ⟨_, Lots_r (by show (claimS m day l).1.sell.length ≤ _; omega), Br.t rfl ⟨_, Lots_r (by show (claimS m day l).1.buy.length ≤ _; omega), Br.t rfl (Br.t (by simp) ⟨_, RBoth_r (by show (claimS m day l).1.sell.length ≤ _; omega) k2, ?_⟩)⟩⟩⟩
  rw [k3]
  exact Br.t rfl ⟨_, awake_r, Rt.i rfl⟩
end Go.Proofs.Ytfommamkaaggjaa.Pure
