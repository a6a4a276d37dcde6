/- A trade: what is wrong with it, and what is owed by it: the program's and the reference's. -/
import Derived.Test.YtghkboapcapooaaGreatRA
import Derived.Test.YtghkboapcapooaaGreatTSortE
import Derived.Test.YtghkboapcapooaaGreatTBigB
set_option linter.unusedVariables false
set_option linter.unusedSimpArgs false
namespace Go.Proofs.YtghkboapcapooaaGreat.Pure
open Go Go.Ab Go.Proofs.YtghkboapcapooaaGreat.R
set_option linter.unusedVariables false
def inS (n l m : Int) : Bool := decide (l ≤ n ∧ n ≤ m)
theorem inS_t {n l m : Int} (h : inS n l m = true) : l ≤ n ∧ n ≤ m := of_decide_eq_true h
theorem inS_f {n l m : Int} (h : inS n l m = false) : ¬ (l ≤ n ∧ n ≤ m) := of_decide_eq_false h
theorem inS_mk {n l m : Int} (h : l ≤ n ∧ n ≤ m) : inS n l m = true := decide_eq_true h
theorem inS_no {n l m : Int} (h : ¬ (l ≤ n ∧ n ≤ m)) : inS n l m = false := decide_eq_false h
theorem in_r (n l m : Int) : lombardref23_in_r n l m (inS n l m) := by
  refine lombardref23_in_of ?_
  unfold lombardref23_in_w inS
  refine Br.i (fun c => Rt.i (decide_eq_decide.2 ⟨fun k => ⟨by omega, k⟩, fun k => k.2⟩)) (fun c => Rt.i (decide_eq_false (fun k => c (by omega))).symm)
theorem good_r (n : Int) : calendar_Good_r n (inS n 0 200000) := by
  refine calendar_Good_of ?_
  unfold calendar_Good_w inS
  refine Br.i (fun c => Rt.i (decide_eq_decide.2 ⟨fun k => ⟨by omega, k⟩, fun k => k.2⟩)) (fun c => Rt.i (decide_eq_false (fun k => c (by omega))).symm)
theorem rgood2_r (n : Int) : lombardref02_Good_r n (inS n 0 200000) := by
  refine lombardref02_Good_of ?_
  unfold lombardref02_Good_w inS
  refine Br.i (fun c => Rt.i (decide_eq_decide.2 ⟨fun k => ⟨by omega, k⟩, fun k => k.2⟩)) (fun c => Rt.i (decide_eq_false (fun k => c (by omega))).symm)
theorem rated_r (n : Int) : lombardref03_rated_r n (inS n (-1000000) 1000000) := by
  refine lombardref03_rated_of ?_
  unfold lombardref03_rated_w inS
  refine Br.i (fun c => Rt.i (decide_eq_decide.2 ⟨fun k => ⟨by omega, k⟩, fun k => k.2⟩)) (fun c => Rt.i (decide_eq_false (fun k => c (by omega))).symm)
/-! Rates by days. -/
def resG : Option Int → List api_Reset → Int
  | _, [] => 0
  | p, x :: l => if inS x.Day 0 200000 = false then 10 else match p with
    | none => if inS x.Rate (-1000000) 1000000 = false then 1 else resG (some x.Day) l
    | some d => if x.Day ≤ d then 10 else if inS x.Rate (-1000000) 1000000 = false then 1 else resG (some x.Day) l
theorem resG_cons (p : Option Int) (x : api_Reset) (l : List api_Reset) : resG p (x :: l) = if inS x.Day 0 200000 = false then 10 else match p with
    | none => if inS x.Rate (-1000000) 1000000 = false then 1 else resG (some x.Day) l
    | some d => if x.Day ≤ d then 10 else if inS x.Rate (-1000000) 1000000 = false then 1 else resG (some x.Day) l := by cases p <;> rfl
def resS (l : List api_Reset) : Int := if ((l.length : Nat) : Int) = 0 then 6 else if (64 : Int) < ((l.length : Nat) : Int) then 2 else resG none l
def PreR (a : List api_Reset) (i : Nat) (p : Option Int) : Prop := i = 0 ∧ p = none ∨ 0 < i ∧ ∃ y, p = some y.Day ∧ a[i - 1]? = some y
theorem res_l {a : List api_Reset} (hl : a.length ≤ 1000000) {P : Int → Prop} {Q0 : Int → Prop} {Q1 : Unit → Prop} (q0 : ∀ e, e ≠ 0 → P e → Q0 e) (q1 : P 0 → Q1 ()) : ∀ (n i : Nat) (p : Option Int), n + i = a.length → PreR a i p → P (resG p (a.drop i)) → accrue_Check_L0 a Q0 Q1 (i : Int) := by
  intro n
  induction n with
  | zero =>
    intro i p h hp q
    refine accrue_Check_l0 ?_
    unfold accrue_Check_w0
    rw [lenM_eq]
    rw [List.drop_of_length_le (by omega)] at q
    refine Br.neg (by omega) (Lf.i (q1 ?_))
    cases p <;> exact q
  | succ n ih =>
    intro i p h hp q
    have hi : i < a.length := by omega
    refine accrue_Check_l0 ?_
    unfold accrue_Check_w0
    rw [lenM_eq]
    rw [List.drop_eq_getElem_cons hi, resG_cons] at q
    have g : a[(i : Int).toNat]? = some a[i] := by simp [hi]
    have hn : PreR a (i + 1) (some a[i].Day) := .inr ⟨by omega, _, rfl, by rw [Nat.add_sub_cancel]; exact List.getElem?_eq_getElem hi⟩
    refine Br.pos (by omega) ⟨a[i], Got.i ⟨_, good_r _, Br.b (fun c => Lf.i (q0 10 (by decide) ?_)) (fun c => ?_)⟩ (by omega) g⟩
    · rw [if_pos (by simpa using c)] at q; exact q
    · rw [if_neg (by simpa using c)] at q
      have fin : P (if inS a[i].Rate (-1000000) 1000000 = false then 1 else resG (some a[i].Day) (a.drop (i + 1))) → Br (decide (a[i].Rate < (-1000000))) (accrue_Check_x0_0 a Q0 1) (Br (decide (a[i].Rate > 1000000)) (accrue_Check_x0_0 a Q0 1) (Num .i64 ((i : Int) + 1) (accrue_Check_L0 a Q0 Q1 ((i : Int) + 1)))) := fun q =>
        Br.i (fun c => Lf.i (q0 1 (by decide) (by rw [if_pos (inS_no (by omega))] at q; exact q))) (fun c => Br.i (fun c2 => Lf.i (q0 1 (by decide) (by rw [if_pos (inS_no (by omega))] at q; exact q))) (fun c2 => Num.n (by omega) (ih (i + 1) _ (by omega) hn (by rw [if_neg (by rw [inS_mk (by omega)]; decide)] at q; exact q))))
      rcases hp with ⟨rfl, rfl⟩ | ⟨h0, y, rfl, hy⟩
      · exact Br.neg (by omega) (fin q)
      · have g2 : a[((i : Int) - 1).toNat]? = some y := by rw [show ((i : Int) - 1).toNat = i - 1 by omega]; exact hy
        have q : P (if a[i].Day ≤ y.Day then 10 else if inS a[i].Rate (-1000000) 1000000 = false then 1 else resG (some a[i].Day) (a.drop (i + 1))) := q
        refine Br.pos (by omega) (Num.n (by omega) ⟨y, Got.i (Br.i (fun c => Lf.i (q0 10 (by decide) ?_)) (fun c => fin ?_)) (by omega) g2⟩)
        · rw [if_pos c] at q; exact q
        · rw [if_neg c] at q; exact q
theorem Res_r {a : List api_Reset} (hl : a.length ≤ 1000000) : accrue_Check_r a (resS a) := by
  refine accrue_Check_of ?_
  unfold accrue_Check_w resS
  rw [lenM_eq]
  refine Br.i (fun c => Rt.i (by rw [if_pos c])) (fun c => ?_)
  rw [if_neg c]
  refine Br.i (fun c => Rt.i (by rw [if_pos c])) (fun c => ?_)
  rw [if_neg c]
  exact res_l hl (P := fun v => v = resG none a) (fun v _ hv => Rt.i hv) (fun hv => Rt.i hv) a.length 0 none (by omega) (.inl ⟨rfl, rfl⟩) (by rw [List.drop_zero])
theorem rres_l {a : List api_Reset} (hl : a.length ≤ 1000000) {P : Int → Prop} {Q0 : Int → Prop} {Q1 : Unit → Prop} (q0 : ∀ e, e ≠ 0 → P e → Q0 e) (q1 : P 0 → Q1 ()) : ∀ (n i : Nat) (p : Option Int), n + i = a.length → PreR a i p → P (resG p (a.drop i)) → lombardref03_Check_L0 a Q0 Q1 (i : Int) := by
  intro n
  induction n with
  | zero =>
    intro i p h hp q
    refine lombardref03_Check_l0 ?_
    unfold lombardref03_Check_w0
    rw [lenM_eq]
    rw [List.drop_of_length_le (by omega)] at q
    refine Br.neg (by omega) (Lf.i (q1 ?_))
    cases p <;> exact q
  | succ n ih =>
    intro i p h hp q
    have hi : i < a.length := by omega
    refine lombardref03_Check_l0 ?_
    unfold lombardref03_Check_w0
    rw [lenM_eq]
    rw [List.drop_eq_getElem_cons hi, resG_cons] at q
    have g : a[(i : Int).toNat]? = some a[i] := by simp [hi]
    have z : (0 : Int) ≤ (i : Int) := by omega
    have hn : PreR a (i + 1) (some a[i].Day) := .inr ⟨by omega, _, rfl, by rw [Nat.add_sub_cancel]; exact List.getElem?_eq_getElem hi⟩
    refine Br.pos (by omega) ⟨a[i], Got.i ⟨_, rgood2_r _, Br.b (fun c => Lf.i (q0 10 (by decide) ?_)) (fun c => ?_)⟩ z g⟩
    · rw [if_pos (by simpa using c)] at q; exact q
    · rw [if_neg (by simpa using c)] at q
      rcases hp with ⟨rfl, rfl⟩ | ⟨h0, y, rfl, hy⟩
      · have q : P (if inS a[0].Rate (-1000000) 1000000 = false then 1 else resG (some a[0].Day) (a.drop 1)) := q
        refine Br.neg (by omega) (Got.i ⟨_, rated_r _, Br.b (fun c => Lf.i (q0 1 (by decide) ?_)) (fun c => Num.n (by omega) (ih 1 _ (by omega) hn ?_))⟩ z g)
        · rw [if_pos (by simpa using c)] at q; exact q
        · rw [if_neg (by simpa using c)] at q; exact q
      · have g2 : a[((i : Int) - 1).toNat]? = some y := by rw [show ((i : Int) - 1).toNat = i - 1 by omega]; exact hy
        have q : P (if a[i].Day ≤ y.Day then 10 else if inS a[i].Rate (-1000000) 1000000 = false then 1 else resG (some a[i].Day) (a.drop (i + 1))) := q
        refine Br.pos (by omega) (Got.i (Num.n (by omega) ⟨y, Got.i (Br.i (fun c => Lf.i (q0 10 (by decide) ?_)) (fun c => ?_)) (by omega) g2⟩) z g)
        · rw [if_pos c] at q; exact q
        · rw [if_neg c] at q
          refine Got.i ⟨_, rated_r _, Br.b (fun c => Lf.i (q0 1 (by decide) ?_)) (fun c => Num.n (by omega) (ih (i + 1) _ (by omega) hn ?_))⟩ z g
          · rw [if_pos (by simpa using c)] at q; exact q
          · rw [if_neg (by simpa using c)] at q; exact q
theorem RRes_r {a : List api_Reset} (hl : a.length ≤ 1000000) : lombardref03_Check_r a (resS a) := by
  refine lombardref03_Check_of ?_
  unfold lombardref03_Check_w resS
  rw [lenM_eq]
  refine Br.i (fun c => Rt.i (by rw [if_pos c])) (fun c => ?_)
  rw [if_neg c]
  refine Br.i (fun c => Rt.i (by rw [if_pos c])) (fun c => ?_)
  rw [if_neg c]
  exact rres_l hl (P := fun v => v = resG none a) (fun v _ hv => Rt.i hv) (fun hv => Rt.i hv) a.length 0 none (by omega) (.inl ⟨rfl, rfl⟩) (by rw [List.drop_zero])
theorem resG_ok : ∀ (l : List api_Reset) (p : Option Int), resG p l = 0 → l.Pairwise (fun x y => x.Day < y.Day) ∧ (∀ x ∈ l, (0 ≤ x.Day ∧ x.Day ≤ 200000) ∧ -1000000 ≤ x.Rate ∧ x.Rate ≤ 1000000) ∧ ∀ d, p = some d → ∀ x ∈ l, d < x.Day
  | [], _, _ => ⟨List.Pairwise.nil, by simp, by simp⟩
  | x :: l, p, h => by
    rw [resG_cons] at h
    by_cases c : inS x.Day 0 200000 = false
    · rw [if_pos c] at h; cases h
    · rw [if_neg c] at h
      have key : resG (some x.Day) l = 0 ∧ (-1000000 ≤ x.Rate ∧ x.Rate ≤ 1000000) ∧ ∀ d, p = some d → d < x.Day := by
        cases p with
        | none =>
          have h : (if inS x.Rate (-1000000) 1000000 = false then 1 else resG (some x.Day) l) = 0 := h
          by_cases k : inS x.Rate (-1000000) 1000000 = false
          · rw [if_pos k] at h; cases h
          · rw [if_neg k] at h; exact ⟨h, inS_t (by simpa using k), fun d hd => by cases hd⟩
        | some d =>
          have h : (if x.Day ≤ d then 10 else if inS x.Rate (-1000000) 1000000 = false then 1 else resG (some x.Day) l) = 0 := h
          by_cases k0 : x.Day ≤ d
          · rw [if_pos k0] at h; cases h
          · rw [if_neg k0] at h
            by_cases k : inS x.Rate (-1000000) 1000000 = false
            · rw [if_pos k] at h; cases h
            · rw [if_neg k] at h; exact ⟨h, inS_t (by simpa using k), fun e he => by cases he; omega⟩
      obtain ⟨k1, k2, k3⟩ := resG_ok l (some x.Day) key.1
      refine ⟨List.pairwise_cons.2 ⟨fun z hz => k3 _ rfl z hz, k1⟩, fun z hz => ?_, fun d hd z hz => ?_⟩
      · rcases List.mem_cons.1 hz with rfl | hz
        · exact ⟨inS_t (by simpa using c), key.2.1⟩
        · exact k2 z hz
      · have := key.2.2 d hd
        rcases List.mem_cons.1 hz with rfl | hz
        · exact this
        · have := k3 _ rfl z hz; omega
structure RsOk (l : List api_Reset) : Prop where
  srt : l.Pairwise (fun x y => x.Day < y.Day)
  bd : ∀ x ∈ l, (0 ≤ x.Day ∧ x.Day ≤ 200000) ∧ -1000000 ≤ x.Rate ∧ x.Rate ≤ 1000000
  len : l.length ≤ 64
  ne : l ≠ []
theorem resS_ok {l : List api_Reset} (h : resS l = 0) : RsOk l := by
  unfold resS at h
  by_cases c : ((l.length : Nat) : Int) = 0
  · rw [if_pos c] at h; cases h
  · rw [if_neg c] at h
    by_cases c2 : (64 : Int) < ((l.length : Nat) : Int)
    · rw [if_pos c2] at h; cases h
    · rw [if_neg c2] at h
      obtain ⟨h1, h2, _⟩ := resG_ok l none h
      exact ⟨h1, h2, by omega, fun e => c (by rw [e]; rfl)⟩
/-! What is wrong with a trade. -/
def termsS (b a r s e : Int) : Int := if ¬ ((1 ≤ b ∧ b ≤ 64) ∧ (1 ≤ a ∧ a ≤ 1125899906842624) ∧ -1000000 ≤ r ∧ r ≤ 1000000) then 1 else if inS s 0 200000 = false then 10 else if e = 0 then 0 else if inS e 0 200000 = false then 10 else if ¬ (1 ≤ e - s ∧ e - s ≤ 3660) then 10 else 0
def GoodT (t : api_Trade) : Prop := (1 ≤ t.ID ∧ t.ID ≤ 1125899906842624) ∧ (1 ≤ t.Twin ∧ t.Twin ≤ 1125899906842624) ∧ (1 ≤ t.Side ∧ t.Side ≤ 2) ∧ (1 ≤ t.Stage ∧ t.Stage ≤ 5)
instance (t : api_Trade) : Decidable (GoodT t) := by unfold GoodT; exact instDecidableAnd
def tradeR (t : api_Trade) : Int := if resS t.Resets ≠ 0 then resS t.Resets else match t.Resets with
  | [] => 0
  | x :: _ => if x.Day ≠ t.Start then 10 else if inS t.Member 1 32 = false then 22 else termsS t.Basket t.Amount x.Rate t.Start t.End
def tradeS (t : api_Trade) : Int := if ¬ GoodT t then 1 else if t.Side = 1 ∧ t.Twin ≠ t.ID + 1 then 32 else if t.Side = 2 ∧ t.Twin ≠ t.ID - 1 then 32 else tradeR t
theorem who_r (n : Int) : trade_Fill_1_r n (inS n 1 32) := by
  refine trade_Fill_1_of ?_
  unfold trade_Fill_1_w inS
  refine Br.i (fun c => Rt.i (decide_eq_decide.2 ⟨fun k => ⟨by omega, k⟩, fun k => k.2⟩)) (fun c => Rt.i (decide_eq_false (fun k => c (by omega))).symm)
theorem fill_ok {f : api_Fill} (h1 : 1 ≤ f.Lender ∧ f.Lender ≤ 32) (h2 : 1 ≤ f.Borrower ∧ f.Borrower ≤ 32) (h3 : f.Lender ≠ f.Borrower) : trade_Fill_r f (termsS f.Basket f.Amount f.Rate f.Start f.End) := by
  refine trade_Fill_of ?_
  unfold trade_Fill_w
  have w1 := who_r f.Lender
  have w2 := who_r f.Borrower
  rw [inS_mk h1] at w1
  rw [inS_mk h2] at w2
  refine ⟨_, w1, Br.f rfl ⟨_, w2, ?_⟩⟩
  unfold trade_Fill_j0
  refine Jn.i (Br.f rfl (Br.neg h3 ?_))
  have bad : ¬ ((1 ≤ f.Basket ∧ f.Basket ≤ 64) ∧ (1 ≤ f.Amount ∧ f.Amount ≤ 1125899906842624) ∧ -1000000 ≤ f.Rate ∧ f.Rate ≤ 1000000) → trade_Fill_j1 f (fun v_ => v_ = termsS f.Basket f.Amount f.Rate f.Start f.End) true := fun k => by
    unfold trade_Fill_j1
    exact Jn.i (Br.t rfl (Rt.i (by unfold termsS; rw [if_pos k])))
  have ok : (1 ≤ f.Basket ∧ f.Basket ≤ 64) ∧ (1 ≤ f.Amount ∧ f.Amount ≤ 1125899906842624) ∧ -1000000 ≤ f.Rate ∧ f.Rate ≤ 1000000 → trade_Fill_j1 f (fun v_ => v_ = termsS f.Basket f.Amount f.Rate f.Start f.End) false := fun k => by
    unfold trade_Fill_j1 termsS
    rw [if_neg (fun q => q k)]
    refine Jn.i (Br.f rfl ⟨_, good_r _, Br.b (fun c => Rt.i (by rw [if_pos (by simpa using c)])) (fun c => ?_)⟩)
    rw [if_neg (by simpa using c)]
    have sb := inS_t (show inS f.Start 0 200000 = true by simpa using c)
    refine Br.i (fun c => ?_) (fun c => Rt.i (by rw [if_pos (Decidable.not_not.1 c)]))
    rw [if_neg c]
    refine ⟨_, good_r _, Br.b (fun c => Rt.i (by rw [if_pos (by simpa using c)])) (fun c => ?_)⟩
    rw [if_neg (by simpa using c)]
    have eb := inS_t (show inS f.End 0 200000 = true by simpa using c)
    refine Br.i (fun c => Rt.i (by rw [if_pos (by omega)])) (fun c => Num.n (by omega) (Br.i (fun c2 => Rt.i (by rw [if_pos (by omega)])) (fun c2 => Rt.i (by rw [if_neg (by omega)]))))
  refine Br.i (fun c => bad (by omega)) (fun c1 => Br.i (fun c => bad (by omega)) (fun c2 => Br.i (fun c => bad (by omega)) (fun c3 => Br.i (fun c => bad (by omega)) (fun c4 => Br.i (fun c => bad (by omega)) (fun c5 => ?_)))))
  by_cases c6 : f.Rate > 1000000
  · rw [decide_eq_true c6]; exact bad (by omega)
  · rw [decide_eq_false c6]; exact ok (by omega)
theorem fill_bad {f : api_Fill} (h1 : ¬ (1 ≤ f.Lender ∧ f.Lender ≤ 32)) : trade_Fill_r f 22 := by
  refine trade_Fill_of ?_
  unfold trade_Fill_w
  have w1 := who_r f.Lender
  rw [inS_no h1] at w1
  refine ⟨_, w1, Br.t rfl ?_⟩
  unfold trade_Fill_j0
  exact Jn.i (Br.t rfl (Rt.i rfl))
theorem tmod_bd (a : Int) : -32 < Int.tmod a 32 ∧ Int.tmod a 32 < 32 := by
  have := Int.natAbs_tmod a 32
  have : (Int.tmod a 32).natAbs < 32 := by rw [this]; exact Nat.mod_lt _ (by decide)
  omega
theorem Check_tr {t : api_Trade} (hl : t.Resets.length ≤ 1000000) : trade_Check_r t (tradeS t) := by
  refine trade_Check_of ?_
  unfold trade_Check_w
  have bad : ¬ GoodT t → trade_Check_j0 t (fun v_ => v_ = tradeS t) true := fun k => by
    unfold trade_Check_j0
    exact Jn.i (Br.t rfl (Rt.i (by unfold tradeS; rw [if_pos k])))
  have ok : GoodT t → trade_Check_j0 t (fun v_ => v_ = tradeS t) false := fun k => by
    have ⟨k1, k2, k3, k4⟩ := k
    have rest : ¬ (t.Side = 1 ∧ t.Twin ≠ t.ID + 1) → ¬ (t.Side = 2 ∧ t.Twin ≠ t.ID - 1) → trade_Check_j1 t (fun v_ => v_ = tradeS t) () := fun n1 n2 => by
      unfold trade_Check_j1 tradeS
      rw [if_neg (fun q => q k), if_neg n1, if_neg n2]
      unfold tradeR
      refine Jn.i ⟨_, Res_r hl, Br.i (fun c => Rt.i (by rw [if_pos c])) (fun c => ?_)⟩
      rw [if_neg c]
      have ne := (resS_ok (Decidable.not_not.1 c)).ne
      cases hr : t.Resets with
      | nil => exact absurd hr ne
      | cons x l =>
        have g : (x :: l)[(0 : Int).toNat]? = some x := rfl
        refine ⟨x, Got.i (Br.i (fun c => Rt.i (if_pos c).symm) (fun c => ?_)) (by decide) g⟩
        simp only [if_neg c]
        have tb := tmod_bd t.Member
        refine ⟨by decide, Num.n (by omega) (Got.i ?_ (by decide) g)⟩
        by_cases m : 1 ≤ t.Member ∧ t.Member ≤ 32
        · have tm : Int.tmod t.Member 32 = t.Member % 32 := Int.tmod_eq_emod_of_nonneg (by omega)
          refine ⟨_, fill_ok (f := ⟨t.Member, Int.tmod t.Member 32 + 1, t.Basket, t.Amount, x.Rate, t.Start, t.End⟩) m (by show 1 ≤ Int.tmod t.Member 32 + 1 ∧ Int.tmod t.Member 32 + 1 ≤ 32; rw [tm]; omega) (by show t.Member ≠ Int.tmod t.Member 32 + 1; rw [tm]; omega), Rt.i ?_⟩
          rw [if_neg (by rw [inS_mk m]; decide)]
        · refine ⟨_, fill_bad (f := ⟨t.Member, Int.tmod t.Member 32 + 1, t.Basket, t.Amount, x.Rate, t.Start, t.End⟩) m, Rt.i ?_⟩
          rw [if_pos (inS_no m)]
    have e32a : t.Side = 1 ∧ t.Twin ≠ t.ID + 1 → 32 = tradeS t := fun q => by unfold tradeS; rw [if_neg (fun q => q k), if_pos q]
    have e32b : ¬ (t.Side = 1 ∧ t.Twin ≠ t.ID + 1) → t.Side = 2 ∧ t.Twin ≠ t.ID - 1 → 32 = tradeS t := fun n q => by unfold tradeS; rw [if_neg (fun q => q k), if_neg n, if_pos q]
    unfold trade_Check_j0
    refine Jn.i (Br.f rfl (Br.i (fun c => Num.n (by omega) (Br.i (fun c2 => Rt.i (e32a ⟨c, c2⟩)) (fun c2 => Br.i (fun c3 => absurd c3 (by omega)) (fun c3 => rest (by omega) (by omega))))) (fun c => Br.i (fun c2 => Num.n (by omega) (Br.i (fun c3 => Rt.i (e32b (by omega) ⟨c2, c3⟩)) (fun c3 => rest (by omega) (by omega)))) (fun c2 => rest (by omega) (by omega)))))
  have last : (1 ≤ t.ID ∧ t.ID ≤ 1125899906842624) → (1 ≤ t.Twin ∧ t.Twin ≤ 1125899906842624) → (1 ≤ t.Side ∧ t.Side ≤ 2) → Br (decide (t.Stage < 1)) (trade_Check_j0 t (fun v_ => v_ = tradeS t) true) (trade_Check_j0 t (fun v_ => v_ = tradeS t) (decide (t.Stage > 5))) := fun k1 k2 k3 => by
    refine Br.i (fun c => bad (fun q => by have := q.2.2.2.1; omega)) (fun c => ?_)
    by_cases c6 : t.Stage > 5
    · rw [decide_eq_true c6]; exact bad (fun q => by have := q.2.2.2.2; omega)
    · rw [decide_eq_false c6]; exact ok ⟨k1, k2, k3, by omega, by omega⟩
  refine Br.i (fun c => bad (fun q => by have := q.1.1; omega)) (fun c1 => Br.i (fun c => bad (fun q => by have := q.2.1.1; omega)) (fun c2 => Br.i (fun c => bad (fun q => by have := q.1.2; omega)) (fun c3 => Br.i (fun c => bad (fun q => by have := q.2.1.2; omega)) (fun c4 => Br.i (fun c5 => Br.i (fun c => bad (fun q => by have := q.2.2.1; omega)) (fun c6 => last (by omega) (by omega) (by omega))) (fun c5 => last (by omega) (by omega) (by omega))))))
theorem Terms_r (f : api_Fill) : lombardref23_Terms_r f (termsS f.Basket f.Amount f.Rate f.Start f.End) := by
  refine lombardref23_Terms_of ?_
  unfold lombardref23_Terms_w
  have bad : ¬ ((1 ≤ f.Basket ∧ f.Basket ≤ 64) ∧ (1 ≤ f.Amount ∧ f.Amount ≤ 1125899906842624) ∧ -1000000 ≤ f.Rate ∧ f.Rate ≤ 1000000) → (1 : Int) = termsS f.Basket f.Amount f.Rate f.Start f.End := fun k => by unfold termsS; rw [if_pos k]
  refine ⟨_, in_r _ _ _, Br.b (fun c => Rt.i (bad (fun q => inS_f (by simpa using c) q.1))) (fun c1 => ⟨_, in_r _ _ _, Br.b (fun c => Rt.i (bad (fun q => inS_f (by simpa using c) q.2.1))) (fun c2 => ⟨_, in_r _ _ _, Br.b (fun c => Rt.i (bad (fun q => inS_f (by simpa using c) q.2.2))) (fun c3 => ?_)⟩)⟩)⟩
  unfold termsS
  rw [if_neg (fun q => q ⟨inS_t (by simpa using c1), inS_t (by simpa using c2), inS_t (by simpa using c3)⟩)]
  refine ⟨_, rgood2_r _, Br.b (fun c => Rt.i (by rw [if_pos (by simpa using c)])) (fun c => ?_)⟩
  rw [if_neg (by simpa using c)]
  have sb := inS_t (show inS f.Start 0 200000 = true by simpa using c)
  refine Br.i (fun c => ?_) (fun c => Rt.i (by rw [if_pos (Decidable.not_not.1 c)]))
  rw [if_neg c]
  refine ⟨_, rgood2_r _, Br.b (fun c => Rt.i (by rw [if_pos (by simpa using c)])) (fun c => ?_)⟩
  rw [if_neg (by simpa using c)]
  have eb := inS_t (show inS f.End 0 200000 = true by simpa using c)
  refine Num.n (by omega) ⟨_, in_r _ _ _, Br.b (fun c => Rt.i (by rw [if_pos (inS_f (by simpa using c))])) (fun c => Rt.i (by rw [if_neg (fun q => q (inS_t (by simpa using c)))]))⟩
theorem RCheck_tr {t : api_Trade} (hl : t.Resets.length ≤ 1000000) : lombardref23_Check_r t (tradeS t) := by
  refine lombardref23_Check_of ?_
  unfold lombardref23_Check_w
  have bad : ¬ GoodT t → (1 : Int) = tradeS t := fun k => by unfold tradeS; rw [if_pos k]
  refine ⟨_, in_r _ _ _, Br.b (fun c => Rt.i (bad (fun q => inS_f (by simpa using c) q.1))) (fun c1 => ⟨_, in_r _ _ _, Br.b (fun c => Rt.i (bad (fun q => inS_f (by simpa using c) q.2.1))) (fun c2 => ⟨_, in_r _ _ _, Br.b (fun c => Rt.i (bad (fun q => inS_f (by simpa using c) q.2.2.1))) (fun c3 => ⟨_, in_r _ _ _, Br.b (fun c => Rt.i (bad (fun q => inS_f (by simpa using c) q.2.2.2))) (fun c4 => ?_)⟩)⟩)⟩)⟩
  have k1 := inS_t (show inS t.ID 1 1125899906842624 = true by simpa using c1)
  have k2 := inS_t (show inS t.Twin 1 1125899906842624 = true by simpa using c2)
  have k3 := inS_t (show inS t.Side 1 2 = true by simpa using c3)
  have k4 := inS_t (show inS t.Stage 1 5 = true by simpa using c4)
  have k : GoodT t := ⟨k1, k2, k3, k4⟩
  have e32a : t.Side = 1 ∧ t.Twin ≠ t.ID + 1 → 32 = tradeS t := fun q => by unfold tradeS; rw [if_neg (fun q => q k), if_pos q]
  have e32b : ¬ (t.Side = 1 ∧ t.Twin ≠ t.ID + 1) → t.Side = 2 ∧ t.Twin ≠ t.ID - 1 → 32 = tradeS t := fun n q => by unfold tradeS; rw [if_neg (fun q => q k), if_neg n, if_pos q]
  have rest : ¬ (t.Side = 1 ∧ t.Twin ≠ t.ID + 1) → ¬ (t.Side = 2 ∧ t.Twin ≠ t.ID - 1) → lombardref23_Check_j0 t (fun v_ => v_ = tradeS t) () := fun n1 n2 => by
    unfold lombardref23_Check_j0 tradeS
    rw [if_neg (fun q => q k), if_neg n1, if_neg n2]
    unfold tradeR
    refine Jn.i ⟨_, RRes_r hl, Br.i (fun c => Rt.i (by rw [if_pos c])) (fun c => ?_)⟩
    rw [if_neg c]
    have ne := (resS_ok (Decidable.not_not.1 c)).ne
    cases hr : t.Resets with
    | nil => exact absurd hr ne
    | cons x l =>
      have g : (x :: l)[(0 : Int).toNat]? = some x := rfl
      refine ⟨x, Got.i (Br.i (fun c => Rt.i (if_pos c).symm) (fun c => ?_)) (by decide) g⟩
      simp only [if_neg c]
      refine ⟨_, in_r _ _ _, Br.b (fun c => Rt.i (by rw [if_pos (by simpa using c)])) (fun c => ?_)⟩
      rw [if_neg (by simpa using c)]
      exact Got.i ⟨_, Terms_r _, Rt.i rfl⟩ (by decide) g
  refine Br.i (fun c => Num.n (by omega) (Br.i (fun c2 => Rt.i (e32a ⟨c, by omega⟩)) (fun c2 => Br.i (fun c3 => absurd c3 (by omega)) (fun c3 => rest (by omega) (by omega))))) (fun c => Br.i (fun c2 => Num.n (by omega) (Br.i (fun c3 => Rt.i (e32b (by omega) ⟨c2, by omega⟩)) (fun c3 => rest (by omega) (by omega)))) (fun c2 => rest (by omega) (by omega)))
end Go.Proofs.YtghkboapcapooaaGreat.Pure
namespace Go.Proofs.YtghkboapcapooaaGreat.Pure
open Go Go.Ab Go.Proofs.YtghkboapcapooaaGreat.R
set_option linter.unusedVariables false
/-! A product, divided, cut down. -/
theorem mulDivF {a b c : Int} (ha : 0 ≤ a) (hc : 0 < c) (h0 : -9000000000000000000 ≤ a * b / c) (h1 : a * b / c ≤ 9000000000000000000) : mulDivS a b c 1 = (a * b / c, 0) := by
  unfold mulDivS
  rw [if_neg (by omega)]
  simp only
  rw [show (a.natAbs : Int) = a by omega, show (c.natAbs : Int) = c by omega]
  by_cases hb : 0 ≤ b
  · have m : minusOf a b c = false := by unfold minusOf; rw [decide_eq_false (by omega), decide_eq_false (by omega), decide_eq_false (by omega)]; rfl
    have u : ∀ q r d, upOf false q r d 1 = false := by intro q r d; unfold upOf; simp
    rw [show (b.natAbs : Int) = b by omega, m, u]
    simp only [Bool.false_eq_true, if_false, Int.add_zero]
    unfold signOf
    rw [if_neg (by omega)]
    rfl
  · have m : minusOf a b c = true := by unfold minusOf; rw [decide_eq_false (by omega), decide_eq_true (by omega), decide_eq_false (by omega)]; rfl
    have e : a * b = -(a * (b.natAbs : Int)) := by rw [show b = -(b.natAbs : Int) by omega, Int.mul_neg]; rw [show ((-(b.natAbs : Int)).natAbs : Int) = (b.natAbs : Int) by omega]
    rw [m]
    rw [e] at h0 h1 ⊢
    generalize a * (b.natAbs : Int) = n at h0 h1 ⊢
    have q1 := Int.mul_ediv_add_emod n c
    have q2 := Int.emod_nonneg n (show c ≠ 0 by omega)
    have q3 := Int.emod_lt_of_pos n hc
    generalize n / c = X at q1 ⊢
    generalize n % c = r at q1 q2 q3 ⊢
    have u : upOf true X r c 1 = decide (r ≠ 0) := by unfold upOf; by_cases k : r = 0 <;> simp [k]
    rw [u]
    by_cases k : r = 0
    · have ed : (-n) / c = -X ∧ (-n) % c = 0 := Int.ediv_emod_unique hc |>.2 ⟨by rw [← q1, k, Int.mul_neg]; omega, by omega, hc⟩
      rw [ed.1] at h0 h1 ⊢
      simp only [k, ne_eq, not_true_eq_false, decide_false, Bool.false_eq_true, if_false, Int.add_zero]
      unfold signOf
      rw [if_neg (by omega)]
      simp
    · have ed : (-n) / c = -X - 1 ∧ (-n) % c = c - r := Int.ediv_emod_unique hc |>.2 ⟨by rw [← q1, Int.mul_sub, Int.mul_neg]; omega, by omega, by omega⟩
      rw [ed.1] at h0 h1 ⊢
      simp only [ne_eq, k, not_false_eq_true, decide_true, if_true]
      unfold signOf
      rw [if_neg (by omega)]
      simp only [if_true, Prod.mk.injEq, and_true]
      omega
theorem prodB {a r : Int} (ha : 0 ≤ a ∧ a ≤ 1125899906842624) (hr : -4000000000 ≤ r ∧ r ≤ 4000000000) : -4503599627370496000000000 ≤ a * r ∧ a * r ≤ 4503599627370496000000000 := by
  have h1 : a * r ≤ a * 4000000000 := Int.mul_le_mul_of_nonneg_left hr.2 ha.1
  have h2 : a * (-4000000000) ≤ a * r := Int.mul_le_mul_of_nonneg_left hr.1 ha.1
  omega
/-! The meter. -/
theorem FPlus_s {a b : Int} (ha : -4000000000000000000 ≤ a ∧ a ≤ 4000000000000000000) (hb : -4000000000000000000 ≤ b ∧ b ≤ 4000000000000000000) : fixnum_Plus_r a b (a + b, 0) := by
  refine fixnum_Plus_of ?_
  unfold fixnum_Plus_w
  rw [iw (a + b) (by omega) (by omega)]
  refine (Br.i (fun c => Br.i (fun c2 => Br.i (fun c3 => absurd c3 (by omega)) (fun c3 => Br.i (fun c4 => absurd c4 (by omega)) (fun c4 => Rt.i rfl))) (fun c2 => Br.i (fun c4 => absurd c4 (by omega)) (fun c4 => Rt.i rfl))) (fun c => Br.i (fun c2 => Br.i (fun c3 => Br.i (fun c4 => absurd c4 (by omega)) (fun c4 => Rt.i rfl)) (fun c3 => Rt.i rfl)) (fun c2 => Rt.i rfl)))
theorem RPlus_s {a b : Int} (ha : -4000000000000000000 ≤ a ∧ a ≤ 4000000000000000000) (hb : -4000000000000000000 ≤ b ∧ b ≤ 4000000000000000000) : lombardref01_Plus_r a b (a + b, 0) := by
  refine lombardref01_Plus_of ?_
  unfold lombardref01_Plus_w
  refine Br.i (fun c => Num.n (by omega) (Br.i (fun c2 => absurd c2 (by omega)) (fun c2 => Br.i (fun c3 => absurd c3 (by omega)) (fun c3 => Num.n (by omega) (Rt.i rfl))))) (fun c => Br.i (fun c2 => Num.n (by omega) (Br.i (fun c3 => absurd c3 (by omega)) (fun c3 => Num.n (by omega) (Rt.i rfl)))) (fun c2 => Num.n (by omega) (Rt.i rfl)))
theorem agood_r {a r : Int} (ha : 0 ≤ a ∧ a ≤ 1125899906842624) (hr : -1000000 ≤ r ∧ r ≤ 1000000) : accrue_good_r a r true := by
  refine accrue_good_of ?_
  unfold accrue_good_w
  exact Br.pos (by omega) (Br.pos (by omega) (Br.pos (by omega) (Rt.i (decide_eq_true hr.2))))
theorem Day_r {u rest a r : Int} (hu : -1000000000000000000 ≤ u ∧ u ≤ 1000000000000000000) (h0 : 0 ≤ rest ∧ rest < 360000000) (ha : 0 ≤ a ∧ a ≤ 1125899906842624) (hr : -1000000 ≤ r ∧ r ≤ 1000000) :
    _accrue_Meter_Day_r ⟨u, rest⟩ a r (⟨(u * 360000000 + rest + a * r) / 360000000, (u * 360000000 + rest + a * r) % 360000000⟩, 0) := by
  refine _accrue_Meter_Day_of ?_
  unfold _accrue_Meter_Day_w
  have pb := prodB ha (r := r) (by omega)
  have md : mulDivS a r 360000000 1 = (a * r / 360000000, 0) := mulDivF ha.1 (by decide) (by omega) (by omega)
  have M := MulDiv_r (a := a) (b := r) (c := 360000000) (how := 1) ⟨by omega, by omega⟩ ⟨by omega, by omega⟩ ⟨by decide, by decide⟩
  rw [md] at M
  have sz : max r (IntKind.i64.wrap (0 - r)) = (r.natAbs : Int) := by rw [iw _ (by omega) (by omega)]; omega
  have ua : IntKind.u64.wrap a = a := u64 (by omega) (by omega)
  have ur : IntKind.u64.wrap (max r (IntKind.i64.wrap (0 - r))) = (r.natAbs : Int) := by rw [sz]; exact u64 (by omega) (by omega)
  have pn := prodB ha (r := (r.natAbs : Int)) (by omega)
  have pn0 : 0 ≤ a * (r.natAbs : Int) := Int.mul_nonneg ha.1 (by omega)
  have sgn : a * r = if r < 0 then -(a * (r.natAbs : Int)) else a * (r.natAbs : Int) := by
    by_cases k : r < 0
    · rw [if_pos k]
      conv => lhs; rw [show r = -(r.natAbs : Int) by omega, Int.mul_neg]
    · rw [if_neg k]
      conv => lhs; rw [show r = (r.natAbs : Int) by omega]
  have W := Mul_r (a := a) (b := (r.natAbs : Int)) ha.1 (by omega) (by omega) (by omega)
  generalize a * (r.natAbs : Int) = n at sgn pn pn0 W
  obtain ⟨Q, R, D, d1, d2, d3, d4, d5⟩ := Div_r (hi := n / 18446744073709551616) (lo := n % 18446744073709551616) (d := 360000000) (by omega) (by omega) (by omega) (by omega) (by decide) (by decide)
  have hR : R = n % 360000000 := by rw [d1]; congr 1; omega
  have wr : IntKind.i64.wrap R = R := iw _ (by omega) (by omega)
  generalize a * r = T at md M sgn pb
  refine ⟨_, agood_r ha hr, Br.f rfl (Br.neg (by show ¬ rest < 0; omega) (Br.neg (by show ¬ rest ≥ 360000000; omega) ⟨_, M, Br.f rfl ⟨⟨n / 18446744073709551616, n % 18446744073709551616⟩, by rw [ua, ur]; exact W, _, D, ?_⟩⟩))⟩
  have fin : ∀ p : Int, p = T % 360000000 → _accrue_Meter_Day_j0 (T / 360000000, 0) ⟨u, rest⟩ (fun v_ => v_ = ((⟨(u * 360000000 + rest + T) / 360000000, (u * 360000000 + rest + T) % 360000000⟩ : accrue_Meter), 0)) p := fun p hp => by
    have p0 : 0 ≤ p ∧ p < 360000000 := by omega
    unfold _accrue_Meter_Day_j0
    refine Jn.i (Num.n (by show _ ≤ rest + p ∧ rest + p ≤ _; omega) (Br.i (fun c => Num.n (by show _ ≤ rest + p - 360000000 ∧ rest + p - 360000000 ≤ _; omega) (Num.n (by show _ ≤ T / 360000000 + 1 ∧ T / 360000000 + 1 ≤ _; omega) ?_)) (fun c => ?_)))
    · unfold _accrue_Meter_Day_j1
      have c : rest + p ≥ 360000000 := c
      have P := FPlus_s (a := u) (b := T / 360000000 + 1) (by omega) (by omega)
      refine Jn.i ⟨_, P, Br.f rfl (Rt.i ?_)⟩
      simp only [Prod.mk.injEq, and_true, accrue_Meter.mk.injEq]
      omega
    · unfold _accrue_Meter_Day_j1
      have c : ¬ rest + p ≥ 360000000 := c
      have P := FPlus_s (a := u) (b := T / 360000000) (by omega) (by omega)
      refine Jn.i ⟨_, P, Br.f rfl (Rt.i ?_)⟩
      simp only [Prod.mk.injEq, and_true, accrue_Meter.mk.injEq]
      omega
  show Br (decide (r < 0)) (Br (decide (IntKind.i64.wrap R > 0)) (Num .i64 (360000000 - IntKind.i64.wrap R) (_accrue_Meter_Day_j0 _ _ _ (360000000 - IntKind.i64.wrap R))) (_accrue_Meter_Day_j0 _ _ _ (IntKind.i64.wrap R))) (_accrue_Meter_Day_j0 _ _ _ (IntKind.i64.wrap R))
  rw [wr]
  refine Br.i (fun c => Br.i (fun c2 => Num.n (by omega) (fin _ ?_)) (fun c2 => fin _ ?_)) (fun c => fin _ ?_)
  · rw [if_pos c] at sgn; omega
  · rw [if_pos c] at sgn; omega
  · rw [if_neg c] at sgn; omega
/-! The rate of a day. -/
def rateL : Int → Int → List api_Reset → Int
  | r0, _, [] => r0
  | r0, day, x :: l => if x.Day ≤ day then rateL x.Rate day l else r0
theorem rateL_A {day : Int} {B : List api_Reset} : ∀ {A : List api_Reset} {r0 : Int}, (∀ x ∈ A, x.Day ≤ day) → (∀ x, B.head? = some x → day < x.Day) → rateL r0 day (A ++ B) = match A.getLast? with | some x => x.Rate | none => r0
  | [], r0, _, hB => by
    cases B with
    | nil => rfl
    | cons x B => show (if x.Day ≤ day then _ else r0) = r0; rw [if_neg (by have := hB x rfl; omega)]
  | x :: A, r0, hA, hB => by
    show (if x.Day ≤ day then rateL x.Rate day (A ++ B) else r0) = _
    rw [if_pos (hA x (by simp)), rateL_A (A := A) (r0 := x.Rate) (fun y hy => hA y (by simp [hy])) hB]
    cases A with
    | nil => rfl
    | cons y A => rw [List.getLast?_cons_cons]; cases h : (y :: A).getLast? with
      | none => simp at h
      | some z => rfl
theorem cmpI_lt {a b : Int} : cmpI a b < 0 ↔ a < b := by
  unfold cmpI
  by_cases h : a < b
  · rw [if_pos h]; simp [h]
  · rw [if_neg h]; by_cases k : b < a
    · rw [if_pos k]; omega
    · rw [if_neg k]; omega
theorem cmpI_eq {a b : Int} : cmpI a b = 0 ↔ a = b := by
  unfold cmpI
  by_cases h : a < b
  · rw [if_pos h]; omega
  · rw [if_neg h]; by_cases k : b < a
    · rw [if_pos k]; omega
    · rw [if_neg k]; omega
theorem rate1_r (x : api_Reset) (s : Int) : accrue_Rate_1_r x s (cmpI x.Day s) := by
  refine accrue_Rate_1_of ?_
  unfold accrue_Rate_1_w
  exact ⟨_, Compare_int_r _ _, Rt.i rfl⟩
theorem bsR_l {A B : List api_Reset} {s : Int} (hA : ∀ y ∈ A, y.Day < s) (hB : ∀ y ∈ B, ¬ y.Day < s) (hl : (A ++ B).length ≤ 1000000) {Q : Int → Prop} (q : Q (A.length : Nat)) :
    ∀ (n i j : Nat), j - i ≤ n → i ≤ A.length → A.length ≤ j → j ≤ (A ++ B).length → slices_BinarySearchFunc_api_Reset_api_Reset_int_f139_L0 (A ++ B) s Q i j := by
  intro n
  induction n with
  | zero =>
    intro i j hn hi hj hjl
    have e : i = A.length := by omega
    refine slices_BinarySearchFunc_api_Reset_api_Reset_int_f139_l0 ?_
    unfold slices_BinarySearchFunc_api_Reset_api_Reset_int_f139_w0
    exact Br.neg (by omega) (Lf.i (by rw [e]; exact q))
  | succ n ih =>
    intro i j hn hi hj hjl
    refine slices_BinarySearchFunc_api_Reset_api_Reset_int_f139_l0 ?_
    unfold slices_BinarySearchFunc_api_Reset_api_Reset_int_f139_w0
    by_cases c : i < j
    · rw [half (i := i) (j := j) (by omega), show (((i + j) / 2 : Nat) : Int) + 1 = (((i + j) / 2 + 1 : Nat) : Int) by omega]
      have hk : (i + j) / 2 < (A ++ B).length := by omega
      refine Br.pos (by omega) (Num.n (by omega) ⟨(A ++ B)[(i + j) / 2], Got.i ⟨_, rate1_r _ _, Br.i (fun c1 => Num.n (by omega) ?_) (fun c1 => ?_)⟩ (by omega) (show (A ++ B)[(i + j) / 2]? = _ from List.getElem?_eq_getElem hk)⟩)
      · have c1 := cmpI_lt.1 c1
        have : (i + j) / 2 < A.length := Nat.lt_of_not_le fun h => by
          refine hB _ ?_ c1
          rw [List.getElem_append_right h]; exact List.getElem_mem _
        exact ih _ _ (by omega) (by omega) hj hjl
      · have c1 : ¬ ((A ++ B)[(i + j) / 2]).Day < s := fun h => c1 (cmpI_lt.2 h)
        have : A.length ≤ (i + j) / 2 := Nat.le_of_not_lt fun h => by
          refine c1 (hA _ ?_)
          rw [List.getElem_append_left h]; exact List.getElem_mem _
        exact ih _ _ (by omega) hi this (by omega)
    · have e : i = A.length := by omega
      exact Br.neg (by omega) (Lf.i (by rw [e]; exact q))
theorem splitR (s : Int) : ∀ (l : List api_Reset), l.Pairwise (fun x y => x.Day < y.Day) → ∃ A B, l = A ++ B ∧ (∀ y ∈ A, y.Day < s) ∧ (∀ y ∈ B, ¬ y.Day < s)
  | [], _ => ⟨[], [], rfl, by simp, by simp⟩
  | y :: l, h => by
    obtain ⟨h1, h2⟩ := List.pairwise_cons.1 h
    by_cases c : y.Day < s
    · obtain ⟨A, B, e, hA, hB⟩ := splitR s l h2
      refine ⟨y :: A, B, by rw [e]; rfl, fun z hz => ?_, hB⟩
      rcases List.mem_cons.1 hz with rfl | hz
      · exact c
      · exact hA z hz
    · refine ⟨[], y :: l, rfl, by simp, fun z hz => ?_⟩
      rcases List.mem_cons.1 hz with rfl | hz
      · exact c
      · have := h1 z hz; omega
theorem last_get {A B : List api_Reset} (h : A ≠ []) : ∃ x, A.getLast? = some x ∧ (A ++ B)[A.length - 1]? = some x := by
  have hl : A.length - 1 < A.length := by have := List.length_pos_iff.2 h; omega
  refine ⟨A.getLast h, List.getLast?_eq_some_getLast h, ?_⟩
  rw [List.getElem?_append_left hl, List.getLast_eq_getElem, List.getElem?_eq_getElem hl]
theorem Rate_r {x : api_Reset} {l : List api_Reset} (hs : (x :: l).Pairwise (fun x y => x.Day < y.Day)) (hl : (x :: l).length ≤ 1000000) {day : Int} (hd : x.Day ≤ day) : accrue_Rate_r (x :: l) day (rateL x.Rate day l, true) := by
  have e0 : rateL x.Rate day l = rateL 0 day (x :: l) := by show _ = if x.Day ≤ day then _ else _; rw [if_pos hd]
  rw [e0]
  obtain ⟨A, B, e, hA, hB⟩ := splitR day (x :: l) hs
  rw [e] at hs hl ⊢
  obtain ⟨sA, sB, sAB⟩ := List.pairwise_append.1 hs
  refine accrue_Rate_of ?_
  unfold accrue_Rate_w
  cases B with
  | nil =>
    have ne : A ≠ [] := fun k => by rw [k] at e; cases e
    have al := List.length_pos_iff.2 ne
    obtain ⟨y, h1, h2⟩ := last_get (B := []) ne
    have er := rateL_A (r0 := 0) (day := day) (A := A) (B := []) (fun z hz => by have := hA z hz; omega) (by simp)
    rw [er, h1]
    refine ⟨((A.length : Nat), false), slices_BinarySearchFunc_api_Reset_api_Reset_int_f139_of ?_, Br.t rfl (Num.n (by show _ ≤ ((A.length : Nat) : Int) - 1 ∧ ((A.length : Nat) : Int) - 1 ≤ _; rw [List.length_append] at hl; omega) (Br.neg (by show ¬ ((A.length : Nat) : Int) - 1 < 0; omega) ⟨y, Got.i (Rt.i rfl) (by show 0 ≤ ((A.length : Nat) : Int) - 1; omega) (by show (A ++ [])[(((A.length : Nat) : Int) - 1).toNat]? = _; rw [show (((A.length : Nat) : Int) - 1).toNat = A.length - 1 by omega]; exact h2)⟩))⟩
    unfold slices_BinarySearchFunc_api_Reset_api_Reset_int_f139_w
    rw [lenM_eq]
    refine bsR_l hA hB hl ?_ (A ++ []).length 0 (A ++ []).length (by omega) (by omega) (by simp) (Nat.le_refl _)
    exact Br.neg (by rw [List.append_nil]; omega) (Rt.i rfl)
  | cons b B =>
    have g : (A ++ b :: B)[((A.length : Nat) : Int).toNat]? = some b := by rw [Int.toNat_natCast, List.getElem?_append_right (Nat.le_refl _)]; simp
    have hb : ¬ b.Day < day := hB b (by simp)
    refine ⟨((A.length : Nat), cmpI b.Day day == 0), slices_BinarySearchFunc_api_Reset_api_Reset_int_f139_of ?_, ?_⟩
    · unfold slices_BinarySearchFunc_api_Reset_api_Reset_int_f139_w
      rw [lenM_eq]
      refine bsR_l hA hB hl (Br.pos (by simp; omega) ⟨b, Got.i ⟨_, rate1_r _ _, Rt.i rfl⟩ (by omega) g⟩) (A ++ b :: B).length 0 (A ++ b :: B).length (by omega) (by omega) (by simp) (Nat.le_refl _)
    · by_cases k : b.Day = day
      · have e1 : (cmpI b.Day day == 0) = true := beq_iff_eq.2 (cmpI_eq.2 k)
        have er := rateL_A (r0 := 0) (day := day) (A := A ++ [b]) (B := B) (fun z hz => by
          rcases List.mem_append.1 hz with hz | hz
          · have := hA z hz; omega
          · simp at hz; subst hz; omega) (fun z hz => by
          have : z ∈ B := List.mem_of_mem_head? hz
          have := (List.pairwise_cons.1 sB).1 z this
          omega)
        rw [show A ++ b :: B = A ++ [b] ++ B by simp, er, List.getLast?_concat]
        refine Br.f (by rw [e1]; rfl) (Br.neg (by show ¬ ((A.length : Nat) : Int) < 0; omega) ⟨b, Got.i (Rt.i rfl) (by show 0 ≤ ((A.length : Nat) : Int); omega) ?_⟩)
        rw [show A ++ [b] ++ B = A ++ b :: B by simp]
        exact g
      · have e1 : (cmpI b.Day day == 0) = false := beq_eq_false_iff_ne.2 (fun q => k (cmpI_eq.1 q))
        have ne : A ≠ [] := fun q => by
          rw [q] at e
          simp only [List.nil_append, List.cons.injEq] at e
          rw [← e.1] at k hb
          omega
        have al := List.length_pos_iff.2 ne
        obtain ⟨y, h1, h2⟩ := last_get (B := b :: B) ne
        have er := rateL_A (r0 := 0) (day := day) (A := A) (B := b :: B) (fun z hz => by have := hA z hz; omega) (fun z hz => by simp at hz; subst hz; omega)
        rw [er, h1]
        refine Br.t (by rw [e1]; rfl) (Num.n (by show _ ≤ ((A.length : Nat) : Int) - 1 ∧ ((A.length : Nat) : Int) - 1 ≤ _; rw [List.length_append] at hl; omega) (Br.neg (by show ¬ ((A.length : Nat) : Int) - 1 < 0; omega) ⟨y, Got.i (Rt.i rfl) (by show 0 ≤ ((A.length : Nat) : Int) - 1; omega) ?_⟩))
        show (A ++ b :: B)[(((A.length : Nat) : Int) - 1).toNat]? = _
        rw [show (((A.length : Nat) : Int) - 1).toNat = A.length - 1 by omega]; exact h2
theorem rateL_bd {day : Int} : ∀ {l : List api_Reset} {r0 : Int}, (-1000000 ≤ r0 ∧ r0 ≤ 1000000) → (∀ x ∈ l, -1000000 ≤ x.Rate ∧ x.Rate ≤ 1000000) → -1000000 ≤ rateL r0 day l ∧ rateL r0 day l ≤ 1000000
  | [], r0, h, _ => h
  | x :: l, r0, h, hl => by
    show -1000000 ≤ (if x.Day ≤ day then rateL x.Rate day l else r0) ∧ (if x.Day ≤ day then rateL x.Rate day l else r0) ≤ 1000000
    split
    · exact rateL_bd (hl x (by simp)) (fun y hy => hl y (by simp [hy]))
    · exact h
/-! The rates of all days together. -/
def sumR (x : api_Reset) (l : List api_Reset) (fr : Int) : Nat → Int
  | 0 => 0
  | n + 1 => sumR x l fr n + rateL x.Rate (fr + n) l
theorem sumR_bd {x : api_Reset} {l : List api_Reset} (hx : -1000000 ≤ x.Rate ∧ x.Rate ≤ 1000000) (hl : ∀ x ∈ l, -1000000 ≤ x.Rate ∧ x.Rate ≤ 1000000) (fr : Int) : ∀ n : Nat, -(1000000 * (n : Int)) ≤ sumR x l fr n ∧ sumR x l fr n ≤ 1000000 * (n : Int)
  | 0 => by simp [sumR]
  | n + 1 => by
    have h1 := sumR_bd hx hl fr n
    have h2 := rateL_bd (day := fr + n) hx hl
    show -(1000000 * ((n + 1 : Nat) : Int)) ≤ sumR x l fr n + rateL x.Rate (fr + n) l ∧ sumR x l fr n + rateL x.Rate (fr + n) l ≤ 1000000 * ((n + 1 : Nat) : Int)
    omega
theorem run_l {a : Int} {x : api_Reset} {l : List api_Reset} {fr to : Int} (ha : 0 ≤ a ∧ a ≤ 1125899906842624) (ok : RsOk (x :: l)) (hf : x.Day ≤ fr) (hto : 0 ≤ fr ∧ to ≤ 200000) {Q0 : Int → Prop} {Q1 : Int × Int → Prop} : ∀ (n k : Nat), fr + k + n = to → k + n ≤ 4000 →
    Q1 (a * sumR x l fr (k + n) / 360000000, a * sumR x l fr (k + n) % 360000000) → accrue_Run_L0 a (x :: l) to Q0 Q1 (fr + k) (a * sumR x l fr k / 360000000) (a * sumR x l fr k % 360000000) := by
  have hl : (x :: l).length ≤ 1000000 := by have := ok.len; omega
  have rx := (ok.bd x (by simp)).2
  have rl : ∀ y ∈ l, -1000000 ≤ y.Rate ∧ y.Rate ≤ 1000000 := fun y hy => (ok.bd y (by simp [hy])).2
  intro n
  induction n with
  | zero =>
    intro k h hk q
    refine accrue_Run_l0 ?_
    unfold accrue_Run_w0
    exact Br.neg (by omega) (Lf.i q)
  | succ n ih =>
    intro k h hk q
    refine accrue_Run_l0 ?_
    unfold accrue_Run_w0
    have sb := sumR_bd rx rl fr k
    have pb := prodB ha (r := sumR x l fr k) (by omega)
    have hd := Day_r (u := a * sumR x l fr k / 360000000) (rest := a * sumR x l fr k % 360000000) (a := a) (r := rateL x.Rate (fr + k) l) (by omega) (by omega) ha (rateL_bd rx rl)
    have e : a * sumR x l fr k / 360000000 * 360000000 + a * sumR x l fr k % 360000000 + a * rateL x.Rate (fr + k) l = a * sumR x l fr (k + 1) := by
      have : a * sumR x l fr k / 360000000 * 360000000 + a * sumR x l fr k % 360000000 = a * sumR x l fr k := by omega
      rw [this, ← Int.mul_add]; rfl
    rw [e] at hd
    have nx := ih (k + 1) (by omega) (by omega) (by rw [show k + 1 + n = k + (n + 1) by omega]; exact q)
    rw [show fr + ((k + 1 : Nat) : Int) = fr + k + 1 by omega] at nx
    exact Br.pos (by omega) ⟨_, Rate_r ok.srt hl (by omega), _, hd, Br.f rfl (Num.n (by omega) nx)⟩
/-- What interest there is. -/
def btwS (a : Int) (l : List api_Reset) (fr to : Int) : Int × Int := if resS l ≠ 0 then (0, resS l) else match l with
  | [] => (0, 0)
  | x :: l => if ¬ ((0 ≤ fr ∧ fr ≤ 200000) ∧ (0 ≤ to ∧ to ≤ 200000) ∧ fr ≤ to ∧ to - fr ≤ 3660 ∧ x.Day ≤ fr) then (0, 10) else if ¬ (0 ≤ a ∧ a ≤ 1125899906842624) then (0, 1) else (a * sumR x l fr (to - fr).toNat / 360000000, 0)
theorem Between_r {a : Int} {l : List api_Reset} {fr to : Int} (hl : l.length ≤ 1000000) : accrue_Between_r a l fr to (btwS a l fr to) := by
  have R : ∃ m : accrue_Meter, accrue_Run_r a l fr to (m, (btwS a l fr to).2) ∧ m.Units = (btwS a l fr to).1 := by
    unfold btwS
    by_cases c : resS l ≠ 0
    · rw [if_pos c]
      refine ⟨⟨0, 0⟩, accrue_Run_of ?_, rfl⟩
      unfold accrue_Run_w
      exact ⟨_, Res_r hl, Br.pos c (Rt.i rfl)⟩
    · rw [if_neg c]
      have ok := resS_ok (Decidable.not_not.1 c)
      cases l with
      | nil => exact absurd rfl ok.ne
      | cons x l =>
        have g : (x :: l)[(0 : Int).toNat]? = some x := rfl
        show ∃ m : accrue_Meter, accrue_Run_r a (x :: l) fr to (m, (if ¬ ((0 ≤ fr ∧ fr ≤ 200000) ∧ (0 ≤ to ∧ to ≤ 200000) ∧ fr ≤ to ∧ to - fr ≤ 3660 ∧ x.Day ≤ fr) then ((0 : Int), (10 : Int)) else if ¬ (0 ≤ a ∧ a ≤ 1125899906842624) then (0, 1) else (a * sumR x l fr (to - fr).toNat / 360000000, 0)).2) ∧ m.Units = (if ¬ ((0 ≤ fr ∧ fr ≤ 200000) ∧ (0 ≤ to ∧ to ≤ 200000) ∧ fr ≤ to ∧ to - fr ≤ 3660 ∧ x.Day ≤ fr) then ((0 : Int), (10 : Int)) else if ¬ (0 ≤ a ∧ a ≤ 1125899906842624) then (0, 1) else (a * sumR x l fr (to - fr).toNat / 360000000, 0)).1
        by_cases d : (0 ≤ fr ∧ fr ≤ 200000) ∧ (0 ≤ to ∧ to ≤ 200000) ∧ fr ≤ to ∧ to - fr ≤ 3660 ∧ x.Day ≤ fr
        · rw [if_neg (fun q => q d)]
          obtain ⟨d1, d2, d3, d4, d5⟩ := d
          have go : ∀ {Q : accrue_Meter × Int → Prop}, accrue_Run_j0 a (x :: l) fr to Q false → accrue_Run_w a (x :: l) fr to Q := fun {Q} hq => by
            unfold accrue_Run_w
            refine ⟨_, Res_r hl, Br.neg c ⟨_, good_r _, Br.f (by rw [inS_mk d1]; rfl) ⟨_, good_r _, Br.f (by rw [inS_mk d2]; rfl) (Br.neg (by omega) (Num.n (by omega) (Br.neg (by omega) ⟨x, Got.i ?_ (by decide) g⟩)))⟩⟩⟩
            rw [decide_eq_false (by omega)]; exact hq
          by_cases e : 0 ≤ a ∧ a ≤ 1125899906842624
          · rw [if_neg (fun q => q e)]
            refine ⟨⟨a * sumR x l fr (to - fr).toNat / 360000000, a * sumR x l fr (to - fr).toNat % 360000000⟩, accrue_Run_of (go ?_), rfl⟩
            unfold accrue_Run_j0
            refine Jn.i (Br.f rfl (Br.neg (by omega) (Br.neg (by omega) ?_)))
            have := run_l (Q0 := fun (yj01 : Int) => accrue_Run_e (fun v_ => v_ = ((⟨a * sumR x l fr (to - fr).toNat / 360000000, a * sumR x l fr (to - fr).toNat % 360000000⟩ : accrue_Meter), (0 : Int))) ((⟨0, 0⟩ : accrue_Meter), yj01)) (Q1 := fun (yj01 : Int × Int) => accrue_Run_e (fun v_ => v_ = ((⟨a * sumR x l fr (to - fr).toNat / 360000000, a * sumR x l fr (to - fr).toNat % 360000000⟩ : accrue_Meter), (0 : Int))) ((⟨yj01.1, yj01.2⟩ : accrue_Meter), 0)) e ok d5 (to := to) (by omega) (to - fr).toNat 0 (by omega) (by omega) (Rt.i (by rw [Nat.zero_add]))
            simpa [sumR] using this
          · rw [if_pos e]
            refine ⟨⟨0, 0⟩, accrue_Run_of (go ?_), rfl⟩
            unfold accrue_Run_j0
            exact Jn.i (Br.f rfl (Br.i (fun _ => Rt.i rfl) (fun c1 => Br.pos (by omega) (Rt.i rfl))))
        · rw [if_pos d]
          refine ⟨⟨0, 0⟩, accrue_Run_of ?_, rfl⟩
          unfold accrue_Run_w
          have bad : accrue_Run_j0 a (x :: l) fr to (fun v_ => v_ = ((⟨0, 0⟩ : accrue_Meter), (10 : Int))) true := by
            unfold accrue_Run_j0
            exact Jn.i (Br.t rfl (Rt.i rfl))
          refine ⟨_, Res_r hl, Br.neg c ⟨_, good_r _, Br.b (fun _ => bad) (fun c1 => ⟨_, good_r _, Br.b (fun _ => bad) (fun c2 => Br.i (fun _ => bad) (fun c3 => ?_))⟩)⟩⟩
          have d1 := inS_t (show inS fr 0 200000 = true by simpa using c1)
          have d2 := inS_t (show inS to 0 200000 = true by simpa using c2)
          refine Num.n (by omega) (Br.i (fun _ => bad) (fun c4 => ⟨x, Got.i ?_ (by decide) g⟩))
          rw [decide_eq_true (by omega)]; exact bad
  obtain ⟨m, h1, h2⟩ := R
  refine accrue_Between_of ?_
  unfold accrue_Between_w
  exact ⟨_, h1, Rt.i (by rw [h2])⟩
end Go.Proofs.YtghkboapcapooaaGreat.Pure
namespace Go.Proofs.YtghkboapcapooaaGreat.Pure
open Go Go.Ab Go.Proofs.YtghkboapcapooaaGreat.R
set_option linter.unusedVariables false
def segS (fr to : Int) : List api_Reset → Int
  | [] => 0
  | [x] => x.Rate * max 0 (to - max x.Day fr)
  | x :: y :: l => x.Rate * max 0 (min y.Day to - max x.Day fr) + segS fr to (y :: l)
theorem seg_late {fr t : Int} : ∀ (l : List api_Reset), (∀ x ∈ l, t ≤ x.Day) → segS fr t l = 0
  | [], _ => rfl
  | [x], h => by
    have := h x (by simp)
    show x.Rate * max 0 (t - max x.Day fr) = 0
    rw [show max 0 (t - max x.Day fr) = 0 by omega, Int.mul_zero]
  | x :: y :: l, h => by
    have := h x (by simp)
    show x.Rate * max 0 (min y.Day t - max x.Day fr) + segS fr t (y :: l) = 0
    rw [seg_late (y :: l) (fun z hz => h z (by simp [hz])), show max 0 (min y.Day t - max x.Day fr) = 0 by omega, Int.mul_zero]; rfl
theorem seg_none {fr : Int} : ∀ (l : List api_Reset), segS fr fr l = 0
  | [] => rfl
  | [x] => by
    show x.Rate * max 0 (fr - max x.Day fr) = 0
    rw [show max 0 (fr - max x.Day fr) = 0 by omega, Int.mul_zero]
  | x :: y :: l => by
    show x.Rate * max 0 (min y.Day fr - max x.Day fr) + segS fr fr (y :: l) = 0
    rw [seg_none (y :: l), show max 0 (min y.Day fr - max x.Day fr) = 0 by omega, Int.mul_zero]; rfl
theorem seg_next {fr t : Int} (h0 : fr ≤ t) : ∀ (l : List api_Reset) (x : api_Reset), (x :: l).Pairwise (fun x y => x.Day < y.Day) → x.Day ≤ t → segS fr (t + 1) (x :: l) = segS fr t (x :: l) + rateL x.Rate t l
  | [], x, _, hx => by
    show x.Rate * max 0 (t + 1 - max x.Day fr) = x.Rate * max 0 (t - max x.Day fr) + x.Rate
    rw [show max 0 (t + 1 - max x.Day fr) = max 0 (t - max x.Day fr) + 1 by omega, Int.mul_add, Int.mul_one]
  | y :: l, x, hs, hx => by
    obtain ⟨h1, h2⟩ := List.pairwise_cons.1 hs
    show x.Rate * max 0 (min y.Day (t + 1) - max x.Day fr) + segS fr (t + 1) (y :: l) = x.Rate * max 0 (min y.Day t - max x.Day fr) + segS fr t (y :: l) + (if y.Day ≤ t then rateL y.Rate t l else x.Rate)
    by_cases c : y.Day ≤ t
    · rw [if_pos c, seg_next h0 l y h2 c, show min y.Day (t + 1) = min y.Day t by omega]; omega
    · have l1 : ∀ z ∈ y :: l, t + 1 ≤ z.Day := fun z hz => by
        rcases List.mem_cons.1 hz with rfl | hz
        · omega
        · have := (List.pairwise_cons.1 h2).1 z hz; omega
      rw [if_neg c, seg_late (y :: l) l1, seg_late (y :: l) (fun z hz => by have := l1 z hz; omega), show max 0 (min y.Day (t + 1) - max x.Day fr) = max 0 (min y.Day t - max x.Day fr) + 1 by omega, Int.mul_add, Int.mul_one]
      omega
theorem seg_sum {x : api_Reset} {l : List api_Reset} (hs : (x :: l).Pairwise (fun x y => x.Day < y.Day)) {fr : Int} (hx : x.Day ≤ fr) : ∀ n : Nat, segS fr (fr + n) (x :: l) = sumR x l fr n
  | 0 => by
    show segS fr (fr + 0) (x :: l) = 0
    rw [Int.add_zero]; exact seg_none _
  | n + 1 => by
    have := seg_next (fr := fr) (t := fr + n) (by omega) l x hs (by omega)
    rw [show fr + ((n + 1 : Nat) : Int) = fr + n + 1 by omega, this, seg_sum hs hx n]
    rfl
theorem rk_bd {r k : Int} (hr : -1000000 ≤ r ∧ r ≤ 1000000) (hk : 0 ≤ k ∧ k ≤ 3660) : -3660000000 ≤ r * k ∧ r * k ≤ 3660000000 := by
  have h1 : r * k ≤ 1000000 * k := Int.mul_le_mul_of_nonneg_right hr.2 hk.1
  have h2 : (-1000000) * k ≤ r * k := Int.mul_le_mul_of_nonneg_right hr.1 hk.1
  omega
theorem rbtw_l {a : Int} {L : List api_Reset} {fr to : Int} (ok : RsOk L) (hft : (0 ≤ fr ∧ fr ≤ 200000) ∧ (0 ≤ to ∧ to ≤ 200000) ∧ fr ≤ to ∧ to - fr ≤ 3660) {Q : Int → Prop} : ∀ (n i : Nat) (acc : Int), n + i = L.length → -(4000000000 * (i : Int)) ≤ acc ∧ acc ≤ 4000000000 * (i : Int) →
    Q (acc + segS fr to (L.drop i)) → lombardref03_Between_L0 a L fr to Q acc (i : Int) := by
  have hl := ok.len
  intro n
  induction n with
  | zero =>
    intro i acc h hb q
    refine lombardref03_Between_l0 ?_
    unfold lombardref03_Between_w0
    rw [lenM_eq]
    rw [List.drop_of_length_le (by omega)] at q
    exact Br.neg (by omega) (Lf.i (by simpa [segS] using q))
  | succ n ih =>
    intro i acc h hb q
    have hi : i < L.length := by omega
    refine lombardref03_Between_l0 ?_
    unfold lombardref03_Between_w0
    rw [lenM_eq]
    rw [List.drop_eq_getElem_cons hi] at q
    have g : L[(i : Int).toNat]? = some L[i] := by simp [hi]
    have xb := ok.bd L[i] (List.getElem_mem hi)
    have j5 : ∀ b a' : Int, b ≤ to → fr ≤ a' → Q (acc + L[i].Rate * max 0 (b - a') + segS fr to (L.drop (i + 1))) → lombardref03_Between_j5 a L fr to acc (i : Int) b (lombardref03_Between_L0 a L fr to Q) Q a' := fun b a' h1 h2 hq => by
      unfold lombardref03_Between_j5
      refine Jn.i (Br.i (fun c => ⟨L[i], Got.i ?_ (by omega) g⟩) (fun c => Num.n (by omega) (ih (i + 1) acc (by omega) (by omega) ?_)))
      · have rb := rk_bd (r := L[i].Rate) (k := b - a') xb.2 (by omega)
        rw [show max 0 (b - a') = b - a' by omega] at hq
        exact Num.n (by omega) (Num.n (by omega) (Num.n (by omega) (Num.n (by omega) (ih (i + 1) _ (by omega) (by omega) hq))))
      · rw [show max 0 (b - a') = 0 by omega, Int.mul_zero, Int.add_zero] at hq; exact hq
    have j4 : ∀ b : Int, b ≤ to → Q (acc + L[i].Rate * max 0 (b - max L[i].Day fr) + segS fr to (L.drop (i + 1))) → lombardref03_Between_j4 a L fr to acc (i : Int) L[i] (lombardref03_Between_L0 a L fr to Q) Q b := fun b h1 hq => by
      unfold lombardref03_Between_j4
      refine Jn.i (Br.i (fun c => j5 b fr h1 (Int.le_refl _) ?_) (fun c => j5 b L[i].Day h1 (by omega) ?_))
      · rw [show max L[i].Day fr = fr by omega] at hq; exact hq
      · rw [show max L[i].Day fr = L[i].Day by omega] at hq; exact hq
    refine Br.pos (by omega) ⟨L[i], Got.i (Num.n (by omega) (Br.i (fun c => ?_) (fun c => ?_))) (by omega) g⟩
    · have hi2 : i + 1 < L.length := by omega
      have g2 : L[((i : Int) + 1).toNat]? = some L[i + 1] := by rw [show ((i : Int) + 1).toNat = i + 1 by omega]; simp [hi2]
      rw [List.drop_eq_getElem_cons hi2] at q
      have q : Q (acc + (L[i].Rate * max 0 (min L[i + 1].Day to - max L[i].Day fr) + segS fr to (L[i + 1] :: L.drop (i + 1 + 1)))) := q
      rw [← List.drop_eq_getElem_cons hi2, ← Int.add_assoc] at q
      refine Num.n (by omega) ⟨L[i + 1], Got.i ?_ (by omega) g2⟩
      by_cases d : L[i + 1].Day < to
      · rw [decide_eq_true d]
        unfold lombardref03_Between_j3
        refine Jn.i (Br.t rfl (Num.n (by omega) ⟨L[i + 1], Got.i (j4 _ (by omega) ?_) (by omega) g2⟩))
        rw [show min L[i + 1].Day to = L[i + 1].Day by omega] at q; exact q
      · rw [decide_eq_false d]
        unfold lombardref03_Between_j3
        refine Jn.i (Br.f rfl (j4 _ (Int.le_refl _) ?_))
        rw [show min L[i + 1].Day to = to by omega] at q; exact q
    · have e : L.drop (i + 1) = [] := List.drop_of_length_le (by omega)
      unfold lombardref03_Between_j3
      refine Jn.i (Br.f rfl (j4 _ (Int.le_refl _) ?_))
      rw [e] at q ⊢
      have q : Q (acc + L[i].Rate * max 0 (to - max L[i].Day fr)) := q
      show Q (acc + L[i].Rate * max 0 (to - max L[i].Day fr) + 0)
      rw [Int.add_zero]; exact q
theorem ramount_r (n : Int) : lombardref03_Amount_r n (inS n 0 1125899906842624) := by
  refine lombardref03_Amount_of ?_
  unfold lombardref03_Amount_w inS
  refine Br.i (fun c => Rt.i (decide_eq_decide.2 ⟨fun k => ⟨by omega, k⟩, fun k => k.2⟩)) (fun c => Rt.i (decide_eq_false (fun k => c (by omega))).symm)
theorem RBetween_r {a : Int} {l : List api_Reset} {fr to : Int} (hl : l.length ≤ 1000000) : lombardref03_Between_r a l fr to (btwS a l fr to) := by
  refine lombardref03_Between_of ?_
  unfold lombardref03_Between_w btwS
  refine ⟨_, RRes_r hl, Br.i (fun c => ⟨_, RRes_r hl, Rt.i (by rw [if_pos c])⟩) (fun c => ?_)⟩
  rw [if_neg c]
  have ok := resS_ok (Decidable.not_not.1 c)
  cases l with
  | nil => exact absurd rfl ok.ne
  | cons x l =>
    have g : (x :: l)[(0 : Int).toNat]? = some x := rfl
    have bad : ¬ ((0 ≤ fr ∧ fr ≤ 200000) ∧ (0 ≤ to ∧ to ≤ 200000) ∧ fr ≤ to ∧ to - fr ≤ 3660 ∧ x.Day ≤ fr) → ((0 : Int), (10 : Int)) = (if ¬ ((0 ≤ fr ∧ fr ≤ 200000) ∧ (0 ≤ to ∧ to ≤ 200000) ∧ fr ≤ to ∧ to - fr ≤ 3660 ∧ x.Day ≤ fr) then ((0 : Int), (10 : Int)) else if ¬ (0 ≤ a ∧ a ≤ 1125899906842624) then (0, 1) else (a * sumR x l fr (to - fr).toNat / 360000000, 0)) := fun d => (if_pos d).symm
    refine ⟨_, rgood2_r _, Br.b (fun c1 => Rt.i (bad (fun q => inS_f (by simpa using c1) q.1))) (fun c1 => ⟨_, rgood2_r _, Br.b (fun c2 => Rt.i (bad (fun q => inS_f (by simpa using c2) q.2.1))) (fun c2 => Br.i (fun c3 => Rt.i (bad (fun q => by omega))) (fun c3 => ?_))⟩)⟩
    have d1 := inS_t (show inS fr 0 200000 = true by simpa using c1)
    have d2 := inS_t (show inS to 0 200000 = true by simpa using c2)
    refine Num.n (by omega) (Br.i (fun c4 => Rt.i (bad (fun q => by omega))) (fun c4 => ⟨x, Got.i (Br.i (fun c5 => Rt.i (bad (fun q => by omega))) (fun c5 => ⟨_, ramount_r _, Br.b (fun c6 => Rt.i ?_) (fun c6 => ?_)⟩)) (by decide) g⟩))
    · show ((0 : Int), (1 : Int)) = (if ¬ ((0 ≤ fr ∧ fr ≤ 200000) ∧ (0 ≤ to ∧ to ≤ 200000) ∧ fr ≤ to ∧ to - fr ≤ 3660 ∧ x.Day ≤ fr) then ((0 : Int), (10 : Int)) else if ¬ (0 ≤ a ∧ a ≤ 1125899906842624) then (0, 1) else (a * sumR x l fr (to - fr).toNat / 360000000, 0))
      rw [if_neg (fun q => q ⟨d1, d2, by omega, by omega, by omega⟩), if_pos (inS_f (by simpa using c6))]
    · have ha := inS_t (show inS a 0 1125899906842624 = true by simpa using c6)
      refine rbtw_l ok ⟨d1, d2, by omega, by omega⟩ (x :: l).length 0 0 (by omega) (by omega) ?_
      rw [List.drop_zero, Int.zero_add]
      have es := seg_sum ok.srt (fr := fr) (by omega) (to - fr).toNat
      rw [show fr + ((to - fr).toNat : Int) = to by omega] at es
      rw [es]
      have rx := (ok.bd x (by simp)).2
      have rl : ∀ y ∈ l, -1000000 ≤ y.Rate ∧ y.Rate ≤ 1000000 := fun y hy => (ok.bd y (by simp [hy])).2
      have sb := sumR_bd rx rl fr (to - fr).toNat
      have pb := prodB ha (r := sumR x l fr (to - fr).toNat) (by omega)
      have M := RMulDiv_r (a := a) (b := sumR x l fr (to - fr).toNat) (c := 360000000) (how := 1) ⟨by omega, by omega⟩ ⟨by omega, by omega⟩ ⟨by decide, by decide⟩
      rw [mulDivF ha.1 (by decide) (by omega) (by omega)] at M
      refine ⟨_, M, Rt.i ?_⟩
      show _ = (if ¬ ((0 ≤ fr ∧ fr ≤ 200000) ∧ (0 ≤ to ∧ to ≤ 200000) ∧ fr ≤ to ∧ to - fr ≤ 3660 ∧ x.Day ≤ fr) then ((0 : Int), (10 : Int)) else if ¬ (0 ≤ a ∧ a ≤ 1125899906842624) then (0, 1) else (a * sumR x l fr (to - fr).toNat / 360000000, 0))
      rw [if_neg (fun q => q ⟨d1, d2, by omega, by omega, by omega⟩), if_neg (fun q => q ha)]
/-! What is owed. -/
def untilS (t : api_Trade) (day : Int) : Int := max (if t.End = 0 then day else min day t.End) t.Start
def owedS (t : api_Trade) (day : Int) : Int × Int := if inS day 0 200000 = false then (0, 10) else if (btwS t.Amount t.Resets t.Start (untilS t day)).2 ≠ 0 then (0, (btwS t.Amount t.Resets t.Start (untilS t day)).2) else (t.Amount + (btwS t.Amount t.Resets t.Start (untilS t day)).1, 0)
theorem btw_bd {a : Int} {l : List api_Reset} {fr to : Int} : -20000000000000000 ≤ (btwS a l fr to).1 ∧ (btwS a l fr to).1 ≤ 20000000000000000 := by
  unfold btwS
  by_cases c : resS l ≠ 0
  · rw [if_pos c]
    show -20000000000000000 ≤ (0 : Int) ∧ (0 : Int) ≤ 20000000000000000
    decide
  · rw [if_neg c]
    have ok := resS_ok (Decidable.not_not.1 c)
    cases l with
    | nil => exact absurd rfl ok.ne
    | cons x l =>
      show -20000000000000000 ≤ (if ¬ ((0 ≤ fr ∧ fr ≤ 200000) ∧ (0 ≤ to ∧ to ≤ 200000) ∧ fr ≤ to ∧ to - fr ≤ 3660 ∧ x.Day ≤ fr) then ((0 : Int), (10 : Int)) else if ¬ (0 ≤ a ∧ a ≤ 1125899906842624) then (0, 1) else (a * sumR x l fr (to - fr).toNat / 360000000, 0)).1 ∧ (if ¬ ((0 ≤ fr ∧ fr ≤ 200000) ∧ (0 ≤ to ∧ to ≤ 200000) ∧ fr ≤ to ∧ to - fr ≤ 3660 ∧ x.Day ≤ fr) then ((0 : Int), (10 : Int)) else if ¬ (0 ≤ a ∧ a ≤ 1125899906842624) then (0, 1) else (a * sumR x l fr (to - fr).toNat / 360000000, 0)).1 ≤ 20000000000000000
      split
      · decide
      · rename_i d
        split
        · decide
        · rename_i e
          have rx := (ok.bd x (by simp)).2
          have rl : ∀ y ∈ l, -1000000 ≤ y.Rate ∧ y.Rate ≤ 1000000 := fun y hy => (ok.bd y (by simp [hy])).2
          have sb := sumR_bd rx rl fr (to - fr).toNat
          have pb := prodB (a := a) (by omega) (r := sumR x l fr (to - fr).toNat) (by omega)
          show -20000000000000000 ≤ a * sumR x l fr (to - fr).toNat / 360000000 ∧ a * sumR x l fr (to - fr).toNat / 360000000 ≤ 20000000000000000
          omega
theorem open_r (t : api_Trade) : life_Open_r t (t.End == 0) := by
  refine life_Open_of ?_
  unfold life_Open_w
  exact Rt.i rfl
theorem until_r (t : api_Trade) (day : Int) : life_until_r t day (untilS t day) := by
  refine life_until_of ?_
  unfold life_until_w untilS
  refine ⟨_, open_r t, Br.i (fun c => Rt.i (by rw [if_neg c])) (fun c => Rt.i (by rw [if_pos (Decidable.not_not.1 c)]))⟩
theorem Owed_r {t : api_Trade} {day : Int} (hl : t.Resets.length ≤ 1000000) (ha : 1 ≤ t.Amount ∧ t.Amount ≤ 1125899906842624) : life_Owed_r t day (owedS t day) := by
  have I : life_Interest_r t day (if inS day 0 200000 = false then (0, 10) else btwS t.Amount t.Resets t.Start (untilS t day)) := by
    refine life_Interest_of ?_
    unfold life_Interest_w
    refine ⟨_, good_r _, Br.b (fun c => Rt.i (by rw [if_pos (by simpa using c)])) (fun c => ⟨_, until_r _ _, _, Between_r hl, Rt.i (by rw [if_neg (by simpa using c)])⟩)⟩
  refine life_Owed_of ?_
  unfold life_Owed_w owedS
  refine ⟨_, I, ?_⟩
  by_cases c : inS day 0 200000 = false
  · simp only [if_pos c]
    exact Br.pos (by decide) (Rt.i rfl)
  · simp only [if_neg c]
    have bb := btw_bd (a := t.Amount) (l := t.Resets) (fr := t.Start) (to := untilS t day)
    refine Br.i (fun c2 => Rt.i (by rw [if_pos c2])) (fun c2 => ⟨_, FPlus_s (by omega) (by omega), Rt.i (by rw [if_neg c2])⟩)
theorem ROwed_r {t : api_Trade} {day : Int} (hl : t.Resets.length ≤ 1000000) (ha : 1 ≤ t.Amount ∧ t.Amount ≤ 1125899906842624) : lombardref24_Owed_r t day (owedS t day) := by
  have I : lombardref24_Interest_r t day (if inS day 0 200000 = false then (0, 10) else btwS t.Amount t.Resets t.Start (untilS t day)) := by
    refine lombardref24_Interest_of ?_
    unfold lombardref24_Interest_w
    refine ⟨_, rgood2_r _, Br.b (fun c => Rt.i (by rw [if_pos (by simpa using c)])) (fun c => ?_)⟩
    rw [if_neg (by simpa using c)]
    have fin : ∀ d : Int, d = untilS t day → ∃ r2 : Int × Int, (lombardref03_Between_r t.Amount t.Resets t.Start d r2) ∧ (lombardref24_Interest_e (fun v_ => v_ = btwS t.Amount t.Resets t.Start (untilS t day)) (r2.1, r2.2)) := fun d hd => by
      subst hd; exact ⟨_, RBetween_r hl, Rt.i rfl⟩
    unfold untilS at fin ⊢
    refine Br.i (fun c1 => ?_) (fun c1 => ?_)
    · rw [if_neg c1] at fin ⊢
      exact Br.i (fun c2 => Br.i (fun c3 => fin _ (by omega)) (fun c3 => fin _ (by omega))) (fun c2 => Br.i (fun c3 => fin _ (by omega)) (fun c3 => fin _ (by omega)))
    · rw [if_pos (Decidable.not_not.1 c1)] at fin ⊢
      exact Br.i (fun c3 => fin _ (by omega)) (fun c3 => fin _ (by omega))
  refine lombardref24_Owed_of ?_
  unfold lombardref24_Owed_w owedS
  refine ⟨_, I, ?_⟩
  by_cases c : inS day 0 200000 = false
  · simp only [if_pos c]
    exact Br.pos (by decide) (Rt.i rfl)
  · simp only [if_neg c]
    have bb := btw_bd (a := t.Amount) (l := t.Resets) (fr := t.Start) (to := untilS t day)
    refine Br.i (fun c2 => Rt.i (by rw [if_pos c2])) (fun c2 => ⟨_, RPlus_s (by omega) (by omega), Rt.i (by rw [if_neg c2])⟩)
end Go.Proofs.YtghkboapcapooaaGreat.Pure
