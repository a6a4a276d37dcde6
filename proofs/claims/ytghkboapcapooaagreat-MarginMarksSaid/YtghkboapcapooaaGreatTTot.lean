/- What is wrong with lots. -/
import Derived.Test.YtghkboapcapooaaGreatTElig
import Derived.Test.YtghkboapcapooaaGreatTOwedB
import Derived.Test.YtghkboapcapooaaGreatTBigB
set_option linter.unusedVariables false
set_option linter.unusedSimpArgs false
namespace Go.Proofs.YtghkboapcapooaaGreat.Pure
open Go Go.Ab Go.Stable Go.Proofs.YtghkboapcapooaaGreat.R
set_option linter.unusedVariables false
def chkG : Option api_Lot → Nat → List api_Lot → Int × Int
  | _, i, [] => (i, 0)
  | p, i, x :: l => if ¬ (1 ≤ x.Qty ∧ x.Qty ≤ 1125899906842624) then (i, 1) else match p with
    | none => chkG (some x) (i + 1) l
    | some y => if ¬ sLt y.ISIN x.ISIN then (i, 7) else chkG (some x) (i + 1) l
theorem chkG_cons (p : Option api_Lot) (i : Nat) (x : api_Lot) (l : List api_Lot) : chkG p i (x :: l) = if ¬ (1 ≤ x.Qty ∧ x.Qty ≤ 1125899906842624) then ((i : Int), 1) else match p with
    | none => chkG (some x) (i + 1) l
    | some y => if ¬ sLt y.ISIN x.ISIN then ((i : Int), 7) else chkG (some x) (i + 1) l := by cases p <;> rfl
def checkG (l : List api_Lot) : Int × Int := if (64 : Int) < l.length then (0, 2) else chkG none 0 l
def Pre (a : List api_Lot) (i : Nat) (p : Option api_Lot) : Prop := i = 0 ∧ p = none ∨ 0 < i ∧ ∃ y, p = some y ∧ a[i - 1]? = some y
theorem chk_l {a : List api_Lot} (hl : a.length ≤ 1000000) {P : Int × Int → Prop} {Q0 : Int × Int → Prop} {Q1 : Unit → Prop} (q0 : ∀ v, v.2 ≠ 0 → P v → Q0 v) (q1 : P ((a.length : Nat), 0) → Q1 ()) : ∀ (n i : Nat) (p : Option api_Lot), n + i = a.length → Pre a i p → P (chkG p i (a.drop i)) → lots_Check_L0 a Q0 Q1 (i : Int) := by
  intro n
  induction n with
  | zero =>
    intro i p h hp q
    refine lots_Check_l0 ?_
    unfold lots_Check_w0
    rw [lenM_eq]
    rw [List.drop_of_length_le (by omega)] at q
    refine Br.neg (by omega) (Lf.i (q1 ?_))
    have e : i = a.length := by omega
    subst e
    cases p <;> exact q
  | succ n ih =>
    intro i p h hp q
    have hi : i < a.length := by omega
    refine lots_Check_l0 ?_
    unfold lots_Check_w0
    rw [lenM_eq]
    rw [List.drop_eq_getElem_cons hi, chkG_cons] at q
    have g : a[(i : Int).toNat]? = some a[i] := by simp [hi]
    have hn : Pre a (i + 1) (some a[i]) := .inr ⟨by omega, _, rfl, by rw [Nat.add_sub_cancel]; exact List.getElem?_eq_getElem hi⟩
    refine Br.pos (by omega) ⟨a[i], Got.i (Br.i (fun c => Lf.i (q0 (_, _) (fun k => by cases k) ?_)) (fun c => Br.i (fun c2 => Lf.i (q0 (_, _) (fun k => by cases k) ?_)) (fun c2 => ?_))) (by omega) g⟩
    · rw [if_pos (by omega)] at q; exact q
    · rw [if_pos (by omega)] at q; exact q
    · rw [if_neg (by omega)] at q
      rcases hp with ⟨rfl, rfl⟩ | ⟨h0, y, rfl, hy⟩
      · exact Br.neg (by omega) (Num.n (by omega) (ih 1 _ (by omega) hn q))
      · have g2 : a[((i : Int) - 1).toNat]? = some y := by rw [show ((i : Int) - 1).toNat = i - 1 by omega]; exact hy
        have q : P (if ¬ sLt y.ISIN a[i].ISIN then ((i : Int), 7) else chkG (some a[i]) (i + 1) (a.drop (i + 1))) := q
        refine Br.pos (by omega) (Num.n (by omega) ⟨y, Got.i ?_ (by omega) g2⟩)
        rw [strLe_s]
        refine Br.i (fun c => Lf.i (q0 (_, _) (fun k => by cases k) ?_)) (fun c => Num.n (by omega) (ih (i + 1) _ (by omega) hn ?_))
        · rw [if_pos c] at q; exact q
        · rw [if_neg c] at q; exact q
theorem LCheck_r {a : List api_Lot} (hl : a.length ≤ 1000000) : lots_Check_r a (checkG a) := by
  refine lots_Check_of ?_
  unfold lots_Check_w checkG
  rw [lenM_eq]
  refine Br.i (fun c => Rt.i (by rw [if_pos c])) (fun c => ?_)
  rw [if_neg c]
  exact chk_l hl (P := fun v => v = chkG none 0 a) (fun v _ hv => Rt.i hv) (fun hv => Rt.i hv) a.length 0 none (by omega) (.inl ⟨rfl, rfl⟩) (by rw [List.drop_zero])
theorem rchk_l {a : List api_Lot} (hl : a.length ≤ 1000000) {P : Int × Int → Prop} {Q0 : Int × Int → Prop} {Q1 : Unit → Prop} (q0 : ∀ v, v.2 ≠ 0 → P v → Q0 v) (q1 : P ((a.length : Nat), 0) → Q1 ()) : ∀ (n i : Nat) (p : Option api_Lot), n + i = a.length → Pre a i p → P (chkG p i (a.drop i)) → lombardref17_Check_L0 a Q0 Q1 (i : Int) := by
  intro n
  induction n with
  | zero =>
    intro i p h hp q
    refine lombardref17_Check_l0 ?_
    unfold lombardref17_Check_w0
    rw [lenM_eq]
    rw [List.drop_of_length_le (by omega)] at q
    refine Br.neg (by omega) (Lf.i (q1 ?_))
    have e : i = a.length := by omega
    subst e
    cases p <;> exact q
  | succ n ih =>
    intro i p h hp q
    have hi : i < a.length := by omega
    refine lombardref17_Check_l0 ?_
    unfold lombardref17_Check_w0
    rw [lenM_eq]
    rw [List.drop_eq_getElem_cons hi, chkG_cons] at q
    have g : a[(i : Int).toNat]? = some a[i] := by simp [hi]
    have hn : Pre a (i + 1) (some a[i]) := .inr ⟨by omega, _, rfl, by rw [Nat.add_sub_cancel]; exact List.getElem?_eq_getElem hi⟩
    have hg : lombardref17_good_r a[i].Qty (decide (1 ≤ a[i].Qty ∧ a[i].Qty ≤ 1125899906842624)) := by
      refine lombardref17_good_of ?_
      unfold lombardref17_good_w
      refine Br.i (fun c => Rt.i (decide_eq_decide.2 ⟨fun k => ⟨by omega, k⟩, fun k => k.2⟩)) (fun c => Rt.i (decide_eq_false (fun k => c (by omega))).symm)
    refine Br.pos (by omega) ⟨a[i], Got.i ⟨_, hg, Br.i (fun c => Lf.i (q0 (_, _) (fun k => by cases k) ?_)) (fun c => ?_)⟩ (by omega) g⟩
    · rw [if_pos c] at q; exact q
    · rw [if_neg c] at q
      rcases hp with ⟨rfl, rfl⟩ | ⟨h0, y, rfl, hy⟩
      · exact Br.neg (by omega) (Num.n (by omega) (ih 1 _ (by omega) hn q))
      · have g2 : a[((i : Int) - 1).toNat]? = some y := by rw [show ((i : Int) - 1).toNat = i - 1 by omega]; exact hy
        have q : P (if ¬ sLt y.ISIN a[i].ISIN then ((i : Int), 7) else chkG (some a[i]) (i + 1) (a.drop (i + 1))) := q
        refine Br.pos (by omega) (Num.n (by omega) ⟨y, Got.i (Got.i ?_ (by omega) g) (by omega) g2⟩)
        rw [strLt_s]
        refine Br.i (fun c => Lf.i (q0 (_, _) (fun k => by cases k) ?_)) (fun c => Num.n (by omega) (ih (i + 1) _ (by omega) hn ?_))
        · rw [if_pos c] at q; exact q
        · rw [if_neg c] at q; exact q
theorem RCheck17_r {a : List api_Lot} (hl : a.length ≤ 1000000) : lombardref17_Check_r a (checkG a) := by
  refine lombardref17_Check_of ?_
  unfold lombardref17_Check_w checkG
  rw [lenM_eq]
  refine Br.i (fun c => Rt.i (by rw [if_pos c])) (fun c => ?_)
  rw [if_neg c]
  exact rchk_l hl (P := fun v => v = chkG none 0 a) (fun v _ hv => Rt.i hv) (fun hv => Rt.i hv) a.length 0 none (by omega) (.inl ⟨rfl, rfl⟩) (by rw [List.drop_zero])
end Go.Proofs.YtghkboapcapooaaGreat.Pure
namespace Go.Proofs.YtghkboapcapooaaGreat.Pure
open Go Go.Ab Go.Stable Go.Proofs.YtghkboapcapooaaGreat.R
set_option linter.unusedVariables false
theorem in10_r (n l m : Int) : lombardref10_in_r n l m (inS n l m) := by
  refine lombardref10_in_of ?_
  unfold lombardref10_in_w inS
  refine Br.i (fun c => Rt.i (decide_eq_decide.2 ⟨fun k => ⟨by omega, k⟩, fun k => k.2⟩)) (fun c => Rt.i (decide_eq_false (fun k => c (by omega))).symm)
theorem amount_r (n : Int) : lombardref10_Amount_r n (inS n 1 1125899906842624) := by
  refine lombardref10_Amount_of ?_
  unfold lombardref10_Amount_w inS
  refine Br.i (fun c => Rt.i (decide_eq_decide.2 ⟨fun k => ⟨by omega, k⟩, fun k => k.2⟩)) (fun c => Rt.i (decide_eq_false (fun k => c (by omega))).symm)
def cutsS : List api_Cut → Bool
  | [] => true
  | c :: l => if inS c.Days 0 200000 = false then false else if inS c.Rating 0 20 = false then false else if inS c.Cut 0 999999 = false then false else cutsS l
def barS : Option Int → List Int → Bool
  | _, [] => true
  | p, x :: l => if inS x 0 9999 = false then false else match p with
    | none => barS (some x) l
    | some y => if x ≤ y then false else barS (some x) l
theorem barS_cons (p : Option Int) (x : Int) (l : List Int) : barS p (x :: l) = if inS x 0 9999 = false then false else match p with
    | none => barS (some x) l
    | some y => if x ≤ y then false else barS (some x) l := by
  cases p <;> rfl
def basketS (b : api_Basket) : Int := if inS b.ID 1 64 = false then 1 else if inS b.Version 1 1125899906842624 = false then 1 else if inS b.Rating 0 20 = false then 1 else if inS b.Issuer 0 1000000 = false then 1 else if inS b.Asset 0 1000000 = false then 1 else if inS (b.Cuts.length : Nat) 1 64 = false then 1 else if ((b.Barred.length : Nat) : Int) > 64 then 1 else if b.Least < 0 then 10 else if inS b.Most b.Least 200000 = false then 10 else if curS b.Currency = false then 11 else if cutsS b.Cuts = false then 1 else if barS none b.Barred = false then 1 else 0
theorem cuts_l {b : api_Basket} (hl : b.Cuts.length ≤ 1000000) {Q0 Q1 : Unit → Prop} : ∀ (n i : Nat), n + i = b.Cuts.length → (cutsS (b.Cuts.drop i) = false → Q0 ()) → (cutsS (b.Cuts.drop i) = true → Q1 ()) → lombardref10_Basket_L0 b Q0 Q1 (i : Int) := by
  intro n
  induction n with
  | zero =>
    intro i h q0 q1
    refine lombardref10_Basket_l0 ?_
    unfold lombardref10_Basket_w0
    rw [lenM_eq]
    rw [List.drop_of_length_le (by omega)] at q1
    exact Br.neg (by omega) (Lf.i (q1 rfl))
  | succ n ih =>
    intro i h q0 q1
    have hi : i < b.Cuts.length := by omega
    refine lombardref10_Basket_l0 ?_
    unfold lombardref10_Basket_w0
    rw [lenM_eq]
    rw [List.drop_eq_getElem_cons hi, cutsS] at q0 q1
    have g : b.Cuts[(i : Int).toNat]? = some b.Cuts[i] := by simp [hi]
    refine Br.pos (by omega) ⟨b.Cuts[i], Got.i ⟨_, in10_r _ _ _, Br.b (fun c => Lf.i (q0 ?_)) (fun c => Got.i ⟨_, in10_r _ _ _, Br.b (fun c2 => Lf.i (q0 ?_)) (fun c2 => Got.i ⟨_, in10_r _ _ _, Br.b (fun c3 => Lf.i (q0 ?_)) (fun c3 => Num.n (by omega) (ih (i + 1) (by omega) (fun k => q0 ?_) (fun k => q1 ?_)))⟩ (by omega) g)⟩ (by omega) g)⟩ (by omega) g⟩
    · rw [if_pos (by simpa using c)]
    · rw [if_neg (by simpa using c), if_pos (by simpa using c2)]
    · rw [if_neg (by simpa using c), if_neg (by simpa using c2), if_pos (by simpa using c3)]
    · rw [if_neg (by simpa using c), if_neg (by simpa using c2), if_neg (by simpa using c3)]; exact k
    · rw [if_neg (by simpa using c), if_neg (by simpa using c2), if_neg (by simpa using c3)]; exact k
theorem bar_l {b : api_Basket} (hl : b.Barred.length ≤ 1000000) {Q0 Q1 : Unit → Prop} : ∀ (n i : Nat) (p : Option Int), n + i = b.Barred.length → (i = 0 ∧ p = none ∨ 0 < i ∧ ∃ y, p = some y ∧ b.Barred[i - 1]? = some y) → (barS p (b.Barred.drop i) = false → Q0 ()) → (barS p (b.Barred.drop i) = true → Q1 ()) → lombardref10_Basket_L1 b Q0 Q1 (i : Int) := by
  intro n
  induction n with
  | zero =>
    intro i p h hp q0 q1
    refine lombardref10_Basket_l1 ?_
    unfold lombardref10_Basket_w1
    rw [lenM_eq]
    rw [List.drop_of_length_le (by omega)] at q1
    exact Br.neg (by omega) (Lf.i (q1 (by unfold barS; rfl)))
  | succ n ih =>
    intro i p h hp q0 q1
    have hi : i < b.Barred.length := by omega
    refine lombardref10_Basket_l1 ?_
    unfold lombardref10_Basket_w1
    rw [lenM_eq]
    rw [List.drop_eq_getElem_cons hi, barS_cons] at q0 q1
    have g : b.Barred[(i : Int).toNat]? = some b.Barred[i] := by simp [hi]
    have next : (barS (some b.Barred[i]) (b.Barred.drop (i + 1)) = false → Q0 ()) → (barS (some b.Barred[i]) (b.Barred.drop (i + 1)) = true → Q1 ()) → lombardref10_Basket_L1 b Q0 Q1 ((i + 1 : Nat) : Int) := fun k0 k1 => ih (i + 1) (some b.Barred[i]) (by omega) (.inr ⟨by omega, _, rfl, by rw [Nat.add_sub_cancel]; exact List.getElem?_eq_getElem hi⟩) k0 k1
    refine Br.pos (by omega) ⟨b.Barred[i], Got.i ⟨_, in10_r _ _ _, Br.b (fun c => Lf.i (q0 ?_)) (fun c => ?_)⟩ (by omega) g⟩
    · rw [if_pos (by simpa using c)]
    · rw [if_neg (by simpa using c)] at q0 q1
      rcases hp with ⟨rfl, rfl⟩ | ⟨h0, y, rfl, hy⟩
      · exact Br.neg (by omega) (Num.n (by omega) (next q0 q1))
      · have g2 : b.Barred[((i : Int) - 1).toNat]? = some y := by rw [show ((i : Int) - 1).toNat = i - 1 by omega]; exact hy
        refine Br.pos (by omega) (Got.i (Num.n (by omega) ⟨y, Got.i (Br.i (fun c2 => Lf.i (q0 ?_)) (fun c2 => Num.n (by omega) (next (fun k => q0 ?_) (fun k => q1 ?_)))) (by omega) g2⟩) (by omega) g)
        · show (if b.Barred[i] ≤ y then false else _) = false
          rw [if_pos c2]
        · show (if b.Barred[i] ≤ y then false else _) = false
          rw [if_neg c2]; exact k
        · show (if b.Barred[i] ≤ y then false else _) = true
          rw [if_neg c2]; exact k
theorem Basket_r {b : api_Basket} (h1 : b.Cuts.length ≤ 100000000000000000) : lombardref10_Basket_r b (basketS b) := by
  refine lombardref10_Basket_of ?_
  unfold lombardref10_Basket_w basketS
  rw [lenM_eq, lenM_eq]
  refine ⟨_, in10_r _ _ _, Br.b (fun c => Rt.i (by rw [if_pos (by simpa using c)])) (fun c => ?_)⟩
  rw [if_neg (by simpa using c)]
  refine ⟨_, amount_r _, Br.b (fun c => Rt.i (by rw [if_pos (by simpa using c)])) (fun c => ?_)⟩
  rw [if_neg (by simpa using c)]
  refine ⟨_, in10_r _ _ _, Br.b (fun c => Rt.i (by rw [if_pos (by simpa using c)])) (fun c => ?_)⟩
  rw [if_neg (by simpa using c)]
  refine ⟨_, in10_r _ _ _, Br.b (fun c => Rt.i (by rw [if_pos (by simpa using c)])) (fun c => ?_)⟩
  rw [if_neg (by simpa using c)]
  refine ⟨_, in10_r _ _ _, Br.b (fun c => Rt.i (by rw [if_pos (by simpa using c)])) (fun c => ?_)⟩
  rw [if_neg (by simpa using c)]
  refine ⟨_, in10_r _ _ _, Br.b (fun c => Rt.i (by rw [if_pos (by simpa using c)])) (fun c => ?_)⟩
  rw [if_neg (by simpa using c)]
  have hc : inS (b.Cuts.length : Nat) 1 64 = true := by simpa using c
  have hc2 : b.Cuts.length ≤ 64 := by unfold inS at hc; have := of_decide_eq_true hc; omega
  refine Br.i (fun c => Rt.i (by rw [if_pos c])) (fun cb => ?_)
  rw [if_neg cb]
  refine Br.i (fun c => Rt.i (by rw [if_pos c])) (fun c => ?_)
  rw [if_neg c]
  refine ⟨_, in10_r _ _ _, Br.b (fun c => Rt.i (by rw [if_pos (by simpa using c)])) (fun c => ?_)⟩
  rw [if_neg (by simpa using c)]
  refine ⟨_, RCurrency_r _, Br.b (fun c => Rt.i (by rw [if_pos (by simpa using c)])) (fun c => ?_)⟩
  rw [if_neg (by simpa using c)]
  refine cuts_l (by omega) b.Cuts.length 0 (by omega) (fun k => Rt.i (by rw [List.drop_zero] at k; rw [if_pos k])) (fun k => ?_)
  rw [List.drop_zero] at k
  rw [k, if_neg (by decide)]
  refine bar_l (by omega) b.Barred.length 0 none (by omega) (.inl ⟨rfl, rfl⟩) (fun k => Rt.i (by rw [List.drop_zero] at k; rw [if_pos k])) (fun k => Rt.i ?_)
  rw [List.drop_zero] at k
  rw [k, if_neg (by decide)]
theorem bar_pw : ∀ (l : List Int) (p : Option Int), barS p l = true → l.Pairwise (· < ·) ∧ ∀ y, p = some y → ∀ x ∈ l, y < x
  | [], _, _ => ⟨List.Pairwise.nil, fun _ _ x hx => by cases hx⟩
  | x :: l, p, h => by
    rw [barS_cons] at h
    split at h
    · cases h
    · have key : barS (some x) l = true ∧ ∀ y, p = some y → y < x := by
        cases p with
        | none => exact ⟨h, fun y hy => by cases hy⟩
        | some y =>
          have h : (if x ≤ y then false else barS (some x) l) = true := h
          split at h
          · cases h
          · exact ⟨h, fun z hz => by cases hz; omega⟩
      obtain ⟨k1, k2⟩ := bar_pw l (some x) key.1
      refine ⟨List.pairwise_cons.2 ⟨fun z hz => k2 x rfl z hz, k1⟩, fun y hy z hz => ?_⟩
      have := key.2 y hy
      rcases List.mem_cons.1 hz with rfl | hz
      · exact this
      · have := k2 x rfl z hz; omega
theorem if1 {c : Prop} [Decidable c] {a x : Int} (ha : a ≠ 0) (h : (if c then a else x) = 0) : ¬ c ∧ x = 0 := by
  by_cases k : c
  · rw [if_pos k] at h; exact absurd h ha
  · rw [if_neg k] at h; exact ⟨k, h⟩
theorem basket_ok {b : api_Basket} (h : basketS b = 0) : Rules b := by
  unfold basketS at h
  obtain ⟨_, h⟩ := if1 (by decide) h
  obtain ⟨_, h⟩ := if1 (by decide) h
  obtain ⟨_, h⟩ := if1 (by decide) h
  obtain ⟨_, h⟩ := if1 (by decide) h
  obtain ⟨_, h⟩ := if1 (by decide) h
  obtain ⟨hc, h⟩ := if1 (by decide) h
  obtain ⟨hb, h⟩ := if1 (by decide) h
  obtain ⟨_, h⟩ := if1 (by decide) h
  obtain ⟨_, h⟩ := if1 (by decide) h
  obtain ⟨_, h⟩ := if1 (by decide) h
  obtain ⟨_, h⟩ := if1 (by decide) h
  obtain ⟨hbar, _⟩ := if1 (by decide) h
  have hc : inS (b.Cuts.length : Nat) 1 64 = true := by simpa using hc
  refine ⟨?_, by omega, (bar_pw _ none (by simpa using hbar)).1⟩
  unfold inS at hc; have := of_decide_eq_true hc; omega
end Go.Proofs.YtghkboapcapooaaGreat.Pure
namespace Go.Proofs.YtghkboapcapooaaGreat.Pure
open Go Go.Ab Go.Stable Go.Proofs.YtghkboapcapooaaGreat.R
set_option linter.unusedVariables false
theorem iok {n : Int} (h : -9223372036854775808 ≤ n ∧ n ≤ 9223372036854775807) : InR n := h

theorem mulDiv_ok (a b c : Int) : 0 ≤ a → 0 ≤ b → 0 ≤ c → 0 ≤ (mulDivS a b c 1).1 ∧ (mulDivS a b c 1).1 ≤ 9223372036854775807 ∧ ((mulDivS a b c 1).2 ≠ 0 → (mulDivS a b c 1).1 = 0) := by
  intro ha hb hc
  unfold mulDivS
  by_cases h : c = 0 ∨ (1 : Int) < 1 ∨ (4 : Int) < 1
  · rw [if_pos h]; exact ⟨by decide, by decide, fun _ => rfl⟩
  · rw [if_neg h]
    have m : minusOf a b c = false := by unfold minusOf; rw [decide_eq_false (by omega), decide_eq_false (by omega), decide_eq_false (by omega)]; rfl
    simp only [m]
    have u : ∀ q r d, upOf false q r d 1 = false := by intro q r d; unfold upOf; simp
    rw [u]
    simp only [Bool.false_eq_true, if_false, Int.add_zero]
    have q0 : 0 ≤ ((a.natAbs : Int) * b.natAbs) / (c.natAbs : Int) := Int.ediv_nonneg (Int.mul_nonneg (by omega) (by omega)) (by omega)
    generalize ((a.natAbs : Int) * b.natAbs) / (c.natAbs : Int) = q at q0 ⊢
    unfold signOf
    split
    · exact ⟨by decide, by decide, fun _ => rfl⟩
    · rename_i hq
      simp only [Bool.false_eq_true, if_false]
      exact ⟨q0, by simp at hq; omega, fun h => absurd rfl h⟩

def worthS (q p : Int) : Int × Int := if q < 0 then (0, 1) else if 1125899906842624 < q then (0, 1) else if p < 1 then (0, 1) else if 4294967296 < p then (0, 1) else mulDivS q p 1000000 1
theorem worth_ok (q p : Int) : 0 ≤ (worthS q p).1 ∧ (worthS q p).1 ≤ 9223372036854775807 ∧ ((worthS q p).2 ≠ 0 → (worthS q p).1 = 0) := by
  unfold worthS
  split
  · exact ⟨by decide, by decide, fun _ => rfl⟩
  split
  · exact ⟨by decide, by decide, fun _ => rfl⟩
  split
  · exact ⟨by decide, by decide, fun _ => rfl⟩
  split
  · exact ⟨by decide, by decide, fun _ => rfl⟩
  · exact mulDiv_ok _ _ _ (by omega) (by omega) (by decide)
theorem Worth_r {q p : Int} : asset_Worth_r q p (worthS q p) := by
  refine asset_Worth_of ?_
  unfold asset_Worth_w worthS
  refine Br.i (fun c => Rt.i (by rw [if_pos c])) (fun c1 => Br.i (fun c => Rt.i (by rw [if_neg c1, if_pos c])) (fun c2 => Br.i (fun c => Rt.i (by rw [if_neg c1, if_neg c2, if_pos c])) (fun c3 => Br.i (fun c => Rt.i (by rw [if_neg c1, if_neg c2, if_neg c3, if_pos c])) (fun c4 => ?_))))
  exact ⟨_, MulDiv_r (iok (by omega)) (iok (by omega)) (by decide), Rt.i (by rw [if_neg c1, if_neg c2, if_neg c3, if_neg c4])⟩
theorem RWorth_r {q p : Int} : lombardref13_Worth_r q p (worthS q p) := by
  refine lombardref13_Worth_of ?_
  unfold lombardref13_Worth_w worthS
  refine Br.i (fun c => Rt.i (by rw [if_pos c])) (fun c1 => Br.i (fun c => Rt.i (by rw [if_neg c1, if_pos c])) (fun c2 => Br.i (fun c => Rt.i (by rw [if_neg c1, if_neg c2, if_pos c])) (fun c3 => Br.i (fun c => Rt.i (by rw [if_neg c1, if_neg c2, if_neg c3, if_pos c])) (fun c4 => ?_))))
  exact ⟨_, RMulDiv_r (iok (by omega)) (iok (by omega)) (by decide), Rt.i (by rw [if_neg c1, if_neg c2, if_neg c3, if_neg c4])⟩
def goodS (p c : Int) : Bool := decide (p ≥ 1) && (decide (p ≤ 4294967296) && (decide (c ≥ 0) && decide (c < 1000000)))
theorem hgood_r {p c : Int} : haircut_good_r p c (goodS p c) := by
  refine haircut_good_of ?_
  unfold haircut_good_w goodS
  refine Br.i (fun c1 => Br.i (fun c2 => Br.i (fun c3 => Rt.i ?_) (fun c3 => Rt.i ?_)) (fun c2 => Rt.i ?_)) (fun c1 => Rt.i ?_)
  · rw [decide_eq_true c1, decide_eq_true c2, decide_eq_true c3]; rfl
  · rw [decide_eq_true c1, decide_eq_true c2, decide_eq_false c3]; rfl
  · rw [decide_eq_true c1, decide_eq_false c2]; rfl
  · rw [decide_eq_false c1]; rfl
theorem Rhgood_r {p c : Int} : lombardref15_good_r p c (goodS p c) := by
  refine lombardref15_good_of ?_
  unfold lombardref15_good_w goodS
  refine Br.i (fun c1 => Br.i (fun c2 => Br.i (fun c3 => Rt.i ?_) (fun c3 => Rt.i ?_)) (fun c2 => Rt.i ?_)) (fun c1 => Rt.i ?_)
  · rw [decide_eq_true c1, decide_eq_true c2, decide_eq_true c3]; rfl
  · rw [decide_eq_true c1, decide_eq_true c2, decide_eq_false c3]; rfl
  · rw [decide_eq_true c1, decide_eq_false c2]; rfl
  · rw [decide_eq_false c1]; rfl
def coverS (q p c : Int) : Int × Int := if goodS p c = false then (0, 1) else if (worthS q p).2 ≠ 0 then (0, (worthS q p).2) else mulDivS (worthS q p).1 (1000000 - c) 1000000 1
theorem cover_ok (q p c : Int) : 0 ≤ (coverS q p c).1 ∧ (coverS q p c).1 ≤ 9223372036854775807 ∧ ((coverS q p c).2 ≠ 0 → (coverS q p c).1 = 0) := by
  unfold coverS
  split
  · exact ⟨by decide, by decide, fun _ => rfl⟩
  split
  · exact ⟨Int.le_refl 0, (by decide : (0 : Int) ≤ 9223372036854775807), fun _ => rfl⟩
  · rename_i h _
    have g : 0 ≤ c ∧ c < 1000000 := by
      unfold goodS at h; simp at h; omega
    exact mulDiv_ok _ _ _ (worth_ok q p).1 (by omega) (by decide)
theorem goodS_c {p c : Int} (h : ¬ goodS p c = false) : 0 ≤ c ∧ c < 1000000 := by unfold goodS at h; simp at h; omega
theorem Cover_r {q p c : Int} : haircut_Cover_r q p c (coverS q p c) := by
  refine haircut_Cover_of ?_
  unfold haircut_Cover_w
  have w := worth_ok q p
  refine ⟨_, hgood_r, Br.b (fun h => Rt.i ?_) (fun h => ?_)⟩
  · unfold coverS; rw [if_pos (by simpa using h)]
  · have h' : ¬ goodS p c = false := by simpa using h
    have g := goodS_c h'
    refine ⟨_, Worth_r, Br.i (fun c1 => Rt.i ?_) (fun c1 => Num.n (by omega) ⟨_, MulDiv_r (iok (by omega)) (iok (by omega)) (by decide), Rt.i ?_⟩)⟩
    · unfold coverS; rw [if_neg h', if_pos c1]
    · unfold coverS; rw [if_neg h', if_neg c1]
theorem RCover_r {q p c : Int} : lombardref15_Cover_r q p c (coverS q p c) := by
  refine lombardref15_Cover_of ?_
  unfold lombardref15_Cover_w
  have w := worth_ok q p
  refine ⟨_, Rhgood_r, Br.b (fun h => Rt.i ?_) (fun h => ?_)⟩
  · unfold coverS; rw [if_pos (by simpa using h)]
  · have h' : ¬ goodS p c = false := by simpa using h
    have g := goodS_c h'
    refine ⟨_, RWorth_r, Br.i (fun c1 => Rt.i ?_) (fun c1 => Num.n (by omega) ⟨_, RMulDiv_r (iok (by omega)) (iok (by omega)) (by decide), Rt.i ?_⟩)⟩
    · unfold coverS; rw [if_neg h', if_pos c1]
    · unfold coverS; rw [if_neg h', if_neg c1]

/-- Items alike. -/
def covC (x : lombardref15_Item) : Int := (coverS x.Lot.Qty x.Price x.Cut).1
theorem covC_ok (x : lombardref15_Item) : 0 ≤ covC x ∧ covC x ≤ 9223372036854775807 := ⟨(cover_ok _ _ _).1, (cover_ok _ _ _).2.1⟩
theorem ICover_r (x : lombardref15_Item) : _haircut_Item_Cover_r (toH x) (covC x) := by
  refine _haircut_Item_Cover_of ?_
  unfold _haircut_Item_Cover_w
  refine ⟨_, Cover_r, Br.i (fun c => Rt.i ?_) (fun c => Rt.i rfl)⟩
  exact ((cover_ok _ _ _).2.2 c).symm
theorem RCovers_r (x : lombardref15_Item) : _lombardref15_Item_Covers_r x (covC x) := by
  refine _lombardref15_Item_Covers_of ?_
  unfold _lombardref15_Item_Covers_w
  exact ⟨_, RCover_r, Rt.i rfl⟩

theorem mulDiv1 {a b : Int} (ha : 0 ≤ a) (hb : 0 ≤ b) (h : a * b / 1000000 ≤ 9223372036854775807) : mulDivS a b 1000000 1 = (a * b / 1000000, 0) := by
  unfold mulDivS
  rw [if_neg (by omega)]
  have m : minusOf a b 1000000 = false := by unfold minusOf; rw [decide_eq_false (by omega), decide_eq_false (by omega)]; rfl
  have u : ∀ q r d, upOf false q r d 1 = false := by intro q r d; unfold upOf; simp
  simp only [m, u, Bool.false_eq_true, if_false, Int.add_zero]
  rw [show (a.natAbs : Int) = a by omega, show (b.natAbs : Int) = b by omega, show (((1000000 : Int).natAbs : Nat) : Int) = 1000000 from rfl]
  unfold signOf
  rw [if_neg (by omega)]
  rfl
theorem iw2 {x : Int} (h1 : 9223372036854775808 ≤ x) (h2 : x ≤ 18446744073709551614) : IntKind.wrap .i64 x < 0 := by
  simp [IntKind.wrap, IntKind.bits, IntKind.signed]; omega
def plusS (a b : Int) : Int × Int := if a + b ≤ 9223372036854775807 then (a + b, 0) else (0, 9)
theorem FPlus_r {a b : Int} (a0 : 0 ≤ a ∧ a ≤ 9223372036854775807) (b0 : 0 ≤ b ∧ b ≤ 9223372036854775807) : fixnum_Plus_r a b (plusS a b) := by
  refine fixnum_Plus_of ?_
  unfold fixnum_Plus_w plusS
  by_cases h : a + b ≤ 9223372036854775807
  · rw [if_pos h, iw (a + b) (by omega) h]
    refine Br.i (fun c1 => Br.i (fun c2 => Br.neg (by omega) (Br.neg (by omega) (Rt.i rfl))) (fun c2 => Br.neg (by omega) (Rt.i rfl))) (fun c1 => Br.neg (by omega) (Rt.i rfl))
  · rw [if_neg h]
    have w := iw2 (x := a + b) (by omega) (by omega)
    exact Br.pos (by omega) (Br.pos (by omega) (Br.pos w (Rt.i rfl)))
theorem RPlus_r {a b : Int} (a0 : 0 ≤ a ∧ a ≤ 9223372036854775807) (b0 : 0 ≤ b ∧ b ≤ 9223372036854775807) : lombardref01_Plus_r a b (plusS a b) := by
  refine lombardref01_Plus_of ?_
  unfold lombardref01_Plus_w plusS
  refine Br.i (fun c1 => Num.n (by omega) (Br.i (fun c2 => Rt.i (by rw [if_neg (by omega)])) (fun c2 => Br.neg (by omega) (Num.n (by omega) (Rt.i (by rw [if_pos (by omega)])))))) (fun c1 => Br.neg (by omega) (Num.n (by omega) (Rt.i (by rw [if_pos (by omega)]))))

/-! Totals. -/
def sumC : List lombardref15_Item → Int
  | [] => 0
  | x :: l => covC x + sumC l
theorem sumC_nn : ∀ l, 0 ≤ sumC l
  | [] => Int.le_refl 0
  | x :: l => by have h := sumC_nn l; have c := covC_ok x; simp only [sumC]; omega
def totH (l : List lombardref15_Item) : Int × Int := if sumC l ≤ 9223372036854775807 then (sumC l, 0) else (0, 9)
theorem tot_l {l : List lombardref15_Item} {Q0 Q1 : Int → Prop} (hl : l.length ≤ 1000) : ∀ (n s : Nat) (acc : Int), n + s = l.length → 0 ≤ acc ∧ acc ≤ 9223372036854775807 → (acc + sumC (l.drop s) ≤ 9223372036854775807 → Q1 (acc + sumC (l.drop s))) → (¬ acc + sumC (l.drop s) ≤ 9223372036854775807 → Q0 9) → haircut_Total_L0 (l.map toH) Q0 Q1 acc (s : Int) := by
  intro n
  induction n with
  | zero =>
    intro s acc h ha q1 _
    refine haircut_Total_l0 ?_
    unfold haircut_Total_w0
    rw [lenM_eq, List.length_map]
    rw [List.drop_of_length_le (by omega)] at q1
    refine Br.neg (by omega) (Lf.i ?_)
    simp only [sumC, Int.add_zero] at q1
    exact q1 ha.2
  | succ n ih =>
    intro s acc h ha q1 q0
    have hs : s < l.length := by omega
    refine haircut_Total_l0 ?_
    unfold haircut_Total_w0
    rw [lenM_eq, List.length_map]
    rw [List.drop_eq_getElem_cons hs] at q1 q0
    simp only [sumC] at q1 q0
    have c := covC_ok l[s]
    have nn := sumC_nn (l.drop (s + 1))
    refine Br.pos (by omega) ⟨toH l[s], Got.i ⟨covC l[s], ICover_r l[s], plusS acc (covC l[s]), FPlus_r ha c, ?_⟩ (by omega) (by simp [hs])⟩
    unfold plusS
    by_cases hp : acc + covC l[s] ≤ 9223372036854775807
    · rw [if_pos hp]
      rw [← Int.add_assoc] at q1 q0
      exact Br.f rfl (Num.n (by omega) (ih (s + 1) _ (by omega) ⟨by omega, hp⟩ q1 q0))
    · rw [if_neg hp]
      exact Br.t rfl (Lf.i (q0 (by omega)))
theorem Total_r {l : List lombardref15_Item} (hl : l.length ≤ 1000) : haircut_Total_r (l.map toH) (totH l) := by
  refine haircut_Total_of ?_
  unfold haircut_Total_w
  refine tot_l hl _ 0 0 rfl ⟨by decide, by decide⟩ (fun h => Rt.i ?_) (fun h => Rt.i ?_)
  · simp only [List.drop_zero, Int.zero_add] at h ⊢; unfold totH; rw [if_pos h]
  · simp only [List.drop_zero, Int.zero_add] at h; unfold totH; rw [if_neg h]
theorem rtot_l {l : List lombardref15_Item} {Q0 Q1 : Int → Prop} (hl : l.length ≤ 1000) : ∀ (n s : Nat) (acc : Int), n + s = l.length → 0 ≤ acc ∧ acc ≤ 9223372036854775807 → (acc + sumC (l.drop s) ≤ 9223372036854775807 → Q1 (acc + sumC (l.drop s))) → (¬ acc + sumC (l.drop s) ≤ 9223372036854775807 → Q0 9) → lombardref15_Total_L0 l Q0 Q1 acc (s : Int) := by
  intro n
  induction n with
  | zero =>
    intro s acc h ha q1 _
    refine lombardref15_Total_l0 ?_
    unfold lombardref15_Total_w0
    rw [lenM_eq]
    rw [List.drop_of_length_le (by omega)] at q1
    refine Br.neg (by omega) (Lf.i ?_)
    simp only [sumC, Int.add_zero] at q1
    exact q1 ha.2
  | succ n ih =>
    intro s acc h ha q1 q0
    have hs : s < l.length := by omega
    refine lombardref15_Total_l0 ?_
    unfold lombardref15_Total_w0
    rw [lenM_eq]
    rw [List.drop_eq_getElem_cons hs] at q1 q0
    simp only [sumC] at q1 q0
    have c := covC_ok l[s]
    have nn := sumC_nn (l.drop (s + 1))
    refine Br.pos (by omega) ⟨l[s], Got.i ⟨covC l[s], RCovers_r l[s], plusS acc (covC l[s]), RPlus_r ha c, ?_⟩ (by omega) (by simp [hs])⟩
    unfold plusS
    by_cases hp : acc + covC l[s] ≤ 9223372036854775807
    · rw [if_pos hp]
      rw [← Int.add_assoc] at q1 q0
      exact Br.f rfl (Num.n (by omega) (ih (s + 1) _ (by omega) ⟨by omega, hp⟩ q1 q0))
    · rw [if_neg hp]
      exact Br.t rfl (Lf.i (q0 (by omega)))
theorem RTotal_r {l : List lombardref15_Item} (hl : l.length ≤ 1000) : lombardref15_Total_r l (totH l) := by
  refine lombardref15_Total_of ?_
  unfold lombardref15_Total_w
  refine rtot_l hl _ 0 0 rfl ⟨by decide, by decide⟩ (fun h => Rt.i ?_) (fun h => Rt.i ?_)
  · simp only [List.drop_zero, Int.zero_add] at h ⊢; unfold totH; rw [if_pos h]
  · simp only [List.drop_zero, Int.zero_add] at h; unfold totH; rw [if_neg h]

end Go.Proofs.YtghkboapcapooaaGreat.Pure
