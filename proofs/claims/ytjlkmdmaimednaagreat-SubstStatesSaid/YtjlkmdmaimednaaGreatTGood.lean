/- Items: what is wrong with them; in order; what is taken of them. -/
import Derived.Test.YtjlkmdmaimednaaGreatTLotB
import Derived.Test.YtjlkmdmaimednaaGreatTRankR
import Derived.Test.YtjlkmdmaimednaaGreatAbY
import Derived.Test.YtjlkmdmaimednaaGreatTKeys
namespace Go.Proofs.YtjlkmdmaimednaaGreat.Pure
open Go Go.Ab Go.Stable Go.Proofs.YtjlkmdmaimednaaGreat.R
set_option linter.unusedVariables false
/-! What is wrong. -/
instance decMem (k : ByteArray) (l : List ByteArray) : Decidable (k ∈ l) := decidable_of_iff ((l.any fun y => decide (y = k)) = true) (by simp)
def wrongL : List ByteArray → List RI → Int
  | _, [] => 0
  | seen, x :: l => if (coverS x.Lot.Qty x.Price x.Cut).2 ≠ 0 ∨ x.Lot.Qty = 0 then 1 else if 1125899906842624 < covC x then 9 else if x.Asset.ISIN ∈ seen ∨ x.Asset.ISIN ≠ x.Lot.ISIN then 7 else wrongL (seen ++ [x.Asset.ISIN]) l
def wrongS (l : List RI) : Int := if 64 < l.length then 2 else wrongL [] l
theorem check_l {l : List RI} {Q0 : Int → Prop} {Q1 : Unit → Prop} (hl : l.length ≤ 64) : ∀ (n i : Nat) (m : GM ByteArray Bool) (seen : List ByteArray), n + i = l.length → (∀ k, m.getD k false = decide (k ∈ seen)) →
    (wrongL seen (l.drop i) ≠ 0 → Q0 (wrongL seen (l.drop i))) → (wrongL seen (l.drop i) = 0 → Q1 ()) → alloc_check_L0 (l.map toH) Q0 Q1 (i : Int) m := by
  intro n
  induction n with
  | zero =>
    intro i m seen h hm q0 q1
    refine alloc_check_l0 ?_
    unfold alloc_check_w0
    rw [lenM_eq, List.length_map]
    rw [List.drop_of_length_le (by omega)] at q1
    exact Br.neg (by omega) (Lf.i (q1 rfl))
  | succ n ih =>
    intro i m seen h hm q0 q1
    have hs : i < l.length := by omega
    refine alloc_check_l0 ?_
    unfold alloc_check_w0
    rw [lenM_eq, List.length_map]
    rw [List.drop_eq_getElem_cons hs] at q0 q1
    have g : (l.map toH)[(i : Int).toNat]? = some (toH l[i]) := by simp [hs]
    simp only [wrongL] at q0 q1
    refine Br.pos (by omega) ⟨toH l[i], Got.i ⟨_, Cover_r, Br.i (fun c => Lf.i ?_) (fun c => Br.i (fun c1 => Lf.i ?_) (fun c1 => ⟨_, ICover_r l[i], Br.i (fun c2 => Lf.i ?_) (fun c2 => ⟨_, _, Look.i ?_⟩)⟩))⟩ (by omega) g⟩
    · rw [if_pos (.inl c)] at q0; exact q0 (by decide)
    · rw [if_pos (.inr c1)] at q0; exact q0 (by decide)
    · rw [if_neg (fun e => e.elim c c1), if_pos (by omega)] at q0; exact q0 (by decide)
    · rw [if_neg (fun e => e.elim c c1), if_neg (by omega)] at q0 q1
      show Br (m.getD l[i].Asset.ISIN false) _ _
      rw [hm]
      refine Br.i (fun c3 => Lf.i ?_) (fun c3 => Br.i (fun c4 => Lf.i ?_) (fun c4 => ⟨_, Put.i (Num.n (by omega) ?_)⟩))
      · rw [if_pos (.inl c3)] at q0; exact q0 (by decide)
      · rw [if_pos (.inr c4)] at q0; exact q0 (by decide)
      · have e : ¬ (l[i].Asset.ISIN ∈ seen ∨ l[i].Asset.ISIN ≠ l[i].Lot.ISIN) := fun e => e.elim c3 c4
        rw [if_neg e] at q0 q1
        refine ih (i + 1) _ (seen ++ [l[i].Asset.ISIN]) (by omega) (fun k => ?_) q0 q1
        rw [getD_put]
        by_cases ek : k = l[i].Asset.ISIN
        · rw [if_pos (show k = (toH l[i]).Asset.ISIN from ek), decide_eq_true (by rw [ek]; simp)]
        · rw [if_neg (show ¬ k = (toH l[i]).Asset.ISIN from ek), hm]
          exact decide_eq_decide.2 (by simp [ek])
theorem Check_r {l : List RI} : alloc_check_r (l.map toH) (wrongS l) := by
  refine alloc_check_of ?_
  unfold alloc_check_w wrongS
  rw [lenM_eq, List.length_map]
  refine Br.i (fun c => Rt.i (by rw [if_pos (by omega)])) (fun c => ?_)
  exact check_l (by omega) l.length 0 GM.nil [] (by omega) (fun k => rfl) (fun h => Rt.i (by rw [if_neg (by omega)]; rfl)) (fun h => Rt.i (by rw [if_neg (by omega)]; exact h.symm))
theorem rwrong_l1 {l : List RI} {i : Nat} (hi : i < l.length) (hl : l.length ≤ 64) {Q0 Q1 : Unit → Prop} : ∀ (n k : Nat), n + k = i → (l[i].Asset.ISIN ∈ ((l.take i).drop k).map (·.Asset.ISIN) → Q0 ()) → (l[i].Asset.ISIN ∉ ((l.take i).drop k).map (·.Asset.ISIN) → Q1 ()) → lombardref18_Wrong_L1 l i Q0 Q1 (k : Int) := by
  intro n
  induction n with
  | zero =>
    intro k h q0 q1
    refine lombardref18_Wrong_l1 ?_
    unfold lombardref18_Wrong_w1
    exact Br.neg (by omega) (Lf.i (q1 (by rw [List.drop_of_length_le (by simp; omega)]; simp)))
  | succ n ih =>
    intro k h q0 q1
    refine lombardref18_Wrong_l1 ?_
    unfold lombardref18_Wrong_w1
    have hk : k < l.length := by omega
    have g : l[(k : Int).toNat]? = some l[k] := by simp [hk]
    have g2 : l[(i : Int).toNat]? = some l[i] := by simp [hi]
    have hk2 : k < (l.take i).length := by simp; omega
    rw [List.drop_eq_getElem_cons hk2, List.map_cons, List.getElem_take] at q0 q1
    refine Br.pos (by omega) ⟨l[k], Got.i ⟨l[i], Got.i (Br.i (fun c => Lf.i (q0 (by rw [c]; simp))) (fun c => Num.n (by omega) (ih (k + 1) (by omega) (fun hm => q0 (List.mem_cons_of_mem _ hm)) (fun hm => q1 ?_)))) (by omega) g2⟩ (by omega) g⟩
    intro hx
    rcases List.mem_cons.1 hx with e | e
    · exact c e.symm
    · exact hm e
theorem rwrong_l {l : List RI} {Q0 : Int → Prop} {Q1 : Unit → Prop} (hl : l.length ≤ 64) : ∀ (n i : Nat), n + i = l.length →
    (wrongL ((l.take i).map (·.Asset.ISIN)) (l.drop i) ≠ 0 → Q0 (wrongL ((l.take i).map (·.Asset.ISIN)) (l.drop i))) → (wrongL ((l.take i).map (·.Asset.ISIN)) (l.drop i) = 0 → Q1 ()) → lombardref18_Wrong_L0 l Q0 Q1 (i : Int) := by
  intro n
  induction n with
  | zero =>
    intro i h q0 q1
    refine lombardref18_Wrong_l0 ?_
    unfold lombardref18_Wrong_w0
    rw [lenM_eq]
    rw [List.drop_of_length_le (by omega)] at q1
    exact Br.neg (by omega) (Lf.i (q1 rfl))
  | succ n ih =>
    intro i h q0 q1
    have hs : i < l.length := by omega
    refine lombardref18_Wrong_l0 ?_
    unfold lombardref18_Wrong_w0
    rw [lenM_eq]
    rw [List.drop_eq_getElem_cons hs] at q0 q1
    have g : l[(i : Int).toNat]? = some l[i] := by simp [hs]
    have z : (0 : Int) ≤ (i : Int) := by omega
    simp only [wrongL] at q0 q1
    refine Br.pos (by omega) ⟨l[i], Got.i (Got.i (Got.i ⟨_, RCover_r, Br.i (fun c => Lf.i ?_) (fun c => Got.i (Br.i (fun c1 => Lf.i ?_) (fun c1 => Br.i (fun c2 => Lf.i ?_) (fun c2 => Got.i (Got.i (Br.i (fun c3 => Lf.i ?_) (fun c3 => ?_)) z g) z g))) z g)⟩ z g) z g) z g⟩
    · rw [if_pos (.inl c)] at q0; exact q0 (by decide)
    · rw [if_pos (.inr c1)] at q0; exact q0 (by decide)
    · rw [if_neg (fun e => e.elim c c1), if_pos (by unfold covC; omega)] at q0; exact q0 (by decide)
    · rw [if_neg (fun e => e.elim c c1), if_neg (by unfold covC; omega), if_pos (.inr c3)] at q0; exact q0 (by decide)
    · have c3 := Decidable.not_not.1 c3
      rw [if_neg (fun e => e.elim c c1), if_neg (by unfold covC; omega)] at q0 q1
      refine rwrong_l1 hs hl i 0 (by omega) (fun hm => Lf.i ?_) (fun hm => Num.n (by omega) (ih (i + 1) (by omega) (fun hx => ?_) (fun hx => ?_)))
      · rw [List.drop_zero] at hm
        rw [if_pos (.inl hm)] at q0; exact q0 (by decide)
      · rw [List.drop_zero] at hm
        have e : ¬ (l[i].Asset.ISIN ∈ (l.take i).map (·.Asset.ISIN) ∨ l[i].Asset.ISIN ≠ l[i].Lot.ISIN) := fun e => e.elim hm (fun k => k c3)
        rw [if_neg e] at q0
        rw [List.take_succ_eq_append_getElem hs, List.map_append] at hx ⊢
        exact q0 hx
      · rw [List.drop_zero] at hm
        have e : ¬ (l[i].Asset.ISIN ∈ (l.take i).map (·.Asset.ISIN) ∨ l[i].Asset.ISIN ≠ l[i].Lot.ISIN) := fun e => e.elim hm (fun k => k c3)
        rw [if_neg e] at q1
        rw [List.take_succ_eq_append_getElem hs, List.map_append] at hx
        exact q1 hx
theorem Wrong_r {l : List RI} : lombardref18_Wrong_r l (wrongS l) := by
  refine lombardref18_Wrong_of ?_
  unfold lombardref18_Wrong_w wrongS
  rw [lenM_eq]
  refine Br.i (fun c => Rt.i (by rw [if_pos (by omega)])) (fun c => ?_)
  exact rwrong_l (by omega) l.length 0 (by omega) (fun h => Rt.i (by rw [if_neg (by omega)]; rfl)) (fun h => Rt.i (by rw [if_neg (by omega)]; exact h.symm))
/-- What isn't wrong. -/
structure It (x : HI) : Prop where
  good : goodS x.Price x.Cut = true
  pos : 1 ≤ x.Lot.Qty
  top : x.Lot.Qty ≤ 1125899906842624
theorem it_of {x : RI} (h : ¬ ((coverS x.Lot.Qty x.Price x.Cut).2 ≠ 0 ∨ x.Lot.Qty = 0)) : It (toH x) := by
  have h1 : (coverS x.Lot.Qty x.Price x.Cut).2 = 0 := Decidable.byContradiction fun k => h (.inl k)
  have h2 : x.Lot.Qty ≠ 0 := fun k => h (.inr k)
  unfold coverS at h1
  split at h1
  · cases h1
  · rename_i hg
    split at h1
    · rename_i hw; exact absurd h1 hw
    · rename_i hw
      have hw := Decidable.not_not.1 hw
      unfold worthS at hw
      refine ⟨by simpa [toH] using hg, ?_, ?_⟩
      · show 1 ≤ x.Lot.Qty
        by_cases k : x.Lot.Qty < 0
        · rw [if_pos k] at hw; cases hw
        · omega
      · show x.Lot.Qty ≤ 1125899906842624
        by_cases k : x.Lot.Qty < 0
        · omega
        · rw [if_neg k] at hw
          by_cases k2 : 1125899906842624 < x.Lot.Qty
          · rw [if_pos k2] at hw; cases hw
          · omega
theorem wrong_it : ∀ (l : List RI) (seen : List ByteArray), wrongL seen l = 0 → (∀ x ∈ l, It (toH x) ∧ covC x ≤ 1125899906842624 ∧ x.Asset.ISIN = x.Lot.ISIN ∧ x.Lot.ISIN ∉ seen) ∧ l.Pairwise (fun x y => x.Lot.ISIN ≠ y.Lot.ISIN)
  | [], seen, _ => ⟨by simp, List.Pairwise.nil⟩
  | x :: l, seen, h => by
    simp only [wrongL] at h
    split at h
    · cases h
    · rename_i h1
      split at h
      · cases h
      · rename_i h2
        split at h
        · cases h
        · rename_i h3
          have e : x.Asset.ISIN = x.Lot.ISIN := Decidable.byContradiction fun k => h3 (.inr k)
          have ns : x.Asset.ISIN ∉ seen := fun k => h3 (.inl k)
          obtain ⟨i1, i2⟩ := wrong_it l _ h
          refine ⟨fun y hy => ?_, List.pairwise_cons.2 ⟨fun y hy k => ?_, i2⟩⟩
          · rcases List.mem_cons.1 hy with rfl | hy
            · exact ⟨it_of h1, by omega, e, by rw [← e]; exact ns⟩
            · obtain ⟨a, b, c, d⟩ := i1 y hy
              exact ⟨a, b, c, fun k => d (by simp [k])⟩
          · have := (i1 y hy).2.2.2
            exact this (by rw [← k, e]; simp)

/-! In order. -/
end Go.Proofs.YtjlkmdmaimednaaGreat.Pure
namespace Go.Proofs.YtjlkmdmaimednaaGreat.Pure
open Go Go.Ab Go.Stable Go.Proofs.YtjlkmdmaimednaaGreat.R
set_option linter.unusedVariables false
def covH (x : HI) : Int := covC (toR x)
theorem HCover_r (x : HI) : _haircut_Item_Cover_r x (covH x) := ICover_r (toR x)
theorem RHCovers_r (x : HI) : _lombardref15_Item_Covers_r (toR x) (covH x) := RCovers_r (toR x)
end Go.Proofs.YtjlkmdmaimednaaGreat.Pure
namespace Go.Proofs.YtjlkmdmaimednaaGreat.Pure
open Go Go.Ab Go.Stable Go.Proofs.YtjlkmdmaimednaaGreat.R
set_option linter.unusedVariables false
end Go.Proofs.YtjlkmdmaimednaaGreat.Pure
namespace Go.Proofs.YtjlkmdmaimednaaGreat.Pure
open Go Go.Ab Go.Stable Go.Proofs.YtjlkmdmaimednaaGreat.R
set_option linter.unusedVariables false
def sumW (p : HI → Bool) : List HI → Int
  | [] => 0
  | y :: l => (if p y = true then covH y else 0) + sumW p l
theorem covH_nn (y : HI) : 0 ≤ covH y := (covC_ok (toR y)).1
theorem sumW_nn (p : HI → Bool) : ∀ l : List HI, 0 ≤ sumW p l
  | [] => Int.le_refl _
  | y :: l => by
    have := covH_nn y; have := sumW_nn p l
    simp only [sumW]; split <;> omega
def pT (_ : HI) : Bool := true
def sumQ (s : ByteArray) : List api_Lot → Int
  | [] => 0
  | y :: l => (if y.ISIN = s then y.Qty else 0) + sumQ s l
theorem qtyG_other {s s' : ByteArray} {q : Int} (hne : s' ≠ s) : ∀ (l : List api_Lot) (d : Bool), qtyG s' (setG s q d l) = qtyG s' l
  | [], true => rfl
  | [], false => by simp only [setG, qtyG]; rw [if_neg (fun e => hne e.symm)]
  | y :: l, d => by
    have ih := qtyG_other (q := q) hne l
    have e1 : ∀ r : List api_Lot, qtyG s' ((if y.ISIN = s then [] else [y]) ++ r) = if y.ISIN = s' then y.Qty else qtyG s' r := fun r => by
      by_cases c : y.ISIN = s
      · rw [if_pos c, if_neg (fun e => hne (by rw [← e, c]))]; rfl
      · rw [if_neg c]; rfl
    cases d with
    | true => simp only [setG]; rw [e1, ih true]; rfl
    | false =>
      simp only [setG]
      split
      · rw [e1, ih false]; rfl
      · show qtyG s' (⟨s, q⟩ :: _) = _
        simp only [qtyG]
        rw [if_neg (fun e => hne e.symm), e1, ih true]
theorem qtyG_add {l : List api_Lot} {x : api_Lot} (h : Lk l) (h0 : (addG l x).2 = 0) (s : ByteArray) : qtyG s (addG l x).1 = qtyG s l + (if x.ISIN = s then x.Qty else 0) := by
  obtain ⟨A, B, e, hA, hB, hc⟩ := add_cases (x := x) h
  unfold addG at h0 ⊢
  split at h0
  · cases h0
  · rename_i n1
    split at h0
    · cases h0
    · rename_i n2
      rw [if_neg n1, if_neg n2]
      by_cases c : x.ISIN = s
      · subst c
        rw [if_pos rfl]
        have : ∀ (q : Int) (R : List api_Lot), qtyG x.ISIN (A ++ ⟨x.ISIN, q⟩ :: R) = q := fun q R => by
          rw [qtyG_A hA]; simp [qtyG]
        rcases hc with ⟨_, c2, c3⟩ | ⟨y, B', _, _, _, c2, c3⟩
        · rw [c3, this]
        · rw [c3, this]
      · rw [if_neg c, Int.add_zero]
        exact qtyG_other (fun e => c e.symm) l false
theorem qtyG_merge (s : ByteArray) : ∀ (l out r : List api_Lot), Lk out → mergeG out l = (r, 0) → qtyG s r = qtyG s out + sumQ s l ∧ Lk r
  | [], out, r, ho, h => by
    simp only [mergeG, Prod.mk.injEq, and_true] at h
    subst h; exact ⟨by simp [sumQ], ho⟩
  | x :: l, out, r, ho, h => by
    simp only [mergeG] at h
    split at h
    · simp at h
    · rename_i c
      split at h
      · rename_i c2; simp only [Prod.mk.injEq] at h; exact absurd h.2 c2
      · rename_i c2
        have c2 := Decidable.not_not.1 c2
        obtain ⟨h1, h2⟩ := qtyG_merge s l _ r (add_ok ho ⟨by omega, by omega⟩ c2) h
        refine ⟨?_, h2⟩
        rw [h1, qtyG_add ho c2 s]
        simp only [sumQ]; omega
theorem R1Plus_r {a b : Int} (ha : 0 ≤ a) (hb : 0 ≤ b) (h : a + b ≤ 9223372036854775807) : lombardref01_Plus_r a b (a + b, 0) := by
  refine lombardref01_Plus_of ?_
  unfold lombardref01_Plus_w
  refine Br.i (fun c => Num.n (by omega) (Br.neg (by omega) (Br.neg (by omega) (Num.n (by omega) (Rt.i rfl))))) (fun c => Br.neg (by omega) (Num.n (by omega) (Rt.i rfl)))
theorem total_l {l : List HI} (h2 : l.length ≤ 1000) {Q0 Q1 : Int → Prop} : ∀ (n i : Nat) (acc : Int), n + i = l.length → 0 ≤ acc → acc + sumW pT (l.drop i) ≤ 9223372036854775807 → Q1 (acc + sumW pT (l.drop i)) → lombardref15_Total_L0 (l.map toR) Q0 Q1 acc (i : Int) := by
  intro n
  induction n with
  | zero =>
    intro i acc h ha hb q
    refine lombardref15_Total_l0 ?_
    unfold lombardref15_Total_w0
    rw [lenM_eq, List.length_map]
    rw [List.drop_of_length_le (by omega)] at q
    exact Br.neg (by omega) (Lf.i (by simpa [sumW] using q))
  | succ n ih =>
    intro i acc h ha hb q
    have hi : i < l.length := by omega
    refine lombardref15_Total_l0 ?_
    unfold lombardref15_Total_w0
    rw [lenM_eq, List.length_map]
    rw [List.drop_eq_getElem_cons hi] at q hb
    have g : (l.map toR)[(i : Int).toNat]? = some (toR l[i]) := by simp [hi]
    simp only [sumW, pT, if_true] at q hb
    have nn := sumW_nn pT (l.drop (i + 1))
    have cn := covH_nn l[i]
    have nn' : 0 ≤ sumW (fun _ => true) (l.drop (i + 1)) := nn
    refine Br.pos (by omega) ⟨toR l[i], Got.i ⟨_, RHCovers_r l[i], _, R1Plus_r ha cn (by omega), Br.neg (fun k => k rfl) (Num.n (by omega) (ih (i + 1) _ (by omega) (by omega) ?_ ?_))⟩ (by omega) g⟩
    · show acc + covH l[i] + sumW pT (l.drop (i + 1)) ≤ _
      rw [Int.add_assoc]; exact hb
    · show Q1 (acc + covH l[i] + sumW pT (l.drop (i + 1)))
      rw [Int.add_assoc]; exact q
theorem Total15_r {l : List HI} (h2 : l.length ≤ 1000) (hb : sumW pT l ≤ 9223372036854775807) : lombardref15_Total_r (l.map toR) (sumW pT l, 0) := by
  refine lombardref15_Total_of ?_
  unfold lombardref15_Total_w
  exact total_l h2 l.length 0 0 (by omega) (Int.le_refl _) (by simpa using hb) (Rt.i (by simp))
end Go.Proofs.YtjlkmdmaimednaaGreat.Pure
namespace Go.Proofs.YtjlkmdmaimednaaGreat.Pure
open Go Go.Ab Go.Stable Go.Proofs.YtjlkmdmaimednaaGreat.R
set_option linter.unusedVariables false
set_option linter.unusedSimpArgs false
def marS (t need : Int) : Int × Int := if t - need < -9223372036854775808 ∨ 9223372036854775807 < t - need then (0, 9) else (t - need, 0)
theorem wrap_hi {n : Int} (h1 : 9223372036854775807 < n) (h2 : n ≤ 18446744073709551615) : IntKind.wrap .i64 n = n - 18446744073709551616 := by
  simp [IntKind.wrap, IntKind.bits, IntKind.signed]; omega
theorem wrap_in {n : Int} (h1 : -9223372036854775808 ≤ n) (h2 : n ≤ 9223372036854775807) : IntKind.wrap .i64 n = n := iw _ h1 h2
theorem FMinus_r {a b : Int} (ha : 0 ≤ a ∧ a ≤ 9223372036854775807) (hb : InK .i64 b) : fixnum_Minus_r a b (marS a b) := by
  have hb' : -9223372036854775808 ≤ b ∧ b ≤ 9223372036854775807 := hb
  refine fixnum_Minus_of ?_
  unfold fixnum_Minus_w marS
  refine Br.pos (by omega) (Br.i (fun c => ?_) (fun c => Br.neg (by omega) (Rt.i ?_)))
  · by_cases k : 9223372036854775807 < a - b
    · rw [wrap_hi k (by omega)]
      exact Br.pos (by omega) (Rt.i (by rw [if_pos (.inr k)]))
    · rw [wrap_in (by omega) (by omega)]
      exact Br.neg (by omega) (Br.neg (by omega) (Rt.i (by rw [if_neg (by omega)])))
  · rw [wrap_in (by omega) (by omega), if_neg (by omega)]
theorem FPlus_r {a b : Int} (ha : 0 ≤ a) (hb : 0 ≤ b) (h : a + b ≤ 9223372036854775807) : fixnum_Plus_r a b (a + b, 0) := by
  refine fixnum_Plus_of ?_
  unfold fixnum_Plus_w
  refine Num.n (by omega) (Br.i (fun c => Br.i (fun c2 => Br.neg (by omega) (Br.neg (by omega) (Rt.i rfl))) (fun c2 => Br.neg (by omega) (Rt.i rfl))) (fun c => Br.neg (by omega) (Rt.i rfl)))
theorem htotal_l {l : List HI} (h2 : l.length ≤ 1000) {Q0 Q1 : Int → Prop} : ∀ (n i : Nat) (acc : Int), n + i = l.length → 0 ≤ acc → acc + sumW pT (l.drop i) ≤ 9223372036854775807 → Q1 (acc + sumW pT (l.drop i)) → haircut_Total_L0 l Q0 Q1 acc (i : Int) := by
  intro n
  induction n with
  | zero =>
    intro i acc h ha hb q
    refine haircut_Total_l0 ?_
    unfold haircut_Total_w0
    rw [lenM_eq]
    rw [List.drop_of_length_le (by omega)] at q
    exact Br.neg (by omega) (Lf.i (by simpa [sumW] using q))
  | succ n ih =>
    intro i acc h ha hb q
    have hi : i < l.length := by omega
    refine haircut_Total_l0 ?_
    unfold haircut_Total_w0
    rw [lenM_eq]
    rw [List.drop_eq_getElem_cons hi] at q hb
    have g : l[(i : Int).toNat]? = some l[i] := by simp [hi]
    simp only [sumW, pT, if_true] at q hb
    have nn := sumW_nn pT (l.drop (i + 1))
    have cn := covH_nn l[i]
    have nn' : 0 ≤ sumW (fun _ => true) (l.drop (i + 1)) := nn
    refine Br.pos (by omega) ⟨l[i], Got.i ⟨_, HCover_r l[i], _, FPlus_r ha cn (by omega), Br.neg (fun k => k rfl) (Num.n (by omega) (ih (i + 1) _ (by omega) (by omega) ?_ ?_))⟩ (by omega) g⟩
    · show acc + covH l[i] + sumW pT (l.drop (i + 1)) ≤ _
      rw [Int.add_assoc]; exact hb
    · show Q1 (acc + covH l[i] + sumW pT (l.drop (i + 1)))
      rw [Int.add_assoc]; exact q
theorem Margin_r {l : List HI} {need : Int} (h2 : l.length ≤ 1000) (hb : sumW pT l ≤ 9223372036854775807) (hN : InK .i64 need) : haircut_Margin_r l need (marS (sumW pT l) need) := by
  refine haircut_Margin_of ?_
  unfold haircut_Margin_w
  refine ⟨(sumW pT l, 0), haircut_Total_of ?_, Br.neg (fun k => k rfl) ⟨_, FMinus_r ⟨sumW_nn _ _, hb⟩ hN, Rt.i rfl⟩⟩
  unfold haircut_Total_w
  exact htotal_l h2 l.length 0 0 (by omega) (Int.le_refl _) (by simpa using hb) (Rt.i (by simp))
theorem sumW_le {M : Int} (hM : 0 ≤ M) : ∀ {l : List HI}, (∀ x ∈ l, covH x ≤ M) → sumW pT l ≤ l.length * M
  | [], _ => by simp [sumW]
  | x :: l, h => by
    have := sumW_le hM (l := l) fun y hy => h y (by simp [hy])
    have h1 := h x (by simp)
    simp only [sumW, pT, if_true, List.length_cons]
    have this' : sumW (fun _ => true) l ≤ l.length * M := this
    have e : ((l.length + 1 : Nat) : Int) * M = l.length * M + M := by rw [Int.natCast_add, Int.add_mul]; simp
    rw [e]
    show covH x + sumW (fun _ => true) l ≤ _
    omega

structure Good (l : List RI) : Prop where
  len : l.length ≤ 64
  it : ∀ x ∈ l.map toH, It x
  apart : (l.map toH).Pairwise (fun x y => x.Lot.ISIN ≠ y.Lot.ISIN)
  cov : ∀ x ∈ l.map toH, covH x ≤ 1125899906842624
  sum : sumW pT (l.map toH) ≤ 72057594037927936
theorem good_of {l : List RI} (h : wrongS l = 0) : Good l := by
  unfold wrongS at h
  split at h
  · cases h
  · rename_i hl
    obtain ⟨h1, h2⟩ := wrong_it l [] h
    have cov : ∀ x ∈ l.map toH, covH x ≤ 1125899906842624 := fun x hx => by
      obtain ⟨y, hy, rfl⟩ := List.mem_map.1 hx
      exact (h1 y hy).2.1
    have hs := sumW_le (M := 1125899906842624) (by omega) cov
    rw [List.length_map] at hs
    refine ⟨by omega, fun x hx => ?_, List.pairwise_map.2 h2, cov, by omega⟩
    obtain ⟨y, hy, rfl⟩ := List.mem_map.1 hx
    exact (h1 y hy).1
end Go.Proofs.YtjlkmdmaimednaaGreat.Pure
namespace Go.Proofs.YtjlkmdmaimednaaGreat.Pure
open Go Go.Ab Go.Sort Go.Proofs.YtjlkmdmaimednaaGreat.R
set_option linter.unusedVariables false

/-! Maps stay good. -/
section
variable {κ ν : Type} [DecidableEq κ]
theorem putL_len (k : κ) (v : ν) (c : Nat) : ∀ l : List (κ × Nat × ν), (putL k v c l).length ≤ l.length + 1
  | [] => by simp [putL]
  | x :: l => by
    simp only [putL]; split
    · simp
    · have := putL_len k v c l; simp only [List.length_cons]; omega
theorem putL_some {k : κ} {v : ν} {c : Nat} : ∀ {l : List (κ × Nat × ν)}, (getL k l).isSome = true → (putL k v c l).map (fun x => (x.1, x.2.1)) = l.map (fun x => (x.1, x.2.1))
  | [], h => by simp [getL] at h
  | x :: l, h => by
    simp only [putL]; split
    · rename_i e; simp [e]
    · rename_i e; simp only [getL] at h; rw [if_neg e] at h; simp [putL_some h]
theorem putL_none {k : κ} {v : ν} {c : Nat} {l : List (κ × Nat × ν)} (h : (getL k l).isSome = false) : putL k v c l = l ++ [(k, c, v)] ∧ ∀ x ∈ l, x.1 ≠ k := by
  induction l with
  | nil => exact ⟨rfl, by simp⟩
  | cons x l ih =>
    simp only [getL] at h
    split at h
    · simp at h
    · rename_i e
      obtain ⟨h1, h2⟩ := ih h
      refine ⟨by simp only [putL]; rw [if_neg e, h1, List.cons_append], fun y hy => ?_⟩
      rcases List.mem_cons.1 hy with rfl | hy
      · exact fun e2 => e e2.symm
      · exact h2 y hy
theorem ok_put {kl : κ → Prop} {m : GM κ ν} {k : κ} {v : ν} (h : m.ok kl) (hk : kl k) (hl : m.es.length < 1000000) : (m.put k v).ok kl := by
  unfold GM.put
  cases hg : (m.get? k).isSome with
  | true =>
    have e := putL_some (v := v) (c := m.clock) hg
    have e1 : (putL k v m.clock m.es).map (·.1) = m.es.map (·.1) := by have := congrArg (List.map Prod.fst) e; simpa [Function.comp_def] using this
    have e2 : (putL k v m.clock m.es).map (·.2.1) = m.es.map (·.2.1) := by have := congrArg (List.map Prod.snd) e; simpa [Function.comp_def] using this
    refine ⟨?_, ?_, by rw [e2]; exact h.born, by rw [e1]; exact h.apart⟩
    · have := congrArg List.length e1; simp only [List.length_map] at this; show (putL k v m.clock m.es).length ≤ _; omega
    · intro x hx
      have hx' : (x.1, x.2.1) ∈ (putL k v m.clock m.es).map (fun x => (x.1, x.2.1)) := List.mem_map.2 ⟨x, hx, rfl⟩
      rw [e] at hx'
      obtain ⟨y, hy, ey⟩ := List.mem_map.1 hx'
      have := h.keys y hy
      simp only [Prod.mk.injEq] at ey
      simp only [if_true]
      rw [← ey.1, ← ey.2]; exact this
  | false =>
    obtain ⟨e, hne⟩ := putL_none (v := v) (c := m.clock) hg
    simp only [Bool.false_eq_true, if_false]
    refine ⟨?_, ?_, ?_, ?_⟩
    · show (putL k v m.clock m.es).length ≤ _; rw [e]; simp; omega
    · intro x hx
      have hx : x ∈ putL k v m.clock m.es := hx
      rw [e] at hx
      rcases List.mem_append.1 hx with hx | hx
      · exact ⟨by have := (h.keys x hx).1; show x.2.1 < m.clock + 1; omega, (h.keys x hx).2⟩
      · simp at hx; subst hx; exact ⟨Nat.lt_succ_self _, hk⟩
    · show ((putL k v m.clock m.es).map _).Nodup
      rw [e, List.map_append]
      refine List.nodup_append.2 ⟨h.born, by simp, ?_⟩
      intro a ha b hb
      simp at hb; subst hb
      obtain ⟨y, hy, rfl⟩ := List.mem_map.1 ha
      have := (h.keys y hy).1; omega
    · show ((putL k v m.clock m.es).map _).Nodup
      rw [e, List.map_append]
      refine List.nodup_append.2 ⟨h.apart, by simp, ?_⟩
      intro a ha b hb
      simp at hb; subst hb
      obtain ⟨y, hy, rfl⟩ := List.mem_map.1 ha
      exact hne y hy
omit [DecidableEq κ] in
theorem ok_nil {kl : κ → Prop} : (GM.nil : GM κ ν).ok kl := ⟨by simp [GM.nil], by simp [GM.nil], by simp [GM.nil], by simp [GM.nil]⟩
end

/-! Uses. -/
def useI (t : limit_Table) (k : Int) : limit_Use := ⟨k, ByteArray.empty, t.issuers.getD k 0, t.issuer⟩
def useA (t : limit_Table) (k : ByteArray) : limit_Use := ⟨-1, k, t.assets.getD k 0, t.asset⟩
def usesT (t : limit_Table) : List limit_Use :=
  ((sortI t.issuers.keys).filter fun k => decide (0 < t.issuers.getD k 0)).map (useI t) ++ ((sortS t.assets.keys).filter fun k => decide (0 < t.assets.getD k 0)).map (useA t)

theorem app40 {n : Nat} (h : n ≤ 3000000) : App 40 n := ⟨by unfold maxLen; omega, by omega⟩
theorem uses_l1 {r : List ByteArray} {t : limit_Table} {Q : List limit_Use → Prop} : ∀ (n s : Nat) (acc : List limit_Use), n + s = r.length → acc.length + n ≤ 3000000 → r.length ≤ 3000000 → Q (acc ++ ((r.drop s).filter fun k => decide (0 < t.assets.getD k 0)).map (useA t)) → limit_Table_Uses_L1 r t Q (s : Int) acc
  | 0, s, acc, h, _, _, q => by
    refine limit_Table_Uses_l1 ?_
    unfold limit_Table_Uses_w1
    rw [lenM_eq]
    refine Br.neg (by omega) (Lf.i ?_)
    rw [List.drop_of_length_le (by omega)] at q
    simpa using q
  | n + 1, s, acc, h, ha, hr, q => by
    have hs : s < r.length := by omega
    refine limit_Table_Uses_l1 ?_
    unfold limit_Table_Uses_w1
    rw [lenM_eq]
    rw [List.drop_eq_getElem_cons hs, List.filter_cons] at q
    refine Br.pos (by omega) ⟨r[s], Got.i ?_ (by omega) (by simp [hs]), ⟩
    refine ⟨_, _, Look.i ?_⟩
    refine Br.i (fun c => App2.i (app40 (by simp; omega)) (Num.n (by omega) ?_)) (fun c => Num.n (by omega) ?_)
    · rw [decide_eq_true (show 0 < t.assets.getD r[s] 0 from c)] at q
      exact uses_l1 n (s + 1) _ (by omega) (by simp; omega) hr (by simpa [useA] using q)
    · rw [decide_eq_false (show ¬ 0 < t.assets.getD r[s] 0 from c)] at q
      exact uses_l1 n (s + 1) _ (by omega) (by omega) hr (by simpa using q)
theorem uses_l0 {r : List Int} {t : limit_Table} {Q : List limit_Use → Prop} : ∀ (n s : Nat) (acc : List limit_Use), n + s = r.length → acc.length + n ≤ 3000000 → r.length ≤ 3000000 → Q (acc ++ ((r.drop s).filter fun k => decide (0 < t.issuers.getD k 0)).map (useI t)) → limit_Table_Uses_L0 r t Q (s : Int) acc
  | 0, s, acc, h, _, _, q => by
    refine limit_Table_Uses_l0 ?_
    unfold limit_Table_Uses_w0
    rw [lenM_eq]
    refine Br.neg (by omega) (Lf.i ?_)
    rw [List.drop_of_length_le (by omega)] at q
    simpa using q
  | n + 1, s, acc, h, ha, hr, q => by
    have hs : s < r.length := by omega
    refine limit_Table_Uses_l0 ?_
    unfold limit_Table_Uses_w0
    rw [lenM_eq]
    rw [List.drop_eq_getElem_cons hs, List.filter_cons] at q
    refine Br.pos (by omega) ⟨r[s], Got.i ?_ (by omega) (by simp [hs]), ⟩
    refine ⟨_, _, Look.i ?_⟩
    refine Br.i (fun c => App2.i (app40 (by simp; omega)) (Num.n (by omega) ?_)) (fun c => Num.n (by omega) ?_)
    · rw [decide_eq_true (show 0 < t.issuers.getD r[s] 0 from c)] at q
      exact uses_l0 n (s + 1) _ (by omega) (by simp; omega) hr (by simpa [useI] using q)
    · rw [decide_eq_false (show ¬ 0 < t.issuers.getD r[s] 0 from c)] at q
      exact uses_l0 n (s + 1) _ (by omega) (by omega) hr (by simpa using q)

/-- Behind n calls. -/
structure Kt (t : limit_Table) (n : Nat) : Prop where
  i : t.issuers.ok (InK .i64)
  a : t.assets.ok (fun b : ByteArray => b.size ≤ maxLen)
  li : t.issuers.es.length ≤ n
  la : t.assets.es.length ≤ n
theorem sortI_len (l : List Int) : (sortI l).length = l.length := by unfold sortI; exact List.length_mergeSort _
theorem sortS_len (l : List ByteArray) : (sortS l).length = l.length := by unfold sortS; simp [List.length_mergeSort]

theorem Uses_r {t : limit_Table} {n : Nat} (h : Kt t n) (hn : n ≤ 1000) : limit_Table_Uses_r t (usesT t) := by
  refine limit_Table_Uses_of ?_
  unfold limit_Table_Uses_w
  have h1 := h.li; have h2 := h.la
  have l1 : (sortI t.issuers.keys).length ≤ n := by rw [sortI_len]; simp [GM.keys]; omega
  have l2 : (sortS t.assets.keys).length ≤ n := by rw [sortS_len]; simp [GM.keys]; omega
  refine ⟨keys180_ok _ (by decide) (by decide), _, sorted179_ok (by decide) h.i, uses_l0 _ 0 [] rfl (by simp; omega) (by omega) ?_⟩
  refine ⟨keys182_ok _ (by decide) (by decide), _, sorted181_ok (by decide) h.a, uses_l1 _ 0 _ rfl ?_ (by omega) ?_⟩
  · have : (((sortI t.issuers.keys).drop 0).filter fun k => decide (0 < t.issuers.getD k 0)).length ≤ (sortI t.issuers.keys).length := by simpa using List.length_filter_le _ (sortI t.issuers.keys)
    simp only [List.nil_append, List.length_map]; omega
  · exact Rt.i (by simp [usesT])

def toldU (u : limit_Use) : lombardref16_Use := ⟨u.Issuer, u.ISIN, u.Cover, u.Limit⟩
theorem ext_sorted {α : Type} {lt : α → α → Prop} (ir : ∀ a b, lt a b → ¬ lt b a) {l1 l2 : List α} (h1 : l1.Pairwise lt) (h2 : l2.Pairwise lt) (h : ∀ x, x ∈ l1 ↔ x ∈ l2) : l1 = l2 := by
  have n1 : l1.Nodup := h1.imp fun {a b} hab e => by subst e; exact ir a a hab hab
  have n2 : l2.Nodup := h2.imp fun {a b} hab e => by subst e; exact ir a a hab hab
  exact List.Perm.eq_of_pairwise (le := lt) (fun a b _ _ hab hba => absurd hba (ir a b hab)) h1 h2 ((List.perm_ext_iff_of_nodup n1 n2).2 h)

theorem sortI_lt {l : List Int} (h : l.Nodup) : (sortI l).Pairwise (· < ·) := by
  have hs : (sortI l).Pairwise fun a b => leI a b = true := List.pairwise_mergeSort (fun a b c h1 h2 => by simp only [leI, decide_eq_true_eq] at *; omega) (fun a b => by simp only [leI, Bool.or_eq_true, decide_eq_true_eq]; omega) l
  have hn : (sortI l).Nodup := (List.mergeSort_perm l leI).nodup_iff.2 h
  refine (hs.and hn).imp fun {a b} hab => ?_
  have := hab.1; have := hab.2
  simp only [leI, decide_eq_true_eq] at *
  omega
theorem mem_sortI {l : List Int} {x : Int} : x ∈ sortI l ↔ x ∈ l := (List.mergeSort_perm l leI).mem_iff

def bLt (x y : ByteArray) : Prop := x.data.toList < y.data.toList
theorem bLt_asymm (x y : ByteArray) (h : bLt x y) : ¬ bLt y x := fun h2 => List.lt_irrefl _ (List.lt_trans h h2)
theorem ba_ext {x y : ByteArray} (h : x.data.toList = y.data.toList) : x = y := by
  cases x; cases y; exact congrArg ByteArray.mk (Array.toList_inj.1 h)
theorem sortS_lt {l : List ByteArray} (h : l.Nodup) : (sortS l).Pairwise bLt := by
  unfold sortS
  have hm : (l.map fun b => b.data.toList).Nodup := List.Pairwise.map _ (fun a b hab e => hab (ba_ext e)) h
  have hs : ((l.map fun b => b.data.toList).mergeSort leB).Pairwise fun a b => leB a b = true := List.pairwise_mergeSort (fun a b c h1 h2 => by simp only [leB, decide_eq_true_eq] at *; exact List.le_trans h1 h2) (fun a b => by simp only [leB, Bool.or_eq_true, decide_eq_true_eq]; exact List.le_total a b) _
  have hn : ((l.map fun b => b.data.toList).mergeSort leB).Nodup := (List.mergeSort_perm _ leB).nodup_iff.2 hm
  refine List.Pairwise.map _ (fun a b hab => ?_) (hs.and hn)
  have h1 : a ≤ b := by simpa [leB] using hab.1
  show a < b
  by_cases hlt : a < b
  · exact hlt
  · exact absurd (List.le_antisymm h1 (List.not_lt.1 hlt)) hab.2
theorem mem_sortS {l : List ByteArray} {x : ByteArray} : x ∈ sortS l ↔ x ∈ l := by
  unfold sortS
  simp only [List.mem_map, (List.mergeSort_perm _ leB).mem_iff]
  constructor
  · rintro ⟨a, ⟨b, hb, rfl⟩, rfl⟩; exact hb
  · intro h; exact ⟨_, ⟨x, h, rfl⟩, rfl⟩

theorem mem_of_getL {κ ν : Type} [DecidableEq κ] {k : κ} {v : ν} : ∀ {l : List (κ × Nat × ν)}, getL k l = some v → k ∈ l.map (·.1)
  | [], h => by simp [getL] at h
  | x :: l, h => by
    simp only [getL] at h
    split at h
    · rename_i e; simp [e]
    · exact List.mem_cons_of_mem _ (mem_of_getL h)
theorem mem_of_pos {κ : Type} [DecidableEq κ] {m : GM κ Int} {k : κ} (h : 0 < m.getD k 0) : k ∈ m.keys := by
  unfold GM.getD at h
  cases hg : m.get? k with
  | none => rw [hg] at h; simp at h
  | some v => exact mem_of_getL hg

/-- The keys that have something under them, in order. -/
def posI (m : GM Int Int) : List Int := (sortI m.keys).filter fun k => decide (0 < m.getD k 0)
def posS (m : GM ByteArray Int) : List ByteArray := (sortS m.keys).filter fun k => decide (0 < m.getD k 0)
theorem posI_lt {m : GM Int Int} {kl : Int → Prop} (h : m.ok kl) : (posI m).Pairwise (· < ·) := (sortI_lt h.apart).filter _
theorem posS_lt {m : GM ByteArray Int} {kl : ByteArray → Prop} (h : m.ok kl) : (posS m).Pairwise bLt := (sortS_lt h.apart).filter _
theorem mem_posI {m : GM Int Int} {k : Int} : k ∈ posI m ↔ 0 < m.getD k 0 := by
  unfold posI; rw [List.mem_filter, mem_sortI, decide_eq_true_eq]
  exact ⟨fun h => h.2, fun h => ⟨mem_of_pos h, h⟩⟩
theorem mem_posS {m : GM ByteArray Int} {k : ByteArray} : k ∈ posS m ↔ 0 < m.getD k 0 := by
  unfold posS; rw [List.mem_filter, mem_sortS, decide_eq_true_eq]
  exact ⟨fun h => h.2, fun h => ⟨mem_of_pos h, h⟩⟩
theorem usesT_eq (t : limit_Table) : usesT t = (posI t.issuers).map (useI t) ++ (posS t.assets).map (useA t) := rfl
section
variable {α : Type} (lt : α → α → Prop) [DecidableRel lt]
@[reducible] def okk (hv : Bool) (last k : α) : Prop := hv = false ∨ lt last k
def stepP (hv : Bool) (last : α) (p : α × Bool) (k : α) : α × Bool := if okk lt hv last k then (if p.2 = false then (k, true) else if lt k p.1 then (k, true) else p) else p
def nextP (hv : Bool) (last : α) (l : List α) (p : α × Bool) : α × Bool := l.foldl (stepP lt hv last) p

/-- A strict order of all. -/
structure Ord : Prop where
  asy : ∀ a b, lt a b → ¬ lt b a
  nt : ∀ a b c, ¬ lt a b → ¬ lt b c → ¬ lt a c
  tri : ∀ a b, ¬ lt a b → ¬ lt b a → a = b
variable {lt}
def NextSpec (lt : α → α → Prop) [DecidableRel lt] (hv : Bool) (last : α) (l : List α) (p r : α × Bool) : Prop :=
  (r.2 = false → p.2 = false ∧ ∀ k ∈ l, ¬ okk lt hv last k) ∧
    (r.2 = true → okk lt hv last r.1 ∧ (r.1 ∈ l ∨ (p.2 = true ∧ r.1 = p.1)) ∧ (∀ k ∈ l, okk lt hv last k → ¬ lt k r.1) ∧ (p.2 = true → ¬ lt p.1 r.1))
theorem next_spec (O : Ord lt) {hv : Bool} {last : α} : ∀ (l : List α) (p : α × Bool), (p.2 = true → okk lt hv last p.1) → NextSpec lt hv last l p (nextP lt hv last l p)
  | [], p, hp => ⟨fun h => ⟨h, by simp⟩, fun h => ⟨hp h, .inr ⟨h, rfl⟩, by simp, fun _ h2 => O.asy _ _ h2 h2⟩⟩
  | k :: l, p, hp => by
    have e : nextP lt hv last (k :: l) p = nextP lt hv last l (stepP lt hv last p k) := rfl
    rw [e]
    by_cases hk : okk lt hv last k
    · have key : ∀ q : α × Bool, stepP lt hv last p k = q → q.2 = true → okk lt hv last q.1 → (q.1 = k ∨ (p.2 = true ∧ q.1 = p.1)) → ¬ lt k q.1 → (p.2 = true → ¬ lt p.1 q.1) → NextSpec lt hv last (k :: l) p (nextP lt hv last l (stepP lt hv last p k)) := by
        intro q hq h1 h2 h3 h4 h5
        rw [hq]
        obtain ⟨i1, i2⟩ := next_spec O l q (fun _ => h2)
        refine ⟨fun h => ?_, fun h => ?_⟩
        · have := (i1 h).1; rw [h1] at this; cases this
        · obtain ⟨j1, j2, j3, j4⟩ := i2 h
          have j4 := j4 h1
          refine ⟨j1, ?_, fun x hx hox => ?_, fun hp2 => O.nt _ _ _ (h5 hp2) j4⟩
          · rcases j2 with j2 | ⟨_, j2⟩
            · exact .inl (List.mem_cons_of_mem _ j2)
            · rcases h3 with h3 | ⟨h3, h3'⟩
              · exact .inl (by rw [j2, h3]; simp)
              · exact .inr ⟨h3, by rw [j2, h3']⟩
          · rcases List.mem_cons.1 hx with rfl | hx
            · exact O.nt _ _ _ h4 j4
            · exact j3 x hx hox
      by_cases hp2 : p.2 = false
      · refine key (k, true) (by unfold stepP; rw [if_pos hk, if_pos hp2]) rfl hk (.inl rfl) (fun h => O.asy _ _ h h) (fun h => by rw [hp2] at h; cases h)
      · have hp3 : p.2 = true := by simpa using hp2
        by_cases hlt : lt k p.1
        · exact key (k, true) (by unfold stepP; rw [if_pos hk, if_neg hp2, if_pos hlt]) rfl hk (.inl rfl) (fun h => O.asy _ _ h h) (fun _ => O.asy _ _ hlt)
        · exact key p (by unfold stepP; rw [if_pos hk, if_neg hp2, if_neg hlt]) hp3 (hp hp3) (.inr ⟨hp3, rfl⟩) hlt (fun _ h => O.asy _ _ h h)
    · have es : stepP lt hv last p k = p := by unfold stepP; rw [if_neg hk]
      rw [es]
      obtain ⟨i1, i2⟩ := next_spec O l p hp
      refine ⟨fun h => ⟨(i1 h).1, fun x hx => ?_⟩, fun h => ?_⟩
      · rcases List.mem_cons.1 hx with rfl | hx
        · exact hk
        · exact (i1 h).2 x hx
      · obtain ⟨j1, j2, j3, j4⟩ := i2 h
        refine ⟨j1, j2.imp (List.mem_cons_of_mem _) id, fun x hx hox => ?_, j4⟩
        rcases List.mem_cons.1 hx with rfl | hx
        · exact absurd hox hk
        · exact j3 x hx hox

/-- What has been told, when all keys up to 'last' have been seen. -/
def toldTo (lt : α → α → Prop) [DecidableRel lt] (P : List α) (hv : Bool) (last : α) : List α := P.filter fun k => decide (¬ okk lt hv last k)
theorem told_end {P l : List α} {hv : Bool} {last : α} (hPl : ∀ k ∈ P, k ∈ l) (h : ∀ k ∈ l, ¬ okk lt hv last k) : toldTo lt P hv last = P := by
  unfold toldTo
  exact List.filter_eq_self.2 fun k hk => decide_eq_true (h k (hPl k hk))
theorem told_start {P : List α} {last : α} : toldTo lt P false last = [] := by
  unfold toldTo
  exact List.filter_eq_nil_iff.2 fun k _ => by simp
theorem told_step (O : Ord lt) {P l : List α} {hv : Bool} {last b : α} (hP : P.Pairwise lt) (hPl : ∀ k ∈ P, k ∈ l) (hb : okk lt hv last b) (hm : ∀ k ∈ l, okk lt hv last k → ¬ lt k b) [DecidablePred (· ∈ P)] :
    toldTo lt P true b = toldTo lt P hv last ++ (if b ∈ P then [b] else []) := by
  have hbe : ∀ x, ¬ okk lt hv last x → lt x b := fun x hx => by
    rcases Decidable.em (lt x b) with h | h
    · exact h
    · cases hv with
      | false => exact absurd (.inl rfl) hx
      | true =>
        have h1 : ¬ lt last x := fun e => hx (.inr e)
        have h2 : lt last b := hb.resolve_left (by simp)
        exact absurd h2 (O.nt _ _ _ h1 h)
  refine ext_sorted O.asy (hP.filter _) ?_ fun x => ?_
  · refine List.pairwise_append.2 ⟨hP.filter _, by split <;> simp, fun x hx y hy => ?_⟩
    have hx2 := (List.mem_filter.1 hx).2
    split at hy
    · simp at hy; subst hy; exact hbe x (of_decide_eq_true hx2)
    · simp at hy
  · unfold toldTo
    rw [List.mem_append, List.mem_filter, List.mem_filter, decide_eq_true_eq, decide_eq_true_eq]
    constructor
    · rintro ⟨hx, hn⟩
      have hn' : ¬ lt b x := fun e => hn (.inr e)
      by_cases ho : okk lt hv last x
      · have e : x = b := O.tri _ _ (hm x (hPl x hx) ho) hn'
        subst e
        exact .inr (by rw [if_pos hx]; simp)
      · exact .inl ⟨hx, ho⟩
    · rintro (⟨hx, hn⟩ | h)
      · exact ⟨hx, fun h => by
          rcases h with h | h
          · cases h
          · exact O.asy _ _ (hbe x hn) h⟩
      · split at h
        · rename_i hbp
          simp at h; subst h
          exact ⟨hbp, fun h => by
            rcases h with h | h
            · cases h
            · exact O.asy _ _ h h⟩
        · simp at h
theorem okk_less (O : Ord lt) {l : List α} {hv : Bool} {last b : α} (hb : okk lt hv last b) (hbl : b ∈ l) : (l.filter fun k => decide (okk lt true b k)).length < (l.filter fun k => decide (okk lt hv last k)).length := by
  have sub : ∀ x, okk lt true b x → okk lt hv last x := fun x hx => by
    have h1 : lt b x := hx.resolve_left (by simp)
    cases hv with
    | false => exact .inl rfl
    | true =>
      have h2 : lt last b := hb.resolve_left (by simp)
      rcases Decidable.em (lt last x) with h | h
      · exact .inr h
      · exact absurd h2 (O.nt _ _ _ h (O.asy _ _ h1))
  have nb : ¬ okk lt true b b := fun h => by
    rcases h with h | h
    · cases h
    · exact O.asy _ _ h h
  induction l with
  | nil => simp at hbl
  | cons x l ih =>
    simp only [List.filter_cons]
    have le : (l.filter fun k => decide (okk lt true b k)).length ≤ (l.filter fun k => decide (okk lt hv last k)).length := by
      clear ih hbl
      induction l with
      | nil => simp
      | cons y l ih =>
        simp only [List.filter_cons]
        by_cases h1 : okk lt true b y
        · rw [decide_eq_true h1, decide_eq_true (sub y h1)]; simpa using ih
        · by_cases h2 : okk lt hv last y
          · rw [decide_eq_false h1, decide_eq_true h2]; simp only [Bool.false_eq_true, if_false, if_true, List.length_cons]; omega
          · rw [decide_eq_false h1, decide_eq_false h2]; simpa using ih
    by_cases hxb : x = b
    · subst hxb
      rw [decide_eq_false nb, decide_eq_true hb]
      simp only [Bool.false_eq_true, if_false, if_true, List.length_cons]; omega
    · have := ih (by rcases List.mem_cons.1 hbl with h | h; exact absurd h.symm hxb; exact h)
      by_cases h1 : okk lt true b x
      · rw [decide_eq_true h1, decide_eq_true (sub x h1)]; simpa using this
      · by_cases h2 : okk lt hv last x
        · rw [decide_eq_false h1, decide_eq_true h2]; simp only [Bool.false_eq_true, if_false, if_true, List.length_cons]; omega
        · rw [decide_eq_false h1, decide_eq_false h2]; simpa using this
end

theorem ordZ : Ord (fun a b : Int => a < b) := ⟨fun _ _ h => by omega, fun _ _ _ h1 h2 => by omega, fun _ _ h1 h2 => by omega⟩
instance : DecidableRel bLt := fun a b => decidable_of_iff (a.data.toList < b.data.toList) Iff.rfl
theorem ordS : Ord bLt := ⟨bLt_asymm, fun _ _ _ h1 h2 => List.not_lt.2 (List.le_trans (List.not_lt.1 h2) (List.not_lt.1 h1)), fun _ _ h1 h2 => ba_ext (List.le_antisymm (List.not_lt.1 h2) (List.not_lt.1 h1))⟩
theorem strLt_eq (x y : ByteArray) : strLt x y = decide (bLt x y) := by
  unfold strLt; rw [bLess_eq, ByteArray.toList_eq, ByteArray.toList_eq]; exact decide_eq_decide.2 Iff.rfl
theorem strLe_eq (x y : ByteArray) : strLe x y = decide (¬ bLt y x) := by
  unfold strLe
  rw [strLt_eq]
  by_cases h : bLt y x
  · have h1 : ¬ bLt x y := bLt_asymm _ _ h
    have h2 : x ≠ y := fun e => by subst e; exact bLt_asymm _ _ h h
    rw [decide_eq_false h1, strEq_false h2, decide_eq_false (fun h3 => h3 h)]; rfl
  · rw [decide_eq_true h]
    by_cases h1 : bLt x y
    · rw [decide_eq_true h1]; rfl
    · rw [strEq_true (ordS.tri _ _ h1 h)]; simp
theorem nextI_l {r : lombardref16_Table} {last : Int} {hv : Bool} {acc : List lombardref16_Use} {Q : Int × Bool → Prop} (hl : r.L.length ≤ 1000) : ∀ (n s : Nat) (p : Int × Bool), n + s = r.L.length → Q (nextP (fun a b : Int => a < b) hv last ((r.L.drop s).map (·.Issuer)) p) → _lombardref16_Table_Uses_L1 last hv r acc Q p.1 p.2 (s : Int)
  | 0, s, p, h, q => by
    refine _lombardref16_Table_Uses_l1 ?_
    unfold _lombardref16_Table_Uses_w1
    rw [lenM_eq]
    refine Br.neg (by omega) (Lf.i ?_)
    rw [List.drop_of_length_le (by omega)] at q
    exact q
  | n + 1, s, (b, f), h, q => by
    have hs : s < r.L.length := by omega
    refine _lombardref16_Table_Uses_l1 ?_
    unfold _lombardref16_Table_Uses_w1
    rw [lenM_eq]
    rw [List.drop_eq_getElem_cons hs, List.map_cons] at q
    have q : Q (nextP (fun a b : Int => a < b) hv last ((r.L.drop (s + 1)).map (·.Issuer)) (stepP (fun a b : Int => a < b) hv last (b, f) r.L[s].Issuer)) := q
    have g : r.L[(s : Int).toNat]? = some r.L[s] := by simp [hs]
    have go : ∀ p', stepP (fun a b : Int => a < b) hv last (b, f) r.L[s].Issuer = p' → Num .i64 ((s : Int) + 1) (_lombardref16_Table_Uses_L1 last hv r acc Q p'.1 p'.2 ((s : Int) + 1)) := by
      intro p' e
      rw [e] at q
      exact Num.n (by omega) (nextI_l hl n (s + 1) p' (by omega) q)
    refine Br.pos (by omega) ⟨r.L[s], Got.i ?_ (by omega) g⟩
    have inn : okk (fun a b : Int => a < b) hv last r.L[s].Issuer → Br (!f) (Num .i64 ((s : Int) + 1) (_lombardref16_Table_Uses_L1 last hv r acc Q r.L[s].Issuer true ((s : Int) + 1))) (Br (decide (r.L[s].Issuer < b)) (Num .i64 ((s : Int) + 1) (_lombardref16_Table_Uses_L1 last hv r acc Q r.L[s].Issuer true ((s : Int) + 1))) (Num .i64 ((s : Int) + 1) (_lombardref16_Table_Uses_L1 last hv r acc Q b f ((s : Int) + 1)))) := by
      intro ho
      cases f with
      | false => exact Br.t rfl (go (_, true) (by unfold stepP; rw [if_pos ho, if_pos rfl]))
      | true =>
        refine Br.f rfl (Br.b (fun c => go (_, true) ?_) (fun c => go (b, true) ?_))
        · skip
          unfold stepP; rw [if_pos ho, if_neg (by simp), if_pos (of_decide_eq_true c)]
        · skip
          unfold stepP; rw [if_pos ho, if_neg (by simp), if_neg (of_decide_eq_false c)]
    cases hv with
    | false => exact Br.t rfl (inn (.inl rfl))
    | true =>
      refine Br.f rfl (Br.b (fun c => inn (.inr ?_)) (fun c => go (b, f) ?_))
      · exact of_decide_eq_true c
      · have c := of_decide_eq_false c
        unfold stepP; rw [if_neg]
        intro h
        exact c (h.resolve_left (by simp))

theorem nextA_l {r : lombardref16_Table} {last : ByteArray} {hv : Bool} {acc : List lombardref16_Use} {Q : ByteArray × Bool → Prop} (hl : r.L.length ≤ 1000) : ∀ (n s : Nat) (p : ByteArray × Bool), n + s = r.L.length → Q (nextP bLt hv last ((r.L.drop s).map (·.ISIN)) p) → _lombardref16_Table_assets_L1 last hv r acc Q p.1 p.2 (s : Int)
  | 0, s, p, h, q => by
    refine _lombardref16_Table_assets_l1 ?_
    unfold _lombardref16_Table_assets_w1
    rw [lenM_eq]
    refine Br.neg (by omega) (Lf.i ?_)
    rw [List.drop_of_length_le (by omega)] at q
    exact q
  | n + 1, s, (b, f), h, q => by
    have hs : s < r.L.length := by omega
    refine _lombardref16_Table_assets_l1 ?_
    unfold _lombardref16_Table_assets_w1
    rw [lenM_eq]
    rw [List.drop_eq_getElem_cons hs, List.map_cons] at q
    have q : Q (nextP bLt hv last ((r.L.drop (s + 1)).map (·.ISIN)) (stepP bLt hv last (b, f) r.L[s].ISIN)) := q
    have g : r.L[(s : Int).toNat]? = some r.L[s] := by simp [hs]
    have go : ∀ p', stepP bLt hv last (b, f) r.L[s].ISIN = p' → Num .i64 ((s : Int) + 1) (_lombardref16_Table_assets_L1 last hv r acc Q p'.1 p'.2 ((s : Int) + 1)) := by
      intro p' e
      rw [e] at q
      exact Num.n (by omega) (nextA_l hl n (s + 1) p' (by omega) q)
    refine Br.pos (by omega) ⟨r.L[s], Got.i ?_ (by omega) g⟩
    have inn : okk bLt hv last r.L[s].ISIN → Br (!f) (Num .i64 ((s : Int) + 1) (_lombardref16_Table_assets_L1 last hv r acc Q r.L[s].ISIN true ((s : Int) + 1))) (Br (strLt r.L[s].ISIN b) (Num .i64 ((s : Int) + 1) (_lombardref16_Table_assets_L1 last hv r acc Q r.L[s].ISIN true ((s : Int) + 1))) (Num .i64 ((s : Int) + 1) (_lombardref16_Table_assets_L1 last hv r acc Q b f ((s : Int) + 1)))) := by
      intro ho
      cases f with
      | false => exact Br.t rfl (go (_, true) (by unfold stepP; rw [if_pos ho, if_pos rfl]))
      | true =>
        refine Br.f rfl (Br.b (fun c => go (_, true) ?_) (fun c => go (b, true) ?_))
        · rw [strLt_eq] at c
          unfold stepP; rw [if_pos ho, if_neg (by simp), if_pos (of_decide_eq_true c)]
        · rw [strLt_eq] at c
          unfold stepP; rw [if_pos ho, if_neg (by simp), if_neg (of_decide_eq_false c)]
    cases hv with
    | false => exact Br.t rfl (inn (.inl rfl))
    | true =>
      refine Br.f rfl (Br.b (fun c => inn (.inr ?_)) (fun c => go (b, f) ?_))
      · rw [strLe_eq] at c; simpa using c
      · have c : ¬ bLt last r.L[s].ISIN := by rw [strLe_eq] at c; simpa using c
        unfold stepP; rw [if_neg]
        intro h
        exact c (h.resolve_left (by simp))

/-- The reference's table tells of the program's. -/
structure Ply (r : lombardref16_Table) (t : limit_Table) (n : Nat) : Prop where
  kt : Kt t n
  issuer : r.Issuer = t.issuer
  asset : r.Asset = t.asset
  i : ∀ k, ofI k r.L = t.issuers.getD k 0
  a : ∀ k, ofA k r.L = t.assets.getD k 0
  s : sumL r.L = t.sum
  len : r.L.length ≤ n
  bd : Small r.L
theorem Ply_put {r : lombardref16_Table} {t : limit_Table} {n : Nat} {a : api_Asset} {c : Int} (h : Ply r t n) (hn : n ≤ 1000) (ha : InK .i64 a.Issuer) (hb : a.ISIN.size ≤ maxLen) (hc : 0 ≤ c ∧ c ≤ 1125899906842624) : Ply (withR r a c) (putT t a c) (n + 1) := by
  have l1 := h.kt.li; have l2 := h.kt.la
  refine ⟨⟨ok_put h.kt.i ha (by omega), ok_put h.kt.a hb (by omega), ?_, ?_⟩, h.issuer, h.asset, fun k => ?_, fun k => ?_, ?_, ?_, ?_⟩
  · have := putL_len a.Issuer (t.issuers.getD a.Issuer 0 + c) t.issuers.clock t.issuers.es
    show (putL _ _ _ _).length ≤ _; omega
  · have := putL_len a.ISIN (t.assets.getD a.ISIN 0 + c) t.assets.clock t.assets.es
    show (putL _ _ _ _).length ≤ _; omega
  · simp only [withR, putT, getD_put, ofI_app, h.i]
    by_cases e : a.Issuer = k
    · rw [if_pos e, if_pos e.symm, e]
    · rw [if_neg e, if_neg (fun e2 => e e2.symm)]; omega
  · simp only [withR, putT, getD_put, ofA_app, h.a]
    by_cases e : a.ISIN = k
    · rw [if_pos e, if_pos e.symm, e]
    · rw [if_neg e, if_neg (fun e2 => e e2.symm)]; omega
  · simp only [withR, putT, sumL_app, h.s]
  · have := h.len; simp only [withR, List.length_append, List.length_cons, List.length_nil]; omega
  · intro p hp
    rcases List.mem_append.1 hp with hp | hp
    · exact h.bd p hp
    · simp at hp; subst hp; exact ⟨by show -1125899906842624 ≤ c; omega, hc.2⟩
theorem ofI_bd {k : Int} : ∀ {l : List lombardref16_Part}, Small l → -(l.length * 1125899906842624) ≤ ofI k l ∧ ofI k l ≤ l.length * 1125899906842624
  | [], _ => by simp [ofI]
  | p :: l, h => by
    have h1 := ofI_bd (k := k) (l := l) fun q hq => h q (List.mem_cons_of_mem _ hq)
    have h2 := h p (by simp)
    simp only [ofI, List.length_cons]
    split <;> omega
theorem ofA_bd {k : ByteArray} : ∀ {l : List lombardref16_Part}, Small l → -(l.length * 1125899906842624) ≤ ofA k l ∧ ofA k l ≤ l.length * 1125899906842624
  | [], _ => by simp [ofA]
  | p :: l, h => by
    have h1 := ofA_bd (k := k) (l := l) fun q hq => h q (List.mem_cons_of_mem _ hq)
    have h2 := h p (by simp)
    simp only [ofA, List.length_cons]
    split <;> omega
theorem sumL_bd : ∀ {l : List lombardref16_Part}, Small l → -(l.length * 1125899906842624) ≤ sumL l ∧ sumL l ≤ l.length * 1125899906842624
  | [], _ => by simp [sumL]
  | p :: l, h => by
    have h1 := sumL_bd (l := l) fun q hq => h q (List.mem_cons_of_mem _ hq)
    have h2 := h p (by simp)
    simp only [sumL, List.length_cons]
    omega
theorem Gput_r {r : lombardref16_Table} {t : limit_Table} {n : Nat} {a : api_Asset} {c : Int} (h : Ply r t n) (hn : n ≤ 1000) (hc : 0 ≤ c ∧ c ≤ 1125899906842624) : limit_Table_put_r t a c (putT t a c) := by
  refine limit_Table_put_of ?_
  unfold limit_Table_put_w
  have hl := h.len
  have b1 := ofI_bd (k := a.Issuer) h.bd; have b2 := ofA_bd (k := a.ISIN) h.bd
  rw [h.i] at b1; rw [h.a] at b2
  have b3 := sumL_bd h.bd
  rw [h.s] at b3
  exact ⟨_, _, Look.i (Num.n (by omega) ⟨_, Put.i ⟨_, _, Look.i (Num.n (by omega) ⟨_, Put.i (Num.n (by omega) (Rt.i rfl))⟩)⟩⟩)⟩
theorem posI_len {t : limit_Table} {n : Nat} (h : Kt t n) : (posI t.issuers).length ≤ n := by
  have h1 := h.li
  have l1 : (sortI t.issuers.keys).length ≤ n := by rw [sortI_len]; simp [GM.keys]; omega
  have := List.length_filter_le (fun k => decide (0 < t.issuers.getD k 0)) (sortI t.issuers.keys)
  unfold posI; omega
theorem posS_len {t : limit_Table} {n : Nat} (h : Kt t n) : (posS t.assets).length ≤ n := by
  have h1 := h.la
  have l1 : (sortS t.assets.keys).length ≤ n := by rw [sortS_len]; simp [GM.keys]; omega
  have := List.length_filter_le (fun k => decide (0 < t.assets.getD k 0)) (sortS t.assets.keys)
  unfold posS; omega

theorem usesI_loop {r : lombardref16_Table} {t : limit_Table} {n : Nat} {Q : List lombardref16_Use → Prop} (h : Ply r t n) (hn : n ≤ 1000) (q : Q ((posI t.issuers).map fun k => toldU (useI t k))) :
    ∀ (k : Nat) (hv : Bool) (last : Int), ((r.L.map (·.Issuer)).filter fun x => decide (okk (fun a b : Int => a < b) hv last x)).length ≤ k → _lombardref16_Table_Uses_L0 r Q last hv ((toldTo (fun a b : Int => a < b) (posI t.issuers) hv last).map fun k => toldU (useI t k)) := by
  have hl := h.len
  have hpl := posI_len h.kt
  have hP := posI_lt h.kt.i
  have hPl : ∀ k ∈ posI t.issuers, k ∈ r.L.map (·.Issuer) := fun k hk => by
    have h1 := (mem_posI (m := t.issuers)).1 hk
    rcases Classical.em (k ∈ r.L.map (·.Issuer)) with hm | hm
    · exact hm
    · have := ofI_none hm; rw [h.i] at this; omega
  intro k
  induction k with
  | zero =>
    intro hv last hk
    refine _lombardref16_Table_Uses_l0 ?_
    unfold _lombardref16_Table_Uses_w0
    refine nextI_l (by omega) _ 0 (0, false) rfl ?_
    have sp := next_spec ordZ (hv := hv) (last := last) (r.L.map (·.Issuer)) (0, false) (fun h => by cases h)
    rw [List.drop_zero]
    generalize nextP (fun a b : Int => a < b) hv last (r.L.map (·.Issuer)) (0, false) = R at sp ⊢
    cases hR : R.2 with
    | false =>
      refine Br.t rfl (Lf.i ?_)
      rw [told_end hPl (sp.1 hR).2]; exact q
    | true =>
      have s2 := sp.2 hR
      have := List.length_eq_zero_iff.1 (Nat.le_zero.1 hk)
      have hm : R.1 ∈ (r.L.map (·.Issuer)).filter fun x => decide (okk (fun a b : Int => a < b) hv last x) := List.mem_filter.2 ⟨s2.2.1.resolve_right (by simp), decide_eq_true s2.1⟩
      rw [this] at hm; cases hm
  | succ k ih =>
    intro hv last hk
    refine _lombardref16_Table_Uses_l0 ?_
    unfold _lombardref16_Table_Uses_w0
    refine nextI_l (by omega) _ 0 (0, false) rfl ?_
    have sp := next_spec ordZ (hv := hv) (last := last) (r.L.map (·.Issuer)) (0, false) (fun h => by cases h)
    rw [List.drop_zero]
    generalize nextP (fun a b : Int => a < b) hv last (r.L.map (·.Issuer)) (0, false) = R at sp ⊢
    cases hR : R.2 with
    | false =>
      refine Br.t rfl (Lf.i ?_)
      rw [told_end hPl (sp.1 hR).2]; exact q
    | true =>
      have s2 := sp.2 hR
      have hbl := s2.2.1.resolve_right (by simp)
      have hless := okk_less ordZ s2.1 hbl
      have : DecidablePred (fun x => x ∈ posI t.issuers) := fun _ => Classical.propDecidable _
      have st := told_step ordZ hP hPl s2.1 s2.2.2.1
      have nx := ih true R.1 (by omega)
      rw [st, List.map_append] at nx
      have o := ROfI_r (k := R.1) h.bd (by omega)
      rw [h.i] at o
      refine Br.f rfl ⟨_, o, Br.i (fun c => ⟨_, o, App2.i (app40 ?_) ?_⟩) (fun c => ?_)⟩
      · have := List.length_filter_le (fun k => decide (¬ okk (fun a b : Int => a < b) hv last k)) (posI t.issuers)
        simp only [toldTo, List.length_map, List.length_cons, List.length_nil]; omega
      · rw [if_pos ((mem_posI (m := t.issuers)).2 c)] at nx
        rw [h.issuer]
        exact nx
      · rw [if_neg (fun e => c ((mem_posI (m := t.issuers)).1 e))] at nx
        simp only [List.map_nil, List.append_nil] at nx
        exact nx

theorem usesA_loop {r : lombardref16_Table} {t : limit_Table} {n : Nat} {Q : List lombardref16_Use → Prop} (h : Ply r t n) (hn : n ≤ 1000) (q : Q ((posS t.assets).map fun k => toldU (useA t k))) :
    ∀ (k : Nat) (hv : Bool) (last : ByteArray), ((r.L.map (·.ISIN)).filter fun x => decide (okk bLt hv last x)).length ≤ k → _lombardref16_Table_assets_L0 r Q last hv ((toldTo bLt (posS t.assets) hv last).map fun k => toldU (useA t k)) := by
  have hl := h.len
  have hpl := posS_len h.kt
  have hP := posS_lt h.kt.a
  have hPl : ∀ k ∈ posS t.assets, k ∈ r.L.map (·.ISIN) := fun k hk => by
    have h1 := (mem_posS (m := t.assets)).1 hk
    rcases Classical.em (k ∈ r.L.map (·.ISIN)) with hm | hm
    · exact hm
    · have := ofA_none hm; rw [h.a] at this; omega
  intro k
  induction k with
  | zero =>
    intro hv last hk
    refine _lombardref16_Table_assets_l0 ?_
    unfold _lombardref16_Table_assets_w0
    refine nextA_l (by omega) _ 0 ((⟨#[]⟩ : ByteArray), false) rfl ?_
    have sp := next_spec ordS (hv := hv) (last := last) (r.L.map (·.ISIN)) ((⟨#[]⟩ : ByteArray), false) (fun h => by cases h)
    rw [List.drop_zero]
    generalize nextP bLt hv last (r.L.map (·.ISIN)) ((⟨#[]⟩ : ByteArray), false) = R at sp ⊢
    cases hR : R.2 with
    | false =>
      refine Br.t rfl (Lf.i ?_)
      rw [told_end hPl (sp.1 hR).2]; exact q
    | true =>
      have s2 := sp.2 hR
      have := List.length_eq_zero_iff.1 (Nat.le_zero.1 hk)
      have hm : R.1 ∈ (r.L.map (·.ISIN)).filter fun x => decide (okk bLt hv last x) := List.mem_filter.2 ⟨s2.2.1.resolve_right (by simp), decide_eq_true s2.1⟩
      rw [this] at hm; cases hm
  | succ k ih =>
    intro hv last hk
    refine _lombardref16_Table_assets_l0 ?_
    unfold _lombardref16_Table_assets_w0
    refine nextA_l (by omega) _ 0 ((⟨#[]⟩ : ByteArray), false) rfl ?_
    have sp := next_spec ordS (hv := hv) (last := last) (r.L.map (·.ISIN)) ((⟨#[]⟩ : ByteArray), false) (fun h => by cases h)
    rw [List.drop_zero]
    generalize nextP bLt hv last (r.L.map (·.ISIN)) ((⟨#[]⟩ : ByteArray), false) = R at sp ⊢
    cases hR : R.2 with
    | false =>
      refine Br.t rfl (Lf.i ?_)
      rw [told_end hPl (sp.1 hR).2]; exact q
    | true =>
      have s2 := sp.2 hR
      have hbl := s2.2.1.resolve_right (by simp)
      have hless := okk_less ordS s2.1 hbl
      have : DecidablePred (fun x => x ∈ posS t.assets) := fun _ => Classical.propDecidable _
      have st := told_step ordS hP hPl s2.1 s2.2.2.1
      have nx := ih true R.1 (by omega)
      rw [st, List.map_append] at nx
      have o := ROfA_r (k := R.1) h.bd (by omega)
      rw [h.a] at o
      refine Br.f rfl ⟨_, o, Br.i (fun c => ⟨_, o, App2.i (app40 ?_) ?_⟩) (fun c => ?_)⟩
      · have := List.length_filter_le (fun k => decide (¬ okk bLt hv last k)) (posS t.assets)
        simp only [toldTo, List.length_map, List.length_cons, List.length_nil]; omega
      · rw [if_pos ((mem_posS (m := t.assets)).2 c)] at nx
        rw [h.asset]
        exact nx
      · rw [if_neg (fun e => c ((mem_posS (m := t.assets)).1 e))] at nx
        simp only [List.map_nil, List.append_nil] at nx
        exact nx

theorem RAssets_r {r : lombardref16_Table} {t : limit_Table} {n : Nat} (h : Ply r t n) (hn : n ≤ 1000) : _lombardref16_Table_assets_r r ((posS t.assets).map fun k => toldU (useA t k)) := by
  refine _lombardref16_Table_assets_of ?_
  unfold _lombardref16_Table_assets_w
  have := usesA_loop (Q := fun y => _lombardref16_Table_assets_e (fun v => v = (posS t.assets).map fun k => toldU (useA t k)) y) h hn (Rt.i rfl) _ false (⟨#[]⟩ : ByteArray) (Nat.le_refl _)
  rw [told_start] at this
  exact this
theorem RUses_r {r : lombardref16_Table} {t : limit_Table} {n : Nat} (h : Ply r t n) (hn : n ≤ 1000) : _lombardref16_Table_Uses_r r ((usesT t).map toldU) := by
  have l1 := posI_len h.kt; have l2 := posS_len h.kt
  refine _lombardref16_Table_Uses_of ?_
  unfold _lombardref16_Table_Uses_w
  have := usesI_loop (Q := fun y => ∃ r2 : List lombardref16_Use, (_lombardref16_Table_assets_r r r2) ∧ (App2 40 lombardref16_Use.enc y r2 (_lombardref16_Table_Uses_e (fun v => v = (usesT t).map toldU) (y ++ r2)))) h hn
    ⟨_, RAssets_r h hn, App2.i (app40 (by simp only [List.length_map]; omega)) (Rt.i (by rw [usesT_eq, List.map_append, List.map_map, List.map_map]; rfl))⟩ _ false 0 (Nat.le_refl _)
  rw [told_start] at this
  exact this

theorem RNew0 {b : api_Basket} {need : Int} (h : ¬ newOk b need) : lombardref16_New_r b need (⟨0, 0, 0, []⟩, 1) := by
  refine lombardref16_New_of ?_
  unfold lombardref16_New_w
  refine Br.i (fun c => Rt.i rfl) (fun c1 => Br.i (fun c => Rt.i rfl) (fun c2 => Br.i (fun c => Rt.i rfl) (fun c3 => Br.i (fun c => Rt.i rfl) (fun c4 => Br.i (fun c => Rt.i rfl) (fun c5 => Br.i (fun c => Rt.i rfl) (fun c6 => absurd ?_ h))))))
  unfold newOk; omega

def above1 (x : lombardref15_Item) : Bool := decide (covC x > 1125899906842624)
def putAll (l : List lombardref15_Item) (t : limit_Table) : limit_Table := l.foldl (fun t x => putT t x.Asset (covC x)) t
def withAll (l : List lombardref15_Item) (r : lombardref16_Table) : lombardref16_Table := l.foldl (fun r x => withR r x.Asset (covC x)) r
def KeyOk2 (l : List lombardref15_Item) : Prop := ∀ x ∈ l, InK .i64 x.Asset.Issuer ∧ x.Asset.ISIN.size ≤ maxLen
theorem Ply_all : ∀ (l : List lombardref15_Item) {r : lombardref16_Table} {t : limit_Table} {n : Nat}, KeyOk2 l → l.any above1 = false → n + l.length ≤ 1000 → Ply r t n → Ply (withAll l r) (putAll l t) (n + l.length)
  | [], r, t, n, _, _, _, h => h
  | x :: l, r, t, n, hk, hb, hn, h => by
    simp only [List.any_cons, Bool.or_eq_false_iff] at hb
    simp only [List.length_cons] at hn
    have hx := hk x (by simp)
    have hc := covC_ok x
    have hb1 : ¬ covC x > 1125899906842624 := of_decide_eq_false hb.1
    have := Ply_all l (fun y hy => hk y (List.mem_cons_of_mem _ hy)) hb.2 (by omega) (Ply_put (c := covC x) h (by omega) hx.1 hx.2 ⟨hc.1, by omega⟩)
    rw [List.length_cons, Nat.add_comm l.length 1, ← Nat.add_assoc]
    exact this

theorem over_l {l : List lombardref15_Item} {Q0 : Unit → Prop} {Q1 : (Int × Int × Int × Int × (GM Int Int) × (GM ByteArray Int)) → Prop} (hk : KeyOk2 l) (hl : l.length ≤ 64) :
    ∀ (n s : Nat) (t : limit_Table), n + s = l.length → (∃ r, Ply r t s) → ((l.drop s).any above1 = true → Q0 ()) → ((l.drop s).any above1 = false → Q1 ((putAll (l.drop s) t).need, (putAll (l.drop s) t).issuer, (putAll (l.drop s) t).asset, (putAll (l.drop s) t).sum, (putAll (l.drop s) t).issuers, (putAll (l.drop s) t).assets)) →
      limit_Over_L0b (l.map toH) Q0 Q1 (s : Int) t.need t.issuer t.asset t.sum t.issuers t.assets := by
  intro n
  induction n with
  | zero =>
    intro s t h _ _ q1
    refine limit_Over_l0b ?_
    unfold limit_Over_w0b
    rw [lenM_eq, List.length_map]
    refine Br.neg (by omega) (Lf.i ?_)
    rw [List.drop_of_length_le (by omega)] at q1
    exact q1 rfl
  | succ n ih =>
    intro s t h hp q0 q1
    have hs : s < l.length := by omega
    refine limit_Over_l0b ?_
    unfold limit_Over_w0b
    rw [lenM_eq, List.length_map]
    rw [List.drop_eq_getElem_cons hs] at q0 q1
    have hx := hk _ (List.getElem_mem hs)
    have hc := covC_ok l[s]
    obtain ⟨r, hp⟩ := hp
    refine Br.pos (by omega) ⟨toH l[s], Got.i ⟨covC l[s], ICover_r l[s], Br.i (fun c => Lf.i (q0 ?_)) (fun c => ⟨covC l[s], ICover_r l[s], putT t l[s].Asset (covC l[s]), Gput_r (t := t) hp (by omega) ⟨hc.1, by omega⟩, Num.n (by omega) ?_⟩)⟩ (by omega) (by simp [hs])⟩
    · simp only [List.any_cons, above1, decide_eq_true c, Bool.true_or]
    · have hb : above1 l[s] = false := decide_eq_false c
      refine ih (s + 1) (putT t l[s].Asset (covC l[s])) (by omega) ⟨_, Ply_put hp (by omega) hx.1 hx.2 ⟨hc.1, by omega⟩⟩ (fun e => q0 ?_) (fun e => ?_)
      · simp only [List.any_cons, e, Bool.or_true]
      · exact q1 (by simp only [List.any_cons, e, hb]; rfl)
theorem rover_l {l : List lombardref15_Item} {Q0 : Unit → Prop} {Q1 : (Int × Int × Int × List lombardref16_Part) → Prop} (hl : l.length ≤ 64) :
    ∀ (n s : Nat) (r : lombardref16_Table), n + s = l.length → r.L.length ≤ s → ((l.drop s).any above1 = true → Q0 ()) → ((l.drop s).any above1 = false → Q1 ((withAll (l.drop s) r).Need, (withAll (l.drop s) r).Issuer, (withAll (l.drop s) r).Asset, (withAll (l.drop s) r).L)) →
      lombardref16_Over_L0 l Q0 Q1 (s : Int) r.Need r.Issuer r.Asset r.L := by
  intro n
  induction n with
  | zero =>
    intro s r h _ _ q1
    refine lombardref16_Over_l0 ?_
    unfold lombardref16_Over_w0
    rw [lenM_eq]
    refine Br.neg (by omega) (Lf.i ?_)
    rw [List.drop_of_length_le (by omega)] at q1
    exact q1 rfl
  | succ n ih =>
    intro s r h hr q0 q1
    have hs : s < l.length := by omega
    refine lombardref16_Over_l0 ?_
    unfold lombardref16_Over_w0
    rw [lenM_eq]
    rw [List.drop_eq_getElem_cons hs] at q0 q1
    have g : l[(s : Int).toNat]? = some l[s] := by simp [hs]
    refine Br.pos (by omega) ⟨l[s], Got.i ⟨covC l[s], RCovers_r l[s], Br.i (fun c => Lf.i (q0 ?_)) (fun c => Got.i (Got.i ⟨covC l[s], RCovers_r l[s], withR r l[s].Asset (covC l[s]), RWith_r (r := r) (by omega), Num.n (by omega) ?_⟩ (by omega) g) (by omega) g)⟩ (by omega) g⟩
    · simp only [List.any_cons, above1, decide_eq_true c, Bool.true_or]
    · have hb : above1 l[s] = false := decide_eq_false c
      refine ih (s + 1) (withR r l[s].Asset (covC l[s])) (by omega) (by simp [withR]; omega) (fun e => q0 ?_) (fun e => ?_)
      · simp only [List.any_cons, e, Bool.or_true]
      · exact q1 (by simp only [List.any_cons, e, hb]; rfl)

theorem above_l {r : List limit_Use} {Q : List limit_Use → Prop} : ∀ (n s : Nat) (acc : List limit_Use), n + s = r.length → acc.length + n ≤ 3000000 → r.length ≤ 3000000 → Q (acc ++ (r.drop s).filter fun u => decide (u.Cover > u.Limit)) → limit_Over_L1 r Q (s : Int) acc
  | 0, s, acc, h, _, _, q => by
    refine limit_Over_l1 ?_
    unfold limit_Over_w1
    rw [lenM_eq]
    refine Br.neg (by omega) (Lf.i ?_)
    rw [List.drop_of_length_le (by omega)] at q
    simpa using q
  | n + 1, s, acc, h, ha, hr, q => by
    have hs : s < r.length := by omega
    refine limit_Over_l1 ?_
    unfold limit_Over_w1
    rw [lenM_eq]
    rw [List.drop_eq_getElem_cons hs, List.filter_cons] at q
    refine Br.pos (by omega) ⟨r[s], Got.i (Br.i (fun c => App2.i (app40 (by simp; omega)) (Num.n (by omega) ?_)) (fun c => Num.n (by omega) ?_)) (by omega) (by simp [hs])⟩
    · rw [decide_eq_true c] at q
      exact above_l n (s + 1) _ (by omega) (by simp; omega) hr (by simpa using q)
    · rw [decide_eq_false c] at q
      exact above_l n (s + 1) _ (by omega) (by omega) hr (by simpa using q)
theorem rabove_l {r : List lombardref16_Use} {Q : List lombardref16_Use → Prop} : ∀ (n s : Nat) (acc : List lombardref16_Use), n + s = r.length → acc.length + n ≤ 3000000 → r.length ≤ 3000000 → Q (acc ++ (r.drop s).filter fun u => decide (u.Cover > u.Limit)) → lombardref16_Over_L1 r Q (s : Int) acc
  | 0, s, acc, h, _, _, q => by
    refine lombardref16_Over_l1 ?_
    unfold lombardref16_Over_w1
    rw [lenM_eq]
    refine Br.neg (by omega) (Lf.i ?_)
    rw [List.drop_of_length_le (by omega)] at q
    simpa using q
  | n + 1, s, acc, h, ha, hr, q => by
    have hs : s < r.length := by omega
    refine lombardref16_Over_l1 ?_
    unfold lombardref16_Over_w1
    rw [lenM_eq]
    rw [List.drop_eq_getElem_cons hs, List.filter_cons] at q
    have g : r[(s : Int).toNat]? = some r[s] := by simp [hs]
    refine Br.pos (by omega) ⟨r[s], Got.i (Got.i (Br.i (fun c => Got.i (App2.i (app40 (by simp; omega)) (Num.n (by omega) ?_)) (by omega) g) (fun c => Num.n (by omega) ?_)) (by omega) g) (by omega) g⟩
    · rw [decide_eq_true c] at q
      exact rabove_l n (s + 1) _ (by omega) (by simp; omega) hr (by simpa using q)
    · rw [decide_eq_false c] at q
      exact rabove_l n (s + 1) _ (by omega) (by omega) hr (by simpa using q)

theorem Ply_new {b : api_Basket} {need : Int} : Ply (newR b need) (newT b need) 0 :=
  ⟨⟨ok_nil, ok_nil, Nat.le_refl _, Nat.le_refl _⟩, rfl, rfl, fun _ => rfl, fun _ => rfl, rfl, Nat.le_refl _, fun p hp => (by cases hp)⟩
theorem usesT_len {t : limit_Table} {n : Nat} (h : Kt t n) : (usesT t).length ≤ 2 * n := by
  have := posI_len h; have := posS_len h
  rw [usesT_eq]; simp only [List.length_append, List.length_map]; omega

def aboveT (t : limit_Table) : List limit_Use := (usesT t).filter fun u => decide (u.Cover > u.Limit)
/-- What Over tells. -/
def overS (b : api_Basket) (need : Int) (l : List lombardref15_Item) : List limit_Use × Int :=
  if 64 < l.length then ([], 2) else if l.any above1 = true then ([], 9) else (aboveT (putAll l (newT b need)), 0)
theorem Over_r {b : api_Basket} {need : Int} {l : List lombardref15_Item} (hk : KeyOk2 l) (h : newOk b need) : limit_Over_r b need (l.map toH) (overS b need l) := by
  refine limit_Over_of ?_
  unfold limit_Over_w
  rw [lenM_eq, List.length_map]
  refine .inr ⟨_, New_r1 h, Br.f rfl (Br.i (fun c => Rt.i (by unfold overS; rw [if_pos (by omega)])) (fun c => ?_))⟩
  refine over_l hk (by omega) _ 0 (newT b need) rfl ⟨_, Ply_new⟩ (fun e => ?_) (fun e => ?_)
  · exact Rt.i (by unfold overS; rw [if_neg (by omega), if_pos (by simpa using e)])
  · rw [List.drop_zero] at e
    have hp := Ply_all l hk e (by omega) (Ply_new (b := b) (need := need))
    have hl := usesT_len hp.kt
    refine ⟨usesT (putAll l (newT b need)), Uses_r (t := putAll l (newT b need)) hp.kt (by omega), above_l _ 0 [] rfl (by simp; omega) (by omega) (Rt.i ?_)⟩
    unfold overS; rw [if_neg (by omega), if_neg (by simp [e])]; rfl
theorem ROver_r {b : api_Basket} {need : Int} {l : List lombardref15_Item} (hk : KeyOk2 l) (h : newOk b need) : lombardref16_Over_r b need l ((overS b need l).1.map toldU, (overS b need l).2) := by
  refine lombardref16_Over_of ?_
  unfold lombardref16_Over_w
  rw [lenM_eq]
  refine ⟨_, RNew_r h, Br.f rfl (Br.i (fun c => Rt.i (by unfold overS; rw [if_pos (by omega)]; rfl)) (fun c => ?_))⟩
  refine rover_l (by omega) _ 0 (newR b need) rfl (Nat.le_refl _) (fun e => ?_) (fun e => ?_)
  · exact Rt.i (by unfold overS; rw [if_neg (by omega), if_pos (by simpa using e)]; rfl)
  · rw [List.drop_zero] at e
    have hp := Ply_all l hk e (by omega) (Ply_new (b := b) (need := need))
    have hl := usesT_len hp.kt
    refine ⟨_, RUses_r (r := withAll l (newR b need)) hp (by omega), rabove_l _ 0 [] rfl (by simp; omega) (by simp; omega) (Rt.i ?_)⟩
    unfold overS; rw [if_neg (by omega), if_neg (by simp [e])]
    simp only [List.drop_zero, List.nil_append, aboveT, List.filter_map]
    rfl
theorem Over_r0 {b : api_Basket} {need : Int} {l : List haircut_Item} (h : ¬ newOk b need) : limit_Over_r b need l ([], 1) := by
  refine limit_Over_of ?_
  unfold limit_Over_w
  exact .inl ⟨_, New_r0 h, Br.t rfl (Rt.i rfl)⟩
theorem ROver_r0 {b : api_Basket} {need : Int} {l : List lombardref15_Item} (h : ¬ newOk b need) : lombardref16_Over_r b need l ([], 1) := by
  refine lombardref16_Over_of ?_
  unfold lombardref16_Over_w
  exact ⟨_, RNew0 h, Br.t rfl (Rt.i rfl)⟩
end Go.Proofs.YtjlkmdmaimednaaGreat.Pure
namespace Go.Proofs.YtjlkmdmaimednaaGreat.Pure
open Go Go.Ab Go.Stable Go.Proofs.YtjlkmdmaimednaaGreat.R
set_option linter.unusedVariables false
instance (b : api_Basket) (need : Int) : Decidable (newOk b need) := by unfold newOk; exact instDecidableAnd
def ovS (b : api_Basket) (need : Int) (l : List RI) : List limit_Use × Int := if newOk b need then overS b need l else ([], 1)
theorem Over_all {b : api_Basket} {need : Int} {l : List RI} (hk : KeyOk2 l) : limit_Over_r b need (l.map toH) (ovS b need l) := by
  unfold ovS
  by_cases h : newOk b need
  · rw [if_pos h]; exact Over_r hk h
  · rw [if_neg h]; exact Over_r0 h
theorem ROver_all {b : api_Basket} {need : Int} {l : List RI} (hk : KeyOk2 l) : lombardref16_Over_r b need l ((ovS b need l).1.map toldU, (ovS b need l).2) := by
  unfold ovS
  by_cases h : newOk b need
  · rw [if_pos h]; exact ROver_r hk h
  · rw [if_neg h]; exact ROver_r0 h
theorem ov_new {b : api_Basket} {need : Int} {l : List RI} (h : ¬ (ovS b need l).2 ≠ 0) : newOk b need := by
  unfold ovS at h
  split at h
  · assumption
  · exact absurd (by decide) h
def goodG (b : api_Basket) (l : List RI) (need : Int) : Int :=
  if wrongS l ≠ 0 then wrongS l else if (ovS b need l).2 ≠ 0 then (ovS b need l).2 else if 0 < (ovS b need l).1.length then 24 else if sumW pT (l.map toH) < need then 25 else 0
theorem Good_r {b : api_Basket} {l : List RI} {need : Int} (hk : KeyOk2 l) (hN : InK .i64 need) : alloc_Good_r b (l.map toH) need (goodG b l need) := by
  refine alloc_Good_of ?_
  unfold alloc_Good_w goodG
  refine ⟨_, Check_r, Br.i (fun c => Rt.i (by rw [if_pos c])) (fun c => ?_)⟩
  have g := good_of (Decidable.not_not.1 c)
  rw [if_neg c]
  have hlen : (l.map toH).length ≤ 64 := by rw [List.length_map]; exact g.len
  have hs := g.sum
  have nn := sumW_nn pT (l.map toH)
  refine ⟨_, Over_all hk, Br.i (fun c2 => Rt.i (by rw [if_pos c2])) (fun c2 => ?_)⟩
  have hn := ov_new c2
  have hn0 := hn.1
  have hN1 : -9223372036854775808 ≤ need ∧ need ≤ 9223372036854775807 := hN
  rw [if_neg c2, lenM_eq]
  refine Br.i (fun c3 => Rt.i (by rw [if_pos (by omega)])) (fun c3 => ?_)
  rw [if_neg (by omega)]
  have em : marS (sumW pT (l.map toH)) need = (sumW pT (l.map toH) - need, 0) := by unfold marS; rw [if_neg (by omega)]
  have hm := Margin_r (need := need) (by omega : (l.map toH).length ≤ 1000) (by omega) hN
  rw [em] at hm
  refine ⟨_, hm, Br.neg (fun k => k rfl) (Br.i (fun c4 => Rt.i ?_) (fun c4 => Rt.i ?_))⟩
  · have c4 : sumW pT (l.map toH) - need < 0 := c4
    rw [if_pos (by omega)]
  · have c4 : ¬ sumW pT (l.map toH) - need < 0 := c4
    rw [if_neg (by omega)]
theorem RGood_r {b : api_Basket} {l : List RI} {need : Int} (hk : KeyOk2 l) : lombardref18_Good_r b l need (goodG b l need) := by
  refine lombardref18_Good_of ?_
  unfold lombardref18_Good_w goodG
  refine ⟨_, Wrong_r, Br.i (fun c => ⟨_, Wrong_r, Rt.i (by rw [if_pos c])⟩) (fun c => ?_)⟩
  have g := good_of (Decidable.not_not.1 c)
  rw [if_neg c]
  have hlen : (l.map toH).length ≤ 64 := by rw [List.length_map]; exact g.len
  have hs := g.sum
  have tt := Total15_r (l := l.map toH) (by omega) (by omega)
  rw [toR_toH] at tt
  refine ⟨_, ROver_all hk, Br.i (fun c2 => Rt.i (by rw [if_pos (show (ovS b need l).2 ≠ 0 from c2)])) (fun c2 => ?_)⟩
  have c2 : ¬ (ovS b need l).2 ≠ 0 := c2
  rw [if_neg c2, lenM_eq, List.length_map]
  refine Br.i (fun c3 => Rt.i (by rw [if_pos (by omega)])) (fun c3 => ?_)
  rw [if_neg (by omega)]
  refine ⟨_, tt, Br.neg (fun k => k rfl) (Br.i (fun c4 => Rt.i ?_) (fun c4 => Rt.i ?_))⟩
  · rw [if_pos (show sumW pT (l.map toH) < need from c4)]
  · rw [if_neg (show ¬ sumW pT (l.map toH) < need from c4)]

end Go.Proofs.YtjlkmdmaimednaaGreat.Pure
