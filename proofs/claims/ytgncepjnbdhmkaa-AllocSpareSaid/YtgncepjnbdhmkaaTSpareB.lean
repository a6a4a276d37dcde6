/- Items: what is wrong with them; in order; what is taken of them. -/
import Derived.Test.YtgncepjnbdhmkaaTLotB
import Derived.Test.YtgncepjnbdhmkaaTRank
import Derived.Test.YtgncepjnbdhmkaaRS
import Derived.Test.YtgncepjnbdhmkaaTBack
namespace Go.Proofs.Ytgncepjnbdhmkaa.Pure
open Go Go.Ab Go.Stable Go.Proofs.Ytgncepjnbdhmkaa.R
set_option linter.unusedVariables false
abbrev RI := lombardref15_Item
abbrev HI := haircut_Item
def toR (x : HI) : RI := ⟨x.Lot, x.Asset, x.Price, x.Cut⟩
theorem toH_toR (l : List HI) : (l.map toR).map toH = l := by rw [List.map_map]; exact List.map_id' l
theorem toR_toH (l : List RI) : (l.map toH).map toR = l := by rw [List.map_map]; exact List.map_id' l

/-! What is wrong. -/
instance decMem (k : ByteArray) (l : List ByteArray) : Decidable (k ∈ l) := decidable_of_iff ((l.any fun y => decide (y = k)) = true) (by simp)
def wrongL : List ByteArray → List RI → Int
  | _, [] => 0
  | seen, x :: l => if (coverS x.Lot.Qty x.Price x.Cut).2 ≠ 0 ∨ x.Lot.Qty = 0 then 1 else if 1125899906842624 < covC x then 9 else if x.Asset.ISIN ∈ seen ∨ x.Asset.ISIN ≠ x.Lot.ISIN then 7 else wrongL (seen ++ [x.Asset.ISIN]) l
def wrongS (l : List RI) : Int := if 64 < l.length then 2 else wrongL [] l
theorem check_l {l : List RI} {Q0 : Int → Prop} {Q1 : Unit → Prop} (hl : l.length ≤ 64) : ∀ (n i : Nat) (m : GM ByteArray Bool) (seen : List ByteArray), n + i = l.length → (∀ k, m.getD k false = decide (k ∈ seen)) →
    (wrongL seen (l.drop i) ≠ 0 → Q0 (wrongL seen (l.drop i))) → (wrongL seen (l.drop i) = 0 → Q1 ()) → alloc_check_L0 (l.map toH) Q0 Q1 (i : Int) m := by
  intro n
  induction n with
  | zero =>
    intro i m seen h hm q0 q1
    refine alloc_check_l0 ?_
    unfold alloc_check_w0
    rw [lenM_eq, List.length_map]
    rw [List.drop_of_length_le (by omega)] at q1
    exact Br.neg (by omega) (Lf.i (q1 rfl))
  | succ n ih =>
    intro i m seen h hm q0 q1
    have hs : i < l.length := by omega
    refine alloc_check_l0 ?_
    unfold alloc_check_w0
    rw [lenM_eq, List.length_map]
    rw [List.drop_eq_getElem_cons hs] at q0 q1
    have g : (l.map toH)[(i : Int).toNat]? = some (toH l[i]) := by simp [hs]
    simp only [wrongL] at q0 q1
    refine Br.pos (by omega) ⟨toH l[i], Got.i ⟨_, Cover_r, Br.i (fun c => Lf.i ?_) (fun c => Br.i (fun c1 => Lf.i ?_) (fun c1 => ⟨_, ICover_r l[i], Br.i (fun c2 => Lf.i ?_) (fun c2 => ⟨_, _, Look.i ?_⟩)⟩))⟩ (by omega) g⟩
    · rw [if_pos (.inl c)] at q0; exact q0 (by decide)
    · rw [if_pos (.inr c1)] at q0; exact q0 (by decide)
    · rw [if_neg (fun e => e.elim c c1), if_pos (by omega)] at q0; exact q0 (by decide)
    · rw [if_neg (fun e => e.elim c c1), if_neg (by omega)] at q0 q1
      show Br (m.getD l[i].Asset.ISIN false) _ _
      rw [hm]
      refine Br.i (fun c3 => Lf.i ?_) (fun c3 => Br.i (fun c4 => Lf.i ?_) (fun c4 => ⟨_, Put.i (Num.n (by omega) ?_)⟩))
      · rw [if_pos (.inl c3)] at q0; exact q0 (by decide)
      · rw [if_pos (.inr c4)] at q0; exact q0 (by decide)
      · have e : ¬ (l[i].Asset.ISIN ∈ seen ∨ l[i].Asset.ISIN ≠ l[i].Lot.ISIN) := fun e => e.elim c3 c4
        rw [if_neg e] at q0 q1
        refine ih (i + 1) _ (seen ++ [l[i].Asset.ISIN]) (by omega) (fun k => ?_) q0 q1
        rw [getD_put]
        by_cases ek : k = l[i].Asset.ISIN
        · rw [if_pos (show k = (toH l[i]).Asset.ISIN from ek), decide_eq_true (by rw [ek]; simp)]
        · rw [if_neg (show ¬ k = (toH l[i]).Asset.ISIN from ek), hm]
          exact decide_eq_decide.2 (by simp [ek])
theorem Check_r {l : List RI} : alloc_check_r (l.map toH) (wrongS l) := by
  refine alloc_check_of ?_
  unfold alloc_check_w wrongS
  rw [lenM_eq, List.length_map]
  refine Br.i (fun c => Rt.i (by rw [if_pos (by omega)])) (fun c => ?_)
  exact check_l (by omega) l.length 0 GM.nil [] (by omega) (fun k => rfl) (fun h => Rt.i (by rw [if_neg (by omega)]; rfl)) (fun h => Rt.i (by rw [if_neg (by omega)]; exact h.symm))
theorem rwrong_l1 {l : List RI} {i : Nat} (hi : i < l.length) (hl : l.length ≤ 64) {Q0 Q1 : Unit → Prop} : ∀ (n k : Nat), n + k = i → (l[i].Asset.ISIN ∈ ((l.take i).drop k).map (·.Asset.ISIN) → Q0 ()) → (l[i].Asset.ISIN ∉ ((l.take i).drop k).map (·.Asset.ISIN) → Q1 ()) → lombardref18_Wrong_L1 l i Q0 Q1 (k : Int) := by
  intro n
  induction n with
  | zero =>
    intro k h q0 q1
    refine lombardref18_Wrong_l1 ?_
    unfold lombardref18_Wrong_w1
    exact Br.neg (by omega) (Lf.i (q1 (by rw [List.drop_of_length_le (by simp; omega)]; simp)))
  | succ n ih =>
    intro k h q0 q1
    refine lombardref18_Wrong_l1 ?_
    unfold lombardref18_Wrong_w1
    have hk : k < l.length := by omega
    have g : l[(k : Int).toNat]? = some l[k] := by simp [hk]
    have g2 : l[(i : Int).toNat]? = some l[i] := by simp [hi]
    have hk2 : k < (l.take i).length := by simp; omega
    rw [List.drop_eq_getElem_cons hk2, List.map_cons, List.getElem_take] at q0 q1
    refine Br.pos (by omega) ⟨l[k], Got.i ⟨l[i], Got.i (Br.i (fun c => Lf.i (q0 (by rw [c]; simp))) (fun c => Num.n (by omega) (ih (k + 1) (by omega) (fun hm => q0 (List.mem_cons_of_mem _ hm)) (fun hm => q1 ?_)))) (by omega) g2⟩ (by omega) g⟩
    intro hx
    rcases List.mem_cons.1 hx with e | e
    · exact c e.symm
    · exact hm e
theorem rwrong_l {l : List RI} {Q0 : Int → Prop} {Q1 : Unit → Prop} (hl : l.length ≤ 64) : ∀ (n i : Nat), n + i = l.length →
    (wrongL ((l.take i).map (·.Asset.ISIN)) (l.drop i) ≠ 0 → Q0 (wrongL ((l.take i).map (·.Asset.ISIN)) (l.drop i))) → (wrongL ((l.take i).map (·.Asset.ISIN)) (l.drop i) = 0 → Q1 ()) → lombardref18_Wrong_L0 l Q0 Q1 (i : Int) := by
  intro n
  induction n with
  | zero =>
    intro i h q0 q1
    refine lombardref18_Wrong_l0 ?_
    unfold lombardref18_Wrong_w0
    rw [lenM_eq]
    rw [List.drop_of_length_le (by omega)] at q1
    exact Br.neg (by omega) (Lf.i (q1 rfl))
  | succ n ih =>
    intro i h q0 q1
    have hs : i < l.length := by omega
    refine lombardref18_Wrong_l0 ?_
    unfold lombardref18_Wrong_w0
    rw [lenM_eq]
    rw [List.drop_eq_getElem_cons hs] at q0 q1
    have g : l[(i : Int).toNat]? = some l[i] := by simp [hs]
    have z : (0 : Int) ≤ (i : Int) := by omega
    simp only [wrongL] at q0 q1
    refine Br.pos (by omega) ⟨l[i], Got.i (Got.i (Got.i ⟨_, RCover_r, Br.i (fun c => Lf.i ?_) (fun c => Got.i (Br.i (fun c1 => Lf.i ?_) (fun c1 => Br.i (fun c2 => Lf.i ?_) (fun c2 => Got.i (Got.i (Br.i (fun c3 => Lf.i ?_) (fun c3 => ?_)) z g) z g))) z g)⟩ z g) z g) z g⟩
    · rw [if_pos (.inl c)] at q0; exact q0 (by decide)
    · rw [if_pos (.inr c1)] at q0; exact q0 (by decide)
    · rw [if_neg (fun e => e.elim c c1), if_pos (by unfold covC; omega)] at q0; exact q0 (by decide)
    · rw [if_neg (fun e => e.elim c c1), if_neg (by unfold covC; omega), if_pos (.inr c3)] at q0; exact q0 (by decide)
    · have c3 := Decidable.not_not.1 c3
      rw [if_neg (fun e => e.elim c c1), if_neg (by unfold covC; omega)] at q0 q1
      refine rwrong_l1 hs hl i 0 (by omega) (fun hm => Lf.i ?_) (fun hm => Num.n (by omega) (ih (i + 1) (by omega) (fun hx => ?_) (fun hx => ?_)))
      · rw [List.drop_zero] at hm
        rw [if_pos (.inl hm)] at q0; exact q0 (by decide)
      · rw [List.drop_zero] at hm
        have e : ¬ (l[i].Asset.ISIN ∈ (l.take i).map (·.Asset.ISIN) ∨ l[i].Asset.ISIN ≠ l[i].Lot.ISIN) := fun e => e.elim hm (fun k => k c3)
        rw [if_neg e] at q0
        rw [List.take_succ_eq_append_getElem hs, List.map_append] at hx ⊢
        exact q0 hx
      · rw [List.drop_zero] at hm
        have e : ¬ (l[i].Asset.ISIN ∈ (l.take i).map (·.Asset.ISIN) ∨ l[i].Asset.ISIN ≠ l[i].Lot.ISIN) := fun e => e.elim hm (fun k => k c3)
        rw [if_neg e] at q1
        rw [List.take_succ_eq_append_getElem hs, List.map_append] at hx
        exact q1 hx
theorem Wrong_r {l : List RI} : lombardref18_Wrong_r l (wrongS l) := by
  refine lombardref18_Wrong_of ?_
  unfold lombardref18_Wrong_w wrongS
  rw [lenM_eq]
  refine Br.i (fun c => Rt.i (by rw [if_pos (by omega)])) (fun c => ?_)
  exact rwrong_l (by omega) l.length 0 (by omega) (fun h => Rt.i (by rw [if_neg (by omega)]; rfl)) (fun h => Rt.i (by rw [if_neg (by omega)]; exact h.symm))
/-- What isn't wrong. -/
structure It (x : HI) : Prop where
  good : goodS x.Price x.Cut = true
  pos : 1 ≤ x.Lot.Qty
  top : x.Lot.Qty ≤ 1125899906842624
theorem it_of {x : RI} (h : ¬ ((coverS x.Lot.Qty x.Price x.Cut).2 ≠ 0 ∨ x.Lot.Qty = 0)) : It (toH x) := by
  have h1 : (coverS x.Lot.Qty x.Price x.Cut).2 = 0 := Decidable.byContradiction fun k => h (.inl k)
  have h2 : x.Lot.Qty ≠ 0 := fun k => h (.inr k)
  unfold coverS at h1
  split at h1
  · cases h1
  · rename_i hg
    split at h1
    · rename_i hw; exact absurd h1 hw
    · rename_i hw
      have hw := Decidable.not_not.1 hw
      unfold worthS at hw
      refine ⟨by simpa [toH] using hg, ?_, ?_⟩
      · show 1 ≤ x.Lot.Qty
        by_cases k : x.Lot.Qty < 0
        · rw [if_pos k] at hw; cases hw
        · omega
      · show x.Lot.Qty ≤ 1125899906842624
        by_cases k : x.Lot.Qty < 0
        · omega
        · rw [if_neg k] at hw
          by_cases k2 : 1125899906842624 < x.Lot.Qty
          · rw [if_pos k2] at hw; cases hw
          · omega
theorem wrong_it : ∀ (l : List RI) (seen : List ByteArray), wrongL seen l = 0 → (∀ x ∈ l, It (toH x) ∧ covC x ≤ 1125899906842624 ∧ x.Asset.ISIN = x.Lot.ISIN ∧ x.Lot.ISIN ∉ seen) ∧ l.Pairwise (fun x y => x.Lot.ISIN ≠ y.Lot.ISIN)
  | [], seen, _ => ⟨by simp, List.Pairwise.nil⟩
  | x :: l, seen, h => by
    simp only [wrongL] at h
    split at h
    · cases h
    · rename_i h1
      split at h
      · cases h
      · rename_i h2
        split at h
        · cases h
        · rename_i h3
          have e : x.Asset.ISIN = x.Lot.ISIN := Decidable.byContradiction fun k => h3 (.inr k)
          have ns : x.Asset.ISIN ∉ seen := fun k => h3 (.inl k)
          obtain ⟨i1, i2⟩ := wrong_it l _ h
          refine ⟨fun y hy => ?_, List.pairwise_cons.2 ⟨fun y hy k => ?_, i2⟩⟩
          · rcases List.mem_cons.1 hy with rfl | hy
            · exact ⟨it_of h1, by omega, e, by rw [← e]; exact ns⟩
            · obtain ⟨a, b, c, d⟩ := i1 y hy
              exact ⟨a, b, c, fun k => d (by simp [k])⟩
          · have := (i1 y hy).2.2.2
            exact this (by rw [← k, e]; simp)

/-! In order. -/
theorem ahead_eq (a b : RI) : lombardref17_Ahead_r a b (!leE (toH b) (toH a)) := by
  refine lombardref17_Ahead_of ?_
  unfold lombardref17_Ahead_w
  have key : (!leE (toH b) (toH a)) = decide (¬ leP (toH b) (toH a)) := by
    unfold leE; by_cases k : leP (toH b) (toH a)
    · rw [decide_eq_true k, decide_eq_false (fun h => h k)]; rfl
    · rw [decide_eq_false k, decide_eq_true k]; rfl
  rw [key]
  refine Br.i (fun c => Rt.i ?_) (fun c => Br.i (fun c2 => Rt.i ?_) (fun c2 => Rt.i ?_))
  · refine decide_eq_decide.2 ?_
    unfold leP
    constructor
    · intro h k
      rcases k with k | ⟨k, _⟩
      · have k : b.Cut < a.Cut := k
        omega
      · exact c k.symm
    · intro h
      have : ¬ b.Cut < a.Cut := fun k => h (.inl k)
      omega
  · have c := Decidable.not_not.1 c
    refine decide_eq_decide.2 ?_
    unfold leP
    constructor
    · intro h k
      rcases k with k | ⟨_, k | ⟨k, _⟩⟩
      · have k : b.Cut < a.Cut := k
        omega
      · have k : b.Asset.Maturity < a.Asset.Maturity := k
        omega
      · exact c2 k.symm
    · intro h
      have : ¬ b.Asset.Maturity < a.Asset.Maturity := fun k => h (.inr ⟨c.symm, .inl k⟩)
      omega
  · have c := Decidable.not_not.1 c
    have c2 := Decidable.not_not.1 c2
    rw [strLt_s]
    refine decide_eq_decide.2 ?_
    unfold leP
    constructor
    · intro h k
      rcases k with k | ⟨_, k | ⟨_, k⟩⟩
      · have k : b.Cut < a.Cut := k
        omega
      · have k : b.Asset.Maturity < a.Asset.Maturity := k
        omega
      · exact k h
    · intro h
      exact Decidable.byContradiction fun k => h (.inr ⟨c.symm, .inr ⟨c2.symm, k⟩⟩)
theorem rank_l1 {l : List RI} {out : List HI} {i : Nat} (hi : i < l.length) (hl : l.length ≤ 1000) (ho : out.length ≤ 1000) {Q : Int → Prop}
    (q : ∀ m : Nat, m ≤ out.length → (m = 0 ∨ leE (at_ out (m - 1)) (toH l[i]) = true) → (m < out.length → leE (at_ out m) (toH l[i]) = false) → Q m) :
    ∀ (m : Nat), m ≤ out.length → (m < out.length → leE (at_ out m) (toH l[i]) = false) → lombardref17_Rank_L1 l i (out.map toR) Q (m : Int) := by
  intro m
  induction m with
  | zero =>
    intro hm h
    refine lombardref17_Rank_l1 ?_
    unfold lombardref17_Rank_w1
    exact Br.neg (by omega) (Lf.i (q 0 hm (.inl rfl) h))
  | succ m ih =>
    intro hm h
    refine lombardref17_Rank_l1 ?_
    unfold lombardref17_Rank_w1
    have g : l[(i : Int).toNat]? = some l[i] := by simp [hi]
    have e : ((m + 1 : Nat) : Int) - 1 = (m : Int) := by omega
    rw [e]
    have hm' : m < out.length := by omega
    have g2 : (out.map toR)[(m : Int).toNat]? = some (toR (at_ out m)) := by
      rw [Int.toNat_natCast, List.getElem?_map, get_at hm']; rfl
    refine Br.pos (by omega) ⟨l[i], Got.i (Num.n (by omega) (InL.i ⟨toR (at_ out m), EltG.i ⟨_, ahead_eq _ _, ?_⟩ g2⟩ (by omega) (by simpa using hm'))) (by omega) g⟩
    refine Br.b (fun c => Num.n (by omega) (ih (by omega) (fun _ => by have c2 : (!leE (at_ out m) (toH l[i])) = true := c; simpa using c2))) (fun c => Lf.i (q (m + 1) hm (.inr ?_) h))
    have c2 : (!leE (at_ out m) (toH l[i])) = false := c
    simpa using c2
theorem rank_l0 {l : List RI} (hl : l.length ≤ 1000) {Q : List RI → Prop} : ∀ (n i : Nat) (out : List HI), n + i = l.length → out.length = i → Srt out → Q (((l.drop i).map toH).foldl (insS leE) out |>.map toR) → lombardref17_Rank_L0 l Q (i : Int) (out.map toR) := by
  intro n
  induction n with
  | zero =>
    intro i out h ho hs q
    refine lombardref17_Rank_l0 ?_
    unfold lombardref17_Rank_w0
    rw [lenM_eq]
    rw [List.drop_of_length_le (by omega)] at q
    exact Br.neg (by omega) (Lf.i (by simpa using q))
  | succ n ih =>
    intro i out h ho hs q
    have hi : i < l.length := by omega
    refine lombardref17_Rank_l0 ?_
    unfold lombardref17_Rank_w0
    rw [lenM_eq, lenM_eq, List.length_map]
    rw [List.drop_eq_getElem_cons hi, List.map_cons, List.foldl_cons] at q
    have g : l[(i : Int).toNat]? = some l[i] := by simp [hi]
    refine Br.pos (by omega) (rank_l1 hi hl (by omega) (fun m hm h1 h2 => ?_) out.length (Nat.le_refl _) (fun h => by omega))
    have tk : ((out.map toR).take ((m : Int)).toNat) = (out.take m).map toR := by simp [List.map_take]
    have dr : ((out.map toR).drop ((m : Int)).toNat) = (out.drop m).map toR := by simp [List.map_drop]
    rw [tk, dr]
    have lt : ((out.take m).map toR).length = m := by simp; omega
    have ld : ((out.drop m).map toR).length = i - m := by simp; omega
    have e : insS leE out (toH l[i]) = out.take m ++ toH l[i] :: out.drop m := by
      have := insS_back (le := leE) (toH l[i]) (out.take m) (out.drop m) (fun a ha => ?_) (fun a ha => ?_)
      · rwa [List.take_append_drop] at this
      · have m0 : 0 < m := Nat.pos_of_ne_zero fun k => by subst k; simp at ha
        have h1 := h1.resolve_left (by omega)
        obtain ⟨j, hj, rfl⟩ := List.getElem_of_mem ha
        have hj' : j < m := by simp at hj; omega
        rw [List.getElem_take]
        have a1 : at_ out (m - 1) = out[m - 1]'(by omega) := at_of (List.getElem?_eq_getElem (by omega))
        rw [a1] at h1
        by_cases k : j = m - 1
        · subst k; exact h1
        · exact leE_trans _ _ _ (List.pairwise_iff_getElem.1 hs j (m - 1) (by omega) (by omega) (by omega)) h1
      · have hm2 : m < out.length := Nat.lt_of_not_le fun k => by rw [List.drop_of_length_le k] at ha; cases ha
        have h2 := h2 hm2
        rw [List.drop_eq_getElem_cons hm2] at ha
        cases ha
        have a1 : at_ out m = out[m] := at_of (List.getElem?_eq_getElem hm2)
        rw [a1] at h2; exact h2
    refine CutLh.i ⟨by omega, by simpa using hm⟩ (ApZ.i (app96 (by omega)) ⟨l[i], Got.i (App2.i (app96 (by simp; omega)) (CutLl.i ⟨by omega, by simpa using hm⟩ (App2.i (app96 (by simp; omega)) (Num.n (by omega) ?_)))) (by omega) g⟩)
    have := ih (i + 1) (insS leE out (toH l[i])) (by omega) (by rw [e]; simp; omega) (mg_sorted leE_trans leE_total _ _ hs (List.pairwise_singleton _ _)) q
    rw [e, List.map_append, List.map_cons] at this
    rw [List.append_assoc]
    exact this
theorem RRank_r {l : List RI} (hl : l.length ≤ 1000) : lombardref17_Rank_r l ((isort leE (l.map toH)).map toR) := by
  refine lombardref17_Rank_of ?_
  unfold lombardref17_Rank_w
  exact rank_l0 hl l.length 0 [] (by omega) rfl List.Pairwise.nil (Rt.i (by simp [isort]))
end Go.Proofs.Ytgncepjnbdhmkaa.Pure
namespace Go.Proofs.Ytgncepjnbdhmkaa.Pure
open Go Go.Ab Go.Stable Go.Proofs.Ytgncepjnbdhmkaa.R
set_option linter.unusedVariables false
def covH (x : HI) : Int := covC (toR x)
def setQ (x : HI) (q : Int) : HI := ⟨⟨x.Lot.ISIN, q⟩, x.Asset, x.Price, x.Cut⟩
theorem HCover_r (x : HI) : _haircut_Item_Cover_r x (covH x) := ICover_r (toR x)
theorem RHCovers_r (x : HI) : _lombardref15_Item_Covers_r (toR x) (covH x) := RCovers_r (toR x)
theorem cov_q {x : HI} {q : Int} (h : goodS x.Price x.Cut = true) (hq : 0 ≤ q ∧ q ≤ 1125899906842624) : covH (setQ x q) = cv q x.Price x.Cut := by
  have := cover_val h hq
  show (coverS q x.Price x.Cut).1 = _
  rw [this]

/-! Where a security is. -/
def atH (s : ByteArray) : List HI → Int
  | [] => -1
  | y :: l => if y.Lot.ISIN = s then 0 else if atH s l < 0 then -1 else atH s l + 1
theorem atH_or (s : ByteArray) : ∀ l : List HI, (atH s l = -1 ∧ ∀ y ∈ l, y.Lot.ISIN ≠ s) ∨ (∃ A y B, l = A ++ y :: B ∧ y.Lot.ISIN = s ∧ atH s l = (A.length : Nat))
  | [] => .inl ⟨rfl, by simp⟩
  | z :: l => by
    simp only [atH]
    by_cases c : z.Lot.ISIN = s
    · rw [if_pos c]; exact .inr ⟨[], z, l, rfl, c, rfl⟩
    · rw [if_neg c]
      rcases atH_or s l with ⟨h1, h2⟩ | ⟨A, y, B, h1, h2, h3⟩
      · rw [if_pos (by omega)]
        refine .inl ⟨rfl, fun y hy => ?_⟩
        rcases List.mem_cons.1 hy with rfl | hy
        · exact c
        · exact h2 y hy
      · rw [if_neg (by omega)]
        exact .inr ⟨z :: A, y, B, by rw [h1]; rfl, h2, by rw [h3]; simp⟩
theorem ofc_r (x : HI) (s : ByteArray) : alloc_filler_of_1_r x s (strEq x.Lot.ISIN s) := by
  refine alloc_filler_of_1_of ?_
  unfold alloc_filler_of_1_w
  exact Rt.i rfl
theorem find_l {out : List HI} {s : ByteArray} {Q0 : Int → Prop} {Q1 : Unit → Prop} (hl : out.length ≤ 1000) : ∀ (n i : Nat), n + i = out.length → (0 ≤ atH s (out.drop i) → Q0 (i + atH s (out.drop i))) → (atH s (out.drop i) = -1 → Q1 ()) →
    slices_IndexFunc_haircut_Item_haircut_Item_o_f82c_L0 out s Q0 Q1 (i : Int) := by
  intro n
  induction n with
  | zero =>
    intro i h q0 q1
    refine slices_IndexFunc_haircut_Item_haircut_Item_o_f82c_l0 ?_
    unfold slices_IndexFunc_haircut_Item_haircut_Item_o_f82c_w0
    rw [lenM_eq]
    rw [List.drop_of_length_le (by omega)] at q1
    exact Br.neg (by omega) (Lf.i (q1 rfl))
  | succ n ih =>
    intro i h q0 q1
    have hs : i < out.length := by omega
    refine slices_IndexFunc_haircut_Item_haircut_Item_o_f82c_l0 ?_
    unfold slices_IndexFunc_haircut_Item_haircut_Item_o_f82c_w0
    rw [lenM_eq]
    rw [List.drop_eq_getElem_cons hs] at q0 q1
    have g : out[(i : Int).toNat]? = some out[i] := by simp [hs]
    simp only [atH] at q0 q1
    refine Br.pos (by omega) (InL.i ⟨out[i], EltG.i ⟨_, ofc_r _ _, Br.i (fun c => Lf.i ?_) (fun c => Num.n (by omega) ?_)⟩ g⟩ (by omega) (by simpa using hs))
    · rw [if_pos c] at q0; simpa using q0 (Int.le_refl _)
    · rw [if_neg c] at q0 q1
      refine ih (i + 1) (by omega) (fun h0 => ?_) (fun h0 => q1 (by rw [if_pos (by omega)]))
      rw [if_neg (by omega)] at q0
      have := q0 (by omega)
      rw [show (((i + 1 : Nat)) : Int) + atH s (out.drop (i + 1)) = (i : Int) + (atH s (out.drop (i + 1)) + 1) by omega]
      exact this
theorem atH_nn (s : ByteArray) (l : List HI) : atH s l = -1 ∨ 0 ≤ atH s l := by
  rcases atH_or s l with ⟨h, _⟩ | ⟨A, y, B, _, _, h⟩
  · exact .inl h
  · exact .inr (by omega)
theorem FOf_r {t : limit_Table} {out : List HI} {s : ByteArray} (hl : out.length ≤ 1000) : alloc_filler_of_r ⟨t, out⟩ s (atH s out, ⟨t, out⟩) := by
  refine alloc_filler_of_of ?_
  unfold alloc_filler_of_w
  refine ⟨atH s out, slices_IndexFunc_haircut_Item_haircut_Item_o_f82c_of ?_, Rt.i rfl⟩
  unfold slices_IndexFunc_haircut_Item_haircut_Item_o_f82c_w
  exact find_l hl out.length 0 (by omega) (fun h => Rt.i (by simp)) (fun h => Rt.i (by simpa using h.symm))
theorem at_l {out : List HI} {s : ByteArray} {Q0 : Int → Prop} {Q1 : Unit → Prop} (hl : out.length ≤ 1000) : ∀ (n i : Nat), n + i = out.length → (0 ≤ atH s (out.drop i) → Q0 (i + atH s (out.drop i))) → (atH s (out.drop i) = -1 → Q1 ()) →
    lombardref18_at_L0 (out.map toR) s Q0 Q1 (i : Int) := by
  intro n
  induction n with
  | zero =>
    intro i h q0 q1
    refine lombardref18_at_l0 ?_
    unfold lombardref18_at_w0
    rw [lenM_eq, List.length_map]
    rw [List.drop_of_length_le (by omega)] at q1
    exact Br.neg (by omega) (Lf.i (q1 rfl))
  | succ n ih =>
    intro i h q0 q1
    have hs : i < out.length := by omega
    refine lombardref18_at_l0 ?_
    unfold lombardref18_at_w0
    rw [lenM_eq, List.length_map]
    rw [List.drop_eq_getElem_cons hs] at q0 q1
    have g : (out.map toR)[(i : Int).toNat]? = some (toR out[i]) := by simp [hs]
    simp only [atH] at q0 q1
    refine Br.pos (by omega) ⟨toR out[i], Got.i (Br.i (fun c => Lf.i ?_) (fun c => Num.n (by omega) ?_)) (by omega) g⟩
    · have c : out[i].Lot.ISIN = s := c
      rw [if_pos c] at q0; simpa using q0 (Int.le_refl _)
    · have c : ¬ out[i].Lot.ISIN = s := c
      rw [if_neg c] at q0 q1
      refine ih (i + 1) (by omega) (fun h0 => ?_) (fun h0 => q1 (by rw [if_pos (by omega)]))
      rw [if_neg (by omega)] at q0
      have := q0 (by omega)
      rw [show (((i + 1 : Nat)) : Int) + atH s (out.drop (i + 1)) = (i : Int) + (atH s (out.drop (i + 1)) + 1) by omega]
      exact this
theorem RAt_r {out : List HI} {s : ByteArray} (hl : out.length ≤ 1000) : lombardref18_at_r (out.map toR) s (atH s out) := by
  refine lombardref18_at_of ?_
  unfold lombardref18_at_w
  exact at_l hl out.length 0 (by omega) (fun h => Rt.i (by simp)) (fun h => Rt.i (by simpa using h.symm))

/-! How many are taken. -/
def q0F (t : limit_Table) (x : HI) (qty cover : Int) : Int :=
  if (leastS (openT t + cover) x.Price x.Cut).2 = true ∧ (leastS (openT t + cover) x.Price x.Cut).1 ≤ qty + x.Lot.Qty then (leastS (openT t + cover) x.Price x.Cut).1 else qty + x.Lot.Qty
def q1F (t : limit_Table) (x : HI) (cover q : Int) : Int := if room t x.Asset < cv q x.Price x.Cut - cover then mostS (room t x.Asset + cover) x.Price x.Cut q else q
def qF (t : limit_Table) (x : HI) (qty cover : Int) : Int := q1F t x cover (q0F t x qty cover)
theorem leastS_bd {n p c : Int} (h : goodS p c = true) : 0 ≤ (leastS n p c).1 ∧ (leastS n p c).1 ≤ 1125899906842624 := by
  unfold leastS
  rw [if_neg (by simp [h])]
  split
  · simp
  · split
    · simp
    · have := least_nn (need := n) h (by omega)
      simp; omega
theorem q0_bd {t : limit_Table} {x : HI} {qty cover : Int} (hx : It x) (h0 : 0 ≤ qty) (h1 : qty + x.Lot.Qty ≤ 1125899906842624) : 0 ≤ q0F t x qty cover ∧ q0F t x qty cover ≤ 1125899906842624 := by
  have h2 := hx.pos
  have := leastS_bd (n := openT t + cover) hx.good
  unfold q0F
  split <;> omega
theorem q1_bd {t : limit_Table} {x : HI} {cover q : Int} (hx : It x) (ht : Tok t) (hc : 0 ≤ cover) (hq : 0 ≤ q ∧ q ≤ 1125899906842624) : (0 ≤ q1F t x cover q ∧ q1F t x cover q ≤ 1125899906842624) ∧ cv (q1F t x cover q) x.Price x.Cut - cover ≤ room t x.Asset := by
  have hr := room_le (a := x.Asset) ht
  unfold q1F
  split
  · have lp := least_pos (c := x.Cut) (p := x.Price) hx.good (show 0 ≤ room t x.Asset + cover by omega)
    unfold mostS
    rw [if_neg (by simp [hx.good]), if_neg (by omega), if_neg (by omega), if_neg (by omega)]
    split
    · rename_i h
      have := (most_le hx.good).1 h
      exact ⟨hq, by omega⟩
    · rename_i h
      have := (most_le (limit := room t x.Asset + cover) (q := least (room t x.Asset + cover + 1) x.Price x.Cut - 1) hx.good).1 (by omega)
      exact ⟨⟨by omega, by omega⟩, by omega⟩
  · exact ⟨hq, by omega⟩
theorem Total_r {t : limit_Table} {out : List HI} {x : HI} {qty cover : Int} (ht : Tok t) (hs : 0 ≤ t.sum) (hx : It x) (h0 : 0 ≤ qty) (h1 : qty + x.Lot.Qty ≤ 1125899906842624) (hc : 0 ≤ cover ∧ cover ≤ 4835703278458516699) :
    alloc_filler_total_r ⟨t, out⟩ x qty cover (qF t x qty cover) := by
  refine alloc_filler_total_of ?_
  unfold alloc_filler_total_w
  dsimp only
  have hr := room_le (a := x.Asset) ht
  have hn := ht.need
  have ho : 0 ≤ openT t ∧ openT t ≤ 1125899906842624 := by unfold openT; omega
  have hp := hx.pos
  have hb := q0_bd (t := t) (cover := cover) hx h0 h1
  have hcv := cv_bd hx.good hb
  have fin : ∀ q, q = q0F t x qty cover → ∃ r4 : Int × Int, (haircut_Cover_r q x.Price x.Cut r4) ∧ (Num .i64 (r4.1 - cover) (Br (decide ((r4.1 - cover) > room t x.Asset)) (Num .i64 (room t x.Asset + cover) (∃ r5 : Int, (haircut_Most_r (room t x.Asset + cover) x.Price x.Cut q r5) ∧ (alloc_filler_total_e ⟨t, out⟩ (fun v_ => v_ = qF t x qty cover) r5))) (alloc_filler_total_e ⟨t, out⟩ (fun v_ => v_ = qF t x qty cover) q))) := by
    intro q e
    subst e
    refine ⟨_, Cover_r, ?_⟩
    rw [cover_val hx.good hb]
    refine Num.n (by omega) (Br.i (fun c => Num.n (by omega) ⟨_, Most_r, Rt.i ?_⟩) (fun c => Rt.i ?_))
    · unfold qF q1F; rw [if_pos c]
    · unfold qF q1F; rw [if_neg c]
  refine ⟨_, TOpen_r ht, _, TRoom_r ht, Num.n (by omega) ⟨_, Least_r, ?_⟩⟩
  refine Br.b (fun c => Num.n (by omega) (fin _ ?_)) (fun c => Num.n (by omega) (Br.i (fun c2 => Num.n (by omega) (fin _ ?_)) (fun c2 => fin _ ?_)))
  · have c : (leastS (openT t + cover) x.Price x.Cut).2 = false := by simpa using c
    unfold q0F; rw [c]; simp
  · unfold q0F; rw [if_neg (by omega)]
  · have c : (leastS (openT t + cover) x.Price x.Cut).2 = true := by simpa using c
    unfold q0F; rw [if_pos ⟨c, by omega⟩]
def wasF (out : List HI) (x : HI) : HI := if 0 ≤ atH x.Lot.ISIN out then at_ out (atH x.Lot.ISIN out).toNat else setQ x 0
def nF (t : limit_Table) (out : List HI) (x : HI) : Int := covH (setQ x (qF t x (wasF out x).Lot.Qty (covH (wasF out x)))) - covH (wasF out x)
def stepF (s : limit_Table × List HI) (x : HI) : limit_Table × List HI :=
  if nF s.1 s.2 x ≤ 0 then s
  else (putT s.1 x.Asset (nF s.1 s.2 x), if 0 ≤ atH x.Lot.ISIN s.2 then s.2.set (atH x.Lot.ISIN s.2).toNat (setQ x (qF s.1 x (wasF s.2 x).Lot.Qty (covH (wasF s.2 x)))) else s.2 ++ [setQ x (qF s.1 x (wasF s.2 x).Lot.Qty (covH (wasF s.2 x)))])
def fillF : limit_Table × List HI → List HI → limit_Table × List HI
  | s, [] => s
  | s, x :: l => if openT s.1 = 0 then s else fillF (stepF s x) l
/-- What was taken goes with what is to come. -/
structure Fi (out l : List HI) : Prop where
  it : ∀ x ∈ l, It x
  apart : l.Pairwise (fun x y => x.Lot.ISIN ≠ y.Lot.ISIN)
  was : ∀ y ∈ out, goodS y.Price y.Cut = true ∧ 0 ≤ y.Lot.Qty ∧ y.Lot.Qty ≤ 1125899906842624
  both : ∀ x ∈ l, ∀ y ∈ out, y.Lot.ISIN = x.Lot.ISIN → y.Asset = x.Asset ∧ y.Price = x.Price ∧ y.Cut = x.Cut ∧ y.Lot.Qty + x.Lot.Qty ≤ 1125899906842624
theorem was_or {out l : List HI} {x : HI} (h : Fi out (x :: l)) : goodS (wasF out x).Price (wasF out x).Cut = true ∧ 0 ≤ (wasF out x).Lot.Qty ∧ (wasF out x).Lot.Qty + x.Lot.Qty ≤ 1125899906842624 ∧ (wasF out x).Lot.Qty ≤ 1125899906842624 ∧
    ((atH x.Lot.ISIN out = -1 ∧ wasF out x = setQ x 0 ∧ covH (wasF out x) = 0) ∨ (∃ A B, out = A ++ wasF out x :: B ∧ (wasF out x).Lot.ISIN = x.Lot.ISIN ∧ atH x.Lot.ISIN out = (A.length : Nat) ∧ ∀ q, setQ (wasF out x) q = setQ x q)) := by
  have ix := h.it x (by simp)
  have px := ix.pos
  have tx := ix.top
  rcases atH_or x.Lot.ISIN out with ⟨h1, h2⟩ | ⟨A, y, B, h1, h2, h3⟩
  · have e : wasF out x = setQ x 0 := by unfold wasF; rw [if_neg (by omega)]
    rw [e]
    refine ⟨ix.good, Int.le_refl _, ?_, (by decide : (0 : Int) ≤ 1125899906842624), .inl ⟨h1, rfl, ?_⟩⟩
    · show 0 + x.Lot.Qty ≤ _; omega
    · rw [cov_q ix.good (by decide)]; simp [cv]
  · have e : wasF out x = y := by
      unfold wasF; rw [if_pos (by omega), h3, Int.toNat_natCast]
      exact at_of (by rw [h1]; simp)
    have hy := h.was y (by rw [h1]; simp)
    obtain ⟨b1, b2, b3, b4⟩ := h.both x (by simp) y (by rw [h1]; simp) h2
    rw [e]
    refine ⟨hy.1, hy.2.1, b4, hy.2.2, .inr ⟨A, B, h1, h2, h3, fun q => ?_⟩⟩
    unfold setQ; rw [h2, b1, b2, b3]
theorem step_out {t : limit_Table} {out l : List HI} {x : HI} (h : Fi out (x :: l)) (ht : Tok t) : Fi (stepF (t, out) x).2 l ∧ (stepF (t, out) x).2.length ≤ out.length + 1 ∧ nF t out x ≤ room t x.Asset ∧ (0 ≤ qF t x (wasF out x).Lot.Qty (covH (wasF out x)) ∧ qF t x (wasF out x).Lot.Qty (covH (wasF out x)) ≤ 1125899906842624) ∧ 0 ≤ covH (wasF out x) ∧ covH (wasF out x) ≤ 4835703278458516699 := by
  obtain ⟨w1, w2, w3, w4, w5⟩ := was_or h
  have ix := h.it x (by simp)
  have cw : covH (wasF out x) = cv (wasF out x).Lot.Qty (wasF out x).Price (wasF out x).Cut := cov_q (x := wasF out x) w1 ⟨w2, w4⟩
  have cb := cv_bd w1 ⟨w2, w4⟩
  rw [← cw] at cb
  have qb := q1_bd (cover := covH (wasF out x)) ix ht cb.1 (q0_bd (t := t) (cover := covH (wasF out x)) ix w2 w3)
  have qb1 : 0 ≤ qF t x (wasF out x).Lot.Qty (covH (wasF out x)) ∧ qF t x (wasF out x).Lot.Qty (covH (wasF out x)) ≤ 1125899906842624 := qb.1
  have hn : nF t out x ≤ room t x.Asset := by
    unfold nF
    rw [cov_q ix.good qb1]
    exact qb.2
  have rest : ∀ o : List HI, (∀ y ∈ o, y ∈ out ∨ y = setQ x (qF t x (wasF out x).Lot.Qty (covH (wasF out x)))) → Fi o l := fun o ho => by
    refine ⟨fun z hz => h.it z (by simp [hz]), (List.pairwise_cons.1 h.apart).2, fun y hy => ?_, fun z hz y hy he => ?_⟩
    · rcases ho y hy with hy | rfl
      · exact h.was y hy
      · exact ⟨ix.good, qb1⟩
    · rcases ho y hy with hy | rfl
      · exact h.both z (by simp [hz]) y hy he
      · exact absurd he ((List.pairwise_cons.1 h.apart).1 z hz)
  refine ⟨?_, ?_, hn, qb1, cb⟩
  · unfold stepF
    split
    · exact rest _ fun y hy => .inl hy
    · dsimp only
      split
      · exact rest _ fun y hy => (List.mem_or_eq_of_mem_set hy)
      · exact rest _ fun y hy => by
          rcases List.mem_append.1 hy with hy | hy
          · exact .inl hy
          · exact .inr (List.mem_singleton.1 hy)
  · unfold stepF
    split
    · simp
    · dsimp only
      split <;> simp
def stepR (t : limit_Table) (out : List HI) (r : lombardref16_Table) (x : HI) : lombardref16_Table := if nF t out x ≤ 0 then r else withR r x.Asset (nF t out x)
theorem step_al {t : limit_Table} {out l : List HI} {x : HI} {r : lombardref16_Table} {n : Nat} (h : Fi out (x :: l)) (ha : Al r t n) (hn : n ≤ 1000) : Al (stepR t out r x) (stepF (t, out) x).1 (n + 1) := by
  have hs := step_out h ha.tok
  unfold stepR stepF
  dsimp only
  by_cases c : nF t out x ≤ 0
  · rw [if_pos c, if_pos c]
    exact ⟨ha.tok, ha.need, ha.issuer, ha.asset, ha.i, ha.a, ha.s, by have := ha.len; omega, ha.bd, by have := ha.s0; dsimp only; omega⟩
  · rw [if_neg c, if_neg c]
    exact Al_put ha hn (by omega) hs.2.2.1
end Go.Proofs.Ytgncepjnbdhmkaa.Pure
namespace Go.Proofs.Ytgncepjnbdhmkaa.Pure
open Go Go.Ab Go.Stable Go.Proofs.Ytgncepjnbdhmkaa.R
set_option linter.unusedVariables false
theorem fill_l {L : List HI} {Q0 Q1 : (List haircut_Item) × Int × Int × Int × Int × (GM Int Int) × (GM ByteArray Int) → Prop} (hl : L.length ≤ 100) : ∀ (n i : Nat) (t : limit_Table) (out : List HI) (r : lombardref16_Table) (m : Nat), n + i = L.length → Fi out (L.drop i) → Al r t m → m + n ≤ 500 → out.length + n ≤ 500 →
    (∀ t' out', fillF (t, out) (L.drop i) = (t', out') → Q0 (out', t'.need, t'.issuer, t'.asset, t'.sum, t'.issuers, t'.assets) ∧ Q1 (out', t'.need, t'.issuer, t'.asset, t'.sum, t'.issuers, t'.assets)) →
    alloc_filler_fill_L0 L Q0 Q1 (i : Int) t.need t.issuer t.asset t.sum t.issuers t.assets out := by
  intro n
  induction n with
  | zero =>
    intro i t out r m h hf ha hm ho q
    refine alloc_filler_fill_l0 ?_
    unfold alloc_filler_fill_w0
    rw [lenM_eq]
    rw [List.drop_of_length_le (by omega)] at q
    exact Br.neg (by omega) (Lf.i (q t out rfl).1)
  | succ n ih =>
    intro i t out r m h hf ha hm ho q
    have hs : i < L.length := by omega
    refine alloc_filler_fill_l0 ?_
    unfold alloc_filler_fill_w0
    rw [lenM_eq]
    rw [List.drop_eq_getElem_cons hs] at q hf
    have g : L[(i : Int).toNat]? = some L[i] := by simp [hs]
    refine Br.pos (by omega) ⟨L[i], Got.i ⟨openT t, TOpen_r ha.tok, Br.i (fun c => Lf.i ?_) (fun c => ⟨_, FOf_r (t := t) (out := out) (by omega), ?_⟩)⟩ (by omega) g⟩
    · refine (q t out ?_).2
      simp only [fillF]; rw [if_pos c]
    · simp only [fillF] at q
      rw [if_neg c] at q
      obtain ⟨w1, w2, w3, w4, w5⟩ := was_or hf
      obtain ⟨s1, s2, s3, s4, s5, s6⟩ := step_out hf ha.tok
      have sal := step_al hf ha (by omega)
      have ix := hf.it L[i] (List.mem_cons_self ..)
      have hsum := ha.s0
      have hroom := room_le (a := L[i].Asset) ha.tok
      have nx : Num .i64 ((i : Int) + 1) (alloc_filler_fill_L0 L Q0 Q1 ((i : Int) + 1) (stepF (t, out) L[i]).1.need (stepF (t, out) L[i]).1.issuer (stepF (t, out) L[i]).1.asset (stepF (t, out) L[i]).1.sum (stepF (t, out) L[i]).1.issuers (stepF (t, out) L[i]).1.assets (stepF (t, out) L[i]).2) :=
        Num.n (by omega) (ih (i + 1) _ _ _ (m + 1) (by omega) s1 sal (by omega) (by omega) q)
      have cn := covC_ok (toR (setQ L[i] (qF t L[i] (wasF out L[i]).Lot.Qty (covH (wasF out L[i])))))
      have J : alloc_filler_fill_j4 (atH L[i].Lot.ISIN out, ⟨t, out⟩) L (i : Int) L[i] (alloc_filler_fill_L0 L Q0 Q1) Q0 Q1 ((wasF out L[i]).Lot.Qty, covH (wasF out L[i])) := by
        unfold alloc_filler_fill_j4
        refine Jn.i ⟨_, Total_r ha.tok hsum.1 ix w2 w3 ⟨s5, s6⟩, _, HCover_r (setQ L[i] (qF t L[i] (wasF out L[i]).Lot.Qty (covH (wasF out L[i])))), Num.n ?_ ?_⟩
        · have : covH (setQ L[i] (qF t L[i] (wasF out L[i]).Lot.Qty (covH (wasF out L[i])))) = covC (toR (setQ L[i] (qF t L[i] (wasF out L[i]).Lot.Qty (covH (wasF out L[i]))))) := rfl
          omega
        · show Br (decide (nF t out L[i] ≤ 0)) _ _
          unfold stepF at nx
          dsimp only at nx
          refine Br.i (fun c2 => ?_) (fun c2 => ?_)
          · rw [if_pos c2] at nx; exact nx
          · rw [if_neg c2] at nx
            refine ⟨(0, putT t L[i].Asset (nF t out L[i])), TAdd_ok ha.tok (show 0 ≤ nF t out L[i] by omega) s3, Br.neg (fun h => h rfl) ?_⟩
            dsimp only at nx ⊢
            refine Br.i (fun c3 => ?_) (fun c3 => ?_)
            · rw [if_pos c3] at nx
              rcases w5 with ⟨e1, _⟩ | ⟨A, B, e1, e2, e3, e4⟩
              · omega
              · have hlt : (atH L[i].Lot.ISIN out).toNat < out.length := by rw [e3, Int.toNat_natCast, e1]; simp
                have gw : out[(atH L[i].Lot.ISIN out).toNat]? = some (wasF out L[i]) := by
                  rw [e3, Int.toNat_natCast]
                  have : (A ++ wasF out L[i] :: B)[A.length]? = some (wasF out L[i]) := by simp
                  rw [← e1] at this; exact this
                refine InL.i ⟨wasF out L[i], EltS.i ?_ gw⟩ c3 (by simpa using hlt)
                have e5 := e4 (qF t L[i] (wasF out L[i]).Lot.Qty (covH (wasF out L[i])))
                show Num .i64 ((i : Int) + 1) (alloc_filler_fill_L0 L Q0 Q1 ((i : Int) + 1) _ _ _ _ _ _ (out.set (atH L[i].Lot.ISIN out).toNat (setQ (wasF out L[i]) (qF t L[i] (wasF out L[i]).Lot.Qty (covH (wasF out L[i]))))))
                rw [e5]; exact nx
            · rw [if_neg c3] at nx
              exact App2.i (app96 (by simp; omega)) nx
      rcases w5 with ⟨e1, e2, e3⟩ | ⟨A, B, e1, e2, e3, e4⟩
      · rw [e2] at J
        have e3' : covH (setQ L[i] 0) = 0 := by rw [← e2]; exact e3
        rw [e3'] at J
        exact Br.neg (by dsimp only; omega) J
      · have hlt : (atH L[i].Lot.ISIN out).toNat < out.length := by rw [e3, Int.toNat_natCast, e1]; simp
        have gw : out[(atH L[i].Lot.ISIN out).toNat]? = some (wasF out L[i]) := by
          rw [e3, Int.toNat_natCast]
          have : (A ++ wasF out L[i] :: B)[A.length]? = some (wasF out L[i]) := by simp
          rw [← e1] at this; exact this
        have c3 : 0 ≤ atH L[i].Lot.ISIN out := by omega
        exact Br.pos (by dsimp only; omega) (InL.i ⟨wasF out L[i], EltG.i (InL.i (EltG.i ⟨_, HCover_r _, J⟩ gw) c3 (by simpa using hlt)) gw⟩ c3 (by simpa using hlt))
def fillR : limit_Table × List HI → lombardref16_Table → List HI → lombardref16_Table
  | _, r, [] => r
  | s, r, x :: l => if openT s.1 = 0 then r else fillR (stepF s x) (stepR s.1 s.2 r x) l
theorem rfill_l {L : List HI} {Q : (List lombardref15_Item) × Int × Int × Int × (List lombardref16_Part) → Prop} (hl : L.length ≤ 100) : ∀ (n i : Nat) (t : limit_Table) (out : List HI) (r : lombardref16_Table) (m : Nat), n + i = L.length → Fi out (L.drop i) → Al r t m → m + n ≤ 500 → out.length + n ≤ 500 →
    Q ((fillF (t, out) (L.drop i)).2.map toR, (fillR (t, out) r (L.drop i)).Need, (fillR (t, out) r (L.drop i)).Issuer, (fillR (t, out) r (L.drop i)).Asset, (fillR (t, out) r (L.drop i)).L) →
    lombardref18_Filled_L0 (L.map toR) Q (i : Int) (out.map toR) r.Need r.Issuer r.Asset r.L := by
  intro n
  induction n with
  | zero =>
    intro i t out r m h hf ha hm ho q
    refine lombardref18_Filled_l0 ?_
    unfold lombardref18_Filled_w0
    rw [lenM_eq, List.length_map]
    rw [List.drop_of_length_le (by omega)] at q
    exact Br.neg (by omega) (Lf.i q)
  | succ n ih =>
    intro i t out r m h hf ha hm ho q
    have hs : i < L.length := by omega
    refine lombardref18_Filled_l0 ?_
    unfold lombardref18_Filled_w0
    rw [lenM_eq, List.length_map]
    rw [List.drop_eq_getElem_cons hs] at q hf
    have g : (L.map toR)[(i : Int).toNat]? = some (toR L[i]) := by simp [hs]
    have o0 : 0 ≤ openT t := by unfold openT; omega
    have hneed := ha.tok.need
    have hsum := ha.s0
    have o1 : openT t ≤ 1125899906842624 := by unfold openT; omega
    refine Br.pos (by omega) ⟨openT t, ROpen_r ha (by omega), Br.i (fun c => ⟨toR L[i], Got.i ⟨_, RAt_r (by omega), ?_⟩ (by omega) g⟩) (fun c => Lf.i ?_)⟩
    case refine_2 =>
      simp only [fillF, fillR] at q
      rw [if_pos (by omega), if_pos (by omega)] at q
      exact q
    simp only [fillF, fillR] at q
    rw [if_neg (by omega), if_neg (by omega)] at q
    obtain ⟨w1, w2, w3, w4, w5⟩ := was_or hf
    obtain ⟨s1, s2, s3, s4, s5, s6⟩ := step_out hf ha.tok
    have sal := step_al hf ha (by omega)
    have ix := hf.it L[i] (List.mem_cons_self ..)
    have px := ix.pos
    have hroom := room_le (a := L[i].Asset) ha.tok
    have nx : Num .i64 ((i : Int) + 1) (lombardref18_Filled_L0 (L.map toR) Q ((i : Int) + 1) ((stepF (t, out) L[i]).2.map toR) (stepR t out r L[i]).Need (stepR t out r L[i]).Issuer (stepR t out r L[i]).Asset (stepR t out r L[i]).L) :=
      Num.n (by omega) (ih (i + 1) _ _ _ (m + 1) (by omega) s1 sal (by omega) (by omega) q)
    have cn := covC_ok (toR (setQ L[i] (qF t L[i] (wasF out L[i]).Lot.Qty (covH (wasF out L[i])))))
    have wC := RHCovers_r (wasF out L[i])
    have nC := RHCovers_r (setQ L[i] (qF t L[i] (wasF out L[i]).Lot.Qty (covH (wasF out L[i]))))
    have J8 : lombardref18_Filled_j8 (out.map toR) (L.map toR) (i : Int) (atH L[i].Lot.ISIN out) r.Need r.Issuer r.Asset r.L (toR L[i]) ((wasF out L[i]).Lot.ISIN, (wasF out L[i]).Lot.Qty, (wasF out L[i]).Asset.ISIN, (wasF out L[i]).Asset.Issuer, (wasF out L[i]).Asset.Rating, (wasF out L[i]).Asset.Maturity, (wasF out L[i]).Asset.Currency, (wasF out L[i]).Price, (wasF out L[i]).Cut) (lombardref18_Filled_L0 (L.map toR) Q) Q (qF t L[i] (wasF out L[i]).Lot.Qty (covH (wasF out L[i]))) := by
      unfold lombardref18_Filled_j8
      refine Jn.i ⟨_, nC, _, wC, ?_⟩
      unfold stepF stepR at nx
      dsimp only at nx
      refine Br.i (fun c2 => ?_) (fun c2 => ⟨_, nC, _, wC, Num.n ?_ ⟨(withR r L[i].Asset (nF t out L[i]), 0), RAdd_r ha (by omega) (show 0 ≤ nF t out L[i] by unfold nF; omega) s3, ?_⟩⟩)
      · rw [if_pos (show nF t out L[i] ≤ 0 by unfold nF; omega), if_pos (show nF t out L[i] ≤ 0 by unfold nF; omega)] at nx; exact nx
      · have : covH (setQ L[i] (qF t L[i] (wasF out L[i]).Lot.Qty (covH (wasF out L[i])))) = covC (toR (setQ L[i] (qF t L[i] (wasF out L[i]).Lot.Qty (covH (wasF out L[i]))))) := rfl
        omega
      · rw [if_neg (show ¬ nF t out L[i] ≤ 0 by unfold nF; omega), if_neg (show ¬ nF t out L[i] ≤ 0 by unfold nF; omega)] at nx
        dsimp only at nx ⊢
        refine ApZ.i (app96 (by simp; omega)) (Br.i (fun c3 => ?_) (fun c3 => ?_))
        · have c3 : 0 ≤ atH L[i].Lot.ISIN out := c3
          rw [if_pos c3, List.map_set] at nx
          rcases w5 with ⟨e1, _⟩ | ⟨A, B, e1, e2, e3, e4⟩
          · omega
          · have hlt : (atH L[i].Lot.ISIN out).toNat < out.length := by rw [e3, Int.toNat_natCast, e1]; simp
            have gw : (out.map toR)[(atH L[i].Lot.ISIN out).toNat]? = some (toR (wasF out L[i])) := by
              rw [e3, Int.toNat_natCast, List.getElem?_map]
              have : (A ++ wasF out L[i] :: B)[A.length]? = some (wasF out L[i]) := by simp
              rw [← e1] at this; rw [this]; rfl
            exact InL.i ⟨toR (wasF out L[i]), EltS.i nx gw⟩ c3 (by simpa using hlt)
        · have c3 : ¬ 0 ≤ atH L[i].Lot.ISIN out := c3
          rw [if_neg c3, List.map_append] at nx
          exact App2.i (app96 (by simp; omega)) nx
    have hb := q0_bd (t := t) (cover := covH (wasF out L[i])) ix w2 w3
    have hcv := cv_bd ix.good hb
    have J7 : lombardref18_Filled_j7 (out.map toR) (L.map toR) (i : Int) (atH L[i].Lot.ISIN out) r.Need r.Issuer r.Asset r.L (toR L[i]) ((wasF out L[i]).Lot.ISIN, (wasF out L[i]).Lot.Qty, (wasF out L[i]).Asset.ISIN, (wasF out L[i]).Asset.Issuer, (wasF out L[i]).Asset.Rating, (wasF out L[i]).Asset.Maturity, (wasF out L[i]).Asset.Currency, (wasF out L[i]).Price, (wasF out L[i]).Cut) (lombardref18_Filled_L0 (L.map toR) Q) Q (q0F t L[i] (wasF out L[i]).Lot.Qty (covH (wasF out L[i]))) := by
      unfold lombardref18_Filled_j7
      have rR := RRoom_r (a := L[i].Asset) ha (by omega)
      refine Jn.i ⟨_, RCover_r, _, wC, ?_⟩
      rw [show coverS (q0F t L[i] (wasF out L[i]).Lot.Qty (covH (wasF out L[i]))) (toR L[i]).Price (toR L[i]).Cut = _ from cover_val ix.good hb]
      have hD : -9223372036854775808 ≤ cv (q0F t L[i] (wasF out L[i]).Lot.Qty (covH (wasF out L[i]))) L[i].Price L[i].Cut - covH (wasF out L[i]) ∧ cv (q0F t L[i] (wasF out L[i]).Lot.Qty (covH (wasF out L[i]))) L[i].Price L[i].Cut - covH (wasF out L[i]) ≤ 9223372036854775807 := by omega
      refine Num.n hD ⟨_, rR, Br.i (fun c2 => ⟨_, rR, _, wC, Num.n (by omega) ⟨_, RMost_r (by omega), ?_⟩⟩) (fun c2 => ?_)⟩
      · have c2 : cv (q0F t L[i] (wasF out L[i]).Lot.Qty (covH (wasF out L[i]))) L[i].Price L[i].Cut - covH (wasF out L[i]) > room t L[i].Asset := c2
        have : qF t L[i] (wasF out L[i]).Lot.Qty (covH (wasF out L[i])) = mostS (room t L[i].Asset + covH (wasF out L[i])) L[i].Price L[i].Cut (q0F t L[i] (wasF out L[i]).Lot.Qty (covH (wasF out L[i]))) := by unfold qF q1F; rw [if_pos c2]
        rw [this] at J8; exact J8
      · have c2 : ¬ cv (q0F t L[i] (wasF out L[i]).Lot.Qty (covH (wasF out L[i]))) L[i].Price L[i].Cut - covH (wasF out L[i]) > room t L[i].Asset := c2
        have : qF t L[i] (wasF out L[i]).Lot.Qty (covH (wasF out L[i])) = q0F t L[i] (wasF out L[i]).Lot.Qty (covH (wasF out L[i])) := by unfold qF q1F; rw [if_neg c2]
        rw [this] at J8; exact J8
    have J6 : lombardref18_Filled_j6 (out.map toR) (L.map toR) (i : Int) (atH L[i].Lot.ISIN out) r.Need r.Issuer r.Asset r.L (toR L[i]) (lombardref18_Filled_L0 (L.map toR) Q) Q ((wasF out L[i]).Lot.ISIN, (wasF out L[i]).Lot.Qty, (wasF out L[i]).Asset.ISIN, (wasF out L[i]).Asset.Issuer, (wasF out L[i]).Asset.Rating, (wasF out L[i]).Asset.Maturity, (wasF out L[i]).Asset.Currency, (wasF out L[i]).Price, (wasF out L[i]).Cut) := by
      unfold lombardref18_Filled_j6
      dsimp only
      have hQ : -9223372036854775808 ≤ (wasF out L[i]).Lot.Qty + L[i].Lot.Qty ∧ (wasF out L[i]).Lot.Qty + L[i].Lot.Qty ≤ 9223372036854775807 := by omega
      refine Jn.i (Num.n hQ ⟨openT t, ROpen_r ha (by omega), _, wC, Num.n (by omega) ⟨_, RLeast_r (by omega), ?_⟩⟩)
      refine Br.b (fun c2 => Br.i (fun c3 => ?_) (fun c3 => ?_)) (fun c2 => ?_)
      · have c2 : (leastS (openT t + covH (wasF out L[i])) L[i].Price L[i].Cut).2 = true := c2
        have c3 : (leastS (openT t + covH (wasF out L[i])) L[i].Price L[i].Cut).1 < (wasF out L[i]).Lot.Qty + L[i].Lot.Qty := c3
        have : q0F t L[i] (wasF out L[i]).Lot.Qty (covH (wasF out L[i])) = (leastS (openT t + covH (wasF out L[i])) L[i].Price L[i].Cut).1 := by unfold q0F; rw [if_pos ⟨c2, by omega⟩]
        rw [this] at J7; exact J7
      · have c2 : (leastS (openT t + covH (wasF out L[i])) L[i].Price L[i].Cut).2 = true := c2
        have c3 : ¬ (leastS (openT t + covH (wasF out L[i])) L[i].Price L[i].Cut).1 < (wasF out L[i]).Lot.Qty + L[i].Lot.Qty := c3
        have : q0F t L[i] (wasF out L[i]).Lot.Qty (covH (wasF out L[i])) = (wasF out L[i]).Lot.Qty + L[i].Lot.Qty := by unfold q0F; split <;> omega
        rw [this] at J7; exact J7
      · have c2 : (leastS (openT t + covH (wasF out L[i])) L[i].Price L[i].Cut).2 = false := c2
        have : q0F t L[i] (wasF out L[i]).Lot.Qty (covH (wasF out L[i])) = (wasF out L[i]).Lot.Qty + L[i].Lot.Qty := by unfold q0F; rw [c2]; simp
        rw [this] at J7; exact J7
    rcases w5 with ⟨e1, e2, e3⟩ | ⟨A, B, e1, e2, e3, e4⟩
    · rw [e2] at J6
      exact Br.neg (by show ¬ atH L[i].Lot.ISIN out ≥ 0; omega) J6
    · have hlt : (atH L[i].Lot.ISIN out).toNat < out.length := by rw [e3, Int.toNat_natCast, e1]; simp
      have gw : (out.map toR)[(atH L[i].Lot.ISIN out).toNat]? = some (toR (wasF out L[i])) := by
        rw [e3, Int.toNat_natCast, List.getElem?_map]
        have : (A ++ wasF out L[i] :: B)[A.length]? = some (wasF out L[i]) := by simp
        rw [← e1] at this; rw [this]; rfl
      have c3 : 0 ≤ atH L[i].Lot.ISIN out := by omega
      exact Br.pos c3 ⟨toR (wasF out L[i]), Got.i J6 c3 gw⟩
end Go.Proofs.Ytgncepjnbdhmkaa.Pure
namespace Go.Proofs.Ytgncepjnbdhmkaa.Pure
open Go Go.Ab Go.Stable Go.Proofs.Ytgncepjnbdhmkaa.R
set_option linter.unusedVariables false
theorem mg_perm {α : Type} {le : α → α → Bool} : ∀ U V : List α, (mg le U V).Perm (U ++ V)
  | [], V => by simp [mg]
  | u :: U, [] => by simp [mg]
  | u :: U, v :: V => by
    rw [mg]
    split
    · exact (mg_perm U (v :: V)).cons u
    · exact ((mg_perm (u :: U) V).cons v).trans (List.perm_middle (l₁ := u :: U) (a := v) (l₂ := V)).symm
theorem isort_perm' : ∀ (L R : List E), (L.foldl (insS leE) R).Perm (R ++ L)
  | [], R => by simp
  | x :: L, R => by
    rw [List.foldl_cons]
    refine (isort_perm' L _).trans ?_
    have := (mg_perm (le := leE) R [x]).append_right L
    rw [List.append_assoc] at this
    exact this
theorem isort_perm (L : List E) : (isort leE L).Perm L := by
  have := isort_perm' L []
  simpa [isort] using this
theorem isort_len' (L : List E) : (isort leE L).length = L.length := (isort_perm L).length_eq
theorem Fi_new {l : List RI} (h : wrongS l = 0) : Fi [] (isort leE (l.map toH)) ∧ l.length ≤ 64 := by
  unfold wrongS at h
  split at h
  · cases h
  · rename_i hl
    obtain ⟨w1, w2⟩ := wrong_it l [] h
    refine ⟨⟨fun x hx => ?_, ?_, by simp, by simp⟩, by omega⟩
    · have := (isort_perm _).mem_iff.1 hx
      obtain ⟨y, hy, rfl⟩ := List.mem_map.1 this
      exact (w1 y hy).1
    · refine ((isort_perm (l.map toH)).pairwise_iff (fun h e => h e.symm)).2 ?_
      exact List.Pairwise.map _ (fun a b hab => hab) w2
theorem fillR_al : ∀ (L : List HI) (t : limit_Table) (out : List HI) (r : lombardref16_Table) (m : Nat), Fi out L → Al r t m → m + L.length ≤ 500 → ∃ m', Al (fillR (t, out) r L) (fillF (t, out) L).1 m' ∧ m' ≤ 500 ∧ (fillF (t, out) L).2.length ≤ out.length + L.length ∧ Fi (fillF (t, out) L).2 []
  | [], t, out, r, m, hf, ha, hm => ⟨m, ha, by simpa using hm, by simp [fillF], by simpa [fillF] using hf⟩
  | x :: L, t, out, r, m, hf, ha, hm => by
    simp only [List.length_cons] at hm
    simp only [fillF, fillR]
    by_cases c : openT t = 0
    · rw [if_pos c, if_pos c]; exact ⟨m, ha, by omega, by simp, ⟨by simp, List.Pairwise.nil, hf.was, by simp⟩⟩
    · rw [if_neg c, if_neg c]
      obtain ⟨s1, s2, _⟩ := step_out hf ha.tok
      obtain ⟨m', a, b, d, e⟩ := fillR_al L _ _ _ (m + 1) s1 (step_al hf ha (by omega)) (by omega)
      have d : (fillF (stepF (t, out) x) L).2.length ≤ (stepF (t, out) x).2.length + L.length := d
      exact ⟨m', a, b, by simp only [List.length_cons]; omega, e⟩
theorem FFill_r {l : List RI} {t : limit_Table} {out : List HI} {r : lombardref16_Table} {m : Nat} (hl : l.length ≤ 64) (hf : Fi out (isort leE (l.map toH))) (ha : Al r t m) (hm : m ≤ 100) (ho : out.length ≤ 100) :
    alloc_filler_fill_r ⟨t, out⟩ (l.map toH) ⟨(fillF (t, out) (isort leE (l.map toH))).1, (fillF (t, out) (isort leE (l.map toH))).2⟩ := by
  have e : (isort leE (l.map toH)).length = l.length := by rw [isort_len']; simp
  refine alloc_filler_fill_of ?_
  unfold alloc_filler_fill_w
  refine ⟨_, Rank_r (by simp; omega), fill_l (by omega) (isort leE (l.map toH)).length 0 t out r m (by omega) (by simpa using hf) ha (by omega) (by omega) (fun t' out' h => ?_)⟩
  rw [List.drop_zero] at h
  exact ⟨Rt.i (by rw [h]), Rt.i (by rw [h])⟩
theorem RFilled_r {l : List RI} {t : limit_Table} {out : List HI} {r : lombardref16_Table} {m : Nat} (hl : l.length ≤ 64) (hf : Fi out (isort leE (l.map toH))) (ha : Al r t m) (hm : m ≤ 100) (ho : out.length ≤ 100) :
    lombardref18_Filled_r r (out.map toR) l (fillR (t, out) r (isort leE (l.map toH)), (fillF (t, out) (isort leE (l.map toH))).2.map toR) := by
  have e : (isort leE (l.map toH)).length = l.length := by rw [isort_len']; simp
  refine lombardref18_Filled_of ?_
  unfold lombardref18_Filled_w
  exact ⟨_, RRank_r (by omega), rfill_l (by omega) (isort leE (l.map toH)).length 0 t out r m (by omega) (by simpa using hf) ha (by omega) (by omega) (Rt.i (by rw [List.drop_zero]))⟩

/-! The plan. -/
def planS (t : limit_Table) (out : List HI) : alloc_Plan × Int :=
  if (mergeG [] (out.map (·.Lot))).2 ≠ 0 then (⟨[], 0, 0⟩, (mergeG [] (out.map (·.Lot))).2) else (⟨(mergeG [] (out.map (·.Lot))).1, t.sum, openT t⟩, 0)
def toP (p : alloc_Plan) : lombardref18_Plan := ⟨p.Lots, p.Cover, p.Short⟩
theorem Plan_r {t : limit_Table} {out : List HI} (ht : Tok t) (ho : out.length ≤ 1000) : alloc_filler_plan_r ⟨t, out⟩ (planS t out) := by
  refine alloc_filler_plan_of ?_
  unfold alloc_filler_plan_w planS
  refine ⟨_, LOf_r (by show out.length ≤ _; omega), Br.i (fun c => Rt.i (by rw [if_pos c])) (fun c => ⟨_, TSum_r, _, TOpen_r ht, Rt.i (by rw [if_neg c])⟩)⟩
theorem RPlan_r {r : lombardref16_Table} {t : limit_Table} {out : List HI} {m : Nat} (ha : Al r t m) (hm : m ≤ 1000) (ho : out.length ≤ 1000) : lombardref18_plan_r r (out.map toR) (toP (planS t out).1, (planS t out).2) := by
  have hl := ha.len
  refine lombardref18_plan_of ?_
  unfold lombardref18_plan_w planS
  have s := RSum_r ha.bd (by omega)
  rw [ha.s] at s
  have o := ROf_r (a := out.map toR) (by simp; omega)
  rw [List.map_map, show ((fun x : RI => x.Lot) ∘ toR) = (fun x : HI => x.Lot) from rfl] at o
  refine ⟨_, o, Br.i (fun c => Rt.i (by rw [if_pos c]; rfl)) (fun c => ⟨_, s, _, ROpen_r ha (by omega), Rt.i (by rw [if_neg c]; rfl)⟩)⟩
instance (b : api_Basket) (need : Int) : Decidable (newOk b need) := by unfold newOk; exact instDecidableAnd
def fillS (b : api_Basket) (l : List RI) (need : Int) : alloc_Plan × Int :=
  if ¬ newOk b need then (⟨[], 0, 0⟩, 1) else if wrongS l ≠ 0 then (⟨[], 0, 0⟩, wrongS l) else planS (fillF (newT b need, []) (isort leE (l.map toH))).1 (fillF (newT b need, []) (isort leE (l.map toH))).2
theorem Fill_r {b : api_Basket} {l : List RI} {need : Int} : alloc_Fill_r b (l.map toH) need (fillS b l need) := by
  refine alloc_Fill_of ?_
  unfold alloc_Fill_w fillS
  by_cases h : newOk b need
  · rw [if_neg (fun k => k h)]
    refine .inr ⟨_, New_r1 h, Br.neg (fun k => k rfl) ⟨_, Check_r, Br.i (fun c => Rt.i (by rw [if_pos c])) (fun c => ?_)⟩⟩
    have c := Decidable.not_not.1 c
    obtain ⟨f1, f2⟩ := Fi_new c
    obtain ⟨m', a1, a2, a3, a4⟩ := fillR_al _ _ [] _ 0 f1 (Al_new h) (by rw [isort_len']; simp; omega)
    refine ⟨_, FFill_r f2 f1 (Al_new h) (by omega) (by simp), _, Plan_r a1.tok ?_, Rt.i (by rw [if_neg (fun k => k c)])⟩
    rw [isort_len'] at a3; simp at a3
    show (fillF (newT b need, []) (isort leE (l.map toH))).2.length ≤ 1000
    omega
  · rw [if_pos h]
    exact .inl ⟨_, New_r0 h, Br.pos (by decide) (Rt.i rfl)⟩
/-! The same plan; the chapter's example. -/
theorem lots_l {a : List api_Lot} {Q0 Q1 : Unit → Prop} (hl : a.length ≤ 1000000) (q : Q1 ()) : ∀ (n i : Nat), n + i = a.length → lombardref10_Lots_L0 a a Q0 Q1 (i : Int) := by
  intro n
  induction n with
  | zero =>
    intro i h
    refine lombardref10_Lots_l0 ?_
    unfold lombardref10_Lots_w0
    rw [lenM_eq]
    exact Br.neg (by omega) (Lf.i q)
  | succ n ih =>
    intro i h
    have hs : i < a.length := by omega
    refine lombardref10_Lots_l0 ?_
    unfold lombardref10_Lots_w0
    rw [lenM_eq]
    have g : a[(i : Int).toNat]? = some a[i] := by simp [hs]
    exact Br.pos (by omega) ⟨a[i], Got.i ⟨a[i], Got.i (Br.f (by simp [strEq_true]) (Num.n (by omega) (ih (i + 1) (by omega)))) (by omega) g⟩ (by omega) g⟩
theorem Lots_r {a : List api_Lot} (hl : a.length ≤ 1000000) : lombardref10_Lots_r a a true := by
  refine lombardref10_Lots_of ?_
  unfold lombardref10_Lots_w
  rw [lenM_eq]
  exact Br.f (by simp) (lots_l hl (Rt.i rfl) a.length 0 (by omega))
theorem Same_r {p : alloc_Plan} (hl : p.Lots.length ≤ 1000000) : lombardlaw18_same_r p (toP p) true := by
  refine lombardlaw18_same_of ?_
  unfold lombardlaw18_same_w
  exact ⟨_, Lots_r hl, Br.t rfl (Br.t (by simp [toP]) (Rt.i (by simp [toP])))⟩
theorem setG_len (s : ByteArray) (q : Int) : ∀ (l : List api_Lot), (setG s q true l).length ≤ l.length ∧ (setG s q false l).length ≤ l.length + 1
  | [] => by simp [setG]
  | y :: l => by
    obtain ⟨h1, h2⟩ := setG_len s q l
    simp only [setG]
    have e : (if y.ISIN = s then ([] : List api_Lot) else [y]).length ≤ 1 := by split <;> simp
    refine ⟨by simp only [List.length_append, List.length_cons]; omega, ?_⟩
    split
    · simp only [List.length_append, List.length_cons]; omega
    · simp only [List.length_append, List.length_cons]; omega
theorem mergeG_len : ∀ (l out : List api_Lot), (mergeG out l).1.length ≤ out.length + l.length
  | [], out => by simp [mergeG]
  | x :: l, out => by
    simp only [mergeG]
    split
    · simp
    · split
      · simp
      · have h := mergeG_len l (addG out x).1
        have : (addG out x).1.length ≤ out.length + 1 := by
          unfold addG
          split
          · simp
          · split
            · simp
            · exact (setG_len _ _ out).2
        simp only [List.length_cons]; omega
theorem fillS_len (b : api_Basket) (l : List RI) (need : Int) : (fillS b l need).1.Lots.length ≤ 1000 := by
  unfold fillS
  split
  · simp
  · rename_i h
    have h := Decidable.not_not.1 h
    split
    · simp
    · rename_i c
      have c := Decidable.not_not.1 c
      obtain ⟨f1, f2⟩ := Fi_new c
      obtain ⟨m', a1, a2, a3, a4⟩ := fillR_al _ _ [] _ 0 f1 (Al_new h) (by rw [isort_len']; simp; omega)
      rw [isort_len'] at a3; simp at a3
      unfold planS
      split
      · simp
      · have := mergeG_len ((fillF (newT b need, []) (isort leE (l.map toH))).2.map (·.Lot)) []
        simp at this; simp; omega
def parS (s : ByteArray) (i q : Int) : RI := ⟨⟨s, q⟩, ⟨s, i, 0, 0, ByteArray.empty⟩, 1000000, 0⟩
theorem Par_r (s : ByteArray) (i q : Int) : lombardlaw18_par_r s i q (parS s i q) := by
  refine lombardlaw18_par_of ?_
  unfold lombardlaw18_par_w
  exact Rt.i rfl
theorem awake_r : lombardlaw18_awake_r true := by
  refine lombardlaw18_awake_of ?_
  unfold lombardlaw18_awake_w
  refine ⟨_, Par_r _ _ _, _, Par_r _ _ _, _, items_r (by decide), _, Fill_r, ?_⟩
  have e : fillS (⟨0, 0, ByteArray.empty, 0, 0, 0, [], 500000, 1000000, []⟩ : api_Basket) [parS (⟨#[65]⟩ : ByteArray) 1 80, parS (⟨#[66]⟩ : ByteArray) 2 80] 100 = ((⟨[(⟨(⟨#[65]⟩ : ByteArray), 50⟩ : api_Lot), (⟨(⟨#[66]⟩ : ByteArray), 50⟩ : api_Lot)], 100, 0⟩ : alloc_Plan), 0) := by
    kernel_rfl
  rw [e]
  exact Br.t rfl ⟨_, Same_r (p := ⟨[⟨⟨#[65]⟩, 50⟩, ⟨⟨#[66]⟩, 50⟩], 100, 0⟩) (by decide), Rt.i rfl⟩
end Go.Proofs.Ytgncepjnbdhmkaa.Pure
namespace Go.Proofs.Ytgncepjnbdhmkaa.Pure
open Go Go.Ab Go.Stable Go.Proofs.Ytgncepjnbdhmkaa.R
set_option linter.unusedVariables false
theorem RFill_r {b : api_Basket} {l : List RI} {need : Int} : lombardref18_Fill_r b l need (toP (fillS b l need).1, (fillS b l need).2) := by
  refine lombardref18_Fill_of ?_
  unfold lombardref18_Fill_w fillS
  by_cases h : newOk b need
  · rw [if_neg (fun k => k h)]
    refine ⟨_, RNew_r h, Br.neg (fun k => k rfl) ⟨_, Wrong_r, Br.i (fun c => ⟨_, Wrong_r, Rt.i (by rw [if_pos c]; rfl)⟩) (fun c => ?_)⟩⟩
    have c := Decidable.not_not.1 c
    obtain ⟨f1, f2⟩ := Fi_new c
    obtain ⟨m', a1, a2, a3, a4⟩ := fillR_al _ _ [] _ 0 f1 (Al_new h) (by rw [isort_len']; simp; omega)
    refine ⟨_, RFilled_r f2 f1 (Al_new h) (by omega) (by simp), _, RPlan_r a1 (by omega) ?_, Rt.i (by rw [if_neg (fun k => k c)])⟩
    rw [isort_len'] at a3; simp at a3; omega
  · rw [if_pos h]
    exact ⟨_, RNew_r0 h, Br.pos (by decide) (Rt.i rfl)⟩

theorem AllocFills_r (b : api_Basket) (l : List RI) (need : Int) : lombardlaw18_AllocFills_r b l need true := by
  refine lombardlaw18_AllocFills_of ?_
  unfold lombardlaw18_AllocFills_w
  rw [lenM_eq]
  refine Br.i (fun _ => ⟨_, awake_r, Rt.i rfl⟩) (fun c => ⟨_, items_r (by omega), _, Fill_r, _, RFill_r, _, Same_r (by have := fillS_len b l need; omega), Br.t rfl (Br.t (by simp) ⟨_, awake_r, Rt.i rfl⟩)⟩)
end Go.Proofs.Ytgncepjnbdhmkaa.Pure
namespace Go.Proofs.Ytgncepjnbdhmkaa.Pure
open Go Go.Ab Go.Stable Go.Proofs.Ytgncepjnbdhmkaa.R
set_option linter.unusedVariables false
def sumW (p : HI → Bool) : List HI → Int
  | [] => 0
  | y :: l => (if p y = true then covH y else 0) + sumW p l
theorem sumW_app (p : HI → Bool) : ∀ a b : List HI, sumW p (a ++ b) = sumW p a + sumW p b
  | [], b => by simp [sumW]
  | y :: a, b => by simp only [List.cons_append, sumW, sumW_app p a b]; omega
theorem sumW_perm (p : HI → Bool) {a b : List HI} (h : a.Perm b) : sumW p a = sumW p b := by
  induction h with
  | nil => rfl
  | cons x _ ih => simp only [sumW, ih]
  | swap x y l => simp only [sumW]; omega
  | trans _ _ h1 h2 => rw [h1, h2]
theorem covH_nn (y : HI) : 0 ≤ covH y := (covC_ok (toR y)).1
theorem sumW_nn (p : HI → Bool) : ∀ l : List HI, 0 ≤ sumW p l
  | [] => Int.le_refl _
  | y :: l => by
    have := covH_nn y; have := sumW_nn p l
    simp only [sumW]; split <;> omega
theorem sumW_mem {p : HI → Bool} {y : HI} : ∀ {l : List HI}, y ∈ l → p y = true → covH y ≤ sumW p l
  | z :: l, h, hp => by
    have := sumW_nn p l; have := covH_nn z
    simp only [sumW]
    rcases List.mem_cons.1 h with rfl | h
    · rw [if_pos hp]; omega
    · have := sumW_mem h hp; split <;> omega
def pT (_ : HI) : Bool := true
def pI (k : Int) (y : HI) : Bool := decide (y.Asset.Issuer = k)
def pA (k : ByteArray) (y : HI) : Bool := decide (y.Asset.ISIN = k)
/-- The table tells of the list. -/
structure Ta (t : limit_Table) (out : List HI) : Prop where
  s : t.sum = sumW pT out
  i : ∀ k, t.issuers.getD k 0 = sumW (pI k) out
  a : ∀ k, t.assets.getD k 0 = sumW (pA k) out
theorem Ta_put {t : limit_Table} {out : List HI} {x : HI} {q : Int} (h : Ta t out) : Ta (putT t x.Asset (covH (setQ x q))) (out ++ [setQ x q]) := by
  refine ⟨?_, fun k => ?_, fun k => ?_⟩
  · simp only [putT, sumW_app, sumW, h.s, pT, if_true]; omega
  · simp only [putT, getD_put, sumW_app, sumW, h.i]
    by_cases e : k = x.Asset.Issuer
    · subst e; rw [if_pos rfl, if_pos (show pI x.Asset.Issuer (setQ x q) = true from decide_eq_true rfl)]; omega
    · rw [if_neg e, if_neg (show ¬ pI k (setQ x q) = true by unfold pI; simp; exact fun h => e h.symm)]; omega
  · simp only [putT, getD_put, sumW_app, sumW, h.a]
    by_cases e : k = x.Asset.ISIN
    · subst e; rw [if_pos rfl, if_pos (show pA x.Asset.ISIN (setQ x q) = true from decide_eq_true rfl)]; omega
    · rw [if_neg e, if_neg (show ¬ pA k (setQ x q) = true by unfold pA; simp; exact fun h => e h.symm)]; omega
/-- What is taken comes from items, each once. -/
structure Dn (H out : List HI) : Prop where
  from_ : ∀ y ∈ out, ∃ x ∈ H, ∃ q, 0 < q ∧ q ≤ x.Lot.Qty ∧ y = setQ x q ∧ 0 < covH y
  apart : out.Pairwise (fun x y => x.Lot.ISIN ≠ y.Lot.ISIN)
theorem q1_le {t : limit_Table} {x : HI} {cover q : Int} (hx : It x) (ht : Tok t) (hc : 0 ≤ cover) (hq : 0 ≤ q ∧ q ≤ 1125899906842624) : q1F t x cover q ≤ q := by
  have hr := room_le (a := x.Asset) ht
  unfold q1F
  split
  · unfold mostS
    rw [if_neg (by simp [hx.good]), if_neg (by omega), if_neg (by omega), if_neg (by omega)]
    split <;> omega
  · omega
theorem q0_le {t : limit_Table} {x : HI} {qty cover : Int} : q0F t x qty cover ≤ qty + x.Lot.Qty := by
  unfold q0F; split <;> omega
theorem step_new {H out l : List HI} {t : limit_Table} {x : HI} (hf : Fi out (x :: l)) (ht : Tok t) (ha : ∀ y ∈ out, y.Lot.ISIN ≠ x.Lot.ISIN) (hT : Ta t out) (hD : Dn H out) (hx : x ∈ H) :
    Ta (stepF (t, out) x).1 (stepF (t, out) x).2 ∧ Dn H (stepF (t, out) x).2 ∧ (∀ y ∈ (stepF (t, out) x).2, y ∈ out ∨ y.Lot.ISIN = x.Lot.ISIN) ∧ (stepF (t, out) x).1.need = t.need ∧ (stepF (t, out) x).1.issuer = t.issuer ∧ (stepF (t, out) x).1.asset = t.asset := by
  have ix := hf.it x (List.mem_cons_self ..)
  have px := ix.pos; have tx := ix.top
  have at1 : atH x.Lot.ISIN out = -1 := by
    rcases atH_or x.Lot.ISIN out with ⟨h, _⟩ | ⟨A, y, B, h1, h2, _⟩
    · exact h
    · exact absurd h2 (ha y (by rw [h1]; simp))
  have ew : wasF out x = setQ x 0 := by unfold wasF; rw [if_neg (by omega)]
  have ec : covH (setQ x 0) = 0 := by rw [cov_q ix.good (by decide)]; simp [cv]
  have en : nF t out x = covH (setQ x (qF t x 0 0)) := by
    unfold nF; rw [ew, ec]; show covH (setQ x (qF t x 0 0)) - 0 = _; omega
  have q0 := q0_bd (t := t) (cover := 0) ix (Int.le_refl 0) (by omega)
  have q1 := q1_bd (t := t) (cover := 0) ix ht (Int.le_refl 0) q0
  have qle : qF t x 0 0 ≤ x.Lot.Qty := by
    have h1 := q1_le (t := t) (cover := 0) ix ht (Int.le_refl 0) q0
    have h2 := q0_le (t := t) (x := x) (qty := 0) (cover := 0)
    show q1F t x 0 (q0F t x 0 0) ≤ _; omega
  have qnn : 0 ≤ qF t x 0 0 := q1.1.1
  have es : stepF (t, out) x = if covH (setQ x (qF t x 0 0)) ≤ 0 then (t, out) else (putT t x.Asset (covH (setQ x (qF t x 0 0))), out ++ [setQ x (qF t x 0 0)]) := by
    unfold stepF
    dsimp only
    rw [en, ew, ec, if_neg (show ¬ 0 ≤ atH x.Lot.ISIN out by omega)]
    rfl
  rw [es]
  by_cases c : covH (setQ x (qF t x 0 0)) ≤ 0
  · rw [if_pos c]; exact ⟨hT, hD, fun y hy => .inl hy, rfl, rfl, rfl⟩
  · rw [if_neg c]
    have qpos : 0 < qF t x 0 0 := by
      by_cases e : qF t x 0 0 = 0
      · rw [e, ec] at c; exact absurd (Int.le_refl _) c
      · omega
    refine ⟨Ta_put hT, ⟨fun y hy => ?_, List.pairwise_append.2 ⟨hD.apart, List.pairwise_singleton _ _, fun y hy z hz => ?_⟩⟩, fun y hy => ?_, rfl, rfl, rfl⟩
    · rcases List.mem_append.1 hy with hy | hy
      · exact hD.from_ y hy
      · have hy := List.mem_singleton.1 hy
        exact ⟨x, hx, _, qpos, qle, hy, by rw [hy]; omega⟩
    · rw [List.mem_singleton.1 hz]; exact ha y hy
    · rcases List.mem_append.1 hy with hy | hy
      · exact .inl hy
      · rw [List.mem_singleton.1 hy]; exact .inr rfl
theorem fill_new {H : List HI} : ∀ (L : List HI) (t : limit_Table) (out : List HI) (r : lombardref16_Table) (m : Nat), Fi out L → Al r t m → m + L.length ≤ 500 → (∀ x ∈ L, x ∈ H ∧ ∀ y ∈ out, y.Lot.ISIN ≠ x.Lot.ISIN) → Ta t out → Dn H out →
    Ta (fillF (t, out) L).1 (fillF (t, out) L).2 ∧ Dn H (fillF (t, out) L).2 ∧ (fillF (t, out) L).1.need = t.need ∧ (fillF (t, out) L).1.issuer = t.issuer ∧ (fillF (t, out) L).1.asset = t.asset
  | [], t, out, r, m, hf, ha, hm, hx, hT, hD => ⟨hT, hD, rfl, rfl, rfl⟩
  | x :: L, t, out, r, m, hf, ha, hm, hx, hT, hD => by
    simp only [List.length_cons] at hm
    simp only [fillF]
    by_cases c : openT t = 0
    · rw [if_pos c]; exact ⟨hT, hD, rfl, rfl, rfl⟩
    · rw [if_neg c]
      obtain ⟨x1, x2⟩ := hx x (List.mem_cons_self ..)
      obtain ⟨s1, s2, _⟩ := step_out hf ha.tok
      obtain ⟨n1, n2, n3, n4, n5, n6⟩ := step_new hf ha.tok x2 hT hD x1
      have ap := (List.pairwise_cons.1 hf.apart).1
      have := fill_new L _ _ _ (m + 1) s1 (step_al hf ha (by omega)) (by omega) (fun z hz => ⟨(hx z (List.mem_cons_of_mem _ hz)).1, fun y hy e => ?_⟩) n1 n2
      · obtain ⟨a1, a2, a3, a4, a5⟩ := this
        exact ⟨a1, a2, a3.trans n4, a4.trans n5, a5.trans n6⟩
      · rcases n3 y hy with h | h
        · exact (hx z (List.mem_cons_of_mem _ hz)).2 y h e
        · exact ap z hz (by rw [← h, e])

/-! Quantities. -/
def sumQ (s : ByteArray) : List api_Lot → Int
  | [] => 0
  | y :: l => (if y.ISIN = s then y.Qty else 0) + sumQ s l
theorem qtyG_other {s s' : ByteArray} {q : Int} (hne : s' ≠ s) : ∀ (l : List api_Lot) (d : Bool), qtyG s' (setG s q d l) = qtyG s' l
  | [], true => rfl
  | [], false => by simp only [setG, qtyG]; rw [if_neg (fun e => hne e.symm)]
  | y :: l, d => by
    have ih := qtyG_other (q := q) hne l
    have e1 : ∀ r : List api_Lot, qtyG s' ((if y.ISIN = s then [] else [y]) ++ r) = if y.ISIN = s' then y.Qty else qtyG s' r := fun r => by
      by_cases c : y.ISIN = s
      · rw [if_pos c, if_neg (fun e => hne (by rw [← e, c]))]; rfl
      · rw [if_neg c]; rfl
    cases d with
    | true => simp only [setG]; rw [e1, ih true]; rfl
    | false =>
      simp only [setG]
      split
      · rw [e1, ih false]; rfl
      · show qtyG s' (⟨s, q⟩ :: _) = _
        simp only [qtyG]
        rw [if_neg (fun e => hne e.symm), e1, ih true]
theorem qtyG_add {l : List api_Lot} {x : api_Lot} (h : Lk l) (h0 : (addG l x).2 = 0) (s : ByteArray) : qtyG s (addG l x).1 = qtyG s l + (if x.ISIN = s then x.Qty else 0) := by
  obtain ⟨A, B, e, hA, hB, hc⟩ := add_cases (x := x) h
  unfold addG at h0 ⊢
  split at h0
  · cases h0
  · rename_i n1
    split at h0
    · cases h0
    · rename_i n2
      rw [if_neg n1, if_neg n2]
      by_cases c : x.ISIN = s
      · subst c
        rw [if_pos rfl]
        have : ∀ (q : Int) (R : List api_Lot), qtyG x.ISIN (A ++ ⟨x.ISIN, q⟩ :: R) = q := fun q R => by
          rw [qtyG_A hA]; simp [qtyG]
        rcases hc with ⟨_, c2, c3⟩ | ⟨y, B', _, _, _, c2, c3⟩
        · rw [c3, this]
        · rw [c3, this]
      · rw [if_neg c, Int.add_zero]
        exact qtyG_other (fun e => c e.symm) l false
theorem qtyG_merge (s : ByteArray) : ∀ (l out r : List api_Lot), Lk out → mergeG out l = (r, 0) → qtyG s r = qtyG s out + sumQ s l ∧ Lk r
  | [], out, r, ho, h => by
    simp only [mergeG, Prod.mk.injEq, and_true] at h
    subst h; exact ⟨by simp [sumQ], ho⟩
  | x :: l, out, r, ho, h => by
    simp only [mergeG] at h
    split at h
    · simp at h
    · rename_i c
      split at h
      · rename_i c2; simp only [Prod.mk.injEq] at h; exact absurd h.2 c2
      · rename_i c2
        have c2 := Decidable.not_not.1 c2
        obtain ⟨h1, h2⟩ := qtyG_merge s l _ r (add_ok ho ⟨by omega, by omega⟩ c2) h
        refine ⟨?_, h2⟩
        rw [h1, qtyG_add ho c2 s]
        simp only [sumQ]; omega
theorem sumQ_none {s : ByteArray} : ∀ {l : List api_Lot}, (∀ y ∈ l, y.ISIN ≠ s) → sumQ s l = 0
  | [], _ => rfl
  | y :: l, h => by
    simp only [sumQ]; rw [if_neg (h y (by simp)), sumQ_none fun z hz => h z (by simp [hz])]; rfl
/-- Where securities are apart: the quantity is that of the one item. -/
theorem sumQ_one {y : HI} : ∀ {l : List HI}, l.Pairwise (fun a b => a.Lot.ISIN ≠ b.Lot.ISIN) → y ∈ l → sumQ y.Lot.ISIN (l.map (·.Lot)) = y.Lot.Qty
  | z :: l, ha, hy => by
    obtain ⟨a1, a2⟩ := List.pairwise_cons.1 ha
    simp only [List.map_cons, sumQ]
    rcases List.mem_cons.1 hy with rfl | hy
    · rw [if_pos rfl, sumQ_none]
      · omega
      · intro w hw
        obtain ⟨v, hv, rfl⟩ := List.mem_map.1 hw
        exact fun e => a1 v hv e.symm
    · rw [if_neg (a1 y hy), sumQ_one a2 hy]; omega
theorem qty_mem {s : ByteArray} : ∀ {l : List api_Lot}, qtyG s l ≠ 0 → ∃ y ∈ l, y.ISIN = s ∧ qtyG s l = y.Qty
  | [], h => absurd rfl h
  | y :: l, h => by
    simp only [qtyG] at h ⊢
    by_cases c : y.ISIN = s
    · rw [if_pos c]; exact ⟨y, by simp, c, rfl⟩
    · rw [if_neg c] at h ⊢
      obtain ⟨z, hz, h1, h2⟩ := qty_mem h
      exact ⟨z, by simp [hz], h1, h2⟩
theorem qtyG_of {b : api_Lot} : ∀ {l : List api_Lot}, l.Pairwise (fun x y => sLt x.ISIN y.ISIN) → b ∈ l → qtyG b.ISIN l = b.Qty
  | y :: l, h, hb => by
    obtain ⟨h1, h2⟩ := List.pairwise_cons.1 h
    simp only [qtyG]
    rcases List.mem_cons.1 hb with rfl | hb
    · rw [if_pos rfl]
    · rw [if_neg (fun e => by have := h1 b hb; rw [e] at this; exact sLt_irrefl _ this)]
      exact qtyG_of h2 hb

/-! Lots taken away. -/
def minusG : List api_Lot → List api_Lot → List api_Lot
  | cur, [] => cur
  | cur, b :: l => minusG (setG b.ISIN (qtyG b.ISIN cur - b.Qty) (qtyG b.ISIN cur - b.Qty == 0) cur) l
theorem minus_l {a1 : List api_Lot} (hl : a1.length ≤ 100) (hs : a1.Pairwise (fun x y => sLt x.ISIN y.ISIN)) (hp : ∀ b ∈ a1, 1 ≤ b.Qty ∧ b.Qty ≤ 1125899906842624) {Q0 : Unit → Prop} {Q1 : List api_Lot → Prop} :
    ∀ (n i : Nat) (cur : List api_Lot), n + i = a1.length → Q1 (minusG cur (a1.drop i)) → cur.length ≤ 100 + i → (∀ b ∈ a1.drop i, b.Qty ≤ qtyG b.ISIN cur ∧ qtyG b.ISIN cur ≤ 1125899906842624) → lombardref17_Minus_L0 a1 Q0 Q1 cur (i : Int) := by
  intro n
  induction n with
  | zero =>
    intro i cur h q hc hq
    refine lombardref17_Minus_l0 ?_
    unfold lombardref17_Minus_w0
    rw [lenM_eq]
    rw [List.drop_of_length_le (by omega)] at q
    exact Br.neg (by omega) (Lf.i q)
  | succ n ih =>
    intro i cur h q hc hq
    have hi : i < a1.length := by omega
    refine lombardref17_Minus_l0 ?_
    unfold lombardref17_Minus_w0
    rw [lenM_eq]
    have g : a1[(i : Int).toNat]? = some a1[i] := by simp [hi]
    have z : (0 : Int) ≤ (i : Int) := by omega
    have hq0 := hq a1[i] (by rw [List.drop_eq_getElem_cons hi]; exact List.mem_cons_self ..)
    have hp0 := hp a1[i] (List.getElem_mem hi)
    refine Br.pos (by omega) ⟨a1[i], Got.i ⟨_, Qty_r (by omega), Got.i (Br.neg (by omega) (Got.i (Got.i (Num.n (by omega) ⟨_, Set_r (by omega), Num.n (by omega) ?_⟩) z g) z g)) z g⟩ z g⟩
    refine ih (i + 1) _ (by omega) (by rw [List.drop_eq_getElem_cons hi] at q; exact q) ?_ (fun b hb => ?_)
    · have := setG_len a1[i].ISIN (qtyG a1[i].ISIN cur - a1[i].Qty) cur
      cases hh : (qtyG a1[i].ISIN cur - a1[i].Qty == 0) with
      | true => have := this.1; omega
      | false => have := this.2; omega
    · have hne : b.ISIN ≠ a1[i].ISIN := fun e => by
        obtain ⟨j, hj, rfl⟩ := List.getElem_of_mem hb
        rw [List.getElem_drop] at e
        simp only [List.length_drop] at hj
        have := List.pairwise_iff_getElem.1 hs i (i + 1 + j) hi (by omega) (by omega)
        rw [e] at this; exact sLt_irrefl _ this
      rw [qtyG_other hne]
      exact hq b (by rw [List.drop_eq_getElem_cons hi]; exact List.mem_cons_of_mem _ hb)
theorem Minus_r {a b : List api_Lot} (ha : a.length ≤ 64) (hb : Lk b) (hq : ∀ x ∈ b, x.Qty ≤ qtyG x.ISIN a ∧ qtyG x.ISIN a ≤ 1125899906842624) : lombardref17_Minus_r a b (minusG a b, 0) := by
  have := hb.len
  refine lombardref17_Minus_of ?_
  unfold lombardref17_Minus_w
  exact minus_l (by omega) hb.srt hb.pos b.length 0 a (by omega) (Rt.i (by rw [List.drop_zero])) (by omega) (by simpa using hq)

/-! What is left of items; what it covers. -/
def lessG (lots : List api_Lot) : List HI → List HI
  | [] => []
  | x :: l => if 0 < qtyG x.Lot.ISIN lots then setQ x (qtyG x.Lot.ISIN lots) :: lessG lots l else lessG lots l
theorem less_l {lots : List api_Lot} {l : List HI} (h1 : lots.length ≤ 1000) (h2 : l.length ≤ 1000) {Q : List RI → Prop} : ∀ (n i : Nat) (acc : List HI), n + i = l.length → acc.length ≤ i → Q ((acc ++ lessG lots (l.drop i)).map toR) → lombardref18_Less_L0 (l.map toR) lots Q (i : Int) (acc.map toR) := by
  intro n
  induction n with
  | zero =>
    intro i acc h ha q
    refine lombardref18_Less_l0 ?_
    unfold lombardref18_Less_w0
    rw [lenM_eq, List.length_map]
    rw [List.drop_of_length_le (by omega)] at q
    exact Br.neg (by omega) (Lf.i (by simpa [lessG] using q))
  | succ n ih =>
    intro i acc h ha q
    have hi : i < l.length := by omega
    refine lombardref18_Less_l0 ?_
    unfold lombardref18_Less_w0
    rw [lenM_eq, List.length_map]
    rw [List.drop_eq_getElem_cons hi] at q
    have g : (l.map toR)[(i : Int).toNat]? = some (toR l[i]) := by simp [hi]
    simp only [lessG] at q
    refine Br.pos (by omega) ⟨toR l[i], Got.i ⟨_, Qty_r (by omega), Br.i (fun c => App2.i (app96 (by simp; omega)) (Num.n (by omega) ?_)) (fun c => Num.n (by omega) ?_)⟩ (by omega) g⟩
    · have c : 0 < qtyG l[i].Lot.ISIN lots := c
      rw [if_pos c] at q
      have := ih (i + 1) (acc ++ [setQ l[i] (qtyG l[i].Lot.ISIN lots)]) (by omega) (by simp; omega) (by rw [List.append_assoc]; exact q)
      rw [List.map_append] at this
      exact this
    · have c : ¬ 0 < qtyG l[i].Lot.ISIN lots := c
      rw [if_neg c] at q
      exact ih (i + 1) acc (by omega) (by omega) q
theorem Less_r {lots : List api_Lot} {l : List HI} (h1 : lots.length ≤ 1000) (h2 : l.length ≤ 1000) : lombardref18_Less_r (l.map toR) lots ((lessG lots l).map toR) := by
  refine lombardref18_Less_of ?_
  unfold lombardref18_Less_w
  exact less_l h1 h2 l.length 0 [] (by omega) (by simp) (Rt.i (by simp))
theorem mem_less {lots : List api_Lot} {y : HI} : ∀ {l : List HI}, y ∈ lessG lots l ↔ ∃ x ∈ l, 0 < qtyG x.Lot.ISIN lots ∧ y = setQ x (qtyG x.Lot.ISIN lots)
  | [] => by simp [lessG]
  | x :: l => by
    simp only [lessG]
    split
    · rename_i c
      rw [List.mem_cons, mem_less]
      constructor
      · rintro (rfl | ⟨z, h1, h2, h3⟩)
        · exact ⟨x, by simp, c, rfl⟩
        · exact ⟨z, by simp [h1], h2, h3⟩
      · rintro ⟨z, h1, h2, h3⟩
        rcases List.mem_cons.1 h1 with rfl | h1
        · exact .inl h3
        · exact .inr ⟨z, h1, h2, h3⟩
    · rename_i c
      rw [mem_less]
      constructor
      · rintro ⟨z, h1, h2, h3⟩; exact ⟨z, by simp [h1], h2, h3⟩
      · rintro ⟨z, h1, h2, h3⟩
        rcases List.mem_cons.1 h1 with rfl | h1
        · exact absurd h2 c
        · exact ⟨z, h1, h2, h3⟩
theorem less_apart {lots : List api_Lot} : ∀ {l : List HI}, l.Pairwise (fun a b => a.Lot.ISIN ≠ b.Lot.ISIN) → (lessG lots l).Pairwise (fun a b => a.Lot.ISIN ≠ b.Lot.ISIN)
  | [], _ => by simp [lessG]
  | x :: l, h => by
    obtain ⟨h1, h2⟩ := List.pairwise_cons.1 h
    simp only [lessG]
    split
    · refine List.pairwise_cons.2 ⟨fun y hy => ?_, less_apart h2⟩
      obtain ⟨z, z1, z2, rfl⟩ := mem_less.1 hy
      exact h1 z z1
    · exact less_apart h2
theorem less_len {lots : List api_Lot} : ∀ {l : List HI}, (lessG lots l).length ≤ l.length
  | [] => by simp [lessG]
  | x :: l => by
    have := less_len (lots := lots) (l := l)
    simp only [lessG]; split <;> simp <;> omega
theorem RPlus_r {a b : Int} (ha : 0 ≤ a) (hb : 0 ≤ b) (h : a + b ≤ 9223372036854775807) : lombardref01_Plus_r a b (a + b, 0) := by
  refine lombardref01_Plus_of ?_
  unfold lombardref01_Plus_w
  refine Br.i (fun c => Num.n (by omega) (Br.neg (by omega) (Br.neg (by omega) (Num.n (by omega) (Rt.i rfl))))) (fun c => Br.neg (by omega) (Num.n (by omega) (Rt.i rfl)))
theorem total_l {l : List HI} (h2 : l.length ≤ 1000) {Q0 Q1 : Int → Prop} : ∀ (n i : Nat) (acc : Int), n + i = l.length → 0 ≤ acc → acc + sumW pT (l.drop i) ≤ 9223372036854775807 → Q1 (acc + sumW pT (l.drop i)) → lombardref15_Total_L0 (l.map toR) Q0 Q1 acc (i : Int) := by
  intro n
  induction n with
  | zero =>
    intro i acc h ha hb q
    refine lombardref15_Total_l0 ?_
    unfold lombardref15_Total_w0
    rw [lenM_eq, List.length_map]
    rw [List.drop_of_length_le (by omega)] at q
    exact Br.neg (by omega) (Lf.i (by simpa [sumW] using q))
  | succ n ih =>
    intro i acc h ha hb q
    have hi : i < l.length := by omega
    refine lombardref15_Total_l0 ?_
    unfold lombardref15_Total_w0
    rw [lenM_eq, List.length_map]
    rw [List.drop_eq_getElem_cons hi] at q hb
    have g : (l.map toR)[(i : Int).toNat]? = some (toR l[i]) := by simp [hi]
    simp only [sumW, pT, if_true] at q hb
    have nn := sumW_nn pT (l.drop (i + 1))
    have cn := covH_nn l[i]
    have nn' : 0 ≤ sumW (fun _ => true) (l.drop (i + 1)) := nn
    refine Br.pos (by omega) ⟨toR l[i], Got.i ⟨_, RHCovers_r l[i], _, RPlus_r ha cn (by omega), Br.neg (fun k => k rfl) (Num.n (by omega) (ih (i + 1) _ (by omega) (by omega) ?_ ?_))⟩ (by omega) g⟩
    · show acc + covH l[i] + sumW pT (l.drop (i + 1)) ≤ _
      rw [Int.add_assoc]; exact hb
    · show Q1 (acc + covH l[i] + sumW pT (l.drop (i + 1)))
      rw [Int.add_assoc]; exact q
theorem Total15_r {l : List HI} (h2 : l.length ≤ 1000) (hb : sumW pT l ≤ 9223372036854775807) : lombardref15_Total_r (l.map toR) (sumW pT l, 0) := by
  refine lombardref15_Total_of ?_
  unfold lombardref15_Total_w
  exact total_l h2 l.length 0 0 (by omega) (Int.le_refl _) (by simpa using hb) (Rt.i (by simp))
end Go.Proofs.Ytgncepjnbdhmkaa.Pure
namespace Go.Proofs.Ytgncepjnbdhmkaa.Pure
open Go Go.Ab Go.Stable Go.Proofs.Ytgncepjnbdhmkaa.R
set_option linter.unusedVariables false
set_option linter.unusedSimpArgs false

def marS (t need : Int) : Int × Int := if t - need < -9223372036854775808 ∨ 9223372036854775807 < t - need then (0, 9) else (t - need, 0)
theorem wrap_hi {n : Int} (h1 : 9223372036854775807 < n) (h2 : n ≤ 18446744073709551615) : IntKind.wrap .i64 n = n - 18446744073709551616 := by
  simp [IntKind.wrap, IntKind.bits, IntKind.signed]; omega
theorem wrap_lo {n : Int} (h1 : n < -9223372036854775808) (h2 : -18446744073709551616 ≤ n) : IntKind.wrap .i64 n = n + 18446744073709551616 := by
  simp [IntKind.wrap, IntKind.bits, IntKind.signed]; omega
theorem wrap_in {n : Int} (h1 : -9223372036854775808 ≤ n) (h2 : n ≤ 9223372036854775807) : IntKind.wrap .i64 n = n := iw _ h1 h2
theorem FMinus_r {a b : Int} (ha : 0 ≤ a ∧ a ≤ 9223372036854775807) (hb : InK .i64 b) : fixnum_Minus_r a b (marS a b) := by
  have hb' : -9223372036854775808 ≤ b ∧ b ≤ 9223372036854775807 := hb
  refine fixnum_Minus_of ?_
  unfold fixnum_Minus_w marS
  refine Br.pos (by omega) (Br.i (fun c => ?_) (fun c => Br.neg (by omega) (Rt.i ?_)))
  · by_cases k : 9223372036854775807 < a - b
    · rw [wrap_hi k (by omega)]
      exact Br.pos (by omega) (Rt.i (by rw [if_pos (.inr k)]))
    · rw [wrap_in (by omega) (by omega)]
      exact Br.neg (by omega) (Br.neg (by omega) (Rt.i (by rw [if_neg (by omega)])))
  · rw [wrap_in (by omega) (by omega), if_neg (by omega)]
theorem FPlus_r {a b : Int} (ha : 0 ≤ a) (hb : 0 ≤ b) (h : a + b ≤ 9223372036854775807) : fixnum_Plus_r a b (a + b, 0) := by
  refine fixnum_Plus_of ?_
  unfold fixnum_Plus_w
  refine Num.n (by omega) (Br.i (fun c => Br.i (fun c2 => Br.neg (by omega) (Br.neg (by omega) (Rt.i rfl))) (fun c2 => Br.neg (by omega) (Rt.i rfl))) (fun c => Br.neg (by omega) (Rt.i rfl)))
theorem htotal_l {l : List HI} (h2 : l.length ≤ 1000) {Q0 Q1 : Int → Prop} : ∀ (n i : Nat) (acc : Int), n + i = l.length → 0 ≤ acc → acc + sumW pT (l.drop i) ≤ 9223372036854775807 → Q1 (acc + sumW pT (l.drop i)) → haircut_Total_L0 l Q0 Q1 acc (i : Int) := by
  intro n
  induction n with
  | zero =>
    intro i acc h ha hb q
    refine haircut_Total_l0 ?_
    unfold haircut_Total_w0
    rw [lenM_eq]
    rw [List.drop_of_length_le (by omega)] at q
    exact Br.neg (by omega) (Lf.i (by simpa [sumW] using q))
  | succ n ih =>
    intro i acc h ha hb q
    have hi : i < l.length := by omega
    refine haircut_Total_l0 ?_
    unfold haircut_Total_w0
    rw [lenM_eq]
    rw [List.drop_eq_getElem_cons hi] at q hb
    have g : l[(i : Int).toNat]? = some l[i] := by simp [hi]
    simp only [sumW, pT, if_true] at q hb
    have nn := sumW_nn pT (l.drop (i + 1))
    have cn := covH_nn l[i]
    have nn' : 0 ≤ sumW (fun _ => true) (l.drop (i + 1)) := nn
    refine Br.pos (by omega) ⟨l[i], Got.i ⟨_, HCover_r l[i], _, FPlus_r ha cn (by omega), Br.neg (fun k => k rfl) (Num.n (by omega) (ih (i + 1) _ (by omega) (by omega) ?_ ?_))⟩ (by omega) g⟩
    · show acc + covH l[i] + sumW pT (l.drop (i + 1)) ≤ _
      rw [Int.add_assoc]; exact hb
    · show Q1 (acc + covH l[i] + sumW pT (l.drop (i + 1)))
      rw [Int.add_assoc]; exact q
theorem Margin_r {l : List HI} {need : Int} (h2 : l.length ≤ 1000) (hb : sumW pT l ≤ 9223372036854775807) (hN : InK .i64 need) : haircut_Margin_r l need (marS (sumW pT l) need) := by
  refine haircut_Margin_of ?_
  unfold haircut_Margin_w
  refine ⟨(sumW pT l, 0), haircut_Total_of ?_, Br.neg (fun k => k rfl) ⟨_, FMinus_r ⟨sumW_nn _ _, hb⟩ hN, Rt.i rfl⟩⟩
  unfold haircut_Total_w
  exact htotal_l h2 l.length 0 0 (by omega) (Int.le_refl _) (by simpa using hb) (Rt.i (by simp))
theorem sumW_le {M : Int} (hM : 0 ≤ M) : ∀ {l : List HI}, (∀ x ∈ l, covH x ≤ M) → sumW pT l ≤ l.length * M
  | [], _ => by simp [sumW]
  | x :: l, h => by
    have := sumW_le hM (l := l) fun y hy => h y (by simp [hy])
    have h1 := h x (by simp)
    simp only [sumW, pT, if_true, List.length_cons]
    have this' : sumW (fun _ => true) l ≤ l.length * M := this
    have e : ((l.length + 1 : Nat) : Int) * M = l.length * M + M := by rw [Int.natCast_add, Int.add_mul]; simp
    rw [e]
    show covH x + sumW (fun _ => true) l ≤ _
    omega

/-! What is kept of each, from the last one on. -/
def spQ (x : HI) (o : Int) : Int := least (max 0 (covH x - o)) x.Price x.Cut
def spN (x : HI) (o : Int) : Int := o - covH x + covH (setQ x (spQ x o))
def spK : List HI → Int → List HI
  | [], _ => []
  | x :: r, o => setQ x (spQ x o) :: spK r (spN x o)
def spO : List HI → Int → Int
  | [], o => o
  | x :: r, o => spO r (spN x o)
def spF : List HI → Int → List api_Lot
  | [], _ => []
  | x :: r, o => (if spQ x o < x.Lot.Qty then [(⟨x.Lot.ISIN, x.Lot.Qty - spQ x o⟩ : api_Lot)] else []) ++ spF r (spN x o)

theorem cv_mono {q r p c : Int} (h : goodS p c = true) (hq : q ≤ r) : cv q p c ≤ cv r p c :=
  (least_le h).1 (Int.le_trans ((least_le h).2 (Int.le_refl _)) hq)
theorem cov_self {x : HI} (hx : It x) : covH x = cv x.Lot.Qty x.Price x.Cut := by
  have h1 := hx.pos
  exact cov_q (x := x) (q := x.Lot.Qty) hx.good ⟨by omega, hx.top⟩

structure Sp (x : HI) (o : Int) : Prop where
  q0 : 0 ≤ spQ x o
  q1 : spQ x o ≤ x.Lot.Qty
  cov : covH (setQ x (spQ x o)) = cv (spQ x o) x.Price x.Cut
  n0 : 0 ≤ spN x o
  n1 : spN x o ≤ o
  small : 1 ≤ spQ x o → cv (spQ x o - 1) x.Price x.Cut < covH x - o
  ls : leastS (max 0 (covH x - o)) x.Price x.Cut = (spQ x o, true)
  full : ¬ spQ x o < x.Lot.Qty → spN x o = o

theorem sp_ok {x : HI} {o : Int} (hx : It x) (ho : 0 ≤ o) : Sp x o := by
  have h1 := hx.pos
  have h2 := hx.top
  have hc := cov_self hx
  have hn := covH_nn x
  have m0 : 0 ≤ max 0 (covH x - o) := Int.le_max_left _ _
  have q0 : 0 ≤ spQ x o := least_nn hx.good m0
  have q1 : spQ x o ≤ x.Lot.Qty := (least_le hx.good).2 (by rw [← hc]; omega)
  have hcov : covH (setQ x (spQ x o)) = cv (spQ x o) x.Price x.Cut := cov_q hx.good ⟨q0, by omega⟩
  have hge : max 0 (covH x - o) ≤ cv (spQ x o) x.Price x.Cut := (least_le hx.good).1 (Int.le_refl _)
  have hle : cv (spQ x o) x.Price x.Cut ≤ covH x := by rw [hc]; exact cv_mono hx.good q1
  refine ⟨q0, q1, hcov, ?_, ?_, fun hq => ?_, ?_, fun hf => ?_⟩
  · unfold spN; rw [hcov]; omega
  · unfold spN; rw [hcov]; omega
  · have hlt : ¬ max 0 (covH x - o) ≤ cv (spQ x o - 1) x.Price x.Cut := fun k => by
      have := (least_le hx.good).2 k
      have e : least (max 0 (covH x - o)) x.Price x.Cut = spQ x o := rfl
      rw [e] at this
      omega
    have hb := (cv_bd (q := spQ x o - 1) hx.good ⟨by omega, by omega⟩).1
    omega
  · unfold leastS
    have e : least (max 0 (covH x - o)) x.Price x.Cut = spQ x o := rfl
    rw [if_neg (by rw [hx.good]; decide), if_neg (by omega), e, if_neg (by omega)]
  · have e : spQ x o = x.Lot.Qty := by omega
    unfold spN; rw [hcov, e, ← hc]; omega

theorem spare_l {R : List HI} (hR : ∀ x ∈ R, It x) (hl : R.length ≤ 1000) {Q : List api_Lot → Prop} : ∀ (k : Nat) (o : Int) (acc : List api_Lot), k ≤ R.length → acc.length + k ≤ 1000 → 0 ≤ o → o ≤ 9223372036854775807 →
    Q (acc ++ spF (R.take k).reverse o) → alloc_Spare_Lr0 R Q Q o acc k := by
  intro k
  induction k with
  | zero =>
    intro o acc hk ha h0 h1 q
    refine alloc_Spare_lr00 ?_
    exact Lf.i (by simpa [spF] using q)
  | succ k ih =>
    intro o acc hk ha h0 h1 q
    have hi : k < R.length := by omega
    have hx := hR R[k] (List.getElem_mem hi)
    have sp := sp_ok hx h0
    have e : (R.take (k + 1)).reverse = R[k] :: (R.take k).reverse := by
      rw [List.take_add_one, List.getElem?_eq_getElem hi]; simp
    rw [e] at q
    simp only [spF] at q
    have cb := cv_bd (q := R[k].Lot.Qty) hx.good ⟨by have := hx.pos; omega, hx.top⟩
    rw [← cov_self hx] at cb
    have sb := cv_bd (q := spQ R[k] o) hx.good ⟨sp.q0, by have := sp.q1; have := hx.top; omega⟩
    rw [← sp.cov] at sb
    have hq0 := sp.q0
    have hq1 := sp.q1
    have hn0 := sp.n0
    have hn1 := sp.n1
    have hp := hx.pos
    have ht := hx.top
    have eN : spN R[k] o = o - covH R[k] + covH (setQ R[k] (spQ R[k] o)) := rfl
    have hL := Least_r (need := max 0 (covH R[k] - o)) (p := R[k].Price) (c := R[k].Cut)
    rw [sp.ls] at hL
    have hC := Cover_r (q := spQ R[k] o) (p := R[k].Price) (c := R[k].Cut)
    have eC : (coverS (spQ R[k] o) R[k].Price R[k].Cut).1 = covH (setQ R[k] (spQ R[k] o)) := rfl
    refine alloc_Spare_lr01 ⟨R[k], List.getElem?_eq_getElem hi, Br.neg (by omega) ⟨_, HCover_r _, Num.n (by omega) ⟨_, hL, _, hC, Br.i (fun c => ?_) (fun c => ?_)⟩⟩⟩
    · have c : spQ R[k] o < R[k].Lot.Qty := c
      rw [if_pos c] at q
      rw [eC]
      refine Num.n (by show -9223372036854775808 ≤ R[k].Lot.Qty - spQ R[k] o ∧ _; omega) (App2.i (app24 (by simp; omega)) (Num.n (by omega) (Num.n (by omega) ?_)))
      have e2 : o - (covH R[k] - covH (setQ R[k] (spQ R[k] o))) = spN R[k] o := by rw [eN]; omega
      rw [e2]
      exact ih _ _ (by omega) (by simp; omega) hn0 (by omega) (by rw [List.append_assoc]; exact q)
    · have c : ¬ spQ R[k] o < R[k].Lot.Qty := c
      rw [if_neg c, sp.full c] at q
      exact ih _ _ (by omega) (by omega) h0 h1 q
theorem spare_neg {R : List HI} {Q : List api_Lot → Prop} {o : Int} (ho : o < 0) (q : Q []) : ∀ k : Nat, k ≤ R.length → alloc_Spare_Lr0 R Q Q o [] k
  | 0, _ => alloc_Spare_lr00 (Lf.i q)
  | k + 1, hk => alloc_Spare_lr01 ⟨R[k], List.getElem?_eq_getElem (by omega), Br.pos (by omega) (Lf.i q)⟩

theorem spF_len : ∀ (r : List HI) (o : Int), (spF r o).length ≤ r.length
  | [], _ => by simp [spF]
  | x :: r, o => by
    have := spF_len r (spN x o)
    simp only [spF, List.length_append, List.length_cons]
    split <;> simp <;> omega
def overS (l : List RI) (need : Int) : Int × Int := marS (sumW pT (l.map toH)) need
def spareL (l : List RI) (o : Int) : List api_Lot := if o < 0 then [] else spF (isort leE (l.map toH)).reverse o
def spareS (l : List RI) (need : Int) : List api_Lot × Int :=
  if wrongS l ≠ 0 then ([], wrongS l) else if (overS l need).2 ≠ 0 then ([], (overS l need).2) else mergeG [] (spareL l (overS l need).1)

structure Good (l : List RI) : Prop where
  len : l.length ≤ 64
  it : ∀ x ∈ l.map toH, It x
  apart : (l.map toH).Pairwise (fun x y => x.Lot.ISIN ≠ y.Lot.ISIN)
  cov : ∀ x ∈ l.map toH, covH x ≤ 1125899906842624
  sum : sumW pT (l.map toH) ≤ 72057594037927936
theorem good_of {l : List RI} (h : wrongS l = 0) : Good l := by
  unfold wrongS at h
  split at h
  · cases h
  · rename_i hl
    obtain ⟨h1, h2⟩ := wrong_it l [] h
    have cov : ∀ x ∈ l.map toH, covH x ≤ 1125899906842624 := fun x hx => by
      obtain ⟨y, hy, rfl⟩ := List.mem_map.1 hx
      exact (h1 y hy).2.1
    have hs := sumW_le (M := 1125899906842624) (by omega) cov
    rw [List.length_map] at hs
    refine ⟨by omega, fun x hx => ?_, List.pairwise_map.2 h2, cov, by omega⟩
    obtain ⟨y, hy, rfl⟩ := List.mem_map.1 hx
    exact (h1 y hy).1
theorem mem_rank {l : List RI} {x : HI} : x ∈ isort leE (l.map toH) ↔ x ∈ l.map toH := (isort_perm (l.map toH)).mem_iff

theorem Spare_r {l : List RI} {need : Int} (hN : InK .i64 need) : alloc_Spare_r (l.map toH) need (spareS l need) := by
  refine alloc_Spare_of ?_
  unfold alloc_Spare_w spareS
  refine ⟨_, Check_r, Br.i (fun c => Rt.i (by rw [if_pos c])) (fun c => ?_)⟩
  have c := Decidable.not_not.1 c
  have g := good_of c
  rw [if_neg (fun k => k c)]
  have hlen : (l.map toH).length ≤ 64 := by rw [List.length_map]; exact g.len
  have hs := g.sum
  refine ⟨_, Margin_r (by omega) (by omega) hN, Br.i (fun c2 => Rt.i (by rw [if_pos (show (overS l need).2 ≠ 0 from c2)]; rfl)) (fun c2 => ?_)⟩
  have c2 := Decidable.not_not.1 c2
  have e2 : (overS l need).2 = 0 := c2
  rw [if_neg (fun k => k e2)]
  have hl : (isort leE (l.map toH)).length ≤ 64 := by rw [isort_len']; exact hlen
  refine ⟨_, Rank_r (by omega), Backward_ok _, alloc_Spare_rr0 Back_ok ?_⟩
  have hov : (overS l need).1 ≤ 9223372036854775807 := by
    unfold overS marS; split
    · exact (by decide : (0 : Int) ≤ 9223372036854775807)
    · rename_i k; show sumW pT (l.map toH) - need ≤ _; omega
  by_cases k : (overS l need).1 < 0
  · refine spare_neg k ⟨_, Merge_r (by simp), Rt.i ?_⟩ _ (Nat.le_refl _)
    unfold spareL; rw [if_pos k]
  · refine spare_l (fun x hx => g.it x (mem_rank.1 hx)) (by omega) _ _ [] (Nat.le_refl _) (by simp; omega) (by show 0 ≤ (overS l need).1; omega) hov ?_
    refine ⟨_, Merge_r ?_, Rt.i ?_⟩
    · rw [List.take_length, List.nil_append]
      have := spF_len (isort leE (l.map toH)).reverse (overS l need).1
      rw [List.length_reverse] at this
      show (spF (isort leE (l.map toH)).reverse (overS l need).1).length ≤ _
      omega
    · unfold spareL; rw [if_neg k, List.take_length, List.nil_append]; rfl
end Go.Proofs.Ytgncepjnbdhmkaa.Pure
namespace Go.Proofs.Ytgncepjnbdhmkaa.Pure
open Go Go.Ab Go.Stable Go.Proofs.Ytgncepjnbdhmkaa.R
set_option linter.unusedVariables false
set_option linter.unusedSimpArgs false

/-! What has been said of the lists of lots. -/
theorem qtyG_setF {s : ByteArray} {q : Int} : ∀ l : List api_Lot, qtyG s (setG s q false l) = q
  | [] => by simp [setG, qtyG]
  | y :: l => by
    simp only [setG]
    split
    · rename_i c
      have ne : y.ISIN ≠ s := fun e => by rw [e] at c; exact sLt_irrefl _ c
      rw [if_neg ne]
      simp only [List.cons_append, List.nil_append, qtyG]
      rw [if_neg ne]; exact qtyG_setF l
    · simp [qtyG]
theorem qtyG_setT {s : ByteArray} {q : Int} : ∀ l : List api_Lot, qtyG s (setG s q true l) = 0
  | [] => by simp [setG, qtyG]
  | y :: l => by
    simp only [setG]
    by_cases c : y.ISIN = s
    · rw [if_pos c]; exact qtyG_setT l
    · rw [if_neg c]
      simp only [List.cons_append, List.nil_append, qtyG]
      rw [if_neg c]; exact qtyG_setT l
theorem qtyG_set {s : ByteArray} {q : Int} (l : List api_Lot) : qtyG s (setG s q (q == 0) l) = q := by
  by_cases c : q = 0
  · subst c; exact qtyG_setT l
  · rw [beq_false_of_ne c]; exact qtyG_setF l
theorem qtyG_minus (s : ByteArray) : ∀ (b cur : List api_Lot), qtyG s (minusG cur b) = qtyG s cur - sumQ s b
  | [], cur => by simp [minusG, sumQ]
  | x :: b, cur => by
    simp only [minusG, sumQ]
    rw [qtyG_minus s b]
    by_cases c : x.ISIN = s
    · subst c
      rw [if_pos rfl, qtyG_set]; omega
    · rw [if_neg c, qtyG_other (fun e => c e.symm)]; omega
theorem sumQ_srt {s : ByteArray} : ∀ {l : List api_Lot}, l.Pairwise (fun x y => sLt x.ISIN y.ISIN) → sumQ s l = qtyG s l
  | [], _ => rfl
  | y :: l, h => by
    obtain ⟨h1, h2⟩ := List.pairwise_cons.1 h
    simp only [sumQ, qtyG]
    by_cases c : y.ISIN = s
    · subst c
      rw [if_pos rfl, if_pos rfl, sumQ_none fun z hz e => by have := h1 z hz; rw [e] at this; exact sLt_irrefl _ this]; omega
    · rw [if_neg c, if_neg c, sumQ_srt h2]; omega
theorem sumQ_app (s : ByteArray) : ∀ a b : List api_Lot, sumQ s (a ++ b) = sumQ s a + sumQ s b
  | [], b => by simp [sumQ]
  | x :: a, b => by simp only [List.cons_append, sumQ, sumQ_app s a b]; omega
theorem sumQ_perm (s : ByteArray) {a b : List api_Lot} (h : a.Perm b) : sumQ s a = sumQ s b := by
  induction h with
  | nil => rfl
  | cons x _ ih => simp only [sumQ, ih]
  | swap x y l => simp only [sumQ]; omega
  | trans _ _ h1 h2 => exact h1.trans h2
theorem addG_len {l : List api_Lot} {x : api_Lot} (h : Lk l) (h0 : (addG l x).2 = 0) : (addG l x).1.length ≤ l.length + 1 := by
  obtain ⟨A, B, e, hA, hB, hc⟩ := add_cases (x := x) h
  unfold addG at h0 ⊢
  split at h0
  · cases h0
  · rename_i n1
    split at h0
    · cases h0
    · rename_i n2
      rw [if_neg n1, if_neg n2]
      rcases hc with ⟨_, c2, c3⟩ | ⟨y, B', e2, _, _, c2, c3⟩
      · rw [c3, e]; simp; omega
      · rw [c3, e, e2]; simp
/-- Lots of different securities, no more than there may be. -/
theorem merge_ok : ∀ (l out : List api_Lot), Lk out → (∀ x ∈ l, qtyG x.ISIN out = 0 ∧ 1 ≤ x.Qty ∧ x.Qty ≤ 1125899906842624) → l.Pairwise (fun x y => x.ISIN ≠ y.ISIN) → out.length + l.length ≤ 64 → ∃ r, mergeG out l = (r, 0)
  | [], out, _, _, _, _ => ⟨out, rfl⟩
  | x :: l, out, ho, hx, hp, hl => by
    obtain ⟨p1, p2⟩ := List.pairwise_cons.1 hp
    obtain ⟨x0, x1, x2⟩ := hx x (by simp)
    simp only [List.length_cons] at hl
    have ha : (addG out x).2 = 0 := by
      unfold addG
      rw [if_neg (by omega), if_neg (by omega)]
    simp only [mergeG]
    rw [if_neg (by omega), if_neg (fun k => k ha)]
    have := addG_len ho ha
    refine merge_ok l _ (add_ok ho ⟨x1, x2⟩ ha) (fun y hy => ⟨?_, (hx y (by simp [hy])).2⟩) p2 (by omega)
    rw [qtyG_add ho ha, (hx y (by simp [hy])).1, if_neg (p1 y hy)]; rfl

/-! What is kept. -/
structure Kf (r : List HI) (o : Int) : Prop where
  o0 : 0 ≤ spO r o
  o1 : spO r o ≤ o
  sum : sumW pT (spK r o) = sumW pT r - o + spO r o
  q : ∀ y ∈ spK r o, 0 ≤ y.Lot.Qty ∧ y.Lot.Qty ≤ 1125899906842624 ∧ goodS y.Price y.Cut = true ∧ covH y = cv y.Lot.Qty y.Price y.Cut ∧ (1 ≤ y.Lot.Qty → spO r o < covH y - cv (y.Lot.Qty - 1) y.Price y.Cut)
  lots : ∀ s, sumQ s (spF r o) + sumQ s ((spK r o).map (·.Lot)) = sumQ s (r.map (·.Lot))
  pos : ∀ b ∈ spF r o, 1 ≤ b.Qty ∧ b.Qty ≤ 1125899906842624 ∧ ∃ x ∈ r, x.Lot.ISIN = b.ISIN
theorem kf : ∀ (r : List HI) (o : Int), (∀ x ∈ r, It x) → 0 ≤ o → Kf r o
  | [], o, _, h => ⟨h, Int.le_refl _, by simp [spK, sumW, spO]; omega, by simp [spK], by simp [spF, spK, sumQ], by simp [spF]⟩
  | x :: r, o, hr, h => by
    have hx := hr x (by simp)
    have sp := sp_ok hx h
    have k := kf r (spN x o) (fun y hy => hr y (by simp [hy])) sp.n0
    have a0 := k.o0
    have a1 := k.o1
    have n1 := sp.n1
    have q0 := sp.q0
    have q1 := sp.q1
    have tp := hx.top
    have eN : spN x o = o - covH x + covH (setQ x (spQ x o)) := rfl
    refine ⟨a0, by show spO r (spN x o) ≤ o; omega, ?_, fun y hy => ?_, fun s => ?_, fun b hb => ?_⟩
    · have ks := k.sum
      simp only [spK, spO, sumW, pT, if_true]
      rw [ks, eN]; omega
    · simp only [spK] at hy
      rcases List.mem_cons.1 hy with rfl | hy
      · refine ⟨q0, by show spQ x o ≤ _; omega, hx.good, sp.cov, fun h1 => ?_⟩
        have sm := sp.small h1
        show spO r (spN x o) < covH (setQ x (spQ x o)) - cv (spQ x o - 1) x.Price x.Cut
        omega
      · exact k.q y hy
    · have := k.lots s
      simp only [spF, spK, List.map_cons, sumQ, sumQ_app]
      show sumQ s (if spQ x o < x.Lot.Qty then [(⟨x.Lot.ISIN, x.Lot.Qty - spQ x o⟩ : api_Lot)] else []) + sumQ s (spF r (spN x o)) + ((if x.Lot.ISIN = s then spQ x o else 0) + sumQ s ((spK r (spN x o)).map (·.Lot))) = _
      by_cases c : spQ x o < x.Lot.Qty
      · rw [if_pos c]
        simp only [sumQ]
        split <;> omega
      · rw [if_neg c]
        simp only [sumQ]
        split <;> omega
    · simp only [spF] at hb
      rcases List.mem_append.1 hb with hb | hb
      · split at hb
        · rename_i c
          have : b = ⟨x.Lot.ISIN, x.Lot.Qty - spQ x o⟩ := by simpa using hb
          subst this
          exact ⟨by show 1 ≤ x.Lot.Qty - spQ x o; omega, by show x.Lot.Qty - spQ x o ≤ _; omega, x, by simp, rfl⟩
        · cases hb
      · obtain ⟨b1, b2, y, hy, e⟩ := k.pos b hb
        exact ⟨b1, b2, y, by simp [hy], e⟩
theorem spK_isin : ∀ (r : List HI) (o : Int), (spK r o).map (fun x => x.Lot.ISIN) = r.map (fun x => x.Lot.ISIN)
  | [], _ => rfl
  | x :: r, o => by simp only [spK, List.map_cons, spK_isin r]; rfl
theorem spK_apart {r : List HI} {o : Int} (h : r.Pairwise (fun x y => x.Lot.ISIN ≠ y.Lot.ISIN)) : (spK r o).Pairwise (fun x y => x.Lot.ISIN ≠ y.Lot.ISIN) := by
  have : (r.map (fun x => x.Lot.ISIN)).Pairwise (· ≠ ·) := List.pairwise_map.2 h
  rw [← spK_isin r o] at this
  exact List.pairwise_map.1 this
theorem less_spK {lots : List api_Lot} : ∀ (r : List HI) (o : Int), (∀ y ∈ spK r o, qtyG y.Lot.ISIN lots = y.Lot.Qty) → lessG lots r = (spK r o).filter (fun y => decide (0 < y.Lot.Qty))
  | [], _, _ => rfl
  | x :: r, o, h => by
    have h1 := h (setQ x (spQ x o)) (by simp [spK])
    have h1 : qtyG x.Lot.ISIN lots = spQ x o := h1
    simp only [lessG, spK, h1]
    rw [less_spK r (spN x o) fun y hy => h y (by simp [spK, hy])]
    by_cases c : 0 < spQ x o
    · rw [if_pos c, List.filter_cons_of_pos]; exact decide_eq_true c
    · have hd : decide (0 < spQ x o) = false := decide_eq_false c
      rw [if_neg c, List.filter_cons_of_neg (by show ¬ decide (0 < spQ x o) = true; rw [hd]; decide)]
theorem less_permL {lots : List api_Lot} {a b : List HI} (h : a.Perm b) : (lessG lots a).Perm (lessG lots b) := by
  induction h with
  | nil => exact .refl _
  | cons x _ ih =>
    simp only [lessG]; split
    · exact ih.cons _
    · exact ih
  | swap x y l =>
    simp only [lessG]
    split <;> split
    · exact .swap ..
    · exact .refl _
    · exact .refl _
    · exact .refl _
  | trans _ _ h1 h2 => exact h1.trans h2
theorem sumW_pos : ∀ {l : List HI}, (∀ y ∈ l, y.Lot.Qty = 0 → covH y = 0) → (∀ y ∈ l, 0 ≤ y.Lot.Qty) → sumW pT (l.filter (fun y => decide (0 < y.Lot.Qty))) = sumW pT l
  | [], _, _ => rfl
  | y :: l, h, h2 => by
    have ih := sumW_pos (l := l) (fun z hz => h z (by simp [hz])) (fun z hz => h2 z (by simp [hz]))
    have hy := h2 y (by simp)
    by_cases c : 0 < y.Lot.Qty
    · rw [List.filter_cons_of_pos (p := fun y : HI => decide (0 < y.Lot.Qty)) (decide_eq_true c)]
      simp only [sumW, ih]
    · rw [List.filter_cons_of_neg (p := fun y : HI => decide (0 < y.Lot.Qty)) (by simpa using c), ih]
      have := h y (by simp) (by omega)
      simp only [sumW, pT, if_true]
      show _ = covH y + sumW (fun _ => true) l
      have e : sumW pT l = sumW (fun _ => true) l := rfl
      omega

theorem spare_loop {R : List HI} {now need : Int} (hl : R.length ≤ 1000) (hN : InK .i64 need) (h0 : 0 ≤ now ∧ now ≤ 72057594037927936) (hR : ∀ y ∈ R, 1 ≤ y.Lot.Qty ∧ y.Lot.Qty ≤ 1125899906842624 ∧ goodS y.Price y.Cut = true ∧ covH y = cv y.Lot.Qty y.Price y.Cut ∧ covH y ≤ now ∧ now - covH y + cv (y.Lot.Qty - 1) y.Price y.Cut < need) {Q0 Q1 : Unit → Prop} (q : Q1 ()) :
    ∀ (n i : Nat), n + i = R.length → lombardlaw18_AllocSpare_L0 need (R.map toR) (now, 0) Q0 Q1 (i : Int) := by
  intro n
  induction n with
  | zero =>
    intro i h
    refine lombardlaw18_AllocSpare_l0 ?_
    unfold lombardlaw18_AllocSpare_w0
    rw [lenM_eq, List.length_map]
    exact Br.neg (by omega) (Lf.i q)
  | succ n ih =>
    intro i h
    have hi : i < R.length := by omega
    refine lombardlaw18_AllocSpare_l0 ?_
    unfold lombardlaw18_AllocSpare_w0
    rw [lenM_eq, List.length_map]
    have g : (R.map toR)[(i : Int).toNat]? = some (toR R[i]) := by simp [hi]
    obtain ⟨a1, a2, a3, a4, a5, a6⟩ := hR R[i] (List.getElem_mem hi)
    have cn := covH_nn R[i]
    have c1 := cov_q (x := R[i]) (q := R[i].Lot.Qty - 1) a3 ⟨by omega, by omega⟩
    have b1 := cv_bd (q := R[i].Lot.Qty - 1) a3 ⟨by omega, by omega⟩
    have m1 : cv (R[i].Lot.Qty - 1) R[i].Price R[i].Cut ≤ covH R[i] := by rw [a4]; exact cv_mono a3 (by omega)
    refine Br.pos (by omega) ⟨toR R[i], Got.i ⟨_, RHCovers_r R[i], Num.n (by show -9223372036854775808 ≤ R[i].Lot.Qty - 1 ∧ R[i].Lot.Qty - 1 ≤ _; omega) (Num.n (by show -9223372036854775808 ≤ now - covH R[i] ∧ now - covH R[i] ≤ _; omega) ⟨_, RHCovers_r (setQ R[i] (R[i].Lot.Qty - 1)), ?_⟩)⟩ (by omega) g⟩
    rw [c1]
    refine Num.n (by show -9223372036854775808 ≤ now - covH R[i] + cv (R[i].Lot.Qty - 1) R[i].Price R[i].Cut ∧ _; omega) (Br.neg (by show ¬ now - covH R[i] + cv (R[i].Lot.Qty - 1) R[i].Price R[i].Cut ≥ need; omega) (Num.n (by omega) (ih (i + 1) (by omega))))

theorem spare_or (l : List RI) (need : Int) : (∃ e, e ≠ 0 ∧ spareS l need = ([], e)) ∨ (∃ r, spareS l need = (r, 0) ∧ wrongS l = 0 ∧ (overS l need).2 = 0 ∧ mergeG [] (spareL l (overS l need).1) = (r, 0)) := by
  unfold spareS
  by_cases c : wrongS l ≠ 0
  · rw [if_pos c]; exact .inl ⟨_, c, rfl⟩
  · rw [if_neg c]
    by_cases c2 : (overS l need).2 ≠ 0
    · rw [if_pos c2]; exact .inl ⟨_, c2, rfl⟩
    · rw [if_neg c2]
      rcases merge_or (spareL l (overS l need).1) [] with ⟨r, h⟩ | ⟨e, he, h⟩
      · exact .inr ⟨r, h, Decidable.not_not.1 c, Decidable.not_not.1 c2, h⟩
      · exact .inl ⟨e, he, h⟩

theorem AllocSpare_r (l : List RI) (need : Int) (hN : InK .i64 need) : lombardlaw18_AllocSpare_r l need true := by
  refine lombardlaw18_AllocSpare_of ?_
  unfold lombardlaw18_AllocSpare_w
  rw [lenM_eq]
  refine Br.i (fun _ => ⟨_, awake_r, Rt.i rfl⟩) (fun c => ⟨_, items_r (by omega), _, Spare_r hN, ?_⟩)
  rcases spare_or l need with ⟨e, he, hs⟩ | ⟨r, hs, hw, ho, hm⟩
  · rw [hs]
    exact Br.pos he (Br.t rfl ⟨_, awake_r, Rt.i rfl⟩)
  rw [hs]
  have g := good_of hw
  have gl := g.len
  have gs := g.sum
  have nn := sumW_nn pT (l.map toH)
  have eo : (overS l need).1 = sumW pT (l.map toH) - need := by
    unfold overS marS at ho ⊢
    split at ho
    · cases ho
    · rename_i k; rw [if_neg k]
  have tt := Total15_r (l := l.map toH) (by rw [List.length_map]; omega) (by omega)
  rw [toR_toH] at tt
  refine Br.neg (fun k => k rfl) ⟨_, tt, Br.i (fun c2 => ?_) (fun c2 => ?_)⟩
  · have c2 : sumW pT (l.map toH) < need := c2
    unfold spareL at hm
    rw [if_pos (by omega)] at hm
    simp only [mergeG, Prod.mk.injEq, and_true] at hm
    subst hm
    exact Br.t rfl ⟨_, awake_r, Rt.i rfl⟩
  have c2 : ¬ sumW pT (l.map toH) < need := c2
  have o0 : ¬ (overS l need).1 < 0 := by omega
  have hm0 := hm
  unfold spareL at hm
  rw [if_neg o0] at hm
  have pm : ((isort leE (l.map toH)).reverse).Perm (l.map toH) := (List.reverse_perm _).trans (isort_perm _)
  have hap : ((isort leE (l.map toH)).reverse).Pairwise (fun x y => x.Lot.ISIN ≠ y.Lot.ISIN) := (pm.pairwise_iff (fun h e => h e.symm)).2 g.apart
  have hit : ∀ x ∈ (isort leE (l.map toH)).reverse, It x := fun x hx => g.it x (pm.mem_iff.1 hx)
  obtain ⟨R, hRe⟩ : ∃ R : List HI, R = (isort leE (l.map toH)).reverse := ⟨_, rfl⟩
  rw [← hRe] at hm pm hap hit
  have k := kf R (overS l need).1 hit (by omega)
  -- all lots
  have eL : l.map (·.Lot) = (l.map toH).map (·.Lot) := by rw [List.map_map]; rfl
  have hall : ∃ all, mergeG [] (l.map (·.Lot)) = (all, 0) := by
    refine merge_ok _ [] Lk_nil (fun x hx => ?_) ?_ (by simp; omega)
    · rw [eL] at hx
      obtain ⟨y, hy, rfl⟩ := List.mem_map.1 hx
      exact ⟨rfl, (g.it y hy).pos, (g.it y hy).top⟩
    · rw [eL]; exact List.pairwise_map.2 g.apart
  obtain ⟨all, hr⟩ := hall
  have ak : Lk all := (qtyG_merge ByteArray.empty _ [] all Lk_nil hr).2
  have aq : ∀ s, qtyG s all = sumQ s (R.map (·.Lot)) := fun s => by
    have := (qtyG_merge s _ [] all Lk_nil hr).1
    rw [this, eL, sumQ_perm s (pm.map (·.Lot))]; simp [qtyG]
  have rk : Lk r := (qtyG_merge ByteArray.empty _ [] r Lk_nil hm).2
  have rq : ∀ s, qtyG s r = sumQ s (spF R (overS l need).1) := fun s => by
    have := (qtyG_merge s _ [] r Lk_nil hm).1
    rw [this]; simp [qtyG]
  have kq : ∀ s, 0 ≤ sumQ s ((spK R (overS l need).1).map (·.Lot)) := fun s => by
    have : ∀ (L : List HI), (∀ y ∈ L, 0 ≤ y.Lot.Qty) → 0 ≤ sumQ s (L.map (·.Lot)) := by
      intro L
      induction L with
      | nil => intro _; simp [sumQ]
      | cons y L ih =>
        intro h
        have := ih fun z hz => h z (by simp [hz])
        have := h y (by simp)
        simp only [List.map_cons, sumQ]; split <;> omega
    exact this _ fun y hy => (k.q y hy).1
  have rest : ∀ s, qtyG s (minusG all r) = sumQ s ((spK R (overS l need).1).map (·.Lot)) := fun s => by
    rw [qtyG_minus, sumQ_srt rk.srt, aq, rq]
    have := k.lots s; omega
  have hkq : ∀ y ∈ spK R (overS l need).1, qtyG y.Lot.ISIN (minusG all r) = y.Lot.Qty := fun y hy => by
    rw [rest, sumQ_one (spK_apart hap) hy]
  have hless := less_spK R _ hkq
  have hperm : (lessG (minusG all r) (l.map toH)).Perm ((spK R (overS l need).1).filter (fun y => decide (0 < y.Lot.Qty))) := by
    rw [← hless]; exact less_permL pm.symm
  have hnow : sumW pT (lessG (minusG all r) (l.map toH)) = need + spO R (overS l need).1 := by
    rw [sumW_perm _ hperm, sumW_pos (fun y hy e => ?_) (fun y hy => (k.q y hy).1), k.sum, sumW_perm _ pm]
    · omega
    · rw [(k.q y hy).2.2.2.1, e]; simp [cv]
  have k0 := k.o0
  have k1 := k.o1
  have mlen : (minusG all r).length ≤ 1000 := by
    have : ∀ (b cur : List api_Lot), (minusG cur b).length ≤ cur.length + b.length := by
      intro b
      induction b with
      | nil => intro cur; simp [minusG]
      | cons x b ih =>
        intro cur
        simp only [minusG, List.length_cons]
        have h1 := ih (setG x.ISIN (qtyG x.ISIN cur - x.Qty) (qtyG x.ISIN cur - x.Qty == 0) cur)
        have h2 := setG_len x.ISIN (qtyG x.ISIN cur - x.Qty) cur
        cases hh : (qtyG x.ISIN cur - x.Qty == 0) with
        | true => rw [hh] at h1; have := h2.1; omega
        | false => rw [hh] at h1; have := h2.2; omega
    have h1 := this r all
    have h2 := ak.len
    have h3 := rk.len
    omega
  have ll := less_len (lots := minusG all r) (l := l.map toH)
  rw [List.length_map] at ll
  have ls := Less_r (lots := minusG all r) (l := l.map toH) mlen (by rw [List.length_map]; omega)
  rw [toR_toH] at ls
  have tt2 := Total15_r (l := lessG (minusG all r) (l.map toH)) (by omega) (by rw [hnow]; omega)
  have rof := ROf_r (a := l) (by omega)
  rw [hr] at rof
  refine ⟨_, rof, _, Minus_r ak.len rk (fun x hx => ?_), Br.neg (fun h => h rfl) ⟨_, ls, _, tt2, Br.neg (fun h => h rfl) (Br.neg (by show ¬ sumW pT _ < need; rw [hnow]; omega) ?_)⟩⟩
  · have h1 := qtyG_of rk.srt hx
    have h2 := k.lots x.ISIN
    have h3 := kq x.ISIN
    have h4 := (qtyG_bd (s := x.ISIN) ak.pos).2
    rw [rq] at h1
    have h5 := aq x.ISIN
    show x.Qty ≤ qtyG x.ISIN all ∧ qtyG x.ISIN all ≤ 1125899906842624
    omega
  · refine spare_loop (by omega) hN ⟨sumW_nn _ _, by rw [hnow]; omega⟩ (fun y hy => ?_) ⟨_, awake_r, Rt.i rfl⟩ (lessG (minusG all r) (l.map toH)).length 0 (by omega)
    have hy' := hperm.mem_iff.1 hy
    obtain ⟨hy1, hy2⟩ := List.mem_filter.1 hy'
    have hy2 : 0 < y.Lot.Qty := by simpa using hy2
    obtain ⟨a1, a2, a3, a4, a5⟩ := k.q y hy1
    have a5 := a5 (by omega)
    refine ⟨by omega, a2, a3, a4, sumW_mem hy rfl, ?_⟩
    rw [hnow]; omega
end Go.Proofs.Ytgncepjnbdhmkaa.Pure
