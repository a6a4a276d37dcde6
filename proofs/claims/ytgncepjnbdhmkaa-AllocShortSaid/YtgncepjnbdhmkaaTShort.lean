/- Items: what is wrong with them; in order; what is taken of them. -/
import Derived.Test.YtgncepjnbdhmkaaTLotB
import Derived.Test.YtgncepjnbdhmkaaTRank
import Derived.Test.YtgncepjnbdhmkaaAbY
import Derived.Test.YtgncepjnbdhmkaaRW
set_option linter.unusedVariables false
set_option linter.unusedSimpArgs false
namespace Go.Proofs.Ytgncepjnbdhmkaa.Pure
open Go Go.Ab Go.Stable Go.Proofs.Ytgncepjnbdhmkaa.R
set_option linter.unusedVariables false
abbrev RI := lombardref15_Item
abbrev HI := haircut_Item
def toR (x : HI) : RI := ⟨x.Lot, x.Asset, x.Price, x.Cut⟩
theorem toH_toR (l : List HI) : (l.map toR).map toH = l := by rw [List.map_map]; exact List.map_id' l
theorem toR_toH (l : List RI) : (l.map toH).map toR = l := by rw [List.map_map]; exact List.map_id' l

/-! What is wrong. -/
instance decMem (k : ByteArray) (l : List ByteArray) : Decidable (k ∈ l) := decidable_of_iff ((l.any fun y => decide (y = k)) = true) (by simp)
def wrongL : List ByteArray → List RI → Int
  | _, [] => 0
  | seen, x :: l => if (coverS x.Lot.Qty x.Price x.Cut).2 ≠ 0 ∨ x.Lot.Qty = 0 then 1 else if 1125899906842624 < covC x then 9 else if x.Asset.ISIN ∈ seen ∨ x.Asset.ISIN ≠ x.Lot.ISIN then 7 else wrongL (seen ++ [x.Asset.ISIN]) l
def wrongS (l : List RI) : Int := if 64 < l.length then 2 else wrongL [] l
theorem check_l {l : List RI} {Q0 : Int → Prop} {Q1 : Unit → Prop} (hl : l.length ≤ 64) : ∀ (n i : Nat) (m : GM ByteArray Bool) (seen : List ByteArray), n + i = l.length → (∀ k, m.getD k false = decide (k ∈ seen)) →
    (wrongL seen (l.drop i) ≠ 0 → Q0 (wrongL seen (l.drop i))) → (wrongL seen (l.drop i) = 0 → Q1 ()) → alloc_check_L0 (l.map toH) Q0 Q1 (i : Int) m := by
  intro n
  induction n with
  | zero =>
    intro i m seen h hm q0 q1
    refine alloc_check_l0 ?_
    unfold alloc_check_w0
    rw [lenM_eq, List.length_map]
    rw [List.drop_of_length_le (by omega)] at q1
    exact Br.neg (by omega) (Lf.i (q1 rfl))
  | succ n ih =>
    intro i m seen h hm q0 q1
    have hs : i < l.length := by omega
    refine alloc_check_l0 ?_
    unfold alloc_check_w0
    rw [lenM_eq, List.length_map]
    rw [List.drop_eq_getElem_cons hs] at q0 q1
    have g : (l.map toH)[(i : Int).toNat]? = some (toH l[i]) := by simp [hs]
    simp only [wrongL] at q0 q1
    refine Br.pos (by omega) ⟨toH l[i], Got.i ⟨_, Cover_r, Br.i (fun c => Lf.i ?_) (fun c => Br.i (fun c1 => Lf.i ?_) (fun c1 => ⟨_, ICover_r l[i], Br.i (fun c2 => Lf.i ?_) (fun c2 => ⟨_, _, Look.i ?_⟩)⟩))⟩ (by omega) g⟩
    · rw [if_pos (.inl c)] at q0; exact q0 (by decide)
    · rw [if_pos (.inr c1)] at q0; exact q0 (by decide)
    · rw [if_neg (fun e => e.elim c c1), if_pos (by omega)] at q0; exact q0 (by decide)
    · rw [if_neg (fun e => e.elim c c1), if_neg (by omega)] at q0 q1
      show Br (m.getD l[i].Asset.ISIN false) _ _
      rw [hm]
      refine Br.i (fun c3 => Lf.i ?_) (fun c3 => Br.i (fun c4 => Lf.i ?_) (fun c4 => ⟨_, Put.i (Num.n (by omega) ?_)⟩))
      · rw [if_pos (.inl c3)] at q0; exact q0 (by decide)
      · rw [if_pos (.inr c4)] at q0; exact q0 (by decide)
      · have e : ¬ (l[i].Asset.ISIN ∈ seen ∨ l[i].Asset.ISIN ≠ l[i].Lot.ISIN) := fun e => e.elim c3 c4
        rw [if_neg e] at q0 q1
        refine ih (i + 1) _ (seen ++ [l[i].Asset.ISIN]) (by omega) (fun k => ?_) q0 q1
        rw [getD_put]
        by_cases ek : k = l[i].Asset.ISIN
        · rw [if_pos (show k = (toH l[i]).Asset.ISIN from ek), decide_eq_true (by rw [ek]; simp)]
        · rw [if_neg (show ¬ k = (toH l[i]).Asset.ISIN from ek), hm]
          exact decide_eq_decide.2 (by simp [ek])
theorem Check_r {l : List RI} : alloc_check_r (l.map toH) (wrongS l) := by
  refine alloc_check_of ?_
  unfold alloc_check_w wrongS
  rw [lenM_eq, List.length_map]
  refine Br.i (fun c => Rt.i (by rw [if_pos (by omega)])) (fun c => ?_)
  exact check_l (by omega) l.length 0 GM.nil [] (by omega) (fun k => rfl) (fun h => Rt.i (by rw [if_neg (by omega)]; rfl)) (fun h => Rt.i (by rw [if_neg (by omega)]; exact h.symm))
theorem rwrong_l1 {l : List RI} {i : Nat} (hi : i < l.length) (hl : l.length ≤ 64) {Q0 Q1 : Unit → Prop} : ∀ (n k : Nat), n + k = i → (l[i].Asset.ISIN ∈ ((l.take i).drop k).map (·.Asset.ISIN) → Q0 ()) → (l[i].Asset.ISIN ∉ ((l.take i).drop k).map (·.Asset.ISIN) → Q1 ()) → lombardref18_Wrong_L1 l i Q0 Q1 (k : Int) := by
  intro n
  induction n with
  | zero =>
    intro k h q0 q1
    refine lombardref18_Wrong_l1 ?_
    unfold lombardref18_Wrong_w1
    exact Br.neg (by omega) (Lf.i (q1 (by rw [List.drop_of_length_le (by simp; omega)]; simp)))
  | succ n ih =>
    intro k h q0 q1
    refine lombardref18_Wrong_l1 ?_
    unfold lombardref18_Wrong_w1
    have hk : k < l.length := by omega
    have g : l[(k : Int).toNat]? = some l[k] := by simp [hk]
    have g2 : l[(i : Int).toNat]? = some l[i] := by simp [hi]
    have hk2 : k < (l.take i).length := by simp; omega
    rw [List.drop_eq_getElem_cons hk2, List.map_cons, List.getElem_take] at q0 q1
    refine Br.pos (by omega) ⟨l[k], Got.i ⟨l[i], Got.i (Br.i (fun c => Lf.i (q0 (by rw [c]; simp))) (fun c => Num.n (by omega) (ih (k + 1) (by omega) (fun hm => q0 (List.mem_cons_of_mem _ hm)) (fun hm => q1 ?_)))) (by omega) g2⟩ (by omega) g⟩
    intro hx
    rcases List.mem_cons.1 hx with e | e
    · exact c e.symm
    · exact hm e
theorem rwrong_l {l : List RI} {Q0 : Int → Prop} {Q1 : Unit → Prop} (hl : l.length ≤ 64) : ∀ (n i : Nat), n + i = l.length →
    (wrongL ((l.take i).map (·.Asset.ISIN)) (l.drop i) ≠ 0 → Q0 (wrongL ((l.take i).map (·.Asset.ISIN)) (l.drop i))) → (wrongL ((l.take i).map (·.Asset.ISIN)) (l.drop i) = 0 → Q1 ()) → lombardref18_Wrong_L0 l Q0 Q1 (i : Int) := by
  intro n
  induction n with
  | zero =>
    intro i h q0 q1
    refine lombardref18_Wrong_l0 ?_
    unfold lombardref18_Wrong_w0
    rw [lenM_eq]
    rw [List.drop_of_length_le (by omega)] at q1
    exact Br.neg (by omega) (Lf.i (q1 rfl))
  | succ n ih =>
    intro i h q0 q1
    have hs : i < l.length := by omega
    refine lombardref18_Wrong_l0 ?_
    unfold lombardref18_Wrong_w0
    rw [lenM_eq]
    rw [List.drop_eq_getElem_cons hs] at q0 q1
    have g : l[(i : Int).toNat]? = some l[i] := by simp [hs]
    have z : (0 : Int) ≤ (i : Int) := by omega
    simp only [wrongL] at q0 q1
    refine Br.pos (by omega) ⟨l[i], Got.i (Got.i (Got.i ⟨_, RCover_r, Br.i (fun c => Lf.i ?_) (fun c => Got.i (Br.i (fun c1 => Lf.i ?_) (fun c1 => Br.i (fun c2 => Lf.i ?_) (fun c2 => Got.i (Got.i (Br.i (fun c3 => Lf.i ?_) (fun c3 => ?_)) z g) z g))) z g)⟩ z g) z g) z g⟩
    · rw [if_pos (.inl c)] at q0; exact q0 (by decide)
    · rw [if_pos (.inr c1)] at q0; exact q0 (by decide)
    · rw [if_neg (fun e => e.elim c c1), if_pos (by unfold covC; omega)] at q0; exact q0 (by decide)
    · rw [if_neg (fun e => e.elim c c1), if_neg (by unfold covC; omega), if_pos (.inr c3)] at q0; exact q0 (by decide)
    · have c3 := Decidable.not_not.1 c3
      rw [if_neg (fun e => e.elim c c1), if_neg (by unfold covC; omega)] at q0 q1
      refine rwrong_l1 hs hl i 0 (by omega) (fun hm => Lf.i ?_) (fun hm => Num.n (by omega) (ih (i + 1) (by omega) (fun hx => ?_) (fun hx => ?_)))
      · rw [List.drop_zero] at hm
        rw [if_pos (.inl hm)] at q0; exact q0 (by decide)
      · rw [List.drop_zero] at hm
        have e : ¬ (l[i].Asset.ISIN ∈ (l.take i).map (·.Asset.ISIN) ∨ l[i].Asset.ISIN ≠ l[i].Lot.ISIN) := fun e => e.elim hm (fun k => k c3)
        rw [if_neg e] at q0
        rw [List.take_succ_eq_append_getElem hs, List.map_append] at hx ⊢
        exact q0 hx
      · rw [List.drop_zero] at hm
        have e : ¬ (l[i].Asset.ISIN ∈ (l.take i).map (·.Asset.ISIN) ∨ l[i].Asset.ISIN ≠ l[i].Lot.ISIN) := fun e => e.elim hm (fun k => k c3)
        rw [if_neg e] at q1
        rw [List.take_succ_eq_append_getElem hs, List.map_append] at hx
        exact q1 hx
theorem Wrong_r {l : List RI} : lombardref18_Wrong_r l (wrongS l) := by
  refine lombardref18_Wrong_of ?_
  unfold lombardref18_Wrong_w wrongS
  rw [lenM_eq]
  refine Br.i (fun c => Rt.i (by rw [if_pos (by omega)])) (fun c => ?_)
  exact rwrong_l (by omega) l.length 0 (by omega) (fun h => Rt.i (by rw [if_neg (by omega)]; rfl)) (fun h => Rt.i (by rw [if_neg (by omega)]; exact h.symm))
/-- What isn't wrong. -/
structure It (x : HI) : Prop where
  good : goodS x.Price x.Cut = true
  pos : 1 ≤ x.Lot.Qty
  top : x.Lot.Qty ≤ 1125899906842624
theorem it_of {x : RI} (h : ¬ ((coverS x.Lot.Qty x.Price x.Cut).2 ≠ 0 ∨ x.Lot.Qty = 0)) : It (toH x) := by
  have h1 : (coverS x.Lot.Qty x.Price x.Cut).2 = 0 := Decidable.byContradiction fun k => h (.inl k)
  have h2 : x.Lot.Qty ≠ 0 := fun k => h (.inr k)
  unfold coverS at h1
  split at h1
  · cases h1
  · rename_i hg
    split at h1
    · rename_i hw; exact absurd h1 hw
    · rename_i hw
      have hw := Decidable.not_not.1 hw
      unfold worthS at hw
      refine ⟨by simpa [toH] using hg, ?_, ?_⟩
      · show 1 ≤ x.Lot.Qty
        by_cases k : x.Lot.Qty < 0
        · rw [if_pos k] at hw; cases hw
        · omega
      · show x.Lot.Qty ≤ 1125899906842624
        by_cases k : x.Lot.Qty < 0
        · omega
        · rw [if_neg k] at hw
          by_cases k2 : 1125899906842624 < x.Lot.Qty
          · rw [if_pos k2] at hw; cases hw
          · omega
theorem wrong_it : ∀ (l : List RI) (seen : List ByteArray), wrongL seen l = 0 → (∀ x ∈ l, It (toH x) ∧ covC x ≤ 1125899906842624 ∧ x.Asset.ISIN = x.Lot.ISIN ∧ x.Lot.ISIN ∉ seen) ∧ l.Pairwise (fun x y => x.Lot.ISIN ≠ y.Lot.ISIN)
  | [], seen, _ => ⟨by simp, List.Pairwise.nil⟩
  | x :: l, seen, h => by
    simp only [wrongL] at h
    split at h
    · cases h
    · rename_i h1
      split at h
      · cases h
      · rename_i h2
        split at h
        · cases h
        · rename_i h3
          have e : x.Asset.ISIN = x.Lot.ISIN := Decidable.byContradiction fun k => h3 (.inr k)
          have ns : x.Asset.ISIN ∉ seen := fun k => h3 (.inl k)
          obtain ⟨i1, i2⟩ := wrong_it l _ h
          refine ⟨fun y hy => ?_, List.pairwise_cons.2 ⟨fun y hy k => ?_, i2⟩⟩
          · rcases List.mem_cons.1 hy with rfl | hy
            · exact ⟨it_of h1, by omega, e, by rw [← e]; exact ns⟩
            · obtain ⟨a, b, c, d⟩ := i1 y hy
              exact ⟨a, b, c, fun k => d (by simp [k])⟩
          · have := (i1 y hy).2.2.2
            exact this (by rw [← k, e]; simp)

/-! In order. -/
theorem ahead_eq (a b : RI) : lombardref17_Ahead_r a b (!leE (toH b) (toH a)) := by
  refine lombardref17_Ahead_of ?_
  unfold lombardref17_Ahead_w
  have key : (!leE (toH b) (toH a)) = decide (¬ leP (toH b) (toH a)) := by
    unfold leE; by_cases k : leP (toH b) (toH a)
    · rw [decide_eq_true k, decide_eq_false (fun h => h k)]; rfl
    · rw [decide_eq_false k, decide_eq_true k]; rfl
  rw [key]
  refine Br.i (fun c => Rt.i ?_) (fun c => Br.i (fun c2 => Rt.i ?_) (fun c2 => Rt.i ?_))
  · refine decide_eq_decide.2 ?_
    unfold leP
    constructor
    · intro h k
      rcases k with k | ⟨k, _⟩
      · have k : b.Cut < a.Cut := k
        omega
      · exact c k.symm
    · intro h
      have : ¬ b.Cut < a.Cut := fun k => h (.inl k)
      omega
  · have c := Decidable.not_not.1 c
    refine decide_eq_decide.2 ?_
    unfold leP
    constructor
    · intro h k
      rcases k with k | ⟨_, k | ⟨k, _⟩⟩
      · have k : b.Cut < a.Cut := k
        omega
      · have k : b.Asset.Maturity < a.Asset.Maturity := k
        omega
      · exact c2 k.symm
    · intro h
      have : ¬ b.Asset.Maturity < a.Asset.Maturity := fun k => h (.inr ⟨c.symm, .inl k⟩)
      omega
  · have c := Decidable.not_not.1 c
    have c2 := Decidable.not_not.1 c2
    rw [strLt_s]
    refine decide_eq_decide.2 ?_
    unfold leP
    constructor
    · intro h k
      rcases k with k | ⟨_, k | ⟨_, k⟩⟩
      · have k : b.Cut < a.Cut := k
        omega
      · have k : b.Asset.Maturity < a.Asset.Maturity := k
        omega
      · exact k h
    · intro h
      exact Decidable.byContradiction fun k => h (.inr ⟨c.symm, .inr ⟨c2.symm, k⟩⟩)
theorem rank_l1 {l : List RI} {out : List HI} {i : Nat} (hi : i < l.length) (hl : l.length ≤ 1000) (ho : out.length ≤ 1000) {Q : Int → Prop}
    (q : ∀ m : Nat, m ≤ out.length → (m = 0 ∨ leE (at_ out (m - 1)) (toH l[i]) = true) → (m < out.length → leE (at_ out m) (toH l[i]) = false) → Q m) :
    ∀ (m : Nat), m ≤ out.length → (m < out.length → leE (at_ out m) (toH l[i]) = false) → lombardref17_Rank_L1 l i (out.map toR) Q (m : Int) := by
  intro m
  induction m with
  | zero =>
    intro hm h
    refine lombardref17_Rank_l1 ?_
    unfold lombardref17_Rank_w1
    exact Br.neg (by omega) (Lf.i (q 0 hm (.inl rfl) h))
  | succ m ih =>
    intro hm h
    refine lombardref17_Rank_l1 ?_
    unfold lombardref17_Rank_w1
    have g : l[(i : Int).toNat]? = some l[i] := by simp [hi]
    have e : ((m + 1 : Nat) : Int) - 1 = (m : Int) := by omega
    rw [e]
    have hm' : m < out.length := by omega
    have g2 : (out.map toR)[(m : Int).toNat]? = some (toR (at_ out m)) := by
      rw [Int.toNat_natCast, List.getElem?_map, get_at hm']; rfl
    refine Br.pos (by omega) ⟨l[i], Got.i (Num.n (by omega) (InL.i ⟨toR (at_ out m), EltG.i ⟨_, ahead_eq _ _, ?_⟩ g2⟩ (by omega) (by simpa using hm'))) (by omega) g⟩
    refine Br.b (fun c => Num.n (by omega) (ih (by omega) (fun _ => by have c2 : (!leE (at_ out m) (toH l[i])) = true := c; simpa using c2))) (fun c => Lf.i (q (m + 1) hm (.inr ?_) h))
    have c2 : (!leE (at_ out m) (toH l[i])) = false := c
    simpa using c2
theorem rank_l0 {l : List RI} (hl : l.length ≤ 1000) {Q : List RI → Prop} : ∀ (n i : Nat) (out : List HI), n + i = l.length → out.length = i → Srt out → Q (((l.drop i).map toH).foldl (insS leE) out |>.map toR) → lombardref17_Rank_L0 l Q (i : Int) (out.map toR) := by
  intro n
  induction n with
  | zero =>
    intro i out h ho hs q
    refine lombardref17_Rank_l0 ?_
    unfold lombardref17_Rank_w0
    rw [lenM_eq]
    rw [List.drop_of_length_le (by omega)] at q
    exact Br.neg (by omega) (Lf.i (by simpa using q))
  | succ n ih =>
    intro i out h ho hs q
    have hi : i < l.length := by omega
    refine lombardref17_Rank_l0 ?_
    unfold lombardref17_Rank_w0
    rw [lenM_eq, lenM_eq, List.length_map]
    rw [List.drop_eq_getElem_cons hi, List.map_cons, List.foldl_cons] at q
    have g : l[(i : Int).toNat]? = some l[i] := by simp [hi]
    refine Br.pos (by omega) (rank_l1 hi hl (by omega) (fun m hm h1 h2 => ?_) out.length (Nat.le_refl _) (fun h => by omega))
    have tk : ((out.map toR).take ((m : Int)).toNat) = (out.take m).map toR := by simp [List.map_take]
    have dr : ((out.map toR).drop ((m : Int)).toNat) = (out.drop m).map toR := by simp [List.map_drop]
    rw [tk, dr]
    have lt : ((out.take m).map toR).length = m := by simp; omega
    have ld : ((out.drop m).map toR).length = i - m := by simp; omega
    have e : insS leE out (toH l[i]) = out.take m ++ toH l[i] :: out.drop m := by
      have := insS_back (le := leE) (toH l[i]) (out.take m) (out.drop m) (fun a ha => ?_) (fun a ha => ?_)
      · rwa [List.take_append_drop] at this
      · have m0 : 0 < m := Nat.pos_of_ne_zero fun k => by subst k; simp at ha
        have h1 := h1.resolve_left (by omega)
        obtain ⟨j, hj, rfl⟩ := List.getElem_of_mem ha
        have hj' : j < m := by simp at hj; omega
        rw [List.getElem_take]
        have a1 : at_ out (m - 1) = out[m - 1]'(by omega) := at_of (List.getElem?_eq_getElem (by omega))
        rw [a1] at h1
        by_cases k : j = m - 1
        · subst k; exact h1
        · exact leE_trans _ _ _ (List.pairwise_iff_getElem.1 hs j (m - 1) (by omega) (by omega) (by omega)) h1
      · have hm2 : m < out.length := Nat.lt_of_not_le fun k => by rw [List.drop_of_length_le k] at ha; cases ha
        have h2 := h2 hm2
        rw [List.drop_eq_getElem_cons hm2] at ha
        cases ha
        have a1 : at_ out m = out[m] := at_of (List.getElem?_eq_getElem hm2)
        rw [a1] at h2; exact h2
    refine CutLh.i ⟨by omega, by simpa using hm⟩ (ApZ.i (app96 (by omega)) ⟨l[i], Got.i (App2.i (app96 (by simp; omega)) (CutLl.i ⟨by omega, by simpa using hm⟩ (App2.i (app96 (by simp; omega)) (Num.n (by omega) ?_)))) (by omega) g⟩)
    have := ih (i + 1) (insS leE out (toH l[i])) (by omega) (by rw [e]; simp; omega) (mg_sorted leE_trans leE_total _ _ hs (List.pairwise_singleton _ _)) q
    rw [e, List.map_append, List.map_cons] at this
    rw [List.append_assoc]
    exact this
theorem RRank_r {l : List RI} (hl : l.length ≤ 1000) : lombardref17_Rank_r l ((isort leE (l.map toH)).map toR) := by
  refine lombardref17_Rank_of ?_
  unfold lombardref17_Rank_w
  exact rank_l0 hl l.length 0 [] (by omega) rfl List.Pairwise.nil (Rt.i (by simp [isort]))
end Go.Proofs.Ytgncepjnbdhmkaa.Pure
namespace Go.Proofs.Ytgncepjnbdhmkaa.Pure
open Go Go.Ab Go.Stable Go.Proofs.Ytgncepjnbdhmkaa.R
set_option linter.unusedVariables false
def covH (x : HI) : Int := covC (toR x)
def setQ (x : HI) (q : Int) : HI := ⟨⟨x.Lot.ISIN, q⟩, x.Asset, x.Price, x.Cut⟩
theorem HCover_r (x : HI) : _haircut_Item_Cover_r x (covH x) := ICover_r (toR x)
theorem RHCovers_r (x : HI) : _lombardref15_Item_Covers_r (toR x) (covH x) := RCovers_r (toR x)
theorem cov_q {x : HI} {q : Int} (h : goodS x.Price x.Cut = true) (hq : 0 ≤ q ∧ q ≤ 1125899906842624) : covH (setQ x q) = cv q x.Price x.Cut := by
  have := cover_val h hq
  show (coverS q x.Price x.Cut).1 = _
  rw [this]

/-! Where a security is. -/
def atH (s : ByteArray) : List HI → Int
  | [] => -1
  | y :: l => if y.Lot.ISIN = s then 0 else if atH s l < 0 then -1 else atH s l + 1
theorem atH_or (s : ByteArray) : ∀ l : List HI, (atH s l = -1 ∧ ∀ y ∈ l, y.Lot.ISIN ≠ s) ∨ (∃ A y B, l = A ++ y :: B ∧ y.Lot.ISIN = s ∧ atH s l = (A.length : Nat))
  | [] => .inl ⟨rfl, by simp⟩
  | z :: l => by
    simp only [atH]
    by_cases c : z.Lot.ISIN = s
    · rw [if_pos c]; exact .inr ⟨[], z, l, rfl, c, rfl⟩
    · rw [if_neg c]
      rcases atH_or s l with ⟨h1, h2⟩ | ⟨A, y, B, h1, h2, h3⟩
      · rw [if_pos (by omega)]
        refine .inl ⟨rfl, fun y hy => ?_⟩
        rcases List.mem_cons.1 hy with rfl | hy
        · exact c
        · exact h2 y hy
      · rw [if_neg (by omega)]
        exact .inr ⟨z :: A, y, B, by rw [h1]; rfl, h2, by rw [h3]; simp⟩
theorem ofc_r (x : HI) (s : ByteArray) : alloc_filler_of_1_r x s (strEq x.Lot.ISIN s) := by
  refine alloc_filler_of_1_of ?_
  unfold alloc_filler_of_1_w
  exact Rt.i rfl
theorem find_l {out : List HI} {s : ByteArray} {Q0 : Int → Prop} {Q1 : Unit → Prop} (hl : out.length ≤ 1000) : ∀ (n i : Nat), n + i = out.length → (0 ≤ atH s (out.drop i) → Q0 (i + atH s (out.drop i))) → (atH s (out.drop i) = -1 → Q1 ()) →
    slices_IndexFunc_haircut_Item_haircut_Item_o_f82c_L0 out s Q0 Q1 (i : Int) := by
  intro n
  induction n with
  | zero =>
    intro i h q0 q1
    refine slices_IndexFunc_haircut_Item_haircut_Item_o_f82c_l0 ?_
    unfold slices_IndexFunc_haircut_Item_haircut_Item_o_f82c_w0
    rw [lenM_eq]
    rw [List.drop_of_length_le (by omega)] at q1
    exact Br.neg (by omega) (Lf.i (q1 rfl))
  | succ n ih =>
    intro i h q0 q1
    have hs : i < out.length := by omega
    refine slices_IndexFunc_haircut_Item_haircut_Item_o_f82c_l0 ?_
    unfold slices_IndexFunc_haircut_Item_haircut_Item_o_f82c_w0
    rw [lenM_eq]
    rw [List.drop_eq_getElem_cons hs] at q0 q1
    have g : out[(i : Int).toNat]? = some out[i] := by simp [hs]
    simp only [atH] at q0 q1
    refine Br.pos (by omega) (InL.i ⟨out[i], EltG.i ⟨_, ofc_r _ _, Br.i (fun c => Lf.i ?_) (fun c => Num.n (by omega) ?_)⟩ g⟩ (by omega) (by simpa using hs))
    · rw [if_pos c] at q0; simpa using q0 (Int.le_refl _)
    · rw [if_neg c] at q0 q1
      refine ih (i + 1) (by omega) (fun h0 => ?_) (fun h0 => q1 (by rw [if_pos (by omega)]))
      rw [if_neg (by omega)] at q0
      have := q0 (by omega)
      rw [show (((i + 1 : Nat)) : Int) + atH s (out.drop (i + 1)) = (i : Int) + (atH s (out.drop (i + 1)) + 1) by omega]
      exact this
theorem atH_nn (s : ByteArray) (l : List HI) : atH s l = -1 ∨ 0 ≤ atH s l := by
  rcases atH_or s l with ⟨h, _⟩ | ⟨A, y, B, _, _, h⟩
  · exact .inl h
  · exact .inr (by omega)
theorem FOf_r {t : limit_Table} {out : List HI} {s : ByteArray} (hl : out.length ≤ 1000) : alloc_filler_of_r ⟨t, out⟩ s (atH s out, ⟨t, out⟩) := by
  refine alloc_filler_of_of ?_
  unfold alloc_filler_of_w
  refine ⟨atH s out, slices_IndexFunc_haircut_Item_haircut_Item_o_f82c_of ?_, Rt.i rfl⟩
  unfold slices_IndexFunc_haircut_Item_haircut_Item_o_f82c_w
  exact find_l hl out.length 0 (by omega) (fun h => Rt.i (by simp)) (fun h => Rt.i (by simpa using h.symm))
theorem at_l {out : List HI} {s : ByteArray} {Q0 : Int → Prop} {Q1 : Unit → Prop} (hl : out.length ≤ 1000) : ∀ (n i : Nat), n + i = out.length → (0 ≤ atH s (out.drop i) → Q0 (i + atH s (out.drop i))) → (atH s (out.drop i) = -1 → Q1 ()) →
    lombardref18_at_L0 (out.map toR) s Q0 Q1 (i : Int) := by
  intro n
  induction n with
  | zero =>
    intro i h q0 q1
    refine lombardref18_at_l0 ?_
    unfold lombardref18_at_w0
    rw [lenM_eq, List.length_map]
    rw [List.drop_of_length_le (by omega)] at q1
    exact Br.neg (by omega) (Lf.i (q1 rfl))
  | succ n ih =>
    intro i h q0 q1
    have hs : i < out.length := by omega
    refine lombardref18_at_l0 ?_
    unfold lombardref18_at_w0
    rw [lenM_eq, List.length_map]
    rw [List.drop_eq_getElem_cons hs] at q0 q1
    have g : (out.map toR)[(i : Int).toNat]? = some (toR out[i]) := by simp [hs]
    simp only [atH] at q0 q1
    refine Br.pos (by omega) ⟨toR out[i], Got.i (Br.i (fun c => Lf.i ?_) (fun c => Num.n (by omega) ?_)) (by omega) g⟩
    · have c : out[i].Lot.ISIN = s := c
      rw [if_pos c] at q0; simpa using q0 (Int.le_refl _)
    · have c : ¬ out[i].Lot.ISIN = s := c
      rw [if_neg c] at q0 q1
      refine ih (i + 1) (by omega) (fun h0 => ?_) (fun h0 => q1 (by rw [if_pos (by omega)]))
      rw [if_neg (by omega)] at q0
      have := q0 (by omega)
      rw [show (((i + 1 : Nat)) : Int) + atH s (out.drop (i + 1)) = (i : Int) + (atH s (out.drop (i + 1)) + 1) by omega]
      exact this
theorem RAt_r {out : List HI} {s : ByteArray} (hl : out.length ≤ 1000) : lombardref18_at_r (out.map toR) s (atH s out) := by
  refine lombardref18_at_of ?_
  unfold lombardref18_at_w
  exact at_l hl out.length 0 (by omega) (fun h => Rt.i (by simp)) (fun h => Rt.i (by simpa using h.symm))

/-! How many are taken. -/
def q0F (t : limit_Table) (x : HI) (qty cover : Int) : Int :=
  if (leastS (openT t + cover) x.Price x.Cut).2 = true ∧ (leastS (openT t + cover) x.Price x.Cut).1 ≤ qty + x.Lot.Qty then (leastS (openT t + cover) x.Price x.Cut).1 else qty + x.Lot.Qty
def q1F (t : limit_Table) (x : HI) (cover q : Int) : Int := if room t x.Asset < cv q x.Price x.Cut - cover then mostS (room t x.Asset + cover) x.Price x.Cut q else q
def qF (t : limit_Table) (x : HI) (qty cover : Int) : Int := q1F t x cover (q0F t x qty cover)
theorem leastS_bd {n p c : Int} (h : goodS p c = true) : 0 ≤ (leastS n p c).1 ∧ (leastS n p c).1 ≤ 1125899906842624 := by
  unfold leastS
  rw [if_neg (by simp [h])]
  split
  · simp
  · split
    · simp
    · have := least_nn (need := n) h (by omega)
      simp; omega
theorem q0_bd {t : limit_Table} {x : HI} {qty cover : Int} (hx : It x) (h0 : 0 ≤ qty) (h1 : qty + x.Lot.Qty ≤ 1125899906842624) : 0 ≤ q0F t x qty cover ∧ q0F t x qty cover ≤ 1125899906842624 := by
  have h2 := hx.pos
  have := leastS_bd (n := openT t + cover) hx.good
  unfold q0F
  split <;> omega
theorem q1_bd {t : limit_Table} {x : HI} {cover q : Int} (hx : It x) (ht : Tok t) (hc : 0 ≤ cover) (hq : 0 ≤ q ∧ q ≤ 1125899906842624) : (0 ≤ q1F t x cover q ∧ q1F t x cover q ≤ 1125899906842624) ∧ cv (q1F t x cover q) x.Price x.Cut - cover ≤ room t x.Asset := by
  have hr := room_le (a := x.Asset) ht
  unfold q1F
  split
  · have lp := least_pos (c := x.Cut) (p := x.Price) hx.good (show 0 ≤ room t x.Asset + cover by omega)
    unfold mostS
    rw [if_neg (by simp [hx.good]), if_neg (by omega), if_neg (by omega), if_neg (by omega)]
    split
    · rename_i h
      have := (most_le hx.good).1 h
      exact ⟨hq, by omega⟩
    · rename_i h
      have := (most_le (limit := room t x.Asset + cover) (q := least (room t x.Asset + cover + 1) x.Price x.Cut - 1) hx.good).1 (by omega)
      exact ⟨⟨by omega, by omega⟩, by omega⟩
  · exact ⟨hq, by omega⟩
theorem Total_r {t : limit_Table} {out : List HI} {x : HI} {qty cover : Int} (ht : Tok t) (hs : 0 ≤ t.sum) (hx : It x) (h0 : 0 ≤ qty) (h1 : qty + x.Lot.Qty ≤ 1125899906842624) (hc : 0 ≤ cover ∧ cover ≤ 4835703278458516699) :
    alloc_filler_total_r ⟨t, out⟩ x qty cover (qF t x qty cover) := by
  refine alloc_filler_total_of ?_
  unfold alloc_filler_total_w
  dsimp only
  have hr := room_le (a := x.Asset) ht
  have hn := ht.need
  have ho : 0 ≤ openT t ∧ openT t ≤ 1125899906842624 := by unfold openT; omega
  have hp := hx.pos
  have hb := q0_bd (t := t) (cover := cover) hx h0 h1
  have hcv := cv_bd hx.good hb
  have fin : ∀ q, q = q0F t x qty cover → ∃ r4 : Int × Int, (haircut_Cover_r q x.Price x.Cut r4) ∧ (Num .i64 (r4.1 - cover) (Br (decide ((r4.1 - cover) > room t x.Asset)) (Num .i64 (room t x.Asset + cover) (∃ r5 : Int, (haircut_Most_r (room t x.Asset + cover) x.Price x.Cut q r5) ∧ (alloc_filler_total_e ⟨t, out⟩ (fun v_ => v_ = qF t x qty cover) r5))) (alloc_filler_total_e ⟨t, out⟩ (fun v_ => v_ = qF t x qty cover) q))) := by
    intro q e
    subst e
    refine ⟨_, Cover_r, ?_⟩
    rw [cover_val hx.good hb]
    refine Num.n (by omega) (Br.i (fun c => Num.n (by omega) ⟨_, Most_r, Rt.i ?_⟩) (fun c => Rt.i ?_))
    · unfold qF q1F; rw [if_pos c]
    · unfold qF q1F; rw [if_neg c]
  refine ⟨_, TOpen_r ht, _, TRoom_r ht, Num.n (by omega) ⟨_, Least_r, ?_⟩⟩
  refine Br.b (fun c => Num.n (by omega) (fin _ ?_)) (fun c => Num.n (by omega) (Br.i (fun c2 => Num.n (by omega) (fin _ ?_)) (fun c2 => fin _ ?_)))
  · have c : (leastS (openT t + cover) x.Price x.Cut).2 = false := by simpa using c
    unfold q0F; rw [c]; simp
  · unfold q0F; rw [if_neg (by omega)]
  · have c : (leastS (openT t + cover) x.Price x.Cut).2 = true := by simpa using c
    unfold q0F; rw [if_pos ⟨c, by omega⟩]
def wasF (out : List HI) (x : HI) : HI := if 0 ≤ atH x.Lot.ISIN out then at_ out (atH x.Lot.ISIN out).toNat else setQ x 0
def nF (t : limit_Table) (out : List HI) (x : HI) : Int := covH (setQ x (qF t x (wasF out x).Lot.Qty (covH (wasF out x)))) - covH (wasF out x)
def stepF (s : limit_Table × List HI) (x : HI) : limit_Table × List HI :=
  if nF s.1 s.2 x ≤ 0 then s
  else (putT s.1 x.Asset (nF s.1 s.2 x), if 0 ≤ atH x.Lot.ISIN s.2 then s.2.set (atH x.Lot.ISIN s.2).toNat (setQ x (qF s.1 x (wasF s.2 x).Lot.Qty (covH (wasF s.2 x)))) else s.2 ++ [setQ x (qF s.1 x (wasF s.2 x).Lot.Qty (covH (wasF s.2 x)))])
def fillF : limit_Table × List HI → List HI → limit_Table × List HI
  | s, [] => s
  | s, x :: l => if openT s.1 = 0 then s else fillF (stepF s x) l
/-- What was taken goes with what is to come. -/
structure Fi (out l : List HI) : Prop where
  it : ∀ x ∈ l, It x
  apart : l.Pairwise (fun x y => x.Lot.ISIN ≠ y.Lot.ISIN)
  was : ∀ y ∈ out, goodS y.Price y.Cut = true ∧ 0 ≤ y.Lot.Qty ∧ y.Lot.Qty ≤ 1125899906842624
  both : ∀ x ∈ l, ∀ y ∈ out, y.Lot.ISIN = x.Lot.ISIN → y.Asset = x.Asset ∧ y.Price = x.Price ∧ y.Cut = x.Cut ∧ y.Lot.Qty + x.Lot.Qty ≤ 1125899906842624
theorem was_or {out l : List HI} {x : HI} (h : Fi out (x :: l)) : goodS (wasF out x).Price (wasF out x).Cut = true ∧ 0 ≤ (wasF out x).Lot.Qty ∧ (wasF out x).Lot.Qty + x.Lot.Qty ≤ 1125899906842624 ∧ (wasF out x).Lot.Qty ≤ 1125899906842624 ∧
    ((atH x.Lot.ISIN out = -1 ∧ wasF out x = setQ x 0 ∧ covH (wasF out x) = 0) ∨ (∃ A B, out = A ++ wasF out x :: B ∧ (wasF out x).Lot.ISIN = x.Lot.ISIN ∧ atH x.Lot.ISIN out = (A.length : Nat) ∧ ∀ q, setQ (wasF out x) q = setQ x q)) := by
  have ix := h.it x (by simp)
  have px := ix.pos
  have tx := ix.top
  rcases atH_or x.Lot.ISIN out with ⟨h1, h2⟩ | ⟨A, y, B, h1, h2, h3⟩
  · have e : wasF out x = setQ x 0 := by unfold wasF; rw [if_neg (by omega)]
    rw [e]
    refine ⟨ix.good, Int.le_refl _, ?_, (by decide : (0 : Int) ≤ 1125899906842624), .inl ⟨h1, rfl, ?_⟩⟩
    · show 0 + x.Lot.Qty ≤ _; omega
    · rw [cov_q ix.good (by decide)]; simp [cv]
  · have e : wasF out x = y := by
      unfold wasF; rw [if_pos (by omega), h3, Int.toNat_natCast]
      exact at_of (by rw [h1]; simp)
    have hy := h.was y (by rw [h1]; simp)
    obtain ⟨b1, b2, b3, b4⟩ := h.both x (by simp) y (by rw [h1]; simp) h2
    rw [e]
    refine ⟨hy.1, hy.2.1, b4, hy.2.2, .inr ⟨A, B, h1, h2, h3, fun q => ?_⟩⟩
    unfold setQ; rw [h2, b1, b2, b3]
theorem step_out {t : limit_Table} {out l : List HI} {x : HI} (h : Fi out (x :: l)) (ht : Tok t) : Fi (stepF (t, out) x).2 l ∧ (stepF (t, out) x).2.length ≤ out.length + 1 ∧ nF t out x ≤ room t x.Asset ∧ (0 ≤ qF t x (wasF out x).Lot.Qty (covH (wasF out x)) ∧ qF t x (wasF out x).Lot.Qty (covH (wasF out x)) ≤ 1125899906842624) ∧ 0 ≤ covH (wasF out x) ∧ covH (wasF out x) ≤ 4835703278458516699 := by
  obtain ⟨w1, w2, w3, w4, w5⟩ := was_or h
  have ix := h.it x (by simp)
  have cw : covH (wasF out x) = cv (wasF out x).Lot.Qty (wasF out x).Price (wasF out x).Cut := cov_q (x := wasF out x) w1 ⟨w2, w4⟩
  have cb := cv_bd w1 ⟨w2, w4⟩
  rw [← cw] at cb
  have qb := q1_bd (cover := covH (wasF out x)) ix ht cb.1 (q0_bd (t := t) (cover := covH (wasF out x)) ix w2 w3)
  have qb1 : 0 ≤ qF t x (wasF out x).Lot.Qty (covH (wasF out x)) ∧ qF t x (wasF out x).Lot.Qty (covH (wasF out x)) ≤ 1125899906842624 := qb.1
  have hn : nF t out x ≤ room t x.Asset := by
    unfold nF
    rw [cov_q ix.good qb1]
    exact qb.2
  have rest : ∀ o : List HI, (∀ y ∈ o, y ∈ out ∨ y = setQ x (qF t x (wasF out x).Lot.Qty (covH (wasF out x)))) → Fi o l := fun o ho => by
    refine ⟨fun z hz => h.it z (by simp [hz]), (List.pairwise_cons.1 h.apart).2, fun y hy => ?_, fun z hz y hy he => ?_⟩
    · rcases ho y hy with hy | rfl
      · exact h.was y hy
      · exact ⟨ix.good, qb1⟩
    · rcases ho y hy with hy | rfl
      · exact h.both z (by simp [hz]) y hy he
      · exact absurd he ((List.pairwise_cons.1 h.apart).1 z hz)
  refine ⟨?_, ?_, hn, qb1, cb⟩
  · unfold stepF
    split
    · exact rest _ fun y hy => .inl hy
    · dsimp only
      split
      · exact rest _ fun y hy => (List.mem_or_eq_of_mem_set hy)
      · exact rest _ fun y hy => by
          rcases List.mem_append.1 hy with hy | hy
          · exact .inl hy
          · exact .inr (List.mem_singleton.1 hy)
  · unfold stepF
    split
    · simp
    · dsimp only
      split <;> simp
def stepR (t : limit_Table) (out : List HI) (r : lombardref16_Table) (x : HI) : lombardref16_Table := if nF t out x ≤ 0 then r else withR r x.Asset (nF t out x)
theorem step_al {t : limit_Table} {out l : List HI} {x : HI} {r : lombardref16_Table} {n : Nat} (h : Fi out (x :: l)) (ha : Al r t n) (hn : n ≤ 1000) : Al (stepR t out r x) (stepF (t, out) x).1 (n + 1) := by
  have hs := step_out h ha.tok
  unfold stepR stepF
  dsimp only
  by_cases c : nF t out x ≤ 0
  · rw [if_pos c, if_pos c]
    exact ⟨ha.tok, ha.need, ha.issuer, ha.asset, ha.i, ha.a, ha.s, by have := ha.len; omega, ha.bd, by have := ha.s0; dsimp only; omega⟩
  · rw [if_neg c, if_neg c]
    exact Al_put ha hn (by omega) hs.2.2.1
end Go.Proofs.Ytgncepjnbdhmkaa.Pure
namespace Go.Proofs.Ytgncepjnbdhmkaa.Pure
open Go Go.Ab Go.Stable Go.Proofs.Ytgncepjnbdhmkaa.R
set_option linter.unusedVariables false
theorem fill_l {L : List HI} {Q0 Q1 : (List haircut_Item) × Int × Int × Int × Int × (GM Int Int) × (GM ByteArray Int) → Prop} (hl : L.length ≤ 100) : ∀ (n i : Nat) (t : limit_Table) (out : List HI) (r : lombardref16_Table) (m : Nat), n + i = L.length → Fi out (L.drop i) → Al r t m → m + n ≤ 500 → out.length + n ≤ 500 →
    (∀ t' out', fillF (t, out) (L.drop i) = (t', out') → Q0 (out', t'.need, t'.issuer, t'.asset, t'.sum, t'.issuers, t'.assets) ∧ Q1 (out', t'.need, t'.issuer, t'.asset, t'.sum, t'.issuers, t'.assets)) →
    alloc_filler_fill_L0 L Q0 Q1 (i : Int) t.need t.issuer t.asset t.sum t.issuers t.assets out := by
  intro n
  induction n with
  | zero =>
    intro i t out r m h hf ha hm ho q
    refine alloc_filler_fill_l0 ?_
    unfold alloc_filler_fill_w0
    rw [lenM_eq]
    rw [List.drop_of_length_le (by omega)] at q
    exact Br.neg (by omega) (Lf.i (q t out rfl).1)
  | succ n ih =>
    intro i t out r m h hf ha hm ho q
    have hs : i < L.length := by omega
    refine alloc_filler_fill_l0 ?_
    unfold alloc_filler_fill_w0
    rw [lenM_eq]
    rw [List.drop_eq_getElem_cons hs] at q hf
    have g : L[(i : Int).toNat]? = some L[i] := by simp [hs]
    refine Br.pos (by omega) ⟨L[i], Got.i ⟨openT t, TOpen_r ha.tok, Br.i (fun c => Lf.i ?_) (fun c => ⟨_, FOf_r (t := t) (out := out) (by omega), ?_⟩)⟩ (by omega) g⟩
    · refine (q t out ?_).2
      simp only [fillF]; rw [if_pos c]
    · simp only [fillF] at q
      rw [if_neg c] at q
      obtain ⟨w1, w2, w3, w4, w5⟩ := was_or hf
      obtain ⟨s1, s2, s3, s4, s5, s6⟩ := step_out hf ha.tok
      have sal := step_al hf ha (by omega)
      have ix := hf.it L[i] (List.mem_cons_self ..)
      have hsum := ha.s0
      have hroom := room_le (a := L[i].Asset) ha.tok
      have nx : Num .i64 ((i : Int) + 1) (alloc_filler_fill_L0 L Q0 Q1 ((i : Int) + 1) (stepF (t, out) L[i]).1.need (stepF (t, out) L[i]).1.issuer (stepF (t, out) L[i]).1.asset (stepF (t, out) L[i]).1.sum (stepF (t, out) L[i]).1.issuers (stepF (t, out) L[i]).1.assets (stepF (t, out) L[i]).2) :=
        Num.n (by omega) (ih (i + 1) _ _ _ (m + 1) (by omega) s1 sal (by omega) (by omega) q)
      have cn := covC_ok (toR (setQ L[i] (qF t L[i] (wasF out L[i]).Lot.Qty (covH (wasF out L[i])))))
      have J : alloc_filler_fill_j4 (atH L[i].Lot.ISIN out, ⟨t, out⟩) L (i : Int) L[i] (alloc_filler_fill_L0 L Q0 Q1) Q0 Q1 ((wasF out L[i]).Lot.Qty, covH (wasF out L[i])) := by
        unfold alloc_filler_fill_j4
        refine Jn.i ⟨_, Total_r ha.tok hsum.1 ix w2 w3 ⟨s5, s6⟩, _, HCover_r (setQ L[i] (qF t L[i] (wasF out L[i]).Lot.Qty (covH (wasF out L[i])))), Num.n ?_ ?_⟩
        · have : covH (setQ L[i] (qF t L[i] (wasF out L[i]).Lot.Qty (covH (wasF out L[i])))) = covC (toR (setQ L[i] (qF t L[i] (wasF out L[i]).Lot.Qty (covH (wasF out L[i]))))) := rfl
          omega
        · show Br (decide (nF t out L[i] ≤ 0)) _ _
          unfold stepF at nx
          dsimp only at nx
          refine Br.i (fun c2 => ?_) (fun c2 => ?_)
          · rw [if_pos c2] at nx; exact nx
          · rw [if_neg c2] at nx
            refine ⟨(0, putT t L[i].Asset (nF t out L[i])), TAdd_ok ha.tok (show 0 ≤ nF t out L[i] by omega) s3, Br.neg (fun h => h rfl) ?_⟩
            dsimp only at nx ⊢
            refine Br.i (fun c3 => ?_) (fun c3 => ?_)
            · rw [if_pos c3] at nx
              rcases w5 with ⟨e1, _⟩ | ⟨A, B, e1, e2, e3, e4⟩
              · omega
              · have hlt : (atH L[i].Lot.ISIN out).toNat < out.length := by rw [e3, Int.toNat_natCast, e1]; simp
                have gw : out[(atH L[i].Lot.ISIN out).toNat]? = some (wasF out L[i]) := by
                  rw [e3, Int.toNat_natCast]
                  have : (A ++ wasF out L[i] :: B)[A.length]? = some (wasF out L[i]) := by simp
                  rw [← e1] at this; exact this
                refine InL.i ⟨wasF out L[i], EltS.i ?_ gw⟩ c3 (by simpa using hlt)
                have e5 := e4 (qF t L[i] (wasF out L[i]).Lot.Qty (covH (wasF out L[i])))
                show Num .i64 ((i : Int) + 1) (alloc_filler_fill_L0 L Q0 Q1 ((i : Int) + 1) _ _ _ _ _ _ (out.set (atH L[i].Lot.ISIN out).toNat (setQ (wasF out L[i]) (qF t L[i] (wasF out L[i]).Lot.Qty (covH (wasF out L[i]))))))
                rw [e5]; exact nx
            · rw [if_neg c3] at nx
              exact App2.i (app96 (by simp; omega)) nx
      rcases w5 with ⟨e1, e2, e3⟩ | ⟨A, B, e1, e2, e3, e4⟩
      · rw [e2] at J
        have e3' : covH (setQ L[i] 0) = 0 := by rw [← e2]; exact e3
        rw [e3'] at J
        exact Br.neg (by dsimp only; omega) J
      · have hlt : (atH L[i].Lot.ISIN out).toNat < out.length := by rw [e3, Int.toNat_natCast, e1]; simp
        have gw : out[(atH L[i].Lot.ISIN out).toNat]? = some (wasF out L[i]) := by
          rw [e3, Int.toNat_natCast]
          have : (A ++ wasF out L[i] :: B)[A.length]? = some (wasF out L[i]) := by simp
          rw [← e1] at this; exact this
        have c3 : 0 ≤ atH L[i].Lot.ISIN out := by omega
        exact Br.pos (by dsimp only; omega) (InL.i ⟨wasF out L[i], EltG.i (InL.i (EltG.i ⟨_, HCover_r _, J⟩ gw) c3 (by simpa using hlt)) gw⟩ c3 (by simpa using hlt))
def fillR : limit_Table × List HI → lombardref16_Table → List HI → lombardref16_Table
  | _, r, [] => r
  | s, r, x :: l => if openT s.1 = 0 then r else fillR (stepF s x) (stepR s.1 s.2 r x) l
theorem rfill_l {L : List HI} {Q : (List lombardref15_Item) × Int × Int × Int × (List lombardref16_Part) → Prop} (hl : L.length ≤ 100) : ∀ (n i : Nat) (t : limit_Table) (out : List HI) (r : lombardref16_Table) (m : Nat), n + i = L.length → Fi out (L.drop i) → Al r t m → m + n ≤ 500 → out.length + n ≤ 500 →
    Q ((fillF (t, out) (L.drop i)).2.map toR, (fillR (t, out) r (L.drop i)).Need, (fillR (t, out) r (L.drop i)).Issuer, (fillR (t, out) r (L.drop i)).Asset, (fillR (t, out) r (L.drop i)).L) →
    lombardref18_Filled_L0 (L.map toR) Q (i : Int) (out.map toR) r.Need r.Issuer r.Asset r.L := by
  intro n
  induction n with
  | zero =>
    intro i t out r m h hf ha hm ho q
    refine lombardref18_Filled_l0 ?_
    unfold lombardref18_Filled_w0
    rw [lenM_eq, List.length_map]
    rw [List.drop_of_length_le (by omega)] at q
    exact Br.neg (by omega) (Lf.i q)
  | succ n ih =>
    intro i t out r m h hf ha hm ho q
    have hs : i < L.length := by omega
    refine lombardref18_Filled_l0 ?_
    unfold lombardref18_Filled_w0
    rw [lenM_eq, List.length_map]
    rw [List.drop_eq_getElem_cons hs] at q hf
    have g : (L.map toR)[(i : Int).toNat]? = some (toR L[i]) := by simp [hs]
    have o0 : 0 ≤ openT t := by unfold openT; omega
    have hneed := ha.tok.need
    have hsum := ha.s0
    have o1 : openT t ≤ 1125899906842624 := by unfold openT; omega
    refine Br.pos (by omega) ⟨openT t, ROpen_r ha (by omega), Br.i (fun c => ⟨toR L[i], Got.i ⟨_, RAt_r (by omega), ?_⟩ (by omega) g⟩) (fun c => Lf.i ?_)⟩
    case refine_2 =>
      simp only [fillF, fillR] at q
      rw [if_pos (by omega), if_pos (by omega)] at q
      exact q
    simp only [fillF, fillR] at q
    rw [if_neg (by omega), if_neg (by omega)] at q
    obtain ⟨w1, w2, w3, w4, w5⟩ := was_or hf
    obtain ⟨s1, s2, s3, s4, s5, s6⟩ := step_out hf ha.tok
    have sal := step_al hf ha (by omega)
    have ix := hf.it L[i] (List.mem_cons_self ..)
    have px := ix.pos
    have hroom := room_le (a := L[i].Asset) ha.tok
    have nx : Num .i64 ((i : Int) + 1) (lombardref18_Filled_L0 (L.map toR) Q ((i : Int) + 1) ((stepF (t, out) L[i]).2.map toR) (stepR t out r L[i]).Need (stepR t out r L[i]).Issuer (stepR t out r L[i]).Asset (stepR t out r L[i]).L) :=
      Num.n (by omega) (ih (i + 1) _ _ _ (m + 1) (by omega) s1 sal (by omega) (by omega) q)
    have cn := covC_ok (toR (setQ L[i] (qF t L[i] (wasF out L[i]).Lot.Qty (covH (wasF out L[i])))))
    have wC := RHCovers_r (wasF out L[i])
    have nC := RHCovers_r (setQ L[i] (qF t L[i] (wasF out L[i]).Lot.Qty (covH (wasF out L[i]))))
    have J8 : lombardref18_Filled_j8 (out.map toR) (L.map toR) (i : Int) (atH L[i].Lot.ISIN out) r.Need r.Issuer r.Asset r.L (toR L[i]) ((wasF out L[i]).Lot.ISIN, (wasF out L[i]).Lot.Qty, (wasF out L[i]).Asset.ISIN, (wasF out L[i]).Asset.Issuer, (wasF out L[i]).Asset.Rating, (wasF out L[i]).Asset.Maturity, (wasF out L[i]).Asset.Currency, (wasF out L[i]).Price, (wasF out L[i]).Cut) (lombardref18_Filled_L0 (L.map toR) Q) Q (qF t L[i] (wasF out L[i]).Lot.Qty (covH (wasF out L[i]))) := by
      unfold lombardref18_Filled_j8
      refine Jn.i ⟨_, nC, _, wC, ?_⟩
      unfold stepF stepR at nx
      dsimp only at nx
      refine Br.i (fun c2 => ?_) (fun c2 => ⟨_, nC, _, wC, Num.n ?_ ⟨(withR r L[i].Asset (nF t out L[i]), 0), RAdd_r ha (by omega) (show 0 ≤ nF t out L[i] by unfold nF; omega) s3, ?_⟩⟩)
      · rw [if_pos (show nF t out L[i] ≤ 0 by unfold nF; omega), if_pos (show nF t out L[i] ≤ 0 by unfold nF; omega)] at nx; exact nx
      · have : covH (setQ L[i] (qF t L[i] (wasF out L[i]).Lot.Qty (covH (wasF out L[i])))) = covC (toR (setQ L[i] (qF t L[i] (wasF out L[i]).Lot.Qty (covH (wasF out L[i]))))) := rfl
        omega
      · rw [if_neg (show ¬ nF t out L[i] ≤ 0 by unfold nF; omega), if_neg (show ¬ nF t out L[i] ≤ 0 by unfold nF; omega)] at nx
        dsimp only at nx ⊢
        refine ApZ.i (app96 (by simp; omega)) (Br.i (fun c3 => ?_) (fun c3 => ?_))
        · have c3 : 0 ≤ atH L[i].Lot.ISIN out := c3
          rw [if_pos c3, List.map_set] at nx
          rcases w5 with ⟨e1, _⟩ | ⟨A, B, e1, e2, e3, e4⟩
          · omega
          · have hlt : (atH L[i].Lot.ISIN out).toNat < out.length := by rw [e3, Int.toNat_natCast, e1]; simp
            have gw : (out.map toR)[(atH L[i].Lot.ISIN out).toNat]? = some (toR (wasF out L[i])) := by
              rw [e3, Int.toNat_natCast, List.getElem?_map]
              have : (A ++ wasF out L[i] :: B)[A.length]? = some (wasF out L[i]) := by simp
              rw [← e1] at this; rw [this]; rfl
            exact InL.i ⟨toR (wasF out L[i]), EltS.i nx gw⟩ c3 (by simpa using hlt)
        · have c3 : ¬ 0 ≤ atH L[i].Lot.ISIN out := c3
          rw [if_neg c3, List.map_append] at nx
          exact App2.i (app96 (by simp; omega)) nx
    have hb := q0_bd (t := t) (cover := covH (wasF out L[i])) ix w2 w3
    have hcv := cv_bd ix.good hb
    have J7 : lombardref18_Filled_j7 (out.map toR) (L.map toR) (i : Int) (atH L[i].Lot.ISIN out) r.Need r.Issuer r.Asset r.L (toR L[i]) ((wasF out L[i]).Lot.ISIN, (wasF out L[i]).Lot.Qty, (wasF out L[i]).Asset.ISIN, (wasF out L[i]).Asset.Issuer, (wasF out L[i]).Asset.Rating, (wasF out L[i]).Asset.Maturity, (wasF out L[i]).Asset.Currency, (wasF out L[i]).Price, (wasF out L[i]).Cut) (lombardref18_Filled_L0 (L.map toR) Q) Q (q0F t L[i] (wasF out L[i]).Lot.Qty (covH (wasF out L[i]))) := by
      unfold lombardref18_Filled_j7
      have rR := RRoom_r (a := L[i].Asset) ha (by omega)
      refine Jn.i ⟨_, RCover_r, _, wC, ?_⟩
      rw [show coverS (q0F t L[i] (wasF out L[i]).Lot.Qty (covH (wasF out L[i]))) (toR L[i]).Price (toR L[i]).Cut = _ from cover_val ix.good hb]
      have hD : -9223372036854775808 ≤ cv (q0F t L[i] (wasF out L[i]).Lot.Qty (covH (wasF out L[i]))) L[i].Price L[i].Cut - covH (wasF out L[i]) ∧ cv (q0F t L[i] (wasF out L[i]).Lot.Qty (covH (wasF out L[i]))) L[i].Price L[i].Cut - covH (wasF out L[i]) ≤ 9223372036854775807 := by omega
      refine Num.n hD ⟨_, rR, Br.i (fun c2 => ⟨_, rR, _, wC, Num.n (by omega) ⟨_, RMost_r (by omega), ?_⟩⟩) (fun c2 => ?_)⟩
      · have c2 : cv (q0F t L[i] (wasF out L[i]).Lot.Qty (covH (wasF out L[i]))) L[i].Price L[i].Cut - covH (wasF out L[i]) > room t L[i].Asset := c2
        have : qF t L[i] (wasF out L[i]).Lot.Qty (covH (wasF out L[i])) = mostS (room t L[i].Asset + covH (wasF out L[i])) L[i].Price L[i].Cut (q0F t L[i] (wasF out L[i]).Lot.Qty (covH (wasF out L[i]))) := by unfold qF q1F; rw [if_pos c2]
        rw [this] at J8; exact J8
      · have c2 : ¬ cv (q0F t L[i] (wasF out L[i]).Lot.Qty (covH (wasF out L[i]))) L[i].Price L[i].Cut - covH (wasF out L[i]) > room t L[i].Asset := c2
        have : qF t L[i] (wasF out L[i]).Lot.Qty (covH (wasF out L[i])) = q0F t L[i] (wasF out L[i]).Lot.Qty (covH (wasF out L[i])) := by unfold qF q1F; rw [if_neg c2]
        rw [this] at J8; exact J8
    have J6 : lombardref18_Filled_j6 (out.map toR) (L.map toR) (i : Int) (atH L[i].Lot.ISIN out) r.Need r.Issuer r.Asset r.L (toR L[i]) (lombardref18_Filled_L0 (L.map toR) Q) Q ((wasF out L[i]).Lot.ISIN, (wasF out L[i]).Lot.Qty, (wasF out L[i]).Asset.ISIN, (wasF out L[i]).Asset.Issuer, (wasF out L[i]).Asset.Rating, (wasF out L[i]).Asset.Maturity, (wasF out L[i]).Asset.Currency, (wasF out L[i]).Price, (wasF out L[i]).Cut) := by
      unfold lombardref18_Filled_j6
      dsimp only
      have hQ : -9223372036854775808 ≤ (wasF out L[i]).Lot.Qty + L[i].Lot.Qty ∧ (wasF out L[i]).Lot.Qty + L[i].Lot.Qty ≤ 9223372036854775807 := by omega
      refine Jn.i (Num.n hQ ⟨openT t, ROpen_r ha (by omega), _, wC, Num.n (by omega) ⟨_, RLeast_r (by omega), ?_⟩⟩)
      refine Br.b (fun c2 => Br.i (fun c3 => ?_) (fun c3 => ?_)) (fun c2 => ?_)
      · have c2 : (leastS (openT t + covH (wasF out L[i])) L[i].Price L[i].Cut).2 = true := c2
        have c3 : (leastS (openT t + covH (wasF out L[i])) L[i].Price L[i].Cut).1 < (wasF out L[i]).Lot.Qty + L[i].Lot.Qty := c3
        have : q0F t L[i] (wasF out L[i]).Lot.Qty (covH (wasF out L[i])) = (leastS (openT t + covH (wasF out L[i])) L[i].Price L[i].Cut).1 := by unfold q0F; rw [if_pos ⟨c2, by omega⟩]
        rw [this] at J7; exact J7
      · have c2 : (leastS (openT t + covH (wasF out L[i])) L[i].Price L[i].Cut).2 = true := c2
        have c3 : ¬ (leastS (openT t + covH (wasF out L[i])) L[i].Price L[i].Cut).1 < (wasF out L[i]).Lot.Qty + L[i].Lot.Qty := c3
        have : q0F t L[i] (wasF out L[i]).Lot.Qty (covH (wasF out L[i])) = (wasF out L[i]).Lot.Qty + L[i].Lot.Qty := by unfold q0F; split <;> omega
        rw [this] at J7; exact J7
      · have c2 : (leastS (openT t + covH (wasF out L[i])) L[i].Price L[i].Cut).2 = false := c2
        have : q0F t L[i] (wasF out L[i]).Lot.Qty (covH (wasF out L[i])) = (wasF out L[i]).Lot.Qty + L[i].Lot.Qty := by unfold q0F; rw [c2]; simp
        rw [this] at J7; exact J7
    rcases w5 with ⟨e1, e2, e3⟩ | ⟨A, B, e1, e2, e3, e4⟩
    · rw [e2] at J6
      exact Br.neg (by show ¬ atH L[i].Lot.ISIN out ≥ 0; omega) J6
    · have hlt : (atH L[i].Lot.ISIN out).toNat < out.length := by rw [e3, Int.toNat_natCast, e1]; simp
      have gw : (out.map toR)[(atH L[i].Lot.ISIN out).toNat]? = some (toR (wasF out L[i])) := by
        rw [e3, Int.toNat_natCast, List.getElem?_map]
        have : (A ++ wasF out L[i] :: B)[A.length]? = some (wasF out L[i]) := by simp
        rw [← e1] at this; rw [this]; rfl
      have c3 : 0 ≤ atH L[i].Lot.ISIN out := by omega
      exact Br.pos c3 ⟨toR (wasF out L[i]), Got.i J6 c3 gw⟩
end Go.Proofs.Ytgncepjnbdhmkaa.Pure
namespace Go.Proofs.Ytgncepjnbdhmkaa.Pure
open Go Go.Ab Go.Stable Go.Proofs.Ytgncepjnbdhmkaa.R
set_option linter.unusedVariables false
theorem mg_perm {α : Type} {le : α → α → Bool} : ∀ U V : List α, (mg le U V).Perm (U ++ V)
  | [], V => by simp [mg]
  | u :: U, [] => by simp [mg]
  | u :: U, v :: V => by
    rw [mg]
    split
    · exact (mg_perm U (v :: V)).cons u
    · exact ((mg_perm (u :: U) V).cons v).trans (List.perm_middle (l₁ := u :: U) (a := v) (l₂ := V)).symm
theorem isort_perm' : ∀ (L R : List E), (L.foldl (insS leE) R).Perm (R ++ L)
  | [], R => by simp
  | x :: L, R => by
    rw [List.foldl_cons]
    refine (isort_perm' L _).trans ?_
    have := (mg_perm (le := leE) R [x]).append_right L
    rw [List.append_assoc] at this
    exact this
theorem isort_perm (L : List E) : (isort leE L).Perm L := by
  have := isort_perm' L []
  simpa [isort] using this
theorem isort_len' (L : List E) : (isort leE L).length = L.length := (isort_perm L).length_eq
theorem Fi_new {l : List RI} (h : wrongS l = 0) : Fi [] (isort leE (l.map toH)) ∧ l.length ≤ 64 := by
  unfold wrongS at h
  split at h
  · cases h
  · rename_i hl
    obtain ⟨w1, w2⟩ := wrong_it l [] h
    refine ⟨⟨fun x hx => ?_, ?_, by simp, by simp⟩, by omega⟩
    · have := (isort_perm _).mem_iff.1 hx
      obtain ⟨y, hy, rfl⟩ := List.mem_map.1 this
      exact (w1 y hy).1
    · refine ((isort_perm (l.map toH)).pairwise_iff (fun h e => h e.symm)).2 ?_
      exact List.Pairwise.map _ (fun a b hab => hab) w2
theorem fillR_al : ∀ (L : List HI) (t : limit_Table) (out : List HI) (r : lombardref16_Table) (m : Nat), Fi out L → Al r t m → m + L.length ≤ 500 → ∃ m', Al (fillR (t, out) r L) (fillF (t, out) L).1 m' ∧ m' ≤ 500 ∧ (fillF (t, out) L).2.length ≤ out.length + L.length ∧ Fi (fillF (t, out) L).2 []
  | [], t, out, r, m, hf, ha, hm => ⟨m, ha, by simpa using hm, by simp [fillF], by simpa [fillF] using hf⟩
  | x :: L, t, out, r, m, hf, ha, hm => by
    simp only [List.length_cons] at hm
    simp only [fillF, fillR]
    by_cases c : openT t = 0
    · rw [if_pos c, if_pos c]; exact ⟨m, ha, by omega, by simp, ⟨by simp, List.Pairwise.nil, hf.was, by simp⟩⟩
    · rw [if_neg c, if_neg c]
      obtain ⟨s1, s2, _⟩ := step_out hf ha.tok
      obtain ⟨m', a, b, d, e⟩ := fillR_al L _ _ _ (m + 1) s1 (step_al hf ha (by omega)) (by omega)
      have d : (fillF (stepF (t, out) x) L).2.length ≤ (stepF (t, out) x).2.length + L.length := d
      exact ⟨m', a, b, by simp only [List.length_cons]; omega, e⟩
theorem FFill_r {l : List RI} {t : limit_Table} {out : List HI} {r : lombardref16_Table} {m : Nat} (hl : l.length ≤ 64) (hf : Fi out (isort leE (l.map toH))) (ha : Al r t m) (hm : m ≤ 100) (ho : out.length ≤ 100) :
    alloc_filler_fill_r ⟨t, out⟩ (l.map toH) ⟨(fillF (t, out) (isort leE (l.map toH))).1, (fillF (t, out) (isort leE (l.map toH))).2⟩ := by
  have e : (isort leE (l.map toH)).length = l.length := by rw [isort_len']; simp
  refine alloc_filler_fill_of ?_
  unfold alloc_filler_fill_w
  refine ⟨_, Rank_r (by simp; omega), fill_l (by omega) (isort leE (l.map toH)).length 0 t out r m (by omega) (by simpa using hf) ha (by omega) (by omega) (fun t' out' h => ?_)⟩
  rw [List.drop_zero] at h
  exact ⟨Rt.i (by rw [h]), Rt.i (by rw [h])⟩
theorem RFilled_r {l : List RI} {t : limit_Table} {out : List HI} {r : lombardref16_Table} {m : Nat} (hl : l.length ≤ 64) (hf : Fi out (isort leE (l.map toH))) (ha : Al r t m) (hm : m ≤ 100) (ho : out.length ≤ 100) :
    lombardref18_Filled_r r (out.map toR) l (fillR (t, out) r (isort leE (l.map toH)), (fillF (t, out) (isort leE (l.map toH))).2.map toR) := by
  have e : (isort leE (l.map toH)).length = l.length := by rw [isort_len']; simp
  refine lombardref18_Filled_of ?_
  unfold lombardref18_Filled_w
  exact ⟨_, RRank_r (by omega), rfill_l (by omega) (isort leE (l.map toH)).length 0 t out r m (by omega) (by simpa using hf) ha (by omega) (by omega) (Rt.i (by rw [List.drop_zero]))⟩

/-! The plan. -/
def planS (t : limit_Table) (out : List HI) : alloc_Plan × Int :=
  if (mergeG [] (out.map (·.Lot))).2 ≠ 0 then (⟨[], 0, 0⟩, (mergeG [] (out.map (·.Lot))).2) else (⟨(mergeG [] (out.map (·.Lot))).1, t.sum, openT t⟩, 0)
def toP (p : alloc_Plan) : lombardref18_Plan := ⟨p.Lots, p.Cover, p.Short⟩
theorem Plan_r {t : limit_Table} {out : List HI} (ht : Tok t) (ho : out.length ≤ 1000) : alloc_filler_plan_r ⟨t, out⟩ (planS t out) := by
  refine alloc_filler_plan_of ?_
  unfold alloc_filler_plan_w planS
  refine ⟨_, LOf_r (by show out.length ≤ _; omega), Br.i (fun c => Rt.i (by rw [if_pos c])) (fun c => ⟨_, TSum_r, _, TOpen_r ht, Rt.i (by rw [if_neg c])⟩)⟩
theorem RPlan_r {r : lombardref16_Table} {t : limit_Table} {out : List HI} {m : Nat} (ha : Al r t m) (hm : m ≤ 1000) (ho : out.length ≤ 1000) : lombardref18_plan_r r (out.map toR) (toP (planS t out).1, (planS t out).2) := by
  have hl := ha.len
  refine lombardref18_plan_of ?_
  unfold lombardref18_plan_w planS
  have s := RSum_r ha.bd (by omega)
  rw [ha.s] at s
  have o := ROf_r (a := out.map toR) (by simp; omega)
  rw [List.map_map, show ((fun x : RI => x.Lot) ∘ toR) = (fun x : HI => x.Lot) from rfl] at o
  refine ⟨_, o, Br.i (fun c => Rt.i (by rw [if_pos c]; rfl)) (fun c => ⟨_, s, _, ROpen_r ha (by omega), Rt.i (by rw [if_neg c]; rfl)⟩)⟩
instance (b : api_Basket) (need : Int) : Decidable (newOk b need) := by unfold newOk; exact instDecidableAnd
def fillS (b : api_Basket) (l : List RI) (need : Int) : alloc_Plan × Int :=
  if ¬ newOk b need then (⟨[], 0, 0⟩, 1) else if wrongS l ≠ 0 then (⟨[], 0, 0⟩, wrongS l) else planS (fillF (newT b need, []) (isort leE (l.map toH))).1 (fillF (newT b need, []) (isort leE (l.map toH))).2
theorem Fill_r {b : api_Basket} {l : List RI} {need : Int} : alloc_Fill_r b (l.map toH) need (fillS b l need) := by
  refine alloc_Fill_of ?_
  unfold alloc_Fill_w fillS
  by_cases h : newOk b need
  · rw [if_neg (fun k => k h)]
    refine .inr ⟨_, New_r1 h, Br.neg (fun k => k rfl) ⟨_, Check_r, Br.i (fun c => Rt.i (by rw [if_pos c])) (fun c => ?_)⟩⟩
    have c := Decidable.not_not.1 c
    obtain ⟨f1, f2⟩ := Fi_new c
    obtain ⟨m', a1, a2, a3, a4⟩ := fillR_al _ _ [] _ 0 f1 (Al_new h) (by rw [isort_len']; simp; omega)
    refine ⟨_, FFill_r f2 f1 (Al_new h) (by omega) (by simp), _, Plan_r a1.tok ?_, Rt.i (by rw [if_neg (fun k => k c)])⟩
    rw [isort_len'] at a3; simp at a3
    show (fillF (newT b need, []) (isort leE (l.map toH))).2.length ≤ 1000
    omega
  · rw [if_pos h]
    exact .inl ⟨_, New_r0 h, Br.pos (by decide) (Rt.i rfl)⟩
/-! The same plan; the chapter's example. -/
theorem lots_l {a : List api_Lot} {Q0 Q1 : Unit → Prop} (hl : a.length ≤ 1000000) (q : Q1 ()) : ∀ (n i : Nat), n + i = a.length → lombardref10_Lots_L0 a a Q0 Q1 (i : Int) := by
  intro n
  induction n with
  | zero =>
    intro i h
    refine lombardref10_Lots_l0 ?_
    unfold lombardref10_Lots_w0
    rw [lenM_eq]
    exact Br.neg (by omega) (Lf.i q)
  | succ n ih =>
    intro i h
    have hs : i < a.length := by omega
    refine lombardref10_Lots_l0 ?_
    unfold lombardref10_Lots_w0
    rw [lenM_eq]
    have g : a[(i : Int).toNat]? = some a[i] := by simp [hs]
    exact Br.pos (by omega) ⟨a[i], Got.i ⟨a[i], Got.i (Br.f (by simp [strEq_true]) (Num.n (by omega) (ih (i + 1) (by omega)))) (by omega) g⟩ (by omega) g⟩
theorem Lots_r {a : List api_Lot} (hl : a.length ≤ 1000000) : lombardref10_Lots_r a a true := by
  refine lombardref10_Lots_of ?_
  unfold lombardref10_Lots_w
  rw [lenM_eq]
  exact Br.f (by simp) (lots_l hl (Rt.i rfl) a.length 0 (by omega))
theorem Same_r {p : alloc_Plan} (hl : p.Lots.length ≤ 1000000) : lombardlaw18_same_r p (toP p) true := by
  refine lombardlaw18_same_of ?_
  unfold lombardlaw18_same_w
  exact ⟨_, Lots_r hl, Br.t rfl (Br.t (by simp [toP]) (Rt.i (by simp [toP])))⟩
theorem setG_len (s : ByteArray) (q : Int) : ∀ (l : List api_Lot), (setG s q true l).length ≤ l.length ∧ (setG s q false l).length ≤ l.length + 1
  | [] => by simp [setG]
  | y :: l => by
    obtain ⟨h1, h2⟩ := setG_len s q l
    simp only [setG]
    have e : (if y.ISIN = s then ([] : List api_Lot) else [y]).length ≤ 1 := by split <;> simp
    refine ⟨by simp only [List.length_append, List.length_cons]; omega, ?_⟩
    split
    · simp only [List.length_append, List.length_cons]; omega
    · simp only [List.length_append, List.length_cons]; omega
theorem mergeG_len : ∀ (l out : List api_Lot), (mergeG out l).1.length ≤ out.length + l.length
  | [], out => by simp [mergeG]
  | x :: l, out => by
    simp only [mergeG]
    split
    · simp
    · split
      · simp
      · have h := mergeG_len l (addG out x).1
        have : (addG out x).1.length ≤ out.length + 1 := by
          unfold addG
          split
          · simp
          · split
            · simp
            · exact (setG_len _ _ out).2
        simp only [List.length_cons]; omega
theorem fillS_len (b : api_Basket) (l : List RI) (need : Int) : (fillS b l need).1.Lots.length ≤ 1000 := by
  unfold fillS
  split
  · simp
  · rename_i h
    have h := Decidable.not_not.1 h
    split
    · simp
    · rename_i c
      have c := Decidable.not_not.1 c
      obtain ⟨f1, f2⟩ := Fi_new c
      obtain ⟨m', a1, a2, a3, a4⟩ := fillR_al _ _ [] _ 0 f1 (Al_new h) (by rw [isort_len']; simp; omega)
      rw [isort_len'] at a3; simp at a3
      unfold planS
      split
      · simp
      · have := mergeG_len ((fillF (newT b need, []) (isort leE (l.map toH))).2.map (·.Lot)) []
        simp at this; simp; omega
def parS (s : ByteArray) (i q : Int) : RI := ⟨⟨s, q⟩, ⟨s, i, 0, 0, ByteArray.empty⟩, 1000000, 0⟩
theorem Par_r (s : ByteArray) (i q : Int) : lombardlaw18_par_r s i q (parS s i q) := by
  refine lombardlaw18_par_of ?_
  unfold lombardlaw18_par_w
  exact Rt.i rfl
theorem awake_r : lombardlaw18_awake_r true := by
  refine lombardlaw18_awake_of ?_
  unfold lombardlaw18_awake_w
  refine ⟨_, Par_r _ _ _, _, Par_r _ _ _, _, items_r (by decide), _, Fill_r, ?_⟩
  have e : fillS (⟨0, 0, ByteArray.empty, 0, 0, 0, [], 500000, 1000000, []⟩ : api_Basket) [parS (⟨#[65]⟩ : ByteArray) 1 80, parS (⟨#[66]⟩ : ByteArray) 2 80] 100 = ((⟨[(⟨(⟨#[65]⟩ : ByteArray), 50⟩ : api_Lot), (⟨(⟨#[66]⟩ : ByteArray), 50⟩ : api_Lot)], 100, 0⟩ : alloc_Plan), 0) := by
    kernel_rfl
  rw [e]
  exact Br.t rfl ⟨_, Same_r (p := ⟨[⟨⟨#[65]⟩, 50⟩, ⟨⟨#[66]⟩, 50⟩], 100, 0⟩) (by decide), Rt.i rfl⟩
end Go.Proofs.Ytgncepjnbdhmkaa.Pure
namespace Go.Proofs.Ytgncepjnbdhmkaa.Pure
open Go Go.Ab Go.Stable Go.Proofs.Ytgncepjnbdhmkaa.R
set_option linter.unusedVariables false
theorem RFill_r {b : api_Basket} {l : List RI} {need : Int} : lombardref18_Fill_r b l need (toP (fillS b l need).1, (fillS b l need).2) := by
  refine lombardref18_Fill_of ?_
  unfold lombardref18_Fill_w fillS
  by_cases h : newOk b need
  · rw [if_neg (fun k => k h)]
    refine ⟨_, RNew_r h, Br.neg (fun k => k rfl) ⟨_, Wrong_r, Br.i (fun c => ⟨_, Wrong_r, Rt.i (by rw [if_pos c]; rfl)⟩) (fun c => ?_)⟩⟩
    have c := Decidable.not_not.1 c
    obtain ⟨f1, f2⟩ := Fi_new c
    obtain ⟨m', a1, a2, a3, a4⟩ := fillR_al _ _ [] _ 0 f1 (Al_new h) (by rw [isort_len']; simp; omega)
    refine ⟨_, RFilled_r f2 f1 (Al_new h) (by omega) (by simp), _, RPlan_r a1 (by omega) ?_, Rt.i (by rw [if_neg (fun k => k c)])⟩
    rw [isort_len'] at a3; simp at a3; omega
  · rw [if_pos h]
    exact ⟨_, RNew_r0 h, Br.pos (by decide) (Rt.i rfl)⟩

theorem AllocFills_r (b : api_Basket) (l : List RI) (need : Int) : lombardlaw18_AllocFills_r b l need true := by
  refine lombardlaw18_AllocFills_of ?_
  unfold lombardlaw18_AllocFills_w
  rw [lenM_eq]
  refine Br.i (fun _ => ⟨_, awake_r, Rt.i rfl⟩) (fun c => ⟨_, items_r (by omega), _, Fill_r, _, RFill_r, _, Same_r (by have := fillS_len b l need; omega), Br.t rfl (Br.t (by simp) ⟨_, awake_r, Rt.i rfl⟩)⟩)
end Go.Proofs.Ytgncepjnbdhmkaa.Pure
namespace Go.Proofs.Ytgncepjnbdhmkaa.Pure
open Go Go.Ab Go.Sort Go.Proofs.Ytgncepjnbdhmkaa.R
set_option linter.unusedVariables false

/-- Uses, as the program tells them (here: plain things alone). -/
structure limit_Use where
  Issuer : Int
  ISIN : ByteArray
  Cover : Int
  Limit : Int
/-! Maps stay good. -/
section
variable {κ ν : Type} [DecidableEq κ]
theorem putL_len (k : κ) (v : ν) (c : Nat) : ∀ l : List (κ × Nat × ν), (putL k v c l).length ≤ l.length + 1
  | [] => by simp [putL]
  | x :: l => by
    simp only [putL]; split
    · simp
    · have := putL_len k v c l; simp only [List.length_cons]; omega
theorem putL_some {k : κ} {v : ν} {c : Nat} : ∀ {l : List (κ × Nat × ν)}, (getL k l).isSome = true → (putL k v c l).map (fun x => (x.1, x.2.1)) = l.map (fun x => (x.1, x.2.1))
  | [], h => by simp [getL] at h
  | x :: l, h => by
    simp only [putL]; split
    · rename_i e; simp [e]
    · rename_i e; simp only [getL] at h; rw [if_neg e] at h; simp [putL_some h]
theorem putL_none {k : κ} {v : ν} {c : Nat} {l : List (κ × Nat × ν)} (h : (getL k l).isSome = false) : putL k v c l = l ++ [(k, c, v)] ∧ ∀ x ∈ l, x.1 ≠ k := by
  induction l with
  | nil => exact ⟨rfl, by simp⟩
  | cons x l ih =>
    simp only [getL] at h
    split at h
    · simp at h
    · rename_i e
      obtain ⟨h1, h2⟩ := ih h
      refine ⟨by simp only [putL]; rw [if_neg e, h1, List.cons_append], fun y hy => ?_⟩
      rcases List.mem_cons.1 hy with rfl | hy
      · exact fun e2 => e e2.symm
      · exact h2 y hy
theorem ok_put {kl : κ → Prop} {m : GM κ ν} {k : κ} {v : ν} (h : m.ok kl) (hk : kl k) (hl : m.es.length < 1000000) : (m.put k v).ok kl := by
  unfold GM.put
  cases hg : (m.get? k).isSome with
  | true =>
    have e := putL_some (v := v) (c := m.clock) hg
    have e1 : (putL k v m.clock m.es).map (·.1) = m.es.map (·.1) := by have := congrArg (List.map Prod.fst) e; simpa [Function.comp_def] using this
    have e2 : (putL k v m.clock m.es).map (·.2.1) = m.es.map (·.2.1) := by have := congrArg (List.map Prod.snd) e; simpa [Function.comp_def] using this
    refine ⟨?_, ?_, by rw [e2]; exact h.born, by rw [e1]; exact h.apart⟩
    · have := congrArg List.length e1; simp only [List.length_map] at this; show (putL k v m.clock m.es).length ≤ _; omega
    · intro x hx
      have hx' : (x.1, x.2.1) ∈ (putL k v m.clock m.es).map (fun x => (x.1, x.2.1)) := List.mem_map.2 ⟨x, hx, rfl⟩
      rw [e] at hx'
      obtain ⟨y, hy, ey⟩ := List.mem_map.1 hx'
      have := h.keys y hy
      simp only [Prod.mk.injEq] at ey
      simp only [if_true]
      rw [← ey.1, ← ey.2]; exact this
  | false =>
    obtain ⟨e, hne⟩ := putL_none (v := v) (c := m.clock) hg
    simp only [Bool.false_eq_true, if_false]
    refine ⟨?_, ?_, ?_, ?_⟩
    · show (putL k v m.clock m.es).length ≤ _; rw [e]; simp; omega
    · intro x hx
      have hx : x ∈ putL k v m.clock m.es := hx
      rw [e] at hx
      rcases List.mem_append.1 hx with hx | hx
      · exact ⟨by have := (h.keys x hx).1; show x.2.1 < m.clock + 1; omega, (h.keys x hx).2⟩
      · simp at hx; subst hx; exact ⟨Nat.lt_succ_self _, hk⟩
    · show ((putL k v m.clock m.es).map _).Nodup
      rw [e, List.map_append]
      refine List.nodup_append.2 ⟨h.born, by simp, ?_⟩
      intro a ha b hb
      simp at hb; subst hb
      obtain ⟨y, hy, rfl⟩ := List.mem_map.1 ha
      have := (h.keys y hy).1; omega
    · show ((putL k v m.clock m.es).map _).Nodup
      rw [e, List.map_append]
      refine List.nodup_append.2 ⟨h.apart, by simp, ?_⟩
      intro a ha b hb
      simp at hb; subst hb
      obtain ⟨y, hy, rfl⟩ := List.mem_map.1 ha
      exact hne y hy
omit [DecidableEq κ] in
theorem ok_nil {kl : κ → Prop} : (GM.nil : GM κ ν).ok kl := ⟨by simp [GM.nil], by simp [GM.nil], by simp [GM.nil], by simp [GM.nil]⟩
end

/-! Uses. -/
def useI (t : limit_Table) (k : Int) : limit_Use := ⟨k, ByteArray.empty, t.issuers.getD k 0, t.issuer⟩
def useA (t : limit_Table) (k : ByteArray) : limit_Use := ⟨-1, k, t.assets.getD k 0, t.asset⟩
def usesT (t : limit_Table) : List limit_Use :=
  ((sortI t.issuers.keys).filter fun k => decide (0 < t.issuers.getD k 0)).map (useI t) ++ ((sortS t.assets.keys).filter fun k => decide (0 < t.assets.getD k 0)).map (useA t)

theorem app40 {n : Nat} (h : n ≤ 3000000) : App 40 n := ⟨by unfold maxLen; omega, by omega⟩

/-- Behind n calls. -/
structure Kt (t : limit_Table) (n : Nat) : Prop where
  i : t.issuers.ok (InK .i64)
  a : t.assets.ok (fun b : ByteArray => b.size ≤ maxLen)
  li : t.issuers.es.length ≤ n
  la : t.assets.es.length ≤ n
theorem sortI_len (l : List Int) : (sortI l).length = l.length := by unfold sortI; exact List.length_mergeSort _
theorem sortS_len (l : List ByteArray) : (sortS l).length = l.length := by unfold sortS; simp [List.length_mergeSort]

def toldU (u : limit_Use) : lombardref16_Use := ⟨u.Issuer, u.ISIN, u.Cover, u.Limit⟩
theorem ext_sorted {α : Type} {lt : α → α → Prop} (ir : ∀ a b, lt a b → ¬ lt b a) {l1 l2 : List α} (h1 : l1.Pairwise lt) (h2 : l2.Pairwise lt) (h : ∀ x, x ∈ l1 ↔ x ∈ l2) : l1 = l2 := by
  have n1 : l1.Nodup := h1.imp fun {a b} hab e => by subst e; exact ir a a hab hab
  have n2 : l2.Nodup := h2.imp fun {a b} hab e => by subst e; exact ir a a hab hab
  exact List.Perm.eq_of_pairwise (le := lt) (fun a b _ _ hab hba => absurd hba (ir a b hab)) h1 h2 ((List.perm_ext_iff_of_nodup n1 n2).2 h)

theorem sortI_lt {l : List Int} (h : l.Nodup) : (sortI l).Pairwise (· < ·) := by
  have hs : (sortI l).Pairwise fun a b => leI a b = true := List.pairwise_mergeSort (fun a b c h1 h2 => by simp only [leI, decide_eq_true_eq] at *; omega) (fun a b => by simp only [leI, Bool.or_eq_true, decide_eq_true_eq]; omega) l
  have hn : (sortI l).Nodup := (List.mergeSort_perm l leI).nodup_iff.2 h
  refine (hs.and hn).imp fun {a b} hab => ?_
  have := hab.1; have := hab.2
  simp only [leI, decide_eq_true_eq] at *
  omega
theorem mem_sortI {l : List Int} {x : Int} : x ∈ sortI l ↔ x ∈ l := (List.mergeSort_perm l leI).mem_iff

def bLt (x y : ByteArray) : Prop := x.data.toList < y.data.toList
theorem bLt_asymm (x y : ByteArray) (h : bLt x y) : ¬ bLt y x := fun h2 => List.lt_irrefl _ (List.lt_trans h h2)
theorem ba_ext {x y : ByteArray} (h : x.data.toList = y.data.toList) : x = y := by
  cases x; cases y; exact congrArg ByteArray.mk (Array.toList_inj.1 h)
theorem sortS_lt {l : List ByteArray} (h : l.Nodup) : (sortS l).Pairwise bLt := by
  unfold sortS
  have hm : (l.map fun b => b.data.toList).Nodup := List.Pairwise.map _ (fun a b hab e => hab (ba_ext e)) h
  have hs : ((l.map fun b => b.data.toList).mergeSort leB).Pairwise fun a b => leB a b = true := List.pairwise_mergeSort (fun a b c h1 h2 => by simp only [leB, decide_eq_true_eq] at *; exact List.le_trans h1 h2) (fun a b => by simp only [leB, Bool.or_eq_true, decide_eq_true_eq]; exact List.le_total a b) _
  have hn : ((l.map fun b => b.data.toList).mergeSort leB).Nodup := (List.mergeSort_perm _ leB).nodup_iff.2 hm
  refine List.Pairwise.map _ (fun a b hab => ?_) (hs.and hn)
  have h1 : a ≤ b := by simpa [leB] using hab.1
  show a < b
  by_cases hlt : a < b
  · exact hlt
  · exact absurd (List.le_antisymm h1 (List.not_lt.1 hlt)) hab.2
theorem mem_sortS {l : List ByteArray} {x : ByteArray} : x ∈ sortS l ↔ x ∈ l := by
  unfold sortS
  simp only [List.mem_map, (List.mergeSort_perm _ leB).mem_iff]
  constructor
  · rintro ⟨a, ⟨b, hb, rfl⟩, rfl⟩; exact hb
  · intro h; exact ⟨_, ⟨x, h, rfl⟩, rfl⟩

theorem mem_of_getL {κ ν : Type} [DecidableEq κ] {k : κ} {v : ν} : ∀ {l : List (κ × Nat × ν)}, getL k l = some v → k ∈ l.map (·.1)
  | [], h => by simp [getL] at h
  | x :: l, h => by
    simp only [getL] at h
    split at h
    · rename_i e; simp [e]
    · exact List.mem_cons_of_mem _ (mem_of_getL h)
theorem mem_of_pos {κ : Type} [DecidableEq κ] {m : GM κ Int} {k : κ} (h : 0 < m.getD k 0) : k ∈ m.keys := by
  unfold GM.getD at h
  cases hg : m.get? k with
  | none => rw [hg] at h; simp at h
  | some v => exact mem_of_getL hg

/-- The keys that have something under them, in order. -/
def posI (m : GM Int Int) : List Int := (sortI m.keys).filter fun k => decide (0 < m.getD k 0)
def posS (m : GM ByteArray Int) : List ByteArray := (sortS m.keys).filter fun k => decide (0 < m.getD k 0)
theorem posI_lt {m : GM Int Int} {kl : Int → Prop} (h : m.ok kl) : (posI m).Pairwise (· < ·) := (sortI_lt h.apart).filter _
theorem posS_lt {m : GM ByteArray Int} {kl : ByteArray → Prop} (h : m.ok kl) : (posS m).Pairwise bLt := (sortS_lt h.apart).filter _
theorem mem_posI {m : GM Int Int} {k : Int} : k ∈ posI m ↔ 0 < m.getD k 0 := by
  unfold posI; rw [List.mem_filter, mem_sortI, decide_eq_true_eq]
  exact ⟨fun h => h.2, fun h => ⟨mem_of_pos h, h⟩⟩
theorem mem_posS {m : GM ByteArray Int} {k : ByteArray} : k ∈ posS m ↔ 0 < m.getD k 0 := by
  unfold posS; rw [List.mem_filter, mem_sortS, decide_eq_true_eq]
  exact ⟨fun h => h.2, fun h => ⟨mem_of_pos h, h⟩⟩
theorem usesT_eq (t : limit_Table) : usesT t = (posI t.issuers).map (useI t) ++ (posS t.assets).map (useA t) := rfl
section
variable {α : Type} (lt : α → α → Prop) [DecidableRel lt]
@[reducible] def okk (hv : Bool) (last k : α) : Prop := hv = false ∨ lt last k
def stepP (hv : Bool) (last : α) (p : α × Bool) (k : α) : α × Bool := if okk lt hv last k then (if p.2 = false then (k, true) else if lt k p.1 then (k, true) else p) else p
def nextP (hv : Bool) (last : α) (l : List α) (p : α × Bool) : α × Bool := l.foldl (stepP lt hv last) p

/-- A strict order of all. -/
structure Ord : Prop where
  asy : ∀ a b, lt a b → ¬ lt b a
  nt : ∀ a b c, ¬ lt a b → ¬ lt b c → ¬ lt a c
  tri : ∀ a b, ¬ lt a b → ¬ lt b a → a = b
variable {lt}
def NextSpec (lt : α → α → Prop) [DecidableRel lt] (hv : Bool) (last : α) (l : List α) (p r : α × Bool) : Prop :=
  (r.2 = false → p.2 = false ∧ ∀ k ∈ l, ¬ okk lt hv last k) ∧
    (r.2 = true → okk lt hv last r.1 ∧ (r.1 ∈ l ∨ (p.2 = true ∧ r.1 = p.1)) ∧ (∀ k ∈ l, okk lt hv last k → ¬ lt k r.1) ∧ (p.2 = true → ¬ lt p.1 r.1))
theorem next_spec (O : Ord lt) {hv : Bool} {last : α} : ∀ (l : List α) (p : α × Bool), (p.2 = true → okk lt hv last p.1) → NextSpec lt hv last l p (nextP lt hv last l p)
  | [], p, hp => ⟨fun h => ⟨h, by simp⟩, fun h => ⟨hp h, .inr ⟨h, rfl⟩, by simp, fun _ h2 => O.asy _ _ h2 h2⟩⟩
  | k :: l, p, hp => by
    have e : nextP lt hv last (k :: l) p = nextP lt hv last l (stepP lt hv last p k) := rfl
    rw [e]
    by_cases hk : okk lt hv last k
    · have key : ∀ q : α × Bool, stepP lt hv last p k = q → q.2 = true → okk lt hv last q.1 → (q.1 = k ∨ (p.2 = true ∧ q.1 = p.1)) → ¬ lt k q.1 → (p.2 = true → ¬ lt p.1 q.1) → NextSpec lt hv last (k :: l) p (nextP lt hv last l (stepP lt hv last p k)) := by
        intro q hq h1 h2 h3 h4 h5
        rw [hq]
        obtain ⟨i1, i2⟩ := next_spec O l q (fun _ => h2)
        refine ⟨fun h => ?_, fun h => ?_⟩
        · have := (i1 h).1; rw [h1] at this; cases this
        · obtain ⟨j1, j2, j3, j4⟩ := i2 h
          have j4 := j4 h1
          refine ⟨j1, ?_, fun x hx hox => ?_, fun hp2 => O.nt _ _ _ (h5 hp2) j4⟩
          · rcases j2 with j2 | ⟨_, j2⟩
            · exact .inl (List.mem_cons_of_mem _ j2)
            · rcases h3 with h3 | ⟨h3, h3'⟩
              · exact .inl (by rw [j2, h3]; simp)
              · exact .inr ⟨h3, by rw [j2, h3']⟩
          · rcases List.mem_cons.1 hx with rfl | hx
            · exact O.nt _ _ _ h4 j4
            · exact j3 x hx hox
      by_cases hp2 : p.2 = false
      · refine key (k, true) (by unfold stepP; rw [if_pos hk, if_pos hp2]) rfl hk (.inl rfl) (fun h => O.asy _ _ h h) (fun h => by rw [hp2] at h; cases h)
      · have hp3 : p.2 = true := by simpa using hp2
        by_cases hlt : lt k p.1
        · exact key (k, true) (by unfold stepP; rw [if_pos hk, if_neg hp2, if_pos hlt]) rfl hk (.inl rfl) (fun h => O.asy _ _ h h) (fun _ => O.asy _ _ hlt)
        · exact key p (by unfold stepP; rw [if_pos hk, if_neg hp2, if_neg hlt]) hp3 (hp hp3) (.inr ⟨hp3, rfl⟩) hlt (fun _ h => O.asy _ _ h h)
    · have es : stepP lt hv last p k = p := by unfold stepP; rw [if_neg hk]
      rw [es]
      obtain ⟨i1, i2⟩ := next_spec O l p hp
      refine ⟨fun h => ⟨(i1 h).1, fun x hx => ?_⟩, fun h => ?_⟩
      · rcases List.mem_cons.1 hx with rfl | hx
        · exact hk
        · exact (i1 h).2 x hx
      · obtain ⟨j1, j2, j3, j4⟩ := i2 h
        refine ⟨j1, j2.imp (List.mem_cons_of_mem _) id, fun x hx hox => ?_, j4⟩
        rcases List.mem_cons.1 hx with rfl | hx
        · exact absurd hox hk
        · exact j3 x hx hox

/-- What has been told, when all keys up to 'last' have been seen. -/
def toldTo (lt : α → α → Prop) [DecidableRel lt] (P : List α) (hv : Bool) (last : α) : List α := P.filter fun k => decide (¬ okk lt hv last k)
theorem told_end {P l : List α} {hv : Bool} {last : α} (hPl : ∀ k ∈ P, k ∈ l) (h : ∀ k ∈ l, ¬ okk lt hv last k) : toldTo lt P hv last = P := by
  unfold toldTo
  exact List.filter_eq_self.2 fun k hk => decide_eq_true (h k (hPl k hk))
theorem told_start {P : List α} {last : α} : toldTo lt P false last = [] := by
  unfold toldTo
  exact List.filter_eq_nil_iff.2 fun k _ => by simp
theorem told_step (O : Ord lt) {P l : List α} {hv : Bool} {last b : α} (hP : P.Pairwise lt) (hPl : ∀ k ∈ P, k ∈ l) (hb : okk lt hv last b) (hm : ∀ k ∈ l, okk lt hv last k → ¬ lt k b) [DecidablePred (· ∈ P)] :
    toldTo lt P true b = toldTo lt P hv last ++ (if b ∈ P then [b] else []) := by
  have hbe : ∀ x, ¬ okk lt hv last x → lt x b := fun x hx => by
    rcases Decidable.em (lt x b) with h | h
    · exact h
    · cases hv with
      | false => exact absurd (.inl rfl) hx
      | true =>
        have h1 : ¬ lt last x := fun e => hx (.inr e)
        have h2 : lt last b := hb.resolve_left (by simp)
        exact absurd h2 (O.nt _ _ _ h1 h)
  refine ext_sorted O.asy (hP.filter _) ?_ fun x => ?_
  · refine List.pairwise_append.2 ⟨hP.filter _, by split <;> simp, fun x hx y hy => ?_⟩
    have hx2 := (List.mem_filter.1 hx).2
    split at hy
    · simp at hy; subst hy; exact hbe x (of_decide_eq_true hx2)
    · simp at hy
  · unfold toldTo
    rw [List.mem_append, List.mem_filter, List.mem_filter, decide_eq_true_eq, decide_eq_true_eq]
    constructor
    · rintro ⟨hx, hn⟩
      have hn' : ¬ lt b x := fun e => hn (.inr e)
      by_cases ho : okk lt hv last x
      · have e : x = b := O.tri _ _ (hm x (hPl x hx) ho) hn'
        subst e
        exact .inr (by rw [if_pos hx]; simp)
      · exact .inl ⟨hx, ho⟩
    · rintro (⟨hx, hn⟩ | h)
      · exact ⟨hx, fun h => by
          rcases h with h | h
          · cases h
          · exact O.asy _ _ (hbe x hn) h⟩
      · split at h
        · rename_i hbp
          simp at h; subst h
          exact ⟨hbp, fun h => by
            rcases h with h | h
            · cases h
            · exact O.asy _ _ h h⟩
        · simp at h
theorem okk_less (O : Ord lt) {l : List α} {hv : Bool} {last b : α} (hb : okk lt hv last b) (hbl : b ∈ l) : (l.filter fun k => decide (okk lt true b k)).length < (l.filter fun k => decide (okk lt hv last k)).length := by
  have sub : ∀ x, okk lt true b x → okk lt hv last x := fun x hx => by
    have h1 : lt b x := hx.resolve_left (by simp)
    cases hv with
    | false => exact .inl rfl
    | true =>
      have h2 : lt last b := hb.resolve_left (by simp)
      rcases Decidable.em (lt last x) with h | h
      · exact .inr h
      · exact absurd h2 (O.nt _ _ _ h (O.asy _ _ h1))
  have nb : ¬ okk lt true b b := fun h => by
    rcases h with h | h
    · cases h
    · exact O.asy _ _ h h
  induction l with
  | nil => simp at hbl
  | cons x l ih =>
    simp only [List.filter_cons]
    have le : (l.filter fun k => decide (okk lt true b k)).length ≤ (l.filter fun k => decide (okk lt hv last k)).length := by
      clear ih hbl
      induction l with
      | nil => simp
      | cons y l ih =>
        simp only [List.filter_cons]
        by_cases h1 : okk lt true b y
        · rw [decide_eq_true h1, decide_eq_true (sub y h1)]; simpa using ih
        · by_cases h2 : okk lt hv last y
          · rw [decide_eq_false h1, decide_eq_true h2]; simp only [Bool.false_eq_true, if_false, if_true, List.length_cons]; omega
          · rw [decide_eq_false h1, decide_eq_false h2]; simpa using ih
    by_cases hxb : x = b
    · subst hxb
      rw [decide_eq_false nb, decide_eq_true hb]
      simp only [Bool.false_eq_true, if_false, if_true, List.length_cons]; omega
    · have := ih (by rcases List.mem_cons.1 hbl with h | h; exact absurd h.symm hxb; exact h)
      by_cases h1 : okk lt true b x
      · rw [decide_eq_true h1, decide_eq_true (sub x h1)]; simpa using this
      · by_cases h2 : okk lt hv last x
        · rw [decide_eq_false h1, decide_eq_true h2]; simp only [Bool.false_eq_true, if_false, if_true, List.length_cons]; omega
        · rw [decide_eq_false h1, decide_eq_false h2]; simpa using this
end

theorem ordZ : Ord (fun a b : Int => a < b) := ⟨fun _ _ h => by omega, fun _ _ _ h1 h2 => by omega, fun _ _ h1 h2 => by omega⟩
instance : DecidableRel bLt := fun a b => decidable_of_iff (a.data.toList < b.data.toList) Iff.rfl
theorem ordS : Ord bLt := ⟨bLt_asymm, fun _ _ _ h1 h2 => List.not_lt.2 (List.le_trans (List.not_lt.1 h2) (List.not_lt.1 h1)), fun _ _ h1 h2 => ba_ext (List.le_antisymm (List.not_lt.1 h2) (List.not_lt.1 h1))⟩
theorem strLt_eq (x y : ByteArray) : strLt x y = decide (bLt x y) := by
  unfold strLt; rw [bLess_eq, ByteArray.toList_eq, ByteArray.toList_eq]; exact decide_eq_decide.2 Iff.rfl
theorem strLe_eq (x y : ByteArray) : strLe x y = decide (¬ bLt y x) := by
  unfold strLe
  rw [strLt_eq]
  by_cases h : bLt y x
  · have h1 : ¬ bLt x y := bLt_asymm _ _ h
    have h2 : x ≠ y := fun e => by subst e; exact bLt_asymm _ _ h h
    rw [decide_eq_false h1, strEq_false h2, decide_eq_false (fun h3 => h3 h)]; rfl
  · rw [decide_eq_true h]
    by_cases h1 : bLt x y
    · rw [decide_eq_true h1]; rfl
    · rw [strEq_true (ordS.tri _ _ h1 h)]; simp
theorem nextI_l {r : lombardref16_Table} {last : Int} {hv : Bool} {acc : List lombardref16_Use} {Q : Int × Bool → Prop} (hl : r.L.length ≤ 1000) : ∀ (n s : Nat) (p : Int × Bool), n + s = r.L.length → Q (nextP (fun a b : Int => a < b) hv last ((r.L.drop s).map (·.Issuer)) p) → _lombardref16_Table_Uses_L1 last hv r acc Q p.1 p.2 (s : Int)
  | 0, s, p, h, q => by
    refine _lombardref16_Table_Uses_l1 ?_
    unfold _lombardref16_Table_Uses_w1
    rw [lenM_eq]
    refine Br.neg (by omega) (Lf.i ?_)
    rw [List.drop_of_length_le (by omega)] at q
    exact q
  | n + 1, s, (b, f), h, q => by
    have hs : s < r.L.length := by omega
    refine _lombardref16_Table_Uses_l1 ?_
    unfold _lombardref16_Table_Uses_w1
    rw [lenM_eq]
    rw [List.drop_eq_getElem_cons hs, List.map_cons] at q
    have q : Q (nextP (fun a b : Int => a < b) hv last ((r.L.drop (s + 1)).map (·.Issuer)) (stepP (fun a b : Int => a < b) hv last (b, f) r.L[s].Issuer)) := q
    have g : r.L[(s : Int).toNat]? = some r.L[s] := by simp [hs]
    have go : ∀ p', stepP (fun a b : Int => a < b) hv last (b, f) r.L[s].Issuer = p' → Num .i64 ((s : Int) + 1) (_lombardref16_Table_Uses_L1 last hv r acc Q p'.1 p'.2 ((s : Int) + 1)) := by
      intro p' e
      rw [e] at q
      exact Num.n (by omega) (nextI_l hl n (s + 1) p' (by omega) q)
    refine Br.pos (by omega) ⟨r.L[s], Got.i ?_ (by omega) g⟩
    have inn : okk (fun a b : Int => a < b) hv last r.L[s].Issuer → Br (!f) (Num .i64 ((s : Int) + 1) (_lombardref16_Table_Uses_L1 last hv r acc Q r.L[s].Issuer true ((s : Int) + 1))) (Br (decide (r.L[s].Issuer < b)) (Num .i64 ((s : Int) + 1) (_lombardref16_Table_Uses_L1 last hv r acc Q r.L[s].Issuer true ((s : Int) + 1))) (Num .i64 ((s : Int) + 1) (_lombardref16_Table_Uses_L1 last hv r acc Q b f ((s : Int) + 1)))) := by
      intro ho
      cases f with
      | false => exact Br.t rfl (go (_, true) (by unfold stepP; rw [if_pos ho, if_pos rfl]))
      | true =>
        refine Br.f rfl (Br.b (fun c => go (_, true) ?_) (fun c => go (b, true) ?_))
        · skip
          unfold stepP; rw [if_pos ho, if_neg (by simp), if_pos (of_decide_eq_true c)]
        · skip
          unfold stepP; rw [if_pos ho, if_neg (by simp), if_neg (of_decide_eq_false c)]
    cases hv with
    | false => exact Br.t rfl (inn (.inl rfl))
    | true =>
      refine Br.f rfl (Br.b (fun c => inn (.inr ?_)) (fun c => go (b, f) ?_))
      · exact of_decide_eq_true c
      · have c := of_decide_eq_false c
        unfold stepP; rw [if_neg]
        intro h
        exact c (h.resolve_left (by simp))

theorem nextA_l {r : lombardref16_Table} {last : ByteArray} {hv : Bool} {acc : List lombardref16_Use} {Q : ByteArray × Bool → Prop} (hl : r.L.length ≤ 1000) : ∀ (n s : Nat) (p : ByteArray × Bool), n + s = r.L.length → Q (nextP bLt hv last ((r.L.drop s).map (·.ISIN)) p) → _lombardref16_Table_assets_L1 last hv r acc Q p.1 p.2 (s : Int)
  | 0, s, p, h, q => by
    refine _lombardref16_Table_assets_l1 ?_
    unfold _lombardref16_Table_assets_w1
    rw [lenM_eq]
    refine Br.neg (by omega) (Lf.i ?_)
    rw [List.drop_of_length_le (by omega)] at q
    exact q
  | n + 1, s, (b, f), h, q => by
    have hs : s < r.L.length := by omega
    refine _lombardref16_Table_assets_l1 ?_
    unfold _lombardref16_Table_assets_w1
    rw [lenM_eq]
    rw [List.drop_eq_getElem_cons hs, List.map_cons] at q
    have q : Q (nextP bLt hv last ((r.L.drop (s + 1)).map (·.ISIN)) (stepP bLt hv last (b, f) r.L[s].ISIN)) := q
    have g : r.L[(s : Int).toNat]? = some r.L[s] := by simp [hs]
    have go : ∀ p', stepP bLt hv last (b, f) r.L[s].ISIN = p' → Num .i64 ((s : Int) + 1) (_lombardref16_Table_assets_L1 last hv r acc Q p'.1 p'.2 ((s : Int) + 1)) := by
      intro p' e
      rw [e] at q
      exact Num.n (by omega) (nextA_l hl n (s + 1) p' (by omega) q)
    refine Br.pos (by omega) ⟨r.L[s], Got.i ?_ (by omega) g⟩
    have inn : okk bLt hv last r.L[s].ISIN → Br (!f) (Num .i64 ((s : Int) + 1) (_lombardref16_Table_assets_L1 last hv r acc Q r.L[s].ISIN true ((s : Int) + 1))) (Br (strLt r.L[s].ISIN b) (Num .i64 ((s : Int) + 1) (_lombardref16_Table_assets_L1 last hv r acc Q r.L[s].ISIN true ((s : Int) + 1))) (Num .i64 ((s : Int) + 1) (_lombardref16_Table_assets_L1 last hv r acc Q b f ((s : Int) + 1)))) := by
      intro ho
      cases f with
      | false => exact Br.t rfl (go (_, true) (by unfold stepP; rw [if_pos ho, if_pos rfl]))
      | true =>
        refine Br.f rfl (Br.b (fun c => go (_, true) ?_) (fun c => go (b, true) ?_))
        · rw [strLt_eq] at c
          unfold stepP; rw [if_pos ho, if_neg (by simp), if_pos (of_decide_eq_true c)]
        · rw [strLt_eq] at c
          unfold stepP; rw [if_pos ho, if_neg (by simp), if_neg (of_decide_eq_false c)]
    cases hv with
    | false => exact Br.t rfl (inn (.inl rfl))
    | true =>
      refine Br.f rfl (Br.b (fun c => inn (.inr ?_)) (fun c => go (b, f) ?_))
      · rw [strLe_eq] at c; simpa using c
      · have c : ¬ bLt last r.L[s].ISIN := by rw [strLe_eq] at c; simpa using c
        unfold stepP; rw [if_neg]
        intro h
        exact c (h.resolve_left (by simp))

/-- The reference's table tells of the program's. -/
structure Ply (r : lombardref16_Table) (t : limit_Table) (n : Nat) : Prop where
  kt : Kt t n
  issuer : r.Issuer = t.issuer
  asset : r.Asset = t.asset
  i : ∀ k, ofI k r.L = t.issuers.getD k 0
  a : ∀ k, ofA k r.L = t.assets.getD k 0
  s : sumL r.L = t.sum
  len : r.L.length ≤ n
  bd : Small r.L
theorem Ply_put {r : lombardref16_Table} {t : limit_Table} {n : Nat} {a : api_Asset} {c : Int} (h : Ply r t n) (hn : n ≤ 1000) (ha : InK .i64 a.Issuer) (hb : a.ISIN.size ≤ maxLen) (hc : 0 ≤ c ∧ c ≤ 1125899906842624) : Ply (withR r a c) (putT t a c) (n + 1) := by
  have l1 := h.kt.li; have l2 := h.kt.la
  refine ⟨⟨ok_put h.kt.i ha (by omega), ok_put h.kt.a hb (by omega), ?_, ?_⟩, h.issuer, h.asset, fun k => ?_, fun k => ?_, ?_, ?_, ?_⟩
  · have := putL_len a.Issuer (t.issuers.getD a.Issuer 0 + c) t.issuers.clock t.issuers.es
    show (putL _ _ _ _).length ≤ _; omega
  · have := putL_len a.ISIN (t.assets.getD a.ISIN 0 + c) t.assets.clock t.assets.es
    show (putL _ _ _ _).length ≤ _; omega
  · simp only [withR, putT, getD_put, ofI_app, h.i]
    by_cases e : a.Issuer = k
    · rw [if_pos e, if_pos e.symm, e]
    · rw [if_neg e, if_neg (fun e2 => e e2.symm)]; omega
  · simp only [withR, putT, getD_put, ofA_app, h.a]
    by_cases e : a.ISIN = k
    · rw [if_pos e, if_pos e.symm, e]
    · rw [if_neg e, if_neg (fun e2 => e e2.symm)]; omega
  · simp only [withR, putT, sumL_app, h.s]
  · have := h.len; simp only [withR, List.length_append, List.length_cons, List.length_nil]; omega
  · intro p hp
    rcases List.mem_append.1 hp with hp | hp
    · exact h.bd p hp
    · simp at hp; subst hp; exact ⟨by show -1125899906842624 ≤ c; omega, hc.2⟩
theorem posI_len {t : limit_Table} {n : Nat} (h : Kt t n) : (posI t.issuers).length ≤ n := by
  have h1 := h.li
  have l1 : (sortI t.issuers.keys).length ≤ n := by rw [sortI_len]; simp [GM.keys]; omega
  have := List.length_filter_le (fun k => decide (0 < t.issuers.getD k 0)) (sortI t.issuers.keys)
  unfold posI; omega
theorem posS_len {t : limit_Table} {n : Nat} (h : Kt t n) : (posS t.assets).length ≤ n := by
  have h1 := h.la
  have l1 : (sortS t.assets.keys).length ≤ n := by rw [sortS_len]; simp [GM.keys]; omega
  have := List.length_filter_le (fun k => decide (0 < t.assets.getD k 0)) (sortS t.assets.keys)
  unfold posS; omega

theorem usesI_loop {r : lombardref16_Table} {t : limit_Table} {n : Nat} {Q : List lombardref16_Use → Prop} (h : Ply r t n) (hn : n ≤ 1000) (q : Q ((posI t.issuers).map fun k => toldU (useI t k))) :
    ∀ (k : Nat) (hv : Bool) (last : Int), ((r.L.map (·.Issuer)).filter fun x => decide (okk (fun a b : Int => a < b) hv last x)).length ≤ k → _lombardref16_Table_Uses_L0 r Q last hv ((toldTo (fun a b : Int => a < b) (posI t.issuers) hv last).map fun k => toldU (useI t k)) := by
  have hl := h.len
  have hpl := posI_len h.kt
  have hP := posI_lt h.kt.i
  have hPl : ∀ k ∈ posI t.issuers, k ∈ r.L.map (·.Issuer) := fun k hk => by
    have h1 := (mem_posI (m := t.issuers)).1 hk
    rcases Classical.em (k ∈ r.L.map (·.Issuer)) with hm | hm
    · exact hm
    · have := ofI_none hm; rw [h.i] at this; omega
  intro k
  induction k with
  | zero =>
    intro hv last hk
    refine _lombardref16_Table_Uses_l0 ?_
    unfold _lombardref16_Table_Uses_w0
    refine nextI_l (by omega) _ 0 (0, false) rfl ?_
    have sp := next_spec ordZ (hv := hv) (last := last) (r.L.map (·.Issuer)) (0, false) (fun h => by cases h)
    rw [List.drop_zero]
    generalize nextP (fun a b : Int => a < b) hv last (r.L.map (·.Issuer)) (0, false) = R at sp ⊢
    cases hR : R.2 with
    | false =>
      refine Br.t rfl (Lf.i ?_)
      rw [told_end hPl (sp.1 hR).2]; exact q
    | true =>
      have s2 := sp.2 hR
      have := List.length_eq_zero_iff.1 (Nat.le_zero.1 hk)
      have hm : R.1 ∈ (r.L.map (·.Issuer)).filter fun x => decide (okk (fun a b : Int => a < b) hv last x) := List.mem_filter.2 ⟨s2.2.1.resolve_right (by simp), decide_eq_true s2.1⟩
      rw [this] at hm; cases hm
  | succ k ih =>
    intro hv last hk
    refine _lombardref16_Table_Uses_l0 ?_
    unfold _lombardref16_Table_Uses_w0
    refine nextI_l (by omega) _ 0 (0, false) rfl ?_
    have sp := next_spec ordZ (hv := hv) (last := last) (r.L.map (·.Issuer)) (0, false) (fun h => by cases h)
    rw [List.drop_zero]
    generalize nextP (fun a b : Int => a < b) hv last (r.L.map (·.Issuer)) (0, false) = R at sp ⊢
    cases hR : R.2 with
    | false =>
      refine Br.t rfl (Lf.i ?_)
      rw [told_end hPl (sp.1 hR).2]; exact q
    | true =>
      have s2 := sp.2 hR
      have hbl := s2.2.1.resolve_right (by simp)
      have hless := okk_less ordZ s2.1 hbl
      have : DecidablePred (fun x => x ∈ posI t.issuers) := fun _ => Classical.propDecidable _
      have st := told_step ordZ hP hPl s2.1 s2.2.2.1
      have nx := ih true R.1 (by omega)
      rw [st, List.map_append] at nx
      have o := ROfI_r (k := R.1) h.bd (by omega)
      rw [h.i] at o
      refine Br.f rfl ⟨_, o, Br.i (fun c => ⟨_, o, App2.i (app40 ?_) ?_⟩) (fun c => ?_)⟩
      · have := List.length_filter_le (fun k => decide (¬ okk (fun a b : Int => a < b) hv last k)) (posI t.issuers)
        simp only [toldTo, List.length_map, List.length_cons, List.length_nil]; omega
      · rw [if_pos ((mem_posI (m := t.issuers)).2 c)] at nx
        rw [h.issuer]
        exact nx
      · rw [if_neg (fun e => c ((mem_posI (m := t.issuers)).1 e))] at nx
        simp only [List.map_nil, List.append_nil] at nx
        exact nx

theorem usesA_loop {r : lombardref16_Table} {t : limit_Table} {n : Nat} {Q : List lombardref16_Use → Prop} (h : Ply r t n) (hn : n ≤ 1000) (q : Q ((posS t.assets).map fun k => toldU (useA t k))) :
    ∀ (k : Nat) (hv : Bool) (last : ByteArray), ((r.L.map (·.ISIN)).filter fun x => decide (okk bLt hv last x)).length ≤ k → _lombardref16_Table_assets_L0 r Q last hv ((toldTo bLt (posS t.assets) hv last).map fun k => toldU (useA t k)) := by
  have hl := h.len
  have hpl := posS_len h.kt
  have hP := posS_lt h.kt.a
  have hPl : ∀ k ∈ posS t.assets, k ∈ r.L.map (·.ISIN) := fun k hk => by
    have h1 := (mem_posS (m := t.assets)).1 hk
    rcases Classical.em (k ∈ r.L.map (·.ISIN)) with hm | hm
    · exact hm
    · have := ofA_none hm; rw [h.a] at this; omega
  intro k
  induction k with
  | zero =>
    intro hv last hk
    refine _lombardref16_Table_assets_l0 ?_
    unfold _lombardref16_Table_assets_w0
    refine nextA_l (by omega) _ 0 ((⟨#[]⟩ : ByteArray), false) rfl ?_
    have sp := next_spec ordS (hv := hv) (last := last) (r.L.map (·.ISIN)) ((⟨#[]⟩ : ByteArray), false) (fun h => by cases h)
    rw [List.drop_zero]
    generalize nextP bLt hv last (r.L.map (·.ISIN)) ((⟨#[]⟩ : ByteArray), false) = R at sp ⊢
    cases hR : R.2 with
    | false =>
      refine Br.t rfl (Lf.i ?_)
      rw [told_end hPl (sp.1 hR).2]; exact q
    | true =>
      have s2 := sp.2 hR
      have := List.length_eq_zero_iff.1 (Nat.le_zero.1 hk)
      have hm : R.1 ∈ (r.L.map (·.ISIN)).filter fun x => decide (okk bLt hv last x) := List.mem_filter.2 ⟨s2.2.1.resolve_right (by simp), decide_eq_true s2.1⟩
      rw [this] at hm; cases hm
  | succ k ih =>
    intro hv last hk
    refine _lombardref16_Table_assets_l0 ?_
    unfold _lombardref16_Table_assets_w0
    refine nextA_l (by omega) _ 0 ((⟨#[]⟩ : ByteArray), false) rfl ?_
    have sp := next_spec ordS (hv := hv) (last := last) (r.L.map (·.ISIN)) ((⟨#[]⟩ : ByteArray), false) (fun h => by cases h)
    rw [List.drop_zero]
    generalize nextP bLt hv last (r.L.map (·.ISIN)) ((⟨#[]⟩ : ByteArray), false) = R at sp ⊢
    cases hR : R.2 with
    | false =>
      refine Br.t rfl (Lf.i ?_)
      rw [told_end hPl (sp.1 hR).2]; exact q
    | true =>
      have s2 := sp.2 hR
      have hbl := s2.2.1.resolve_right (by simp)
      have hless := okk_less ordS s2.1 hbl
      have : DecidablePred (fun x => x ∈ posS t.assets) := fun _ => Classical.propDecidable _
      have st := told_step ordS hP hPl s2.1 s2.2.2.1
      have nx := ih true R.1 (by omega)
      rw [st, List.map_append] at nx
      have o := ROfA_r (k := R.1) h.bd (by omega)
      rw [h.a] at o
      refine Br.f rfl ⟨_, o, Br.i (fun c => ⟨_, o, App2.i (app40 ?_) ?_⟩) (fun c => ?_)⟩
      · have := List.length_filter_le (fun k => decide (¬ okk bLt hv last k)) (posS t.assets)
        simp only [toldTo, List.length_map, List.length_cons, List.length_nil]; omega
      · rw [if_pos ((mem_posS (m := t.assets)).2 c)] at nx
        rw [h.asset]
        exact nx
      · rw [if_neg (fun e => c ((mem_posS (m := t.assets)).1 e))] at nx
        simp only [List.map_nil, List.append_nil] at nx
        exact nx

theorem RAssets_r {r : lombardref16_Table} {t : limit_Table} {n : Nat} (h : Ply r t n) (hn : n ≤ 1000) : _lombardref16_Table_assets_r r ((posS t.assets).map fun k => toldU (useA t k)) := by
  refine _lombardref16_Table_assets_of ?_
  unfold _lombardref16_Table_assets_w
  have := usesA_loop (Q := fun y => _lombardref16_Table_assets_e (fun v => v = (posS t.assets).map fun k => toldU (useA t k)) y) h hn (Rt.i rfl) _ false (⟨#[]⟩ : ByteArray) (Nat.le_refl _)
  rw [told_start] at this
  exact this
theorem RUses_r {r : lombardref16_Table} {t : limit_Table} {n : Nat} (h : Ply r t n) (hn : n ≤ 1000) : _lombardref16_Table_Uses_r r ((usesT t).map toldU) := by
  have l1 := posI_len h.kt; have l2 := posS_len h.kt
  refine _lombardref16_Table_Uses_of ?_
  unfold _lombardref16_Table_Uses_w
  have := usesI_loop (Q := fun y => ∃ r2 : List lombardref16_Use, (_lombardref16_Table_assets_r r r2) ∧ (App2 40 lombardref16_Use.enc y r2 (_lombardref16_Table_Uses_e (fun v => v = (usesT t).map toldU) (y ++ r2)))) h hn
    ⟨_, RAssets_r h hn, App2.i (app40 (by simp only [List.length_map]; omega)) (Rt.i (by rw [usesT_eq, List.map_append, List.map_map, List.map_map]; rfl))⟩ _ false 0 (Nat.le_refl _)
  rw [told_start] at this
  exact this

theorem RNew1 {b : api_Basket} {need : Int} (h : newOk b need) : lombardref16_New_r b need (⟨need, (newT b need).issuer, (newT b need).asset, []⟩, 0) := by
  obtain ⟨h1, h2, h3, h4, h5, h6⟩ := h
  refine lombardref16_New_of ?_
  unfold lombardref16_New_w
  exact Br.neg (by omega) (Br.neg (by omega) (Br.neg (by omega) (Br.neg (by omega) (Br.neg (by omega) (Br.neg (by omega) ⟨_, RMulDiv_r (iok (by omega)) (iok (by omega)) (by decide), _, RMulDiv_r (iok (by omega)) (iok (by omega)) (by decide), Rt.i rfl⟩)))))
theorem RNew0 {b : api_Basket} {need : Int} (h : ¬ newOk b need) : lombardref16_New_r b need (⟨0, 0, 0, []⟩, 1) := by
  refine lombardref16_New_of ?_
  unfold lombardref16_New_w
  refine Br.i (fun c => Rt.i rfl) (fun c1 => Br.i (fun c => Rt.i rfl) (fun c2 => Br.i (fun c => Rt.i rfl) (fun c3 => Br.i (fun c => Rt.i rfl) (fun c4 => Br.i (fun c => Rt.i rfl) (fun c5 => Br.i (fun c => Rt.i rfl) (fun c6 => absurd ?_ h))))))
  unfold newOk; omega

def above1 (x : lombardref15_Item) : Bool := decide (covC x > 1125899906842624)
def putAll (l : List lombardref15_Item) (t : limit_Table) : limit_Table := l.foldl (fun t x => putT t x.Asset (covC x)) t
def withAll (l : List lombardref15_Item) (r : lombardref16_Table) : lombardref16_Table := l.foldl (fun r x => withR r x.Asset (covC x)) r
def KeyOk2 (l : List lombardref15_Item) : Prop := ∀ x ∈ l, InK .i64 x.Asset.Issuer ∧ x.Asset.ISIN.size ≤ maxLen
theorem Ply_all : ∀ (l : List lombardref15_Item) {r : lombardref16_Table} {t : limit_Table} {n : Nat}, KeyOk2 l → l.any above1 = false → n + l.length ≤ 1000 → Ply r t n → Ply (withAll l r) (putAll l t) (n + l.length)
  | [], r, t, n, _, _, _, h => h
  | x :: l, r, t, n, hk, hb, hn, h => by
    simp only [List.any_cons, Bool.or_eq_false_iff] at hb
    simp only [List.length_cons] at hn
    have hx := hk x (by simp)
    have hc := covC_ok x
    have hb1 : ¬ covC x > 1125899906842624 := of_decide_eq_false hb.1
    have := Ply_all l (fun y hy => hk y (List.mem_cons_of_mem _ hy)) hb.2 (by omega) (Ply_put (c := covC x) h (by omega) hx.1 hx.2 ⟨hc.1, by omega⟩)
    rw [List.length_cons, Nat.add_comm l.length 1, ← Nat.add_assoc]
    exact this

theorem rover_l {l : List lombardref15_Item} {Q0 : Unit → Prop} {Q1 : (Int × Int × Int × List lombardref16_Part) → Prop} (hl : l.length ≤ 64) :
    ∀ (n s : Nat) (r : lombardref16_Table), n + s = l.length → r.L.length ≤ s → ((l.drop s).any above1 = true → Q0 ()) → ((l.drop s).any above1 = false → Q1 ((withAll (l.drop s) r).Need, (withAll (l.drop s) r).Issuer, (withAll (l.drop s) r).Asset, (withAll (l.drop s) r).L)) →
      lombardref16_Over_L0 l Q0 Q1 (s : Int) r.Need r.Issuer r.Asset r.L := by
  intro n
  induction n with
  | zero =>
    intro s r h _ _ q1
    refine lombardref16_Over_l0 ?_
    unfold lombardref16_Over_w0
    rw [lenM_eq]
    refine Br.neg (by omega) (Lf.i ?_)
    rw [List.drop_of_length_le (by omega)] at q1
    exact q1 rfl
  | succ n ih =>
    intro s r h hr q0 q1
    have hs : s < l.length := by omega
    refine lombardref16_Over_l0 ?_
    unfold lombardref16_Over_w0
    rw [lenM_eq]
    rw [List.drop_eq_getElem_cons hs] at q0 q1
    have g : l[(s : Int).toNat]? = some l[s] := by simp [hs]
    refine Br.pos (by omega) ⟨l[s], Got.i ⟨covC l[s], RCovers_r l[s], Br.i (fun c => Lf.i (q0 ?_)) (fun c => Got.i (Got.i ⟨covC l[s], RCovers_r l[s], withR r l[s].Asset (covC l[s]), RWith_r (r := r) (by omega), Num.n (by omega) ?_⟩ (by omega) g) (by omega) g)⟩ (by omega) g⟩
    · simp only [List.any_cons, above1, decide_eq_true c, Bool.true_or]
    · have hb : above1 l[s] = false := decide_eq_false c
      refine ih (s + 1) (withR r l[s].Asset (covC l[s])) (by omega) (by simp [withR]; omega) (fun e => q0 ?_) (fun e => ?_)
      · simp only [List.any_cons, e, Bool.or_true]
      · exact q1 (by simp only [List.any_cons, e, hb]; rfl)

theorem rabove_l {r : List lombardref16_Use} {Q : List lombardref16_Use → Prop} : ∀ (n s : Nat) (acc : List lombardref16_Use), n + s = r.length → acc.length + n ≤ 3000000 → r.length ≤ 3000000 → Q (acc ++ (r.drop s).filter fun u => decide (u.Cover > u.Limit)) → lombardref16_Over_L1 r Q (s : Int) acc
  | 0, s, acc, h, _, _, q => by
    refine lombardref16_Over_l1 ?_
    unfold lombardref16_Over_w1
    rw [lenM_eq]
    refine Br.neg (by omega) (Lf.i ?_)
    rw [List.drop_of_length_le (by omega)] at q
    simpa using q
  | n + 1, s, acc, h, ha, hr, q => by
    have hs : s < r.length := by omega
    refine lombardref16_Over_l1 ?_
    unfold lombardref16_Over_w1
    rw [lenM_eq]
    rw [List.drop_eq_getElem_cons hs, List.filter_cons] at q
    have g : r[(s : Int).toNat]? = some r[s] := by simp [hs]
    refine Br.pos (by omega) ⟨r[s], Got.i (Got.i (Br.i (fun c => Got.i (App2.i (app40 (by simp; omega)) (Num.n (by omega) ?_)) (by omega) g) (fun c => Num.n (by omega) ?_)) (by omega) g) (by omega) g⟩
    · rw [decide_eq_true c] at q
      exact rabove_l n (s + 1) _ (by omega) (by simp; omega) hr (by simpa using q)
    · rw [decide_eq_false c] at q
      exact rabove_l n (s + 1) _ (by omega) (by omega) hr (by simpa using q)

theorem Ply_new {b : api_Basket} {need : Int} : Ply (newR b need) (newT b need) 0 :=
  ⟨⟨ok_nil, ok_nil, Nat.le_refl _, Nat.le_refl _⟩, rfl, rfl, fun _ => rfl, fun _ => rfl, rfl, Nat.le_refl _, fun p hp => (by cases hp)⟩
theorem usesT_len {t : limit_Table} {n : Nat} (h : Kt t n) : (usesT t).length ≤ 2 * n := by
  have := posI_len h; have := posS_len h
  rw [usesT_eq]; simp only [List.length_append, List.length_map]; omega

def aboveT (t : limit_Table) : List limit_Use := (usesT t).filter fun u => decide (u.Cover > u.Limit)
/-- What Over tells. -/
def overS (b : api_Basket) (need : Int) (l : List lombardref15_Item) : List limit_Use × Int :=
  if 64 < l.length then ([], 2) else if l.any above1 = true then ([], 9) else (aboveT (putAll l (newT b need)), 0)
theorem over_len (b : api_Basket) (need : Int) (l : List lombardref15_Item) (hk : KeyOk2 l) : (overS b need l).1.length ≤ 3000000 := by
  unfold overS
  split
  · decide
  · split
    · decide
    · rename_i h1 h2
      have hp := Ply_all l hk (by simpa using h2) (by omega) (Ply_new (b := b) (need := need))
      have := usesT_len hp.kt
      have := List.length_filter_le (fun u : limit_Use => decide (u.Cover > u.Limit)) (usesT (putAll l (newT b need)))
      show (aboveT _).length ≤ _
      unfold aboveT; omega
theorem ROver_r {b : api_Basket} {need : Int} {l : List lombardref15_Item} (hk : KeyOk2 l) (h : newOk b need) : lombardref16_Over_r b need l ((overS b need l).1.map toldU, (overS b need l).2) := by
  refine lombardref16_Over_of ?_
  unfold lombardref16_Over_w
  rw [lenM_eq]
  refine ⟨_, RNew_r h, Br.f rfl (Br.i (fun c => Rt.i (by unfold overS; rw [if_pos (by omega)]; rfl)) (fun c => ?_))⟩
  refine rover_l (by omega) _ 0 (newR b need) rfl (Nat.le_refl _) (fun e => ?_) (fun e => ?_)
  · exact Rt.i (by unfold overS; rw [if_neg (by omega), if_pos (by simpa using e)]; rfl)
  · rw [List.drop_zero] at e
    have hp := Ply_all l hk e (by omega) (Ply_new (b := b) (need := need))
    have hl := usesT_len hp.kt
    refine ⟨_, RUses_r (r := withAll l (newR b need)) hp (by omega), rabove_l _ 0 [] rfl (by simp; omega) (by simp; omega) (Rt.i ?_)⟩
    unfold overS; rw [if_neg (by omega), if_neg (by simp [e])]
    simp only [List.drop_zero, List.nil_append, aboveT, List.filter_map]
    rfl
end Go.Proofs.Ytgncepjnbdhmkaa.Pure
namespace Go.Proofs.Ytgncepjnbdhmkaa.Pure
open Go Go.Ab Go.Stable Go.Proofs.Ytgncepjnbdhmkaa.R
set_option linter.unusedVariables false
def sumW (p : HI → Bool) : List HI → Int
  | [] => 0
  | y :: l => (if p y = true then covH y else 0) + sumW p l
theorem sumW_app (p : HI → Bool) : ∀ a b : List HI, sumW p (a ++ b) = sumW p a + sumW p b
  | [], b => by simp [sumW]
  | y :: a, b => by simp only [List.cons_append, sumW, sumW_app p a b]; omega
theorem sumW_perm (p : HI → Bool) {a b : List HI} (h : a.Perm b) : sumW p a = sumW p b := by
  induction h with
  | nil => rfl
  | cons x _ ih => simp only [sumW, ih]
  | swap x y l => simp only [sumW]; omega
  | trans _ _ h1 h2 => rw [h1, h2]
theorem covH_nn (y : HI) : 0 ≤ covH y := (covC_ok (toR y)).1
theorem sumW_nn (p : HI → Bool) : ∀ l : List HI, 0 ≤ sumW p l
  | [] => Int.le_refl _
  | y :: l => by
    have := covH_nn y; have := sumW_nn p l
    simp only [sumW]; split <;> omega
theorem sumW_mem {p : HI → Bool} {y : HI} : ∀ {l : List HI}, y ∈ l → p y = true → covH y ≤ sumW p l
  | z :: l, h, hp => by
    have := sumW_nn p l; have := covH_nn z
    simp only [sumW]
    rcases List.mem_cons.1 h with rfl | h
    · rw [if_pos hp]; omega
    · have := sumW_mem h hp; split <;> omega
def pT (_ : HI) : Bool := true
def pI (k : Int) (y : HI) : Bool := decide (y.Asset.Issuer = k)
def pA (k : ByteArray) (y : HI) : Bool := decide (y.Asset.ISIN = k)
/-- The table tells of the list. -/
structure Ta (t : limit_Table) (out : List HI) : Prop where
  s : t.sum = sumW pT out
  i : ∀ k, t.issuers.getD k 0 = sumW (pI k) out
  a : ∀ k, t.assets.getD k 0 = sumW (pA k) out
theorem Ta_put {t : limit_Table} {out : List HI} {x : HI} {q : Int} (h : Ta t out) : Ta (putT t x.Asset (covH (setQ x q))) (out ++ [setQ x q]) := by
  refine ⟨?_, fun k => ?_, fun k => ?_⟩
  · simp only [putT, sumW_app, sumW, h.s, pT, if_true]; omega
  · simp only [putT, getD_put, sumW_app, sumW, h.i]
    by_cases e : k = x.Asset.Issuer
    · subst e; rw [if_pos rfl, if_pos (show pI x.Asset.Issuer (setQ x q) = true from decide_eq_true rfl)]; omega
    · rw [if_neg e, if_neg (show ¬ pI k (setQ x q) = true by unfold pI; simp; exact fun h => e h.symm)]; omega
  · simp only [putT, getD_put, sumW_app, sumW, h.a]
    by_cases e : k = x.Asset.ISIN
    · subst e; rw [if_pos rfl, if_pos (show pA x.Asset.ISIN (setQ x q) = true from decide_eq_true rfl)]; omega
    · rw [if_neg e, if_neg (show ¬ pA k (setQ x q) = true by unfold pA; simp; exact fun h => e h.symm)]; omega
/-- What is taken comes from items, each once. -/
structure Dn (H out : List HI) : Prop where
  from_ : ∀ y ∈ out, ∃ x ∈ H, ∃ q, 0 < q ∧ q ≤ x.Lot.Qty ∧ y = setQ x q ∧ 0 < covH y
  apart : out.Pairwise (fun x y => x.Lot.ISIN ≠ y.Lot.ISIN)
theorem q1_le {t : limit_Table} {x : HI} {cover q : Int} (hx : It x) (ht : Tok t) (hc : 0 ≤ cover) (hq : 0 ≤ q ∧ q ≤ 1125899906842624) : q1F t x cover q ≤ q := by
  have hr := room_le (a := x.Asset) ht
  unfold q1F
  split
  · unfold mostS
    rw [if_neg (by simp [hx.good]), if_neg (by omega), if_neg (by omega), if_neg (by omega)]
    split <;> omega
  · omega
theorem q0_le {t : limit_Table} {x : HI} {qty cover : Int} : q0F t x qty cover ≤ qty + x.Lot.Qty := by
  unfold q0F; split <;> omega
theorem step_new {H out l : List HI} {t : limit_Table} {x : HI} (hf : Fi out (x :: l)) (ht : Tok t) (ha : ∀ y ∈ out, y.Lot.ISIN ≠ x.Lot.ISIN) (hT : Ta t out) (hD : Dn H out) (hx : x ∈ H) :
    Ta (stepF (t, out) x).1 (stepF (t, out) x).2 ∧ Dn H (stepF (t, out) x).2 ∧ (∀ y ∈ (stepF (t, out) x).2, y ∈ out ∨ y.Lot.ISIN = x.Lot.ISIN) ∧ (stepF (t, out) x).1.need = t.need ∧ (stepF (t, out) x).1.issuer = t.issuer ∧ (stepF (t, out) x).1.asset = t.asset := by
  have ix := hf.it x (List.mem_cons_self ..)
  have px := ix.pos; have tx := ix.top
  have at1 : atH x.Lot.ISIN out = -1 := by
    rcases atH_or x.Lot.ISIN out with ⟨h, _⟩ | ⟨A, y, B, h1, h2, _⟩
    · exact h
    · exact absurd h2 (ha y (by rw [h1]; simp))
  have ew : wasF out x = setQ x 0 := by unfold wasF; rw [if_neg (by omega)]
  have ec : covH (setQ x 0) = 0 := by rw [cov_q ix.good (by decide)]; simp [cv]
  have en : nF t out x = covH (setQ x (qF t x 0 0)) := by
    unfold nF; rw [ew, ec]; show covH (setQ x (qF t x 0 0)) - 0 = _; omega
  have q0 := q0_bd (t := t) (cover := 0) ix (Int.le_refl 0) (by omega)
  have q1 := q1_bd (t := t) (cover := 0) ix ht (Int.le_refl 0) q0
  have qle : qF t x 0 0 ≤ x.Lot.Qty := by
    have h1 := q1_le (t := t) (cover := 0) ix ht (Int.le_refl 0) q0
    have h2 := q0_le (t := t) (x := x) (qty := 0) (cover := 0)
    show q1F t x 0 (q0F t x 0 0) ≤ _; omega
  have qnn : 0 ≤ qF t x 0 0 := q1.1.1
  have es : stepF (t, out) x = if covH (setQ x (qF t x 0 0)) ≤ 0 then (t, out) else (putT t x.Asset (covH (setQ x (qF t x 0 0))), out ++ [setQ x (qF t x 0 0)]) := by
    unfold stepF
    dsimp only
    rw [en, ew, ec, if_neg (show ¬ 0 ≤ atH x.Lot.ISIN out by omega)]
    rfl
  rw [es]
  by_cases c : covH (setQ x (qF t x 0 0)) ≤ 0
  · rw [if_pos c]; exact ⟨hT, hD, fun y hy => .inl hy, rfl, rfl, rfl⟩
  · rw [if_neg c]
    have qpos : 0 < qF t x 0 0 := by
      by_cases e : qF t x 0 0 = 0
      · rw [e, ec] at c; exact absurd (Int.le_refl _) c
      · omega
    refine ⟨Ta_put hT, ⟨fun y hy => ?_, List.pairwise_append.2 ⟨hD.apart, List.pairwise_singleton _ _, fun y hy z hz => ?_⟩⟩, fun y hy => ?_, rfl, rfl, rfl⟩
    · rcases List.mem_append.1 hy with hy | hy
      · exact hD.from_ y hy
      · have hy := List.mem_singleton.1 hy
        exact ⟨x, hx, _, qpos, qle, hy, by rw [hy]; omega⟩
    · rw [List.mem_singleton.1 hz]; exact ha y hy
    · rcases List.mem_append.1 hy with hy | hy
      · exact .inl hy
      · rw [List.mem_singleton.1 hy]; exact .inr rfl
theorem fill_new {H : List HI} : ∀ (L : List HI) (t : limit_Table) (out : List HI) (r : lombardref16_Table) (m : Nat), Fi out L → Al r t m → m + L.length ≤ 500 → (∀ x ∈ L, x ∈ H ∧ ∀ y ∈ out, y.Lot.ISIN ≠ x.Lot.ISIN) → Ta t out → Dn H out →
    Ta (fillF (t, out) L).1 (fillF (t, out) L).2 ∧ Dn H (fillF (t, out) L).2 ∧ (fillF (t, out) L).1.need = t.need ∧ (fillF (t, out) L).1.issuer = t.issuer ∧ (fillF (t, out) L).1.asset = t.asset
  | [], t, out, r, m, hf, ha, hm, hx, hT, hD => ⟨hT, hD, rfl, rfl, rfl⟩
  | x :: L, t, out, r, m, hf, ha, hm, hx, hT, hD => by
    simp only [List.length_cons] at hm
    simp only [fillF]
    by_cases c : openT t = 0
    · rw [if_pos c]; exact ⟨hT, hD, rfl, rfl, rfl⟩
    · rw [if_neg c]
      obtain ⟨x1, x2⟩ := hx x (List.mem_cons_self ..)
      obtain ⟨s1, s2, _⟩ := step_out hf ha.tok
      obtain ⟨n1, n2, n3, n4, n5, n6⟩ := step_new hf ha.tok x2 hT hD x1
      have ap := (List.pairwise_cons.1 hf.apart).1
      have := fill_new L _ _ _ (m + 1) s1 (step_al hf ha (by omega)) (by omega) (fun z hz => ⟨(hx z (List.mem_cons_of_mem _ hz)).1, fun y hy e => ?_⟩) n1 n2
      · obtain ⟨a1, a2, a3, a4, a5⟩ := this
        exact ⟨a1, a2, a3.trans n4, a4.trans n5, a5.trans n6⟩
      · rcases n3 y hy with h | h
        · exact (hx z (List.mem_cons_of_mem _ hz)).2 y h e
        · exact ap z hz (by rw [← h, e])

/-! Quantities. -/
def sumQ (s : ByteArray) : List api_Lot → Int
  | [] => 0
  | y :: l => (if y.ISIN = s then y.Qty else 0) + sumQ s l
theorem qtyG_other {s s' : ByteArray} {q : Int} (hne : s' ≠ s) : ∀ (l : List api_Lot) (d : Bool), qtyG s' (setG s q d l) = qtyG s' l
  | [], true => rfl
  | [], false => by simp only [setG, qtyG]; rw [if_neg (fun e => hne e.symm)]
  | y :: l, d => by
    have ih := qtyG_other (q := q) hne l
    have e1 : ∀ r : List api_Lot, qtyG s' ((if y.ISIN = s then [] else [y]) ++ r) = if y.ISIN = s' then y.Qty else qtyG s' r := fun r => by
      by_cases c : y.ISIN = s
      · rw [if_pos c, if_neg (fun e => hne (by rw [← e, c]))]; rfl
      · rw [if_neg c]; rfl
    cases d with
    | true => simp only [setG]; rw [e1, ih true]; rfl
    | false =>
      simp only [setG]
      split
      · rw [e1, ih false]; rfl
      · show qtyG s' (⟨s, q⟩ :: _) = _
        simp only [qtyG]
        rw [if_neg (fun e => hne e.symm), e1, ih true]
theorem qtyG_add {l : List api_Lot} {x : api_Lot} (h : Lk l) (h0 : (addG l x).2 = 0) (s : ByteArray) : qtyG s (addG l x).1 = qtyG s l + (if x.ISIN = s then x.Qty else 0) := by
  obtain ⟨A, B, e, hA, hB, hc⟩ := add_cases (x := x) h
  unfold addG at h0 ⊢
  split at h0
  · cases h0
  · rename_i n1
    split at h0
    · cases h0
    · rename_i n2
      rw [if_neg n1, if_neg n2]
      by_cases c : x.ISIN = s
      · subst c
        rw [if_pos rfl]
        have : ∀ (q : Int) (R : List api_Lot), qtyG x.ISIN (A ++ ⟨x.ISIN, q⟩ :: R) = q := fun q R => by
          rw [qtyG_A hA]; simp [qtyG]
        rcases hc with ⟨_, c2, c3⟩ | ⟨y, B', _, _, _, c2, c3⟩
        · rw [c3, this]
        · rw [c3, this]
      · rw [if_neg c, Int.add_zero]
        exact qtyG_other (fun e => c e.symm) l false
theorem qtyG_merge (s : ByteArray) : ∀ (l out r : List api_Lot), Lk out → mergeG out l = (r, 0) → qtyG s r = qtyG s out + sumQ s l ∧ Lk r
  | [], out, r, ho, h => by
    simp only [mergeG, Prod.mk.injEq, and_true] at h
    subst h; exact ⟨by simp [sumQ], ho⟩
  | x :: l, out, r, ho, h => by
    simp only [mergeG] at h
    split at h
    · simp at h
    · rename_i c
      split at h
      · rename_i c2; simp only [Prod.mk.injEq] at h; exact absurd h.2 c2
      · rename_i c2
        have c2 := Decidable.not_not.1 c2
        obtain ⟨h1, h2⟩ := qtyG_merge s l _ r (add_ok ho ⟨by omega, by omega⟩ c2) h
        refine ⟨?_, h2⟩
        rw [h1, qtyG_add ho c2 s]
        simp only [sumQ]; omega
theorem sumQ_none {s : ByteArray} : ∀ {l : List api_Lot}, (∀ y ∈ l, y.ISIN ≠ s) → sumQ s l = 0
  | [], _ => rfl
  | y :: l, h => by
    simp only [sumQ]; rw [if_neg (h y (by simp)), sumQ_none fun z hz => h z (by simp [hz])]; rfl
/-- Where securities are apart: the quantity is that of the one item. -/
theorem sumQ_one {y : HI} : ∀ {l : List HI}, l.Pairwise (fun a b => a.Lot.ISIN ≠ b.Lot.ISIN) → y ∈ l → sumQ y.Lot.ISIN (l.map (·.Lot)) = y.Lot.Qty
  | z :: l, ha, hy => by
    obtain ⟨a1, a2⟩ := List.pairwise_cons.1 ha
    simp only [List.map_cons, sumQ]
    rcases List.mem_cons.1 hy with rfl | hy
    · rw [if_pos rfl, sumQ_none]
      · omega
      · intro w hw
        obtain ⟨v, hv, rfl⟩ := List.mem_map.1 hw
        exact fun e => a1 v hv e.symm
    · rw [if_neg (a1 y hy), sumQ_one a2 hy]; omega
theorem qty_mem {s : ByteArray} : ∀ {l : List api_Lot}, qtyG s l ≠ 0 → ∃ y ∈ l, y.ISIN = s ∧ qtyG s l = y.Qty
  | [], h => absurd rfl h
  | y :: l, h => by
    simp only [qtyG] at h ⊢
    by_cases c : y.ISIN = s
    · rw [if_pos c]; exact ⟨y, by simp, c, rfl⟩
    · rw [if_neg c] at h ⊢
      obtain ⟨z, hz, h1, h2⟩ := qty_mem h
      exact ⟨z, by simp [hz], h1, h2⟩
theorem qtyG_of {b : api_Lot} : ∀ {l : List api_Lot}, l.Pairwise (fun x y => sLt x.ISIN y.ISIN) → b ∈ l → qtyG b.ISIN l = b.Qty
  | y :: l, h, hb => by
    obtain ⟨h1, h2⟩ := List.pairwise_cons.1 h
    simp only [qtyG]
    rcases List.mem_cons.1 hb with rfl | hb
    · rw [if_pos rfl]
    · rw [if_neg (fun e => by have := h1 b hb; rw [e] at this; exact sLt_irrefl _ this)]
      exact qtyG_of h2 hb

/-! Lots taken away. -/
def minusG : List api_Lot → List api_Lot → List api_Lot
  | cur, [] => cur
  | cur, b :: l => minusG (setG b.ISIN (qtyG b.ISIN cur - b.Qty) (qtyG b.ISIN cur - b.Qty == 0) cur) l
theorem minus_l {a1 : List api_Lot} (hl : a1.length ≤ 100) (hs : a1.Pairwise (fun x y => sLt x.ISIN y.ISIN)) (hp : ∀ b ∈ a1, 1 ≤ b.Qty ∧ b.Qty ≤ 1125899906842624) {Q0 : Unit → Prop} {Q1 : List api_Lot → Prop} :
    ∀ (n i : Nat) (cur : List api_Lot), n + i = a1.length → Q1 (minusG cur (a1.drop i)) → cur.length ≤ 100 + i → (∀ b ∈ a1.drop i, b.Qty ≤ qtyG b.ISIN cur ∧ qtyG b.ISIN cur ≤ 1125899906842624) → lombardref17_Minus_L0 a1 Q0 Q1 cur (i : Int) := by
  intro n
  induction n with
  | zero =>
    intro i cur h q hc hq
    refine lombardref17_Minus_l0 ?_
    unfold lombardref17_Minus_w0
    rw [lenM_eq]
    rw [List.drop_of_length_le (by omega)] at q
    exact Br.neg (by omega) (Lf.i q)
  | succ n ih =>
    intro i cur h q hc hq
    have hi : i < a1.length := by omega
    refine lombardref17_Minus_l0 ?_
    unfold lombardref17_Minus_w0
    rw [lenM_eq]
    have g : a1[(i : Int).toNat]? = some a1[i] := by simp [hi]
    have z : (0 : Int) ≤ (i : Int) := by omega
    have hq0 := hq a1[i] (by rw [List.drop_eq_getElem_cons hi]; exact List.mem_cons_self ..)
    have hp0 := hp a1[i] (List.getElem_mem hi)
    refine Br.pos (by omega) ⟨a1[i], Got.i ⟨_, Qty_r (by omega), Got.i (Br.neg (by omega) (Got.i (Got.i (Num.n (by omega) ⟨_, Set_r (by omega), Num.n (by omega) ?_⟩) z g) z g)) z g⟩ z g⟩
    refine ih (i + 1) _ (by omega) (by rw [List.drop_eq_getElem_cons hi] at q; exact q) ?_ (fun b hb => ?_)
    · have := setG_len a1[i].ISIN (qtyG a1[i].ISIN cur - a1[i].Qty) cur
      cases hh : (qtyG a1[i].ISIN cur - a1[i].Qty == 0) with
      | true => have := this.1; omega
      | false => have := this.2; omega
    · have hne : b.ISIN ≠ a1[i].ISIN := fun e => by
        obtain ⟨j, hj, rfl⟩ := List.getElem_of_mem hb
        rw [List.getElem_drop] at e
        simp only [List.length_drop] at hj
        have := List.pairwise_iff_getElem.1 hs i (i + 1 + j) hi (by omega) (by omega)
        rw [e] at this; exact sLt_irrefl _ this
      rw [qtyG_other hne]
      exact hq b (by rw [List.drop_eq_getElem_cons hi]; exact List.mem_cons_of_mem _ hb)
theorem Minus_r {a b : List api_Lot} (ha : a.length ≤ 64) (hb : Lk b) (hq : ∀ x ∈ b, x.Qty ≤ qtyG x.ISIN a ∧ qtyG x.ISIN a ≤ 1125899906842624) : lombardref17_Minus_r a b (minusG a b, 0) := by
  have := hb.len
  refine lombardref17_Minus_of ?_
  unfold lombardref17_Minus_w
  exact minus_l (by omega) hb.srt hb.pos b.length 0 a (by omega) (Rt.i (by rw [List.drop_zero])) (by omega) (by simpa using hq)

/-! What is left of items; what it covers. -/
def lessG (lots : List api_Lot) : List HI → List HI
  | [] => []
  | x :: l => if 0 < qtyG x.Lot.ISIN lots then setQ x (qtyG x.Lot.ISIN lots) :: lessG lots l else lessG lots l
theorem less_l {lots : List api_Lot} {l : List HI} (h1 : lots.length ≤ 1000) (h2 : l.length ≤ 1000) {Q : List RI → Prop} : ∀ (n i : Nat) (acc : List HI), n + i = l.length → acc.length ≤ i → Q ((acc ++ lessG lots (l.drop i)).map toR) → lombardref18_Less_L0 (l.map toR) lots Q (i : Int) (acc.map toR) := by
  intro n
  induction n with
  | zero =>
    intro i acc h ha q
    refine lombardref18_Less_l0 ?_
    unfold lombardref18_Less_w0
    rw [lenM_eq, List.length_map]
    rw [List.drop_of_length_le (by omega)] at q
    exact Br.neg (by omega) (Lf.i (by simpa [lessG] using q))
  | succ n ih =>
    intro i acc h ha q
    have hi : i < l.length := by omega
    refine lombardref18_Less_l0 ?_
    unfold lombardref18_Less_w0
    rw [lenM_eq, List.length_map]
    rw [List.drop_eq_getElem_cons hi] at q
    have g : (l.map toR)[(i : Int).toNat]? = some (toR l[i]) := by simp [hi]
    simp only [lessG] at q
    refine Br.pos (by omega) ⟨toR l[i], Got.i ⟨_, Qty_r (by omega), Br.i (fun c => App2.i (app96 (by simp; omega)) (Num.n (by omega) ?_)) (fun c => Num.n (by omega) ?_)⟩ (by omega) g⟩
    · have c : 0 < qtyG l[i].Lot.ISIN lots := c
      rw [if_pos c] at q
      have := ih (i + 1) (acc ++ [setQ l[i] (qtyG l[i].Lot.ISIN lots)]) (by omega) (by simp; omega) (by rw [List.append_assoc]; exact q)
      rw [List.map_append] at this
      exact this
    · have c : ¬ 0 < qtyG l[i].Lot.ISIN lots := c
      rw [if_neg c] at q
      exact ih (i + 1) acc (by omega) (by omega) q
theorem Less_r {lots : List api_Lot} {l : List HI} (h1 : lots.length ≤ 1000) (h2 : l.length ≤ 1000) : lombardref18_Less_r (l.map toR) lots ((lessG lots l).map toR) := by
  refine lombardref18_Less_of ?_
  unfold lombardref18_Less_w
  exact less_l h1 h2 l.length 0 [] (by omega) (by simp) (Rt.i (by simp))
theorem mem_less {lots : List api_Lot} {y : HI} : ∀ {l : List HI}, y ∈ lessG lots l ↔ ∃ x ∈ l, 0 < qtyG x.Lot.ISIN lots ∧ y = setQ x (qtyG x.Lot.ISIN lots)
  | [] => by simp [lessG]
  | x :: l => by
    simp only [lessG]
    split
    · rename_i c
      rw [List.mem_cons, mem_less]
      constructor
      · rintro (rfl | ⟨z, h1, h2, h3⟩)
        · exact ⟨x, by simp, c, rfl⟩
        · exact ⟨z, by simp [h1], h2, h3⟩
      · rintro ⟨z, h1, h2, h3⟩
        rcases List.mem_cons.1 h1 with rfl | h1
        · exact .inl h3
        · exact .inr ⟨z, h1, h2, h3⟩
    · rename_i c
      rw [mem_less]
      constructor
      · rintro ⟨z, h1, h2, h3⟩; exact ⟨z, by simp [h1], h2, h3⟩
      · rintro ⟨z, h1, h2, h3⟩
        rcases List.mem_cons.1 h1 with rfl | h1
        · exact absurd h2 c
        · exact ⟨z, h1, h2, h3⟩
theorem less_apart {lots : List api_Lot} : ∀ {l : List HI}, l.Pairwise (fun a b => a.Lot.ISIN ≠ b.Lot.ISIN) → (lessG lots l).Pairwise (fun a b => a.Lot.ISIN ≠ b.Lot.ISIN)
  | [], _ => by simp [lessG]
  | x :: l, h => by
    obtain ⟨h1, h2⟩ := List.pairwise_cons.1 h
    simp only [lessG]
    split
    · refine List.pairwise_cons.2 ⟨fun y hy => ?_, less_apart h2⟩
      obtain ⟨z, z1, z2, rfl⟩ := mem_less.1 hy
      exact h1 z z1
    · exact less_apart h2
theorem less_len {lots : List api_Lot} : ∀ {l : List HI}, (lessG lots l).length ≤ l.length
  | [] => by simp [lessG]
  | x :: l => by
    have := less_len (lots := lots) (l := l)
    simp only [lessG]; split <;> simp <;> omega
theorem RPlus_r {a b : Int} (ha : 0 ≤ a) (hb : 0 ≤ b) (h : a + b ≤ 9223372036854775807) : lombardref01_Plus_r a b (a + b, 0) := by
  refine lombardref01_Plus_of ?_
  unfold lombardref01_Plus_w
  refine Br.i (fun c => Num.n (by omega) (Br.neg (by omega) (Br.neg (by omega) (Num.n (by omega) (Rt.i rfl))))) (fun c => Br.neg (by omega) (Num.n (by omega) (Rt.i rfl)))
theorem total_l {l : List HI} (h2 : l.length ≤ 1000) {Q0 Q1 : Int → Prop} : ∀ (n i : Nat) (acc : Int), n + i = l.length → 0 ≤ acc → acc + sumW pT (l.drop i) ≤ 9223372036854775807 → Q1 (acc + sumW pT (l.drop i)) → lombardref15_Total_L0 (l.map toR) Q0 Q1 acc (i : Int) := by
  intro n
  induction n with
  | zero =>
    intro i acc h ha hb q
    refine lombardref15_Total_l0 ?_
    unfold lombardref15_Total_w0
    rw [lenM_eq, List.length_map]
    rw [List.drop_of_length_le (by omega)] at q
    exact Br.neg (by omega) (Lf.i (by simpa [sumW] using q))
  | succ n ih =>
    intro i acc h ha hb q
    have hi : i < l.length := by omega
    refine lombardref15_Total_l0 ?_
    unfold lombardref15_Total_w0
    rw [lenM_eq, List.length_map]
    rw [List.drop_eq_getElem_cons hi] at q hb
    have g : (l.map toR)[(i : Int).toNat]? = some (toR l[i]) := by simp [hi]
    simp only [sumW, pT, if_true] at q hb
    have nn := sumW_nn pT (l.drop (i + 1))
    have cn := covH_nn l[i]
    have nn' : 0 ≤ sumW (fun _ => true) (l.drop (i + 1)) := nn
    refine Br.pos (by omega) ⟨toR l[i], Got.i ⟨_, RHCovers_r l[i], _, RPlus_r ha cn (by omega), Br.neg (fun k => k rfl) (Num.n (by omega) (ih (i + 1) _ (by omega) (by omega) ?_ ?_))⟩ (by omega) g⟩
    · show acc + covH l[i] + sumW pT (l.drop (i + 1)) ≤ _
      rw [Int.add_assoc]; exact hb
    · show Q1 (acc + covH l[i] + sumW pT (l.drop (i + 1)))
      rw [Int.add_assoc]; exact q
theorem Total15_r {l : List HI} (h2 : l.length ≤ 1000) (hb : sumW pT l ≤ 9223372036854775807) : lombardref15_Total_r (l.map toR) (sumW pT l, 0) := by
  refine lombardref15_Total_of ?_
  unfold lombardref15_Total_w
  exact total_l h2 l.length 0 0 (by omega) (Int.le_refl _) (by simpa using hb) (Rt.i (by simp))

/-! Above the limits. -/
theorem putAll_sums : ∀ (l : List HI) (t : limit_Table), (putAll (l.map toR) t).issuer = t.issuer ∧ (putAll (l.map toR) t).asset = t.asset ∧ (∀ k, (putAll (l.map toR) t).issuers.getD k 0 = t.issuers.getD k 0 + sumW (pI k) l) ∧ (∀ k, (putAll (l.map toR) t).assets.getD k 0 = t.assets.getD k 0 + sumW (pA k) l)
  | [], t => ⟨rfl, rfl, fun k => by simp [putAll, sumW], fun k => by simp [putAll, sumW]⟩
  | x :: l, t => by
    obtain ⟨h1, h2, h3, h4⟩ := putAll_sums l (putT t x.Asset (covH x))
    have e : putAll ((x :: l).map toR) t = putAll (l.map toR) (putT t x.Asset (covH x)) := rfl
    rw [e]
    refine ⟨h1, h2, fun k => ?_, fun k => ?_⟩
    · rw [h3]
      simp only [putT, getD_put, sumW]
      by_cases c : k = x.Asset.Issuer
      · subst c; rw [if_pos rfl, if_pos (show pI x.Asset.Issuer x = true from decide_eq_true rfl)]; omega
      · rw [if_neg c, if_neg (show ¬ pI k x = true by unfold pI; simp; exact fun h => c h.symm)]; omega
    · rw [h4]
      simp only [putT, getD_put, sumW]
      by_cases c : k = x.Asset.ISIN
      · subst c; rw [if_pos rfl, if_pos (show pA x.Asset.ISIN x = true from decide_eq_true rfl)]; omega
      · rw [if_neg c, if_neg (show ¬ pA k x = true by unfold pA; simp; exact fun h => c h.symm)]; omega
theorem above_nil {t : limit_Table} (h1 : ∀ k, t.issuers.getD k 0 ≤ t.issuer) (h2 : ∀ k, t.assets.getD k 0 ≤ t.asset) : aboveT t = [] := by
  unfold aboveT
  rw [List.filter_eq_nil_iff]
  intro u hu
  rw [usesT_eq] at hu
  rcases List.mem_append.1 hu with hu | hu
  · obtain ⟨k, _, rfl⟩ := List.mem_map.1 hu
    have := h1 k
    show ¬ decide (t.issuers.getD k 0 > t.issuer) = true
    rw [decide_eq_true_eq]; omega
  · obtain ⟨k, _, rfl⟩ := List.mem_map.1 hu
    have := h2 k
    show ¬ decide (t.assets.getD k 0 > t.asset) = true
    rw [decide_eq_true_eq]; omega
theorem above_some {t : limit_Table} (hi : 0 ≤ t.issuer) (ha : 0 ≤ t.asset) (h : (∃ k, t.issuer < t.issuers.getD k 0) ∨ (∃ k, t.asset < t.assets.getD k 0)) : (aboveT t).length ≠ 0 := by
  intro h0
  have h0 := List.eq_nil_of_length_eq_zero h0
  unfold aboveT at h0
  rw [List.filter_eq_nil_iff, usesT_eq] at h0
  rcases h with ⟨k, hk⟩ | ⟨k, hk⟩
  · refine h0 (useI t k) (List.mem_append.2 (.inl (List.mem_map.2 ⟨k, mem_posI.2 (by omega), rfl⟩))) ?_
    show decide (t.issuers.getD k 0 > t.issuer) = true
    rw [decide_eq_true_eq]; omega
  · refine h0 (useA t k) (List.mem_append.2 (.inr (List.mem_map.2 ⟨k, mem_posS.2 (by omega), rfl⟩))) ?_
    show decide (t.assets.getD k 0 > t.asset) = true
    rw [decide_eq_true_eq]; omega
end Go.Proofs.Ytgncepjnbdhmkaa.Pure
namespace Go.Proofs.Ytgncepjnbdhmkaa.Pure
open Go Go.Ab Go.Stable Go.Proofs.Ytgncepjnbdhmkaa.R
set_option linter.unusedVariables false
theorem isin_one {x y : HI} : ∀ {l : List HI}, l.Pairwise (fun a b => a.Lot.ISIN ≠ b.Lot.ISIN) → x ∈ l → y ∈ l → x.Lot.ISIN = y.Lot.ISIN → x = y
  | z :: l, h, hx, hy, e => by
    obtain ⟨h1, h2⟩ := List.pairwise_cons.1 h
    rcases List.mem_cons.1 hx with hx1 | hx1 <;> rcases List.mem_cons.1 hy with hy1 | hy1
    · rw [hx1, hy1]
    · exact absurd (by rw [← hx1]; exact e) (h1 y hy1)
    · exact absurd (by rw [← hy1]; exact e.symm) (h1 x hx1)
    · exact isin_one h2 hx1 hy1 e
theorem wrong_map {l : List RI} (h : wrongS l = 0) : (∀ x ∈ l.map toH, It x) ∧ (l.map toH).Pairwise (fun x y => x.Lot.ISIN ≠ y.Lot.ISIN) := by
  obtain ⟨f1, f2⟩ := Fi_new h
  refine ⟨fun x hx => f1.it x ((isort_perm _).mem_iff.2 hx), ?_⟩
  exact ((isort_perm (l.map toH)).pairwise_iff (fun h e => h.symm e)).1 f1.apart
structure Facts (b : api_Basket) (l : List RI) (need : Int) (t : limit_Table) (out : List HI) : Prop where
  ta : Ta t out
  dn : Dn (l.map toH) out
  tok : Tok t
  need_ : t.need = need
  issuer : t.issuer = (newT b need).issuer
  asset : t.asset = (newT b need).asset
  len : out.length ≤ 64
  ln : l.length ≤ 64
  it : ∀ x ∈ l.map toH, It x
  apart : (l.map toH).Pairwise (fun x y => x.Lot.ISIN ≠ y.Lot.ISIN)
theorem fill_facts {b : api_Basket} {l : List RI} {need : Int} (h : newOk b need) (hw : wrongS l = 0) : Facts b l need (fillF (newT b need, []) (isort leE (l.map toH))).1 (fillF (newT b need, []) (isort leE (l.map toH))).2 := by
  obtain ⟨f1, f2⟩ := Fi_new hw
  obtain ⟨w1, w2⟩ := wrong_map hw
  obtain ⟨m', a1, a2, a3, a4⟩ := fillR_al _ _ [] _ 0 f1 (Al_new h) (by rw [isort_len']; simp; omega)
  obtain ⟨b1, b2, b3, b4, b5⟩ := fill_new (H := l.map toH) (isort leE (l.map toH)) (newT b need) [] (newR b need) 0 f1 (Al_new h) (by rw [isort_len']; simp; omega) (fun x hx => ⟨(isort_perm _).mem_iff.1 hx, fun y hy => by cases hy⟩)
    ⟨by simp [newT, sumW], fun k => by simp [sumW]; rfl, fun k => by simp [sumW]; rfl⟩ ⟨fun y hy => (by cases hy), List.Pairwise.nil⟩
  rw [isort_len', List.length_map] at a3
  exact ⟨b1, b2, a1.tok, b3, b4, b5, by simp at a3; omega, f2, w1, w2⟩
section
variable {b : api_Basket} {l : List RI} {need : Int} {t : limit_Table} {out : List HI} {lots : List api_Lot}
theorem lots_qty (hm : mergeG [] (out.map (·.Lot)) = (lots, 0)) (s : ByteArray) : qtyG s lots = sumQ s (out.map (·.Lot)) := by
  have := (qtyG_merge s _ [] lots Lk_nil hm).1
  rw [this]; simp [qtyG]
theorem lots_lk (hm : mergeG [] (out.map (·.Lot)) = (lots, 0)) : Lk lots := (qtyG_merge ByteArray.empty _ [] lots Lk_nil hm).2
theorem out_qty (f : Facts b l need t out) (hm : mergeG [] (out.map (·.Lot)) = (lots, 0)) {y : HI} (hy : y ∈ out) : qtyG y.Lot.ISIN lots = y.Lot.Qty := by
  rw [lots_qty hm, sumQ_one f.dn.apart hy]
theorem qty_out (hm : mergeG [] (out.map (·.Lot)) = (lots, 0)) {s : ByteArray} (h : qtyG s lots ≠ 0) : ∃ z ∈ out, z.Lot.ISIN = s := by
  refine Decidable.byContradiction fun k => h ?_
  rw [lots_qty hm, sumQ_none]
  intro y hy e
  obtain ⟨z, hz, rfl⟩ := List.mem_map.1 hy
  exact k ⟨z, hz, e⟩
theorem less_perm (f : Facts b l need t out) (hm : mergeG [] (out.map (·.Lot)) = (lots, 0)) : (lessG lots (l.map toH)).Perm out := by
  have nd : ∀ {a : List HI}, a.Pairwise (fun x y => x.Lot.ISIN ≠ y.Lot.ISIN) → a.Nodup := fun h => h.imp fun {x y} hxy e => hxy (by rw [e])
  refine (List.perm_ext_iff_of_nodup (nd (less_apart f.apart)) (nd f.dn.apart)).2 fun y => ⟨fun hy => ?_, fun hy => ?_⟩
  · obtain ⟨x, hx, hq, rfl⟩ := mem_less.1 hy
    obtain ⟨z, hz, ez⟩ := qty_out hm (s := x.Lot.ISIN) (by omega)
    obtain ⟨x', hx', q, q0, q1, rfl, _⟩ := f.dn.from_ z hz
    have e : x' = x := isin_one f.apart hx' hx ez
    subst e
    have := out_qty f hm hz
    have this : qtyG x'.Lot.ISIN lots = q := this
    rw [this]; exact hz
  · obtain ⟨x, hx, q, q0, q1, rfl, _⟩ := f.dn.from_ y hy
    have := out_qty f hm hy
    have this : qtyG x.Lot.ISIN lots = q := this
    exact mem_less.2 ⟨x, hx, by omega, by rw [this]⟩
theorem out_cov (f : Facts b l need t out) {y : HI} (hy : y ∈ out) : covH y ≤ 1125899906842624 := by
  have h1 := sumW_mem (p := pA y.Asset.ISIN) hy (by unfold pA; exact decide_eq_true rfl)
  rw [← f.ta.a] at h1
  have h2 := f.tok.assets y.Asset.ISIN
  have h3 := f.tok.asset
  omega
theorem key_less (hk : KeyOk2 l) : KeyOk2 ((lessG lots (l.map toH)).map toR) := by
  intro z hz
  obtain ⟨y, hy, rfl⟩ := List.mem_map.1 hz
  obtain ⟨x, hx, _, rfl⟩ := mem_less.1 hy
  obtain ⟨w, hw, rfl⟩ := List.mem_map.1 hx
  exact hk w hw
theorem over_none (f : Facts b l need t out) (hm : mergeG [] (out.map (·.Lot)) = (lots, 0)) : overS b need ((lessG lots (l.map toH)).map toR) = ([], 0) := by
  have pm := less_perm f hm
  have ll := less_len (lots := lots) (l := l.map toH)
  have hln := f.ln
  rw [List.length_map] at ll
  unfold overS
  rw [if_neg (by rw [List.length_map]; omega), if_neg]
  · rw [above_nil]
    · intro k
      obtain ⟨h1, h2, h3, h4⟩ := putAll_sums (lessG lots (l.map toH)) (newT b need)
      rw [h1, h3, sumW_perm _ pm, ← f.ta.i, ← f.issuer]
      have := (f.tok.issuers k).2
      have e : (newT b need).issuers.getD k 0 = 0 := rfl
      rw [e]; omega
    · intro k
      obtain ⟨h1, h2, h3, h4⟩ := putAll_sums (lessG lots (l.map toH)) (newT b need)
      rw [h2, h4, sumW_perm _ pm, ← f.ta.a, ← f.asset]
      have := (f.tok.assets k).2
      have e : (newT b need).assets.getD k 0 = 0 := rfl
      rw [e]; omega
  · intro h
    obtain ⟨z, hz, hz2⟩ := List.any_eq_true.1 h
    obtain ⟨y, hy, rfl⟩ := List.mem_map.1 hz
    have := out_cov f (pm.mem_iff.1 hy)
    have h3 : covC (toR y) > 1125899906842624 := of_decide_eq_true hz2
    have h4 : covH y = covC (toR y) := rfl
    omega
end
theorem Fill_or (b : api_Basket) (l : List RI) (need : Int) : (∃ e, e ≠ 0 ∧ fillS b l need = (⟨[], 0, 0⟩, e)) ∨ (∃ t out lots, Facts b l need t out ∧ mergeG [] (out.map (·.Lot)) = (lots, 0) ∧ fillS b l need = (⟨lots, t.sum, openT t⟩, 0) ∧ newOk b need) := by
  unfold fillS
  by_cases h : newOk b need
  · rw [if_neg (fun k => k h)]
    by_cases hw : wrongS l = 0
    · rw [if_neg (fun k => k hw)]
      have f := fill_facts h hw
      unfold planS
      rcases merge_or ((fillF (newT b need, []) (isort leE (l.map toH))).2.map (·.Lot)) [] with ⟨r, hr⟩ | ⟨e, he, hr⟩
      · rw [hr, if_neg (fun k => k rfl)]
        exact .inr ⟨_, _, r, f, hr, rfl, h⟩
      · rw [hr, if_pos he]
        exact .inl ⟨e, he, rfl⟩
    · rw [if_pos hw]; exact .inl ⟨_, hw, rfl⟩
  · rw [if_pos h]; exact .inl ⟨1, by decide, rfl⟩
theorem AllocWithin_r (b : api_Basket) (l : List RI) (need : Int) (hk : KeyOk2 l) (hN : InK .i64 need) : lombardlaw18_AllocWithin_r b l need true := by
  refine lombardlaw18_AllocWithin_of ?_
  unfold lombardlaw18_AllocWithin_w
  rw [lenM_eq]
  refine Br.i (fun _ => ⟨_, awake_r, Rt.i rfl⟩) (fun c => ⟨_, items_r (by omega), _, Fill_r, ?_⟩)
  rcases Fill_or b l need with ⟨e, he, hf⟩ | ⟨t, out, lots, f, hm, hf, hn⟩
  · rw [hf]
    exact Br.pos he (Br.t rfl (Br.t rfl (Br.t rfl ⟨_, awake_r, Rt.i rfl⟩)))
  · rw [hf]
    refine Br.neg (fun k => k rfl) ⟨_, ROf_r (by omega), ?_⟩
    have lk := lots_lk hm
    rcases merge_or (l.map (·.Lot)) [] with ⟨all, hr⟩ | ⟨e, he, hr⟩
    · rw [hr]
      have ak : Lk all := (qtyG_merge ByteArray.empty _ [] all Lk_nil hr).2
      have aq : ∀ s, qtyG s all = sumQ s (l.map (·.Lot)) := fun s => by
        have := (qtyG_merge s _ [] all Lk_nil hr).1
        rw [this]; simp [qtyG]
      have eL : l.map (·.Lot) = (l.map toH).map (·.Lot) := by rw [List.map_map]; rfl
      have pm := less_perm f hm
      have ls := Less_r (lots := lots) (l := l.map toH) (by have := lk.len; omega) (by simp; omega)
      rw [toR_toH] at ls
      have ll := less_len (lots := lots) (l := l.map toH)
      rw [List.length_map] at ll
      have es : sumW pT (lessG lots (l.map toH)) = t.sum := by rw [sumW_perm _ pm, f.ta.s]
      have ts := f.tok.sum
      have s0 : 0 ≤ t.sum := by rw [f.ta.s]; exact sumW_nn _ _
      have tt := Total15_r (l := lessG lots (l.map toH)) (by omega) (by omega)
      rw [es] at tt
      have ov := ROver_r (b := b) (need := need) (key_less (lots := lots) hk) hn
      rw [over_none f hm] at ov
      refine Br.neg (fun k => k rfl) ⟨_, Minus_r ak.len lk (fun x hx => ?_), Br.neg (fun k => k rfl) ⟨_, ls, _, tt, _, ov, Br.t rfl (Br.t rfl (Br.t (by simp) (Br.t rfl ?_)))⟩⟩
      · have hx1 := lk.pos x hx
        have e1 := qtyG_of lk.srt hx
        obtain ⟨z, hz, ez⟩ := qty_out hm (s := x.ISIN) (by omega)
        obtain ⟨w, hw, q, q0, q1, rfl, _⟩ := f.dn.from_ z hz
        have e2 := out_qty f hm hz
        have e2 : qtyG w.Lot.ISIN lots = q := e2
        have ez : w.Lot.ISIN = x.ISIN := ez
        have e3 := sumQ_one f.apart hw
        rw [← eL, ← aq, ez] at e3
        rw [ez, e1] at e2
        have := (f.it w hw).top
        show x.Qty ≤ qtyG x.ISIN all ∧ qtyG x.ISIN all ≤ 1125899906842624
        omega
      · have eo : openT t = max 0 (need - t.sum) := by unfold openT; rw [f.need_]
        have hn0 := hn.1
        have hN1 : -9223372036854775808 ≤ need ∧ need ≤ 9223372036854775807 := hN
        refine Br.t ?_ (Br.i (fun _ => ⟨_, awake_r, Rt.i rfl⟩) (fun c2 => Num.n (by show -9223372036854775808 ≤ need - t.sum ∧ need - t.sum ≤ _; omega) (Br.t ?_ ⟨_, awake_r, Rt.i rfl⟩)))
        · show ((openT t == 0) == decide (t.sum ≥ need)) = true
          by_cases k : t.sum ≥ need
          · rw [decide_eq_true k]; have : openT t = 0 := by omega
            rw [this]; rfl
          · rw [decide_eq_false k]
            have : openT t ≠ 0 := by omega
            rw [beq_false_of_ne this]; rfl
        · show (openT t == need - t.sum) = true
          have c2 : openT t ≠ 0 := c2
          have : openT t = need - t.sum := by omega
          rw [this]; simp
    · rw [hr]
      exact Br.pos he ⟨_, awake_r, Rt.i rfl⟩
end Go.Proofs.Ytgncepjnbdhmkaa.Pure
namespace Go.Proofs.Ytgncepjnbdhmkaa.Pure
open Go Go.Ab Go.Stable Go.Proofs.Ytgncepjnbdhmkaa.R
set_option linter.unusedVariables false
theorem step_eq {out l : List HI} {t : limit_Table} {x : HI} (hf : Fi out (x :: l)) (ht : Tok t) (ha : ∀ y ∈ out, y.Lot.ISIN ≠ x.Lot.ISIN) :
    stepF (t, out) x = if covH (setQ x (qF t x 0 0)) ≤ 0 then (t, out) else (putT t x.Asset (covH (setQ x (qF t x 0 0))), out ++ [setQ x (qF t x 0 0)]) := by
  have ix := hf.it x (List.mem_cons_self ..)
  have at1 : atH x.Lot.ISIN out = -1 := by
    rcases atH_or x.Lot.ISIN out with ⟨h, _⟩ | ⟨A, y, B, h1, h2, _⟩
    · exact h
    · exact absurd h2 (ha y (by rw [h1]; simp))
  have ew : wasF out x = setQ x 0 := by unfold wasF; rw [if_neg (by omega)]
  have ec : covH (setQ x 0) = 0 := by rw [cov_q ix.good (by decide)]; simp [cv]
  have en : nF t out x = covH (setQ x (qF t x 0 0)) := by
    unfold nF; rw [ew, ec]; show covH (setQ x (qF t x 0 0)) - 0 = _; omega
  unfold stepF
  dsimp only
  rw [en, ew, ec, if_neg (show ¬ 0 ≤ atH x.Lot.ISIN out by omega)]
  rfl
/-- The run goes on from each state: what is there stays ahead, and no less is covered. -/
theorem fill_app : ∀ (L : List HI) (t : limit_Table) (out : List HI) (r : lombardref16_Table) (m : Nat), Fi out L → Al r t m → m + L.length ≤ 500 → (∀ x ∈ L, ∀ y ∈ out, y.Lot.ISIN ≠ x.Lot.ISIN) →
    (∃ R, (fillF (t, out) L).2 = out ++ R ∧ ∀ y ∈ R, ∃ z ∈ L, y.Lot.ISIN = z.Lot.ISIN) ∧ t.sum ≤ (fillF (t, out) L).1.sum ∧ (fillF (t, out) L).1.need = t.need
  | [], t, out, r, m, hf, ha, hm, hx => ⟨⟨[], by simp [fillF], by simp⟩, Int.le_refl _, rfl⟩
  | x :: L, t, out, r, m, hf, ha, hm, hx => by
    simp only [List.length_cons] at hm
    simp only [fillF]
    by_cases c : openT t = 0
    · rw [if_pos c]; exact ⟨⟨[], by simp, by simp⟩, Int.le_refl _, rfl⟩
    · rw [if_neg c]
      obtain ⟨s1, s2, _⟩ := step_out hf ha.tok
      have sal := step_al hf ha (by omega)
      have x2 := hx x (List.mem_cons_self ..)
      have ap := (List.pairwise_cons.1 hf.apart).1
      have es := step_eq hf ha.tok x2
      have fr : ∀ z ∈ L, ∀ y ∈ (stepF (t, out) x).2, y.Lot.ISIN ≠ z.Lot.ISIN := fun z hz y hy e => by
        rw [es] at hy
        split at hy
        · exact hx z (List.mem_cons_of_mem _ hz) y hy e
        · rcases List.mem_append.1 hy with hy | hy
          · exact hx z (List.mem_cons_of_mem _ hz) y hy e
          · rw [List.mem_singleton.1 hy] at e; exact ap z hz e
      obtain ⟨⟨R, r1, r2⟩, r3, r4⟩ := fill_app L _ _ _ (m + 1) s1 sal (by omega) fr
      have r1 : (fillF (stepF (t, out) x) L).2 = (stepF (t, out) x).2 ++ R := r1
      have r3 : (stepF (t, out) x).1.sum ≤ (fillF (stepF (t, out) x) L).1.sum := r3
      have r4 : (fillF (stepF (t, out) x) L).1.need = (stepF (t, out) x).1.need := r4
      rw [r1, r4]
      have cn := covH_nn (setQ x (qF t x 0 0))
      by_cases k : covH (setQ x (qF t x 0 0)) ≤ 0
      · rw [if_pos k] at es
        rw [es] at r3 ⊢
        exact ⟨⟨R, rfl, fun y hy => by obtain ⟨z, hz, e⟩ := r2 y hy; exact ⟨z, List.mem_cons_of_mem _ hz, e⟩⟩, r3, rfl⟩
      · rw [if_neg k] at es
        rw [es] at r3 ⊢
        refine ⟨⟨setQ x (qF t x 0 0) :: R, by simp, fun y hy => ?_⟩, ?_, rfl⟩
        · rcases List.mem_cons.1 hy with rfl | hy
          · exact ⟨x, List.mem_cons_self .., rfl⟩
          · obtain ⟨z, hz, e⟩ := r2 y hy; exact ⟨z, List.mem_cons_of_mem _ hz, e⟩
        · have r3 : t.sum + covH (setQ x (qF t x 0 0)) ≤ (fillF (putT t x.Asset (covH (setQ x (qF t x 0 0))), out ++ [setQ x (qF t x 0 0)]) L).1.sum := r3
          omega
/-- When each item was looked at, if something is lacking at the end. -/
theorem trace {x : HI} : ∀ (L : List HI) (t : limit_Table) (out : List HI) (r : lombardref16_Table) (m : Nat), Fi out L → Al r t m → m + L.length ≤ 500 → (∀ x ∈ L, ∀ y ∈ out, y.Lot.ISIN ≠ x.Lot.ISIN) → Ta t out → Dn L out ∨ True → 0 < openT (fillF (t, out) L).1 → x ∈ L →
    ∃ t' out' R, Tok t' ∧ Ta t' out' ∧ t'.need = t.need ∧ t'.issuer = t.issuer ∧ t'.asset = t.asset ∧ (∀ y ∈ out', y.Lot.ISIN ≠ x.Lot.ISIN) ∧ (∀ y ∈ R, y.Lot.ISIN ≠ x.Lot.ISIN) ∧ It x ∧
      (fillF (t, out) L).2 = (if covH (setQ x (qF t' x 0 0)) ≤ 0 then out' else out' ++ [setQ x (qF t' x 0 0)]) ++ R ∧ t'.sum + covH (setQ x (qF t' x 0 0)) < t'.need
  | [], t, out, r, m, hf, ha, hm, hx, hT, hD, ho, hxx => by cases hxx
  | z :: L, t, out, r, m, hf, ha, hm, hx, hT, hD, ho, hxx => by
    simp only [List.length_cons] at hm
    simp only [fillF] at ho ⊢
    by_cases c : openT t = 0
    · rw [if_pos c] at ho
      have ho : 0 < openT t := ho
      omega
    · rw [if_neg c] at ho ⊢
      obtain ⟨s1, s2, _⟩ := step_out hf ha.tok
      have sal := step_al hf ha (by omega)
      have x2 := hx z (List.mem_cons_self ..)
      have ap := (List.pairwise_cons.1 hf.apart).1
      have es := step_eq hf ha.tok x2
      have fr : ∀ w ∈ L, ∀ y ∈ (stepF (t, out) z).2, y.Lot.ISIN ≠ w.Lot.ISIN := fun w hw y hy e => by
        rw [es] at hy
        split at hy
        · exact hx w (List.mem_cons_of_mem _ hw) y hy e
        · rcases List.mem_append.1 hy with hy | hy
          · exact hx w (List.mem_cons_of_mem _ hw) y hy e
          · rw [List.mem_singleton.1 hy] at e; exact ap w hw e
      have ta' : Ta (stepF (t, out) z).1 (stepF (t, out) z).2 := by
        rw [es]
        split
        · exact hT
        · exact Ta_put hT
      have keep : (stepF (t, out) z).1.need = t.need ∧ (stepF (t, out) z).1.issuer = t.issuer ∧ (stepF (t, out) z).1.asset = t.asset := by
        rw [es]; split <;> exact ⟨rfl, rfl, rfl⟩
      rcases List.mem_cons.1 hxx with rfl | hxx
      · obtain ⟨⟨R, r1, r2⟩, r3, r4⟩ := fill_app L _ _ _ (m + 1) s1 sal (by omega) fr
        have r1 : (fillF (stepF (t, out) x) L).2 = (stepF (t, out) x).2 ++ R := r1
        have r3 : (stepF (t, out) x).1.sum ≤ (fillF (stepF (t, out) x) L).1.sum := r3
        have r4 : (fillF (stepF (t, out) x) L).1.need = (stepF (t, out) x).1.need := r4
        have cn := covH_nn (setQ x (qF t x 0 0))
        refine ⟨t, out, R, ha.tok, hT, rfl, rfl, rfl, x2, fun y hy e => ?_, hf.it x (List.mem_cons_self ..), ?_, ?_⟩
        · obtain ⟨w, hw, ew⟩ := r2 y hy
          exact ap w hw (by rw [← ew, e])
        · rw [r1, es]; split <;> rfl
        · unfold openT at ho
          rw [r4, keep.1] at ho
          have s4 : t.sum + covH (setQ x (qF t x 0 0)) ≤ (stepF (t, out) x).1.sum := by
            rw [es]; split
            · show t.sum + _ ≤ t.sum; omega
            · show t.sum + _ ≤ t.sum + _; omega
          omega
      · obtain ⟨t', out', R, h1, h2, h3, h4, h5, h6⟩ := trace L _ _ _ (m + 1) s1 sal (by omega) fr ta' (.inr trivial) ho hxx
        exact ⟨t', out', R, h1, h2, h3.trans keep.1, h4.trans keep.2.1, h5.trans keep.2.2, h6⟩
theorem cv_mono {q q' p c : Int} (h : goodS p c = true) (h0 : 0 ≤ q) (h1 : q ≤ q') : cv q p c ≤ cv q' p c := by
  have := (least_le (need := cv q p c) (q := q) h).2 (Int.le_refl _)
  exact (least_le h).1 (by omega)
/-- Why so many were taken and no more. -/
theorem q_why {t : limit_Table} {x : HI} (ht : Tok t) (ix : It x) (hs : 0 ≤ t.sum) (hl : t.sum + covH (setQ x (qF t x 0 0)) < t.need) :
    0 ≤ qF t x 0 0 ∧ (qF t x 0 0 = x.Lot.Qty ∨ (qF t x 0 0 + 1 ≤ x.Lot.Qty ∧ room t x.Asset < cv (qF t x 0 0 + 1) x.Price x.Cut)) := by
  have hr := room_le (a := x.Asset) ht
  have px := ix.pos; have tx := ix.top
  have q0 := q0_bd (t := t) (cover := 0) ix (Int.le_refl 0) (by omega)
  have q1 := q1_bd (t := t) (cover := 0) ix ht (Int.le_refl 0) q0
  have ql := q0_le (t := t) (x := x) (qty := 0) (cover := 0)
  refine ⟨q1.1.1, ?_⟩
  have ec : covH (setQ x (qF t x 0 0)) = cv (qF t x 0 0) x.Price x.Cut := cov_q ix.good q1.1
  rw [ec] at hl
  have ho : openT t = t.need - t.sum := by
    have := (cv_bd ix.good q1.1).1
    have : 0 ≤ cv (qF t x 0 0) x.Price x.Cut := this
    unfold openT; omega
  by_cases c : room t x.Asset < cv (q0F t x 0 0) x.Price x.Cut - 0
  · have e : qF t x 0 0 = mostS (room t x.Asset + 0) x.Price x.Cut (q0F t x 0 0) := by unfold qF q1F; rw [if_pos c]
    have e2 : qF t x 0 0 = least (room t x.Asset + 0 + 1) x.Price x.Cut - 1 := by
      rw [e]; unfold mostS
      rw [if_neg (by simp [ix.good]), if_neg (by omega), if_neg (by omega), if_neg (by omega), if_neg]
      intro h
      have := (most_le ix.good).1 h
      omega
    refine .inr ⟨?_, ?_⟩
    · have : ¬ q0F t x 0 0 < least (room t x.Asset + 0 + 1) x.Price x.Cut := fun h => by
        have := (most_le ix.good).1 h
        omega
      omega
    · have : ¬ qF t x 0 0 + 1 < least (room t x.Asset + 0 + 1) x.Price x.Cut := by omega
      exact Decidable.byContradiction fun k => this ((most_le (limit := room t x.Asset + 0) ix.good).2 (by omega))
  · have e : qF t x 0 0 = q0F t x 0 0 := by unfold qF q1F; rw [if_neg c]
    refine .inl ?_
    rw [e] at hl ⊢
    have hL : leastS (openT t + 0) x.Price x.Cut = if 1125899906842624 < least (openT t + 0) x.Price x.Cut then (0, false) else (least (openT t + 0) x.Price x.Cut, true) := by
      unfold leastS; rw [if_neg (by simp [ix.good]), if_neg (by unfold openT; omega)]
    by_cases w : 1125899906842624 < least (openT t + 0) x.Price x.Cut
    · rw [if_pos w] at hL
      unfold q0F; rw [hL]; simp
    · rw [if_neg w] at hL
      unfold q0F at hl ⊢
      rw [hL] at hl ⊢
      dsimp only at hl ⊢
      by_cases k : least (openT t + 0) x.Price x.Cut ≤ 0 + x.Lot.Qty
      · rw [if_pos ⟨rfl, k⟩] at hl
        have := (least_le (need := openT t + 0) (q := least (openT t + 0) x.Price x.Cut) ix.good).1 (Int.le_refl _)
        omega
      · rw [if_neg (fun h => k h.2)]; omega
def neS (s : ByteArray) (y : HI) : Bool := decide (y.Lot.ISIN ≠ s)
theorem short_l1 {a1 : List RI} {a2 : Int} {L : List HI} {s0 : Int} {a0 : api_Basket} {r2 : alloc_Plan × Int} {x : RI} {ra : Int} (hl : L.length ≤ 100) {Q : List RI → Prop} : ∀ (n i : Nat) (acc : List HI), n + i = L.length → acc.length ≤ i → Q ((acc ++ (L.drop i).filter (neS x.Lot.ISIN)).map toR) →
    lombardlaw18_AllocShort_L1 a1 a2 (L.map toR) s0 a0 r2 x ra Q (i : Int) (acc.map toR) := by
  intro n
  induction n with
  | zero =>
    intro i acc h ha q
    refine lombardlaw18_AllocShort_l1 ?_
    unfold lombardlaw18_AllocShort_w1
    rw [lenM_eq, List.length_map]
    rw [List.drop_of_length_le (by omega)] at q
    exact Br.neg (by omega) (Lf.i (by simpa using q))
  | succ n ih =>
    intro i acc h ha q
    have hi : i < L.length := by omega
    refine lombardlaw18_AllocShort_l1 ?_
    unfold lombardlaw18_AllocShort_w1
    rw [lenM_eq, List.length_map]
    rw [List.drop_eq_getElem_cons hi] at q
    have g : (L.map toR)[(i : Int).toNat]? = some (toR L[i]) := by simp [hi]
    refine Br.pos (by omega) ⟨toR L[i], Got.i (Br.i (fun c => Got.i (App2.i (app96 (by simp; omega)) (Num.n (by omega) ?_)) (by omega) g) (fun c => Num.n (by omega) ?_)) (by omega) g⟩
    · have c : L[i].Lot.ISIN ≠ x.Lot.ISIN := c
      rw [List.filter_cons_of_pos (show neS x.Lot.ISIN L[i] = true from decide_eq_true c)] at q
      have := ih (i + 1) (acc ++ [L[i]]) (by omega) (by simp; omega) (by rw [List.append_assoc]; exact q)
      rw [List.map_append] at this
      exact this
    · have c : L[i].Lot.ISIN = x.Lot.ISIN := Decidable.not_not.1 c
      rw [List.filter_cons_of_neg (show ¬ neS x.Lot.ISIN L[i] = true by unfold neS; simp [c])] at q
      exact ih (i + 1) acc (by omega) (by omega) q
theorem Idle_r {L : List HI} {y : HI} (hl : L.length ≤ 100) (h1 : y.Lot.Qty = 1) (h2 : covH y = 0) : lombardlaw18_idle_r ((L ++ [y]).map toR) true := by
  refine lombardlaw18_idle_of ?_
  unfold lombardlaw18_idle_w
  rw [lenM_eq, List.length_map, List.length_append, List.length_singleton, show ((L.length + 1 : Nat) : Int) - 1 = (L.length : Int) by omega]
  have g : ((L ++ [y]).map toR)[((L.length : Nat) : Int).toNat]? = some (toR y) := by simp
  exact Num.n (by omega) ⟨toR y, Got.i (Br.pos h1 (Num.n (by omega) (Got.i ⟨_, RHCovers_r y, Rt.i (by rw [h2]; rfl)⟩ (by omega) g))) (by omega) g⟩
section
variable {b : api_Basket} {l : List RI} {need : Int} {lots : List api_Lot}
theorem less_short {lots : List api_Lot} {x : HI} : ∀ {l : List HI}, x ∈ l → qtyG x.Lot.ISIN lots = 0 → (lessG lots l).length + 1 ≤ l.length
  | z :: l, hx, hq => by
    simp only [lessG]
    rcases List.mem_cons.1 hx with rfl | hx
    · rw [if_neg (by omega)]
      have := less_len (lots := lots) (l := l)
      simp; omega
    · have := less_short hx hq
      split <;> simp <;> omega
theorem filter_len {x : HI} {M : List HI} (h : ∃ y ∈ M, y.Lot.ISIN = x.Lot.ISIN) : (M.filter (neS x.Lot.ISIN)).length + 1 ≤ M.length := by
  obtain ⟨y, hy, e⟩ := h
  have := List.length_filter_lt_length_iff_exists (l := M) (p := neS x.Lot.ISIN)
  have h2 : (M.filter (neS x.Lot.ISIN)).length < M.length := this.2 ⟨y, hy, by unfold neS; simp [e]⟩
  omega
end
theorem Fill_or2 (b : api_Basket) (l : List RI) (need : Int) : (∃ e, e ≠ 0 ∧ fillS b l need = (⟨[], 0, 0⟩, e)) ∨ (∃ lots, newOk b need ∧ wrongS l = 0 ∧ mergeG [] ((fillF (newT b need, []) (isort leE (l.map toH))).2.map (·.Lot)) = (lots, 0) ∧ fillS b l need = (⟨lots, (fillF (newT b need, []) (isort leE (l.map toH))).1.sum, openT (fillF (newT b need, []) (isort leE (l.map toH))).1⟩, 0)) := by
  unfold fillS
  by_cases h : newOk b need
  · rw [if_neg (fun k => k h)]
    by_cases hw : wrongS l = 0
    · rw [if_neg (fun k => k hw)]
      unfold planS
      rcases merge_or ((fillF (newT b need, []) (isort leE (l.map toH))).2.map (·.Lot)) [] with ⟨r, hr⟩ | ⟨e, he, hr⟩
      · rw [hr, if_neg (fun k => k rfl)]
        exact .inr ⟨r, h, hw, rfl, rfl⟩
      · rw [hr, if_pos he]
        exact .inl ⟨e, he, rfl⟩
    · rw [if_pos hw]; exact .inl ⟨_, hw, rfl⟩
  · rw [if_pos h]; exact .inl ⟨1, by decide, rfl⟩
theorem short_key {b : api_Basket} {l : List RI} {need : Int} {lots : List api_Lot} (h : newOk b need) (hw : wrongS l = 0) (hm : mergeG [] ((fillF (newT b need, []) (isort leE (l.map toH))).2.map (·.Lot)) = (lots, 0)) (ho : 0 < openT (fillF (newT b need, []) (isort leE (l.map toH))).1)
    {x : HI} (hx : x ∈ l.map toH) (n1 : qtyG x.Lot.ISIN lots ≠ x.Lot.Qty) (n2 : covH x ≠ 0) :
    (0 ≤ qtyG x.Lot.ISIN lots ∧ qtyG x.Lot.ISIN lots + 1 ≤ x.Lot.Qty) ∧ ((lessG lots (l.map toH)).filter (neS x.Lot.ISIN) ++ [setQ x (qtyG x.Lot.ISIN lots + 1)]).length ≤ 64 ∧
      (((lessG lots (l.map toH)).filter (neS x.Lot.ISIN) ++ [setQ x (qtyG x.Lot.ISIN lots + 1)]).map toR).any above1 = false ∧
      ((qtyG x.Lot.ISIN lots = 0 ∧ covH (setQ x 1) = 0) ∨ (aboveT (putAll (((lessG lots (l.map toH)).filter (neS x.Lot.ISIN) ++ [setQ x (qtyG x.Lot.ISIN lots + 1)]).map toR) (newT b need))).length ≠ 0) := by
  have f := fill_facts h hw
  obtain ⟨f1, f2⟩ := Fi_new hw
  have pm := less_perm f hm
  obtain ⟨t', out', R, k1, k2, k3, k4, k5, k6, k7, ix, k8, k9⟩ := trace (x := x) (isort leE (l.map toH)) (newT b need) [] (newR b need) 0 f1 (Al_new h) (by rw [isort_len']; simp; omega) (fun _ _ y hy => by cases hy)
    ⟨by simp [newT, sumW], fun k => by simp [sumW]; rfl, fun k => by simp [sumW]; rfl⟩ (.inr trivial) ho ((isort_perm _).mem_iff.2 hx)
  generalize (fillF (newT b need, []) (isort leE (l.map toH))).2 = out at *
  have px := ix.pos; have tx := ix.top
  have s0 : 0 ≤ t'.sum := by rw [k2.s]; exact sumW_nn _ _
  obtain ⟨w0, w1⟩ := q_why k1 ix s0 k9
  have cx : covH x = cv x.Lot.Qty x.Price x.Cut := cov_q (x := x) (q := x.Lot.Qty) ix.good ⟨by omega, tx⟩
  have cov_max : covH x ≤ 1125899906842624 := by
    have hw' := hw
    unfold wrongS at hw'
    rw [if_neg (by omega)] at hw'
    obtain ⟨z, hz, rfl⟩ := List.mem_map.1 hx
    exact ((wrong_it l [] hw').1 z hz).2.1
  -- how many were taken, and why no more
  have main : (0 ≤ qtyG x.Lot.ISIN lots ∧ qtyG x.Lot.ISIN lots + 1 ≤ x.Lot.Qty) ∧ ((qtyG x.Lot.ISIN lots = 0 ∧ covH (setQ x 1) = 0) ∨ room t' x.Asset < cv (qtyG x.Lot.ISIN lots + 1) x.Price x.Cut) := by
    have q1le : qF t' x 0 0 ≤ x.Lot.Qty := by rcases w1 with w1 | ⟨w1, _⟩ <;> omega
    have c1 : covH (setQ x (qF t' x 0 0)) = cv (qF t' x 0 0) x.Price x.Cut := cov_q ix.good ⟨w0, by omega⟩
    have c1n := covH_nn (setQ x (qF t' x 0 0))
    by_cases c : covH (setQ x (qF t' x 0 0)) ≤ 0
    · rw [if_pos c] at k8
      have q0 : qtyG x.Lot.ISIN lots = 0 := by
        refine Decidable.byContradiction fun k => ?_
        obtain ⟨z, hz, ez⟩ := qty_out hm k
        rw [k8] at hz
        rcases List.mem_append.1 hz with hz | hz
        · exact k6 z hz ez
        · exact k7 z hz ez
      rcases w1 with w1 | ⟨w1, w2⟩
      · have cnn := covH_nn x
        rw [w1] at c1 c; rw [← cx] at c1; omega
      · rw [q0]
        refine ⟨⟨by omega, by omega⟩, ?_⟩
        by_cases e : qF t' x 0 0 = 0
        · rw [e] at w2; exact .inr w2
        · refine .inl ⟨rfl, ?_⟩
          have e1 : covH (setQ x 1) = cv 1 x.Price x.Cut := cov_q ix.good ⟨by omega, by omega⟩
          have e2 := cv_mono (q := 1) (q' := qF t' x 0 0) ix.good (by omega) (by omega)
          have e3 := covH_nn (setQ x 1)
          omega
    · rw [if_neg c] at k8
      have hin : setQ x (qF t' x 0 0) ∈ out := by rw [k8]; simp
      have e := out_qty f hm hin
      have e : qtyG x.Lot.ISIN lots = qF t' x 0 0 := e
      rw [e] at n1 ⊢
      rcases w1 with w1 | ⟨w1, w2⟩
      · exact absurd w1 n1
      · exact ⟨⟨w0, w1⟩, .inr w2⟩
  obtain ⟨⟨m1, m2⟩, m3⟩ := main
  have cM : covH (setQ x (qtyG x.Lot.ISIN lots + 1)) = cv (qtyG x.Lot.ISIN lots + 1) x.Price x.Cut := cov_q ix.good ⟨by omega, by omega⟩
  have ll := less_len (lots := lots) (l := l.map toH)
  rw [List.length_map] at ll
  refine ⟨⟨m1, m2⟩, ?_, ?_, ?_⟩
  · rw [List.length_append, List.length_singleton]
    by_cases e : qtyG x.Lot.ISIN lots = 0
    · have := less_short (lots := lots) hx e
      have := List.length_filter_le (neS x.Lot.ISIN) (lessG lots (l.map toH))
      rw [List.length_map] at *
      omega
    · have := filter_len (x := x) (M := lessG lots (l.map toH)) ⟨setQ x (qtyG x.Lot.ISIN lots), mem_less.2 ⟨x, hx, by omega, rfl⟩, rfl⟩
      omega
  · rw [Bool.eq_false_iff]
    intro ha
    obtain ⟨z, hz, hz2⟩ := List.any_eq_true.1 ha
    obtain ⟨y, hy, rfl⟩ := List.mem_map.1 hz
    have h3 : covC (toR y) > 1125899906842624 := of_decide_eq_true hz2
    have h4 : covH y = covC (toR y) := rfl
    rcases List.mem_append.1 hy with hy | hy
    · have := out_cov f (pm.mem_iff.1 (List.mem_filter.1 hy).1)
      omega
    · rw [List.mem_singleton.1 hy] at h4 h3
      have := cv_mono (q := qtyG x.Lot.ISIN lots + 1) (q' := x.Lot.Qty) ix.good (by omega) m2
      omega
  · rcases m3 with m3 | m3
    · exact .inl m3
    · refine .inr (above_some ?_ ?_ ?_)
      · obtain ⟨h1, _⟩ := putAll_sums ((lessG lots (l.map toH)).filter (neS x.Lot.ISIN) ++ [setQ x (qtyG x.Lot.ISIN lots + 1)]) (newT b need)
        rw [h1]; exact (Tok_new h).issuer.1
      · obtain ⟨_, h1, _⟩ := putAll_sums ((lessG lots (l.map toH)).filter (neS x.Lot.ISIN) ++ [setQ x (qtyG x.Lot.ISIN lots + 1)]) (newT b need)
        rw [h1]; exact (Tok_new h).asset.1
      · obtain ⟨h1, h2, h3, h4⟩ := putAll_sums ((lessG lots (l.map toH)).filter (neS x.Lot.ISIN) ++ [setQ x (qtyG x.Lot.ISIN lots + 1)]) (newT b need)
        -- what was taken before it is among what is taken
        have sub : ∀ p : HI → Bool, sumW p out' ≤ sumW p ((lessG lots (l.map toH)).filter (neS x.Lot.ISIN)) := fun p => by
          rw [sumW_perm p (pm.filter _)]
          obtain ⟨S, hS⟩ : ∃ S, out = out' ++ S := by
            by_cases c : covH (setQ x (qF t' x 0 0)) ≤ 0
            · rw [if_pos c] at k8; exact ⟨R, k8⟩
            · rw [if_neg c] at k8; exact ⟨[setQ x (qF t' x 0 0)] ++ R, by rw [k8, List.append_assoc]⟩
          rw [hS, List.filter_append, sumW_app]
          have e : out'.filter (neS x.Lot.ISIN) = out' := List.filter_eq_self.2 fun y hy => decide_eq_true (k6 y hy)
          rw [e]
          have := sumW_nn p (S.filter (neS x.Lot.ISIN))
          omega
        have i1 := sub (pI x.Asset.Issuer)
        have a1 := sub (pA x.Asset.ISIN)
        rw [← k2.i] at i1
        rw [← k2.a] at a1
        have zi : (newT b need).issuers.getD x.Asset.Issuer 0 = 0 := rfl
        have za : (newT b need).assets.getD x.Asset.ISIN 0 = 0 := rfl
        have e1 := h3 x.Asset.Issuer
        have e2 := h4 x.Asset.ISIN
        rw [zi, sumW_app] at e1
        rw [za, sumW_app] at e2
        have p1 : sumW (pI x.Asset.Issuer) [setQ x (qtyG x.Lot.ISIN lots + 1)] = cv (qtyG x.Lot.ISIN lots + 1) x.Price x.Cut := by
          simp only [sumW]; rw [if_pos (show pI x.Asset.Issuer (setQ x (qtyG x.Lot.ISIN lots + 1)) = true from decide_eq_true rfl), cM]; omega
        have p2 : sumW (pA x.Asset.ISIN) [setQ x (qtyG x.Lot.ISIN lots + 1)] = cv (qtyG x.Lot.ISIN lots + 1) x.Price x.Cut := by
          simp only [sumW]; rw [if_pos (show pA x.Asset.ISIN (setQ x (qtyG x.Lot.ISIN lots + 1)) = true from decide_eq_true rfl), cM]; omega
        rw [p1] at e1
        rw [p2] at e2
        unfold room at m3
        rw [k4, k5] at m3
        rw [h1, h2]
        by_cases k : (newT b need).issuer < t'.issuers.getD x.Asset.Issuer 0 + cv (qtyG x.Lot.ISIN lots + 1) x.Price x.Cut
        · exact .inl ⟨x.Asset.Issuer, by rw [e1]; omega⟩
        · exact .inr ⟨x.Asset.ISIN, by rw [e2]; omega⟩
theorem short_l {b : api_Basket} {l : List RI} {need : Int} {lots : List api_Lot} {c s : Int} (hk : KeyOk2 l) (h : newOk b need) (hw : wrongS l = 0) (hm : mergeG [] ((fillF (newT b need, []) (isort leE (l.map toH))).2.map (·.Lot)) = (lots, 0)) (ho : 0 < openT (fillF (newT b need, []) (isort leE (l.map toH))).1) (hl : l.length ≤ 64) {Q0 Q1 : Unit → Prop} (q : Q1 ()) :
    ∀ (n i : Nat), n + i = l.length → lombardlaw18_AllocShort_L0 l need ((lessG lots (l.map toH)).map toR) b ((⟨lots, c, s⟩ : alloc_Plan), (0 : Int)) Q0 Q1 (i : Int) := by
  have lk := lots_lk hm
  have lkl := lk.len
  have ll := less_len (lots := lots) (l := l.map toH)
  rw [List.length_map] at ll
  intro n
  induction n with
  | zero =>
    intro i hi
    refine lombardlaw18_AllocShort_l0 ?_
    unfold lombardlaw18_AllocShort_w0
    rw [lenM_eq]
    exact Br.neg (by omega) (Lf.i q)
  | succ n ih =>
    intro i hi
    have hs : i < l.length := by omega
    refine lombardlaw18_AllocShort_l0 ?_
    unfold lombardlaw18_AllocShort_w0
    rw [lenM_eq]
    have g : l[(i : Int).toNat]? = some l[i] := by simp [hs]
    have z : (0 : Int) ≤ (i : Int) := by omega
    have nx := ih (i + 1) (by omega)
    refine Br.pos (by omega) ⟨l[i], Got.i ⟨_, Qty_r (by show lots.length ≤ _; omega), Got.i (Br.i (fun _ => Num.n (by omega) nx) (fun c1 => Got.i ⟨_, RCovers_r l[i], Br.i (fun _ => Num.n (by omega) nx) (fun c2 => Got.i ?_ z g)⟩ z g)) z g⟩ z g⟩
    have hx : toH l[i] ∈ l.map toH := List.mem_map.2 ⟨l[i], List.getElem_mem hs, rfl⟩
    obtain ⟨⟨m1, m2⟩, m3, m4, m5⟩ := short_key (x := toH l[i]) h hw hm ho hx c1 c2
    have f := fill_facts h hw
    have tx := (f.it _ hx).top
    have m1 : 0 ≤ qtyG l[i].Lot.ISIN lots := m1
    have m2 : qtyG l[i].Lot.ISIN lots + 1 ≤ l[i].Lot.Qty := m2
    have tx : l[i].Lot.Qty ≤ 1125899906842624 := tx
    refine Num.n (by show -9223372036854775808 ≤ qtyG l[i].Lot.ISIN lots + 1 ∧ qtyG l[i].Lot.ISIN lots + 1 ≤ _; omega) (short_l1 (L := lessG lots (l.map toH)) (by omega) (lessG lots (l.map toH)).length 0 [] (by omega) (by simp) ?_)
    rw [List.drop_zero, List.nil_append]
    have fl := List.length_filter_le (neS l[i].Lot.ISIN) (lessG lots (l.map toH))
    refine App2.i (app96 (by simp; omega)) ?_
    have eM : ((lessG lots (l.map toH)).filter (neS l[i].Lot.ISIN)).map toR ++ [(⟨(⟨l[i].Lot.ISIN, qtyG l[i].Lot.ISIN lots + 1⟩ : api_Lot), l[i].Asset, l[i].Price, l[i].Cut⟩ : lombardref15_Item)] = ((lessG lots (l.map toH)).filter (neS l[i].Lot.ISIN) ++ [setQ (toH l[i]) (qtyG l[i].Lot.ISIN lots + 1)]).map toR := by
      rw [List.map_append]; rfl
    show ∃ ra5, lombardref16_Over_r b need (((lessG lots (l.map toH)).filter (neS l[i].Lot.ISIN)).map toR ++ [(⟨(⟨l[i].Lot.ISIN, qtyG l[i].Lot.ISIN lots + 1⟩ : api_Lot), l[i].Asset, l[i].Price, l[i].Cut⟩ : lombardref15_Item)]) ra5 ∧ _
    rw [eM]
    have hkM : KeyOk2 (((lessG lots (l.map toH)).filter (neS l[i].Lot.ISIN) ++ [setQ (toH l[i]) (qtyG l[i].Lot.ISIN lots + 1)]).map toR) := by
      intro w hw2
      obtain ⟨y, hy, rfl⟩ := List.mem_map.1 hw2
      rcases List.mem_append.1 hy with hy | hy
      · exact key_less (lots := lots) hk _ (List.mem_map.2 ⟨y, (List.mem_filter.1 hy).1, rfl⟩)
      · rw [List.mem_singleton.1 hy]; exact hk l[i] (List.getElem_mem hs)
    have ov := ROver_r (b := b) (need := need) hkM h
    have eo : overS b need (((lessG lots (l.map toH)).filter (neS l[i].Lot.ISIN) ++ [setQ (toH l[i]) (qtyG l[i].Lot.ISIN lots + 1)]).map toR) = (aboveT (putAll (((lessG lots (l.map toH)).filter (neS l[i].Lot.ISIN) ++ [setQ (toH l[i]) (qtyG l[i].Lot.ISIN lots + 1)]).map toR) (newT b need)), 0) := by
      unfold overS
      rw [if_neg (by rw [List.length_map]; exact Nat.not_lt.2 m3), if_neg (by rw [show (List.map toR (List.filter (neS l[i].Lot.ISIN) (lessG lots (List.map toH l)) ++ [setQ (toH l[i]) (qtyG l[i].Lot.ISIN lots + 1)])).any above1 = false from m4]; decide)]
    rw [eo] at ov
    refine ⟨_, ov, Br.neg (fun k => k rfl) ?_⟩
    rw [lenM_eq]
    rcases m5 with ⟨e1, e2⟩ | m5
    · refine Br.i (fun _ => ⟨_, Idle_r (y := setQ (toH l[i]) (qtyG l[i].Lot.ISIN lots + 1)) (by omega) ?_ ?_, Br.f rfl (Num.n (by omega) nx)⟩) (fun _ => Num.n (by omega) nx)
      · show qtyG l[i].Lot.ISIN lots + 1 = 1
        have e1 : qtyG l[i].Lot.ISIN lots = 0 := e1
        omega
      · have e1 : qtyG l[i].Lot.ISIN lots = 0 := e1
        rw [e1]; exact e2
    · exact Br.neg (fun h0 => m5 (by rw [List.length_map] at h0; exact Int.ofNat_eq_zero.1 h0)) (Num.n (by omega) nx)
theorem AllocShort_r (b : api_Basket) (l : List RI) (need : Int) (hk : KeyOk2 l) : lombardlaw18_AllocShort_r b l need true := by
  refine lombardlaw18_AllocShort_of ?_
  unfold lombardlaw18_AllocShort_w
  rw [lenM_eq]
  refine Br.i (fun _ => ⟨_, awake_r, Rt.i rfl⟩) (fun c => ⟨_, items_r (by omega), _, Fill_r, ?_⟩)
  rcases Fill_or2 b l need with ⟨e, he, hf⟩ | ⟨lots, hn, hw, hm, hf⟩
  · rw [hf]
    exact Br.pos he ⟨_, awake_r, Rt.i rfl⟩
  · rw [hf]
    refine Br.neg (fun k => k rfl) (Br.i (fun _ => ⟨_, awake_r, Rt.i rfl⟩) (fun c2 => ?_))
    have c2 : openT (fillF (newT b need, []) (isort leE (l.map toH))).1 ≠ 0 := c2
    have lk := lots_lk hm
    have ls := Less_r (lots := lots) (l := l.map toH) (by have := lk.len; omega) (by simp; omega)
    rw [toR_toH] at ls
    have o : 0 < openT (fillF (newT b need, []) (isort leE (l.map toH))).1 := by unfold openT at c2 ⊢; omega
    exact ⟨_, ls, short_l hk hn hw hm o (by omega) ⟨_, awake_r, Rt.i rfl⟩ l.length 0 (by omega)⟩
end Go.Proofs.Ytgncepjnbdhmkaa.Pure
