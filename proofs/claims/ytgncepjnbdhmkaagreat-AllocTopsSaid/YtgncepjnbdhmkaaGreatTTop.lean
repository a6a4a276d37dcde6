/- Items: what is wrong with them; in order; what is taken of them. -/
import Derived.Test.YtgncepjnbdhmkaaGreatTLotB
import Derived.Test.YtgncepjnbdhmkaaGreatTRank
set_option linter.unusedVariables false
set_option linter.unusedSimpArgs false
namespace Go.Proofs.YtgncepjnbdhmkaaGreat.Pure
open Go Go.Ab Go.Stable Go.Proofs.YtgncepjnbdhmkaaGreat.R
set_option linter.unusedVariables false
abbrev RI := lombardref15_Item
abbrev HI := haircut_Item
def toR (x : HI) : RI := ⟨x.Lot, x.Asset, x.Price, x.Cut⟩
theorem toH_toR (l : List HI) : (l.map toR).map toH = l := by rw [List.map_map]; exact List.map_id' l
theorem toR_toH (l : List RI) : (l.map toH).map toR = l := by rw [List.map_map]; exact List.map_id' l

/-! What is wrong. -/
instance decMem (k : ByteArray) (l : List ByteArray) : Decidable (k ∈ l) := decidable_of_iff ((l.any fun y => decide (y = k)) = true) (by simp)
def wrongL : List ByteArray → List RI → Int
  | _, [] => 0
  | seen, x :: l => if (coverS x.Lot.Qty x.Price x.Cut).2 ≠ 0 ∨ x.Lot.Qty = 0 then 1 else if 1125899906842624 < covC x then 9 else if x.Asset.ISIN ∈ seen ∨ x.Asset.ISIN ≠ x.Lot.ISIN then 7 else wrongL (seen ++ [x.Asset.ISIN]) l
def wrongS (l : List RI) : Int := if 64 < l.length then 2 else wrongL [] l
theorem check_l {l : List RI} {Q0 : Int → Prop} {Q1 : Unit → Prop} (hl : l.length ≤ 64) : ∀ (n i : Nat) (m : GM ByteArray Bool) (seen : List ByteArray), n + i = l.length → (∀ k, m.getD k false = decide (k ∈ seen)) →
    (wrongL seen (l.drop i) ≠ 0 → Q0 (wrongL seen (l.drop i))) → (wrongL seen (l.drop i) = 0 → Q1 ()) → alloc_check_L0 (l.map toH) Q0 Q1 (i : Int) m := by
  intro n
  induction n with
  | zero =>
    intro i m seen h hm q0 q1
    refine alloc_check_l0 ?_
    unfold alloc_check_w0
    rw [lenM_eq, List.length_map]
    rw [List.drop_of_length_le (by omega)] at q1
    exact Br.neg (by omega) (Lf.i (q1 rfl))
  | succ n ih =>
    intro i m seen h hm q0 q1
    have hs : i < l.length := by omega
    refine alloc_check_l0 ?_
    unfold alloc_check_w0
    rw [lenM_eq, List.length_map]
    rw [List.drop_eq_getElem_cons hs] at q0 q1
    have g : (l.map toH)[(i : Int).toNat]? = some (toH l[i]) := by simp [hs]
    simp only [wrongL] at q0 q1
    refine Br.pos (by omega) ⟨toH l[i], Got.i ⟨_, Cover_r, Br.i (fun c => Lf.i ?_) (fun c => Br.i (fun c1 => Lf.i ?_) (fun c1 => ⟨_, ICover_r l[i], Br.i (fun c2 => Lf.i ?_) (fun c2 => ⟨_, _, Look.i ?_⟩)⟩))⟩ (by omega) g⟩
    · rw [if_pos (.inl c)] at q0; exact q0 (by decide)
    · rw [if_pos (.inr c1)] at q0; exact q0 (by decide)
    · rw [if_neg (fun e => e.elim c c1), if_pos (by omega)] at q0; exact q0 (by decide)
    · rw [if_neg (fun e => e.elim c c1), if_neg (by omega)] at q0 q1
      show Br (m.getD l[i].Asset.ISIN false) _ _
      rw [hm]
      refine Br.i (fun c3 => Lf.i ?_) (fun c3 => Br.i (fun c4 => Lf.i ?_) (fun c4 => ⟨_, Put.i (Num.n (by omega) ?_)⟩))
      · rw [if_pos (.inl c3)] at q0; exact q0 (by decide)
      · rw [if_pos (.inr c4)] at q0; exact q0 (by decide)
      · have e : ¬ (l[i].Asset.ISIN ∈ seen ∨ l[i].Asset.ISIN ≠ l[i].Lot.ISIN) := fun e => e.elim c3 c4
        rw [if_neg e] at q0 q1
        refine ih (i + 1) _ (seen ++ [l[i].Asset.ISIN]) (by omega) (fun k => ?_) q0 q1
        rw [getD_put]
        by_cases ek : k = l[i].Asset.ISIN
        · rw [if_pos (show k = (toH l[i]).Asset.ISIN from ek), decide_eq_true (by rw [ek]; simp)]
        · rw [if_neg (show ¬ k = (toH l[i]).Asset.ISIN from ek), hm]
          exact decide_eq_decide.2 (by simp [ek])
theorem Check_r {l : List RI} : alloc_check_r (l.map toH) (wrongS l) := by
  refine alloc_check_of ?_
  unfold alloc_check_w wrongS
  rw [lenM_eq, List.length_map]
  refine Br.i (fun c => Rt.i (by rw [if_pos (by omega)])) (fun c => ?_)
  exact check_l (by omega) l.length 0 GM.nil [] (by omega) (fun k => rfl) (fun h => Rt.i (by rw [if_neg (by omega)]; rfl)) (fun h => Rt.i (by rw [if_neg (by omega)]; exact h.symm))
theorem rwrong_l1 {l : List RI} {i : Nat} (hi : i < l.length) (hl : l.length ≤ 64) {Q0 Q1 : Unit → Prop} : ∀ (n k : Nat), n + k = i → (l[i].Asset.ISIN ∈ ((l.take i).drop k).map (·.Asset.ISIN) → Q0 ()) → (l[i].Asset.ISIN ∉ ((l.take i).drop k).map (·.Asset.ISIN) → Q1 ()) → lombardref18_Wrong_L1 l i Q0 Q1 (k : Int) := by
  intro n
  induction n with
  | zero =>
    intro k h q0 q1
    refine lombardref18_Wrong_l1 ?_
    unfold lombardref18_Wrong_w1
    exact Br.neg (by omega) (Lf.i (q1 (by rw [List.drop_of_length_le (by simp; omega)]; simp)))
  | succ n ih =>
    intro k h q0 q1
    refine lombardref18_Wrong_l1 ?_
    unfold lombardref18_Wrong_w1
    have hk : k < l.length := by omega
    have g : l[(k : Int).toNat]? = some l[k] := by simp [hk]
    have g2 : l[(i : Int).toNat]? = some l[i] := by simp [hi]
    have hk2 : k < (l.take i).length := by simp; omega
    rw [List.drop_eq_getElem_cons hk2, List.map_cons, List.getElem_take] at q0 q1
    refine Br.pos (by omega) ⟨l[k], Got.i ⟨l[i], Got.i (Br.i (fun c => Lf.i (q0 (by rw [c]; simp))) (fun c => Num.n (by omega) (ih (k + 1) (by omega) (fun hm => q0 (List.mem_cons_of_mem _ hm)) (fun hm => q1 ?_)))) (by omega) g2⟩ (by omega) g⟩
    intro hx
    rcases List.mem_cons.1 hx with e | e
    · exact c e.symm
    · exact hm e
theorem rwrong_l {l : List RI} {Q0 : Int → Prop} {Q1 : Unit → Prop} (hl : l.length ≤ 64) : ∀ (n i : Nat), n + i = l.length →
    (wrongL ((l.take i).map (·.Asset.ISIN)) (l.drop i) ≠ 0 → Q0 (wrongL ((l.take i).map (·.Asset.ISIN)) (l.drop i))) → (wrongL ((l.take i).map (·.Asset.ISIN)) (l.drop i) = 0 → Q1 ()) → lombardref18_Wrong_L0 l Q0 Q1 (i : Int) := by
  intro n
  induction n with
  | zero =>
    intro i h q0 q1
    refine lombardref18_Wrong_l0 ?_
    unfold lombardref18_Wrong_w0
    rw [lenM_eq]
    rw [List.drop_of_length_le (by omega)] at q1
    exact Br.neg (by omega) (Lf.i (q1 rfl))
  | succ n ih =>
    intro i h q0 q1
    have hs : i < l.length := by omega
    refine lombardref18_Wrong_l0 ?_
    unfold lombardref18_Wrong_w0
    rw [lenM_eq]
    rw [List.drop_eq_getElem_cons hs] at q0 q1
    have g : l[(i : Int).toNat]? = some l[i] := by simp [hs]
    have z : (0 : Int) ≤ (i : Int) := by omega
    simp only [wrongL] at q0 q1
    refine Br.pos (by omega) ⟨l[i], Got.i (Got.i (Got.i ⟨_, RCover_r, Br.i (fun c => Lf.i ?_) (fun c => Got.i (Br.i (fun c1 => Lf.i ?_) (fun c1 => Br.i (fun c2 => Lf.i ?_) (fun c2 => Got.i (Got.i (Br.i (fun c3 => Lf.i ?_) (fun c3 => ?_)) z g) z g))) z g)⟩ z g) z g) z g⟩
    · rw [if_pos (.inl c)] at q0; exact q0 (by decide)
    · rw [if_pos (.inr c1)] at q0; exact q0 (by decide)
    · rw [if_neg (fun e => e.elim c c1), if_pos (by unfold covC; omega)] at q0; exact q0 (by decide)
    · rw [if_neg (fun e => e.elim c c1), if_neg (by unfold covC; omega), if_pos (.inr c3)] at q0; exact q0 (by decide)
    · have c3 := Decidable.not_not.1 c3
      rw [if_neg (fun e => e.elim c c1), if_neg (by unfold covC; omega)] at q0 q1
      refine rwrong_l1 hs hl i 0 (by omega) (fun hm => Lf.i ?_) (fun hm => Num.n (by omega) (ih (i + 1) (by omega) (fun hx => ?_) (fun hx => ?_)))
      · rw [List.drop_zero] at hm
        rw [if_pos (.inl hm)] at q0; exact q0 (by decide)
      · rw [List.drop_zero] at hm
        have e : ¬ (l[i].Asset.ISIN ∈ (l.take i).map (·.Asset.ISIN) ∨ l[i].Asset.ISIN ≠ l[i].Lot.ISIN) := fun e => e.elim hm (fun k => k c3)
        rw [if_neg e] at q0
        rw [List.take_succ_eq_append_getElem hs, List.map_append] at hx ⊢
        exact q0 hx
      · rw [List.drop_zero] at hm
        have e : ¬ (l[i].Asset.ISIN ∈ (l.take i).map (·.Asset.ISIN) ∨ l[i].Asset.ISIN ≠ l[i].Lot.ISIN) := fun e => e.elim hm (fun k => k c3)
        rw [if_neg e] at q1
        rw [List.take_succ_eq_append_getElem hs, List.map_append] at hx
        exact q1 hx
theorem Wrong_r {l : List RI} : lombardref18_Wrong_r l (wrongS l) := by
  refine lombardref18_Wrong_of ?_
  unfold lombardref18_Wrong_w wrongS
  rw [lenM_eq]
  refine Br.i (fun c => Rt.i (by rw [if_pos (by omega)])) (fun c => ?_)
  exact rwrong_l (by omega) l.length 0 (by omega) (fun h => Rt.i (by rw [if_neg (by omega)]; rfl)) (fun h => Rt.i (by rw [if_neg (by omega)]; exact h.symm))
/-- What isn't wrong. -/
structure It (x : HI) : Prop where
  good : goodS x.Price x.Cut = true
  pos : 1 ≤ x.Lot.Qty
  top : x.Lot.Qty ≤ 1125899906842624
theorem it_of {x : RI} (h : ¬ ((coverS x.Lot.Qty x.Price x.Cut).2 ≠ 0 ∨ x.Lot.Qty = 0)) : It (toH x) := by
  have h1 : (coverS x.Lot.Qty x.Price x.Cut).2 = 0 := Decidable.byContradiction fun k => h (.inl k)
  have h2 : x.Lot.Qty ≠ 0 := fun k => h (.inr k)
  unfold coverS at h1
  split at h1
  · cases h1
  · rename_i hg
    split at h1
    · rename_i hw; exact absurd h1 hw
    · rename_i hw
      have hw := Decidable.not_not.1 hw
      unfold worthS at hw
      refine ⟨by simpa [toH] using hg, ?_, ?_⟩
      · show 1 ≤ x.Lot.Qty
        by_cases k : x.Lot.Qty < 0
        · rw [if_pos k] at hw; cases hw
        · omega
      · show x.Lot.Qty ≤ 1125899906842624
        by_cases k : x.Lot.Qty < 0
        · omega
        · rw [if_neg k] at hw
          by_cases k2 : 1125899906842624 < x.Lot.Qty
          · rw [if_pos k2] at hw; cases hw
          · omega
theorem wrong_it : ∀ (l : List RI) (seen : List ByteArray), wrongL seen l = 0 → (∀ x ∈ l, It (toH x) ∧ covC x ≤ 1125899906842624 ∧ x.Asset.ISIN = x.Lot.ISIN ∧ x.Lot.ISIN ∉ seen) ∧ l.Pairwise (fun x y => x.Lot.ISIN ≠ y.Lot.ISIN)
  | [], seen, _ => ⟨by simp, List.Pairwise.nil⟩
  | x :: l, seen, h => by
    simp only [wrongL] at h
    split at h
    · cases h
    · rename_i h1
      split at h
      · cases h
      · rename_i h2
        split at h
        · cases h
        · rename_i h3
          have e : x.Asset.ISIN = x.Lot.ISIN := Decidable.byContradiction fun k => h3 (.inr k)
          have ns : x.Asset.ISIN ∉ seen := fun k => h3 (.inl k)
          obtain ⟨i1, i2⟩ := wrong_it l _ h
          refine ⟨fun y hy => ?_, List.pairwise_cons.2 ⟨fun y hy k => ?_, i2⟩⟩
          · rcases List.mem_cons.1 hy with rfl | hy
            · exact ⟨it_of h1, by omega, e, by rw [← e]; exact ns⟩
            · obtain ⟨a, b, c, d⟩ := i1 y hy
              exact ⟨a, b, c, fun k => d (by simp [k])⟩
          · have := (i1 y hy).2.2.2
            exact this (by rw [← k, e]; simp)

/-! In order. -/
theorem ahead_eq (a b : RI) : lombardref17_Ahead_r a b (!leE (toH b) (toH a)) := by
  refine lombardref17_Ahead_of ?_
  unfold lombardref17_Ahead_w
  have key : (!leE (toH b) (toH a)) = decide (¬ leP (toH b) (toH a)) := by
    unfold leE; by_cases k : leP (toH b) (toH a)
    · rw [decide_eq_true k, decide_eq_false (fun h => h k)]; rfl
    · rw [decide_eq_false k, decide_eq_true k]; rfl
  rw [key]
  refine Br.i (fun c => Rt.i ?_) (fun c => Br.i (fun c2 => Rt.i ?_) (fun c2 => Rt.i ?_))
  · refine decide_eq_decide.2 ?_
    unfold leP
    constructor
    · intro h k
      rcases k with k | ⟨k, _⟩
      · have k : b.Cut < a.Cut := k
        omega
      · exact c k.symm
    · intro h
      have : ¬ b.Cut < a.Cut := fun k => h (.inl k)
      omega
  · have c := Decidable.not_not.1 c
    refine decide_eq_decide.2 ?_
    unfold leP
    constructor
    · intro h k
      rcases k with k | ⟨_, k | ⟨k, _⟩⟩
      · have k : b.Cut < a.Cut := k
        omega
      · have k : b.Asset.Maturity < a.Asset.Maturity := k
        omega
      · exact c2 k.symm
    · intro h
      have : ¬ b.Asset.Maturity < a.Asset.Maturity := fun k => h (.inr ⟨c.symm, .inl k⟩)
      omega
  · have c := Decidable.not_not.1 c
    have c2 := Decidable.not_not.1 c2
    rw [strLt_s]
    refine decide_eq_decide.2 ?_
    unfold leP
    constructor
    · intro h k
      rcases k with k | ⟨_, k | ⟨_, k⟩⟩
      · have k : b.Cut < a.Cut := k
        omega
      · have k : b.Asset.Maturity < a.Asset.Maturity := k
        omega
      · exact k h
    · intro h
      exact Decidable.byContradiction fun k => h (.inr ⟨c.symm, .inr ⟨c2.symm, k⟩⟩)
theorem rank_l1 {l : List RI} {out : List HI} {i : Nat} (hi : i < l.length) (hl : l.length ≤ 1000) (ho : out.length ≤ 1000) {Q : Int → Prop}
    (q : ∀ m : Nat, m ≤ out.length → (m = 0 ∨ leE (at_ out (m - 1)) (toH l[i]) = true) → (m < out.length → leE (at_ out m) (toH l[i]) = false) → Q m) :
    ∀ (m : Nat), m ≤ out.length → (m < out.length → leE (at_ out m) (toH l[i]) = false) → lombardref17_Rank_L1 l i (out.map toR) Q (m : Int) := by
  intro m
  induction m with
  | zero =>
    intro hm h
    refine lombardref17_Rank_l1 ?_
    unfold lombardref17_Rank_w1
    exact Br.neg (by omega) (Lf.i (q 0 hm (.inl rfl) h))
  | succ m ih =>
    intro hm h
    refine lombardref17_Rank_l1 ?_
    unfold lombardref17_Rank_w1
    have g : l[(i : Int).toNat]? = some l[i] := by simp [hi]
    have e : ((m + 1 : Nat) : Int) - 1 = (m : Int) := by omega
    rw [e]
    have hm' : m < out.length := by omega
    have g2 : (out.map toR)[(m : Int).toNat]? = some (toR (at_ out m)) := by
      rw [Int.toNat_natCast, List.getElem?_map, get_at hm']; rfl
    refine Br.pos (by omega) ⟨l[i], Got.i (Num.n (by omega) (InL.i ⟨toR (at_ out m), EltG.i ⟨_, ahead_eq _ _, ?_⟩ g2⟩ (by omega) (by simpa using hm'))) (by omega) g⟩
    refine Br.b (fun c => Num.n (by omega) (ih (by omega) (fun _ => by have c2 : (!leE (at_ out m) (toH l[i])) = true := c; simpa using c2))) (fun c => Lf.i (q (m + 1) hm (.inr ?_) h))
    have c2 : (!leE (at_ out m) (toH l[i])) = false := c
    simpa using c2
theorem rank_l0 {l : List RI} (hl : l.length ≤ 1000) {Q : List RI → Prop} : ∀ (n i : Nat) (out : List HI), n + i = l.length → out.length = i → Srt out → Q (((l.drop i).map toH).foldl (insS leE) out |>.map toR) → lombardref17_Rank_L0 l Q (i : Int) (out.map toR) := by
  intro n
  induction n with
  | zero =>
    intro i out h ho hs q
    refine lombardref17_Rank_l0 ?_
    unfold lombardref17_Rank_w0
    rw [lenM_eq]
    rw [List.drop_of_length_le (by omega)] at q
    exact Br.neg (by omega) (Lf.i (by simpa using q))
  | succ n ih =>
    intro i out h ho hs q
    have hi : i < l.length := by omega
    refine lombardref17_Rank_l0 ?_
    unfold lombardref17_Rank_w0
    rw [lenM_eq, lenM_eq, List.length_map]
    rw [List.drop_eq_getElem_cons hi, List.map_cons, List.foldl_cons] at q
    have g : l[(i : Int).toNat]? = some l[i] := by simp [hi]
    refine Br.pos (by omega) (rank_l1 hi hl (by omega) (fun m hm h1 h2 => ?_) out.length (Nat.le_refl _) (fun h => by omega))
    have tk : ((out.map toR).take ((m : Int)).toNat) = (out.take m).map toR := by simp [List.map_take]
    have dr : ((out.map toR).drop ((m : Int)).toNat) = (out.drop m).map toR := by simp [List.map_drop]
    rw [tk, dr]
    have lt : ((out.take m).map toR).length = m := by simp; omega
    have ld : ((out.drop m).map toR).length = i - m := by simp; omega
    have e : insS leE out (toH l[i]) = out.take m ++ toH l[i] :: out.drop m := by
      have := insS_back (le := leE) (toH l[i]) (out.take m) (out.drop m) (fun a ha => ?_) (fun a ha => ?_)
      · rwa [List.take_append_drop] at this
      · have m0 : 0 < m := Nat.pos_of_ne_zero fun k => by subst k; simp at ha
        have h1 := h1.resolve_left (by omega)
        obtain ⟨j, hj, rfl⟩ := List.getElem_of_mem ha
        have hj' : j < m := by simp at hj; omega
        rw [List.getElem_take]
        have a1 : at_ out (m - 1) = out[m - 1]'(by omega) := at_of (List.getElem?_eq_getElem (by omega))
        rw [a1] at h1
        by_cases k : j = m - 1
        · subst k; exact h1
        · exact leE_trans _ _ _ (List.pairwise_iff_getElem.1 hs j (m - 1) (by omega) (by omega) (by omega)) h1
      · have hm2 : m < out.length := Nat.lt_of_not_le fun k => by rw [List.drop_of_length_le k] at ha; cases ha
        have h2 := h2 hm2
        rw [List.drop_eq_getElem_cons hm2] at ha
        cases ha
        have a1 : at_ out m = out[m] := at_of (List.getElem?_eq_getElem hm2)
        rw [a1] at h2; exact h2
    refine CutLh.i ⟨by omega, by simpa using hm⟩ (ApZ.i (app96 (by omega)) ⟨l[i], Got.i (App2.i (app96 (by simp; omega)) (CutLl.i ⟨by omega, by simpa using hm⟩ (App2.i (app96 (by simp; omega)) (Num.n (by omega) ?_)))) (by omega) g⟩)
    have := ih (i + 1) (insS leE out (toH l[i])) (by omega) (by rw [e]; simp; omega) (mg_sorted leE_trans leE_total _ _ hs (List.pairwise_singleton _ _)) q
    rw [e, List.map_append, List.map_cons] at this
    rw [List.append_assoc]
    exact this
theorem RRank_r {l : List RI} (hl : l.length ≤ 1000) : lombardref17_Rank_r l ((isort leE (l.map toH)).map toR) := by
  refine lombardref17_Rank_of ?_
  unfold lombardref17_Rank_w
  exact rank_l0 hl l.length 0 [] (by omega) rfl List.Pairwise.nil (Rt.i (by simp [isort]))
end Go.Proofs.YtgncepjnbdhmkaaGreat.Pure
namespace Go.Proofs.YtgncepjnbdhmkaaGreat.Pure
open Go Go.Ab Go.Stable Go.Proofs.YtgncepjnbdhmkaaGreat.R
set_option linter.unusedVariables false
def covH (x : HI) : Int := covC (toR x)
def setQ (x : HI) (q : Int) : HI := ⟨⟨x.Lot.ISIN, q⟩, x.Asset, x.Price, x.Cut⟩
theorem HCover_r (x : HI) : _haircut_Item_Cover_r x (covH x) := ICover_r (toR x)
theorem RHCovers_r (x : HI) : _lombardref15_Item_Covers_r (toR x) (covH x) := RCovers_r (toR x)
theorem cov_q {x : HI} {q : Int} (h : goodS x.Price x.Cut = true) (hq : 0 ≤ q ∧ q ≤ 1125899906842624) : covH (setQ x q) = cv q x.Price x.Cut := by
  have := cover_val h hq
  show (coverS q x.Price x.Cut).1 = _
  rw [this]

/-! Where a security is. -/
def atH (s : ByteArray) : List HI → Int
  | [] => -1
  | y :: l => if y.Lot.ISIN = s then 0 else if atH s l < 0 then -1 else atH s l + 1
theorem atH_or (s : ByteArray) : ∀ l : List HI, (atH s l = -1 ∧ ∀ y ∈ l, y.Lot.ISIN ≠ s) ∨ (∃ A y B, l = A ++ y :: B ∧ y.Lot.ISIN = s ∧ atH s l = (A.length : Nat))
  | [] => .inl ⟨rfl, by simp⟩
  | z :: l => by
    simp only [atH]
    by_cases c : z.Lot.ISIN = s
    · rw [if_pos c]; exact .inr ⟨[], z, l, rfl, c, rfl⟩
    · rw [if_neg c]
      rcases atH_or s l with ⟨h1, h2⟩ | ⟨A, y, B, h1, h2, h3⟩
      · rw [if_pos (by omega)]
        refine .inl ⟨rfl, fun y hy => ?_⟩
        rcases List.mem_cons.1 hy with rfl | hy
        · exact c
        · exact h2 y hy
      · rw [if_neg (by omega)]
        exact .inr ⟨z :: A, y, B, by rw [h1]; rfl, h2, by rw [h3]; simp⟩
theorem ofc_r (x : HI) (s : ByteArray) : alloc_filler_of_1_r x s (strEq x.Lot.ISIN s) := by
  refine alloc_filler_of_1_of ?_
  unfold alloc_filler_of_1_w
  exact Rt.i rfl
theorem find_l {out : List HI} {s : ByteArray} {Q0 : Int → Prop} {Q1 : Unit → Prop} (hl : out.length ≤ 1000) : ∀ (n i : Nat), n + i = out.length → (0 ≤ atH s (out.drop i) → Q0 (i + atH s (out.drop i))) → (atH s (out.drop i) = -1 → Q1 ()) →
    slices_IndexFunc_haircut_Item_haircut_Item_o_f94c_L0 out s Q0 Q1 (i : Int) := by
  intro n
  induction n with
  | zero =>
    intro i h q0 q1
    refine slices_IndexFunc_haircut_Item_haircut_Item_o_f94c_l0 ?_
    unfold slices_IndexFunc_haircut_Item_haircut_Item_o_f94c_w0
    rw [lenM_eq]
    rw [List.drop_of_length_le (by omega)] at q1
    exact Br.neg (by omega) (Lf.i (q1 rfl))
  | succ n ih =>
    intro i h q0 q1
    have hs : i < out.length := by omega
    refine slices_IndexFunc_haircut_Item_haircut_Item_o_f94c_l0 ?_
    unfold slices_IndexFunc_haircut_Item_haircut_Item_o_f94c_w0
    rw [lenM_eq]
    rw [List.drop_eq_getElem_cons hs] at q0 q1
    have g : out[(i : Int).toNat]? = some out[i] := by simp [hs]
    simp only [atH] at q0 q1
    refine Br.pos (by omega) (InL.i ⟨out[i], EltG.i ⟨_, ofc_r _ _, Br.i (fun c => Lf.i ?_) (fun c => Num.n (by omega) ?_)⟩ g⟩ (by omega) (by simpa using hs))
    · rw [if_pos c] at q0; simpa using q0 (Int.le_refl _)
    · rw [if_neg c] at q0 q1
      refine ih (i + 1) (by omega) (fun h0 => ?_) (fun h0 => q1 (by rw [if_pos (by omega)]))
      rw [if_neg (by omega)] at q0
      have := q0 (by omega)
      rw [show (((i + 1 : Nat)) : Int) + atH s (out.drop (i + 1)) = (i : Int) + (atH s (out.drop (i + 1)) + 1) by omega]
      exact this
theorem atH_nn (s : ByteArray) (l : List HI) : atH s l = -1 ∨ 0 ≤ atH s l := by
  rcases atH_or s l with ⟨h, _⟩ | ⟨A, y, B, _, _, h⟩
  · exact .inl h
  · exact .inr (by omega)
theorem FOf_r {t : limit_Table} {out : List HI} {s : ByteArray} (hl : out.length ≤ 1000) : alloc_filler_of_r ⟨t, out⟩ s (atH s out, ⟨t, out⟩) := by
  refine alloc_filler_of_of ?_
  unfold alloc_filler_of_w
  refine ⟨atH s out, slices_IndexFunc_haircut_Item_haircut_Item_o_f94c_of ?_, Rt.i rfl⟩
  unfold slices_IndexFunc_haircut_Item_haircut_Item_o_f94c_w
  exact find_l hl out.length 0 (by omega) (fun h => Rt.i (by simp)) (fun h => Rt.i (by simpa using h.symm))
theorem at_l {out : List HI} {s : ByteArray} {Q0 : Int → Prop} {Q1 : Unit → Prop} (hl : out.length ≤ 1000) : ∀ (n i : Nat), n + i = out.length → (0 ≤ atH s (out.drop i) → Q0 (i + atH s (out.drop i))) → (atH s (out.drop i) = -1 → Q1 ()) →
    lombardref18_at_L0 (out.map toR) s Q0 Q1 (i : Int) := by
  intro n
  induction n with
  | zero =>
    intro i h q0 q1
    refine lombardref18_at_l0 ?_
    unfold lombardref18_at_w0
    rw [lenM_eq, List.length_map]
    rw [List.drop_of_length_le (by omega)] at q1
    exact Br.neg (by omega) (Lf.i (q1 rfl))
  | succ n ih =>
    intro i h q0 q1
    have hs : i < out.length := by omega
    refine lombardref18_at_l0 ?_
    unfold lombardref18_at_w0
    rw [lenM_eq, List.length_map]
    rw [List.drop_eq_getElem_cons hs] at q0 q1
    have g : (out.map toR)[(i : Int).toNat]? = some (toR out[i]) := by simp [hs]
    simp only [atH] at q0 q1
    refine Br.pos (by omega) ⟨toR out[i], Got.i (Br.i (fun c => Lf.i ?_) (fun c => Num.n (by omega) ?_)) (by omega) g⟩
    · have c : out[i].Lot.ISIN = s := c
      rw [if_pos c] at q0; simpa using q0 (Int.le_refl _)
    · have c : ¬ out[i].Lot.ISIN = s := c
      rw [if_neg c] at q0 q1
      refine ih (i + 1) (by omega) (fun h0 => ?_) (fun h0 => q1 (by rw [if_pos (by omega)]))
      rw [if_neg (by omega)] at q0
      have := q0 (by omega)
      rw [show (((i + 1 : Nat)) : Int) + atH s (out.drop (i + 1)) = (i : Int) + (atH s (out.drop (i + 1)) + 1) by omega]
      exact this
theorem RAt_r {out : List HI} {s : ByteArray} (hl : out.length ≤ 1000) : lombardref18_at_r (out.map toR) s (atH s out) := by
  refine lombardref18_at_of ?_
  unfold lombardref18_at_w
  exact at_l hl out.length 0 (by omega) (fun h => Rt.i (by simp)) (fun h => Rt.i (by simpa using h.symm))

/-! How many are taken. -/
def q0F (t : limit_Table) (x : HI) (qty cover : Int) : Int :=
  if (leastS (openT t + cover) x.Price x.Cut).2 = true ∧ (leastS (openT t + cover) x.Price x.Cut).1 ≤ qty + x.Lot.Qty then (leastS (openT t + cover) x.Price x.Cut).1 else qty + x.Lot.Qty
def q1F (t : limit_Table) (x : HI) (cover q : Int) : Int := if room t x.Asset < cv q x.Price x.Cut - cover then mostS (room t x.Asset + cover) x.Price x.Cut q else q
def qF (t : limit_Table) (x : HI) (qty cover : Int) : Int := q1F t x cover (q0F t x qty cover)
theorem leastS_bd {n p c : Int} (h : goodS p c = true) : 0 ≤ (leastS n p c).1 ∧ (leastS n p c).1 ≤ 1125899906842624 := by
  unfold leastS
  rw [if_neg (by simp [h])]
  split
  · simp
  · split
    · simp
    · have := least_nn (need := n) h (by omega)
      simp; omega
theorem q0_bd {t : limit_Table} {x : HI} {qty cover : Int} (hx : It x) (h0 : 0 ≤ qty) (h1 : qty + x.Lot.Qty ≤ 1125899906842624) : 0 ≤ q0F t x qty cover ∧ q0F t x qty cover ≤ 1125899906842624 := by
  have h2 := hx.pos
  have := leastS_bd (n := openT t + cover) hx.good
  unfold q0F
  split <;> omega
theorem q1_bd {t : limit_Table} {x : HI} {cover q : Int} (hx : It x) (ht : Tok t) (hc : 0 ≤ cover) (hq : 0 ≤ q ∧ q ≤ 1125899906842624) : (0 ≤ q1F t x cover q ∧ q1F t x cover q ≤ 1125899906842624) ∧ cv (q1F t x cover q) x.Price x.Cut - cover ≤ room t x.Asset := by
  have hr := room_le (a := x.Asset) ht
  unfold q1F
  split
  · have lp := least_pos (c := x.Cut) (p := x.Price) hx.good (show 0 ≤ room t x.Asset + cover by omega)
    unfold mostS
    rw [if_neg (by simp [hx.good]), if_neg (by omega), if_neg (by omega), if_neg (by omega)]
    split
    · rename_i h
      have := (most_le hx.good).1 h
      exact ⟨hq, by omega⟩
    · rename_i h
      have := (most_le (limit := room t x.Asset + cover) (q := least (room t x.Asset + cover + 1) x.Price x.Cut - 1) hx.good).1 (by omega)
      exact ⟨⟨by omega, by omega⟩, by omega⟩
  · exact ⟨hq, by omega⟩
theorem Total_r {t : limit_Table} {out : List HI} {x : HI} {qty cover : Int} (ht : Tok t) (hs : 0 ≤ t.sum) (hx : It x) (h0 : 0 ≤ qty) (h1 : qty + x.Lot.Qty ≤ 1125899906842624) (hc : 0 ≤ cover ∧ cover ≤ 4835703278458516699) :
    alloc_filler_total_r ⟨t, out⟩ x qty cover (qF t x qty cover) := by
  refine alloc_filler_total_of ?_
  unfold alloc_filler_total_w
  dsimp only
  have hr := room_le (a := x.Asset) ht
  have hn := ht.need
  have ho : 0 ≤ openT t ∧ openT t ≤ 1125899906842624 := by unfold openT; omega
  have hp := hx.pos
  have hb := q0_bd (t := t) (cover := cover) hx h0 h1
  have hcv := cv_bd hx.good hb
  have fin : ∀ q, q = q0F t x qty cover → ∃ r4 : Int × Int, (haircut_Cover_r q x.Price x.Cut r4) ∧ (Num .i64 (r4.1 - cover) (Br (decide ((r4.1 - cover) > room t x.Asset)) (Num .i64 (room t x.Asset + cover) (∃ r5 : Int, (haircut_Most_r (room t x.Asset + cover) x.Price x.Cut q r5) ∧ (alloc_filler_total_e ⟨t, out⟩ (fun v_ => v_ = qF t x qty cover) r5))) (alloc_filler_total_e ⟨t, out⟩ (fun v_ => v_ = qF t x qty cover) q))) := by
    intro q e
    subst e
    refine ⟨_, Cover_r, ?_⟩
    rw [cover_val hx.good hb]
    refine Num.n (by omega) (Br.i (fun c => Num.n (by omega) ⟨_, Most_r, Rt.i ?_⟩) (fun c => Rt.i ?_))
    · unfold qF q1F; rw [if_pos c]
    · unfold qF q1F; rw [if_neg c]
  refine ⟨_, TOpen_r ht, _, TRoom_r ht, Num.n (by omega) ⟨_, Least_r, ?_⟩⟩
  refine Br.b (fun c => Num.n (by omega) (fin _ ?_)) (fun c => Num.n (by omega) (Br.i (fun c2 => Num.n (by omega) (fin _ ?_)) (fun c2 => fin _ ?_)))
  · have c : (leastS (openT t + cover) x.Price x.Cut).2 = false := by simpa using c
    unfold q0F; rw [c]; simp
  · unfold q0F; rw [if_neg (by omega)]
  · have c : (leastS (openT t + cover) x.Price x.Cut).2 = true := by simpa using c
    unfold q0F; rw [if_pos ⟨c, by omega⟩]
def wasF (out : List HI) (x : HI) : HI := if 0 ≤ atH x.Lot.ISIN out then at_ out (atH x.Lot.ISIN out).toNat else setQ x 0
def nF (t : limit_Table) (out : List HI) (x : HI) : Int := covH (setQ x (qF t x (wasF out x).Lot.Qty (covH (wasF out x)))) - covH (wasF out x)
def stepF (s : limit_Table × List HI) (x : HI) : limit_Table × List HI :=
  if nF s.1 s.2 x ≤ 0 then s
  else (putT s.1 x.Asset (nF s.1 s.2 x), if 0 ≤ atH x.Lot.ISIN s.2 then s.2.set (atH x.Lot.ISIN s.2).toNat (setQ x (qF s.1 x (wasF s.2 x).Lot.Qty (covH (wasF s.2 x)))) else s.2 ++ [setQ x (qF s.1 x (wasF s.2 x).Lot.Qty (covH (wasF s.2 x)))])
def fillF : limit_Table × List HI → List HI → limit_Table × List HI
  | s, [] => s
  | s, x :: l => if openT s.1 = 0 then s else fillF (stepF s x) l
/-- What was taken goes with what is to come. -/
structure Fi (out l : List HI) : Prop where
  it : ∀ x ∈ l, It x
  apart : l.Pairwise (fun x y => x.Lot.ISIN ≠ y.Lot.ISIN)
  was : ∀ y ∈ out, goodS y.Price y.Cut = true ∧ 0 ≤ y.Lot.Qty ∧ y.Lot.Qty ≤ 1125899906842624
  both : ∀ x ∈ l, ∀ y ∈ out, y.Lot.ISIN = x.Lot.ISIN → y.Asset = x.Asset ∧ y.Price = x.Price ∧ y.Cut = x.Cut ∧ y.Lot.Qty + x.Lot.Qty ≤ 1125899906842624
theorem was_or {out l : List HI} {x : HI} (h : Fi out (x :: l)) : goodS (wasF out x).Price (wasF out x).Cut = true ∧ 0 ≤ (wasF out x).Lot.Qty ∧ (wasF out x).Lot.Qty + x.Lot.Qty ≤ 1125899906842624 ∧ (wasF out x).Lot.Qty ≤ 1125899906842624 ∧
    ((atH x.Lot.ISIN out = -1 ∧ wasF out x = setQ x 0 ∧ covH (wasF out x) = 0) ∨ (∃ A B, out = A ++ wasF out x :: B ∧ (wasF out x).Lot.ISIN = x.Lot.ISIN ∧ atH x.Lot.ISIN out = (A.length : Nat) ∧ ∀ q, setQ (wasF out x) q = setQ x q)) := by
  have ix := h.it x (by simp)
  have px := ix.pos
  have tx := ix.top
  rcases atH_or x.Lot.ISIN out with ⟨h1, h2⟩ | ⟨A, y, B, h1, h2, h3⟩
  · have e : wasF out x = setQ x 0 := by unfold wasF; rw [if_neg (by omega)]
    rw [e]
    refine ⟨ix.good, Int.le_refl _, ?_, (by decide : (0 : Int) ≤ 1125899906842624), .inl ⟨h1, rfl, ?_⟩⟩
    · show 0 + x.Lot.Qty ≤ _; omega
    · rw [cov_q ix.good (by decide)]; simp [cv]
  · have e : wasF out x = y := by
      unfold wasF; rw [if_pos (by omega), h3, Int.toNat_natCast]
      exact at_of (by rw [h1]; simp)
    have hy := h.was y (by rw [h1]; simp)
    obtain ⟨b1, b2, b3, b4⟩ := h.both x (by simp) y (by rw [h1]; simp) h2
    rw [e]
    refine ⟨hy.1, hy.2.1, b4, hy.2.2, .inr ⟨A, B, h1, h2, h3, fun q => ?_⟩⟩
    unfold setQ; rw [h2, b1, b2, b3]
theorem step_out {t : limit_Table} {out l : List HI} {x : HI} (h : Fi out (x :: l)) (ht : Tok t) : Fi (stepF (t, out) x).2 l ∧ (stepF (t, out) x).2.length ≤ out.length + 1 ∧ nF t out x ≤ room t x.Asset ∧ (0 ≤ qF t x (wasF out x).Lot.Qty (covH (wasF out x)) ∧ qF t x (wasF out x).Lot.Qty (covH (wasF out x)) ≤ 1125899906842624) ∧ 0 ≤ covH (wasF out x) ∧ covH (wasF out x) ≤ 4835703278458516699 := by
  obtain ⟨w1, w2, w3, w4, w5⟩ := was_or h
  have ix := h.it x (by simp)
  have cw : covH (wasF out x) = cv (wasF out x).Lot.Qty (wasF out x).Price (wasF out x).Cut := cov_q (x := wasF out x) w1 ⟨w2, w4⟩
  have cb := cv_bd w1 ⟨w2, w4⟩
  rw [← cw] at cb
  have qb := q1_bd (cover := covH (wasF out x)) ix ht cb.1 (q0_bd (t := t) (cover := covH (wasF out x)) ix w2 w3)
  have qb1 : 0 ≤ qF t x (wasF out x).Lot.Qty (covH (wasF out x)) ∧ qF t x (wasF out x).Lot.Qty (covH (wasF out x)) ≤ 1125899906842624 := qb.1
  have hn : nF t out x ≤ room t x.Asset := by
    unfold nF
    rw [cov_q ix.good qb1]
    exact qb.2
  have rest : ∀ o : List HI, (∀ y ∈ o, y ∈ out ∨ y = setQ x (qF t x (wasF out x).Lot.Qty (covH (wasF out x)))) → Fi o l := fun o ho => by
    refine ⟨fun z hz => h.it z (by simp [hz]), (List.pairwise_cons.1 h.apart).2, fun y hy => ?_, fun z hz y hy he => ?_⟩
    · rcases ho y hy with hy | rfl
      · exact h.was y hy
      · exact ⟨ix.good, qb1⟩
    · rcases ho y hy with hy | rfl
      · exact h.both z (by simp [hz]) y hy he
      · exact absurd he ((List.pairwise_cons.1 h.apart).1 z hz)
  refine ⟨?_, ?_, hn, qb1, cb⟩
  · unfold stepF
    split
    · exact rest _ fun y hy => .inl hy
    · dsimp only
      split
      · exact rest _ fun y hy => (List.mem_or_eq_of_mem_set hy)
      · exact rest _ fun y hy => by
          rcases List.mem_append.1 hy with hy | hy
          · exact .inl hy
          · exact .inr (List.mem_singleton.1 hy)
  · unfold stepF
    split
    · simp
    · dsimp only
      split <;> simp
def stepR (t : limit_Table) (out : List HI) (r : lombardref16_Table) (x : HI) : lombardref16_Table := if nF t out x ≤ 0 then r else withR r x.Asset (nF t out x)
theorem step_al {t : limit_Table} {out l : List HI} {x : HI} {r : lombardref16_Table} {n : Nat} (h : Fi out (x :: l)) (ha : Al r t n) (hn : n ≤ 1000) : Al (stepR t out r x) (stepF (t, out) x).1 (n + 1) := by
  have hs := step_out h ha.tok
  unfold stepR stepF
  dsimp only
  by_cases c : nF t out x ≤ 0
  · rw [if_pos c, if_pos c]
    exact ⟨ha.tok, ha.need, ha.issuer, ha.asset, ha.i, ha.a, ha.s, by have := ha.len; omega, ha.bd, by have := ha.s0; dsimp only; omega⟩
  · rw [if_neg c, if_neg c]
    exact Al_put ha hn (by omega) hs.2.2.1
end Go.Proofs.YtgncepjnbdhmkaaGreat.Pure
namespace Go.Proofs.YtgncepjnbdhmkaaGreat.Pure
open Go Go.Ab Go.Stable Go.Proofs.YtgncepjnbdhmkaaGreat.R
set_option linter.unusedVariables false
theorem fill_l {L : List HI} {Q0 Q1 : (List haircut_Item) × Int × Int × Int × Int × (GM Int Int) × (GM ByteArray Int) → Prop} (hl : L.length ≤ 100) : ∀ (n i : Nat) (t : limit_Table) (out : List HI) (r : lombardref16_Table) (m : Nat), n + i = L.length → Fi out (L.drop i) → Al r t m → m + n ≤ 500 → out.length + n ≤ 500 →
    (∀ t' out', fillF (t, out) (L.drop i) = (t', out') → Q0 (out', t'.need, t'.issuer, t'.asset, t'.sum, t'.issuers, t'.assets) ∧ Q1 (out', t'.need, t'.issuer, t'.asset, t'.sum, t'.issuers, t'.assets)) →
    alloc_filler_fill_L0 L Q0 Q1 (i : Int) t.need t.issuer t.asset t.sum t.issuers t.assets out := by
  intro n
  induction n with
  | zero =>
    intro i t out r m h hf ha hm ho q
    refine alloc_filler_fill_l0 ?_
    unfold alloc_filler_fill_w0
    rw [lenM_eq]
    rw [List.drop_of_length_le (by omega)] at q
    exact Br.neg (by omega) (Lf.i (q t out rfl).1)
  | succ n ih =>
    intro i t out r m h hf ha hm ho q
    have hs : i < L.length := by omega
    refine alloc_filler_fill_l0 ?_
    unfold alloc_filler_fill_w0
    rw [lenM_eq]
    rw [List.drop_eq_getElem_cons hs] at q hf
    have g : L[(i : Int).toNat]? = some L[i] := by simp [hs]
    refine Br.pos (by omega) ⟨L[i], Got.i ⟨openT t, TOpen_r ha.tok, Br.i (fun c => Lf.i ?_) (fun c => ⟨_, FOf_r (t := t) (out := out) (by omega), ?_⟩)⟩ (by omega) g⟩
    · refine (q t out ?_).2
      simp only [fillF]; rw [if_pos c]
    · simp only [fillF] at q
      rw [if_neg c] at q
      obtain ⟨w1, w2, w3, w4, w5⟩ := was_or hf
      obtain ⟨s1, s2, s3, s4, s5, s6⟩ := step_out hf ha.tok
      have sal := step_al hf ha (by omega)
      have ix := hf.it L[i] (List.mem_cons_self ..)
      have hsum := ha.s0
      have hroom := room_le (a := L[i].Asset) ha.tok
      have nx : Num .i64 ((i : Int) + 1) (alloc_filler_fill_L0 L Q0 Q1 ((i : Int) + 1) (stepF (t, out) L[i]).1.need (stepF (t, out) L[i]).1.issuer (stepF (t, out) L[i]).1.asset (stepF (t, out) L[i]).1.sum (stepF (t, out) L[i]).1.issuers (stepF (t, out) L[i]).1.assets (stepF (t, out) L[i]).2) :=
        Num.n (by omega) (ih (i + 1) _ _ _ (m + 1) (by omega) s1 sal (by omega) (by omega) q)
      have cn := covC_ok (toR (setQ L[i] (qF t L[i] (wasF out L[i]).Lot.Qty (covH (wasF out L[i])))))
      have J : alloc_filler_fill_j4 (atH L[i].Lot.ISIN out, ⟨t, out⟩) L (i : Int) L[i] (alloc_filler_fill_L0 L Q0 Q1) Q0 Q1 ((wasF out L[i]).Lot.Qty, covH (wasF out L[i])) := by
        unfold alloc_filler_fill_j4
        refine Jn.i ⟨_, Total_r ha.tok hsum.1 ix w2 w3 ⟨s5, s6⟩, _, HCover_r (setQ L[i] (qF t L[i] (wasF out L[i]).Lot.Qty (covH (wasF out L[i])))), Num.n ?_ ?_⟩
        · have : covH (setQ L[i] (qF t L[i] (wasF out L[i]).Lot.Qty (covH (wasF out L[i])))) = covC (toR (setQ L[i] (qF t L[i] (wasF out L[i]).Lot.Qty (covH (wasF out L[i]))))) := rfl
          omega
        · show Br (decide (nF t out L[i] ≤ 0)) _ _
          unfold stepF at nx
          dsimp only at nx
          refine Br.i (fun c2 => ?_) (fun c2 => ?_)
          · rw [if_pos c2] at nx; exact nx
          · rw [if_neg c2] at nx
            refine ⟨(0, putT t L[i].Asset (nF t out L[i])), TAdd_ok ha.tok (show 0 ≤ nF t out L[i] by omega) s3, Br.neg (fun h => h rfl) ?_⟩
            dsimp only at nx ⊢
            refine Br.i (fun c3 => ?_) (fun c3 => ?_)
            · rw [if_pos c3] at nx
              rcases w5 with ⟨e1, _⟩ | ⟨A, B, e1, e2, e3, e4⟩
              · omega
              · have hlt : (atH L[i].Lot.ISIN out).toNat < out.length := by rw [e3, Int.toNat_natCast, e1]; simp
                have gw : out[(atH L[i].Lot.ISIN out).toNat]? = some (wasF out L[i]) := by
                  rw [e3, Int.toNat_natCast]
                  have : (A ++ wasF out L[i] :: B)[A.length]? = some (wasF out L[i]) := by simp
                  rw [← e1] at this; exact this
                refine InL.i ⟨wasF out L[i], EltS.i ?_ gw⟩ c3 (by simpa using hlt)
                have e5 := e4 (qF t L[i] (wasF out L[i]).Lot.Qty (covH (wasF out L[i])))
                show Num .i64 ((i : Int) + 1) (alloc_filler_fill_L0 L Q0 Q1 ((i : Int) + 1) _ _ _ _ _ _ (out.set (atH L[i].Lot.ISIN out).toNat (setQ (wasF out L[i]) (qF t L[i] (wasF out L[i]).Lot.Qty (covH (wasF out L[i]))))))
                rw [e5]; exact nx
            · rw [if_neg c3] at nx
              exact App2.i (app96 (by simp; omega)) nx
      rcases w5 with ⟨e1, e2, e3⟩ | ⟨A, B, e1, e2, e3, e4⟩
      · rw [e2] at J
        have e3' : covH (setQ L[i] 0) = 0 := by rw [← e2]; exact e3
        rw [e3'] at J
        exact Br.neg (by dsimp only; omega) J
      · have hlt : (atH L[i].Lot.ISIN out).toNat < out.length := by rw [e3, Int.toNat_natCast, e1]; simp
        have gw : out[(atH L[i].Lot.ISIN out).toNat]? = some (wasF out L[i]) := by
          rw [e3, Int.toNat_natCast]
          have : (A ++ wasF out L[i] :: B)[A.length]? = some (wasF out L[i]) := by simp
          rw [← e1] at this; exact this
        have c3 : 0 ≤ atH L[i].Lot.ISIN out := by omega
        exact Br.pos (by dsimp only; omega) (InL.i ⟨wasF out L[i], EltG.i (InL.i (EltG.i ⟨_, HCover_r _, J⟩ gw) c3 (by simpa using hlt)) gw⟩ c3 (by simpa using hlt))
def fillR : limit_Table × List HI → lombardref16_Table → List HI → lombardref16_Table
  | _, r, [] => r
  | s, r, x :: l => if openT s.1 = 0 then r else fillR (stepF s x) (stepR s.1 s.2 r x) l
theorem rfill_l {L : List HI} {Q : (List lombardref15_Item) × Int × Int × Int × (List lombardref16_Part) → Prop} (hl : L.length ≤ 100) : ∀ (n i : Nat) (t : limit_Table) (out : List HI) (r : lombardref16_Table) (m : Nat), n + i = L.length → Fi out (L.drop i) → Al r t m → m + n ≤ 500 → out.length + n ≤ 500 →
    Q ((fillF (t, out) (L.drop i)).2.map toR, (fillR (t, out) r (L.drop i)).Need, (fillR (t, out) r (L.drop i)).Issuer, (fillR (t, out) r (L.drop i)).Asset, (fillR (t, out) r (L.drop i)).L) →
    lombardref18_Filled_L0 (L.map toR) Q (i : Int) (out.map toR) r.Need r.Issuer r.Asset r.L := by
  intro n
  induction n with
  | zero =>
    intro i t out r m h hf ha hm ho q
    refine lombardref18_Filled_l0 ?_
    unfold lombardref18_Filled_w0
    rw [lenM_eq, List.length_map]
    rw [List.drop_of_length_le (by omega)] at q
    exact Br.neg (by omega) (Lf.i q)
  | succ n ih =>
    intro i t out r m h hf ha hm ho q
    have hs : i < L.length := by omega
    refine lombardref18_Filled_l0 ?_
    unfold lombardref18_Filled_w0
    rw [lenM_eq, List.length_map]
    rw [List.drop_eq_getElem_cons hs] at q hf
    have g : (L.map toR)[(i : Int).toNat]? = some (toR L[i]) := by simp [hs]
    have o0 : 0 ≤ openT t := by unfold openT; omega
    have hneed := ha.tok.need
    have hsum := ha.s0
    have o1 : openT t ≤ 1125899906842624 := by unfold openT; omega
    refine Br.pos (by omega) ⟨openT t, ROpen_r ha (by omega), Br.i (fun c => ⟨toR L[i], Got.i ⟨_, RAt_r (by omega), ?_⟩ (by omega) g⟩) (fun c => Lf.i ?_)⟩
    case refine_2 =>
      simp only [fillF, fillR] at q
      rw [if_pos (by omega), if_pos (by omega)] at q
      exact q
    simp only [fillF, fillR] at q
    rw [if_neg (by omega), if_neg (by omega)] at q
    obtain ⟨w1, w2, w3, w4, w5⟩ := was_or hf
    obtain ⟨s1, s2, s3, s4, s5, s6⟩ := step_out hf ha.tok
    have sal := step_al hf ha (by omega)
    have ix := hf.it L[i] (List.mem_cons_self ..)
    have px := ix.pos
    have hroom := room_le (a := L[i].Asset) ha.tok
    have nx : Num .i64 ((i : Int) + 1) (lombardref18_Filled_L0 (L.map toR) Q ((i : Int) + 1) ((stepF (t, out) L[i]).2.map toR) (stepR t out r L[i]).Need (stepR t out r L[i]).Issuer (stepR t out r L[i]).Asset (stepR t out r L[i]).L) :=
      Num.n (by omega) (ih (i + 1) _ _ _ (m + 1) (by omega) s1 sal (by omega) (by omega) q)
    have cn := covC_ok (toR (setQ L[i] (qF t L[i] (wasF out L[i]).Lot.Qty (covH (wasF out L[i])))))
    have wC := RHCovers_r (wasF out L[i])
    have nC := RHCovers_r (setQ L[i] (qF t L[i] (wasF out L[i]).Lot.Qty (covH (wasF out L[i]))))
    have J8 : lombardref18_Filled_j8 (out.map toR) (L.map toR) (i : Int) (atH L[i].Lot.ISIN out) r.Need r.Issuer r.Asset r.L (toR L[i]) ((wasF out L[i]).Lot.ISIN, (wasF out L[i]).Lot.Qty, (wasF out L[i]).Asset.ISIN, (wasF out L[i]).Asset.Issuer, (wasF out L[i]).Asset.Rating, (wasF out L[i]).Asset.Maturity, (wasF out L[i]).Asset.Currency, (wasF out L[i]).Price, (wasF out L[i]).Cut) (lombardref18_Filled_L0 (L.map toR) Q) Q (qF t L[i] (wasF out L[i]).Lot.Qty (covH (wasF out L[i]))) := by
      unfold lombardref18_Filled_j8
      refine Jn.i ⟨_, nC, _, wC, ?_⟩
      unfold stepF stepR at nx
      dsimp only at nx
      refine Br.i (fun c2 => ?_) (fun c2 => ⟨_, nC, _, wC, Num.n ?_ ⟨(withR r L[i].Asset (nF t out L[i]), 0), RAdd_r ha (by omega) (show 0 ≤ nF t out L[i] by unfold nF; omega) s3, ?_⟩⟩)
      · rw [if_pos (show nF t out L[i] ≤ 0 by unfold nF; omega), if_pos (show nF t out L[i] ≤ 0 by unfold nF; omega)] at nx; exact nx
      · have : covH (setQ L[i] (qF t L[i] (wasF out L[i]).Lot.Qty (covH (wasF out L[i])))) = covC (toR (setQ L[i] (qF t L[i] (wasF out L[i]).Lot.Qty (covH (wasF out L[i]))))) := rfl
        omega
      · rw [if_neg (show ¬ nF t out L[i] ≤ 0 by unfold nF; omega), if_neg (show ¬ nF t out L[i] ≤ 0 by unfold nF; omega)] at nx
        dsimp only at nx ⊢
        refine ApZ.i (app96 (by simp; omega)) (Br.i (fun c3 => ?_) (fun c3 => ?_))
        · have c3 : 0 ≤ atH L[i].Lot.ISIN out := c3
          rw [if_pos c3, List.map_set] at nx
          rcases w5 with ⟨e1, _⟩ | ⟨A, B, e1, e2, e3, e4⟩
          · omega
          · have hlt : (atH L[i].Lot.ISIN out).toNat < out.length := by rw [e3, Int.toNat_natCast, e1]; simp
            have gw : (out.map toR)[(atH L[i].Lot.ISIN out).toNat]? = some (toR (wasF out L[i])) := by
              rw [e3, Int.toNat_natCast, List.getElem?_map]
              have : (A ++ wasF out L[i] :: B)[A.length]? = some (wasF out L[i]) := by simp
              rw [← e1] at this; rw [this]; rfl
            exact InL.i ⟨toR (wasF out L[i]), EltS.i nx gw⟩ c3 (by simpa using hlt)
        · have c3 : ¬ 0 ≤ atH L[i].Lot.ISIN out := c3
          rw [if_neg c3, List.map_append] at nx
          exact App2.i (app96 (by simp; omega)) nx
    have hb := q0_bd (t := t) (cover := covH (wasF out L[i])) ix w2 w3
    have hcv := cv_bd ix.good hb
    have J7 : lombardref18_Filled_j7 (out.map toR) (L.map toR) (i : Int) (atH L[i].Lot.ISIN out) r.Need r.Issuer r.Asset r.L (toR L[i]) ((wasF out L[i]).Lot.ISIN, (wasF out L[i]).Lot.Qty, (wasF out L[i]).Asset.ISIN, (wasF out L[i]).Asset.Issuer, (wasF out L[i]).Asset.Rating, (wasF out L[i]).Asset.Maturity, (wasF out L[i]).Asset.Currency, (wasF out L[i]).Price, (wasF out L[i]).Cut) (lombardref18_Filled_L0 (L.map toR) Q) Q (q0F t L[i] (wasF out L[i]).Lot.Qty (covH (wasF out L[i]))) := by
      unfold lombardref18_Filled_j7
      have rR := RRoom_r (a := L[i].Asset) ha (by omega)
      refine Jn.i ⟨_, RCover_r, _, wC, ?_⟩
      rw [show coverS (q0F t L[i] (wasF out L[i]).Lot.Qty (covH (wasF out L[i]))) (toR L[i]).Price (toR L[i]).Cut = _ from cover_val ix.good hb]
      have hD : -9223372036854775808 ≤ cv (q0F t L[i] (wasF out L[i]).Lot.Qty (covH (wasF out L[i]))) L[i].Price L[i].Cut - covH (wasF out L[i]) ∧ cv (q0F t L[i] (wasF out L[i]).Lot.Qty (covH (wasF out L[i]))) L[i].Price L[i].Cut - covH (wasF out L[i]) ≤ 9223372036854775807 := by omega
      refine Num.n hD ⟨_, rR, Br.i (fun c2 => ⟨_, rR, _, wC, Num.n (by omega) ⟨_, RMost_r (by omega), ?_⟩⟩) (fun c2 => ?_)⟩
      · have c2 : cv (q0F t L[i] (wasF out L[i]).Lot.Qty (covH (wasF out L[i]))) L[i].Price L[i].Cut - covH (wasF out L[i]) > room t L[i].Asset := c2
        have : qF t L[i] (wasF out L[i]).Lot.Qty (covH (wasF out L[i])) = mostS (room t L[i].Asset + covH (wasF out L[i])) L[i].Price L[i].Cut (q0F t L[i] (wasF out L[i]).Lot.Qty (covH (wasF out L[i]))) := by unfold qF q1F; rw [if_pos c2]
        rw [this] at J8; exact J8
      · have c2 : ¬ cv (q0F t L[i] (wasF out L[i]).Lot.Qty (covH (wasF out L[i]))) L[i].Price L[i].Cut - covH (wasF out L[i]) > room t L[i].Asset := c2
        have : qF t L[i] (wasF out L[i]).Lot.Qty (covH (wasF out L[i])) = q0F t L[i] (wasF out L[i]).Lot.Qty (covH (wasF out L[i])) := by unfold qF q1F; rw [if_neg c2]
        rw [this] at J8; exact J8
    have J6 : lombardref18_Filled_j6 (out.map toR) (L.map toR) (i : Int) (atH L[i].Lot.ISIN out) r.Need r.Issuer r.Asset r.L (toR L[i]) (lombardref18_Filled_L0 (L.map toR) Q) Q ((wasF out L[i]).Lot.ISIN, (wasF out L[i]).Lot.Qty, (wasF out L[i]).Asset.ISIN, (wasF out L[i]).Asset.Issuer, (wasF out L[i]).Asset.Rating, (wasF out L[i]).Asset.Maturity, (wasF out L[i]).Asset.Currency, (wasF out L[i]).Price, (wasF out L[i]).Cut) := by
      unfold lombardref18_Filled_j6
      dsimp only
      have hQ : -9223372036854775808 ≤ (wasF out L[i]).Lot.Qty + L[i].Lot.Qty ∧ (wasF out L[i]).Lot.Qty + L[i].Lot.Qty ≤ 9223372036854775807 := by omega
      refine Jn.i (Num.n hQ ⟨openT t, ROpen_r ha (by omega), _, wC, Num.n (by omega) ⟨_, RLeast_r (by omega), ?_⟩⟩)
      refine Br.b (fun c2 => Br.i (fun c3 => ?_) (fun c3 => ?_)) (fun c2 => ?_)
      · have c2 : (leastS (openT t + covH (wasF out L[i])) L[i].Price L[i].Cut).2 = true := c2
        have c3 : (leastS (openT t + covH (wasF out L[i])) L[i].Price L[i].Cut).1 < (wasF out L[i]).Lot.Qty + L[i].Lot.Qty := c3
        have : q0F t L[i] (wasF out L[i]).Lot.Qty (covH (wasF out L[i])) = (leastS (openT t + covH (wasF out L[i])) L[i].Price L[i].Cut).1 := by unfold q0F; rw [if_pos ⟨c2, by omega⟩]
        rw [this] at J7; exact J7
      · have c2 : (leastS (openT t + covH (wasF out L[i])) L[i].Price L[i].Cut).2 = true := c2
        have c3 : ¬ (leastS (openT t + covH (wasF out L[i])) L[i].Price L[i].Cut).1 < (wasF out L[i]).Lot.Qty + L[i].Lot.Qty := c3
        have : q0F t L[i] (wasF out L[i]).Lot.Qty (covH (wasF out L[i])) = (wasF out L[i]).Lot.Qty + L[i].Lot.Qty := by unfold q0F; split <;> omega
        rw [this] at J7; exact J7
      · have c2 : (leastS (openT t + covH (wasF out L[i])) L[i].Price L[i].Cut).2 = false := c2
        have : q0F t L[i] (wasF out L[i]).Lot.Qty (covH (wasF out L[i])) = (wasF out L[i]).Lot.Qty + L[i].Lot.Qty := by unfold q0F; rw [c2]; simp
        rw [this] at J7; exact J7
    rcases w5 with ⟨e1, e2, e3⟩ | ⟨A, B, e1, e2, e3, e4⟩
    · rw [e2] at J6
      exact Br.neg (by show ¬ atH L[i].Lot.ISIN out ≥ 0; omega) J6
    · have hlt : (atH L[i].Lot.ISIN out).toNat < out.length := by rw [e3, Int.toNat_natCast, e1]; simp
      have gw : (out.map toR)[(atH L[i].Lot.ISIN out).toNat]? = some (toR (wasF out L[i])) := by
        rw [e3, Int.toNat_natCast, List.getElem?_map]
        have : (A ++ wasF out L[i] :: B)[A.length]? = some (wasF out L[i]) := by simp
        rw [← e1] at this; rw [this]; rfl
      have c3 : 0 ≤ atH L[i].Lot.ISIN out := by omega
      exact Br.pos c3 ⟨toR (wasF out L[i]), Got.i J6 c3 gw⟩
end Go.Proofs.YtgncepjnbdhmkaaGreat.Pure
namespace Go.Proofs.YtgncepjnbdhmkaaGreat.Pure
open Go Go.Ab Go.Stable Go.Proofs.YtgncepjnbdhmkaaGreat.R
set_option linter.unusedVariables false
theorem mg_perm {α : Type} {le : α → α → Bool} : ∀ U V : List α, (mg le U V).Perm (U ++ V)
  | [], V => by simp [mg]
  | u :: U, [] => by simp [mg]
  | u :: U, v :: V => by
    rw [mg]
    split
    · exact (mg_perm U (v :: V)).cons u
    · exact ((mg_perm (u :: U) V).cons v).trans (List.perm_middle (l₁ := u :: U) (a := v) (l₂ := V)).symm
theorem isort_perm' : ∀ (L R : List E), (L.foldl (insS leE) R).Perm (R ++ L)
  | [], R => by simp
  | x :: L, R => by
    rw [List.foldl_cons]
    refine (isort_perm' L _).trans ?_
    have := (mg_perm (le := leE) R [x]).append_right L
    rw [List.append_assoc] at this
    exact this
theorem isort_perm (L : List E) : (isort leE L).Perm L := by
  have := isort_perm' L []
  simpa [isort] using this
theorem isort_len' (L : List E) : (isort leE L).length = L.length := (isort_perm L).length_eq
theorem Fi_new {l : List RI} (h : wrongS l = 0) : Fi [] (isort leE (l.map toH)) ∧ l.length ≤ 64 := by
  unfold wrongS at h
  split at h
  · cases h
  · rename_i hl
    obtain ⟨w1, w2⟩ := wrong_it l [] h
    refine ⟨⟨fun x hx => ?_, ?_, by simp, by simp⟩, by omega⟩
    · have := (isort_perm _).mem_iff.1 hx
      obtain ⟨y, hy, rfl⟩ := List.mem_map.1 this
      exact (w1 y hy).1
    · refine ((isort_perm (l.map toH)).pairwise_iff (fun h e => h e.symm)).2 ?_
      exact List.Pairwise.map _ (fun a b hab => hab) w2
theorem fillR_al : ∀ (L : List HI) (t : limit_Table) (out : List HI) (r : lombardref16_Table) (m : Nat), Fi out L → Al r t m → m + L.length ≤ 500 → ∃ m', Al (fillR (t, out) r L) (fillF (t, out) L).1 m' ∧ m' ≤ 500 ∧ (fillF (t, out) L).2.length ≤ out.length + L.length ∧ Fi (fillF (t, out) L).2 []
  | [], t, out, r, m, hf, ha, hm => ⟨m, ha, by simpa using hm, by simp [fillF], by simpa [fillF] using hf⟩
  | x :: L, t, out, r, m, hf, ha, hm => by
    simp only [List.length_cons] at hm
    simp only [fillF, fillR]
    by_cases c : openT t = 0
    · rw [if_pos c, if_pos c]; exact ⟨m, ha, by omega, by simp, ⟨by simp, List.Pairwise.nil, hf.was, by simp⟩⟩
    · rw [if_neg c, if_neg c]
      obtain ⟨s1, s2, _⟩ := step_out hf ha.tok
      obtain ⟨m', a, b, d, e⟩ := fillR_al L _ _ _ (m + 1) s1 (step_al hf ha (by omega)) (by omega)
      have d : (fillF (stepF (t, out) x) L).2.length ≤ (stepF (t, out) x).2.length + L.length := d
      exact ⟨m', a, b, by simp only [List.length_cons]; omega, e⟩
theorem FFill_r {l : List RI} {t : limit_Table} {out : List HI} {r : lombardref16_Table} {m : Nat} (hl : l.length ≤ 64) (hf : Fi out (isort leE (l.map toH))) (ha : Al r t m) (hm : m ≤ 100) (ho : out.length ≤ 100) :
    alloc_filler_fill_r ⟨t, out⟩ (l.map toH) ⟨(fillF (t, out) (isort leE (l.map toH))).1, (fillF (t, out) (isort leE (l.map toH))).2⟩ := by
  have e : (isort leE (l.map toH)).length = l.length := by rw [isort_len']; simp
  refine alloc_filler_fill_of ?_
  unfold alloc_filler_fill_w
  refine ⟨_, Rank_r (by simp; omega), fill_l (by omega) (isort leE (l.map toH)).length 0 t out r m (by omega) (by simpa using hf) ha (by omega) (by omega) (fun t' out' h => ?_)⟩
  rw [List.drop_zero] at h
  exact ⟨Rt.i (by rw [h]), Rt.i (by rw [h])⟩
theorem RFilled_r {l : List RI} {t : limit_Table} {out : List HI} {r : lombardref16_Table} {m : Nat} (hl : l.length ≤ 64) (hf : Fi out (isort leE (l.map toH))) (ha : Al r t m) (hm : m ≤ 100) (ho : out.length ≤ 100) :
    lombardref18_Filled_r r (out.map toR) l (fillR (t, out) r (isort leE (l.map toH)), (fillF (t, out) (isort leE (l.map toH))).2.map toR) := by
  have e : (isort leE (l.map toH)).length = l.length := by rw [isort_len']; simp
  refine lombardref18_Filled_of ?_
  unfold lombardref18_Filled_w
  exact ⟨_, RRank_r (by omega), rfill_l (by omega) (isort leE (l.map toH)).length 0 t out r m (by omega) (by simpa using hf) ha (by omega) (by omega) (Rt.i (by rw [List.drop_zero]))⟩

/-! The plan. -/
def planS (t : limit_Table) (out : List HI) : alloc_Plan × Int :=
  if (mergeG [] (out.map (·.Lot))).2 ≠ 0 then (⟨[], 0, 0⟩, (mergeG [] (out.map (·.Lot))).2) else (⟨(mergeG [] (out.map (·.Lot))).1, t.sum, openT t⟩, 0)
def toP (p : alloc_Plan) : lombardref18_Plan := ⟨p.Lots, p.Cover, p.Short⟩
theorem Plan_r {t : limit_Table} {out : List HI} (ht : Tok t) (ho : out.length ≤ 1000) : alloc_filler_plan_r ⟨t, out⟩ (planS t out) := by
  refine alloc_filler_plan_of ?_
  unfold alloc_filler_plan_w planS
  refine ⟨_, LOf_r (by show out.length ≤ _; omega), Br.i (fun c => Rt.i (by rw [if_pos c])) (fun c => ⟨_, TSum_r, _, TOpen_r ht, Rt.i (by rw [if_neg c])⟩)⟩
theorem RPlan_r {r : lombardref16_Table} {t : limit_Table} {out : List HI} {m : Nat} (ha : Al r t m) (hm : m ≤ 1000) (ho : out.length ≤ 1000) : lombardref18_plan_r r (out.map toR) (toP (planS t out).1, (planS t out).2) := by
  have hl := ha.len
  refine lombardref18_plan_of ?_
  unfold lombardref18_plan_w planS
  have s := RSum_r ha.bd (by omega)
  rw [ha.s] at s
  have o := ROf_r (a := out.map toR) (by simp; omega)
  rw [List.map_map, show ((fun x : RI => x.Lot) ∘ toR) = (fun x : HI => x.Lot) from rfl] at o
  refine ⟨_, o, Br.i (fun c => Rt.i (by rw [if_pos c]; rfl)) (fun c => ⟨_, s, _, ROpen_r ha (by omega), Rt.i (by rw [if_neg c]; rfl)⟩)⟩
instance (b : api_Basket) (need : Int) : Decidable (newOk b need) := by unfold newOk; exact instDecidableAnd
def fillS (b : api_Basket) (l : List RI) (need : Int) : alloc_Plan × Int :=
  if ¬ newOk b need then (⟨[], 0, 0⟩, 1) else if wrongS l ≠ 0 then (⟨[], 0, 0⟩, wrongS l) else planS (fillF (newT b need, []) (isort leE (l.map toH))).1 (fillF (newT b need, []) (isort leE (l.map toH))).2
theorem Fill_r {b : api_Basket} {l : List RI} {need : Int} : alloc_Fill_r b (l.map toH) need (fillS b l need) := by
  refine alloc_Fill_of ?_
  unfold alloc_Fill_w fillS
  by_cases h : newOk b need
  · rw [if_neg (fun k => k h)]
    refine .inr ⟨_, New_r1 h, Br.neg (fun k => k rfl) ⟨_, Check_r, Br.i (fun c => Rt.i (by rw [if_pos c])) (fun c => ?_)⟩⟩
    have c := Decidable.not_not.1 c
    obtain ⟨f1, f2⟩ := Fi_new c
    obtain ⟨m', a1, a2, a3, a4⟩ := fillR_al _ _ [] _ 0 f1 (Al_new h) (by rw [isort_len']; simp; omega)
    refine ⟨_, FFill_r f2 f1 (Al_new h) (by omega) (by simp), _, Plan_r a1.tok ?_, Rt.i (by rw [if_neg (fun k => k c)])⟩
    rw [isort_len'] at a3; simp at a3
    show (fillF (newT b need, []) (isort leE (l.map toH))).2.length ≤ 1000
    omega
  · rw [if_pos h]
    exact .inl ⟨_, New_r0 h, Br.pos (by decide) (Rt.i rfl)⟩
/-! The same plan; the chapter's example. -/
theorem lots_l {a : List api_Lot} {Q0 Q1 : Unit → Prop} (hl : a.length ≤ 1000000) (q : Q1 ()) : ∀ (n i : Nat), n + i = a.length → lombardref10_Lots_L0 a a Q0 Q1 (i : Int) := by
  intro n
  induction n with
  | zero =>
    intro i h
    refine lombardref10_Lots_l0 ?_
    unfold lombardref10_Lots_w0
    rw [lenM_eq]
    exact Br.neg (by omega) (Lf.i q)
  | succ n ih =>
    intro i h
    have hs : i < a.length := by omega
    refine lombardref10_Lots_l0 ?_
    unfold lombardref10_Lots_w0
    rw [lenM_eq]
    have g : a[(i : Int).toNat]? = some a[i] := by simp [hs]
    exact Br.pos (by omega) ⟨a[i], Got.i ⟨a[i], Got.i (Br.f (by simp [strEq_true]) (Num.n (by omega) (ih (i + 1) (by omega)))) (by omega) g⟩ (by omega) g⟩
theorem Lots_r {a : List api_Lot} (hl : a.length ≤ 1000000) : lombardref10_Lots_r a a true := by
  refine lombardref10_Lots_of ?_
  unfold lombardref10_Lots_w
  rw [lenM_eq]
  exact Br.f (by simp) (lots_l hl (Rt.i rfl) a.length 0 (by omega))
theorem Same_r {p : alloc_Plan} (hl : p.Lots.length ≤ 1000000) : lombardlaw18_same_r p (toP p) true := by
  refine lombardlaw18_same_of ?_
  unfold lombardlaw18_same_w
  exact ⟨_, Lots_r hl, Br.t rfl (Br.t (by simp [toP]) (Rt.i (by simp [toP])))⟩
theorem setG_len (s : ByteArray) (q : Int) : ∀ (l : List api_Lot), (setG s q true l).length ≤ l.length ∧ (setG s q false l).length ≤ l.length + 1
  | [] => by simp [setG]
  | y :: l => by
    obtain ⟨h1, h2⟩ := setG_len s q l
    simp only [setG]
    have e : (if y.ISIN = s then ([] : List api_Lot) else [y]).length ≤ 1 := by split <;> simp
    refine ⟨by simp only [List.length_append, List.length_cons]; omega, ?_⟩
    split
    · simp only [List.length_append, List.length_cons]; omega
    · simp only [List.length_append, List.length_cons]; omega
theorem mergeG_len : ∀ (l out : List api_Lot), (mergeG out l).1.length ≤ out.length + l.length
  | [], out => by simp [mergeG]
  | x :: l, out => by
    simp only [mergeG]
    split
    · simp
    · split
      · simp
      · have h := mergeG_len l (addG out x).1
        have : (addG out x).1.length ≤ out.length + 1 := by
          unfold addG
          split
          · simp
          · split
            · simp
            · exact (setG_len _ _ out).2
        simp only [List.length_cons]; omega
theorem fillS_len (b : api_Basket) (l : List RI) (need : Int) : (fillS b l need).1.Lots.length ≤ 1000 := by
  unfold fillS
  split
  · simp
  · rename_i h
    have h := Decidable.not_not.1 h
    split
    · simp
    · rename_i c
      have c := Decidable.not_not.1 c
      obtain ⟨f1, f2⟩ := Fi_new c
      obtain ⟨m', a1, a2, a3, a4⟩ := fillR_al _ _ [] _ 0 f1 (Al_new h) (by rw [isort_len']; simp; omega)
      rw [isort_len'] at a3; simp at a3
      unfold planS
      split
      · simp
      · have := mergeG_len ((fillF (newT b need, []) (isort leE (l.map toH))).2.map (·.Lot)) []
        simp at this; simp; omega
def parS (s : ByteArray) (i q : Int) : RI := ⟨⟨s, q⟩, ⟨s, i, 0, 0, ByteArray.empty⟩, 1000000, 0⟩
theorem Par_r (s : ByteArray) (i q : Int) : lombardlaw18_par_r s i q (parS s i q) := by
  refine lombardlaw18_par_of ?_
  unfold lombardlaw18_par_w
  exact Rt.i rfl
theorem awake_r : lombardlaw18_awake_r true := by
  refine lombardlaw18_awake_of ?_
  unfold lombardlaw18_awake_w
  refine ⟨_, Par_r _ _ _, _, Par_r _ _ _, _, items_r (by decide), _, Fill_r, ?_⟩
  have e : fillS (⟨0, 0, ByteArray.empty, 0, 0, 0, [], 500000, 1000000, []⟩ : api_Basket) [parS (⟨#[65]⟩ : ByteArray) 1 80, parS (⟨#[66]⟩ : ByteArray) 2 80] 100 = ((⟨[(⟨(⟨#[65]⟩ : ByteArray), 50⟩ : api_Lot), (⟨(⟨#[66]⟩ : ByteArray), 50⟩ : api_Lot)], 100, 0⟩ : alloc_Plan), 0) := by
    kernel_rfl
  rw [e]
  exact Br.t rfl ⟨_, Same_r (p := ⟨[⟨⟨#[65]⟩, 50⟩, ⟨⟨#[66]⟩, 50⟩], 100, 0⟩) (by decide), Rt.i rfl⟩
end Go.Proofs.YtgncepjnbdhmkaaGreat.Pure
namespace Go.Proofs.YtgncepjnbdhmkaaGreat.Pure
open Go Go.Ab Go.Stable Go.Proofs.YtgncepjnbdhmkaaGreat.R
set_option linter.unusedVariables false
def kqF (t : limit_Table) (x : HI) : Int := if room t x.Asset < covH x then mostS (room t x.Asset) x.Price x.Cut x.Lot.Qty else x.Lot.Qty
def keepF (s : limit_Table × List HI) (x : HI) : limit_Table × List HI :=
  if 0 < covH (setQ x (kqF s.1 x)) then (putT s.1 x.Asset (covH (setQ x (kqF s.1 x))), s.2 ++ [setQ x (kqF s.1 x)]) else s
def keepR (t : limit_Table) (r : lombardref16_Table) (x : HI) : lombardref16_Table := if 0 < covH (setQ x (kqF t x)) then withR r x.Asset (covH (setQ x (kqF t x))) else r
def keptF : limit_Table × List HI → List HI → limit_Table × List HI
  | s, [] => s
  | s, x :: l => keptF (keepF s x) l
def keptR : limit_Table × List HI → lombardref16_Table → List HI → lombardref16_Table
  | _, r, [] => r
  | s, r, x :: l => keptR (keepF s x) (keepR s.1 r x) l
theorem kq_bd {t : limit_Table} {x : HI} (ht : Tok t) (hx : It x) : 0 ≤ kqF t x ∧ kqF t x ≤ x.Lot.Qty ∧ 0 ≤ covH (setQ x (kqF t x)) ∧ covH (setQ x (kqF t x)) ≤ room t x.Asset := by
  have hr := room_le (a := x.Asset) ht
  have p1 := hx.pos
  have p2 := hx.top
  have ec : covH x = cv x.Lot.Qty x.Price x.Cut := cov_q (x := x) (q := x.Lot.Qty) hx.good ⟨by omega, p2⟩
  have main : (0 ≤ kqF t x ∧ kqF t x ≤ x.Lot.Qty) ∧ cv (kqF t x) x.Price x.Cut ≤ room t x.Asset := by
    unfold kqF
    split
    · have lp := least_pos (c := x.Cut) (p := x.Price) hx.good hr.1
      unfold mostS
      rw [if_neg (by simp [hx.good]), if_neg (by omega), if_neg (by omega), if_neg (by omega)]
      split
      · rename_i h
        exact ⟨by omega, (most_le hx.good).1 h⟩
      · rename_i h
        exact ⟨by omega, (most_le (limit := room t x.Asset) (q := least (room t x.Asset + 1) x.Price x.Cut - 1) hx.good).1 (by omega)⟩
    · exact ⟨by omega, by omega⟩
  have e := cov_q (x := x) hx.good (q := kqF t x) ⟨main.1.1, by omega⟩
  have b := cv_bd hx.good (q := kqF t x) ⟨main.1.1, by omega⟩
  rw [e]
  exact ⟨main.1.1, main.1.2, b.1, main.2⟩
theorem keep_al {t : limit_Table} {out : List HI} {x : HI} {r : lombardref16_Table} {n : Nat} (ha : Al r t n) (hn : n ≤ 1000) (hx : It x) : Al (keepR t r x) (keepF (t, out) x).1 (n + 1) := by
  obtain ⟨k1, k2, k3, k4⟩ := kq_bd ha.tok hx
  unfold keepR keepF
  dsimp only
  by_cases c : 0 < covH (setQ x (kqF t x))
  · rw [if_pos c, if_pos c]
    exact Al_put ha hn k3 k4
  · rw [if_neg c, if_neg c]
    exact ⟨ha.tok, ha.need, ha.issuer, ha.asset, ha.i, ha.a, ha.s, by have := ha.len; omega, ha.bd, by have := ha.s0; dsimp only; omega⟩
/-- What is kept comes from what there was. -/
def From (h : List HI) (out : List HI) : Prop := ∀ y ∈ out, ∃ x ∈ h, ∃ q, 0 ≤ q ∧ q ≤ x.Lot.Qty ∧ y = setQ x q
theorem keep_from {h out : List HI} {t : limit_Table} {x : HI} (hx : x ∈ h) (ix : It x) (ht : Tok t) (hf : From h out) : From h (keepF (t, out) x).2 ∧ (keepF (t, out) x).2.length ≤ out.length + 1 := by
  obtain ⟨k1, k2, k3, k4⟩ := kq_bd ht ix
  unfold keepF
  split
  · refine ⟨fun y hy => ?_, by simp⟩
    rcases List.mem_append.1 hy with hy | hy
    · exact hf y hy
    · exact ⟨x, hx, _, k1, k2, List.mem_singleton.1 hy⟩
  · exact ⟨hf, by simp⟩
theorem keptR_al {h : List HI} : ∀ (L : List HI) (t : limit_Table) (out : List HI) (r : lombardref16_Table) (m : Nat), (∀ x ∈ L, x ∈ h ∧ It x) → From h out → Al r t m → m + L.length ≤ 500 → ∃ m', Al (keptR (t, out) r L) (keptF (t, out) L).1 m' ∧ m' ≤ m + L.length ∧ (keptF (t, out) L).2.length ≤ out.length + L.length ∧ From h (keptF (t, out) L).2
  | [], t, out, r, m, hi, hf, ha, hm => ⟨m, ha, by simp, by simp [keptF], by simpa [keptF] using hf⟩
  | x :: L, t, out, r, m, hi, hf, ha, hm => by
    simp only [List.length_cons] at hm
    simp only [keptF, keptR]
    have hx := hi x (List.mem_cons_self ..)
    obtain ⟨f1, f2⟩ := keep_from hx.1 hx.2 ha.tok hf
    obtain ⟨m', a, b, d, e⟩ := keptR_al L _ _ _ (m + 1) (fun y hy => hi y (List.mem_cons_of_mem _ hy)) f1 (keep_al ha (by omega) hx.2) (by omega)
    have d : (keptF (keepF (t, out) x) L).2.length ≤ (keepF (t, out) x).2.length + L.length := d
    exact ⟨m', a, by simp only [List.length_cons]; omega, by simp only [List.length_cons]; omega, e⟩
theorem kept_l {L : List HI} {Q : (List haircut_Item) × Int × Int × Int × Int × (GM Int Int) × (GM ByteArray Int) → Prop} (hl : L.length ≤ 100) : ∀ (n i : Nat) (t : limit_Table) (out : List HI) (r : lombardref16_Table) (m : Nat), n + i = L.length → (∀ x ∈ L.drop i, It x) → Al r t m → m + n ≤ 500 → out.length + n ≤ 500 →
    Q ((keptF (t, out) (L.drop i)).2, (keptF (t, out) (L.drop i)).1.need, (keptF (t, out) (L.drop i)).1.issuer, (keptF (t, out) (L.drop i)).1.asset, (keptF (t, out) (L.drop i)).1.sum, (keptF (t, out) (L.drop i)).1.issuers, (keptF (t, out) (L.drop i)).1.assets) →
    alloc_kept_L0b L Q (i : Int) out t.need t.issuer t.asset t.sum t.issuers t.assets := by
  intro n
  induction n with
  | zero =>
    intro i t out r m h hi ha hm ho q
    refine alloc_kept_l0b ?_
    unfold alloc_kept_w0b
    rw [lenM_eq]
    rw [List.drop_of_length_le (by omega)] at q
    exact Br.neg (by omega) (Lf.i q)
  | succ n ih =>
    intro i t out r m h hi ha hm ho q
    have hs : i < L.length := by omega
    refine alloc_kept_l0b ?_
    unfold alloc_kept_w0b
    rw [lenM_eq]
    rw [List.drop_eq_getElem_cons hs] at q hi
    have g : L[(i : Int).toNat]? = some L[i] := by simp [hs]
    simp only [keptF] at q
    have ix := hi L[i] (List.mem_cons_self ..)
    obtain ⟨k1, k2, k3, k4⟩ := kq_bd ha.tok ix
    have fl : (keepF (t, out) L[i]).2.length ≤ out.length + 1 := by unfold keepF; split <;> simp
    have nx : Num .i64 ((i : Int) + 1) (alloc_kept_L0b L Q ((i : Int) + 1) (keepF (t, out) L[i]).2 (keepF (t, out) L[i]).1.need (keepF (t, out) L[i]).1.issuer (keepF (t, out) L[i]).1.asset (keepF (t, out) L[i]).1.sum (keepF (t, out) L[i]).1.issuers (keepF (t, out) L[i]).1.assets) :=
      Num.n (by omega) (ih (i + 1) _ _ _ (m + 1) (by omega) (fun x hx => hi x (List.mem_cons_of_mem _ hx)) (keep_al ha (by omega) ix) (by omega) (by omega) q)
    unfold keepF at nx
    dsimp only at nx
    refine Br.pos (by omega) ⟨L[i], Got.i ⟨_, HCover_r _, _, TRoom_r ha.tok, Br.i (fun c => ⟨_, TRoom_r ha.tok, _, Most_r, _, HCover_r (setQ L[i] (mostS (room t L[i].Asset) L[i].Price L[i].Cut L[i].Lot.Qty)), ?_⟩) (fun c => ⟨_, HCover_r (setQ L[i] L[i].Lot.Qty), ?_⟩)⟩ (by omega) g⟩
    · have e : kqF t L[i] = mostS (room t L[i].Asset) L[i].Price L[i].Cut L[i].Lot.Qty := by unfold kqF; rw [if_pos c]
      rw [e] at nx k3 k4
      refine Br.i (fun c2 => ?_) (fun c2 => ?_)
      · rw [if_pos c2] at nx
        exact ⟨_, TAdd_ok ha.tok k3 k4, Br.pos rfl (App2.i (app96 (by simp; omega)) nx)⟩
      · rw [if_neg c2] at nx; exact nx
    · have e : kqF t L[i] = L[i].Lot.Qty := by unfold kqF; rw [if_neg c]
      rw [e] at nx k3 k4
      refine Br.i (fun c2 => ?_) (fun c2 => ?_)
      · rw [if_pos c2] at nx
        exact ⟨_, TAdd_ok ha.tok k3 k4, Br.pos rfl (App2.i (app96 (by simp; omega)) nx)⟩
      · rw [if_neg c2] at nx; exact nx
theorem Put_r {r : lombardref16_Table} {t : limit_Table} {out : List HI} {x : HI} {m : Nat} (ha : Al r t m) (hm : m ≤ 400) (ho : out.length ≤ 500) (ix : It x) :
    lombardref18_put_r r (out.map toR) (toR x) (kqF t x) (keepR t r x, (keepF (t, out) x).2.map toR) := by
  obtain ⟨k1, k2, k3, k4⟩ := kq_bd ha.tok ix
  have nC := RHCovers_r (setQ x (kqF t x))
  refine lombardref18_put_of ?_
  unfold lombardref18_put_w keepR keepF
  dsimp only
  refine ⟨_, nC, Br.i (fun c => Rt.i ?_) (fun c => ⟨_, nC, _, RAdd_r ha (by omega) k3 k4, ApZ.i (app96 (by simp; omega)) (App2.i (app96 (by simp; omega)) (Rt.i ?_))⟩)⟩
  · rw [if_neg (by omega), if_neg (by omega)]
  · rw [if_pos (by omega), if_pos (by omega)]
    rw [List.map_append]; rfl
theorem rkept_l {L : List HI} {Q : (List lombardref15_Item) × Int × Int × Int × (List lombardref16_Part) → Prop} (hl : L.length ≤ 100) : ∀ (n i : Nat) (t : limit_Table) (out : List HI) (r : lombardref16_Table) (m : Nat), n + i = L.length → (∀ x ∈ L.drop i, It x) → Al r t m → m + n ≤ 300 → out.length + n ≤ 300 →
    Q ((keptF (t, out) (L.drop i)).2.map toR, (keptR (t, out) r (L.drop i)).Need, (keptR (t, out) r (L.drop i)).Issuer, (keptR (t, out) r (L.drop i)).Asset, (keptR (t, out) r (L.drop i)).L) →
    lombardref18_Kept_L0 (L.map toR) Q (out.map toR) (i : Int) r.Need r.Issuer r.Asset r.L := by
  intro n
  induction n with
  | zero =>
    intro i t out r m h hi ha hm ho q
    refine lombardref18_Kept_l0 ?_
    unfold lombardref18_Kept_w0
    rw [lenM_eq, List.length_map]
    rw [List.drop_of_length_le (by omega)] at q
    exact Br.neg (by omega) (Lf.i q)
  | succ n ih =>
    intro i t out r m h hi ha hm ho q
    have hs : i < L.length := by omega
    refine lombardref18_Kept_l0 ?_
    unfold lombardref18_Kept_w0
    rw [lenM_eq, List.length_map]
    rw [List.drop_eq_getElem_cons hs] at q hi
    have g : (L.map toR)[(i : Int).toNat]? = some (toR L[i]) := by simp [hs]
    simp only [keptF, keptR] at q
    have ix := hi L[i] (List.mem_cons_self ..)
    have hroom := room_le (a := L[i].Asset) ha.tok
    have fl : (keepF (t, out) L[i]).2.length ≤ out.length + 1 := by unfold keepF; split <;> simp
    have rR := RRoom_r (a := L[i].Asset) ha (by omega)
    have P := Put_r (out := out) ha (by omega) (by omega) ix
    have nx : Num .i64 ((i : Int) + 1) (lombardref18_Kept_L0 (L.map toR) Q ((keepF (t, out) L[i]).2.map toR) ((i : Int) + 1) (keepR t r L[i]).Need (keepR t r L[i]).Issuer (keepR t r L[i]).Asset (keepR t r L[i]).L) :=
      Num.n (by omega) (ih (i + 1) _ _ _ (m + 1) (by omega) (fun x hx => hi x (List.mem_cons_of_mem _ hx)) (keep_al ha (by omega) ix) (by omega) (by omega) q)
    refine Br.pos (by omega) ⟨toR L[i], Got.i ⟨_, RHCovers_r L[i], _, rR, Br.i (fun c => ⟨_, rR, _, RMost_r (by omega), ?_⟩) (fun c => ?_)⟩ (by omega) g⟩
    · have e : kqF t L[i] = mostS (room t L[i].Asset) L[i].Price L[i].Cut L[i].Lot.Qty := by unfold kqF; rw [if_pos c]
      rw [e] at P
      exact ⟨_, P, nx⟩
    · have e : kqF t L[i] = L[i].Lot.Qty := by unfold kqF; rw [if_neg c]
      rw [e] at P
      exact ⟨_, P, nx⟩
theorem RKept_r {l : List RI} {t : limit_Table} {r : lombardref16_Table} {m : Nat} (hl : l.length ≤ 64) (hi : ∀ x ∈ isort leE (l.map toH), It x) (ha : Al r t m) (hm : m ≤ 100) :
    lombardref18_Kept_r r l (keptR (t, []) r (isort leE (l.map toH)), (keptF (t, []) (isort leE (l.map toH))).2.map toR) := by
  have e : (isort leE (l.map toH)).length = l.length := by rw [isort_len']; simp
  refine lombardref18_Kept_of ?_
  unfold lombardref18_Kept_w
  exact ⟨_, RRank_r (by omega), rkept_l (by omega) (isort leE (l.map toH)).length 0 t [] r m (by omega) (by simpa using hi) ha (by omega) (by simp; omega) (Rt.i (by rw [List.drop_zero]))⟩
theorem Kept_r1 {b : api_Basket} {l : List RI} {need : Int} (h : newOk b need) (hw : wrongS l = 0) : alloc_kept_r1 b (l.map toH) need (⟨(keptF (newT b need, []) (isort leE (l.map toH))).1, (keptF (newT b need, []) (isort leE (l.map toH))).2⟩, 0) := by
  obtain ⟨f1, f2⟩ := Fi_new hw
  have e : (isort leE (l.map toH)).length = l.length := by rw [isort_len']; simp
  refine alloc_kept_of1 ?_
  unfold alloc_kept_w
  refine .inr ⟨_, New_r1 h, Br.neg (fun k => k rfl) ⟨_, Check_r, Br.neg (fun k => k hw) ⟨_, Rank_r (by simp; omega), kept_l (by omega) (isort leE (l.map toH)).length 0 (newT b need) [] _ 0 (by omega) (by simpa using f1.it) (Al_new h) (by omega) (by simp; omega) (Rt.i (by rw [List.drop_zero]))⟩⟩⟩
theorem Kept_r0 {b : api_Basket} {l : List RI} {need : Int} {v : Int} (hv : (¬ newOk b need ∧ v = 1) ∨ (newOk b need ∧ wrongS l ≠ 0 ∧ v = wrongS l)) : alloc_kept_r0 b (l.map toH) need v := by
  refine alloc_kept_of0 ?_
  unfold alloc_kept_w
  rcases hv with ⟨h, rfl⟩ | ⟨h, h2, rfl⟩
  · exact .inl ⟨_, New_r0 h, Br.pos (by decide) (Rt.i rfl)⟩
  · exact .inr ⟨_, New_r1 h, Br.neg (fun k => k rfl) ⟨_, Check_r, Br.pos h2 (Rt.i rfl)⟩⟩

/-! Do two lists agree? -/
theorem asset_eq {a b : api_Asset} : (a.ISIN = b.ISIN ∧ a.Issuer = b.Issuer ∧ a.Rating = b.Rating ∧ a.Maturity = b.Maturity ∧ a.Currency = b.Currency ∧ True) ↔ a = b := by
  constructor
  · rintro ⟨h1, h2, h3, h4, h5, _⟩
    cases a; cases b; simp_all
  · rintro rfl; simp
instance (a b : api_Asset) : Decidable (a = b) := decidable_of_iff _ asset_eq
def chk (x y : HI) : Int := if x.Asset = y.Asset then if x.Price = y.Price then if x.Cut = y.Cut then if 1125899906842624 - y.Lot.Qty < x.Lot.Qty then 9 else 0 else 7 else 7 else 7
def ag1 (x : HI) : List HI → Int
  | [] => 0
  | y :: l => if x.Lot.ISIN = y.Lot.ISIN then (if chk x y = 0 then ag1 x l else chk x y) else ag1 x l
def agreeS (h : List HI) : List HI → Int
  | [] => 0
  | x :: l => if ag1 x h = 0 then agreeS h l else ag1 x h
theorem agree_l1 {h f : List HI} {x : HI} {s : Int} (hl : h.length ≤ 100) (hi : ∀ y ∈ h, It y) {Q0 : Int → Prop} {Q1 : Unit → Prop} : ∀ (n k : Nat), n + k = h.length → (ag1 x (h.drop k) ≠ 0 → Q0 (ag1 x (h.drop k))) → (ag1 x (h.drop k) = 0 → Q1 ()) → alloc_agree_L1 h f s x Q0 Q1 (k : Int) := by
  intro n
  induction n with
  | zero =>
    intro k h1 q0 q1
    refine alloc_agree_l1 ?_
    unfold alloc_agree_w1
    rw [lenM_eq]
    rw [List.drop_of_length_le (by omega)] at q1
    exact Br.neg (by omega) (Lf.i (q1 rfl))
  | succ n ih =>
    intro k h1 q0 q1
    have hs : k < h.length := by omega
    refine alloc_agree_l1 ?_
    unfold alloc_agree_w1
    rw [lenM_eq]
    rw [List.drop_eq_getElem_cons hs] at q0 q1
    have g : h[(k : Int).toNat]? = some h[k] := by simp [hs]
    have iy := hi h[k] (List.getElem_mem hs)
    have p1 := iy.pos; have p2 := iy.top
    simp only [ag1] at q0 q1
    refine Br.pos (by omega) ⟨h[k], Got.i (Br.i (fun c => Num.n (by omega) ?_) (fun c => ?_)) (by omega) g⟩
    · rw [if_neg c] at q0 q1
      exact ih (k + 1) (by omega) q0 q1
    · have c := Decidable.not_not.1 c
      rw [if_pos c] at q0 q1
      unfold chk at q0 q1
      refine Br.i (fun c1 => Lf.i ?_) (fun c1 => ?_)
      · rw [if_neg (fun e => c1 (asset_eq.2 e))] at q0; rw [if_neg (show ¬ (7 : Int) = 0 by decide)] at q0; exact q0 (by decide)
      · have c1 := asset_eq.1 (Decidable.not_not.1 c1)
        rw [if_pos c1] at q0 q1
        refine Br.i (fun c2 => Lf.i ?_) (fun c2 => ?_)
        · rw [if_neg c2] at q0; rw [if_neg (show ¬ (7 : Int) = 0 by decide)] at q0; exact q0 (by decide)
        · have c2 := Decidable.not_not.1 c2
          rw [if_pos c2] at q0 q1
          refine Br.i (fun c3 => Lf.i ?_) (fun c3 => Num.n (by omega) ?_)
          · rw [if_neg c3] at q0; rw [if_neg (show ¬ (7 : Int) = 0 by decide)] at q0; exact q0 (by decide)
          · have c3 := Decidable.not_not.1 c3
            rw [if_pos c3] at q0 q1
            refine Br.i (fun c4 => Lf.i ?_) (fun c4 => Num.n (by omega) ?_)
            · rw [if_pos c4] at q0; rw [if_neg (show ¬ (9 : Int) = 0 by decide)] at q0; exact q0 (by decide)
            · rw [if_neg c4, if_pos rfl] at q0 q1
              exact ih (k + 1) (by omega) q0 q1
theorem agree_l {h f : List HI} (hl : h.length ≤ 100) (fl : f.length ≤ 100) (hi : ∀ y ∈ h, It y) {Q0 : Int → Prop} {Q1 : Unit → Prop} : ∀ (n k : Nat), n + k = f.length → (agreeS h (f.drop k) ≠ 0 → Q0 (agreeS h (f.drop k))) → (agreeS h (f.drop k) = 0 → Q1 ()) → alloc_agree_L0 h f Q0 Q1 (k : Int) := by
  intro n
  induction n with
  | zero =>
    intro k h1 q0 q1
    refine alloc_agree_l0 ?_
    unfold alloc_agree_w0
    rw [lenM_eq]
    rw [List.drop_of_length_le (by omega)] at q1
    exact Br.neg (by omega) (Lf.i (q1 rfl))
  | succ n ih =>
    intro k h1 q0 q1
    have hs : k < f.length := by omega
    refine alloc_agree_l0 ?_
    unfold alloc_agree_w0
    rw [lenM_eq]
    rw [List.drop_eq_getElem_cons hs] at q0 q1
    have g : f[(k : Int).toNat]? = some f[k] := by simp [hs]
    simp only [agreeS] at q0 q1
    refine Br.pos (by omega) ⟨f[k], Got.i (agree_l1 hl hi h.length 0 (by omega) (fun c => Lf.i ?_) (fun c => Num.n (by omega) ?_)) (by omega) g⟩
    · rw [List.drop_zero] at c ⊢
      rw [if_neg c] at q0; exact q0 c
    · rw [List.drop_zero] at c
      rw [if_pos c] at q0 q1
      exact ih (k + 1) (by omega) q0 q1
theorem Agree_r {h f : List HI} (hl : h.length ≤ 100) (fl : f.length ≤ 100) (hi : ∀ y ∈ h, It y) : alloc_agree_r h f (agreeS h f) := by
  refine alloc_agree_of ?_
  unfold alloc_agree_w
  exact agree_l hl fl hi f.length 0 (by omega) (fun c => Rt.i rfl) (fun c => Rt.i c.symm)
theorem ag1_none {x : HI} : ∀ {h : List HI}, (∀ y ∈ h, y.Lot.ISIN ≠ x.Lot.ISIN) → ag1 x h = 0
  | [], _ => rfl
  | y :: h, hh => by
    simp only [ag1]
    rw [if_neg (fun e => hh y (by simp) e.symm)]
    exact ag1_none fun z hz => hh z (by simp [hz])
/-- In a list whose securities are apart there is one alike at most. -/
theorem ag1_at {x : HI} {h : List HI} (ha : h.Pairwise (fun a b => a.Lot.ISIN ≠ b.Lot.ISIN)) : (atH x.Lot.ISIN h = -1 ∧ ag1 x h = 0) ∨ (∃ A y B, h = A ++ y :: B ∧ y.Lot.ISIN = x.Lot.ISIN ∧ atH x.Lot.ISIN h = (A.length : Nat) ∧ ag1 x h = chk x y) := by
  rcases atH_or x.Lot.ISIN h with ⟨h1, h2⟩ | ⟨A, y, B, h1, h2, h3⟩
  · exact .inl ⟨h1, ag1_none h2⟩
  · refine .inr ⟨A, y, B, h1, h2, h3, ?_⟩
    have hB : ∀ z ∈ B, z.Lot.ISIN ≠ x.Lot.ISIN := fun z hz e => by
      rw [h1] at ha
      have := (List.pairwise_cons.1 (List.pairwise_append.1 ha).2.1).1 z hz
      exact this (by rw [h2, e])
    have hA : ∀ z ∈ A, z.Lot.ISIN ≠ x.Lot.ISIN := fun z hz e => by
      rw [h1] at ha
      exact (List.pairwise_append.1 ha).2.2 z hz y (by simp) (by rw [e, h2])
    have go : ∀ A : List HI, (∀ z ∈ A, z.Lot.ISIN ≠ x.Lot.ISIN) → ag1 x (A ++ y :: B) = chk x y := by
      intro A
      induction A with
      | nil =>
        intro _
        simp only [List.nil_append, ag1]
        rw [if_pos h2.symm]
        by_cases c : chk x y = 0
        · rw [if_pos c, ag1_none hB, c]
        · rw [if_neg c]
      | cons z A ih =>
        intro hz
        simp only [List.cons_append, ag1]
        rw [if_neg (fun e => hz z (by simp) e.symm)]
        exact ih fun w hw => hz w (by simp [hw])
    rw [h1]; exact go A hA
theorem ragree_l {h f : List HI} (hl : h.length ≤ 100) (fl : f.length ≤ 100) (hi : ∀ y ∈ h, It y) (fi : ∀ y ∈ f, It y) (ha : h.Pairwise (fun a b => a.Lot.ISIN ≠ b.Lot.ISIN)) {Q0 : Int → Prop} {Q1 : Unit → Prop} : ∀ (n k : Nat), n + k = f.length → (agreeS h (f.drop k) ≠ 0 → Q0 (agreeS h (f.drop k))) → (agreeS h (f.drop k) = 0 → Q1 ()) → lombardref18_Agree_L0 (h.map toR) (f.map toR) Q0 Q1 (k : Int) := by
  intro n
  induction n with
  | zero =>
    intro k h1 q0 q1
    refine lombardref18_Agree_l0 ?_
    unfold lombardref18_Agree_w0
    rw [lenM_eq, List.length_map]
    rw [List.drop_of_length_le (by omega)] at q1
    exact Br.neg (by omega) (Lf.i (q1 rfl))
  | succ n ih =>
    intro k h1 q0 q1
    have hs : k < f.length := by omega
    refine lombardref18_Agree_l0 ?_
    unfold lombardref18_Agree_w0
    rw [lenM_eq, List.length_map]
    rw [List.drop_eq_getElem_cons hs] at q0 q1
    have g : (f.map toR)[(k : Int).toNat]? = some (toR f[k]) := by simp [hs]
    have z : (0 : Int) ≤ (k : Int) := by omega
    have fx := fi f[k] (List.getElem_mem hs)
    have f1 := fx.pos; have f2 := fx.top
    simp only [agreeS] at q0 q1
    refine Br.pos (by omega) ⟨toR f[k], Got.i ⟨_, RAt_r (by omega), ?_⟩ z g⟩
    rcases ag1_at (x := f[k]) ha with ⟨a1, a2⟩ | ⟨A, y, B, a0, a1, a2, a3⟩
    · rw [if_pos a2] at q0 q1
      exact Br.pos (by show atH f[k].Lot.ISIN h < 0; omega) (Num.n (by omega) (ih (k + 1) (by omega) q0 q1))
    · have iy := hi y (by rw [a0]; simp)
      have p1 := iy.pos; have p2 := iy.top
      have zy : 0 ≤ atH f[k].Lot.ISIN h := by omega
      have gy : (h.map toR)[(atH f[k].Lot.ISIN h).toNat]? = some (toR y) := by
        rw [a2, Int.toNat_natCast, List.getElem?_map]
        have : (A ++ y :: B)[A.length]? = some y := by simp
        rw [← a0] at this; rw [this]; rfl
      rw [a3] at q0 q1
      unfold chk at q0 q1
      refine Br.neg (by show ¬ atH f[k].Lot.ISIN h < 0; omega) (Got.i ⟨toR y, Got.i (Br.i (fun c1 => Lf.i ?_) (fun c1 => ?_)) zy gy⟩ z g)
      · have c1 : ¬ f[k].Asset = y.Asset := fun e => c1 (asset_eq.2 e)
        rw [if_neg c1] at q0; rw [if_neg (show ¬ (7 : Int) = 0 by decide)] at q0; exact q0 (by decide)
      · have c1 : f[k].Asset = y.Asset := asset_eq.1 (Decidable.not_not.1 c1)
        rw [if_pos c1] at q0 q1
        refine Got.i (Got.i (Br.i (fun c2 => Lf.i ?_) (fun c2 => ?_)) zy gy) z g
        · have c2 : ¬ f[k].Price = y.Price := c2
          rw [if_neg c2] at q0; rw [if_neg (show ¬ (7 : Int) = 0 by decide)] at q0; exact q0 (by decide)
        · have c2 : f[k].Price = y.Price := Decidable.not_not.1 c2
          rw [if_pos c2] at q0 q1
          refine Got.i (Got.i (Br.i (fun c3 => Lf.i ?_) (fun c3 => ?_)) zy gy) z g
          · have c3 : ¬ f[k].Cut = y.Cut := c3
            rw [if_neg c3] at q0; rw [if_neg (show ¬ (7 : Int) = 0 by decide)] at q0; exact q0 (by decide)
          · have c3 : f[k].Cut = y.Cut := Decidable.not_not.1 c3
            rw [if_pos c3] at q0 q1
            have hb : -9223372036854775808 ≤ f[k].Lot.Qty + y.Lot.Qty ∧ f[k].Lot.Qty + y.Lot.Qty ≤ 9223372036854775807 := by omega
            refine Got.i (Got.i (Num.n hb (Br.i (fun c4 => Lf.i ?_) (fun c4 => Num.n (by omega) ?_))) zy gy) z g
            · have c4 : f[k].Lot.Qty + y.Lot.Qty > 1125899906842624 := c4
              rw [if_pos (show 1125899906842624 - y.Lot.Qty < f[k].Lot.Qty by omega)] at q0; rw [if_neg (show ¬ (9 : Int) = 0 by decide)] at q0; exact q0 (by decide)
            · have c4 : ¬ f[k].Lot.Qty + y.Lot.Qty > 1125899906842624 := c4
              rw [if_neg (show ¬ 1125899906842624 - y.Lot.Qty < f[k].Lot.Qty by omega), if_pos rfl] at q0 q1
              exact ih (k + 1) (by omega) q0 q1
theorem RAgree_r {h f : List HI} (hl : h.length ≤ 100) (fl : f.length ≤ 100) (hi : ∀ y ∈ h, It y) (fi : ∀ y ∈ f, It y) (ha : h.Pairwise (fun a b => a.Lot.ISIN ≠ b.Lot.ISIN)) : lombardref18_Agree_r (h.map toR) (f.map toR) (agreeS h f) := by
  refine lombardref18_Agree_of ?_
  unfold lombardref18_Agree_w
  exact ragree_l hl fl hi fi ha f.length 0 (by omega) (fun c => Rt.i rfl) (fun c => Rt.i c.symm)
theorem chk_ok {x y : HI} (h : chk x y = 0) : y.Asset = x.Asset ∧ y.Price = x.Price ∧ y.Cut = x.Cut ∧ y.Lot.Qty + x.Lot.Qty ≤ 1125899906842624 := by
  unfold chk at h
  split at h
  · rename_i h1
    split at h
    · rename_i h2
      split at h
      · rename_i h3
        split at h
        · cases h
        · exact ⟨h1.symm, h2.symm, h3.symm, by omega⟩
      · cases h
    · cases h
  · cases h
theorem agree_ok {h : List HI} (ha : h.Pairwise (fun a b => a.Lot.ISIN ≠ b.Lot.ISIN)) : ∀ (f : List HI), agreeS h f = 0 → ∀ x ∈ f, ∀ y ∈ h, y.Lot.ISIN = x.Lot.ISIN → chk x y = 0
  | [], _, x, hx, _, _, _ => by cases hx
  | z :: f, hz, x, hx, y, hy, he => by
    simp only [agreeS] at hz
    split at hz
    · rename_i c
      rcases List.mem_cons.1 hx with rfl | hx
      · rcases ag1_at (x := x) ha with ⟨a1, _⟩ | ⟨A, y', B, a0, a1, _, a3⟩
        · rcases atH_or x.Lot.ISIN h with ⟨_, h2⟩ | ⟨A, y', B, _, _, h3⟩
          · exact absurd he (h2 y hy)
          · omega
        · have : y = y' := by
            rw [a0] at hy ha
            obtain ⟨p1, p2, p3⟩ := List.pairwise_append.1 ha
            rcases List.mem_append.1 hy with hy | hy
            · exact absurd (by rw [he, a1]) (p3 y hy y' (by simp))
            · rcases List.mem_cons.1 hy with rfl | hy
              · rfl
              · exact absurd (by rw [he, a1]) ((List.pairwise_cons.1 p2).1 y hy)
          rw [this, ← a3]; exact c
      · exact agree_ok ha f hz x hx y hy he
    · rename_i c; exact absurd hz c

/-! Keep and Top. -/
def topS (b : api_Basket) (have_ free : List RI) (need : Int) : alloc_Plan × Int :=
  if ¬ newOk b need then (⟨[], 0, 0⟩, 1) else if wrongS have_ ≠ 0 then (⟨[], 0, 0⟩, wrongS have_) else if wrongS free ≠ 0 then (⟨[], 0, 0⟩, wrongS free) else if agreeS (have_.map toH) (free.map toH) ≠ 0 then (⟨[], 0, 0⟩, agreeS (have_.map toH) (free.map toH))
  else planS (fillF (keptF (newT b need, []) (isort leE (have_.map toH))) (isort leE (free.map toH))).1 (fillF (keptF (newT b need, []) (isort leE (have_.map toH))) (isort leE (free.map toH))).2
theorem wrong_map {l : List RI} (h : wrongS l = 0) : (∀ x ∈ l.map toH, It x) ∧ (l.map toH).Pairwise (fun x y => x.Lot.ISIN ≠ y.Lot.ISIN) := by
  obtain ⟨f1, f2⟩ := Fi_new h
  refine ⟨fun x hx => f1.it x ((isort_perm _).mem_iff.2 hx), ?_⟩
  exact ((isort_perm (l.map toH)).pairwise_iff (fun h e => h.symm e)).1 f1.apart
theorem top_fi {b : api_Basket} {hv fr : List RI} {need : Int} (h : newOk b need) (h1 : wrongS hv = 0) (h2 : wrongS fr = 0) (h3 : agreeS (hv.map toH) (fr.map toH) = 0) :
    ∃ m', Al (keptR (newT b need, []) (newR b need) (isort leE (hv.map toH))) (keptF (newT b need, []) (isort leE (hv.map toH))).1 m' ∧ m' ≤ 64 ∧ (keptF (newT b need, []) (isort leE (hv.map toH))).2.length ≤ 64 ∧ Fi (keptF (newT b need, []) (isort leE (hv.map toH))).2 (isort leE (fr.map toH)) := by
  obtain ⟨f1, f2⟩ := Fi_new h1
  obtain ⟨g1, g2⟩ := Fi_new h2
  obtain ⟨w1, w2⟩ := wrong_map h1
  obtain ⟨v1, v2⟩ := wrong_map h2
  obtain ⟨m', a, c, d, e⟩ := keptR_al (h := hv.map toH) (isort leE (hv.map toH)) _ [] _ 0 (fun x hx => ⟨(isort_perm _).mem_iff.1 hx, f1.it x hx⟩) (fun y hy => by cases hy) (Al_new h) (by rw [isort_len']; simp; omega)
  rw [isort_len', List.length_map] at c d
  simp only [List.length_nil] at d
  refine ⟨m', a, by omega, by omega, g1.it, g1.apart, fun y hy => ?_, fun x hx y hy he => ?_⟩
  · obtain ⟨x, hx, q, q0, q1, rfl⟩ := e y hy
    have ix := w1 x hx
    have := ix.top
    exact ⟨ix.good, q0, by show q ≤ _; omega⟩
  · obtain ⟨z, hz, q, q0, q1, rfl⟩ := e y hy
    have hx' := (isort_perm _).mem_iff.1 hx
    have ck := chk_ok (agree_ok w2 _ h3 x hx' z hz he)
    exact ⟨ck.1, ck.2.1, ck.2.2.1, by show q + x.Lot.Qty ≤ _; omega⟩
theorem Top_r {b : api_Basket} {hv fr : List RI} {need : Int} : alloc_Top_r b (hv.map toH) (fr.map toH) need (topS b hv fr need) := by
  refine alloc_Top_of ?_
  unfold alloc_Top_w topS
  by_cases h : newOk b need
  · rw [if_neg (fun k => k h)]
    by_cases h1 : wrongS hv = 0
    · rw [if_neg (fun k => k h1)]
      obtain ⟨w1, w2⟩ := wrong_map h1
      obtain ⟨f1, f2⟩ := Fi_new h1
      refine .inr ⟨_, Kept_r1 h h1, Br.neg (fun k => k rfl) ⟨_, Check_r, Br.i (fun c => Rt.i (by rw [if_pos c])) (fun c => ?_)⟩⟩
      have c := Decidable.not_not.1 c
      obtain ⟨g1, g2⟩ := Fi_new c
      rw [if_neg (fun k => k c)]
      refine ⟨_, Agree_r (by simp; omega) (by simp; omega) w1, Br.i (fun c2 => Rt.i (by rw [if_pos c2])) (fun c2 => ?_)⟩
      have c2 := Decidable.not_not.1 c2
      rw [if_neg (fun k => k c2)]
      obtain ⟨m', a, m1, ol, fi⟩ := top_fi h h1 c c2
      obtain ⟨m2, a1, a2, a3, a4⟩ := fillR_al _ _ _ _ m' fi a (by rw [isort_len']; simp; omega)
      rw [isort_len', List.length_map] at a3
      refine ⟨_, FFill_r g2 fi a (by omega) (by omega), _, Plan_r a1.tok ?_, Rt.i rfl⟩
      omega
    · rw [if_pos h1]
      exact .inl ⟨_, Kept_r0 (.inr ⟨h, h1, rfl⟩), Br.pos h1 (Rt.i rfl)⟩
  · rw [if_pos h]
    exact .inl ⟨_, Kept_r0 (.inl ⟨h, rfl⟩), Br.pos (by decide) (Rt.i rfl)⟩
theorem Keep_r {b : api_Basket} {hv : List RI} {need : Int} : alloc_Keep_r b (hv.map toH) need (topS b hv [] need) := by
  refine alloc_Keep_of ?_
  unfold alloc_Keep_w
  have w0 : wrongS [] = 0 := rfl
  by_cases h : newOk b need
  · by_cases h1 : wrongS hv = 0
    · obtain ⟨m', a, m1, ol, fi⟩ := top_fi (fr := []) h h1 w0 rfl
      refine .inr ⟨_, Kept_r1 h h1, Br.neg (fun k => k rfl) ⟨_, Plan_r a.tok (by omega), Rt.i ?_⟩⟩
      unfold topS
      rw [if_neg (fun k => k h), if_neg (fun k => k h1), if_neg (fun k => k w0), if_neg (fun k => k rfl)]
      rfl
    · refine .inl ⟨_, Kept_r0 (.inr ⟨h, h1, rfl⟩), Br.pos h1 (Rt.i ?_)⟩
      unfold topS
      rw [if_neg (fun k => k h), if_pos h1]
  · refine .inl ⟨_, Kept_r0 (.inl ⟨h, rfl⟩), Br.pos (by decide) (Rt.i ?_)⟩
    unfold topS
    rw [if_pos h]
theorem RTop_r {b : api_Basket} {hv fr : List RI} {need : Int} : lombardref18_Top_r b hv fr need (toP (topS b hv fr need).1, (topS b hv fr need).2) := by
  refine lombardref18_Top_of ?_
  unfold lombardref18_Top_w topS
  by_cases h : newOk b need
  · rw [if_neg (fun k => k h)]
    refine ⟨_, RNew_r h, Br.neg (fun k => k rfl) ⟨_, Wrong_r, Br.i (fun c => ⟨_, Wrong_r, Rt.i (by rw [if_pos c]; rfl)⟩) (fun h1 => ?_)⟩⟩
    have h1 := Decidable.not_not.1 h1
    rw [if_neg (fun k => k h1)]
    obtain ⟨w1, w2⟩ := wrong_map h1
    obtain ⟨f1, f2⟩ := Fi_new h1
    refine ⟨_, Wrong_r, Br.i (fun c => ⟨_, Wrong_r, Rt.i (by rw [if_pos c]; rfl)⟩) (fun c => ?_)⟩
    have c := Decidable.not_not.1 c
    rw [if_neg (fun k => k c)]
    obtain ⟨v1, v2⟩ := wrong_map c
    obtain ⟨g1, g2⟩ := Fi_new c
    have A := RAgree_r (h := hv.map toH) (f := fr.map toH) (by simp; omega) (by simp; omega) w1 v1 w2
    rw [toR_toH, toR_toH] at A
    refine ⟨_, A, Br.i (fun c2 => ⟨_, A, Rt.i (by rw [if_pos c2]; rfl)⟩) (fun c2 => ?_)⟩
    have c2 := Decidable.not_not.1 c2
    rw [if_neg (fun k => k c2)]
    obtain ⟨m', a, m1, ol, fi⟩ := top_fi h h1 c c2
    obtain ⟨m2, a1, a2, a3, a4⟩ := fillR_al _ _ _ _ m' fi a (by rw [isort_len']; simp; omega)
    rw [isort_len', List.length_map] at a3
    refine ⟨_, RKept_r f2 f1.it (Al_new h) (by omega), _, RFilled_r g2 fi a (by omega) (by omega), _, RPlan_r a1 (by omega) ?_, Rt.i rfl⟩
    omega
  · rw [if_pos h]
    exact ⟨_, RNew_r0 h, Br.pos (by decide) (Rt.i rfl)⟩
theorem topS_len (b : api_Basket) (hv fr : List RI) (need : Int) : (topS b hv fr need).1.Lots.length ≤ 1000 := by
  unfold topS
  split
  · simp
  · rename_i h
    have h := Decidable.not_not.1 h
    split
    · simp
    · rename_i h1
      have h1 := Decidable.not_not.1 h1
      split
      · simp
      · rename_i c
        have c := Decidable.not_not.1 c
        split
        · simp
        · rename_i c2
          have c2 := Decidable.not_not.1 c2
          obtain ⟨g1, g2⟩ := Fi_new c
          obtain ⟨m', a, m1, ol, fi⟩ := top_fi h h1 c c2
          obtain ⟨m2, a1, a2, a3, a4⟩ := fillR_al _ _ _ _ m' fi a (by rw [isort_len']; simp; omega)
          rw [isort_len', List.length_map] at a3
          have a3 : (fillF (keptF (newT b need, []) (isort leE (hv.map toH))) (isort leE (fr.map toH))).2.length ≤ (keptF (newT b need, []) (isort leE (hv.map toH))).2.length + fr.length := a3
          unfold planS
          split
          · simp
          · have := mergeG_len ((fillF (keptF (newT b need, []) (isort leE (hv.map toH))) (isort leE (fr.map toH))).2.map (·.Lot)) []
            simp only [List.length_map, List.length_nil] at this
            show (mergeG [] _).1.length ≤ 1000
            omega
theorem AllocTops_r (b : api_Basket) (hv fr : List RI) (need : Int) : lombardlaw18_AllocTops_r b hv fr need true := by
  refine lombardlaw18_AllocTops_of ?_
  unfold lombardlaw18_AllocTops_w
  rw [lenM_eq, lenM_eq]
  have l1 := topS_len b hv [] need
  have l2 := topS_len b hv fr need
  refine Br.i (fun _ => ⟨_, awake_r, Rt.i rfl⟩) (fun c => Br.i (fun _ => ⟨_, awake_r, Rt.i rfl⟩) (fun c2 => ⟨_, items_r (by omega), _, Keep_r, _, RTop_r, _, items_r (by omega), _, items_r (by omega), _, Top_r, _, RTop_r, _, Same_r (by omega), Br.t rfl (Br.t (by simp) ⟨_, Same_r (by omega), Br.t rfl (Br.t (by simp) ⟨_, awake_r, Rt.i rfl⟩)⟩)⟩))
end Go.Proofs.YtgncepjnbdhmkaaGreat.Pure
