/- Items: what is wrong with them; in order; what is taken of them. -/
import Derived.Test.YtgncepjnbdhmkaaGreatTLotB
import Derived.Test.YtgncepjnbdhmkaaGreatTRank
import Derived.Test.YtgncepjnbdhmkaaGreatRS
set_option linter.unusedVariables false
set_option linter.unusedSimpArgs false
namespace Go.Proofs.YtgncepjnbdhmkaaGreat.Pure
open Go Go.Ab Go.Stable Go.Proofs.YtgncepjnbdhmkaaGreat.R
set_option linter.unusedVariables false
abbrev RI := lombardref15_Item
abbrev HI := haircut_Item
def toR (x : HI) : RI := ⟨x.Lot, x.Asset, x.Price, x.Cut⟩
theorem toR_toH (l : List RI) : (l.map toH).map toR = l := by rw [List.map_map]; exact List.map_id' l

/-! What is wrong. -/
instance decMem (k : ByteArray) (l : List ByteArray) : Decidable (k ∈ l) := decidable_of_iff ((l.any fun y => decide (y = k)) = true) (by simp)
def wrongL : List ByteArray → List RI → Int
  | _, [] => 0
  | seen, x :: l => if (coverS x.Lot.Qty x.Price x.Cut).2 ≠ 0 ∨ x.Lot.Qty = 0 then 1 else if 1125899906842624 < covC x then 9 else if x.Asset.ISIN ∈ seen ∨ x.Asset.ISIN ≠ x.Lot.ISIN then 7 else wrongL (seen ++ [x.Asset.ISIN]) l
def wrongS (l : List RI) : Int := if 64 < l.length then 2 else wrongL [] l
theorem check_l {l : List RI} {Q0 : Int → Prop} {Q1 : Unit → Prop} (hl : l.length ≤ 64) : ∀ (n i : Nat) (m : GM ByteArray Bool) (seen : List ByteArray), n + i = l.length → (∀ k, m.getD k false = decide (k ∈ seen)) →
    (wrongL seen (l.drop i) ≠ 0 → Q0 (wrongL seen (l.drop i))) → (wrongL seen (l.drop i) = 0 → Q1 ()) → alloc_check_L0 (l.map toH) Q0 Q1 (i : Int) m := by
  intro n
  induction n with
  | zero =>
    intro i m seen h hm q0 q1
    refine alloc_check_l0 ?_
    unfold alloc_check_w0
    rw [lenM_eq, List.length_map]
    rw [List.drop_of_length_le (by omega)] at q1
    exact Br.neg (by omega) (Lf.i (q1 rfl))
  | succ n ih =>
    intro i m seen h hm q0 q1
    have hs : i < l.length := by omega
    refine alloc_check_l0 ?_
    unfold alloc_check_w0
    rw [lenM_eq, List.length_map]
    rw [List.drop_eq_getElem_cons hs] at q0 q1
    have g : (l.map toH)[(i : Int).toNat]? = some (toH l[i]) := by simp [hs]
    simp only [wrongL] at q0 q1
    refine Br.pos (by omega) ⟨toH l[i], Got.i ⟨_, Cover_r, Br.i (fun c => Lf.i ?_) (fun c => Br.i (fun c1 => Lf.i ?_) (fun c1 => ⟨_, ICover_r l[i], Br.i (fun c2 => Lf.i ?_) (fun c2 => ⟨_, _, Look.i ?_⟩)⟩))⟩ (by omega) g⟩
    · rw [if_pos (.inl c)] at q0; exact q0 (by decide)
    · rw [if_pos (.inr c1)] at q0; exact q0 (by decide)
    · rw [if_neg (fun e => e.elim c c1), if_pos (by omega)] at q0; exact q0 (by decide)
    · rw [if_neg (fun e => e.elim c c1), if_neg (by omega)] at q0 q1
      show Br (m.getD l[i].Asset.ISIN false) _ _
      rw [hm]
      refine Br.i (fun c3 => Lf.i ?_) (fun c3 => Br.i (fun c4 => Lf.i ?_) (fun c4 => ⟨_, Put.i (Num.n (by omega) ?_)⟩))
      · rw [if_pos (.inl c3)] at q0; exact q0 (by decide)
      · rw [if_pos (.inr c4)] at q0; exact q0 (by decide)
      · have e : ¬ (l[i].Asset.ISIN ∈ seen ∨ l[i].Asset.ISIN ≠ l[i].Lot.ISIN) := fun e => e.elim c3 c4
        rw [if_neg e] at q0 q1
        refine ih (i + 1) _ (seen ++ [l[i].Asset.ISIN]) (by omega) (fun k => ?_) q0 q1
        rw [getD_put]
        by_cases ek : k = l[i].Asset.ISIN
        · rw [if_pos (show k = (toH l[i]).Asset.ISIN from ek), decide_eq_true (by rw [ek]; simp)]
        · rw [if_neg (show ¬ k = (toH l[i]).Asset.ISIN from ek), hm]
          exact decide_eq_decide.2 (by simp [ek])
theorem Check_r {l : List RI} : alloc_check_r (l.map toH) (wrongS l) := by
  refine alloc_check_of ?_
  unfold alloc_check_w wrongS
  rw [lenM_eq, List.length_map]
  refine Br.i (fun c => Rt.i (by rw [if_pos (by omega)])) (fun c => ?_)
  exact check_l (by omega) l.length 0 GM.nil [] (by omega) (fun k => rfl) (fun h => Rt.i (by rw [if_neg (by omega)]; rfl)) (fun h => Rt.i (by rw [if_neg (by omega)]; exact h.symm))
theorem rwrong_l1 {l : List RI} {i : Nat} (hi : i < l.length) (hl : l.length ≤ 64) {Q0 Q1 : Unit → Prop} : ∀ (n k : Nat), n + k = i → (l[i].Asset.ISIN ∈ ((l.take i).drop k).map (·.Asset.ISIN) → Q0 ()) → (l[i].Asset.ISIN ∉ ((l.take i).drop k).map (·.Asset.ISIN) → Q1 ()) → lombardref18_Wrong_L1 l i Q0 Q1 (k : Int) := by
  intro n
  induction n with
  | zero =>
    intro k h q0 q1
    refine lombardref18_Wrong_l1 ?_
    unfold lombardref18_Wrong_w1
    exact Br.neg (by omega) (Lf.i (q1 (by rw [List.drop_of_length_le (by simp; omega)]; simp)))
  | succ n ih =>
    intro k h q0 q1
    refine lombardref18_Wrong_l1 ?_
    unfold lombardref18_Wrong_w1
    have hk : k < l.length := by omega
    have g : l[(k : Int).toNat]? = some l[k] := by simp [hk]
    have g2 : l[(i : Int).toNat]? = some l[i] := by simp [hi]
    have hk2 : k < (l.take i).length := by simp; omega
    rw [List.drop_eq_getElem_cons hk2, List.map_cons, List.getElem_take] at q0 q1
    refine Br.pos (by omega) ⟨l[k], Got.i ⟨l[i], Got.i (Br.i (fun c => Lf.i (q0 (by rw [c]; simp))) (fun c => Num.n (by omega) (ih (k + 1) (by omega) (fun hm => q0 (List.mem_cons_of_mem _ hm)) (fun hm => q1 ?_)))) (by omega) g2⟩ (by omega) g⟩
    intro hx
    rcases List.mem_cons.1 hx with e | e
    · exact c e.symm
    · exact hm e
theorem rwrong_l {l : List RI} {Q0 : Int → Prop} {Q1 : Unit → Prop} (hl : l.length ≤ 64) : ∀ (n i : Nat), n + i = l.length →
    (wrongL ((l.take i).map (·.Asset.ISIN)) (l.drop i) ≠ 0 → Q0 (wrongL ((l.take i).map (·.Asset.ISIN)) (l.drop i))) → (wrongL ((l.take i).map (·.Asset.ISIN)) (l.drop i) = 0 → Q1 ()) → lombardref18_Wrong_L0 l Q0 Q1 (i : Int) := by
  intro n
  induction n with
  | zero =>
    intro i h q0 q1
    refine lombardref18_Wrong_l0 ?_
    unfold lombardref18_Wrong_w0
    rw [lenM_eq]
    rw [List.drop_of_length_le (by omega)] at q1
    exact Br.neg (by omega) (Lf.i (q1 rfl))
  | succ n ih =>
    intro i h q0 q1
    have hs : i < l.length := by omega
    refine lombardref18_Wrong_l0 ?_
    unfold lombardref18_Wrong_w0
    rw [lenM_eq]
    rw [List.drop_eq_getElem_cons hs] at q0 q1
    have g : l[(i : Int).toNat]? = some l[i] := by simp [hs]
    have z : (0 : Int) ≤ (i : Int) := by omega
    simp only [wrongL] at q0 q1
    refine Br.pos (by omega) ⟨l[i], Got.i (Got.i (Got.i ⟨_, RCover_r, Br.i (fun c => Lf.i ?_) (fun c => Got.i (Br.i (fun c1 => Lf.i ?_) (fun c1 => Br.i (fun c2 => Lf.i ?_) (fun c2 => Got.i (Got.i (Br.i (fun c3 => Lf.i ?_) (fun c3 => ?_)) z g) z g))) z g)⟩ z g) z g) z g⟩
    · rw [if_pos (.inl c)] at q0; exact q0 (by decide)
    · rw [if_pos (.inr c1)] at q0; exact q0 (by decide)
    · rw [if_neg (fun e => e.elim c c1), if_pos (by unfold covC; omega)] at q0; exact q0 (by decide)
    · rw [if_neg (fun e => e.elim c c1), if_neg (by unfold covC; omega), if_pos (.inr c3)] at q0; exact q0 (by decide)
    · have c3 := Decidable.not_not.1 c3
      rw [if_neg (fun e => e.elim c c1), if_neg (by unfold covC; omega)] at q0 q1
      refine rwrong_l1 hs hl i 0 (by omega) (fun hm => Lf.i ?_) (fun hm => Num.n (by omega) (ih (i + 1) (by omega) (fun hx => ?_) (fun hx => ?_)))
      · rw [List.drop_zero] at hm
        rw [if_pos (.inl hm)] at q0; exact q0 (by decide)
      · rw [List.drop_zero] at hm
        have e : ¬ (l[i].Asset.ISIN ∈ (l.take i).map (·.Asset.ISIN) ∨ l[i].Asset.ISIN ≠ l[i].Lot.ISIN) := fun e => e.elim hm (fun k => k c3)
        rw [if_neg e] at q0
        rw [List.take_succ_eq_append_getElem hs, List.map_append] at hx ⊢
        exact q0 hx
      · rw [List.drop_zero] at hm
        have e : ¬ (l[i].Asset.ISIN ∈ (l.take i).map (·.Asset.ISIN) ∨ l[i].Asset.ISIN ≠ l[i].Lot.ISIN) := fun e => e.elim hm (fun k => k c3)
        rw [if_neg e] at q1
        rw [List.take_succ_eq_append_getElem hs, List.map_append] at hx
        exact q1 hx
theorem Wrong_r {l : List RI} : lombardref18_Wrong_r l (wrongS l) := by
  refine lombardref18_Wrong_of ?_
  unfold lombardref18_Wrong_w wrongS
  rw [lenM_eq]
  refine Br.i (fun c => Rt.i (by rw [if_pos (by omega)])) (fun c => ?_)
  exact rwrong_l (by omega) l.length 0 (by omega) (fun h => Rt.i (by rw [if_neg (by omega)]; rfl)) (fun h => Rt.i (by rw [if_neg (by omega)]; exact h.symm))
/-- What isn't wrong. -/
structure It (x : HI) : Prop where
  good : goodS x.Price x.Cut = true
  pos : 1 ≤ x.Lot.Qty
  top : x.Lot.Qty ≤ 1125899906842624
theorem it_of {x : RI} (h : ¬ ((coverS x.Lot.Qty x.Price x.Cut).2 ≠ 0 ∨ x.Lot.Qty = 0)) : It (toH x) := by
  have h1 : (coverS x.Lot.Qty x.Price x.Cut).2 = 0 := Decidable.byContradiction fun k => h (.inl k)
  have h2 : x.Lot.Qty ≠ 0 := fun k => h (.inr k)
  unfold coverS at h1
  split at h1
  · cases h1
  · rename_i hg
    split at h1
    · rename_i hw; exact absurd h1 hw
    · rename_i hw
      have hw := Decidable.not_not.1 hw
      unfold worthS at hw
      refine ⟨by simpa [toH] using hg, ?_, ?_⟩
      · show 1 ≤ x.Lot.Qty
        by_cases k : x.Lot.Qty < 0
        · rw [if_pos k] at hw; cases hw
        · omega
      · show x.Lot.Qty ≤ 1125899906842624
        by_cases k : x.Lot.Qty < 0
        · omega
        · rw [if_neg k] at hw
          by_cases k2 : 1125899906842624 < x.Lot.Qty
          · rw [if_pos k2] at hw; cases hw
          · omega
theorem wrong_it : ∀ (l : List RI) (seen : List ByteArray), wrongL seen l = 0 → (∀ x ∈ l, It (toH x) ∧ covC x ≤ 1125899906842624 ∧ x.Asset.ISIN = x.Lot.ISIN ∧ x.Lot.ISIN ∉ seen) ∧ l.Pairwise (fun x y => x.Lot.ISIN ≠ y.Lot.ISIN)
  | [], seen, _ => ⟨by simp, List.Pairwise.nil⟩
  | x :: l, seen, h => by
    simp only [wrongL] at h
    split at h
    · cases h
    · rename_i h1
      split at h
      · cases h
      · rename_i h2
        split at h
        · cases h
        · rename_i h3
          have e : x.Asset.ISIN = x.Lot.ISIN := Decidable.byContradiction fun k => h3 (.inr k)
          have ns : x.Asset.ISIN ∉ seen := fun k => h3 (.inl k)
          obtain ⟨i1, i2⟩ := wrong_it l _ h
          refine ⟨fun y hy => ?_, List.pairwise_cons.2 ⟨fun y hy k => ?_, i2⟩⟩
          · rcases List.mem_cons.1 hy with rfl | hy
            · exact ⟨it_of h1, by omega, e, by rw [← e]; exact ns⟩
            · obtain ⟨a, b, c, d⟩ := i1 y hy
              exact ⟨a, b, c, fun k => d (by simp [k])⟩
          · have := (i1 y hy).2.2.2
            exact this (by rw [← k, e]; simp)

/-! In order. -/
theorem ahead_eq (a b : RI) : lombardref17_Ahead_r a b (!leE (toH b) (toH a)) := by
  refine lombardref17_Ahead_of ?_
  unfold lombardref17_Ahead_w
  have key : (!leE (toH b) (toH a)) = decide (¬ leP (toH b) (toH a)) := by
    unfold leE; by_cases k : leP (toH b) (toH a)
    · rw [decide_eq_true k, decide_eq_false (fun h => h k)]; rfl
    · rw [decide_eq_false k, decide_eq_true k]; rfl
  rw [key]
  refine Br.i (fun c => Rt.i ?_) (fun c => Br.i (fun c2 => Rt.i ?_) (fun c2 => Rt.i ?_))
  · refine decide_eq_decide.2 ?_
    unfold leP
    constructor
    · intro h k
      rcases k with k | ⟨k, _⟩
      · have k : b.Cut < a.Cut := k
        omega
      · exact c k.symm
    · intro h
      have : ¬ b.Cut < a.Cut := fun k => h (.inl k)
      omega
  · have c := Decidable.not_not.1 c
    refine decide_eq_decide.2 ?_
    unfold leP
    constructor
    · intro h k
      rcases k with k | ⟨_, k | ⟨k, _⟩⟩
      · have k : b.Cut < a.Cut := k
        omega
      · have k : b.Asset.Maturity < a.Asset.Maturity := k
        omega
      · exact c2 k.symm
    · intro h
      have : ¬ b.Asset.Maturity < a.Asset.Maturity := fun k => h (.inr ⟨c.symm, .inl k⟩)
      omega
  · have c := Decidable.not_not.1 c
    have c2 := Decidable.not_not.1 c2
    rw [strLt_s]
    refine decide_eq_decide.2 ?_
    unfold leP
    constructor
    · intro h k
      rcases k with k | ⟨_, k | ⟨_, k⟩⟩
      · have k : b.Cut < a.Cut := k
        omega
      · have k : b.Asset.Maturity < a.Asset.Maturity := k
        omega
      · exact k h
    · intro h
      exact Decidable.byContradiction fun k => h (.inr ⟨c.symm, .inr ⟨c2.symm, k⟩⟩)
theorem rank_l1 {l : List RI} {out : List HI} {i : Nat} (hi : i < l.length) (hl : l.length ≤ 1000) (ho : out.length ≤ 1000) {Q : Int → Prop}
    (q : ∀ m : Nat, m ≤ out.length → (m = 0 ∨ leE (at_ out (m - 1)) (toH l[i]) = true) → (m < out.length → leE (at_ out m) (toH l[i]) = false) → Q m) :
    ∀ (m : Nat), m ≤ out.length → (m < out.length → leE (at_ out m) (toH l[i]) = false) → lombardref17_Rank_L1 l i (out.map toR) Q (m : Int) := by
  intro m
  induction m with
  | zero =>
    intro hm h
    refine lombardref17_Rank_l1 ?_
    unfold lombardref17_Rank_w1
    exact Br.neg (by omega) (Lf.i (q 0 hm (.inl rfl) h))
  | succ m ih =>
    intro hm h
    refine lombardref17_Rank_l1 ?_
    unfold lombardref17_Rank_w1
    have g : l[(i : Int).toNat]? = some l[i] := by simp [hi]
    have e : ((m + 1 : Nat) : Int) - 1 = (m : Int) := by omega
    rw [e]
    have hm' : m < out.length := by omega
    have g2 : (out.map toR)[(m : Int).toNat]? = some (toR (at_ out m)) := by
      rw [Int.toNat_natCast, List.getElem?_map, get_at hm']; rfl
    refine Br.pos (by omega) ⟨l[i], Got.i (Num.n (by omega) (InL.i ⟨toR (at_ out m), EltG.i ⟨_, ahead_eq _ _, ?_⟩ g2⟩ (by omega) (by simpa using hm'))) (by omega) g⟩
    refine Br.b (fun c => Num.n (by omega) (ih (by omega) (fun _ => by have c2 : (!leE (at_ out m) (toH l[i])) = true := c; simpa using c2))) (fun c => Lf.i (q (m + 1) hm (.inr ?_) h))
    have c2 : (!leE (at_ out m) (toH l[i])) = false := c
    simpa using c2
theorem rank_l0 {l : List RI} (hl : l.length ≤ 1000) {Q : List RI → Prop} : ∀ (n i : Nat) (out : List HI), n + i = l.length → out.length = i → Srt out → Q (((l.drop i).map toH).foldl (insS leE) out |>.map toR) → lombardref17_Rank_L0 l Q (i : Int) (out.map toR) := by
  intro n
  induction n with
  | zero =>
    intro i out h ho hs q
    refine lombardref17_Rank_l0 ?_
    unfold lombardref17_Rank_w0
    rw [lenM_eq]
    rw [List.drop_of_length_le (by omega)] at q
    exact Br.neg (by omega) (Lf.i (by simpa using q))
  | succ n ih =>
    intro i out h ho hs q
    have hi : i < l.length := by omega
    refine lombardref17_Rank_l0 ?_
    unfold lombardref17_Rank_w0
    rw [lenM_eq, lenM_eq, List.length_map]
    rw [List.drop_eq_getElem_cons hi, List.map_cons, List.foldl_cons] at q
    have g : l[(i : Int).toNat]? = some l[i] := by simp [hi]
    refine Br.pos (by omega) (rank_l1 hi hl (by omega) (fun m hm h1 h2 => ?_) out.length (Nat.le_refl _) (fun h => by omega))
    have tk : ((out.map toR).take ((m : Int)).toNat) = (out.take m).map toR := by simp [List.map_take]
    have dr : ((out.map toR).drop ((m : Int)).toNat) = (out.drop m).map toR := by simp [List.map_drop]
    rw [tk, dr]
    have lt : ((out.take m).map toR).length = m := by simp; omega
    have ld : ((out.drop m).map toR).length = i - m := by simp; omega
    have e : insS leE out (toH l[i]) = out.take m ++ toH l[i] :: out.drop m := by
      have := insS_back (le := leE) (toH l[i]) (out.take m) (out.drop m) (fun a ha => ?_) (fun a ha => ?_)
      · rwa [List.take_append_drop] at this
      · have m0 : 0 < m := Nat.pos_of_ne_zero fun k => by subst k; simp at ha
        have h1 := h1.resolve_left (by omega)
        obtain ⟨j, hj, rfl⟩ := List.getElem_of_mem ha
        have hj' : j < m := by simp at hj; omega
        rw [List.getElem_take]
        have a1 : at_ out (m - 1) = out[m - 1]'(by omega) := at_of (List.getElem?_eq_getElem (by omega))
        rw [a1] at h1
        by_cases k : j = m - 1
        · subst k; exact h1
        · exact leE_trans _ _ _ (List.pairwise_iff_getElem.1 hs j (m - 1) (by omega) (by omega) (by omega)) h1
      · have hm2 : m < out.length := Nat.lt_of_not_le fun k => by rw [List.drop_of_length_le k] at ha; cases ha
        have h2 := h2 hm2
        rw [List.drop_eq_getElem_cons hm2] at ha
        cases ha
        have a1 : at_ out m = out[m] := at_of (List.getElem?_eq_getElem hm2)
        rw [a1] at h2; exact h2
    refine CutLh.i ⟨by omega, by simpa using hm⟩ (ApZ.i (app96 (by omega)) ⟨l[i], Got.i (App2.i (app96 (by simp; omega)) (CutLl.i ⟨by omega, by simpa using hm⟩ (App2.i (app96 (by simp; omega)) (Num.n (by omega) ?_)))) (by omega) g⟩)
    have := ih (i + 1) (insS leE out (toH l[i])) (by omega) (by rw [e]; simp; omega) (mg_sorted leE_trans leE_total _ _ hs (List.pairwise_singleton _ _)) q
    rw [e, List.map_append, List.map_cons] at this
    rw [List.append_assoc]
    exact this
theorem RRank_r {l : List RI} (hl : l.length ≤ 1000) : lombardref17_Rank_r l ((isort leE (l.map toH)).map toR) := by
  refine lombardref17_Rank_of ?_
  unfold lombardref17_Rank_w
  exact rank_l0 hl l.length 0 [] (by omega) rfl List.Pairwise.nil (Rt.i (by simp [isort]))
end Go.Proofs.YtgncepjnbdhmkaaGreat.Pure
namespace Go.Proofs.YtgncepjnbdhmkaaGreat.Pure
open Go Go.Ab Go.Stable Go.Proofs.YtgncepjnbdhmkaaGreat.R
set_option linter.unusedVariables false
def covH (x : HI) : Int := covC (toR x)
def setQ (x : HI) (q : Int) : HI := ⟨⟨x.Lot.ISIN, q⟩, x.Asset, x.Price, x.Cut⟩
theorem HCover_r (x : HI) : _haircut_Item_Cover_r x (covH x) := ICover_r (toR x)
theorem RHCovers_r (x : HI) : _lombardref15_Item_Covers_r (toR x) (covH x) := RCovers_r (toR x)
theorem cov_q {x : HI} {q : Int} (h : goodS x.Price x.Cut = true) (hq : 0 ≤ q ∧ q ≤ 1125899906842624) : covH (setQ x q) = cv q x.Price x.Cut := by
  have := cover_val h hq
  show (coverS q x.Price x.Cut).1 = _
  rw [this]

/-! Where a security is. -/
def atH (s : ByteArray) : List HI → Int
  | [] => -1
  | y :: l => if y.Lot.ISIN = s then 0 else if atH s l < 0 then -1 else atH s l + 1
theorem atH_or (s : ByteArray) : ∀ l : List HI, (atH s l = -1 ∧ ∀ y ∈ l, y.Lot.ISIN ≠ s) ∨ (∃ A y B, l = A ++ y :: B ∧ y.Lot.ISIN = s ∧ atH s l = (A.length : Nat))
  | [] => .inl ⟨rfl, by simp⟩
  | z :: l => by
    simp only [atH]
    by_cases c : z.Lot.ISIN = s
    · rw [if_pos c]; exact .inr ⟨[], z, l, rfl, c, rfl⟩
    · rw [if_neg c]
      rcases atH_or s l with ⟨h1, h2⟩ | ⟨A, y, B, h1, h2, h3⟩
      · rw [if_pos (by omega)]
        refine .inl ⟨rfl, fun y hy => ?_⟩
        rcases List.mem_cons.1 hy with rfl | hy
        · exact c
        · exact h2 y hy
      · rw [if_neg (by omega)]
        exact .inr ⟨z :: A, y, B, by rw [h1]; rfl, h2, by rw [h3]; simp⟩
theorem ofc_r (x : HI) (s : ByteArray) : alloc_filler_of_1_r x s (strEq x.Lot.ISIN s) := by
  refine alloc_filler_of_1_of ?_
  unfold alloc_filler_of_1_w
  exact Rt.i rfl
theorem find_l {out : List HI} {s : ByteArray} {Q0 : Int → Prop} {Q1 : Unit → Prop} (hl : out.length ≤ 1000) : ∀ (n i : Nat), n + i = out.length → (0 ≤ atH s (out.drop i) → Q0 (i + atH s (out.drop i))) → (atH s (out.drop i) = -1 → Q1 ()) →
    slices_IndexFunc_haircut_Item_haircut_Item_o_f94c_L0 out s Q0 Q1 (i : Int) := by
  intro n
  induction n with
  | zero =>
    intro i h q0 q1
    refine slices_IndexFunc_haircut_Item_haircut_Item_o_f94c_l0 ?_
    unfold slices_IndexFunc_haircut_Item_haircut_Item_o_f94c_w0
    rw [lenM_eq]
    rw [List.drop_of_length_le (by omega)] at q1
    exact Br.neg (by omega) (Lf.i (q1 rfl))
  | succ n ih =>
    intro i h q0 q1
    have hs : i < out.length := by omega
    refine slices_IndexFunc_haircut_Item_haircut_Item_o_f94c_l0 ?_
    unfold slices_IndexFunc_haircut_Item_haircut_Item_o_f94c_w0
    rw [lenM_eq]
    rw [List.drop_eq_getElem_cons hs] at q0 q1
    have g : out[(i : Int).toNat]? = some out[i] := by simp [hs]
    simp only [atH] at q0 q1
    refine Br.pos (by omega) (InL.i ⟨out[i], EltG.i ⟨_, ofc_r _ _, Br.i (fun c => Lf.i ?_) (fun c => Num.n (by omega) ?_)⟩ g⟩ (by omega) (by simpa using hs))
    · rw [if_pos c] at q0; simpa using q0 (Int.le_refl _)
    · rw [if_neg c] at q0 q1
      refine ih (i + 1) (by omega) (fun h0 => ?_) (fun h0 => q1 (by rw [if_pos (by omega)]))
      rw [if_neg (by omega)] at q0
      have := q0 (by omega)
      rw [show (((i + 1 : Nat)) : Int) + atH s (out.drop (i + 1)) = (i : Int) + (atH s (out.drop (i + 1)) + 1) by omega]
      exact this
theorem FOf_r {t : limit_Table} {out : List HI} {s : ByteArray} (hl : out.length ≤ 1000) : alloc_filler_of_r ⟨t, out⟩ s (atH s out, ⟨t, out⟩) := by
  refine alloc_filler_of_of ?_
  unfold alloc_filler_of_w
  refine ⟨atH s out, slices_IndexFunc_haircut_Item_haircut_Item_o_f94c_of ?_, Rt.i rfl⟩
  unfold slices_IndexFunc_haircut_Item_haircut_Item_o_f94c_w
  exact find_l hl out.length 0 (by omega) (fun h => Rt.i (by simp)) (fun h => Rt.i (by simpa using h.symm))
/-! How many are taken. -/
def q0F (t : limit_Table) (x : HI) (qty cover : Int) : Int :=
  if (leastS (openT t + cover) x.Price x.Cut).2 = true ∧ (leastS (openT t + cover) x.Price x.Cut).1 ≤ qty + x.Lot.Qty then (leastS (openT t + cover) x.Price x.Cut).1 else qty + x.Lot.Qty
def q1F (t : limit_Table) (x : HI) (cover q : Int) : Int := if room t x.Asset < cv q x.Price x.Cut - cover then mostS (room t x.Asset + cover) x.Price x.Cut q else q
def qF (t : limit_Table) (x : HI) (qty cover : Int) : Int := q1F t x cover (q0F t x qty cover)
theorem leastS_bd {n p c : Int} (h : goodS p c = true) : 0 ≤ (leastS n p c).1 ∧ (leastS n p c).1 ≤ 1125899906842624 := by
  unfold leastS
  rw [if_neg (by simp [h])]
  split
  · simp
  · split
    · simp
    · have := least_nn (need := n) h (by omega)
      simp; omega
theorem q0_bd {t : limit_Table} {x : HI} {qty cover : Int} (hx : It x) (h0 : 0 ≤ qty) (h1 : qty + x.Lot.Qty ≤ 1125899906842624) : 0 ≤ q0F t x qty cover ∧ q0F t x qty cover ≤ 1125899906842624 := by
  have h2 := hx.pos
  have := leastS_bd (n := openT t + cover) hx.good
  unfold q0F
  split <;> omega
theorem q1_bd {t : limit_Table} {x : HI} {cover q : Int} (hx : It x) (ht : Tok t) (hc : 0 ≤ cover) (hq : 0 ≤ q ∧ q ≤ 1125899906842624) : (0 ≤ q1F t x cover q ∧ q1F t x cover q ≤ 1125899906842624) ∧ cv (q1F t x cover q) x.Price x.Cut - cover ≤ room t x.Asset := by
  have hr := room_le (a := x.Asset) ht
  unfold q1F
  split
  · have lp := least_pos (c := x.Cut) (p := x.Price) hx.good (show 0 ≤ room t x.Asset + cover by omega)
    unfold mostS
    rw [if_neg (by simp [hx.good]), if_neg (by omega), if_neg (by omega), if_neg (by omega)]
    split
    · rename_i h
      have := (most_le hx.good).1 h
      exact ⟨hq, by omega⟩
    · rename_i h
      have := (most_le (limit := room t x.Asset + cover) (q := least (room t x.Asset + cover + 1) x.Price x.Cut - 1) hx.good).1 (by omega)
      exact ⟨⟨by omega, by omega⟩, by omega⟩
  · exact ⟨hq, by omega⟩
theorem Total_r {t : limit_Table} {out : List HI} {x : HI} {qty cover : Int} (ht : Tok t) (hs : 0 ≤ t.sum) (hx : It x) (h0 : 0 ≤ qty) (h1 : qty + x.Lot.Qty ≤ 1125899906842624) (hc : 0 ≤ cover ∧ cover ≤ 4835703278458516699) :
    alloc_filler_total_r ⟨t, out⟩ x qty cover (qF t x qty cover) := by
  refine alloc_filler_total_of ?_
  unfold alloc_filler_total_w
  dsimp only
  have hr := room_le (a := x.Asset) ht
  have hn := ht.need
  have ho : 0 ≤ openT t ∧ openT t ≤ 1125899906842624 := by unfold openT; omega
  have hp := hx.pos
  have hb := q0_bd (t := t) (cover := cover) hx h0 h1
  have hcv := cv_bd hx.good hb
  have fin : ∀ q, q = q0F t x qty cover → ∃ r4 : Int × Int, (haircut_Cover_r q x.Price x.Cut r4) ∧ (Num .i64 (r4.1 - cover) (Br (decide ((r4.1 - cover) > room t x.Asset)) (Num .i64 (room t x.Asset + cover) (∃ r5 : Int, (haircut_Most_r (room t x.Asset + cover) x.Price x.Cut q r5) ∧ (alloc_filler_total_e ⟨t, out⟩ (fun v_ => v_ = qF t x qty cover) r5))) (alloc_filler_total_e ⟨t, out⟩ (fun v_ => v_ = qF t x qty cover) q))) := by
    intro q e
    subst e
    refine ⟨_, Cover_r, ?_⟩
    rw [cover_val hx.good hb]
    refine Num.n (by omega) (Br.i (fun c => Num.n (by omega) ⟨_, Most_r, Rt.i ?_⟩) (fun c => Rt.i ?_))
    · unfold qF q1F; rw [if_pos c]
    · unfold qF q1F; rw [if_neg c]
  refine ⟨_, TOpen_r ht, _, TRoom_r ht, Num.n (by omega) ⟨_, Least_r, ?_⟩⟩
  refine Br.b (fun c => Num.n (by omega) (fin _ ?_)) (fun c => Num.n (by omega) (Br.i (fun c2 => Num.n (by omega) (fin _ ?_)) (fun c2 => fin _ ?_)))
  · have c : (leastS (openT t + cover) x.Price x.Cut).2 = false := by simpa using c
    unfold q0F; rw [c]; simp
  · unfold q0F; rw [if_neg (by omega)]
  · have c : (leastS (openT t + cover) x.Price x.Cut).2 = true := by simpa using c
    unfold q0F; rw [if_pos ⟨c, by omega⟩]
def wasF (out : List HI) (x : HI) : HI := if 0 ≤ atH x.Lot.ISIN out then at_ out (atH x.Lot.ISIN out).toNat else setQ x 0
def nF (t : limit_Table) (out : List HI) (x : HI) : Int := covH (setQ x (qF t x (wasF out x).Lot.Qty (covH (wasF out x)))) - covH (wasF out x)
def stepF (s : limit_Table × List HI) (x : HI) : limit_Table × List HI :=
  if nF s.1 s.2 x ≤ 0 then s
  else (putT s.1 x.Asset (nF s.1 s.2 x), if 0 ≤ atH x.Lot.ISIN s.2 then s.2.set (atH x.Lot.ISIN s.2).toNat (setQ x (qF s.1 x (wasF s.2 x).Lot.Qty (covH (wasF s.2 x)))) else s.2 ++ [setQ x (qF s.1 x (wasF s.2 x).Lot.Qty (covH (wasF s.2 x)))])
def fillF : limit_Table × List HI → List HI → limit_Table × List HI
  | s, [] => s
  | s, x :: l => if openT s.1 = 0 then s else fillF (stepF s x) l
/-- What was taken goes with what is to come. -/
structure Fi (out l : List HI) : Prop where
  it : ∀ x ∈ l, It x
  apart : l.Pairwise (fun x y => x.Lot.ISIN ≠ y.Lot.ISIN)
  was : ∀ y ∈ out, goodS y.Price y.Cut = true ∧ 0 ≤ y.Lot.Qty ∧ y.Lot.Qty ≤ 1125899906842624
  both : ∀ x ∈ l, ∀ y ∈ out, y.Lot.ISIN = x.Lot.ISIN → y.Asset = x.Asset ∧ y.Price = x.Price ∧ y.Cut = x.Cut ∧ y.Lot.Qty + x.Lot.Qty ≤ 1125899906842624
theorem was_or {out l : List HI} {x : HI} (h : Fi out (x :: l)) : goodS (wasF out x).Price (wasF out x).Cut = true ∧ 0 ≤ (wasF out x).Lot.Qty ∧ (wasF out x).Lot.Qty + x.Lot.Qty ≤ 1125899906842624 ∧ (wasF out x).Lot.Qty ≤ 1125899906842624 ∧
    ((atH x.Lot.ISIN out = -1 ∧ wasF out x = setQ x 0 ∧ covH (wasF out x) = 0) ∨ (∃ A B, out = A ++ wasF out x :: B ∧ (wasF out x).Lot.ISIN = x.Lot.ISIN ∧ atH x.Lot.ISIN out = (A.length : Nat) ∧ ∀ q, setQ (wasF out x) q = setQ x q)) := by
  have ix := h.it x (by simp)
  have px := ix.pos
  have tx := ix.top
  rcases atH_or x.Lot.ISIN out with ⟨h1, h2⟩ | ⟨A, y, B, h1, h2, h3⟩
  · have e : wasF out x = setQ x 0 := by unfold wasF; rw [if_neg (by omega)]
    rw [e]
    refine ⟨ix.good, Int.le_refl _, ?_, (by decide : (0 : Int) ≤ 1125899906842624), .inl ⟨h1, rfl, ?_⟩⟩
    · show 0 + x.Lot.Qty ≤ _; omega
    · rw [cov_q ix.good (by decide)]; simp [cv]
  · have e : wasF out x = y := by
      unfold wasF; rw [if_pos (by omega), h3, Int.toNat_natCast]
      exact at_of (by rw [h1]; simp)
    have hy := h.was y (by rw [h1]; simp)
    obtain ⟨b1, b2, b3, b4⟩ := h.both x (by simp) y (by rw [h1]; simp) h2
    rw [e]
    refine ⟨hy.1, hy.2.1, b4, hy.2.2, .inr ⟨A, B, h1, h2, h3, fun q => ?_⟩⟩
    unfold setQ; rw [h2, b1, b2, b3]
theorem step_out {t : limit_Table} {out l : List HI} {x : HI} (h : Fi out (x :: l)) (ht : Tok t) : Fi (stepF (t, out) x).2 l ∧ (stepF (t, out) x).2.length ≤ out.length + 1 ∧ nF t out x ≤ room t x.Asset ∧ (0 ≤ qF t x (wasF out x).Lot.Qty (covH (wasF out x)) ∧ qF t x (wasF out x).Lot.Qty (covH (wasF out x)) ≤ 1125899906842624) ∧ 0 ≤ covH (wasF out x) ∧ covH (wasF out x) ≤ 4835703278458516699 := by
  obtain ⟨w1, w2, w3, w4, w5⟩ := was_or h
  have ix := h.it x (by simp)
  have cw : covH (wasF out x) = cv (wasF out x).Lot.Qty (wasF out x).Price (wasF out x).Cut := cov_q (x := wasF out x) w1 ⟨w2, w4⟩
  have cb := cv_bd w1 ⟨w2, w4⟩
  rw [← cw] at cb
  have qb := q1_bd (cover := covH (wasF out x)) ix ht cb.1 (q0_bd (t := t) (cover := covH (wasF out x)) ix w2 w3)
  have qb1 : 0 ≤ qF t x (wasF out x).Lot.Qty (covH (wasF out x)) ∧ qF t x (wasF out x).Lot.Qty (covH (wasF out x)) ≤ 1125899906842624 := qb.1
  have hn : nF t out x ≤ room t x.Asset := by
    unfold nF
    rw [cov_q ix.good qb1]
    exact qb.2
  have rest : ∀ o : List HI, (∀ y ∈ o, y ∈ out ∨ y = setQ x (qF t x (wasF out x).Lot.Qty (covH (wasF out x)))) → Fi o l := fun o ho => by
    refine ⟨fun z hz => h.it z (by simp [hz]), (List.pairwise_cons.1 h.apart).2, fun y hy => ?_, fun z hz y hy he => ?_⟩
    · rcases ho y hy with hy | rfl
      · exact h.was y hy
      · exact ⟨ix.good, qb1⟩
    · rcases ho y hy with hy | rfl
      · exact h.both z (by simp [hz]) y hy he
      · exact absurd he ((List.pairwise_cons.1 h.apart).1 z hz)
  refine ⟨?_, ?_, hn, qb1, cb⟩
  · unfold stepF
    split
    · exact rest _ fun y hy => .inl hy
    · dsimp only
      split
      · exact rest _ fun y hy => (List.mem_or_eq_of_mem_set hy)
      · exact rest _ fun y hy => by
          rcases List.mem_append.1 hy with hy | hy
          · exact .inl hy
          · exact .inr (List.mem_singleton.1 hy)
  · unfold stepF
    split
    · simp
    · dsimp only
      split <;> simp
def stepR (t : limit_Table) (out : List HI) (r : lombardref16_Table) (x : HI) : lombardref16_Table := if nF t out x ≤ 0 then r else withR r x.Asset (nF t out x)
theorem step_al {t : limit_Table} {out l : List HI} {x : HI} {r : lombardref16_Table} {n : Nat} (h : Fi out (x :: l)) (ha : Al r t n) (hn : n ≤ 1000) : Al (stepR t out r x) (stepF (t, out) x).1 (n + 1) := by
  have hs := step_out h ha.tok
  unfold stepR stepF
  dsimp only
  by_cases c : nF t out x ≤ 0
  · rw [if_pos c, if_pos c]
    exact ⟨ha.tok, ha.need, ha.issuer, ha.asset, ha.i, ha.a, ha.s, by have := ha.len; omega, ha.bd, by have := ha.s0; dsimp only; omega⟩
  · rw [if_neg c, if_neg c]
    exact Al_put ha hn (by omega) hs.2.2.1
end Go.Proofs.YtgncepjnbdhmkaaGreat.Pure
namespace Go.Proofs.YtgncepjnbdhmkaaGreat.Pure
open Go Go.Ab Go.Stable Go.Proofs.YtgncepjnbdhmkaaGreat.R
set_option linter.unusedVariables false
theorem fill_l {L : List HI} {Q0 Q1 : (List haircut_Item) × Int × Int × Int × Int × (GM Int Int) × (GM ByteArray Int) → Prop} (hl : L.length ≤ 100) : ∀ (n i : Nat) (t : limit_Table) (out : List HI) (r : lombardref16_Table) (m : Nat), n + i = L.length → Fi out (L.drop i) → Al r t m → m + n ≤ 500 → out.length + n ≤ 500 →
    (∀ t' out', fillF (t, out) (L.drop i) = (t', out') → Q0 (out', t'.need, t'.issuer, t'.asset, t'.sum, t'.issuers, t'.assets) ∧ Q1 (out', t'.need, t'.issuer, t'.asset, t'.sum, t'.issuers, t'.assets)) →
    alloc_filler_fill_L0 L Q0 Q1 (i : Int) t.need t.issuer t.asset t.sum t.issuers t.assets out := by
  intro n
  induction n with
  | zero =>
    intro i t out r m h hf ha hm ho q
    refine alloc_filler_fill_l0 ?_
    unfold alloc_filler_fill_w0
    rw [lenM_eq]
    rw [List.drop_of_length_le (by omega)] at q
    exact Br.neg (by omega) (Lf.i (q t out rfl).1)
  | succ n ih =>
    intro i t out r m h hf ha hm ho q
    have hs : i < L.length := by omega
    refine alloc_filler_fill_l0 ?_
    unfold alloc_filler_fill_w0
    rw [lenM_eq]
    rw [List.drop_eq_getElem_cons hs] at q hf
    have g : L[(i : Int).toNat]? = some L[i] := by simp [hs]
    refine Br.pos (by omega) ⟨L[i], Got.i ⟨openT t, TOpen_r ha.tok, Br.i (fun c => Lf.i ?_) (fun c => ⟨_, FOf_r (t := t) (out := out) (by omega), ?_⟩)⟩ (by omega) g⟩
    · refine (q t out ?_).2
      simp only [fillF]; rw [if_pos c]
    · simp only [fillF] at q
      rw [if_neg c] at q
      obtain ⟨w1, w2, w3, w4, w5⟩ := was_or hf
      obtain ⟨s1, s2, s3, s4, s5, s6⟩ := step_out hf ha.tok
      have sal := step_al hf ha (by omega)
      have ix := hf.it L[i] (List.mem_cons_self ..)
      have hsum := ha.s0
      have hroom := room_le (a := L[i].Asset) ha.tok
      have nx : Num .i64 ((i : Int) + 1) (alloc_filler_fill_L0 L Q0 Q1 ((i : Int) + 1) (stepF (t, out) L[i]).1.need (stepF (t, out) L[i]).1.issuer (stepF (t, out) L[i]).1.asset (stepF (t, out) L[i]).1.sum (stepF (t, out) L[i]).1.issuers (stepF (t, out) L[i]).1.assets (stepF (t, out) L[i]).2) :=
        Num.n (by omega) (ih (i + 1) _ _ _ (m + 1) (by omega) s1 sal (by omega) (by omega) q)
      have cn := covC_ok (toR (setQ L[i] (qF t L[i] (wasF out L[i]).Lot.Qty (covH (wasF out L[i])))))
      have J : alloc_filler_fill_j4 (atH L[i].Lot.ISIN out, ⟨t, out⟩) L (i : Int) L[i] (alloc_filler_fill_L0 L Q0 Q1) Q0 Q1 ((wasF out L[i]).Lot.Qty, covH (wasF out L[i])) := by
        unfold alloc_filler_fill_j4
        refine Jn.i ⟨_, Total_r ha.tok hsum.1 ix w2 w3 ⟨s5, s6⟩, _, HCover_r (setQ L[i] (qF t L[i] (wasF out L[i]).Lot.Qty (covH (wasF out L[i])))), Num.n ?_ ?_⟩
        · have : covH (setQ L[i] (qF t L[i] (wasF out L[i]).Lot.Qty (covH (wasF out L[i])))) = covC (toR (setQ L[i] (qF t L[i] (wasF out L[i]).Lot.Qty (covH (wasF out L[i]))))) := rfl
          omega
        · show Br (decide (nF t out L[i] ≤ 0)) _ _
          unfold stepF at nx
          dsimp only at nx
          refine Br.i (fun c2 => ?_) (fun c2 => ?_)
          · rw [if_pos c2] at nx; exact nx
          · rw [if_neg c2] at nx
            refine ⟨(0, putT t L[i].Asset (nF t out L[i])), TAdd_ok ha.tok (show 0 ≤ nF t out L[i] by omega) s3, Br.neg (fun h => h rfl) ?_⟩
            dsimp only at nx ⊢
            refine Br.i (fun c3 => ?_) (fun c3 => ?_)
            · rw [if_pos c3] at nx
              rcases w5 with ⟨e1, _⟩ | ⟨A, B, e1, e2, e3, e4⟩
              · omega
              · have hlt : (atH L[i].Lot.ISIN out).toNat < out.length := by rw [e3, Int.toNat_natCast, e1]; simp
                have gw : out[(atH L[i].Lot.ISIN out).toNat]? = some (wasF out L[i]) := by
                  rw [e3, Int.toNat_natCast]
                  have : (A ++ wasF out L[i] :: B)[A.length]? = some (wasF out L[i]) := by simp
                  rw [← e1] at this; exact this
                refine InL.i ⟨wasF out L[i], EltS.i ?_ gw⟩ c3 (by simpa using hlt)
                have e5 := e4 (qF t L[i] (wasF out L[i]).Lot.Qty (covH (wasF out L[i])))
                show Num .i64 ((i : Int) + 1) (alloc_filler_fill_L0 L Q0 Q1 ((i : Int) + 1) _ _ _ _ _ _ (out.set (atH L[i].Lot.ISIN out).toNat (setQ (wasF out L[i]) (qF t L[i] (wasF out L[i]).Lot.Qty (covH (wasF out L[i]))))))
                rw [e5]; exact nx
            · rw [if_neg c3] at nx
              exact App2.i (app96 (by simp; omega)) nx
      rcases w5 with ⟨e1, e2, e3⟩ | ⟨A, B, e1, e2, e3, e4⟩
      · rw [e2] at J
        have e3' : covH (setQ L[i] 0) = 0 := by rw [← e2]; exact e3
        rw [e3'] at J
        exact Br.neg (by dsimp only; omega) J
      · have hlt : (atH L[i].Lot.ISIN out).toNat < out.length := by rw [e3, Int.toNat_natCast, e1]; simp
        have gw : out[(atH L[i].Lot.ISIN out).toNat]? = some (wasF out L[i]) := by
          rw [e3, Int.toNat_natCast]
          have : (A ++ wasF out L[i] :: B)[A.length]? = some (wasF out L[i]) := by simp
          rw [← e1] at this; exact this
        have c3 : 0 ≤ atH L[i].Lot.ISIN out := by omega
        exact Br.pos (by dsimp only; omega) (InL.i ⟨wasF out L[i], EltG.i (InL.i (EltG.i ⟨_, HCover_r _, J⟩ gw) c3 (by simpa using hlt)) gw⟩ c3 (by simpa using hlt))
def fillR : limit_Table × List HI → lombardref16_Table → List HI → lombardref16_Table
  | _, r, [] => r
  | s, r, x :: l => if openT s.1 = 0 then r else fillR (stepF s x) (stepR s.1 s.2 r x) l
end Go.Proofs.YtgncepjnbdhmkaaGreat.Pure
namespace Go.Proofs.YtgncepjnbdhmkaaGreat.Pure
open Go Go.Ab Go.Stable Go.Proofs.YtgncepjnbdhmkaaGreat.R
set_option linter.unusedVariables false
theorem mg_perm {α : Type} {le : α → α → Bool} : ∀ U V : List α, (mg le U V).Perm (U ++ V)
  | [], V => by simp [mg]
  | u :: U, [] => by simp [mg]
  | u :: U, v :: V => by
    rw [mg]
    split
    · exact (mg_perm U (v :: V)).cons u
    · exact ((mg_perm (u :: U) V).cons v).trans (List.perm_middle (l₁ := u :: U) (a := v) (l₂ := V)).symm
theorem isort_perm' : ∀ (L R : List E), (L.foldl (insS leE) R).Perm (R ++ L)
  | [], R => by simp
  | x :: L, R => by
    rw [List.foldl_cons]
    refine (isort_perm' L _).trans ?_
    have := (mg_perm (le := leE) R [x]).append_right L
    rw [List.append_assoc] at this
    exact this
theorem isort_perm (L : List E) : (isort leE L).Perm L := by
  have := isort_perm' L []
  simpa [isort] using this
theorem isort_len' (L : List E) : (isort leE L).length = L.length := (isort_perm L).length_eq
theorem Fi_new {l : List RI} (h : wrongS l = 0) : Fi [] (isort leE (l.map toH)) ∧ l.length ≤ 64 := by
  unfold wrongS at h
  split at h
  · cases h
  · rename_i hl
    obtain ⟨w1, w2⟩ := wrong_it l [] h
    refine ⟨⟨fun x hx => ?_, ?_, by simp, by simp⟩, by omega⟩
    · have := (isort_perm _).mem_iff.1 hx
      obtain ⟨y, hy, rfl⟩ := List.mem_map.1 this
      exact (w1 y hy).1
    · refine ((isort_perm (l.map toH)).pairwise_iff (fun h e => h e.symm)).2 ?_
      exact List.Pairwise.map _ (fun a b hab => hab) w2
theorem fillR_al : ∀ (L : List HI) (t : limit_Table) (out : List HI) (r : lombardref16_Table) (m : Nat), Fi out L → Al r t m → m + L.length ≤ 500 → ∃ m', Al (fillR (t, out) r L) (fillF (t, out) L).1 m' ∧ m' ≤ 500 ∧ (fillF (t, out) L).2.length ≤ out.length + L.length ∧ Fi (fillF (t, out) L).2 []
  | [], t, out, r, m, hf, ha, hm => ⟨m, ha, by simpa using hm, by simp [fillF], by simpa [fillF] using hf⟩
  | x :: L, t, out, r, m, hf, ha, hm => by
    simp only [List.length_cons] at hm
    simp only [fillF, fillR]
    by_cases c : openT t = 0
    · rw [if_pos c, if_pos c]; exact ⟨m, ha, by omega, by simp, ⟨by simp, List.Pairwise.nil, hf.was, by simp⟩⟩
    · rw [if_neg c, if_neg c]
      obtain ⟨s1, s2, _⟩ := step_out hf ha.tok
      obtain ⟨m', a, b, d, e⟩ := fillR_al L _ _ _ (m + 1) s1 (step_al hf ha (by omega)) (by omega)
      have d : (fillF (stepF (t, out) x) L).2.length ≤ (stepF (t, out) x).2.length + L.length := d
      exact ⟨m', a, b, by simp only [List.length_cons]; omega, e⟩
theorem FFill_r {l : List RI} {t : limit_Table} {out : List HI} {r : lombardref16_Table} {m : Nat} (hl : l.length ≤ 64) (hf : Fi out (isort leE (l.map toH))) (ha : Al r t m) (hm : m ≤ 100) (ho : out.length ≤ 100) :
    alloc_filler_fill_r ⟨t, out⟩ (l.map toH) ⟨(fillF (t, out) (isort leE (l.map toH))).1, (fillF (t, out) (isort leE (l.map toH))).2⟩ := by
  have e : (isort leE (l.map toH)).length = l.length := by rw [isort_len']; simp
  refine alloc_filler_fill_of ?_
  unfold alloc_filler_fill_w
  refine ⟨_, Rank_r (by simp; omega), fill_l (by omega) (isort leE (l.map toH)).length 0 t out r m (by omega) (by simpa using hf) ha (by omega) (by omega) (fun t' out' h => ?_)⟩
  rw [List.drop_zero] at h
  exact ⟨Rt.i (by rw [h]), Rt.i (by rw [h])⟩
/-! The plan. -/
def planS (t : limit_Table) (out : List HI) : alloc_Plan × Int :=
  if (mergeG [] (out.map (·.Lot))).2 ≠ 0 then (⟨[], 0, 0⟩, (mergeG [] (out.map (·.Lot))).2) else (⟨(mergeG [] (out.map (·.Lot))).1, t.sum, openT t⟩, 0)
def toP (p : alloc_Plan) : lombardref18_Plan := ⟨p.Lots, p.Cover, p.Short⟩
theorem Plan_r {t : limit_Table} {out : List HI} (ht : Tok t) (ho : out.length ≤ 1000) : alloc_filler_plan_r ⟨t, out⟩ (planS t out) := by
  refine alloc_filler_plan_of ?_
  unfold alloc_filler_plan_w planS
  refine ⟨_, LOf_r (by show out.length ≤ _; omega), Br.i (fun c => Rt.i (by rw [if_pos c])) (fun c => ⟨_, TSum_r, _, TOpen_r ht, Rt.i (by rw [if_neg c])⟩)⟩
instance (b : api_Basket) (need : Int) : Decidable (newOk b need) := by unfold newOk; exact instDecidableAnd
def fillS (b : api_Basket) (l : List RI) (need : Int) : alloc_Plan × Int :=
  if ¬ newOk b need then (⟨[], 0, 0⟩, 1) else if wrongS l ≠ 0 then (⟨[], 0, 0⟩, wrongS l) else planS (fillF (newT b need, []) (isort leE (l.map toH))).1 (fillF (newT b need, []) (isort leE (l.map toH))).2
theorem Fill_r {b : api_Basket} {l : List RI} {need : Int} : alloc_Fill_r b (l.map toH) need (fillS b l need) := by
  refine alloc_Fill_of ?_
  unfold alloc_Fill_w fillS
  by_cases h : newOk b need
  · rw [if_neg (fun k => k h)]
    refine .inr ⟨_, New_r1 h, Br.neg (fun k => k rfl) ⟨_, Check_r, Br.i (fun c => Rt.i (by rw [if_pos c])) (fun c => ?_)⟩⟩
    have c := Decidable.not_not.1 c
    obtain ⟨f1, f2⟩ := Fi_new c
    obtain ⟨m', a1, a2, a3, a4⟩ := fillR_al _ _ [] _ 0 f1 (Al_new h) (by rw [isort_len']; simp; omega)
    refine ⟨_, FFill_r f2 f1 (Al_new h) (by omega) (by simp), _, Plan_r a1.tok ?_, Rt.i (by rw [if_neg (fun k => k c)])⟩
    rw [isort_len'] at a3; simp at a3
    show (fillF (newT b need, []) (isort leE (l.map toH))).2.length ≤ 1000
    omega
  · rw [if_pos h]
    exact .inl ⟨_, New_r0 h, Br.pos (by decide) (Rt.i rfl)⟩
/-! The same plan; the chapter's example. -/
theorem lots_l {a : List api_Lot} {Q0 Q1 : Unit → Prop} (hl : a.length ≤ 1000000) (q : Q1 ()) : ∀ (n i : Nat), n + i = a.length → lombardref10_Lots_L0 a a Q0 Q1 (i : Int) := by
  intro n
  induction n with
  | zero =>
    intro i h
    refine lombardref10_Lots_l0 ?_
    unfold lombardref10_Lots_w0
    rw [lenM_eq]
    exact Br.neg (by omega) (Lf.i q)
  | succ n ih =>
    intro i h
    have hs : i < a.length := by omega
    refine lombardref10_Lots_l0 ?_
    unfold lombardref10_Lots_w0
    rw [lenM_eq]
    have g : a[(i : Int).toNat]? = some a[i] := by simp [hs]
    exact Br.pos (by omega) ⟨a[i], Got.i ⟨a[i], Got.i (Br.f (by simp [strEq_true]) (Num.n (by omega) (ih (i + 1) (by omega)))) (by omega) g⟩ (by omega) g⟩
theorem Lots_r {a : List api_Lot} (hl : a.length ≤ 1000000) : lombardref10_Lots_r a a true := by
  refine lombardref10_Lots_of ?_
  unfold lombardref10_Lots_w
  rw [lenM_eq]
  exact Br.f (by simp) (lots_l hl (Rt.i rfl) a.length 0 (by omega))
theorem Same_r {p : alloc_Plan} (hl : p.Lots.length ≤ 1000000) : lombardlaw18_same_r p (toP p) true := by
  refine lombardlaw18_same_of ?_
  unfold lombardlaw18_same_w
  exact ⟨_, Lots_r hl, Br.t rfl (Br.t (by simp [toP]) (Rt.i (by simp [toP])))⟩
def parS (s : ByteArray) (i q : Int) : RI := ⟨⟨s, q⟩, ⟨s, i, 0, 0, ByteArray.empty⟩, 1000000, 0⟩
theorem Par_r (s : ByteArray) (i q : Int) : lombardlaw18_par_r s i q (parS s i q) := by
  refine lombardlaw18_par_of ?_
  unfold lombardlaw18_par_w
  exact Rt.i rfl
theorem awake_r : lombardlaw18_awake_r true := by
  refine lombardlaw18_awake_of ?_
  unfold lombardlaw18_awake_w
  refine ⟨_, Par_r _ _ _, _, Par_r _ _ _, _, items_r (by decide), _, Fill_r, ?_⟩
  have e : fillS (⟨0, 0, ByteArray.empty, 0, 0, 0, [], 500000, 1000000, []⟩ : api_Basket) [parS (⟨#[65]⟩ : ByteArray) 1 80, parS (⟨#[66]⟩ : ByteArray) 2 80] 100 = ((⟨[(⟨(⟨#[65]⟩ : ByteArray), 50⟩ : api_Lot), (⟨(⟨#[66]⟩ : ByteArray), 50⟩ : api_Lot)], 100, 0⟩ : alloc_Plan), 0) := by
    kernel_rfl
  rw [e]
  exact Br.t rfl ⟨_, Same_r (p := ⟨[⟨⟨#[65]⟩, 50⟩, ⟨⟨#[66]⟩, 50⟩], 100, 0⟩) (by decide), Rt.i rfl⟩
end Go.Proofs.YtgncepjnbdhmkaaGreat.Pure
namespace Go.Proofs.YtgncepjnbdhmkaaGreat.Pure
open Go Go.Ab Go.Stable Go.Proofs.YtgncepjnbdhmkaaGreat.R
set_option linter.unusedVariables false
def sumW (p : HI → Bool) : List HI → Int
  | [] => 0
  | y :: l => (if p y = true then covH y else 0) + sumW p l
theorem covH_nn (y : HI) : 0 ≤ covH y := (covC_ok (toR y)).1
theorem sumW_nn (p : HI → Bool) : ∀ l : List HI, 0 ≤ sumW p l
  | [] => Int.le_refl _
  | y :: l => by
    have := covH_nn y; have := sumW_nn p l
    simp only [sumW]; split <;> omega
def pT (_ : HI) : Bool := true
def sumQ (s : ByteArray) : List api_Lot → Int
  | [] => 0
  | y :: l => (if y.ISIN = s then y.Qty else 0) + sumQ s l
theorem qtyG_other {s s' : ByteArray} {q : Int} (hne : s' ≠ s) : ∀ (l : List api_Lot) (d : Bool), qtyG s' (setG s q d l) = qtyG s' l
  | [], true => rfl
  | [], false => by simp only [setG, qtyG]; rw [if_neg (fun e => hne e.symm)]
  | y :: l, d => by
    have ih := qtyG_other (q := q) hne l
    have e1 : ∀ r : List api_Lot, qtyG s' ((if y.ISIN = s then [] else [y]) ++ r) = if y.ISIN = s' then y.Qty else qtyG s' r := fun r => by
      by_cases c : y.ISIN = s
      · rw [if_pos c, if_neg (fun e => hne (by rw [← e, c]))]; rfl
      · rw [if_neg c]; rfl
    cases d with
    | true => simp only [setG]; rw [e1, ih true]; rfl
    | false =>
      simp only [setG]
      split
      · rw [e1, ih false]; rfl
      · show qtyG s' (⟨s, q⟩ :: _) = _
        simp only [qtyG]
        rw [if_neg (fun e => hne e.symm), e1, ih true]
theorem qtyG_add {l : List api_Lot} {x : api_Lot} (h : Lk l) (h0 : (addG l x).2 = 0) (s : ByteArray) : qtyG s (addG l x).1 = qtyG s l + (if x.ISIN = s then x.Qty else 0) := by
  obtain ⟨A, B, e, hA, hB, hc⟩ := add_cases (x := x) h
  unfold addG at h0 ⊢
  split at h0
  · cases h0
  · rename_i n1
    split at h0
    · cases h0
    · rename_i n2
      rw [if_neg n1, if_neg n2]
      by_cases c : x.ISIN = s
      · subst c
        rw [if_pos rfl]
        have : ∀ (q : Int) (R : List api_Lot), qtyG x.ISIN (A ++ ⟨x.ISIN, q⟩ :: R) = q := fun q R => by
          rw [qtyG_A hA]; simp [qtyG]
        rcases hc with ⟨_, c2, c3⟩ | ⟨y, B', _, _, _, c2, c3⟩
        · rw [c3, this]
        · rw [c3, this]
      · rw [if_neg c, Int.add_zero]
        exact qtyG_other (fun e => c e.symm) l false
theorem qtyG_merge (s : ByteArray) : ∀ (l out r : List api_Lot), Lk out → mergeG out l = (r, 0) → qtyG s r = qtyG s out + sumQ s l ∧ Lk r
  | [], out, r, ho, h => by
    simp only [mergeG, Prod.mk.injEq, and_true] at h
    subst h; exact ⟨by simp [sumQ], ho⟩
  | x :: l, out, r, ho, h => by
    simp only [mergeG] at h
    split at h
    · simp at h
    · rename_i c
      split at h
      · rename_i c2; simp only [Prod.mk.injEq] at h; exact absurd h.2 c2
      · rename_i c2
        have c2 := Decidable.not_not.1 c2
        obtain ⟨h1, h2⟩ := qtyG_merge s l _ r (add_ok ho ⟨by omega, by omega⟩ c2) h
        refine ⟨?_, h2⟩
        rw [h1, qtyG_add ho c2 s]
        simp only [sumQ]; omega
theorem RPlus_r {a b : Int} (ha : 0 ≤ a) (hb : 0 ≤ b) (h : a + b ≤ 9223372036854775807) : lombardref01_Plus_r a b (a + b, 0) := by
  refine lombardref01_Plus_of ?_
  unfold lombardref01_Plus_w
  refine Br.i (fun c => Num.n (by omega) (Br.neg (by omega) (Br.neg (by omega) (Num.n (by omega) (Rt.i rfl))))) (fun c => Br.neg (by omega) (Num.n (by omega) (Rt.i rfl)))
theorem total_l {l : List HI} (h2 : l.length ≤ 1000) {Q0 Q1 : Int → Prop} : ∀ (n i : Nat) (acc : Int), n + i = l.length → 0 ≤ acc → acc + sumW pT (l.drop i) ≤ 9223372036854775807 → Q1 (acc + sumW pT (l.drop i)) → lombardref15_Total_L0 (l.map toR) Q0 Q1 acc (i : Int) := by
  intro n
  induction n with
  | zero =>
    intro i acc h ha hb q
    refine lombardref15_Total_l0 ?_
    unfold lombardref15_Total_w0
    rw [lenM_eq, List.length_map]
    rw [List.drop_of_length_le (by omega)] at q
    exact Br.neg (by omega) (Lf.i (by simpa [sumW] using q))
  | succ n ih =>
    intro i acc h ha hb q
    have hi : i < l.length := by omega
    refine lombardref15_Total_l0 ?_
    unfold lombardref15_Total_w0
    rw [lenM_eq, List.length_map]
    rw [List.drop_eq_getElem_cons hi] at q hb
    have g : (l.map toR)[(i : Int).toNat]? = some (toR l[i]) := by simp [hi]
    simp only [sumW, pT, if_true] at q hb
    have nn := sumW_nn pT (l.drop (i + 1))
    have cn := covH_nn l[i]
    have nn' : 0 ≤ sumW (fun _ => true) (l.drop (i + 1)) := nn
    refine Br.pos (by omega) ⟨toR l[i], Got.i ⟨_, RHCovers_r l[i], _, RPlus_r ha cn (by omega), Br.neg (fun k => k rfl) (Num.n (by omega) (ih (i + 1) _ (by omega) (by omega) ?_ ?_))⟩ (by omega) g⟩
    · show acc + covH l[i] + sumW pT (l.drop (i + 1)) ≤ _
      rw [Int.add_assoc]; exact hb
    · show Q1 (acc + covH l[i] + sumW pT (l.drop (i + 1)))
      rw [Int.add_assoc]; exact q
theorem Total15_r {l : List HI} (h2 : l.length ≤ 1000) (hb : sumW pT l ≤ 9223372036854775807) : lombardref15_Total_r (l.map toR) (sumW pT l, 0) := by
  refine lombardref15_Total_of ?_
  unfold lombardref15_Total_w
  exact total_l h2 l.length 0 0 (by omega) (Int.le_refl _) (by simpa using hb) (Rt.i (by simp))
end Go.Proofs.YtgncepjnbdhmkaaGreat.Pure
