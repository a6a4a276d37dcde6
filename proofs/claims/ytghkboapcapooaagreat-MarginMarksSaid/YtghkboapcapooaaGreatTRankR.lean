/- Items in order. -/
import Derived.Test.YtghkboapcapooaaGreatTSortE
import Derived.Test.YtghkboapcapooaaGreatTClone
set_option linter.unusedVariables false
set_option linter.unusedSimpArgs false
namespace Go.Proofs.YtghkboapcapooaaGreat.Pure
open Go Go.Ab Go.Stable Go.Proofs.YtghkboapcapooaaGreat.R
theorem Rank_r {l : List haircut_Item} (h : l.length ≤ 1000000000) : lots_Rank_r l (isort leE l) := by
  refine lots_Rank_of ?_
  unfold lots_Rank_w
  exact ⟨_, Clone91_r h, _, sort_r l (by simp only [Big]; omega), Rt.i rfl⟩
end Go.Proofs.YtghkboapcapooaaGreat.Pure
namespace Go.Proofs.YtghkboapcapooaaGreat.Pure
open Go Go.Ab Go.Stable Go.Proofs.YtghkboapcapooaaGreat.R
set_option linter.unusedVariables false
abbrev RI := lombardref15_Item
abbrev HI := haircut_Item
def toR (x : HI) : RI := ⟨x.Lot, x.Asset, x.Price, x.Cut⟩
def toH (x : RI) : HI := ⟨x.Lot, x.Asset, x.Price, x.Cut⟩
theorem toH_toR (l : List HI) : (l.map toR).map toH = l := by rw [List.map_map]; exact List.map_id' l
theorem app96 {n : Nat} (h : n ≤ 3000000) : App 96 n := ⟨by unfold maxLen; omega, by omega⟩
theorem ahead_eq (a b : RI) : lombardref17_Ahead_r a b (!leE (toH b) (toH a)) := by
  refine lombardref17_Ahead_of ?_
  unfold lombardref17_Ahead_w
  have key : (!leE (toH b) (toH a)) = decide (¬ leP (toH b) (toH a)) := by
    unfold leE; by_cases k : leP (toH b) (toH a)
    · rw [decide_eq_true k, decide_eq_false (fun h => h k)]; rfl
    · rw [decide_eq_false k, decide_eq_true k]; rfl
  rw [key]
  refine Br.i (fun c => Rt.i ?_) (fun c => Br.i (fun c2 => Rt.i ?_) (fun c2 => Rt.i ?_))
  · refine decide_eq_decide.2 ?_
    unfold leP
    constructor
    · intro h k
      rcases k with k | ⟨k, _⟩
      · have k : b.Cut < a.Cut := k
        omega
      · exact c k.symm
    · intro h
      have : ¬ b.Cut < a.Cut := fun k => h (.inl k)
      omega
  · have c := Decidable.not_not.1 c
    refine decide_eq_decide.2 ?_
    unfold leP
    constructor
    · intro h k
      rcases k with k | ⟨_, k | ⟨k, _⟩⟩
      · have k : b.Cut < a.Cut := k
        omega
      · have k : b.Asset.Maturity < a.Asset.Maturity := k
        omega
      · exact c2 k.symm
    · intro h
      have : ¬ b.Asset.Maturity < a.Asset.Maturity := fun k => h (.inr ⟨c.symm, .inl k⟩)
      omega
  · have c := Decidable.not_not.1 c
    have c2 := Decidable.not_not.1 c2
    rw [strLt_s]
    refine decide_eq_decide.2 ?_
    unfold leP
    constructor
    · intro h k
      rcases k with k | ⟨_, k | ⟨_, k⟩⟩
      · have k : b.Cut < a.Cut := k
        omega
      · have k : b.Asset.Maturity < a.Asset.Maturity := k
        omega
      · exact k h
    · intro h
      exact Decidable.byContradiction fun k => h (.inr ⟨c.symm, .inr ⟨c2.symm, k⟩⟩)
theorem rank_l1 {l : List RI} {out : List HI} {i : Nat} (hi : i < l.length) (hl : l.length ≤ 1000) (ho : out.length ≤ 1000) {Q : Int → Prop}
    (q : ∀ m : Nat, m ≤ out.length → (m = 0 ∨ leE (at_ out (m - 1)) (toH l[i]) = true) → (m < out.length → leE (at_ out m) (toH l[i]) = false) → Q m) :
    ∀ (m : Nat), m ≤ out.length → (m < out.length → leE (at_ out m) (toH l[i]) = false) → lombardref17_Rank_L1 l i (out.map toR) Q (m : Int) := by
  intro m
  induction m with
  | zero =>
    intro hm h
    refine lombardref17_Rank_l1 ?_
    unfold lombardref17_Rank_w1
    exact Br.neg (by omega) (Lf.i (q 0 hm (.inl rfl) h))
  | succ m ih =>
    intro hm h
    refine lombardref17_Rank_l1 ?_
    unfold lombardref17_Rank_w1
    have g : l[(i : Int).toNat]? = some l[i] := by simp [hi]
    have e : ((m + 1 : Nat) : Int) - 1 = (m : Int) := by omega
    rw [e]
    have hm' : m < out.length := by omega
    have g2 : (out.map toR)[(m : Int).toNat]? = some (toR (at_ out m)) := by
      rw [Int.toNat_natCast, List.getElem?_map, get_at hm']; rfl
    refine Br.pos (by omega) ⟨l[i], Got.i (Num.n (by omega) (InL.i ⟨toR (at_ out m), EltG.i ⟨_, ahead_eq _ _, ?_⟩ g2⟩ (by omega) (by simpa using hm'))) (by omega) g⟩
    refine Br.b (fun c => Num.n (by omega) (ih (by omega) (fun _ => by have c2 : (!leE (at_ out m) (toH l[i])) = true := c; simpa using c2))) (fun c => Lf.i (q (m + 1) hm (.inr ?_) h))
    have c2 : (!leE (at_ out m) (toH l[i])) = false := c
    simpa using c2
theorem rank_l0 {l : List RI} (hl : l.length ≤ 1000) {Q : List RI → Prop} : ∀ (n i : Nat) (out : List HI), n + i = l.length → out.length = i → Srt out → Q (((l.drop i).map toH).foldl (insS leE) out |>.map toR) → lombardref17_Rank_L0 l Q (i : Int) (out.map toR) := by
  intro n
  induction n with
  | zero =>
    intro i out h ho hs q
    refine lombardref17_Rank_l0 ?_
    unfold lombardref17_Rank_w0
    rw [lenM_eq]
    rw [List.drop_of_length_le (by omega)] at q
    exact Br.neg (by omega) (Lf.i (by simpa using q))
  | succ n ih =>
    intro i out h ho hs q
    have hi : i < l.length := by omega
    refine lombardref17_Rank_l0 ?_
    unfold lombardref17_Rank_w0
    rw [lenM_eq, lenM_eq, List.length_map]
    rw [List.drop_eq_getElem_cons hi, List.map_cons, List.foldl_cons] at q
    have g : l[(i : Int).toNat]? = some l[i] := by simp [hi]
    refine Br.pos (by omega) (rank_l1 hi hl (by omega) (fun m hm h1 h2 => ?_) out.length (Nat.le_refl _) (fun h => by omega))
    have tk : ((out.map toR).take ((m : Int)).toNat) = (out.take m).map toR := by simp [List.map_take]
    have dr : ((out.map toR).drop ((m : Int)).toNat) = (out.drop m).map toR := by simp [List.map_drop]
    rw [tk, dr]
    have lt : ((out.take m).map toR).length = m := by simp; omega
    have ld : ((out.drop m).map toR).length = i - m := by simp; omega
    have e : insS leE out (toH l[i]) = out.take m ++ toH l[i] :: out.drop m := by
      have := insS_back (le := leE) (toH l[i]) (out.take m) (out.drop m) (fun a ha => ?_) (fun a ha => ?_)
      · rwa [List.take_append_drop] at this
      · have m0 : 0 < m := Nat.pos_of_ne_zero fun k => by subst k; simp at ha
        have h1 := h1.resolve_left (by omega)
        obtain ⟨j, hj, rfl⟩ := List.getElem_of_mem ha
        have hj' : j < m := by simp at hj; omega
        rw [List.getElem_take]
        have a1 : at_ out (m - 1) = out[m - 1]'(by omega) := at_of (List.getElem?_eq_getElem (by omega))
        rw [a1] at h1
        by_cases k : j = m - 1
        · subst k; exact h1
        · exact leE_trans _ _ _ (List.pairwise_iff_getElem.1 hs j (m - 1) (by omega) (by omega) (by omega)) h1
      · have hm2 : m < out.length := Nat.lt_of_not_le fun k => by rw [List.drop_of_length_le k] at ha; cases ha
        have h2 := h2 hm2
        rw [List.drop_eq_getElem_cons hm2] at ha
        cases ha
        have a1 : at_ out m = out[m] := at_of (List.getElem?_eq_getElem hm2)
        rw [a1] at h2; exact h2
    refine CutLh.i ⟨by omega, by simpa using hm⟩ (ApZ.i (app96 (by omega)) ⟨l[i], Got.i (App2.i (app96 (by simp; omega)) (CutLl.i ⟨by omega, by simpa using hm⟩ (App2.i (app96 (by simp; omega)) (Num.n (by omega) ?_)))) (by omega) g⟩)
    have := ih (i + 1) (insS leE out (toH l[i])) (by omega) (by rw [e]; simp; omega) (mg_sorted leE_trans leE_total _ _ hs (List.pairwise_singleton _ _)) q
    rw [e, List.map_append, List.map_cons] at this
    rw [List.append_assoc]
    exact this
theorem RRank_r {l : List RI} (hl : l.length ≤ 1000) : lombardref17_Rank_r l ((isort leE (l.map toH)).map toR) := by
  refine lombardref17_Rank_of ?_
  unfold lombardref17_Rank_w
  exact rank_l0 hl l.length 0 [] (by omega) rfl List.Pairwise.nil (Rt.i (by simp [isort]))
end Go.Proofs.YtghkboapcapooaaGreat.Pure
