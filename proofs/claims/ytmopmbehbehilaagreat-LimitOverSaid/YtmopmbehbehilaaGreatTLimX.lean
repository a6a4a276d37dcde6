/- The reference's table, beside the program's. -/
import Derived.Test.YtmopmbehbehilaaGreatTLimW
set_option linter.unusedVariables false
set_option linter.unusedSimpArgs false
namespace Go.Proofs.YtmopmbehbehilaaGreat.Pure
open Go Go.Ab Go.Proofs.YtmopmbehbehilaaGreat.R

def sumL : List lombardref16_Part → Int
  | [] => 0
  | p :: l => p.Cover + sumL l
theorem sumL_app (l : List lombardref16_Part) (p : lombardref16_Part) : sumL (l ++ [p]) = sumL l + p.Cover := by
  induction l with
  | nil => simp [sumL]
  | cons q l ih => simp only [List.cons_append, sumL, ih]; omega
def Small (l : List lombardref16_Part) : Prop := (∀ p ∈ l, 0 ≤ p.Cover) ∧ sumL l ≤ 9223372036854775807

/-! OfIssuer. -/
def ofI (k : Int) : List lombardref16_Part → Int
  | [] => 0
  | p :: l => (if p.Issuer = k then p.Cover else 0) + ofI k l
theorem ofI_app (k : Int) (l : List lombardref16_Part) (p : lombardref16_Part) : ofI k (l ++ [p]) = ofI k l + (if p.Issuer = k then p.Cover else 0) := by
  induction l with
  | nil => simp [ofI]
  | cons q l ih => simp only [List.cons_append, ofI, ih]; omega
theorem ofI_none {k : Int} : ∀ {l : List lombardref16_Part}, k ∉ l.map (·.Issuer) → ofI k l = 0
  | [], _ => rfl
  | p :: l, h => by
    simp only [List.map_cons, List.mem_cons, not_or] at h
    simp only [ofI]; rw [if_neg (fun e => h.1 e.symm), ofI_none h.2]; rfl
theorem ofI_nn {k : Int} : ∀ {l : List lombardref16_Part}, (∀ p ∈ l, 0 ≤ p.Cover) → 0 ≤ ofI k l ∧ ofI k l ≤ sumL l
  | [], _ => ⟨Int.le_refl 0, Int.le_refl 0⟩
  | p :: l, h => by
    have h1 := ofI_nn (k := k) (l := l) fun q hq => h q (List.mem_cons_of_mem _ hq)
    have h2 := h p (by simp)
    simp only [ofI, sumL]
    split <;> omega
theorem ofI_l {r : lombardref16_Table} {k : Int} {Q : Int → Prop} (hb : ∀ p ∈ r.L, 0 ≤ p.Cover) (hl : r.L.length ≤ 1000) : ∀ (n s : Nat) (acc : Int), n + s = r.L.length → 0 ≤ acc → acc + ofI k (r.L.drop s) ≤ 9223372036854775807 → Q (acc + ofI k (r.L.drop s)) → _lombardref16_Table_OfIssuer_L0 k r Q acc (s : Int) := by
  intro n
  induction n with
  | zero =>
    intro s acc h _ _ q
    refine _lombardref16_Table_OfIssuer_l0 ?_
    unfold _lombardref16_Table_OfIssuer_w0
    rw [lenM_eq]
    refine Br.neg (by omega) (Lf.i ?_)
    rw [List.drop_of_length_le (by omega)] at q
    simpa [ofI] using q
  | succ n ih =>
    intro s acc h h0 h1 q
    have hs : s < r.L.length := by omega
    refine _lombardref16_Table_OfIssuer_l0 ?_
    unfold _lombardref16_Table_OfIssuer_w0
    rw [lenM_eq]
    rw [List.drop_eq_getElem_cons hs] at q h1
    have hm := hb _ (List.getElem_mem hs)
    have nn := (ofI_nn (k := k) (l := r.L.drop (s + 1)) fun p hp => hb p (List.mem_of_mem_drop hp)).1
    have g : r.L[(s : Int).toNat]? = some r.L[s] := by simp [hs]
    simp only [ofI] at q h1
    refine Br.pos (by omega) ⟨r.L[s], Got.i (Br.i (fun c => ?_) (fun c => ?_)) (by omega) g⟩
    · rw [if_pos c] at q h1
      rw [← Int.add_assoc] at q h1
      exact Got.i (Num.n (by omega) (Num.n (by omega) (ih (s + 1) _ (by omega) (by omega) h1 q))) (by omega) g
    · rw [if_neg c, Int.zero_add] at q h1
      exact Num.n (by omega) (ih (s + 1) _ (by omega) h0 h1 q)
theorem ROfI_r {r : lombardref16_Table} {k : Int} (hb : Small r.L) (hl : r.L.length ≤ 1000) : _lombardref16_Table_OfIssuer_r r k (ofI k r.L) := by
  have nn := ofI_nn (k := k) hb.1
  have := hb.2
  refine _lombardref16_Table_OfIssuer_of ?_
  unfold _lombardref16_Table_OfIssuer_w
  exact ofI_l hb.1 hl _ 0 0 rfl (by omega) (by simp; omega) (Rt.i (by simp))

theorem nextI_l {r : lombardref16_Table} {last : Int} {hv : Bool} {acc : List lombardref16_Use} {Q : Int × Bool → Prop} (hl : r.L.length ≤ 1000) : ∀ (n s : Nat) (p : Int × Bool), n + s = r.L.length → Q (nextP (fun a b : Int => a < b) hv last ((r.L.drop s).map (·.Issuer)) p) → _lombardref16_Table_Uses_L1 last hv r acc Q p.1 p.2 (s : Int)
  | 0, s, p, h, q => by
    refine _lombardref16_Table_Uses_l1 ?_
    unfold _lombardref16_Table_Uses_w1
    rw [lenM_eq]
    refine Br.neg (by omega) (Lf.i ?_)
    rw [List.drop_of_length_le (by omega)] at q
    exact q
  | n + 1, s, (b, f), h, q => by
    have hs : s < r.L.length := by omega
    refine _lombardref16_Table_Uses_l1 ?_
    unfold _lombardref16_Table_Uses_w1
    rw [lenM_eq]
    rw [List.drop_eq_getElem_cons hs, List.map_cons] at q
    have q : Q (nextP (fun a b : Int => a < b) hv last ((r.L.drop (s + 1)).map (·.Issuer)) (stepP (fun a b : Int => a < b) hv last (b, f) r.L[s].Issuer)) := q
    have g : r.L[(s : Int).toNat]? = some r.L[s] := by simp [hs]
    have go : ∀ p', stepP (fun a b : Int => a < b) hv last (b, f) r.L[s].Issuer = p' → Num .i64 ((s : Int) + 1) (_lombardref16_Table_Uses_L1 last hv r acc Q p'.1 p'.2 ((s : Int) + 1)) := by
      intro p' e
      rw [e] at q
      exact Num.n (by omega) (nextI_l hl n (s + 1) p' (by omega) q)
    refine Br.pos (by omega) ⟨r.L[s], Got.i ?_ (by omega) g⟩
    have inn : okk (fun a b : Int => a < b) hv last r.L[s].Issuer → Br (!f) (Num .i64 ((s : Int) + 1) (_lombardref16_Table_Uses_L1 last hv r acc Q r.L[s].Issuer true ((s : Int) + 1))) (Br (decide (r.L[s].Issuer < b)) (Num .i64 ((s : Int) + 1) (_lombardref16_Table_Uses_L1 last hv r acc Q r.L[s].Issuer true ((s : Int) + 1))) (Num .i64 ((s : Int) + 1) (_lombardref16_Table_Uses_L1 last hv r acc Q b f ((s : Int) + 1)))) := by
      intro ho
      cases f with
      | false => exact Br.t rfl (go (_, true) (by unfold stepP; rw [if_pos ho, if_pos rfl]))
      | true =>
        refine Br.f rfl (Br.b (fun c => go (_, true) ?_) (fun c => go (b, true) ?_))
        · skip
          unfold stepP; rw [if_pos ho, if_neg (by simp), if_pos (of_decide_eq_true c)]
        · skip
          unfold stepP; rw [if_pos ho, if_neg (by simp), if_neg (of_decide_eq_false c)]
    cases hv with
    | false => exact Br.t rfl (inn (.inl rfl))
    | true =>
      refine Br.f rfl (Br.b (fun c => inn (.inr ?_)) (fun c => go (b, f) ?_))
      · exact of_decide_eq_true c
      · have c := of_decide_eq_false c
        unfold stepP; rw [if_neg]
        intro h
        exact c (h.resolve_left (by simp))

/-! OfAsset. -/
def ofA (k : ByteArray) : List lombardref16_Part → Int
  | [] => 0
  | p :: l => (if p.ISIN = k then p.Cover else 0) + ofA k l
theorem ofA_app (k : ByteArray) (l : List lombardref16_Part) (p : lombardref16_Part) : ofA k (l ++ [p]) = ofA k l + (if p.ISIN = k then p.Cover else 0) := by
  induction l with
  | nil => simp [ofA]
  | cons q l ih => simp only [List.cons_append, ofA, ih]; omega
theorem ofA_none {k : ByteArray} : ∀ {l : List lombardref16_Part}, k ∉ l.map (·.ISIN) → ofA k l = 0
  | [], _ => rfl
  | p :: l, h => by
    simp only [List.map_cons, List.mem_cons, not_or] at h
    simp only [ofA]; rw [if_neg (fun e => h.1 e.symm), ofA_none h.2]; rfl
theorem ofA_nn {k : ByteArray} : ∀ {l : List lombardref16_Part}, (∀ p ∈ l, 0 ≤ p.Cover) → 0 ≤ ofA k l ∧ ofA k l ≤ sumL l
  | [], _ => ⟨Int.le_refl 0, Int.le_refl 0⟩
  | p :: l, h => by
    have h1 := ofA_nn (k := k) (l := l) fun q hq => h q (List.mem_cons_of_mem _ hq)
    have h2 := h p (by simp)
    simp only [ofA, sumL]
    split <;> omega
theorem ofA_l {r : lombardref16_Table} {k : ByteArray} {Q : Int → Prop} (hb : ∀ p ∈ r.L, 0 ≤ p.Cover) (hl : r.L.length ≤ 1000) : ∀ (n s : Nat) (acc : Int), n + s = r.L.length → 0 ≤ acc → acc + ofA k (r.L.drop s) ≤ 9223372036854775807 → Q (acc + ofA k (r.L.drop s)) → _lombardref16_Table_OfAsset_L0 k r Q acc (s : Int) := by
  intro n
  induction n with
  | zero =>
    intro s acc h _ _ q
    refine _lombardref16_Table_OfAsset_l0 ?_
    unfold _lombardref16_Table_OfAsset_w0
    rw [lenM_eq]
    refine Br.neg (by omega) (Lf.i ?_)
    rw [List.drop_of_length_le (by omega)] at q
    simpa [ofA] using q
  | succ n ih =>
    intro s acc h h0 h1 q
    have hs : s < r.L.length := by omega
    refine _lombardref16_Table_OfAsset_l0 ?_
    unfold _lombardref16_Table_OfAsset_w0
    rw [lenM_eq]
    rw [List.drop_eq_getElem_cons hs] at q h1
    have hm := hb _ (List.getElem_mem hs)
    have nn := (ofA_nn (k := k) (l := r.L.drop (s + 1)) fun p hp => hb p (List.mem_of_mem_drop hp)).1
    have g : r.L[(s : Int).toNat]? = some r.L[s] := by simp [hs]
    simp only [ofA] at q h1
    refine Br.pos (by omega) ⟨r.L[s], Got.i (Br.i (fun c => ?_) (fun c => ?_)) (by omega) g⟩
    · rw [if_pos c] at q h1
      rw [← Int.add_assoc] at q h1
      exact Got.i (Num.n (by omega) (Num.n (by omega) (ih (s + 1) _ (by omega) (by omega) h1 q))) (by omega) g
    · rw [if_neg c, Int.zero_add] at q h1
      exact Num.n (by omega) (ih (s + 1) _ (by omega) h0 h1 q)
theorem ROfA_r {r : lombardref16_Table} {k : ByteArray} (hb : Small r.L) (hl : r.L.length ≤ 1000) : _lombardref16_Table_OfAsset_r r k (ofA k r.L) := by
  have nn := ofA_nn (k := k) hb.1
  have := hb.2
  refine _lombardref16_Table_OfAsset_of ?_
  unfold _lombardref16_Table_OfAsset_w
  exact ofA_l hb.1 hl _ 0 0 rfl (by omega) (by simp; omega) (Rt.i (by simp))

theorem nextA_l {r : lombardref16_Table} {last : ByteArray} {hv : Bool} {acc : List lombardref16_Use} {Q : ByteArray × Bool → Prop} (hl : r.L.length ≤ 1000) : ∀ (n s : Nat) (p : ByteArray × Bool), n + s = r.L.length → Q (nextP bLt hv last ((r.L.drop s).map (·.ISIN)) p) → _lombardref16_Table_assets_L1 last hv r acc Q p.1 p.2 (s : Int)
  | 0, s, p, h, q => by
    refine _lombardref16_Table_assets_l1 ?_
    unfold _lombardref16_Table_assets_w1
    rw [lenM_eq]
    refine Br.neg (by omega) (Lf.i ?_)
    rw [List.drop_of_length_le (by omega)] at q
    exact q
  | n + 1, s, (b, f), h, q => by
    have hs : s < r.L.length := by omega
    refine _lombardref16_Table_assets_l1 ?_
    unfold _lombardref16_Table_assets_w1
    rw [lenM_eq]
    rw [List.drop_eq_getElem_cons hs, List.map_cons] at q
    have q : Q (nextP bLt hv last ((r.L.drop (s + 1)).map (·.ISIN)) (stepP bLt hv last (b, f) r.L[s].ISIN)) := q
    have g : r.L[(s : Int).toNat]? = some r.L[s] := by simp [hs]
    have go : ∀ p', stepP bLt hv last (b, f) r.L[s].ISIN = p' → Num .i64 ((s : Int) + 1) (_lombardref16_Table_assets_L1 last hv r acc Q p'.1 p'.2 ((s : Int) + 1)) := by
      intro p' e
      rw [e] at q
      exact Num.n (by omega) (nextA_l hl n (s + 1) p' (by omega) q)
    refine Br.pos (by omega) ⟨r.L[s], Got.i ?_ (by omega) g⟩
    have inn : okk bLt hv last r.L[s].ISIN → Br (!f) (Num .i64 ((s : Int) + 1) (_lombardref16_Table_assets_L1 last hv r acc Q r.L[s].ISIN true ((s : Int) + 1))) (Br (strLt r.L[s].ISIN b) (Num .i64 ((s : Int) + 1) (_lombardref16_Table_assets_L1 last hv r acc Q r.L[s].ISIN true ((s : Int) + 1))) (Num .i64 ((s : Int) + 1) (_lombardref16_Table_assets_L1 last hv r acc Q b f ((s : Int) + 1)))) := by
      intro ho
      cases f with
      | false => exact Br.t rfl (go (_, true) (by unfold stepP; rw [if_pos ho, if_pos rfl]))
      | true =>
        refine Br.f rfl (Br.b (fun c => go (_, true) ?_) (fun c => go (b, true) ?_))
        · rw [strLt_eq] at c
          unfold stepP; rw [if_pos ho, if_neg (by simp), if_pos (of_decide_eq_true c)]
        · rw [strLt_eq] at c
          unfold stepP; rw [if_pos ho, if_neg (by simp), if_neg (of_decide_eq_false c)]
    cases hv with
    | false => exact Br.t rfl (inn (.inl rfl))
    | true =>
      refine Br.f rfl (Br.b (fun c => inn (.inr ?_)) (fun c => go (b, f) ?_))
      · rw [strLe_eq] at c; simpa using c
      · have c : ¬ bLt last r.L[s].ISIN := by rw [strLe_eq] at c; simpa using c
        unfold stepP; rw [if_neg]
        intro h
        exact c (h.resolve_left (by simp))
end Go.Proofs.YtmopmbehbehilaaGreat.Pure
