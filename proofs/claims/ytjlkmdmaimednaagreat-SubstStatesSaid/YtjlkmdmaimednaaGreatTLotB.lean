/- limit's tables as plain things. -/
import Derived.Test.YtjlkmdmaimednaaGreatAbX
import Derived.Test.YtjlkmdmaimednaaGreatRT
import Derived.Test.YtjlkmdmaimednaaGreatTBigB
import Derived.Test.YtjlkmdmaimednaaGreatTRankR
import Derived.Test.YtjlkmdmaimednaaGreatINC
import Derived.Test.YtjlkmdmaimednaaGreatRI
set_option linter.unusedVariables false
set_option linter.unusedSimpArgs false
namespace Go.Proofs.YtjlkmdmaimednaaGreat.Pure
open Go Go.Ab Go.Proofs.YtjlkmdmaimednaaGreat.R

theorem iok {n : Int} (h : -9223372036854775808 ≤ n ∧ n ≤ 9223372036854775807) : InR n := h

theorem New_1_r {a c : Int} (ha : InR a) (hc : InR c) : limit_New_1_r a c (mulDivS c a 1000000 1).1 := by
  refine limit_New_1_of ?_
  unfold limit_New_1_w
  exact ⟨_, MulDiv_r hc ha (by decide), Rt.i rfl⟩

def newT (b : api_Basket) (need : Int) : limit_Table := ⟨need, (mulDivS need b.Issuer 1000000 1).1, (mulDivS need b.Asset 1000000 1).1, GM.nil, GM.nil, 0⟩
def newOk (b : api_Basket) (need : Int) : Prop := 0 ≤ need ∧ need ≤ 1125899906842624 ∧ 0 ≤ b.Issuer ∧ b.Issuer ≤ 1000000 ∧ 0 ≤ b.Asset ∧ b.Asset ≤ 1000000

theorem New_r1 {b : api_Basket} {need : Int} (h : newOk b need) : limit_New_r1 b need (newT b need, 0) := by
  obtain ⟨h1, h2, h3, h4, h5, h6⟩ := h
  refine limit_New_of1 ?_
  unfold limit_New_w
  refine Br.neg (by omega) (Br.neg (by omega) (Br.neg (by omega) (Br.neg (by omega) (Br.neg (by omega) (Br.neg (by omega) ⟨_, New_1_r (iok (by omega)) (iok (by omega)), _, New_1_r (iok (by omega)) (iok (by omega)), Rt.i rfl⟩)))))

def room (t : limit_Table) (a : api_Asset) : Int := max 0 (min (t.issuer - t.issuers.getD a.Issuer 0) (t.asset - t.assets.getD a.ISIN 0))
def putT (t : limit_Table) (a : api_Asset) (n : Int) : limit_Table := ⟨t.need, t.issuer, t.asset, t.issuers.put a.Issuer (t.issuers.getD a.Issuer 0 + n), t.assets.put a.ISIN (t.assets.getD a.ISIN 0 + n), t.sum + n⟩
theorem getL_put {κ ν : Type} [DecidableEq κ] {k : κ} {v : ν} {c : Nat} (q : κ) : ∀ l : List (κ × Nat × ν), getL q (putL k v c l) = if q = k then some v else getL q l
  | [] => by simp only [putL, getL]
  | x :: l => by
    simp only [putL]
    split
    · rename_i h
      simp only [getL]
      by_cases hq : q = k
      · simp [hq]
      · have : ¬ q = x.1 := fun e => hq (by rw [e, h])
        rw [if_neg hq, if_neg hq, if_neg this]
    · rename_i h
      simp only [getL]
      rw [getL_put q l]
      by_cases hq : q = k
      · subst hq; rw [if_neg h]; simp
      · simp [hq]
theorem getD_put {κ ν : Type} [DecidableEq κ] {m : GM κ ν} {k : κ} {v z : ν} (q : κ) : (m.put k v).getD q z = if q = k then v else m.getD q z := by
  unfold GM.getD GM.put GM.get?
  show (getL q (putL k v m.clock m.es)).getD z = _
  rw [getL_put]; split <;> rfl

end Go.Proofs.YtjlkmdmaimednaaGreat.Pure
namespace Go.Proofs.YtjlkmdmaimednaaGreat.Pure
open Go Go.Ab Go.Proofs.YtjlkmdmaimednaaGreat.R
set_option linter.unusedVariables false
/-! Covers. -/
theorem mulDiv_ok (a b c : Int) : 0 ≤ a → 0 ≤ b → 0 ≤ c → 0 ≤ (mulDivS a b c 1).1 ∧ (mulDivS a b c 1).1 ≤ 9223372036854775807 ∧ ((mulDivS a b c 1).2 ≠ 0 → (mulDivS a b c 1).1 = 0) := by
  intro ha hb hc
  unfold mulDivS
  by_cases h : c = 0 ∨ (1 : Int) < 1 ∨ (4 : Int) < 1
  · rw [if_pos h]; exact ⟨by decide, by decide, fun _ => rfl⟩
  · rw [if_neg h]
    have m : minusOf a b c = false := by unfold minusOf; rw [decide_eq_false (by omega), decide_eq_false (by omega), decide_eq_false (by omega)]; rfl
    simp only [m]
    have u : ∀ q r d, upOf false q r d 1 = false := by intro q r d; unfold upOf; simp
    rw [u]
    simp only [Bool.false_eq_true, if_false, Int.add_zero]
    have q0 : 0 ≤ ((a.natAbs : Int) * b.natAbs) / (c.natAbs : Int) := Int.ediv_nonneg (Int.mul_nonneg (by omega) (by omega)) (by omega)
    generalize ((a.natAbs : Int) * b.natAbs) / (c.natAbs : Int) = q at q0 ⊢
    unfold signOf
    split
    · exact ⟨by decide, by decide, fun _ => rfl⟩
    · rename_i hq
      simp only [Bool.false_eq_true, if_false]
      exact ⟨q0, by simp at hq; omega, fun h => absurd rfl h⟩

def worthS (q p : Int) : Int × Int := if q < 0 then (0, 1) else if 1125899906842624 < q then (0, 1) else if p < 1 then (0, 1) else if 4294967296 < p then (0, 1) else mulDivS q p 1000000 1
theorem worth_ok (q p : Int) : 0 ≤ (worthS q p).1 ∧ (worthS q p).1 ≤ 9223372036854775807 ∧ ((worthS q p).2 ≠ 0 → (worthS q p).1 = 0) := by
  unfold worthS
  split
  · exact ⟨by decide, by decide, fun _ => rfl⟩
  split
  · exact ⟨by decide, by decide, fun _ => rfl⟩
  split
  · exact ⟨by decide, by decide, fun _ => rfl⟩
  split
  · exact ⟨by decide, by decide, fun _ => rfl⟩
  · exact mulDiv_ok _ _ _ (by omega) (by omega) (by decide)
theorem Worth_r {q p : Int} : asset_Worth_r q p (worthS q p) := by
  refine asset_Worth_of ?_
  unfold asset_Worth_w worthS
  refine Br.i (fun c => Rt.i (by rw [if_pos c])) (fun c1 => Br.i (fun c => Rt.i (by rw [if_neg c1, if_pos c])) (fun c2 => Br.i (fun c => Rt.i (by rw [if_neg c1, if_neg c2, if_pos c])) (fun c3 => Br.i (fun c => Rt.i (by rw [if_neg c1, if_neg c2, if_neg c3, if_pos c])) (fun c4 => ?_))))
  exact ⟨_, MulDiv_r (iok (by omega)) (iok (by omega)) (by decide), Rt.i (by rw [if_neg c1, if_neg c2, if_neg c3, if_neg c4])⟩
theorem RWorth_r {q p : Int} : lombardref13_Worth_r q p (worthS q p) := by
  refine lombardref13_Worth_of ?_
  unfold lombardref13_Worth_w worthS
  refine Br.i (fun c => Rt.i (by rw [if_pos c])) (fun c1 => Br.i (fun c => Rt.i (by rw [if_neg c1, if_pos c])) (fun c2 => Br.i (fun c => Rt.i (by rw [if_neg c1, if_neg c2, if_pos c])) (fun c3 => Br.i (fun c => Rt.i (by rw [if_neg c1, if_neg c2, if_neg c3, if_pos c])) (fun c4 => ?_))))
  exact ⟨_, RMulDiv_r (iok (by omega)) (iok (by omega)) (by decide), Rt.i (by rw [if_neg c1, if_neg c2, if_neg c3, if_neg c4])⟩
def goodS (p c : Int) : Bool := decide (p ≥ 1) && (decide (p ≤ 4294967296) && (decide (c ≥ 0) && decide (c < 1000000)))
theorem good_r {p c : Int} : haircut_good_r p c (goodS p c) := by
  refine haircut_good_of ?_
  unfold haircut_good_w goodS
  refine Br.i (fun c1 => Br.i (fun c2 => Br.i (fun c3 => Rt.i ?_) (fun c3 => Rt.i ?_)) (fun c2 => Rt.i ?_)) (fun c1 => Rt.i ?_)
  · rw [decide_eq_true c1, decide_eq_true c2, decide_eq_true c3]; rfl
  · rw [decide_eq_true c1, decide_eq_true c2, decide_eq_false c3]; rfl
  · rw [decide_eq_true c1, decide_eq_false c2]; rfl
  · rw [decide_eq_false c1]; rfl
theorem Rgood_r {p c : Int} : lombardref15_good_r p c (goodS p c) := by
  refine lombardref15_good_of ?_
  unfold lombardref15_good_w goodS
  refine Br.i (fun c1 => Br.i (fun c2 => Br.i (fun c3 => Rt.i ?_) (fun c3 => Rt.i ?_)) (fun c2 => Rt.i ?_)) (fun c1 => Rt.i ?_)
  · rw [decide_eq_true c1, decide_eq_true c2, decide_eq_true c3]; rfl
  · rw [decide_eq_true c1, decide_eq_true c2, decide_eq_false c3]; rfl
  · rw [decide_eq_true c1, decide_eq_false c2]; rfl
  · rw [decide_eq_false c1]; rfl
def coverS (q p c : Int) : Int × Int := if goodS p c = false then (0, 1) else if (worthS q p).2 ≠ 0 then (0, (worthS q p).2) else mulDivS (worthS q p).1 (1000000 - c) 1000000 1
theorem cover_ok (q p c : Int) : 0 ≤ (coverS q p c).1 ∧ (coverS q p c).1 ≤ 9223372036854775807 ∧ ((coverS q p c).2 ≠ 0 → (coverS q p c).1 = 0) := by
  unfold coverS
  split
  · exact ⟨by decide, by decide, fun _ => rfl⟩
  split
  · exact ⟨Int.le_refl 0, (by decide : (0 : Int) ≤ 9223372036854775807), fun _ => rfl⟩
  · rename_i h _
    have g : 0 ≤ c ∧ c < 1000000 := by
      unfold goodS at h; simp at h; omega
    exact mulDiv_ok _ _ _ (worth_ok q p).1 (by omega) (by decide)
theorem goodS_c {p c : Int} (h : ¬ goodS p c = false) : 0 ≤ c ∧ c < 1000000 := by unfold goodS at h; simp at h; omega
theorem Cover_r {q p c : Int} : haircut_Cover_r q p c (coverS q p c) := by
  refine haircut_Cover_of ?_
  unfold haircut_Cover_w
  have w := worth_ok q p
  refine ⟨_, good_r, Br.b (fun h => Rt.i ?_) (fun h => ?_)⟩
  · unfold coverS; rw [if_pos (by simpa using h)]
  · have h' : ¬ goodS p c = false := by simpa using h
    have g := goodS_c h'
    refine ⟨_, Worth_r, Br.i (fun c1 => Rt.i ?_) (fun c1 => Num.n (by omega) ⟨_, MulDiv_r (iok (by omega)) (iok (by omega)) (by decide), Rt.i ?_⟩)⟩
    · unfold coverS; rw [if_neg h', if_pos c1]
    · unfold coverS; rw [if_neg h', if_neg c1]
theorem RCover_r {q p c : Int} : lombardref15_Cover_r q p c (coverS q p c) := by
  refine lombardref15_Cover_of ?_
  unfold lombardref15_Cover_w
  have w := worth_ok q p
  refine ⟨_, Rgood_r, Br.b (fun h => Rt.i ?_) (fun h => ?_)⟩
  · unfold coverS; rw [if_pos (by simpa using h)]
  · have h' : ¬ goodS p c = false := by simpa using h
    have g := goodS_c h'
    refine ⟨_, RWorth_r, Br.i (fun c1 => Rt.i ?_) (fun c1 => Num.n (by omega) ⟨_, RMulDiv_r (iok (by omega)) (iok (by omega)) (by decide), Rt.i ?_⟩)⟩
    · unfold coverS; rw [if_neg h', if_pos c1]
    · unfold coverS; rw [if_neg h', if_neg c1]

/-- Items alike. -/
def covC (x : lombardref15_Item) : Int := (coverS x.Lot.Qty x.Price x.Cut).1
theorem covC_ok (x : lombardref15_Item) : 0 ≤ covC x ∧ covC x ≤ 9223372036854775807 := ⟨(cover_ok _ _ _).1, (cover_ok _ _ _).2.1⟩
theorem ICover_r (x : lombardref15_Item) : _haircut_Item_Cover_r (toH x) (covC x) := by
  refine _haircut_Item_Cover_of ?_
  unfold _haircut_Item_Cover_w
  refine ⟨_, Cover_r, Br.i (fun c => Rt.i ?_) (fun c => Rt.i rfl)⟩
  exact ((cover_ok _ _ _).2.2 c).symm
theorem RCovers_r (x : lombardref15_Item) : _lombardref15_Item_Covers_r x (covC x) := by
  refine _lombardref15_Item_Covers_of ?_
  unfold _lombardref15_Item_Covers_w
  exact ⟨_, RCover_r, Rt.i rfl⟩

/-! items. -/
/-! Over. -/
theorem New_r0 {b : api_Basket} {need : Int} (h : ¬ newOk b need) : limit_New_r0 b need 1 := by
  refine limit_New_of0 ?_
  unfold limit_New_w
  refine Br.i (fun c => Rt.i rfl) (fun c1 => Br.i (fun c => Rt.i rfl) (fun c2 => Br.i (fun c => Rt.i rfl) (fun c3 => Br.i (fun c => Rt.i rfl) (fun c4 => Br.i (fun c => Rt.i rfl) (fun c5 => Br.i (fun c => Rt.i rfl) (fun c6 => absurd ?_ h))))))
  unfold newOk; omega

/-- Rounded up. -/
def cdiv (a b : Int) : Int := (a + b - 1) / b
def least (need p c : Int) : Int := cdiv (cdiv (need * 1000000) (1000000 - c) * 1000000) p
end Go.Proofs.YtjlkmdmaimednaaGreat.Pure
namespace Go.Proofs.YtjlkmdmaimednaaGreat.Pure
open Go Go.Ab Go.Proofs.YtjlkmdmaimednaaGreat.R
set_option linter.unusedVariables false
def sumL : List lombardref16_Part → Int
  | [] => 0
  | p :: l => p.Cover + sumL l
theorem sumL_app (l : List lombardref16_Part) (p : lombardref16_Part) : sumL (l ++ [p]) = sumL l + p.Cover := by
  induction l with
  | nil => simp [sumL]
  | cons q l ih => simp only [List.cons_append, sumL, ih]; omega
def Small (l : List lombardref16_Part) : Prop := ∀ p ∈ l, -1125899906842624 ≤ p.Cover ∧ p.Cover ≤ 1125899906842624
/-! OfIssuer. -/
def ofI (k : Int) : List lombardref16_Part → Int
  | [] => 0
  | p :: l => (if p.Issuer = k then p.Cover else 0) + ofI k l
theorem ofI_app (k : Int) (l : List lombardref16_Part) (p : lombardref16_Part) : ofI k (l ++ [p]) = ofI k l + (if p.Issuer = k then p.Cover else 0) := by
  induction l with
  | nil => simp [ofI]
  | cons q l ih => simp only [List.cons_append, ofI, ih]; omega
theorem ofI_none {k : Int} : ∀ {l : List lombardref16_Part}, k ∉ l.map (·.Issuer) → ofI k l = 0
  | [], _ => rfl
  | p :: l, h => by
    simp only [List.map_cons, List.mem_cons, not_or] at h
    simp only [ofI]; rw [if_neg (fun e => h.1 e.symm), ofI_none h.2]; rfl
theorem ofI_l {r : lombardref16_Table} {k : Int} {Q : Int → Prop} (hb : Small r.L) (hl : r.L.length ≤ 1000) : ∀ (n s : Nat) (acc : Int), n + s = r.L.length → -(s * 1125899906842624) ≤ acc → acc ≤ s * 1125899906842624 → Q (acc + ofI k (r.L.drop s)) → _lombardref16_Table_OfIssuer_L0 k r Q acc (s : Int) := by
  intro n
  induction n with
  | zero =>
    intro s acc h _ _ q
    refine _lombardref16_Table_OfIssuer_l0 ?_
    unfold _lombardref16_Table_OfIssuer_w0
    rw [lenM_eq]
    refine Br.neg (by omega) (Lf.i ?_)
    rw [List.drop_of_length_le (by omega)] at q
    simpa [ofI] using q
  | succ n ih =>
    intro s acc h h0 h1 q
    have hs : s < r.L.length := by omega
    refine _lombardref16_Table_OfIssuer_l0 ?_
    unfold _lombardref16_Table_OfIssuer_w0
    rw [lenM_eq]
    rw [List.drop_eq_getElem_cons hs] at q
    have hm := hb _ (List.getElem_mem hs)
    have g : r.L[(s : Int).toNat]? = some r.L[s] := by simp [hs]
    refine Br.pos (by omega) ⟨r.L[s], Got.i (Br.i (fun c => Got.i (Num.n (by omega) (Num.n (by omega) ?_)) (by omega) g) (fun c => Num.n (by omega) ?_)) (by omega) g⟩
    · simp only [ofI] at q
      rw [if_pos c, ← Int.add_assoc] at q
      exact ih (s + 1) _ (by omega) (by omega) (by omega) q
    · simp only [ofI] at q
      rw [if_neg c, Int.zero_add] at q
      exact ih (s + 1) _ (by omega) (by omega) (by omega) q
theorem ROfI_r {r : lombardref16_Table} {k : Int} (hb : Small r.L) (hl : r.L.length ≤ 1000) : _lombardref16_Table_OfIssuer_r r k (ofI k r.L) := by
  refine _lombardref16_Table_OfIssuer_of ?_
  unfold _lombardref16_Table_OfIssuer_w
  exact ofI_l hb hl _ 0 0 rfl (by omega) (by omega) (Rt.i (by simp))

/-! OfAsset. -/
def ofA (k : ByteArray) : List lombardref16_Part → Int
  | [] => 0
  | p :: l => (if p.ISIN = k then p.Cover else 0) + ofA k l
theorem ofA_app (k : ByteArray) (l : List lombardref16_Part) (p : lombardref16_Part) : ofA k (l ++ [p]) = ofA k l + (if p.ISIN = k then p.Cover else 0) := by
  induction l with
  | nil => simp [ofA]
  | cons q l ih => simp only [List.cons_append, ofA, ih]; omega
theorem ofA_none {k : ByteArray} : ∀ {l : List lombardref16_Part}, k ∉ l.map (·.ISIN) → ofA k l = 0
  | [], _ => rfl
  | p :: l, h => by
    simp only [List.map_cons, List.mem_cons, not_or] at h
    simp only [ofA]; rw [if_neg (fun e => h.1 e.symm), ofA_none h.2]; rfl
theorem ofA_l {r : lombardref16_Table} {k : ByteArray} {Q : Int → Prop} (hb : Small r.L) (hl : r.L.length ≤ 1000) : ∀ (n s : Nat) (acc : Int), n + s = r.L.length → -(s * 1125899906842624) ≤ acc → acc ≤ s * 1125899906842624 → Q (acc + ofA k (r.L.drop s)) → _lombardref16_Table_OfAsset_L0 k r Q acc (s : Int) := by
  intro n
  induction n with
  | zero =>
    intro s acc h _ _ q
    refine _lombardref16_Table_OfAsset_l0 ?_
    unfold _lombardref16_Table_OfAsset_w0
    rw [lenM_eq]
    refine Br.neg (by omega) (Lf.i ?_)
    rw [List.drop_of_length_le (by omega)] at q
    simpa [ofA] using q
  | succ n ih =>
    intro s acc h h0 h1 q
    have hs : s < r.L.length := by omega
    refine _lombardref16_Table_OfAsset_l0 ?_
    unfold _lombardref16_Table_OfAsset_w0
    rw [lenM_eq]
    rw [List.drop_eq_getElem_cons hs] at q
    have hm := hb _ (List.getElem_mem hs)
    have g : r.L[(s : Int).toNat]? = some r.L[s] := by simp [hs]
    refine Br.pos (by omega) ⟨r.L[s], Got.i (Br.i (fun c => Got.i (Num.n (by omega) (Num.n (by omega) ?_)) (by omega) g) (fun c => Num.n (by omega) ?_)) (by omega) g⟩
    · simp only [ofA] at q
      rw [if_pos c, ← Int.add_assoc] at q
      exact ih (s + 1) _ (by omega) (by omega) (by omega) q
    · simp only [ofA] at q
      rw [if_neg c, Int.zero_add] at q
      exact ih (s + 1) _ (by omega) (by omega) (by omega) q
theorem ROfA_r {r : lombardref16_Table} {k : ByteArray} (hb : Small r.L) (hl : r.L.length ≤ 1000) : _lombardref16_Table_OfAsset_r r k (ofA k r.L) := by
  refine _lombardref16_Table_OfAsset_of ?_
  unfold _lombardref16_Table_OfAsset_w
  exact ofA_l hb hl _ 0 0 rfl (by omega) (by omega) (Rt.i (by simp))

def withR (r : lombardref16_Table) (a : api_Asset) (c : Int) : lombardref16_Table := ⟨r.Need, r.Issuer, r.Asset, r.L ++ [⟨a.Issuer, a.ISIN, c⟩]⟩
theorem app32 {n : Nat} (h : n ≤ 3000000) : App 32 n := ⟨by unfold maxLen; omega, by omega⟩
theorem RWith_r {r : lombardref16_Table} {a : api_Asset} {c : Int} (h : r.L.length ≤ 1000) : _lombardref16_Table_with_r r a c (withR r a c) := by
  refine _lombardref16_Table_with_of ?_
  unfold _lombardref16_Table_with_w
  exact ApZ.i (app32 (by omega)) (App2.i (app32 (by simp; omega)) (Rt.i rfl))
def newR (b : api_Basket) (need : Int) : lombardref16_Table := ⟨need, (mulDivS need b.Issuer 1000000 1).1, (mulDivS need b.Asset 1000000 1).1, []⟩
theorem RNew_r {b : api_Basket} {need : Int} (h : newOk b need) : lombardref16_New_r b need (newR b need, 0) := by
  obtain ⟨h1, h2, h3, h4, h5, h6⟩ := h
  refine lombardref16_New_of ?_
  unfold lombardref16_New_w
  refine Br.neg (by omega) (Br.neg (by omega) (Br.neg (by omega) (Br.neg (by omega) (Br.neg (by omega) (Br.neg (by omega) ⟨_, RMulDiv_r (iok (by omega)) (iok (by omega)) (iok (by omega)), _, RMulDiv_r (iok (by omega)) (iok (by omega)) (iok (by omega)), Rt.i rfl⟩)))))
end Go.Proofs.YtjlkmdmaimednaaGreat.Pure
namespace Go.Proofs.YtjlkmdmaimednaaGreat.Pure
open Go Go.Ab Go.Proofs.YtjlkmdmaimednaaGreat.R
set_option linter.unusedVariables false
theorem app24 {n : Nat} (h : n ≤ 3000000) : App 24 n := ⟨by unfold maxLen; omega, by omega⟩
theorem Insert_r {a : List api_Lot} {x : api_Lot} {n : Nat} (h1 : n ≤ a.length) (hb : a.length ≤ 1000000) : InsR Tryz.prog 141 2 api_Lot.enc a (n : Int) [x] (a.take n ++ x :: a.drop n) := by
  by_cases h : n < a.length
  · have := Con_insert_lt (rows := a.map api_Lot.enc) (x := api_Lot.enc x) (i := n) (by simpa using h) (by simp; omega) (enters_of Tryz.func141 (by kernel_rfl) rfl)
    unfold InsR
    rw [show (a.take n ++ x :: a.drop n).map api_Lot.enc = (a.map api_Lot.enc).take n ++ [api_Lot.enc x] ++ (a.map api_Lot.enc).drop n by simp [List.map_take, List.map_drop]]
    exact this
  · have e : n = a.length := by omega
    subst e
    have : slices_Insert_api_Lot_api_Lot_r a (a.length : Int) [x] (a ++ [x]) := by
      refine slices_Insert_api_Lot_api_Lot_of ?_
      unfold slices_Insert_api_Lot_api_Lot_w
      exact CutX.i ⟨by omega, by omega⟩ (Br.neg (by simp [lenM]) (Br.pos (by simp [lenM]) (App2.i (app24 (by simp; omega)) (Rt.i rfl))))
    rw [List.take_length, List.drop_length]
    exact this

/-! Where a number is, or would be. -/
theorem cmpB_lt {a b : ByteArray} : cmpB a b < 0 ↔ sLt a b := by
  unfold cmpB
  by_cases h : sLt a b
  · rw [if_pos h]; simp [h]
  · rw [if_neg h]; by_cases k : sLt b a
    · rw [if_pos k]; simp [h]
    · rw [if_neg k]; simp [h]
theorem cmpB_eq {a b : ByteArray} : cmpB a b = 0 ↔ a = b := by
  unfold cmpB
  by_cases h : sLt a b
  · rw [if_pos h]; exact ⟨fun e => (by cases e), fun e => (by subst e; exact absurd h (sLt_irrefl _))⟩
  · rw [if_neg h]; by_cases k : sLt b a
    · rw [if_pos k]; exact ⟨fun e => (by cases e), fun e => (by subst e; exact absurd k (sLt_irrefl _))⟩
    · rw [if_neg k]; exact ⟨fun _ => sLt_tri h k, fun _ => rfl⟩
theorem place_1_r (x : api_Lot) (s : ByteArray) : lots_place_1_r x s (cmpB x.ISIN s) := by
  refine lots_place_1_of ?_
  unfold lots_place_1_w
  exact ⟨_, Compare_string_r _ _, Rt.i rfl⟩
theorem bs_l {A B : List api_Lot} {s : ByteArray} (hA : ∀ y ∈ A, sLt y.ISIN s) (hB : ∀ y ∈ B, ¬ sLt y.ISIN s) (hl : (A ++ B).length ≤ 1000000) {Q : Int → Prop} (q : Q (A.length : Nat)) :
    ∀ (n i j : Nat), j - i ≤ n → i ≤ A.length → A.length ≤ j → j ≤ (A ++ B).length → slices_BinarySearchFunc_api_Lot_api_Lot_string_f124_L0 (A ++ B) s Q i j := by
  intro n
  induction n with
  | zero =>
    intro i j hn hi hj hjl
    have e : i = A.length := by omega
    refine slices_BinarySearchFunc_api_Lot_api_Lot_string_f124_l0 ?_
    unfold slices_BinarySearchFunc_api_Lot_api_Lot_string_f124_w0
    exact Br.neg (by omega) (Lf.i (by rw [e]; exact q))
  | succ n ih =>
    intro i j hn hi hj hjl
    refine slices_BinarySearchFunc_api_Lot_api_Lot_string_f124_l0 ?_
    unfold slices_BinarySearchFunc_api_Lot_api_Lot_string_f124_w0
    by_cases c : i < j
    · rw [half (i := i) (j := j) (by omega), show (((i + j) / 2 : Nat) : Int) + 1 = (((i + j) / 2 + 1 : Nat) : Int) by omega]
      have hk : (i + j) / 2 < (A ++ B).length := by omega
      refine Br.pos (by omega) (Num.n (by omega) ⟨(A ++ B)[(i + j) / 2], Got.i ⟨_, place_1_r _ _, Br.i (fun c1 => Num.n (by omega) ?_) (fun c1 => ?_)⟩ (by omega) (show (A ++ B)[(i + j) / 2]? = _ from List.getElem?_eq_getElem hk)⟩)
      · have c1 := cmpB_lt.1 c1
        have : (i + j) / 2 < A.length := Nat.lt_of_not_le fun h => by
          refine hB _ ?_ c1
          rw [List.getElem_append_right h]; exact List.getElem_mem _
        exact ih _ _ (by omega) (by omega) hj hjl
      · have c1 : ¬ sLt ((A ++ B)[(i + j) / 2]).ISIN s := fun h => c1 (cmpB_lt.2 h)
        have : A.length ≤ (i + j) / 2 := Nat.le_of_not_lt fun h => by
          refine c1 (hA _ ?_)
          rw [List.getElem_append_left h]; exact List.getElem_mem _
        exact ih _ _ (by omega) hi this (by omega)
    · have e : i = A.length := by omega
      exact Br.neg (by omega) (Lf.i (by rw [e]; exact q))
def hit (s : ByteArray) : List api_Lot → Bool
  | [] => false
  | y :: _ => decide (y.ISIN = s)
theorem place_r {A B : List api_Lot} {s : ByteArray} (hA : ∀ y ∈ A, sLt y.ISIN s) (hB : ∀ y ∈ B, ¬ sLt y.ISIN s) (hl : (A ++ B).length ≤ 1000000) : lots_place_r (A ++ B) s ((A.length : Nat), hit s B) := by
  refine lots_place_of ?_
  unfold lots_place_w
  refine ⟨((A.length : Nat), hit s B), slices_BinarySearchFunc_api_Lot_api_Lot_string_f124_of ?_, Rt.i rfl⟩
  unfold slices_BinarySearchFunc_api_Lot_api_Lot_string_f124_w
  rw [lenM_eq]
  refine bs_l hA hB hl ?_ (A ++ B).length 0 (A ++ B).length (by omega) (by omega) (by simp) (Nat.le_refl _)
  cases B with
  | nil => exact Br.neg (by simp) (Rt.i rfl)
  | cons y B =>
    refine Br.pos (by simp; omega) ⟨y, Got.i ⟨_, place_1_r _ _, Rt.i ?_⟩ (by omega) (by simp)⟩
    unfold hit
    congr 1
    rw [Bool.eq_iff_iff]
    simp [cmpB_eq]

/-! The reference's. -/
def qtyG (s : ByteArray) : List api_Lot → Int
  | [] => 0
  | y :: l => if y.ISIN = s then y.Qty else qtyG s l
theorem qty_l {a : List api_Lot} {s : ByteArray} {Q0 : Int → Prop} {Q1 : Unit → Prop} (hl : a.length ≤ 1000000) : ∀ (n i : Nat), n + i = a.length → (∀ r, r = qtyG s (a.drop i) → (∃ y ∈ a.drop i, y.ISIN = s) → Q0 r) → ((∀ y ∈ a.drop i, y.ISIN ≠ s) → Q1 ()) → lombardref17_Qty_L0 a s Q0 Q1 (i : Int) := by
  intro n
  induction n with
  | zero =>
    intro i h q0 q1
    refine lombardref17_Qty_l0 ?_
    unfold lombardref17_Qty_w0
    rw [lenM_eq]
    exact Br.neg (by omega) (Lf.i (q1 (by rw [List.drop_of_length_le (by omega)]; simp)))
  | succ n ih =>
    intro i h q0 q1
    have hs : i < a.length := by omega
    refine lombardref17_Qty_l0 ?_
    unfold lombardref17_Qty_w0
    rw [lenM_eq]
    rw [List.drop_eq_getElem_cons hs] at q0 q1
    have g : a[(i : Int).toNat]? = some a[i] := by simp [hs]
    refine Br.pos (by omega) ⟨a[i], Got.i (Br.i (fun c => Got.i (Lf.i (q0 _ (by simp [qtyG, c]) ⟨_, List.mem_cons_self .., c⟩)) (by omega) g) (fun c => Num.n (by omega) ?_)) (by omega) g⟩
    refine ih (i + 1) (by omega) (fun r hr ⟨y, hy, he⟩ => q0 r (by simp only [qtyG]; rw [if_neg c]; exact hr) ⟨y, List.mem_cons_of_mem _ hy, he⟩) (fun hy => q1 fun y hm => ?_)
    rcases List.mem_cons.1 hm with rfl | hm
    · exact c
    · exact hy y hm
theorem qtyG_none {s : ByteArray} : ∀ {l : List api_Lot}, (∀ y ∈ l, y.ISIN ≠ s) → qtyG s l = 0
  | [], _ => rfl
  | y :: l, h => by simp only [qtyG]; rw [if_neg (h y (by simp))]; exact qtyG_none fun z hz => h z (by simp [hz])
theorem Qty_r {a : List api_Lot} {s : ByteArray} (hl : a.length ≤ 1000000) : lombardref17_Qty_r a s (qtyG s a) := by
  refine lombardref17_Qty_of ?_
  unfold lombardref17_Qty_w
  refine qty_l hl a.length 0 (by omega) (fun r hr _ => Rt.i (by rw [hr]; simp)) (fun h => Rt.i ?_)
  rw [qtyG_none (by simpa using h)]
def setG (s : ByteArray) (q : Int) : Bool → List api_Lot → List api_Lot
  | true, [] => []
  | false, [] => [⟨s, q⟩]
  | true, y :: l => (if y.ISIN = s then [] else [y]) ++ setG s q true l
  | false, y :: l => if sLt y.ISIN s then (if y.ISIN = s then [] else [y]) ++ setG s q false l else ⟨s, q⟩ :: ((if y.ISIN = s then [] else [y]) ++ setG s q true l)
theorem set_l {a : List api_Lot} {s : ByteArray} {q : Int} {R : List api_Lot} {Q : List api_Lot → Prop} (hl : a.length ≤ 1000000) (hQ : Q R) : ∀ (n i : Nat) (d : Bool) (acc : List api_Lot), n + i = a.length → acc.length ≤ i + d.toNat → R = acc ++ setG s q d (a.drop i) →
    lombardref17_Set_L0 a s q (fun (y1 : Bool × (List api_Lot)) => Br (!y1.1) (App2 24 api_Lot.enc y1.2 [(⟨s, q⟩ : api_Lot)] (Q (y1.2 ++ [(⟨s, q⟩ : api_Lot)]))) (Q y1.2)) d (i : Int) acc := by
  intro n
  induction n with
  | zero =>
    intro i d acc h ha hR
    have hd : d.toNat ≤ 1 := by cases d <;> decide
    refine lombardref17_Set_l0 ?_
    unfold lombardref17_Set_w0
    rw [lenM_eq]
    rw [List.drop_of_length_le (by omega)] at hR
    refine Br.neg (by omega) (Lf.i ?_)
    cases d with
    | true => exact Br.f rfl (by rw [hR] at hQ; simpa [setG] using hQ)
    | false => exact Br.t rfl (App2.i (app24 (by simp; omega)) (by rw [hR] at hQ; simpa [setG] using hQ))
  | succ n ih =>
    intro i d acc h ha hR
    have hd : d.toNat ≤ 1 := by cases d <;> decide
    have hs : i < a.length := by omega
    refine lombardref17_Set_l0 ?_
    unfold lombardref17_Set_w0
    rw [lenM_eq]
    rw [List.drop_eq_getElem_cons hs] at hR
    have g : a[(i : Int).toNat]? = some a[i] := by simp [hs]
    refine Br.pos (by omega) ?_
    cases d with
    | true =>
      simp only [setG] at hR
      simp only [Bool.toNat_true] at ha
      refine Br.f rfl ⟨a[i], Got.i (Br.i (fun c => Got.i (App2.i (app24 (by simp; omega)) (Num.n (by omega) (ih (i + 1) true _ (by omega) (by simp; omega) ?_))) (by omega) g) (fun c => Num.n (by omega) (ih (i + 1) true _ (by omega) (by omega) ?_))) (by omega) g⟩
      · rw [hR, if_neg c]; simp
      · rw [hR, if_pos (Decidable.not_not.1 c)]; simp
    | false =>
      simp only [setG] at hR
      simp only [Bool.toNat_false] at ha
      refine Br.t rfl ⟨a[i], Got.i (Br.i (fun c0 => ?_) (fun c0 => ?_)) (by omega) g⟩
      · rw [if_neg c0] at hR
        refine App2.i (app24 (by simp; omega)) (Got.i (Br.i (fun c => Got.i (App2.i (app24 (by simp; omega)) (Num.n (by omega) (ih (i + 1) true _ (by omega) (by simp; omega) ?_))) (by omega) g) (fun c => Num.n (by omega) (ih (i + 1) true _ (by omega) (by simp; omega) ?_))) (by omega) g)
        · rw [hR, if_neg c]; simp
        · rw [hR, if_pos (Decidable.not_not.1 c)]; simp
      · rw [if_pos (Decidable.not_not.1 c0)] at hR
        refine Got.i (Br.i (fun c => Got.i (App2.i (app24 (by simp; omega)) (Num.n (by omega) (ih (i + 1) false _ (by omega) (by simp; omega) ?_))) (by omega) g) (fun c => Num.n (by omega) (ih (i + 1) false _ (by omega) (by omega) ?_))) (by omega) g
        · rw [hR, if_neg c]; simp
        · rw [hR, if_pos (Decidable.not_not.1 c)]; simp
theorem Set_r {a : List api_Lot} {s : ByteArray} {q : Int} (hl : a.length ≤ 1000000) : lombardref17_Set_r a s q (setG s q (q == 0) a) := by
  refine lombardref17_Set_of ?_
  unfold lombardref17_Set_w
  exact set_l (Q := fun v => lombardref17_Set_e (fun v_ => v_ = setG s q (q == 0) a) v) hl (Rt.i rfl) a.length 0 _ [] (by omega) (by simp) (by simp)
end Go.Proofs.YtjlkmdmaimednaaGreat.Pure
namespace Go.Proofs.YtjlkmdmaimednaaGreat.Pure
open Go Go.Ab Go.Proofs.YtjlkmdmaimednaaGreat.R
set_option linter.unusedVariables false
structure Lk (l : List api_Lot) : Prop where
  srt : l.Pairwise (fun x y => sLt x.ISIN y.ISIN)
  pos : ∀ y ∈ l, 1 ≤ y.Qty ∧ y.Qty ≤ 1125899906842624
  len : l.length ≤ 64
theorem split_at (s : ByteArray) : ∀ (l : List api_Lot), l.Pairwise (fun x y => sLt x.ISIN y.ISIN) → ∃ A B, l = A ++ B ∧ (∀ y ∈ A, sLt y.ISIN s) ∧ (∀ y ∈ B, ¬ sLt y.ISIN s)
  | [], _ => ⟨[], [], rfl, by simp, by simp⟩
  | y :: l, h => by
    obtain ⟨h1, h2⟩ := List.pairwise_cons.1 h
    by_cases c : sLt y.ISIN s
    · obtain ⟨A, B, e, hA, hB⟩ := split_at s l h2
      refine ⟨y :: A, B, by rw [e]; rfl, fun z hz => ?_, hB⟩
      rcases List.mem_cons.1 hz with rfl | hz
      · exact c
      · exact hA z hz
    · refine ⟨[], y :: l, rfl, by simp, fun z hz => ?_⟩
      rcases List.mem_cons.1 hz with rfl | hz
      · exact c
      · exact fun k => c (sLt_trans (h1 z hz) k)
theorem setG_A {s : ByteArray} {q : Int} {B : List api_Lot} : ∀ {A : List api_Lot}, (∀ y ∈ A, sLt y.ISIN s) → setG s q false (A ++ B) = A ++ setG s q false B
  | [], _ => rfl
  | y :: A, h => by
    have hy := h y (by simp)
    have : y.ISIN ≠ s := fun e => by rw [e] at hy; exact sLt_irrefl _ hy
    simp only [List.cons_append, setG]
    rw [if_pos hy, if_neg this, setG_A fun z hz => h z (by simp [hz])]; rfl
theorem setG_B {s : ByteArray} {q : Int} : ∀ {B : List api_Lot}, (∀ y ∈ B, y.ISIN ≠ s) → setG s q true B = B
  | [], _ => rfl
  | y :: B, h => by
    simp only [setG]
    rw [if_neg (h y (by simp)), setG_B fun z hz => h z (by simp [hz])]; rfl
theorem qtyG_A {s : ByteArray} {B : List api_Lot} : ∀ {A : List api_Lot}, (∀ y ∈ A, sLt y.ISIN s) → qtyG s (A ++ B) = qtyG s B
  | [], _ => rfl
  | y :: A, h => by
    have hy := h y (by simp)
    have : y.ISIN ≠ s := fun e => by rw [e] at hy; exact sLt_irrefl _ hy
    simp only [List.cons_append, qtyG]
    rw [if_neg this]; exact qtyG_A fun z hz => h z (by simp [hz])
theorem gone_B {s : ByteArray} {y : api_Lot} {B : List api_Lot} (h : (y :: B).Pairwise (fun x y => sLt x.ISIN y.ISIN)) (hy : ¬ sLt y.ISIN s) : ∀ z ∈ B, z.ISIN ≠ s := fun z hz e => by
  have := (List.pairwise_cons.1 h).1 z hz
  rw [e] at this; exact hy this
def addG (l : List api_Lot) (x : api_Lot) : List api_Lot × Int :=
  if qtyG x.ISIN l = 0 ∧ 64 ≤ l.length then ([], 2) else if 1125899906842624 - qtyG x.ISIN l < x.Qty then ([], 9) else (setG x.ISIN (qtyG x.ISIN l + x.Qty) false l, 0)
/-- What adding one comes to, where it stands or would stand. -/
theorem add_cases {l : List api_Lot} {x : api_Lot} (h : Lk l) : ∃ A B, l = A ++ B ∧ (∀ y ∈ A, sLt y.ISIN x.ISIN) ∧ (∀ y ∈ B, ¬ sLt y.ISIN x.ISIN) ∧
    ((hit x.ISIN B = false ∧ qtyG x.ISIN l = 0 ∧ ∀ q, setG x.ISIN q false l = A ++ ⟨x.ISIN, q⟩ :: B) ∨ (∃ y B', B = y :: B' ∧ hit x.ISIN B = true ∧ y.ISIN = x.ISIN ∧ qtyG x.ISIN l = y.Qty ∧ ∀ q, setG x.ISIN q false l = A ++ ⟨x.ISIN, q⟩ :: B')) := by
  obtain ⟨A, B, e, hA, hB⟩ := split_at x.ISIN l h.srt
  refine ⟨A, B, e, hA, hB, ?_⟩
  have hs := h.srt
  rw [e] at hs
  have hsB := (List.pairwise_append.1 hs).2.1
  rw [e, qtyG_A hA]
  cases B with
  | nil => exact .inl ⟨rfl, rfl, fun q => by rw [setG_A hA]; rfl⟩
  | cons y B =>
    have hy := hB y (by simp)
    have hz := gone_B hsB hy
    by_cases c : y.ISIN = x.ISIN
    · refine .inr ⟨y, B, rfl, by simp [hit, c], c, by simp [qtyG, c], fun q => ?_⟩
      rw [setG_A hA]; simp only [setG]; rw [if_neg hy, if_pos c, setG_B hz]; rfl
    · refine .inl ⟨by simp [hit, c], ?_, fun q => ?_⟩
      · simp only [qtyG]; rw [if_neg c, qtyG_none hz]
      · rw [setG_A hA]; simp only [setG]; rw [if_neg hy, if_neg c, setG_B hz]; rfl
theorem add_r {l : List api_Lot} {x : api_Lot} (h : Lk l) (hx : 1 ≤ x.Qty ∧ x.Qty ≤ 1125899906842624) : lots_add_r l x (addG l x) := by
  have hl := h.len
  obtain ⟨A, B, e, hA, hB, hc⟩ := add_cases (x := x) h
  refine lots_add_of ?_
  unfold lots_add_w addG
  have hp := place_r hA hB (by rw [← e]; omega)
  rw [← e] at hp
  refine ⟨_, hp, ?_⟩
  rw [lenM_eq]
  rcases hc with ⟨c1, c2, c3⟩ | ⟨y, B', rfl, c1, c4, c2, c3⟩
  · refine Br.t (by simp [c1]) (Br.i (fun c => Rt.i (by rw [if_pos ⟨c2, by omega⟩])) (fun c => ⟨_, Insert_r (n := A.length) (by rw [e]; simp) (by omega), Rt.i ?_⟩))
    rw [if_neg (by omega), c2, if_neg (by omega), c3, e, Int.zero_add]
    simp
  · have hy := h.pos y (by rw [e]; simp)
    have ha : A.length < l.length := by rw [e]; simp
    have g : l[((A.length : Nat) : Int).toNat]? = some y := by rw [e]; simp
    refine Br.f (by simp [c1]) (InL.i ⟨y, EltG.i (Num.n (by omega) (Br.i (fun c => Rt.i ?_) (fun c => InL.i (EltG.i (Num.n (by omega) (InL.i (EltS.i (Rt.i ?_) g) (by omega) (by simpa using ha))) g) (by omega) (by simpa using ha)))) g⟩ (by omega) (by simpa using ha))
    · rw [if_neg (by omega), c2, if_pos (by omega)]
    · rw [if_neg (by omega), c2, if_neg (by omega), c3, e, c4]
      simp
theorem add_ok {l : List api_Lot} {x : api_Lot} (h : Lk l) (hx : 1 ≤ x.Qty ∧ x.Qty ≤ 1125899906842624) (h0 : (addG l x).2 = 0) : Lk (addG l x).1 := by
  have hl := h.len
  obtain ⟨A, B, e, hA, hB, hc⟩ := add_cases (x := x) h
  have hs := h.srt
  rw [e] at hs
  obtain ⟨sA, sB, sAB⟩ := List.pairwise_append.1 hs
  unfold addG at h0 ⊢
  split at h0
  · cases h0
  · rename_i n1
    split at h0
    · cases h0
    · rename_i n2
      rw [if_neg n1, if_neg n2]
      rcases hc with ⟨c1, c2, c3⟩ | ⟨y, B', rfl, c1, c4, c2, c3⟩
      · have n1 : ¬ 64 ≤ l.length := fun k => n1 ⟨c2, k⟩
        rw [c3, c2, Int.zero_add]
        refine ⟨List.pairwise_append.2 ⟨sA, List.pairwise_cons.2 ⟨fun z hz => ?_, sB⟩, fun a ha z hz => ?_⟩, fun z hz => ?_, ?_⟩
        · cases B with
          | nil => cases hz
          | cons b B =>
            have hb := hB b (by simp)
            have nb : b.ISIN ≠ x.ISIN := by simpa [hit] using c1
            have xb : sLt x.ISIN b.ISIN := Decidable.byContradiction fun k => nb (sLt_tri hb k)
            rcases List.mem_cons.1 hz with rfl | hz
            · exact xb
            · exact sLt_trans xb ((List.pairwise_cons.1 sB).1 z hz)
        · rcases List.mem_cons.1 hz with rfl | hz
          · exact hA a ha
          · exact sAB a ha z hz
        · rcases List.mem_append.1 hz with hz | hz
          · exact h.pos z (by rw [e]; simp [hz])
          · rcases List.mem_cons.1 hz with rfl | hz
            · exact hx
            · exact h.pos z (by rw [e]; simp [hz])
        · have : l.length = A.length + B.length := by rw [e]; simp
          simp; omega
      · have hy := h.pos y (by rw [e]; simp)
        rw [c3, c2]
        refine ⟨List.pairwise_append.2 ⟨sA, List.pairwise_cons.2 ⟨fun z hz => ?_, (List.pairwise_cons.1 sB).2⟩, fun a ha z hz => ?_⟩, fun z hz => ?_, ?_⟩
        · have := (List.pairwise_cons.1 sB).1 z hz
          rw [c4] at this; exact this
        · rcases List.mem_cons.1 hz with rfl | hz
          · exact hA a ha
          · exact sAB a ha z (by simp [hz])
        · rcases List.mem_append.1 hz with hz | hz
          · exact h.pos z (by rw [e]; simp [hz])
          · rcases List.mem_cons.1 hz with rfl | hz
            · simp; omega
            · exact h.pos z (by rw [e]; simp [hz])
        · have : l.length = A.length + (B'.length + 1) := by rw [e]; simp
          simp; omega
theorem qtyG_bd {s : ByteArray} : ∀ {l : List api_Lot}, (∀ y ∈ l, 1 ≤ y.Qty ∧ y.Qty ≤ 1125899906842624) → 0 ≤ qtyG s l ∧ qtyG s l ≤ 1125899906842624
  | [], _ => by simp [qtyG]
  | y :: l, h => by
    simp only [qtyG]
    have := h y (by simp)
    split
    · omega
    · exact qtyG_bd fun z hz => h z (by simp [hz])
theorem RPlus1_r {l : List api_Lot} {x : api_Lot} (h : Lk l) (hx : 1 ≤ x.Qty ∧ x.Qty ≤ 1125899906842624) : lombardref17_Plus_r l [x] (addG l x) := by
  have hl := h.len
  have hq := qtyG_bd (s := x.ISIN) h.pos
  refine lombardref17_Plus_of ?_
  unfold lombardref17_Plus_w addG
  refine lombardref17_Plus_l0 ?_
  unfold lombardref17_Plus_w0
  have e1 : (lenM api_Lot.enc [x]) = 1 := by simp [lenM]
  rw [e1, lenM_eq]
  have g : ([x] : List api_Lot)[(0 : Int).toNat]? = some x := rfl
  have z : (0 : Int) ≤ 0 := Int.le_refl _
  have Z : ∀ {q : Int}, q ≠ 0 → setG x.ISIN q (q == 0) l = setG x.ISIN q false l := fun {q} hq => by rw [beq_false_of_ne hq]
  have S := Set_r (a := l) (s := x.ISIN) (q := qtyG x.ISIN l + x.Qty) (by omega)
  rw [Z (by omega)] at S
  have fin : Got api_Lot.enc [x] 0 x (Num .i64 (1125899906842624 - qtyG x.ISIN l) (Br (decide (x.Qty > (1125899906842624 - qtyG x.ISIN l))) (lombardref17_Plus_x0_0 [x] (fun (y1 : Int) => lombardref17_Plus_e (fun v_ => v_ = if 1125899906842624 - qtyG x.ISIN l < x.Qty then ([], 9) else (setG x.ISIN (qtyG x.ISIN l + x.Qty) false l, 0)) ([], y1)) 9) (Got api_Lot.enc [x] 0 x (Got api_Lot.enc [x] 0 x (Num .i64 (qtyG x.ISIN l + x.Qty) (∃ ra3 : (List api_Lot), (lombardref17_Set_r l x.ISIN (qtyG x.ISIN l + x.Qty) ra3) ∧ (Num .i64 (0 + 1) (lombardref17_Plus_L0 [x] (fun (y1 : Int) => lombardref17_Plus_e (fun v_ => v_ = if 1125899906842624 - qtyG x.ISIN l < x.Qty then ([], 9) else (setG x.ISIN (qtyG x.ISIN l + x.Qty) false l, 0)) ([], y1)) (fun (y1 : (List api_Lot)) => lombardref17_Plus_e (fun v_ => v_ = if 1125899906842624 - qtyG x.ISIN l < x.Qty then ([], 9) else (setG x.ISIN (qtyG x.ISIN l + x.Qty) false l, 0)) (y1, 0)) ra3 (0 + 1)))))))) ) := by
    refine Got.i (Num.n (by omega) (Br.i (fun c => Lf.i (Rt.i (by rw [if_pos (by omega)]))) (fun c => Got.i (Got.i (Num.n (by omega) ⟨_, S, Num.n (by omega) (lombardref17_Plus_l0 ?_)⟩) z g) z g))) z g
    unfold lombardref17_Plus_w0
    rw [e1]
    exact Br.neg (by omega) (Lf.i (Rt.i (by rw [if_neg (by omega)])))
  refine Br.pos (by omega) ⟨x, Got.i ⟨_, Qty_r (by omega), Br.i (fun c => Br.i (fun c2 => Lf.i (Rt.i (by rw [if_pos ⟨c, by omega⟩]))) (fun c2 => ?_)) (fun c => ?_)⟩ z g⟩
  · rw [if_neg (by omega)]; exact fin
  · rw [if_neg (by omega)]; exact fin
def mergeG : List api_Lot → List api_Lot → List api_Lot × Int
  | out, [] => (out, 0)
  | out, x :: l => if x.Qty < 1 ∨ 1125899906842624 < x.Qty then ([], 1) else if (addG out x).2 ≠ 0 then ([], (addG out x).2) else mergeG (addG out x).1 l
theorem merge_l {a : List api_Lot} {Q0 : Int → Prop} {Q1 : List api_Lot → Prop} (hl : a.length ≤ 1000000) : ∀ (n i : Nat) (out : List api_Lot), n + i = a.length → Lk out → (∀ e, e ≠ 0 → mergeG out (a.drop i) = ([], e) → Q0 e) → (∀ r, mergeG out (a.drop i) = (r, 0) → Q1 r) → lots_Merge_L0 a Q0 Q1 (i : Int) out := by
  intro n
  induction n with
  | zero =>
    intro i out h ho q0 q1
    refine lots_Merge_l0 ?_
    unfold lots_Merge_w0
    rw [lenM_eq]
    rw [List.drop_of_length_le (by omega)] at q1
    exact Br.neg (by omega) (Lf.i (q1 _ rfl))
  | succ n ih =>
    intro i out h ho q0 q1
    have hs : i < a.length := by omega
    refine lots_Merge_l0 ?_
    unfold lots_Merge_w0
    rw [lenM_eq]
    rw [List.drop_eq_getElem_cons hs] at q0 q1
    have g : a[(i : Int).toNat]? = some a[i] := by simp [hs]
    simp only [mergeG] at q0 q1
    refine Br.pos (by omega) ⟨a[i], Got.i (Br.i (fun c => Lf.i (q0 1 (by decide) (by rw [if_pos (.inl c)]))) (fun c => Br.i (fun c2 => Lf.i (q0 1 (by decide) (by rw [if_pos (.inr c2)]))) (fun c2 => ⟨_, add_r ho ⟨by omega, by omega⟩, Br.i (fun c3 => Lf.i (q0 _ c3 ?_)) (fun c3 => Num.n (by omega) ?_)⟩))) (by omega) g⟩
    · rw [if_neg (by omega), if_pos c3]
    · have c3 := Decidable.not_not.1 c3
      refine ih (i + 1) _ (by omega) (add_ok ho ⟨by omega, by omega⟩ c3) (fun e he hm => q0 e he ?_) (fun r hm => q1 r ?_)
      · rw [if_neg (by omega), if_neg (by omega)]; exact hm
      · rw [if_neg (by omega), if_neg (by omega)]; exact hm
theorem Lk_nil : Lk [] := ⟨List.Pairwise.nil, by simp, by simp⟩
theorem Merge_r {a : List api_Lot} (hl : a.length ≤ 1000000) : lots_Merge_r a (mergeG [] a) := by
  refine lots_Merge_of ?_
  unfold lots_Merge_w
  exact merge_l hl a.length 0 [] (by omega) Lk_nil (fun e he hm => Rt.i (by simpa using hm.symm)) (fun r hm => Rt.i (by simpa using hm.symm))
theorem rgood_r {n : Int} : lombardref17_good_r n (decide (1 ≤ n ∧ n ≤ 1125899906842624)) := by
  refine lombardref17_good_of ?_
  unfold lombardref17_good_w
  refine Br.i (fun c => Rt.i ?_) (fun c => Rt.i ?_)
  · exact decide_eq_decide.2 ⟨fun h => ⟨c, h⟩, fun h => h.2⟩
  · rw [decide_eq_false (fun h => c h.1)]
theorem rmerge_l {a : List api_Lot} {Q0 : Int → Prop} {Q1 : List api_Lot → Prop} (hl : a.length ≤ 1000000) : ∀ (n i : Nat) (out : List api_Lot), n + i = a.length → Lk out → (∀ e, e ≠ 0 → mergeG out (a.drop i) = ([], e) → Q0 e) → (∀ r, mergeG out (a.drop i) = (r, 0) → Q1 r) → lombardref17_Merge_L0 a Q0 Q1 out (i : Int) := by
  intro n
  induction n with
  | zero =>
    intro i out h ho q0 q1
    refine lombardref17_Merge_l0 ?_
    unfold lombardref17_Merge_w0
    rw [lenM_eq]
    rw [List.drop_of_length_le (by omega)] at q1
    exact Br.neg (by omega) (Lf.i (q1 _ rfl))
  | succ n ih =>
    intro i out h ho q0 q1
    have hs : i < a.length := by omega
    refine lombardref17_Merge_l0 ?_
    unfold lombardref17_Merge_w0
    rw [lenM_eq]
    have e1 : ((a.take (((i : Int) + 1)).toNat).drop ((i : Int)).toNat) = [a[i]] := by
      rw [show ((i : Int) + 1).toNat = i + 1 by omega, Int.toNat_natCast, List.drop_take, List.drop_eq_getElem_cons hs, show i + 1 - i = 1 by omega]; rfl
    rw [e1]
    rw [List.drop_eq_getElem_cons hs] at q0 q1
    have g : a[(i : Int).toNat]? = some a[i] := by simp [hs]
    simp only [mergeG] at q0 q1
    refine Br.pos (by omega) ⟨a[i], Got.i ⟨_, rgood_r, Br.i (fun c => Lf.i (q0 1 (by decide) ?_)) (fun c => ?_)⟩ (by omega) g⟩
    · rw [if_pos (by omega)]
    · have c : 1 ≤ a[i].Qty ∧ a[i].Qty ≤ 1125899906842624 := Decidable.not_not.1 c
      refine Num.n (by omega) (CutLlh.i ⟨by omega, by omega, by omega⟩ ⟨_, RPlus1_r ho c, Br.i (fun c3 => Lf.i (q0 _ c3 ?_)) (fun c3 => Num.n (by omega) ?_)⟩)
      · rw [if_neg (by omega), if_pos c3]
      · have c3 := Decidable.not_not.1 c3
        refine ih (i + 1) _ (by omega) (add_ok ho c c3) (fun e he hm => q0 e he ?_) (fun r hm => q1 r ?_)
        · rw [if_neg (by omega), if_neg (by omega)]; exact hm
        · rw [if_neg (by omega), if_neg (by omega)]; exact hm
theorem RMerge_r {a : List api_Lot} (hl : a.length ≤ 1000000) : lombardref17_Merge_r a (mergeG [] a) := by
  refine lombardref17_Merge_of ?_
  unfold lombardref17_Merge_w
  exact rmerge_l hl a.length 0 [] (by omega) Lk_nil (fun e he hm => Rt.i (by simpa using hm.symm)) (fun r hm => Rt.i (by simpa using hm.symm))
end Go.Proofs.YtjlkmdmaimednaaGreat.Pure
