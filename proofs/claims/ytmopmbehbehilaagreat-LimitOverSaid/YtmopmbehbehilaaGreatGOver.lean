/- What an item covers; which limits items are above. -/
import Derived.Test.YtmopmbehbehilaaGreatGUses
set_option linter.unusedVariables false
set_option linter.unusedSimpArgs false
namespace Go.Proofs.YtmopmbehbehilaaGreat.Pure
open Go Go.Ab Go.Proofs.YtmopmbehbehilaaGreat.R

/-! Covers. -/
theorem mulDiv_ok (a b c : Int) : 0 ≤ a → 0 ≤ b → 0 ≤ c → 0 ≤ (mulDivS a b c 1).1 ∧ (mulDivS a b c 1).1 ≤ 9223372036854775807 ∧ ((mulDivS a b c 1).2 ≠ 0 → (mulDivS a b c 1).1 = 0) := by
  intro ha hb hc
  unfold mulDivS
  by_cases h : c = 0 ∨ (1 : Int) < 1 ∨ (4 : Int) < 1
  · rw [if_pos h]; exact ⟨by decide, by decide, fun _ => rfl⟩
  · rw [if_neg h]
    have m : minusOf a b c = false := by unfold minusOf; rw [decide_eq_false (by omega), decide_eq_false (by omega), decide_eq_false (by omega)]; rfl
    simp only [m]
    have u : ∀ q r d, upOf false q r d 1 = false := by intro q r d; unfold upOf; simp
    rw [u]
    simp only [Bool.false_eq_true, if_false, Int.add_zero]
    have q0 : 0 ≤ ((a.natAbs : Int) * b.natAbs) / (c.natAbs : Int) := Int.ediv_nonneg (Int.mul_nonneg (by omega) (by omega)) (by omega)
    generalize ((a.natAbs : Int) * b.natAbs) / (c.natAbs : Int) = q at q0 ⊢
    unfold signOf
    split
    · exact ⟨by decide, by decide, fun _ => rfl⟩
    · rename_i hq
      simp only [Bool.false_eq_true, if_false]
      exact ⟨q0, by simp at hq; omega, fun h => absurd rfl h⟩

def worthS (q p : Int) : Int × Int := if q < 0 then (0, 1) else if 1125899906842624 < q then (0, 1) else if p < 1 then (0, 1) else if 4294967296 < p then (0, 1) else mulDivS q p 1000000 1
theorem worth_ok (q p : Int) : 0 ≤ (worthS q p).1 ∧ (worthS q p).1 ≤ 9223372036854775807 ∧ ((worthS q p).2 ≠ 0 → (worthS q p).1 = 0) := by
  unfold worthS
  split
  · exact ⟨by decide, by decide, fun _ => rfl⟩
  split
  · exact ⟨by decide, by decide, fun _ => rfl⟩
  split
  · exact ⟨by decide, by decide, fun _ => rfl⟩
  split
  · exact ⟨by decide, by decide, fun _ => rfl⟩
  · exact mulDiv_ok _ _ _ (by omega) (by omega) (by decide)
theorem Worth_r {q p : Int} : asset_Worth_r q p (worthS q p) := by
  refine asset_Worth_of ?_
  unfold asset_Worth_w worthS
  refine Br.i (fun c => Rt.i (by rw [if_pos c])) (fun c1 => Br.i (fun c => Rt.i (by rw [if_neg c1, if_pos c])) (fun c2 => Br.i (fun c => Rt.i (by rw [if_neg c1, if_neg c2, if_pos c])) (fun c3 => Br.i (fun c => Rt.i (by rw [if_neg c1, if_neg c2, if_neg c3, if_pos c])) (fun c4 => ?_))))
  exact ⟨_, MulDiv_r (iok (by omega)) (iok (by omega)) (by decide), Rt.i (by rw [if_neg c1, if_neg c2, if_neg c3, if_neg c4])⟩
theorem RWorth_r {q p : Int} : lombardref13_Worth_r q p (worthS q p) := by
  refine lombardref13_Worth_of ?_
  unfold lombardref13_Worth_w worthS
  refine Br.i (fun c => Rt.i (by rw [if_pos c])) (fun c1 => Br.i (fun c => Rt.i (by rw [if_neg c1, if_pos c])) (fun c2 => Br.i (fun c => Rt.i (by rw [if_neg c1, if_neg c2, if_pos c])) (fun c3 => Br.i (fun c => Rt.i (by rw [if_neg c1, if_neg c2, if_neg c3, if_pos c])) (fun c4 => ?_))))
  exact ⟨_, RMulDiv_r (iok (by omega)) (iok (by omega)) (by decide), Rt.i (by rw [if_neg c1, if_neg c2, if_neg c3, if_neg c4])⟩
def goodS (p c : Int) : Bool := decide (p ≥ 1) && (decide (p ≤ 4294967296) && (decide (c ≥ 0) && decide (c < 1000000)))
theorem good_r {p c : Int} : haircut_good_r p c (goodS p c) := by
  refine haircut_good_of ?_
  unfold haircut_good_w goodS
  refine Br.i (fun c1 => Br.i (fun c2 => Br.i (fun c3 => Rt.i ?_) (fun c3 => Rt.i ?_)) (fun c2 => Rt.i ?_)) (fun c1 => Rt.i ?_)
  · rw [decide_eq_true c1, decide_eq_true c2, decide_eq_true c3]; rfl
  · rw [decide_eq_true c1, decide_eq_true c2, decide_eq_false c3]; rfl
  · rw [decide_eq_true c1, decide_eq_false c2]; rfl
  · rw [decide_eq_false c1]; rfl
theorem Rgood_r {p c : Int} : lombardref15_good_r p c (goodS p c) := by
  refine lombardref15_good_of ?_
  unfold lombardref15_good_w goodS
  refine Br.i (fun c1 => Br.i (fun c2 => Br.i (fun c3 => Rt.i ?_) (fun c3 => Rt.i ?_)) (fun c2 => Rt.i ?_)) (fun c1 => Rt.i ?_)
  · rw [decide_eq_true c1, decide_eq_true c2, decide_eq_true c3]; rfl
  · rw [decide_eq_true c1, decide_eq_true c2, decide_eq_false c3]; rfl
  · rw [decide_eq_true c1, decide_eq_false c2]; rfl
  · rw [decide_eq_false c1]; rfl
def coverS (q p c : Int) : Int × Int := if goodS p c = false then (0, 1) else if (worthS q p).2 ≠ 0 then (0, (worthS q p).2) else mulDivS (worthS q p).1 (1000000 - c) 1000000 1
theorem cover_ok (q p c : Int) : 0 ≤ (coverS q p c).1 ∧ (coverS q p c).1 ≤ 9223372036854775807 ∧ ((coverS q p c).2 ≠ 0 → (coverS q p c).1 = 0) := by
  unfold coverS
  split
  · exact ⟨by decide, by decide, fun _ => rfl⟩
  split
  · exact ⟨Int.le_refl 0, (by decide : (0 : Int) ≤ 9223372036854775807), fun _ => rfl⟩
  · rename_i h _
    have g : 0 ≤ c ∧ c < 1000000 := by
      unfold goodS at h; simp at h; omega
    exact mulDiv_ok _ _ _ (worth_ok q p).1 (by omega) (by decide)
theorem goodS_c {p c : Int} (h : ¬ goodS p c = false) : 0 ≤ c ∧ c < 1000000 := by unfold goodS at h; simp at h; omega
theorem Cover_r {q p c : Int} : haircut_Cover_r q p c (coverS q p c) := by
  refine haircut_Cover_of ?_
  unfold haircut_Cover_w
  have w := worth_ok q p
  refine ⟨_, good_r, Br.b (fun h => Rt.i ?_) (fun h => ?_)⟩
  · unfold coverS; rw [if_pos (by simpa using h)]
  · have h' : ¬ goodS p c = false := by simpa using h
    have g := goodS_c h'
    refine ⟨_, Worth_r, Br.i (fun c1 => Rt.i ?_) (fun c1 => Num.n (by omega) ⟨_, MulDiv_r (iok (by omega)) (iok (by omega)) (by decide), Rt.i ?_⟩)⟩
    · unfold coverS; rw [if_neg h', if_pos c1]
    · unfold coverS; rw [if_neg h', if_neg c1]
theorem RCover_r {q p c : Int} : lombardref15_Cover_r q p c (coverS q p c) := by
  refine lombardref15_Cover_of ?_
  unfold lombardref15_Cover_w
  have w := worth_ok q p
  refine ⟨_, Rgood_r, Br.b (fun h => Rt.i ?_) (fun h => ?_)⟩
  · unfold coverS; rw [if_pos (by simpa using h)]
  · have h' : ¬ goodS p c = false := by simpa using h
    have g := goodS_c h'
    refine ⟨_, RWorth_r, Br.i (fun c1 => Rt.i ?_) (fun c1 => Num.n (by omega) ⟨_, RMulDiv_r (iok (by omega)) (iok (by omega)) (by decide), Rt.i ?_⟩)⟩
    · unfold coverS; rw [if_neg h', if_pos c1]
    · unfold coverS; rw [if_neg h', if_neg c1]

/-- Items alike. -/
def toH (x : lombardref15_Item) : haircut_Item := ⟨x.Lot, x.Asset, x.Price, x.Cut⟩
def covC (x : lombardref15_Item) : Int := (coverS x.Lot.Qty x.Price x.Cut).1
theorem covC_ok (x : lombardref15_Item) : 0 ≤ covC x ∧ covC x ≤ 9223372036854775807 := ⟨(cover_ok _ _ _).1, (cover_ok _ _ _).2.1⟩
theorem ICover_r (x : lombardref15_Item) : _haircut_Item_Cover_r (toH x) (covC x) := by
  refine _haircut_Item_Cover_of ?_
  unfold _haircut_Item_Cover_w
  refine ⟨_, Cover_r, Br.i (fun c => Rt.i ?_) (fun c => Rt.i rfl)⟩
  exact ((cover_ok _ _ _).2.2 c).symm
theorem RCovers_r (x : lombardref15_Item) : _lombardref15_Item_Covers_r x (covC x) := by
  refine _lombardref15_Item_Covers_of ?_
  unfold _lombardref15_Item_Covers_w
  exact ⟨_, RCover_r, Rt.i rfl⟩

/-! items. -/
theorem app96 {n : Nat} (h : n ≤ 3000000) : App 96 n := ⟨by unfold maxLen; omega, by omega⟩
theorem items_l {l : List lombardref15_Item} {Q : List haircut_Item → Prop} : ∀ (n s : Nat) (acc : List haircut_Item), n + s = l.length → acc.length + n ≤ 3000000 → l.length ≤ 3000000 → Q (acc ++ (l.drop s).map toH) → lombardlaw16_items_L0 l Q (s : Int) acc
  | 0, s, acc, h, _, _, q => by
    refine lombardlaw16_items_l0 ?_
    unfold lombardlaw16_items_w0
    rw [lenM_eq]
    refine Br.neg (by omega) (Lf.i ?_)
    rw [List.drop_of_length_le (by omega)] at q
    simpa using q
  | n + 1, s, acc, h, ha, hr, q => by
    have hs : s < l.length := by omega
    refine lombardlaw16_items_l0 ?_
    unfold lombardlaw16_items_w0
    rw [lenM_eq]
    rw [List.drop_eq_getElem_cons hs, List.map_cons] at q
    have g : l[(s : Int).toNat]? = some l[s] := by simp [hs]
    refine Br.pos (by omega) ⟨l[s], Got.i (Got.i (Got.i (Got.i (App2.i (app96 (by simp; omega)) (Num.n (by omega) ?_)) (by omega) g) (by omega) g) (by omega) g) (by omega) g⟩
    exact items_l n (s + 1) _ (by omega) (by simp; omega) hr (by simpa [toH] using q)
theorem items_r {l : List lombardref15_Item} (h : l.length ≤ 3000000) : lombardlaw16_items_r l (l.map toH) := by
  refine lombardlaw16_items_of ?_
  unfold lombardlaw16_items_w
  exact items_l _ 0 [] rfl (by simpa using h) h (Rt.i (by simp))

/-! Over. -/
def above1 (x : lombardref15_Item) : Bool := decide (covC x > 1125899906842624)
def putAll (l : List lombardref15_Item) (t : limit_Table) : limit_Table := l.foldl (fun t x => putT t x.Asset (covC x)) t
def withAll (l : List lombardref15_Item) (r : lombardref16_Table) : lombardref16_Table := l.foldl (fun r x => withR r x.Asset (covC x)) r
def KeyOk2 (l : List lombardref15_Item) : Prop := ∀ x ∈ l, InK .i64 x.Asset.Issuer ∧ x.Asset.ISIN.size ≤ maxLen
theorem Ply_all : ∀ (l : List lombardref15_Item) {r : lombardref16_Table} {t : limit_Table} {n : Nat}, KeyOk2 l → l.any above1 = false → n + l.length ≤ 1000 → Ply r t n → Ply (withAll l r) (putAll l t) (n + l.length)
  | [], r, t, n, _, _, _, h => h
  | x :: l, r, t, n, hk, hb, hn, h => by
    simp only [List.any_cons, Bool.or_eq_false_iff] at hb
    simp only [List.length_cons] at hn
    have hx := hk x (by simp)
    have hc := covC_ok x
    have hb1 : ¬ covC x > 1125899906842624 := of_decide_eq_false hb.1
    have := Ply_all l (fun y hy => hk y (List.mem_cons_of_mem _ hy)) hb.2 (by omega) (Ply_put (c := covC x) h (by omega) hx.1 hx.2 ⟨hc.1, by omega⟩)
    rw [List.length_cons, Nat.add_comm l.length 1, ← Nat.add_assoc]
    exact this

theorem over_l {l : List lombardref15_Item} {Q0 : Unit → Prop} {Q1 : (Int × Int × Int × Int × (GM Int Int) × (GM ByteArray Int)) → Prop} (hk : KeyOk2 l) (hl : l.length ≤ 64) :
    ∀ (n s : Nat) (t : limit_Table), n + s = l.length → (∃ r, Ply r t s) → ((l.drop s).any above1 = true → Q0 ()) → ((l.drop s).any above1 = false → Q1 ((putAll (l.drop s) t).need, (putAll (l.drop s) t).issuer, (putAll (l.drop s) t).asset, (putAll (l.drop s) t).sum, (putAll (l.drop s) t).issuers, (putAll (l.drop s) t).assets)) →
      limit_Over_L0b (l.map toH) Q0 Q1 (s : Int) t.need t.issuer t.asset t.sum t.issuers t.assets := by
  intro n
  induction n with
  | zero =>
    intro s t h _ _ q1
    refine limit_Over_l0b ?_
    unfold limit_Over_w0b
    rw [lenM_eq, List.length_map]
    refine Br.neg (by omega) (Lf.i ?_)
    rw [List.drop_of_length_le (by omega)] at q1
    exact q1 rfl
  | succ n ih =>
    intro s t h hp q0 q1
    have hs : s < l.length := by omega
    refine limit_Over_l0b ?_
    unfold limit_Over_w0b
    rw [lenM_eq, List.length_map]
    rw [List.drop_eq_getElem_cons hs] at q0 q1
    have hx := hk _ (List.getElem_mem hs)
    have hc := covC_ok l[s]
    obtain ⟨r, hp⟩ := hp
    refine Br.pos (by omega) ⟨toH l[s], Got.i ⟨covC l[s], ICover_r l[s], Br.i (fun c => Lf.i (q0 ?_)) (fun c => ⟨covC l[s], ICover_r l[s], putT t l[s].Asset (covC l[s]), Gput_r (t := t) hp (by omega) ⟨hc.1, by omega⟩, Num.n (by omega) ?_⟩)⟩ (by omega) (by simp [hs])⟩
    · simp only [List.any_cons, above1, decide_eq_true c, Bool.true_or]
    · have hb : above1 l[s] = false := decide_eq_false c
      refine ih (s + 1) (putT t l[s].Asset (covC l[s])) (by omega) ⟨_, Ply_put hp (by omega) hx.1 hx.2 ⟨hc.1, by omega⟩⟩ (fun e => q0 ?_) (fun e => ?_)
      · simp only [List.any_cons, e, Bool.or_true]
      · exact q1 (by simp only [List.any_cons, e, hb]; rfl)
theorem rover_l {l : List lombardref15_Item} {Q0 : Unit → Prop} {Q1 : (Int × Int × Int × List lombardref16_Part) → Prop} (hl : l.length ≤ 64) :
    ∀ (n s : Nat) (r : lombardref16_Table), n + s = l.length → r.L.length ≤ s → ((l.drop s).any above1 = true → Q0 ()) → ((l.drop s).any above1 = false → Q1 ((withAll (l.drop s) r).Need, (withAll (l.drop s) r).Issuer, (withAll (l.drop s) r).Asset, (withAll (l.drop s) r).L)) →
      lombardref16_Over_L0 l Q0 Q1 (s : Int) r.Need r.Issuer r.Asset r.L := by
  intro n
  induction n with
  | zero =>
    intro s r h _ _ q1
    refine lombardref16_Over_l0 ?_
    unfold lombardref16_Over_w0
    rw [lenM_eq]
    refine Br.neg (by omega) (Lf.i ?_)
    rw [List.drop_of_length_le (by omega)] at q1
    exact q1 rfl
  | succ n ih =>
    intro s r h hr q0 q1
    have hs : s < l.length := by omega
    refine lombardref16_Over_l0 ?_
    unfold lombardref16_Over_w0
    rw [lenM_eq]
    rw [List.drop_eq_getElem_cons hs] at q0 q1
    have g : l[(s : Int).toNat]? = some l[s] := by simp [hs]
    refine Br.pos (by omega) ⟨l[s], Got.i ⟨covC l[s], RCovers_r l[s], Br.i (fun c => Lf.i (q0 ?_)) (fun c => Got.i (Got.i ⟨covC l[s], RCovers_r l[s], withR r l[s].Asset (covC l[s]), RWith_r (r := r) (by omega), Num.n (by omega) ?_⟩ (by omega) g) (by omega) g)⟩ (by omega) g⟩
    · simp only [List.any_cons, above1, decide_eq_true c, Bool.true_or]
    · have hb : above1 l[s] = false := decide_eq_false c
      refine ih (s + 1) (withR r l[s].Asset (covC l[s])) (by omega) (by simp [withR]; omega) (fun e => q0 ?_) (fun e => ?_)
      · simp only [List.any_cons, e, Bool.or_true]
      · exact q1 (by simp only [List.any_cons, e, hb]; rfl)

theorem above_l {r : List limit_Use} {Q : List limit_Use → Prop} : ∀ (n s : Nat) (acc : List limit_Use), n + s = r.length → acc.length + n ≤ 3000000 → r.length ≤ 3000000 → Q (acc ++ (r.drop s).filter fun u => decide (u.Cover > u.Limit)) → limit_Over_L1 r Q (s : Int) acc
  | 0, s, acc, h, _, _, q => by
    refine limit_Over_l1 ?_
    unfold limit_Over_w1
    rw [lenM_eq]
    refine Br.neg (by omega) (Lf.i ?_)
    rw [List.drop_of_length_le (by omega)] at q
    simpa using q
  | n + 1, s, acc, h, ha, hr, q => by
    have hs : s < r.length := by omega
    refine limit_Over_l1 ?_
    unfold limit_Over_w1
    rw [lenM_eq]
    rw [List.drop_eq_getElem_cons hs, List.filter_cons] at q
    refine Br.pos (by omega) ⟨r[s], Got.i (Br.i (fun c => App2.i (app40 (by simp; omega)) (Num.n (by omega) ?_)) (fun c => Num.n (by omega) ?_)) (by omega) (by simp [hs])⟩
    · rw [decide_eq_true c] at q
      exact above_l n (s + 1) _ (by omega) (by simp; omega) hr (by simpa using q)
    · rw [decide_eq_false c] at q
      exact above_l n (s + 1) _ (by omega) (by omega) hr (by simpa using q)
theorem rabove_l {r : List lombardref16_Use} {Q : List lombardref16_Use → Prop} : ∀ (n s : Nat) (acc : List lombardref16_Use), n + s = r.length → acc.length + n ≤ 3000000 → r.length ≤ 3000000 → Q (acc ++ (r.drop s).filter fun u => decide (u.Cover > u.Limit)) → lombardref16_Over_L1 r Q (s : Int) acc
  | 0, s, acc, h, _, _, q => by
    refine lombardref16_Over_l1 ?_
    unfold lombardref16_Over_w1
    rw [lenM_eq]
    refine Br.neg (by omega) (Lf.i ?_)
    rw [List.drop_of_length_le (by omega)] at q
    simpa using q
  | n + 1, s, acc, h, ha, hr, q => by
    have hs : s < r.length := by omega
    refine lombardref16_Over_l1 ?_
    unfold lombardref16_Over_w1
    rw [lenM_eq]
    rw [List.drop_eq_getElem_cons hs, List.filter_cons] at q
    have g : r[(s : Int).toNat]? = some r[s] := by simp [hs]
    refine Br.pos (by omega) ⟨r[s], Got.i (Got.i (Br.i (fun c => Got.i (App2.i (app40 (by simp; omega)) (Num.n (by omega) ?_)) (by omega) g) (fun c => Num.n (by omega) ?_)) (by omega) g) (by omega) g⟩
    · rw [decide_eq_true c] at q
      exact rabove_l n (s + 1) _ (by omega) (by simp; omega) hr (by simpa using q)
    · rw [decide_eq_false c] at q
      exact rabove_l n (s + 1) _ (by omega) (by omega) hr (by simpa using q)

theorem New_r0 {b : api_Basket} {need : Int} (h : ¬ newOk b need) : limit_New_r0 b need 1 := by
  refine limit_New_of0 ?_
  unfold limit_New_w
  refine Br.i (fun c => Rt.i rfl) (fun c1 => Br.i (fun c => Rt.i rfl) (fun c2 => Br.i (fun c => Rt.i rfl) (fun c3 => Br.i (fun c => Rt.i rfl) (fun c4 => Br.i (fun c => Rt.i rfl) (fun c5 => Br.i (fun c => Rt.i rfl) (fun c6 => absurd ?_ h))))))
  unfold newOk; omega
theorem Ply_new {b : api_Basket} {need : Int} : Ply ⟨need, (newT b need).issuer, (newT b need).asset, []⟩ (newT b need) 0 :=
  ⟨⟨ok_nil, ok_nil, Nat.le_refl _, Nat.le_refl _⟩, rfl, rfl, fun _ => rfl, fun _ => rfl, rfl, Nat.le_refl _, fun p hp => (by cases hp), (by show (0 : Int) ≤ _; omega)⟩
theorem usesT_len {t : limit_Table} {n : Nat} (h : Kt t n) : (usesT t).length ≤ 2 * n := by
  have := posI_len h; have := posS_len h
  rw [usesT_eq]; simp only [List.length_append, List.length_map]; omega

def aboveT (t : limit_Table) : List limit_Use := (usesT t).filter fun u => decide (u.Cover > u.Limit)
/-- What Over tells. -/
def overS (b : api_Basket) (need : Int) (l : List lombardref15_Item) : List limit_Use × Int :=
  if 64 < l.length then ([], 2) else if l.any above1 = true then ([], 9) else (aboveT (putAll l (newT b need)), 0)
theorem over_len (b : api_Basket) (need : Int) (l : List lombardref15_Item) (hk : KeyOk2 l) : (overS b need l).1.length ≤ 3000000 := by
  unfold overS
  split
  · decide
  · split
    · decide
    · rename_i h1 h2
      have hp := Ply_all l hk (by simpa using h2) (by omega) (Ply_new (b := b) (need := need))
      have := usesT_len hp.kt
      have := List.length_filter_le (fun u : limit_Use => decide (u.Cover > u.Limit)) (usesT (putAll l (newT b need)))
      show (aboveT _).length ≤ _
      unfold aboveT; omega
theorem Over_r {b : api_Basket} {need : Int} {l : List lombardref15_Item} (hk : KeyOk2 l) (h : newOk b need) : limit_Over_r b need (l.map toH) (overS b need l) := by
  refine limit_Over_of ?_
  unfold limit_Over_w
  rw [lenM_eq, List.length_map]
  refine .inr ⟨_, New_r1 h, Br.f rfl (Br.i (fun c => Rt.i (by unfold overS; rw [if_pos (by omega)])) (fun c => ?_))⟩
  refine over_l hk (by omega) _ 0 (newT b need) rfl ⟨_, Ply_new⟩ (fun e => ?_) (fun e => ?_)
  · exact Rt.i (by unfold overS; rw [if_neg (by omega), if_pos (by simpa using e)])
  · rw [List.drop_zero] at e
    have hp := Ply_all l hk e (by omega) (Ply_new (b := b) (need := need))
    have hl := usesT_len hp.kt
    refine ⟨usesT (putAll l (newT b need)), Uses_r (t := putAll l (newT b need)) hp.kt (by omega), above_l _ 0 [] rfl (by simp; omega) (by omega) (Rt.i ?_)⟩
    unfold overS; rw [if_neg (by omega), if_neg (by simp [e])]; rfl
theorem ROver_r {b : api_Basket} {need : Int} {l : List lombardref15_Item} (hk : KeyOk2 l) (h : newOk b need) : lombardref16_Over_r b need l ((overS b need l).1.map toldU, (overS b need l).2) := by
  refine lombardref16_Over_of ?_
  unfold lombardref16_Over_w
  rw [lenM_eq]
  refine ⟨_, RNew1 h, Br.f rfl (Br.i (fun c => Rt.i (by unfold overS; rw [if_pos (by omega)]; rfl)) (fun c => ?_))⟩
  refine rover_l (by omega) _ 0 ⟨need, (newT b need).issuer, (newT b need).asset, []⟩ rfl (Nat.le_refl _) (fun e => ?_) (fun e => ?_)
  · exact Rt.i (by unfold overS; rw [if_neg (by omega), if_pos (by simpa using e)]; rfl)
  · rw [List.drop_zero] at e
    have hp := Ply_all l hk e (by omega) (Ply_new (b := b) (need := need))
    have hl := usesT_len hp.kt
    refine ⟨_, RUses_r (r := withAll l ⟨need, (newT b need).issuer, (newT b need).asset, []⟩) hp (by omega), rabove_l _ 0 [] rfl (by simp; omega) (by simp; omega) (Rt.i ?_)⟩
    unfold overS; rw [if_neg (by omega), if_neg (by simp [e])]
    simp only [List.drop_zero, List.nil_append, aboveT, List.filter_map]
    rfl
theorem Over_r0 {b : api_Basket} {need : Int} {l : List haircut_Item} (h : ¬ newOk b need) : limit_Over_r b need l ([], 1) := by
  refine limit_Over_of ?_
  unfold limit_Over_w
  exact .inl ⟨_, New_r0 h, Br.t rfl (Rt.i rfl)⟩
theorem ROver_r0 {b : api_Basket} {need : Int} {l : List lombardref15_Item} (h : ¬ newOk b need) : lombardref16_Over_r b need l ([], 1) := by
  refine lombardref16_Over_of ?_
  unfold lombardref16_Over_w
  exact ⟨_, RNew0 h, Br.t rfl (Rt.i rfl)⟩
end Go.Proofs.YtmopmbehbehilaaGreat.Pure
