/- Totals; the greatest issuer; LimitOver. -/
import Derived.Test.YtmopmbehbehilaaGreatGOver
set_option linter.unusedVariables false
set_option linter.unusedSimpArgs false
namespace Go.Proofs.YtmopmbehbehilaaGreat.Pure
open Go Go.Ab Go.Proofs.YtmopmbehbehilaaGreat.R

theorem iw2 {x : Int} (h1 : 9223372036854775808 ≤ x) (h2 : x ≤ 18446744073709551614) : IntKind.wrap .i64 x < 0 := by
  simp [IntKind.wrap, IntKind.bits, IntKind.signed]; omega
def plusS (a b : Int) : Int × Int := if a + b ≤ 9223372036854775807 then (a + b, 0) else (0, 9)
theorem FPlus_r {a b : Int} (a0 : 0 ≤ a ∧ a ≤ 9223372036854775807) (b0 : 0 ≤ b ∧ b ≤ 9223372036854775807) : fixnum_Plus_r a b (plusS a b) := by
  refine fixnum_Plus_of ?_
  unfold fixnum_Plus_w plusS
  by_cases h : a + b ≤ 9223372036854775807
  · rw [if_pos h, iw (a + b) (by omega) h]
    refine Br.i (fun c1 => Br.i (fun c2 => Br.neg (by omega) (Br.neg (by omega) (Rt.i rfl))) (fun c2 => Br.neg (by omega) (Rt.i rfl))) (fun c1 => Br.neg (by omega) (Rt.i rfl))
  · rw [if_neg h]
    have w := iw2 (x := a + b) (by omega) (by omega)
    exact Br.pos (by omega) (Br.pos (by omega) (Br.pos w (Rt.i rfl)))
theorem RPlus_r {a b : Int} (a0 : 0 ≤ a ∧ a ≤ 9223372036854775807) (b0 : 0 ≤ b ∧ b ≤ 9223372036854775807) : lombardref01_Plus_r a b (plusS a b) := by
  refine lombardref01_Plus_of ?_
  unfold lombardref01_Plus_w plusS
  refine Br.i (fun c1 => Num.n (by omega) (Br.i (fun c2 => Rt.i (by rw [if_neg (by omega)])) (fun c2 => Br.neg (by omega) (Num.n (by omega) (Rt.i (by rw [if_pos (by omega)])))))) (fun c1 => Br.neg (by omega) (Num.n (by omega) (Rt.i (by rw [if_pos (by omega)]))))

/-! Totals. -/
def sumC : List lombardref15_Item → Int
  | [] => 0
  | x :: l => covC x + sumC l
def ofC (k : Int) : List lombardref15_Item → Int
  | [] => 0
  | x :: l => (if x.Asset.Issuer = k then covC x else 0) + ofC k l
theorem ofC_ok (k : Int) : ∀ l, 0 ≤ ofC k l ∧ ofC k l ≤ sumC l
  | [] => ⟨Int.le_refl 0, Int.le_refl 0⟩
  | x :: l => by
    have h := ofC_ok k l; have c := covC_ok x
    simp only [ofC, sumC]; split <;> omega
theorem sumC_nn : ∀ l, 0 ≤ sumC l
  | [] => Int.le_refl 0
  | x :: l => by have h := sumC_nn l; have c := covC_ok x; simp only [sumC]; omega
def totS (l : List lombardref15_Item) : Int × Int := if sumC l ≤ 9223372036854775807 then (sumC l, 0) else (0, 9)
theorem tot_l {l : List lombardref15_Item} {Q0 Q1 : Int → Prop} (hl : l.length ≤ 1000) : ∀ (n s : Nat) (acc : Int), n + s = l.length → 0 ≤ acc ∧ acc ≤ 9223372036854775807 → (acc + sumC (l.drop s) ≤ 9223372036854775807 → Q1 (acc + sumC (l.drop s))) → (¬ acc + sumC (l.drop s) ≤ 9223372036854775807 → Q0 9) → haircut_Total_L0 (l.map toH) Q0 Q1 acc (s : Int) := by
  intro n
  induction n with
  | zero =>
    intro s acc h ha q1 _
    refine haircut_Total_l0 ?_
    unfold haircut_Total_w0
    rw [lenM_eq, List.length_map]
    rw [List.drop_of_length_le (by omega)] at q1
    refine Br.neg (by omega) (Lf.i ?_)
    simp only [sumC, Int.add_zero] at q1
    exact q1 ha.2
  | succ n ih =>
    intro s acc h ha q1 q0
    have hs : s < l.length := by omega
    refine haircut_Total_l0 ?_
    unfold haircut_Total_w0
    rw [lenM_eq, List.length_map]
    rw [List.drop_eq_getElem_cons hs] at q1 q0
    simp only [sumC] at q1 q0
    have c := covC_ok l[s]
    have nn := sumC_nn (l.drop (s + 1))
    refine Br.pos (by omega) ⟨toH l[s], Got.i ⟨covC l[s], ICover_r l[s], plusS acc (covC l[s]), FPlus_r ha c, ?_⟩ (by omega) (by simp [hs])⟩
    unfold plusS
    by_cases hp : acc + covC l[s] ≤ 9223372036854775807
    · rw [if_pos hp]
      rw [← Int.add_assoc] at q1 q0
      exact Br.f rfl (Num.n (by omega) (ih (s + 1) _ (by omega) ⟨by omega, hp⟩ q1 q0))
    · rw [if_neg hp]
      exact Br.t rfl (Lf.i (q0 (by omega)))
theorem Total_r {l : List lombardref15_Item} (hl : l.length ≤ 1000) : haircut_Total_r (l.map toH) (totS l) := by
  refine haircut_Total_of ?_
  unfold haircut_Total_w
  refine tot_l hl _ 0 0 rfl ⟨by decide, by decide⟩ (fun h => Rt.i ?_) (fun h => Rt.i ?_)
  · simp only [List.drop_zero, Int.zero_add] at h ⊢; unfold totS; rw [if_pos h]
  · simp only [List.drop_zero, Int.zero_add] at h; unfold totS; rw [if_neg h]
theorem rtot_l {l : List lombardref15_Item} {Q0 Q1 : Int → Prop} (hl : l.length ≤ 1000) : ∀ (n s : Nat) (acc : Int), n + s = l.length → 0 ≤ acc ∧ acc ≤ 9223372036854775807 → (acc + sumC (l.drop s) ≤ 9223372036854775807 → Q1 (acc + sumC (l.drop s))) → (¬ acc + sumC (l.drop s) ≤ 9223372036854775807 → Q0 9) → lombardref15_Total_L0 l Q0 Q1 acc (s : Int) := by
  intro n
  induction n with
  | zero =>
    intro s acc h ha q1 _
    refine lombardref15_Total_l0 ?_
    unfold lombardref15_Total_w0
    rw [lenM_eq]
    rw [List.drop_of_length_le (by omega)] at q1
    refine Br.neg (by omega) (Lf.i ?_)
    simp only [sumC, Int.add_zero] at q1
    exact q1 ha.2
  | succ n ih =>
    intro s acc h ha q1 q0
    have hs : s < l.length := by omega
    refine lombardref15_Total_l0 ?_
    unfold lombardref15_Total_w0
    rw [lenM_eq]
    rw [List.drop_eq_getElem_cons hs] at q1 q0
    simp only [sumC] at q1 q0
    have c := covC_ok l[s]
    have nn := sumC_nn (l.drop (s + 1))
    refine Br.pos (by omega) ⟨l[s], Got.i ⟨covC l[s], RCovers_r l[s], plusS acc (covC l[s]), RPlus_r ha c, ?_⟩ (by omega) (by simp [hs])⟩
    unfold plusS
    by_cases hp : acc + covC l[s] ≤ 9223372036854775807
    · rw [if_pos hp]
      rw [← Int.add_assoc] at q1 q0
      exact Br.f rfl (Num.n (by omega) (ih (s + 1) _ (by omega) ⟨by omega, hp⟩ q1 q0))
    · rw [if_neg hp]
      exact Br.t rfl (Lf.i (q0 (by omega)))
theorem RTotal_r {l : List lombardref15_Item} (hl : l.length ≤ 1000) : lombardref15_Total_r l (totS l) := by
  refine lombardref15_Total_of ?_
  unfold lombardref15_Total_w
  refine rtot_l hl _ 0 0 rfl ⟨by decide, by decide⟩ (fun h => Rt.i ?_) (fun h => Rt.i ?_)
  · simp only [List.drop_zero, Int.zero_add] at h ⊢; unfold totS; rw [if_pos h]
  · simp only [List.drop_zero, Int.zero_add] at h; unfold totS; rw [if_neg h]

/-! The greatest. -/
def bt (v : Int → Int) (a b : Int) : Prop := v b < v a ∨ (v b = v a ∧ a < b)
instance (v : Int → Int) : DecidableRel (bt v) := fun a b => decidable_of_iff (v b < v a ∨ (v b = v a ∧ a < b)) Iff.rfl
theorem ordB (v : Int → Int) : Ord (bt v) := ⟨fun _ _ h => by unfold bt at *; omega, fun _ _ _ h1 h2 => by unfold bt at *; omega, fun _ _ h1 h2 => by unfold bt at *; omega⟩
def minB (v : Int → Int) (l : List Int) (b : Int) : Int := l.foldl (fun b x => if bt v x b then x else b) b
theorem minB_spec (v : Int → Int) : ∀ (l : List Int) (b : Int), minB v l b ∈ b :: l ∧ ∀ k ∈ b :: l, ¬ bt v k (minB v l b)
  | [], b => ⟨by simp [minB], fun k hk => by simp at hk; subst hk; exact fun h => (ordB v).asy _ _ h h⟩
  | x :: l, b => by
    have e : minB v (x :: l) b = minB v l (if bt v x b then x else b) := rfl
    rw [e]
    obtain ⟨h1, h2⟩ := minB_spec v l (if bt v x b then x else b)
    by_cases hx : bt v x b
    · rw [if_pos hx] at h1 h2 ⊢
      refine ⟨List.mem_cons_of_mem _ h1, fun k hk => ?_⟩
      rcases List.mem_cons.1 hk with rfl | hk
      · exact (ordB v).nt _ _ _ ((ordB v).asy _ _ hx) (h2 x (by simp))
      · exact h2 k hk
    · rw [if_neg hx] at h1 h2 ⊢
      refine ⟨?_, fun k hk => ?_⟩
      · rcases List.mem_cons.1 h1 with h1 | h1
        · rw [h1]; simp
        · exact List.mem_cons_of_mem _ (List.mem_cons_of_mem _ h1)
      · rcases List.mem_cons.1 hk with rfl | hk
        · exact h2 _ (by simp)
        · rcases List.mem_cons.1 hk with rfl | hk
          · exact (ordB v).nt _ _ _ hx (h2 b (by simp))
          · exact h2 k (List.mem_cons_of_mem _ hk)

/-! The comparison. -/
def cmp3 (a b : Int) : Int := if a < b then -1 else if b < a then 1 else 0
theorem isNaN_r {a : Int} : cmp_isNaN_int_r a false := cmp_isNaN_int_of (Rt.i (by simp))
theorem Cmp3_r {a b : Int} : cmp_Compare_int_r a b (cmp3 a b) := by
  refine cmp_Compare_int_of ?_
  unfold cmp_Compare_int_w cmp3
  refine ⟨_, isNaN_r, _, isNaN_r, Br.f rfl (Br.f rfl (Br.i (fun c => Rt.i (by rw [if_pos c])) (fun c => Br.i (fun c2 => Rt.i (by rw [if_neg c, if_pos c2])) (fun c2 => Rt.i (by rw [if_neg c, if_neg c2])))))⟩
def orS (a b : Int) : Int := if a ≠ 0 then a else b
theorem Or_r {a b : Int} : cmp_Or_int_r [a, b] (orS a b) := by
  refine cmp_Or_int_of ?_
  unfold cmp_Or_int_w
  refine cmp_Or_int_l0 ?_
  unfold cmp_Or_int_w0
  refine Br.pos (by rw [lenM_eq]; simp) ⟨a, Got.i (Br.i (fun c => Lf.i (Rt.i ?_)) (fun c => Num.n (by omega) ?_)) (by omega) rfl⟩
  · unfold orS; rw [if_pos c]
  · refine cmp_Or_int_l0 ?_
    unfold cmp_Or_int_w0
    refine Br.pos (by rw [lenM_eq]; simp) ⟨b, Got.i (Br.i (fun c2 => Lf.i (Rt.i ?_)) (fun c2 => Num.n (by omega) ?_)) (by omega) rfl⟩
    · unfold orS; rw [if_neg c]
    · refine cmp_Or_int_l0 ?_
      unfold cmp_Or_int_w0
      refine Br.neg (by rw [lenM_eq]; simp) (Lf.i (Rt.i ?_))
      unfold orS; rw [if_neg c]; have : b = 0 := by simpa using c2
      exact this.symm
def gv (m : GM Int Int) (k : Int) : Int := m.getD k 0
theorem Cmp_r {a b : Int} {m : GM Int Int} : limit_Greatest_1_r a b m (orS (cmp3 (gv m b) (gv m a)) (cmp3 a b)) := by
  refine limit_Greatest_1_of ?_
  unfold limit_Greatest_1_w
  exact ⟨_, _, Look.i ⟨_, _, Look.i ⟨_, Cmp3_r, _, Cmp3_r, _, Or_r, Rt.i rfl⟩⟩⟩
theorem cmp_neg {a b : Int} {m : GM Int Int} : orS (cmp3 (gv m b) (gv m a)) (cmp3 a b) < 0 ↔ bt (gv m) a b := by
  unfold orS cmp3 bt
  split <;> (try split at *) <;> (try split at *) <;> omega
theorem min_l {l : List Int} {m : GM Int Int} {Q : Int → Prop} (hl : l.length ≤ 1000) : ∀ (n s : Nat) (b : Int), n + s = l.length → Q (minB (gv m) (l.drop s) b) → slices_MinFunc_int_int_f27c_L0 l m Q b (s : Int)
  | 0, s, b, h, q => by
    refine slices_MinFunc_int_int_f27c_l0 ?_
    unfold slices_MinFunc_int_int_f27c_w0
    rw [lenM_eq]
    refine Br.neg (by omega) (Lf.i ?_)
    rw [List.drop_of_length_le (by omega)] at q
    exact q
  | n + 1, s, b, h, q => by
    have hs : s < l.length := by omega
    refine slices_MinFunc_int_int_f27c_l0 ?_
    unfold slices_MinFunc_int_int_f27c_w0
    rw [lenM_eq]
    rw [List.drop_eq_getElem_cons hs] at q
    have q : Q (minB (gv m) (l.drop (s + 1)) (if bt (gv m) l[s] b then l[s] else b)) := q
    have g : l[(s : Int).toNat]? = some l[s] := by simp [hs]
    refine Br.pos (by omega) ⟨l[s], Got.i ⟨_, Cmp_r, Br.i (fun c => Got.i (Num.n (by omega) ?_) (by omega) g) (fun c => Num.n (by omega) ?_)⟩ (by omega) g⟩
    · rw [if_pos (cmp_neg.1 c)] at q
      exact min_l hl n (s + 1) _ (by omega) q
    · rw [if_neg (fun e => c (cmp_neg.2 e))] at q
      exact min_l hl n (s + 1) _ (by omega) q
theorem Min_r {x : Int} {l : List Int} {m : GM Int Int} (hl : l.length < 1000) : slices_MinFunc_int_int_f27c_r (x :: l) m (minB (gv m) l x) := by
  refine slices_MinFunc_int_int_f27c_of ?_
  unfold slices_MinFunc_int_int_f27c_w
  rw [lenM_eq]
  refine Br.neg (by simp only [List.length_cons]; omega) ⟨x, Got.i (min_l (by simp only [List.length_cons]; omega) l.length 1 x (by simp only [List.length_cons]) (Rt.i rfl)) (by omega) rfl⟩

/-! The map of issuers. -/
def mapAll (l : List lombardref15_Item) (m : GM Int Int) : GM Int Int := l.foldl (fun m x => m.put x.Asset.Issuer (m.getD x.Asset.Issuer 0 + covC x)) m
theorem mapAll_get (k : Int) : ∀ (l : List lombardref15_Item) (m : GM Int Int), (mapAll l m).getD k 0 = m.getD k 0 + ofC k l
  | [], m => by simp [mapAll, ofC]
  | x :: l, m => by
    have e : mapAll (x :: l) m = mapAll l (m.put x.Asset.Issuer (m.getD x.Asset.Issuer 0 + covC x)) := rfl
    rw [e, mapAll_get k l, getD_put]
    simp only [ofC]
    by_cases h : x.Asset.Issuer = k
    · rw [if_pos h.symm, if_pos h, h]; omega
    · rw [if_neg (fun e => h e.symm), if_neg h]; omega
theorem mem_putL {k q v : Int} {c : Nat} : ∀ {l : List (Int × Nat × Int)}, q ∈ (putL k v c l).map (·.1) ↔ q = k ∨ q ∈ l.map (·.1)
  | [] => by simp [putL]
  | x :: l => by
    simp only [putL]
    split
    · rename_i h
      simp only [List.map_cons, List.mem_cons]; rw [h]
      constructor
      · rintro (h | h)
        · exact .inl h
        · exact .inr (.inr h)
      · rintro (h | h | h)
        · exact .inl h
        · exact .inl h
        · exact .inr h
    · simp only [List.map_cons, List.mem_cons, mem_putL (l := l)]
      constructor
      · rintro (h | h | h)
        · exact .inr (.inl h)
        · exact .inl h
        · exact .inr (.inr h)
      · rintro (h | h | h)
        · exact .inr (.inl h)
        · exact .inl h
        · exact .inr (.inr h)
theorem mapAll_ok : ∀ (l : List lombardref15_Item) (m : GM Int Int), KeyOk2 l → m.ok (InK .i64) → m.es.length + l.length ≤ 1000 → (mapAll l m).ok (InK .i64) ∧ (mapAll l m).es.length ≤ m.es.length + l.length ∧ ∀ q, q ∈ (mapAll l m).keys ↔ q ∈ m.keys ∨ q ∈ l.map (·.Asset.Issuer)
  | [], m, _, h, _ => ⟨h, Nat.le_refl _, fun q => by simp [mapAll]⟩
  | x :: l, m, hk, h, hn => by
    simp only [List.length_cons] at hn
    have e : mapAll (x :: l) m = mapAll l (m.put x.Asset.Issuer (m.getD x.Asset.Issuer 0 + covC x)) := rfl
    have pl : (m.put x.Asset.Issuer (m.getD x.Asset.Issuer 0 + covC x)).es.length ≤ m.es.length + 1 := putL_len _ _ _ _
    obtain ⟨h1, h2, h3⟩ := mapAll_ok l (m.put x.Asset.Issuer (m.getD x.Asset.Issuer 0 + covC x)) (fun y hy => hk y (List.mem_cons_of_mem _ hy)) (ok_put h (hk x (by simp)).1 (by omega)) (by omega)
    rw [e]
    refine ⟨h1, by simp only [List.length_cons]; omega, fun q => ?_⟩
    rw [h3]
    have : q ∈ (m.put x.Asset.Issuer (m.getD x.Asset.Issuer 0 + covC x)).keys ↔ q = x.Asset.Issuer ∨ q ∈ m.keys := mem_putL
    rw [this, List.map_cons, List.mem_cons]
    constructor
    · rintro ((h | h) | h)
      · exact .inr (.inl h)
      · exact .inl h
      · exact .inr (.inr h)
    · rintro (h | h | h)
      · exact .inl (.inr h)
      · exact .inl (.inl h)
      · exact .inr h
theorem by_l {l : List lombardref15_Item} {r1 : Int × Int} {Q : GM Int Int → Prop} (hl : l.length ≤ 1000) : ∀ (n s : Nat) (m : GM Int Int), n + s = l.length → (∀ k, 0 ≤ m.getD k 0 ∧ m.getD k 0 + ofC k (l.drop s) ≤ 9223372036854775807) → Q (mapAll (l.drop s) m) → limit_Greatest_L0 r1 (l.map toH) Q (s : Int) m
  | 0, s, m, h, _, q => by
    refine limit_Greatest_l0 ?_
    unfold limit_Greatest_w0
    rw [lenM_eq, List.length_map]
    refine Br.neg (by omega) (Lf.i ?_)
    rw [List.drop_of_length_le (by omega)] at q
    exact q
  | n + 1, s, m, h, hm, q => by
    have hs : s < l.length := by omega
    refine limit_Greatest_l0 ?_
    unfold limit_Greatest_w0
    rw [lenM_eq, List.length_map]
    rw [List.drop_eq_getElem_cons hs] at q hm
    have hk := hm l[s].Asset.Issuer
    have c := covC_ok l[s]
    have nn := (ofC_ok l[s].Asset.Issuer (l.drop (s + 1))).1
    simp only [ofC, if_true] at hk
    refine Br.pos (by omega) ⟨toH l[s], Got.i ⟨_, _, Look.i ⟨covC l[s], ICover_r l[s], Num.n (by show -9223372036854775808 ≤ m.getD l[s].Asset.Issuer 0 + covC l[s] ∧ m.getD l[s].Asset.Issuer 0 + covC l[s] ≤ 9223372036854775807; omega) ⟨_, Put.i (Num.n (by omega) ?_)⟩⟩⟩ (by omega) (by simp [hs])⟩
    refine by_l hl n (s + 1) (m.put l[s].Asset.Issuer (m.getD l[s].Asset.Issuer 0 + covC l[s])) (by omega) (fun k => ?_) q
    rw [getD_put]
    have hk2 := hm k
    simp only [ofC] at hk2
    by_cases e : k = l[s].Asset.Issuer
    · subst e; rw [if_pos rfl]; omega
    · rw [if_neg e]; rw [if_neg (fun e2 => e e2.symm)] at hk2; omega

def vC (l : List lombardref15_Item) (k : Int) : Int := ofC k l
def bestS (l : List lombardref15_Item) : Int := minB (vC l) (l.map (·.Asset.Issuer)) ((l.map (·.Asset.Issuer)).headD 0)
def greatS (l : List lombardref15_Item) : Int × Int × Int :=
  if (totS l).2 ≠ 0 then (0, 0, (totS l).2) else if (totS l).1 = 0 then (0, 0, 6) else (bestS l, (mulDivS (vC l (bestS l)) 1000000 (sumC l) 1).1, (mulDivS (vC l (bestS l)) 1000000 (sumC l) 1).2)
theorem totS_1 {l : List lombardref15_Item} (h : ¬ (totS l).2 ≠ 0) : (totS l).1 = sumC l ∧ sumC l ≤ 9223372036854775807 := by
  unfold totS at *
  by_cases hs : sumC l ≤ 9223372036854775807
  · rw [if_pos hs]; exact ⟨rfl, hs⟩
  · rw [if_neg hs] at h; exact absurd (show (9 : Int) ≠ 0 by decide) h
theorem best_mem {l : List lombardref15_Item} (h : l ≠ []) : bestS l ∈ l.map (·.Asset.Issuer) ∧ ∀ k ∈ l.map (·.Asset.Issuer), ¬ bt (vC l) k (bestS l) := by
  obtain ⟨x, l', rfl⟩ := List.exists_cons_of_ne_nil h
  obtain ⟨h1, h2⟩ := minB_spec (vC (x :: l')) ((x :: l').map (·.Asset.Issuer)) x.Asset.Issuer
  refine ⟨?_, fun k hk => h2 k (List.mem_cons_of_mem _ hk)⟩
  rcases List.mem_cons.1 h1 with h1 | h1
  · show minB _ _ _ ∈ _
    simp only [List.map_cons, List.headD_cons] at h1 ⊢
    rw [h1]; simp
  · exact h1
theorem Greatest_r {l : List lombardref15_Item} (hk : KeyOk2 l) (hl : l.length ≤ 80) : limit_Greatest_r (l.map toH) (greatS l) := by
  refine limit_Greatest_of ?_
  unfold limit_Greatest_w greatS
  refine ⟨_, Total_r (by omega), Br.i (fun c => Rt.i (by rw [if_pos c])) (fun c => Br.i (fun c2 => Rt.i (by rw [if_neg c, if_pos c2])) (fun c2 => ?_))⟩
  obtain ⟨t1, t2⟩ := totS_1 c
  have hne : l ≠ [] := fun e => by subst e; exact c2 rfl
  obtain ⟨g1, g2, g3⟩ := mapAll_ok l GM.nil hk ok_nil (by simp [GM.nil]; omega)
  have gv1 : gv (mapAll l GM.nil) = vC l := by
    funext k
    show (mapAll l GM.nil).getD k 0 = ofC k l
    rw [mapAll_get]; show (0 : Int) + _ = _; omega
  refine by_l (by omega) _ 0 GM.nil rfl (fun k => ⟨Int.le_refl 0, by have := (ofC_ok k l).2; show (0 : Int) + ofC k (l.drop 0) ≤ _; rw [List.drop_zero]; omega⟩) ?_
  rw [List.drop_zero]
  refine ⟨keys26_ok _ (by decide) (by decide), collect25_ok (by decide) g1, fun r3 hp => ?_⟩
  have hp : r3.Perm (mapAll l GM.nil).keys := hp
  have memr : ∀ q, q ∈ r3 ↔ q ∈ l.map (·.Asset.Issuer) := fun q => by
    rw [hp.mem_iff, g3]
    constructor
    · rintro (h | h)
      · simp [GM.keys, GM.nil] at h
      · exact h
    · exact .inr
  have hlen : r3.length ≤ 80 := by
    rw [hp.length_eq]; simp only [GM.keys, List.length_map]; simp [GM.nil] at g2; simp [GM.nil]; omega
  cases r3 with
  | nil =>
    obtain ⟨x, l', rfl⟩ := List.exists_cons_of_ne_nil hne
    have := (memr x.Asset.Issuer).2 (by simp)
    simp at this
  | cons y r3 =>
    simp only [List.length_cons] at hlen
    have hm := Min_r (x := y) (l := r3) (m := mapAll l GM.nil) (by omega)
    obtain ⟨s1, s2⟩ := minB_spec (gv (mapAll l GM.nil)) r3 y
    obtain ⟨b1, b2⟩ := best_mem hne
    have e : minB (gv (mapAll l GM.nil)) r3 y = bestS l := by
      rw [gv1] at s1 s2 ⊢
      exact (ordB (vC l)).tri _ _ (b2 _ ((memr _).1 s1)) (s2 _ ((memr _).2 b1))
    rw [e] at hm
    have ev : (mapAll l GM.nil).getD (bestS l) 0 = vC l (bestS l) := congrFun gv1 (bestS l)
    have bd := ofC_ok (bestS l) l
    refine ⟨bestS l, hm, _, _, Look.i ⟨mulDivS (vC l (bestS l)) 1000000 (sumC l) 1, ?_, Rt.i (by rw [if_neg c, if_neg c2])⟩⟩
    rw [ev, t1]
    exact MulDiv_r (iok (by show -9223372036854775808 ≤ ofC (bestS l) l ∧ ofC (bestS l) l ≤ 9223372036854775807; omega)) (by decide) (iok (by have := sumC_nn l; omega))

/-! The reference's. -/
theorem withAll_L : ∀ (l : List lombardref15_Item) (r : lombardref16_Table), (withAll l r).L = r.L ++ l.map (fun x => ⟨x.Asset.Issuer, x.Asset.ISIN, covC x⟩)
  | [], r => by simp [withAll]
  | x :: l, r => by
    have e : withAll (x :: l) r = withAll l (withR r x.Asset (covC x)) := rfl
    rw [e, withAll_L l]; simp [withR]
theorem parts_of (k : Int) : ∀ l : List lombardref15_Item, ofI k (l.map fun x => (⟨x.Asset.Issuer, x.Asset.ISIN, covC x⟩ : lombardref16_Part)) = ofC k l
  | [] => rfl
  | x :: l => by simp only [List.map_cons, ofI, ofC, parts_of k l]
theorem parts_sum : ∀ l : List lombardref15_Item, sumL (l.map fun x => (⟨x.Asset.Issuer, x.Asset.ISIN, covC x⟩ : lombardref16_Part)) = sumC l
  | [] => rfl
  | x :: l => by simp only [List.map_cons, sumL, sumC, parts_sum l]
theorem rg_l {l : List lombardref15_Item} {r1 : Int × Int} {Q : Int × Int × Int × List lombardref16_Part → Prop} (hl : l.length ≤ 1000) : ∀ (n s : Nat) (r : lombardref16_Table), n + s = l.length → r.L.length ≤ s → Q ((withAll (l.drop s) r).Need, (withAll (l.drop s) r).Issuer, (withAll (l.drop s) r).Asset, (withAll (l.drop s) r).L) → lombardref16_Greatest_L0 l r1 Q (s : Int) r.Need r.Issuer r.Asset r.L
  | 0, s, r, h, _, q => by
    refine lombardref16_Greatest_l0 ?_
    unfold lombardref16_Greatest_w0
    rw [lenM_eq]
    refine Br.neg (by omega) (Lf.i ?_)
    rw [List.drop_of_length_le (by omega)] at q
    exact q
  | n + 1, s, r, h, hr, q => by
    have hs : s < l.length := by omega
    refine lombardref16_Greatest_l0 ?_
    unfold lombardref16_Greatest_w0
    rw [lenM_eq]
    rw [List.drop_eq_getElem_cons hs] at q
    have g : l[(s : Int).toNat]? = some l[s] := by simp [hs]
    refine Br.pos (by omega) ⟨l[s], Got.i (Got.i ⟨covC l[s], RCovers_r l[s], withR r l[s].Asset (covC l[s]), RWith_r (r := r) (by omega), Num.n (by omega) ?_⟩ (by omega) g) (by omega) g⟩
    exact rg_l hl n (s + 1) (withR r l[s].Asset (covC l[s])) (by omega) (by simp [withR]; omega) q
theorem rb_l {l : List lombardref15_Item} {r1 : Int × Int} {r : lombardref16_Table} {Q : Int → Prop} (hl : l.length ≤ 1000) (hb : Small r.L) (hrl : r.L.length ≤ 1000) (hv : ∀ k, ofI k r.L = vC l k) : ∀ (n s : Nat) (b : Int), n + s = l.length → Q (minB (vC l) ((l.drop s).map (·.Asset.Issuer)) b) → lombardref16_Greatest_L1 l r1 (r.Need, r.Issuer, r.Asset, r.L) Q b (s : Int)
  | 0, s, b, h, q => by
    refine lombardref16_Greatest_l1 ?_
    unfold lombardref16_Greatest_w1
    rw [lenM_eq]
    refine Br.neg (by omega) (Lf.i ?_)
    rw [List.drop_of_length_le (by omega)] at q
    exact q
  | n + 1, s, b, h, q => by
    have hs : s < l.length := by omega
    refine lombardref16_Greatest_l1 ?_
    unfold lombardref16_Greatest_w1
    rw [lenM_eq]
    rw [List.drop_eq_getElem_cons hs, List.map_cons] at q
    have q : Q (minB (vC l) ((l.drop (s + 1)).map (·.Asset.Issuer)) (if bt (vC l) l[s].Asset.Issuer b then l[s].Asset.Issuer else b)) := q
    have g : l[(s : Int).toNat]? = some l[s] := by simp [hs]
    have o : ∀ k, _lombardref16_Table_OfIssuer_r r k (vC l k) := fun k => by rw [← hv]; exact ROfI_r hb hrl
    refine Br.pos (by omega) ⟨l[s], Got.i ⟨_, o l[s].Asset.Issuer, _, o b, Br.i (fun c => Num.n (by omega) ?_) (fun c => ⟨_, o l[s].Asset.Issuer, _, o b, Br.i (fun c2 => Br.i (fun c3 => Num.n (by omega) ?_) (fun c3 => Num.n (by omega) ?_)) (fun c2 => Num.n (by omega) ?_)⟩)⟩ (by omega) g⟩
    · rw [if_pos (.inl c)] at q; exact rb_l hl hb hrl hv n (s + 1) _ (by omega) q
    · rw [if_pos (.inr ⟨c2.symm, c3⟩)] at q; exact rb_l hl hb hrl hv n (s + 1) _ (by omega) q
    · rw [if_neg (by unfold bt; omega)] at q; exact rb_l hl hb hrl hv n (s + 1) _ (by omega) q
    · rw [if_neg (by unfold bt; omega)] at q; exact rb_l hl hb hrl hv n (s + 1) _ (by omega) q
theorem RGreatest_r {l : List lombardref15_Item} (hl : l.length ≤ 80) : lombardref16_Greatest_r l (greatS l) := by
  refine lombardref16_Greatest_of ?_
  unfold lombardref16_Greatest_w greatS
  refine ⟨_, RTotal_r (by omega), Br.i (fun c => Rt.i (by rw [if_pos c])) (fun c => Br.i (fun c2 => Rt.i (by rw [if_neg c, if_pos c2])) (fun c2 => ?_))⟩
  obtain ⟨t1, t2⟩ := totS_1 c
  have hne : l ≠ [] := fun e => by subst e; exact c2 rfl
  refine rg_l (by omega) _ 0 ⟨0, 0, 0, []⟩ rfl (Nat.le_refl _) ?_
  rw [List.drop_zero]
  have wl := withAll_L l ⟨0, 0, 0, []⟩
  rw [List.nil_append] at wl
  have sm : Small (withAll l ⟨0, 0, 0, []⟩).L := by
    rw [wl]
    refine ⟨fun p hp => ?_, by rw [parts_sum]; exact t2⟩
    obtain ⟨x, _, rfl⟩ := List.mem_map.1 hp
    exact (covC_ok x).1
  have ln : (withAll l ⟨0, 0, 0, []⟩).L.length ≤ 1000 := by rw [wl, List.length_map]; omega
  have hv : ∀ k, ofI k (withAll l ⟨0, 0, 0, []⟩).L = vC l k := fun k => by rw [wl]; exact parts_of k l
  obtain ⟨x, l', rfl⟩ := List.exists_cons_of_ne_nil hne
  refine ⟨x, Got.i (rb_l (by omega) sm ln hv _ 0 _ rfl ?_) (by omega) rfl⟩
  rw [List.drop_zero]
  have bd := ofC_ok (bestS (x :: l')) (x :: l')
  have o : _lombardref16_Table_OfIssuer_r (withAll (x :: l') ⟨0, 0, 0, []⟩) (bestS (x :: l')) (vC (x :: l') (bestS (x :: l'))) := by rw [← hv]; exact ROfI_r sm ln
  refine ⟨_, o, mulDivS (vC (x :: l') (bestS (x :: l'))) 1000000 (sumC (x :: l')) 1, ?_, Rt.i (by rw [if_neg c, if_neg c2]; rfl)⟩
  rw [t1]
  exact RMulDiv_r (iok (by show -9223372036854775808 ≤ ofC (bestS (x :: l')) (x :: l') ∧ ofC (bestS (x :: l')) (x :: l') ≤ 9223372036854775807; omega)) (by decide) (iok (by have := sumC_nn (x :: l'); omega))

theorem LimitOver_r (b : api_Basket) (need : Int) (l : List lombardref15_Item) (hll : l.length ≤ 3000000000000) (hk : KeyOk2 l) : lombardlaw16_LimitOver_r b need l true := by
  refine lombardlaw16_LimitOver_of ?_
  unfold lombardlaw16_LimitOver_w
  rw [lenM_eq]
  refine Br.i (fun _ => ⟨_, awake_r, Rt.i rfl⟩) (fun c => ?_)
  have hl : l.length ≤ 80 := by omega
  obtain ⟨v, hv, h1, h2⟩ : ∃ v : List limit_Use × Int, v.1.length ≤ 3000000 ∧ limit_Over_r b need (l.map toH) v ∧ lombardref16_Over_r b need l (v.1.map toldU, v.2) := by
    by_cases h : newOk b need
    · exact ⟨_, over_len b need l hk, Over_r hk h, ROver_r hk h⟩
    · exact ⟨([], 1), by decide, Over_r0 h, ROver_r0 h⟩
  exact ⟨_, items_r (by omega), v, h1, _, h2, _, items_r (by omega), _, Greatest_r hk hl, _, RGreatest_r hl, _, told_r hv, true, Same_r (by simpa using hv), Br.t rfl (Br.t (by simp) (Br.t (by simp) (Br.t (by simp) (Br.t (by simp) ⟨_, awake_r, Rt.i rfl⟩))))⟩
end Go.Proofs.YtmopmbehbehilaaGreat.Pure
