/- Baskets' rules: what the two functions answer. -/
import Derived.Test.YtbhfedfkckddjaaRA
set_option linter.unusedVariables false
set_option linter.unusedSimpArgs false
namespace Go.Proofs.Ytbhfedfkckddjaa.Pure
open Go Go.Ab Go.Proofs.Ytbhfedfkckddjaa.R

theorem inR_of {n : Int} (h1 : -4611686018427387904 ≤ n) (h2 : n ≤ 4611686018427387904) : InR n := ⟨by omega, by omega⟩
theorem in_ok (a l m : Int) : lombardref10_in a l m (decide (l ≤ a ∧ a ≤ m)) := by
  obtain ⟨r, h, rfl⟩ := lombardref10_in_of (a0 := a) (a1 := l) (a2 := m) (Q := fun r => r = decide (l ≤ a ∧ a ≤ m)) (by
    unfold lombardref10_in_wp; split
    · rename_i h; simp [h]
    · rename_i h; simp; omega)
  exact h
theorem amount_ok (a : Int) : lombardref10_Amount a (decide (1 ≤ a ∧ a ≤ 1125899906842624)) := by
  obtain ⟨r, h, rfl⟩ := lombardref10_Amount_of (a0 := a) (Q := fun r => r = decide (1 ≤ a ∧ a ≤ 1125899906842624)) (by
    unfold lombardref10_Amount_wp; split
    · rename_i h; simp [h]
    · rename_i h; simp; omega)
  exact h

theorem currency_ok (c : ByteArray) : ∃ r, lombardref05_Currency c r := by
  have loop : ∀ n : Nat, n ≤ 8 → ∃ o, lombardref05_Currency_L0 c (32 - 4 * (n : Int)) o := by
    intro n
    induction n with
    | zero =>
      intro _
      obtain ⟨o, h, _⟩ := lombardref05_Currency_of0 (a0 := c) (s0_0 := 32 - 4 * ((0 : Nat) : Int)) (Q := fun _ => True) (by
        unfold lombardref05_Currency_w0; simp)
      exact ⟨o, h⟩
    | succ n ih =>
      intro hn
      obtain ⟨o, ho⟩ := ih (by omega)
      obtain ⟨o', h, _⟩ := lombardref05_Currency_of0 (a0 := c) (s0_0 := 32 - 4 * ((n + 1 : Nat) : Int)) (Q := fun _ => True) (by
        unfold lombardref05_Currency_w0
        try dsimp only
        rw [if_pos (by omega)]
        refine ⟨inR_of (by omega) (by omega), ⟨by omega, by omega, ?_⟩, ?_⟩
        · show _ ≤ (32 : Int); omega
        · split
          · trivial
          · refine ⟨inR_of (by omega) (by omega), o, ?_, trivial⟩
            have : (32 : Int) - 4 * ((n + 1 : Nat) : Int) + 4 = 32 - 4 * (n : Int) := by omega
            rw [this]; exact ho)
      exact ⟨o', h⟩
  obtain ⟨o, ho⟩ := loop 8 (by omega)
  have ho : lombardref05_Currency_L0 c 0 o := ho
  obtain ⟨r, h, _⟩ := lombardref05_Currency_of (a0 := c) (Q := fun _ => True) (by
    unfold lombardref05_Currency_wp
    try dsimp only
    exact ⟨o, ho, by cases o <;> trivial⟩)
  exact ⟨r, h⟩

/-- A loop over a list's places, from behind. -/
theorem down {len : Nat} {P : Nat → Prop} (h0 : P len) (hs : ∀ i, i < len → P (i + 1) → P i) : ∀ i, i ≤ len → P i := by
  intro i hi
  obtain ⟨k, rfl⟩ : ∃ k, i = len - k := ⟨len - i, by omega⟩
  clear hi
  induction k with
  | zero => exact h0
  | succ k ih =>
    by_cases hk : k < len
    · have := hs (len - (k + 1)) (by omega) (by rw [show len - (k + 1) + 1 = len - k by omega]; exact ih)
      exact this
    · rw [show len - (k + 1) = len - k by omega]; exact ih

theorem cuts_ok (b : api_Basket) (hl : b.Cuts.length ≤ 140737488351232) : ∃ o, lombardref10_Basket_L0 b 0 o := by
  have := down (len := b.Cuts.length) (P := fun i => ∃ o, lombardref10_Basket_L0 b (i : Int) o) ?_ ?_ 0 (Nat.zero_le _)
  · exact this
  · obtain ⟨o, h, _⟩ := lombardref10_Basket_of0 (a0 := b) (s0_0 := (b.Cuts.length : Int)) (Q := fun _ => True) (by
      unfold lombardref10_Basket_w0
      try dsimp only
      rw [if_neg (by rw [lenM_eq]; omega)]; trivial)
    exact ⟨o, h⟩
  · intro i hi ⟨o, ho⟩
    obtain ⟨o', h, _⟩ := lombardref10_Basket_of0 (a0 := b) (s0_0 := (i : Int)) (Q := fun _ => True) (by
      unfold lombardref10_Basket_w0
      try dsimp only
      rw [if_pos (by rw [lenM_eq]; omega)]
      have next : InR ((i : Int) + 1) ∧ ∃ o, lombardref10_Basket_L0 b ((i : Int) + 1) o ∧ True := ⟨inR_of (by omega) (by omega), o, ho, trivial⟩
      refine ⟨by omega, b.Cuts[i], by simp [hi], _, in_ok _ _ _, ?_⟩
      split
      · refine ⟨_, in_ok _ _ _, ?_⟩
        split
        · refine ⟨_, in_ok _ _ _, ?_⟩
          split
          · exact next
          · trivial
        · trivial
      · trivial)
    exact ⟨o', h⟩

/-- From the place i on the numbers rise. -/
def Rises (l : List Int) (i : Nat) : Prop := ∀ j x y, i ≤ j → 0 < j → l[j - 1]? = some x → l[j]? = some y → x < y

theorem barred_ok (b : api_Basket) (hl : b.Barred.length ≤ 140737488351232) : ∃ o, lombardref10_Basket_L1 b 0 o ∧ (o = .e1 → Rises b.Barred 0) := by
  have := down (len := b.Barred.length) (P := fun i => ∃ o, lombardref10_Basket_L1 b (i : Int) o ∧ (o = .e1 → Rises b.Barred i)) ?_ ?_ 0 (Nat.zero_le _)
  · exact this
  · exact lombardref10_Basket_of1 (a0 := b) (s1_0 := (b.Barred.length : Int)) (Q := fun o => o = .e1 → Rises b.Barred b.Barred.length) (by
      unfold lombardref10_Basket_w1
      try dsimp only
      rw [if_neg (by rw [lenM_eq]; omega)]
      intro _ j x y hj _ _ hy
      rw [List.getElem?_eq_none (by omega)] at hy; cases hy)
  · intro i hi ⟨o, ho, hr⟩
    exact lombardref10_Basket_of1 (a0 := b) (s1_0 := (i : Int)) (Q := fun o => o = .e1 → Rises b.Barred i) (by
      unfold lombardref10_Basket_w1
      try dsimp only
      rw [if_pos (by rw [lenM_eq]; omega)]
      refine ⟨by omega, b.Barred[i], by simp [hi], _, in_ok _ _ _, ?_⟩
      split
      · split
        · rename_i h0
          have h1 : ((i : Int) - 1).toNat = i - 1 := by omega
          refine ⟨inR_of (by omega) (by omega), by omega, b.Barred[i - 1]'(by omega), by rw [h1]; simp [show i - 1 < b.Barred.length by omega], ?_⟩
          split
          · intro h; cases h
          · rename_i hlt
            refine ⟨inR_of (by omega) (by omega), o, ho, fun he j x y hj hj0 hx hy => ?_⟩
            by_cases hji : j = i
            · subst hji
              rw [List.getElem?_eq_getElem (by omega)] at hx hy
              cases hx; cases hy; omega
            · exact hr he j x y (by omega) hj0 hx hy
        · rename_i h0
          have : i = 0 := by omega
          subst this
          refine ⟨inR_of (by omega) (by omega), o, ho, fun he j x y hj hj0 hx hy => hr he j x y (by omega) hj0 hx hy⟩
      · intro h; cases h)

/-- What the document's test of rules tells. -/
structure Good (b : api_Basket) : Prop where
  len : b.Barred.length ≤ 64
  least : 0 ≤ b.Least
  rises : Rises b.Barred 0

theorem basket_ok (b : api_Basket) (h1 : b.Cuts.length ≤ 140737488351232) (h2 : b.Barred.length ≤ 140737488351232) : ∃ r, lombardref10_Basket b r ∧ (r = 0 → Good b) := by
  obtain ⟨rc, hc⟩ := currency_ok b.Currency
  obtain ⟨o0, hl0⟩ := cuts_ok b h1
  obtain ⟨o1, hl1, hr⟩ := barred_ok b h2
  refine lombardref10_Basket_of (a0 := b) (Q := fun r => r = 0 → Good b) ?_
  unfold lombardref10_Basket_wp
  try dsimp only
  refine ⟨_, in_ok _ _ _, ?_⟩
  refine iteI (fun _ => ?_) (fun _ h => by cases h)
  refine ⟨_, amount_ok _, ?_⟩
  refine iteI (fun _ => ?_) (fun _ h => by cases h)
  refine ⟨_, in_ok _ _ _, ?_⟩
  refine iteI (fun _ => ?_) (fun _ h => by cases h)
  refine ⟨_, in_ok _ _ _, ?_⟩
  refine iteI (fun _ => ?_) (fun _ h => by cases h)
  refine ⟨_, in_ok _ _ _, ?_⟩
  refine iteI (fun _ => ?_) (fun _ h => by cases h)
  refine ⟨_, in_ok _ _ _, ?_⟩
  refine iteI (fun _ => ?_) (fun _ h => by cases h)
  refine iteI (fun _ h => by cases h) (fun hlen => ?_)
  rw [lenM_eq] at hlen
  refine iteI (fun _ h => by cases h) (fun hleast => ?_)
  refine ⟨_, in_ok _ _ _, ?_⟩
  refine iteI (fun _ => ?_) (fun _ h => by cases h)
  refine ⟨rc, hc, ?_⟩
  refine iteI (fun _ => ?_) (fun _ h => by cases h)
  refine ⟨o0, hl0, ?_⟩
  cases o0 with
  | e0 => intro h; cases h
  | e1 =>
    refine ⟨o1, hl1, ?_⟩
    cases o1 with
    | e0 => intro h; cases h
    | e1 => intro _; exact ⟨by omega, by omega, hr rfl⟩

/-! Is a number in the list? -/
theorem has_ok (l : List Int) (n : Int) (hl : l.length ≤ 140737488351232) : lombardref14_has l n (decide (n ∈ l)) := by
  have := down (len := l.length) (P := fun i => ∃ o, lombardref14_has_L0 l n (i : Int) o ∧ (o = .e0 ↔ n ∈ l.drop i)) ?_ ?_ 0 (Nat.zero_le _)
  · obtain ⟨o, ho, hq⟩ := this
    obtain ⟨r, h, rfl⟩ := lombardref14_has_of (a0 := l) (a1 := n) (Q := fun r => r = decide (n ∈ l)) (by
      unfold lombardref14_has_wp
      try dsimp only
      refine ⟨o, ho, ?_⟩
      rw [List.drop_zero] at hq
      cases o with
      | e0 => simp [hq.1 rfl]
      | e1 => have : n ∉ l := fun h => by cases hq.2 h
              simp [this])
    exact h
  · exact lombardref14_has_of0 (a0 := l) (a1 := n) (s0_0 := (l.length : Int)) (Q := fun o => o = .e0 ↔ n ∈ l.drop l.length) (by
      unfold lombardref14_has_w0
      try dsimp only
      rw [if_neg (by rw [lenM_eq]; omega)]; simp)
  · intro i hi ⟨o, ho, hq⟩
    exact lombardref14_has_of0 (a0 := l) (a1 := n) (s0_0 := (i : Int)) (Q := fun o => o = .e0 ↔ n ∈ l.drop i) (by
      unfold lombardref14_has_w0
      try dsimp only
      rw [if_pos (by rw [lenM_eq]; omega)]
      refine ⟨by omega, l[i], by simp [hi], ?_⟩
      rw [List.drop_eq_getElem_cons hi]
      split
      · rename_i h; simp [h]
      · rename_i h
        refine ⟨inR_of (by omega) (by omega), o, ho, ?_⟩
        rw [hq, List.mem_cons]
        constructor
        · exact .inr
        · rintro (h' | h')
          · exact absurd h'.symm h
          · exact h')

theorem rises_lt {l : List Int} (h : Rises l 0) : ∀ (j i : Nat) (x y : Int), i < j → l[i]? = some x → l[j]? = some y → x < y
  | 0, i, x, y, hij, _, _ => absurd hij (Nat.not_lt_zero i)
  | j + 1, i, x, y, hij, hx, hy => by
    have hj : j < l.length := by have := (List.getElem?_eq_some_iff.1 hy).1; omega
    have h1 := h (j + 1) l[j] y (Nat.zero_le _) (by omega) (by simp [hj]) hy
    by_cases hji : i = j
    · subst hji
      rw [List.getElem?_eq_getElem hj] at hx; cases hx; exact h1
    · have := rises_lt h j i x l[j] (by omega) hx (by simp [hj])
      omega

theorem less_ok (a b : Int) : cmp_Less_int a b (decide (a < b)) := by
  obtain ⟨r, h, rfl⟩ := cmp_Less_int_of (a0 := a) (a1 := b) (Q := fun r => r = decide (a < b)) (by
    unfold cmp_Less_int_wp
    try dsimp only
    obtain ⟨r, h, rfl⟩ := cmp_isNaN_int_of (a0 := a) (Q := fun r => r = false) (by unfold cmp_isNaN_int_wp; simp)
    exact ⟨false, h, by simp⟩)
  exact h

theorem search_ok (l : List Int) (n : Int) (hl : l.length ≤ 140737488351232) (hr : Rises l 0) : ∃ i, slices_BinarySearch_int_int l n i (decide (n ∈ l)) := by
  have loop : ∀ (k i j : Nat), j - i ≤ k → i ≤ j → j ≤ l.length → (∀ m x, m < i → l[m]? = some x → x < n) → (∀ m x, j ≤ m → l[m]? = some x → n ≤ x) →
      ∃ o, slices_BinarySearch_int_int_L0 l n (i : Int) (j : Int) o ∧ ∃ m : Nat, o = .e0 (m : Int) ∧ m ≤ l.length ∧ (∀ q x, q < m → l[q]? = some x → x < n) ∧ (∀ q x, m ≤ q → l[q]? = some x → n ≤ x) := by
    intro k
    induction k with
    | zero =>
      intro i j hk hij hj h1 h2
      exact slices_BinarySearch_int_int_of0 (Q := fun o => ∃ m : Nat, o = .e0 (m : Int) ∧ m ≤ l.length ∧ (∀ q x, q < m → l[q]? = some x → x < n) ∧ (∀ q x, m ≤ q → l[q]? = some x → n ≤ x)) (by
        unfold slices_BinarySearch_int_int_w0
        try dsimp only
        rw [if_neg (by omega)]
        exact ⟨i, rfl, by omega, h1, fun q x hq => h2 q x (by omega)⟩)
    | succ k ih =>
      intro i j hk hij hj h1 h2
      refine slices_BinarySearch_int_int_of0 (Q := fun o => ∃ m : Nat, o = .e0 (m : Int) ∧ m ≤ l.length ∧ (∀ q x, q < m → l[q]? = some x → x < n) ∧ (∀ q x, m ≤ q → l[q]? = some x → n ≤ x)) ?_
      unfold slices_BinarySearch_int_int_w0
      try dsimp only
      split
      · rename_i hlt
        have hdiv : Int.fdiv ((i : Int) + (j : Int)) 2 = (((i + j) / 2 : Nat) : Int) := by
          rw [Int.fdiv_eq_ediv_of_nonneg _ (by decide)]; omega
        rw [hdiv]
        have hm : (i + j) / 2 < l.length := by omega
        refine ⟨inR_of (by omega) (by omega), ⟨by show (0 : Int) ≤ _; omega, by show _ ≤ (18446744073709551615 : Int); omega⟩, inR_of (by omega) (by omega), by omega, l[(i + j) / 2], by rw [Int.toNat_natCast]; exact List.getElem?_eq_getElem hm, _, less_ok _ _, ?_⟩
        split
        · rename_i hlt2
          have hlt2 : l[(i + j) / 2] < n := by simpa using hlt2
          obtain ⟨o, ho, hq⟩ := ih ((i + j) / 2 + 1) j (by omega) (by omega) hj (fun m x hmi hx => by
            by_cases he : m = (i + j) / 2
            · subst he; rw [List.getElem?_eq_getElem hm] at hx; cases hx; exact hlt2
            · have := rises_lt hr ((i + j) / 2) m x l[(i + j) / 2] (by omega) hx (by simp [hm]); omega) h2
          exact ⟨inR_of (by omega) (by omega), o, by have e : (((i + j) / 2 + 1 : Nat) : Int) = (((i + j) / 2 : Nat) : Int) + 1 := by omega
                                                     rw [← e]; exact ho, hq⟩
        · rename_i hlt2
          have hlt2 : ¬ l[(i + j) / 2] < n := by simpa using hlt2
          obtain ⟨o, ho, hq⟩ := ih i ((i + j) / 2) (by omega) (by omega) (by omega) h1 (fun m x hmi hx => by
            by_cases he : m = (i + j) / 2
            · subst he; rw [List.getElem?_eq_getElem hm] at hx; cases hx; omega
            · have := rises_lt hr m ((i + j) / 2) l[(i + j) / 2] x (by omega) (by simp [hm]) hx; omega)
          exact ⟨o, ho, hq⟩
      · exact ⟨i, rfl, by omega, h1, fun q x hq => h2 q x (by omega)⟩
  obtain ⟨o, ho, m, rfl, hm, h1, h2⟩ := loop l.length 0 l.length (by omega) (by omega) (Nat.le_refl _) (fun m x h => absurd h (Nat.not_lt_zero m)) (fun m x h hx => by rw [List.getElem?_eq_none h] at hx; cases hx)
  obtain ⟨i, r, h, rfl⟩ := slices_BinarySearch_int_int_of (a0 := l) (a1 := n) (Q := fun _ r => r = decide (n ∈ l)) (by
    unfold slices_BinarySearch_int_int_wp
    try dsimp only
    refine ⟨.e0 (m : Int), by rw [lenM_eq]; exact ho, ?_⟩
    dsimp only
    rw [lenM_eq]
    split
    · rename_i hlt
      have hlt : m < l.length := by omega
      refine ⟨by omega, l[m], by simp [hlt], ?_⟩
      split
      · rename_i he; simp [← he]
      · rename_i he
        obtain ⟨r, h, rfl⟩ := slices_isNaN_int_of (a0 := l[m]) (Q := fun r => r = false) (by unfold slices_isNaN_int_wp; simp)
        refine ⟨false, h, ?_⟩
        have : n ∉ l := fun hn => by
          obtain ⟨q, hq, hqn⟩ := List.mem_iff_getElem.1 hn
          by_cases hqm : q < m
          · have := h1 q l[q] hqm (by simp [hq]); omega
          · by_cases hqe : q = m
            · subst hqe; exact he hqn
            · have h3 := rises_lt hr q m l[m] l[q] (by omega) (by simp [hlt]) (by simp [hq])
              have h4 := h2 m l[m] (Nat.le_refl _) (by simp [hlt]); omega
        simp [this]
    · rename_i hlt
      have : n ∉ l := fun hn => by
        obtain ⟨q, hq, hqn⟩ := List.mem_iff_getElem.1 hn
        have := h1 q l[q] (by omega) (by simp [hq]); omega
      simp [this])
  exact ⟨i, h⟩

/-! Why. -/
def left (a : api_Asset) (day : Int) : Int := if day < 0 ∨ day > 200000 then -1 else a.Maturity - day
def why (b : api_Basket) (a : api_Asset) (day : Int) : Int :=
  if a.Currency ≠ b.Currency then 1 else if a.Rating > b.Rating then 2 else if left a day < 1 ∨ left a day < b.Least then 3 else if left a day > b.Most then 4 else if a.Issuer ∈ b.Barred then 5 else 0

theorem left1 (a : api_Asset) (day : Int) (h1 : 0 ≤ a.Maturity) (h2 : a.Maturity ≤ 200000) : asset_Left a day (left a day) := by
  obtain ⟨r, h, rfl⟩ := asset_Left_of (a0 := a) (a1 := day) (Q := fun r => r = left a day) (by
    unfold asset_Left_wp left
    try dsimp only
    split
    · rename_i h; simp [h]
    · split
      · rename_i h; simp [h]
      · rename_i h3 h4; exact ⟨inR_of (by omega) (by omega), by rw [if_neg (by omega)]⟩)
  exact h
theorem left2 (a : api_Asset) (day : Int) (h1 : 0 ≤ a.Maturity) (h2 : a.Maturity ≤ 200000) : lombardref13_Left a day (left a day) := by
  obtain ⟨r, h, rfl⟩ := lombardref13_Left_of (a0 := a) (a1 := day) (Q := fun r => r = left a day) (by
    unfold lombardref13_Left_wp left
    try dsimp only
    split
    · rename_i h; simp [h]
    · split
      · rename_i h; simp [h]
      · rename_i h3 h4; exact ⟨inR_of (by omega) (by omega), by rw [if_neg (by omega)]⟩)
  exact h

theorem why1 (b : api_Basket) (a : api_Asset) (day : Int) (g : Good b) (h1 : 0 ≤ a.Maturity) (h2 : a.Maturity ≤ 200000) : basket_Why b a day (why b a day) := by
  obtain ⟨i, hs⟩ := search_ok b.Barred a.Issuer (by have := g.len; omega) g.rises
  obtain ⟨r, h, rfl⟩ := basket_Why_of (a0 := b) (a1 := a) (a2 := day) (Q := fun r => r = why b a day) (by
    unfold basket_Why_wp
    try dsimp only
    refine ⟨_, left1 a day h1 h2, i, _, hs, ?_⟩
    split
    · rename_i c1
      have c1' : ¬ a.Currency ≠ b.Currency := by simpa using c1
      split
      · rename_i c2; show (2 : Int) = why b a day; unfold why; rw [if_neg c1', if_pos c2]
      · rename_i c2
        split
        · rename_i c3; show (3 : Int) = why b a day; unfold why; rw [if_neg c1', if_neg c2, if_pos (.inl c3)]
        · rename_i c3
          split
          · rename_i c4; show (3 : Int) = why b a day; unfold why; rw [if_neg c1', if_neg c2, if_pos (.inr c4)]
          · rename_i c4
            have c34 : ¬ (left a day < 1 ∨ left a day < b.Least) := by omega
            split
            · rename_i c5; show (4 : Int) = why b a day; unfold why; rw [if_neg c1', if_neg c2, if_neg c34, if_pos c5]
            · rename_i c5
              split
              · rename_i c6; show (5 : Int) = why b a day; unfold why; rw [if_neg c1', if_neg c2, if_neg c34, if_neg c5, if_pos (by simpa using c6)]
              · rename_i c6; show (0 : Int) = why b a day; unfold why; rw [if_neg c1', if_neg c2, if_neg c34, if_neg c5, if_neg (by simpa using c6)]
    · rename_i c1; show (1 : Int) = why b a day; unfold why; rw [if_pos c1])
  exact h
theorem why2 (b : api_Basket) (a : api_Asset) (day : Int) (g : Good b) (h1 : 0 ≤ a.Maturity) (h2 : a.Maturity ≤ 200000) : lombardref14_Why b a day (why b a day) := by
  obtain ⟨i, hs⟩ := search_ok b.Barred a.Issuer (by have := g.len; omega) g.rises
  obtain ⟨r, h, rfl⟩ := lombardref14_Why_of (a0 := b) (a1 := a) (a2 := day) (Q := fun r => r = why b a day) (by
    unfold lombardref14_Why_wp
    try dsimp only
    split
    · rename_i c1
      have c1' : ¬ a.Currency ≠ b.Currency := by simpa using c1
      split
      · rename_i c2; show (2 : Int) = why b a day; unfold why; rw [if_neg c1', if_pos c2]
      · rename_i c2
        refine ⟨_, left2 a day h1 h2, ?_⟩
        split
        · rename_i c3; show (3 : Int) = why b a day; unfold why; rw [if_neg c1', if_neg c2, if_pos (.inl c3)]
        · rename_i c3
          split
          · rename_i c4; show (3 : Int) = why b a day; unfold why; rw [if_neg c1', if_neg c2, if_pos (.inr c4)]
          · rename_i c4
            have c34 : ¬ (left a day < 1 ∨ left a day < b.Least) := by omega
            split
            · rename_i c5; show (4 : Int) = why b a day; unfold why; rw [if_neg c1', if_neg c2, if_neg c34, if_pos c5]
            · rename_i c5
              refine ⟨_, has_ok b.Barred a.Issuer (by have := g.len; omega), ?_⟩
              split
              · rename_i c6; show (5 : Int) = why b a day; unfold why; rw [if_neg c1', if_neg c2, if_neg c34, if_neg c5, if_pos (by simpa using c6)]
              · rename_i c6; show (0 : Int) = why b a day; unfold why; rw [if_neg c1', if_neg c2, if_neg c34, if_neg c5, if_neg (by simpa using c6)]
    · rename_i c1; show (1 : Int) = why b a day; unfold why; rw [if_pos c1])
  exact h
theorem fits1 (b : api_Basket) (a : api_Asset) (day : Int) (g : Good b) (h1 : 0 ≤ a.Maturity) (h2 : a.Maturity ≤ 200000) : basket_Fits b a day (why b a day == 0) := by
  obtain ⟨r, h, rfl⟩ := basket_Fits_of (a0 := b) (a1 := a) (a2 := day) (Q := fun r => r = (why b a day == 0)) (by
    unfold basket_Fits_wp
    try dsimp only
    exact ⟨_, why1 b a day g h1 h2, rfl⟩)
  exact h

/-! Within. -/
def within (a b : api_Basket) : Bool :=
  decide (a.Currency = b.Currency ∧ a.Rating ≤ b.Rating ∧ max b.Least 1 ≤ max a.Least 1 ∧ a.Most ≤ b.Most ∧ ∀ n ∈ b.Barred, n ∈ a.Barred)

theorem within1 (a b : api_Basket) (g : Good a) (g2 : Good b) : basket_Within a b (within a b) := by
  have := down (len := b.Barred.length) (P := fun i => ∃ o, basket_Within_L0 b a (i : Int) o ∧ (o = .e1 ↔ ∀ n ∈ b.Barred.drop i, n ∈ a.Barred)) ?_ ?_ 0 (Nat.zero_le _)
  · obtain ⟨o, ho, hq⟩ := this
    rw [List.drop_zero] at hq
    obtain ⟨r, h, rfl⟩ := basket_Within_of (a0 := a) (a1 := b) (Q := fun r => r = within a b) (by
      unfold basket_Within_wp within
      try dsimp only
      by_cases c1 : a.Currency = b.Currency
      · rw [if_pos c1]
        by_cases c2 : a.Rating > b.Rating
        · rw [if_pos c2]; symm; rw [decide_eq_false_iff_not]; omega
        · rw [if_neg c2]
          by_cases c3 : max a.Least 1 < max b.Least 1
          · rw [if_pos c3]; symm; rw [decide_eq_false_iff_not]; omega
          · rw [if_neg c3]
            by_cases c4 : a.Most > b.Most
            · rw [if_pos c4]; symm; rw [decide_eq_false_iff_not]; omega
            · rw [if_neg c4]
              refine ⟨o, ho, ?_⟩
              cases o with
              | e0 =>
                dsimp only; symm; rw [decide_eq_false_iff_not]
                rintro ⟨_, _, _, _, h⟩
                cases hq.2 h
              | e1 => dsimp only; symm; rw [decide_eq_true_eq]; exact ⟨c1, by omega, by omega, by omega, hq.1 rfl⟩
      · rw [if_neg c1]; symm; rw [decide_eq_false_iff_not]; exact fun h => c1 h.1)
    exact h
  · exact basket_Within_of0 (a0 := a) (a1 := b) (s0_0 := (b.Barred.length : Int)) (Q := fun o => o = .e1 ↔ ∀ n ∈ b.Barred.drop b.Barred.length, n ∈ a.Barred) (by
      unfold basket_Within_w0
      try dsimp only
      rw [if_neg (by rw [lenM_eq]; omega)]; simp)
  · intro i hi ⟨o, ho, hq⟩
    have hlen := g2.len
    exact basket_Within_of0 (a0 := a) (a1 := b) (s0_0 := (i : Int)) (Q := fun o => o = .e1 ↔ ∀ n ∈ b.Barred.drop i, n ∈ a.Barred) (by
      unfold basket_Within_w0
      try dsimp only
      rw [if_pos (by rw [lenM_eq]; omega)]
      obtain ⟨k, hs⟩ := search_ok a.Barred b.Barred[i] (by have := g.len; omega) g.rises
      refine ⟨by omega, b.Barred[i], by simp [hi], k, _, hs, ?_⟩
      rw [List.drop_eq_getElem_cons hi]
      by_cases c : b.Barred[i] ∈ a.Barred
      · rw [if_pos (by simpa using c)]
        refine ⟨inR_of (by omega) (by omega), o, ho, ?_⟩
        rw [hq, List.forall_mem_cons]; exact ⟨fun h => ⟨c, h⟩, fun h => h.2⟩
      · rw [if_neg (by simpa using c)]
        exact Iff.intro (fun h => nomatch h) (fun h => absurd (List.forall_mem_cons.1 h).1 c))

theorem within2 (a b : api_Basket) (g : Good a) (g2 : Good b) : lombardref14_Within a b (within a b) := by
  have hlen := g2.len
  have loop : ∀ y x : Int, ∃ o, lombardref14_Within_L0 a b y x 0 o ∧ ((o = .e0 ∧ ¬ ∀ n ∈ b.Barred, n ∈ a.Barred) ∨ (o = .e1 x y ∧ ∀ n ∈ b.Barred, n ∈ a.Barred)) := by
    intro y x
    have := down (len := b.Barred.length) (P := fun i => ∃ o, lombardref14_Within_L0 a b y x (i : Int) o ∧ ((o = .e0 ∧ ¬ ∀ n ∈ b.Barred.drop i, n ∈ a.Barred) ∨ (o = .e1 x y ∧ ∀ n ∈ b.Barred.drop i, n ∈ a.Barred))) ?_ ?_ 0 (Nat.zero_le _)
    · simpa using this
    · exact lombardref14_Within_of0 (Q := fun o => (o = .e0 ∧ ¬ ∀ n ∈ b.Barred.drop b.Barred.length, n ∈ a.Barred) ∨ (o = .e1 x y ∧ ∀ n ∈ b.Barred.drop b.Barred.length, n ∈ a.Barred)) (by
        unfold lombardref14_Within_w0
        try dsimp only
        rw [if_neg (by rw [lenM_eq]; omega)]; right; exact ⟨rfl, by simp⟩)
    · intro i hi ⟨o, ho, hq⟩
      exact lombardref14_Within_of0 (Q := fun o => (o = .e0 ∧ ¬ ∀ n ∈ b.Barred.drop i, n ∈ a.Barred) ∨ (o = .e1 x y ∧ ∀ n ∈ b.Barred.drop i, n ∈ a.Barred)) (by
        unfold lombardref14_Within_w0
        try dsimp only
        rw [if_pos (by rw [lenM_eq]; omega)]
        refine ⟨by omega, b.Barred[i], by simp [hi], _, has_ok a.Barred b.Barred[i] (by have := g.len; omega), ?_⟩
        rw [List.drop_eq_getElem_cons hi]
        by_cases c : b.Barred[i] ∈ a.Barred
        · rw [if_pos (by simpa using c)]
          refine ⟨inR_of (by omega) (by omega), o, ho, ?_⟩
          rcases hq with ⟨q1, q2⟩ | ⟨q1, q2⟩
          · exact .inl ⟨q1, fun h => q2 (List.forall_mem_cons.1 h).2⟩
          · exact .inr ⟨q1, List.forall_mem_cons.2 ⟨c, q2⟩⟩
        · rw [if_neg (by simpa using c)]
          left; exact ⟨rfl, fun h => c (List.forall_mem_cons.1 h).1⟩)
  have fin : ∀ y x : Int, y = max b.Least 1 → x = max a.Least 1 → ∃ o, lombardref14_Within_L0 a b y x 0 o ∧ (match o with | .e0 => (false = within a b) | .e1 y1 y2 => ((if a.Currency = b.Currency then ((if a.Rating ≤ b.Rating then ((if y1 ≥ y2 then (decide (a.Most ≤ b.Most) = within a b) else (false = within a b))) else (false = within a b))) else (false = within a b)))) := by
    intro y x hy hx
    obtain ⟨o, ho, hq⟩ := loop y x
    refine ⟨o, ho, ?_⟩
    unfold within
    rcases hq with ⟨rfl, hq⟩ | ⟨rfl, hq⟩
    · dsimp only; symm; rw [decide_eq_false_iff_not]; exact fun h => hq h.2.2.2.2
    · dsimp only
      by_cases c1 : a.Currency = b.Currency
      · rw [if_pos c1]
        by_cases c2 : a.Rating ≤ b.Rating
        · rw [if_pos c2]
          by_cases c3 : x ≥ y
          · rw [if_pos c3]
            by_cases c4 : a.Most ≤ b.Most
            · rw [decide_eq_true c4]; symm; rw [decide_eq_true_eq]; exact ⟨c1, c2, by omega, c4, hq⟩
            · rw [decide_eq_false c4]; symm; rw [decide_eq_false_iff_not]; exact fun h => c4 h.2.2.2.1
          · rw [if_neg c3]; symm; rw [decide_eq_false_iff_not]; exact fun h => c3 (by have := h.2.2.1; omega)
        · rw [if_neg c2]; symm; rw [decide_eq_false_iff_not]; exact fun h => c2 h.2.1
      · rw [if_neg c1]; symm; rw [decide_eq_false_iff_not]; exact fun h => c1 h.1
  obtain ⟨r, h, rfl⟩ := lombardref14_Within_of (a0 := a) (a1 := b) (Q := fun r => r = within a b) (by
    unfold lombardref14_Within_wp
    try dsimp only
    have l1 := g.least
    have l2 := g2.least
    split
    · rename_i h1
      split
      · rename_i h2; exact fin 1 1 (by omega) (by omega)
      · rename_i h2; exact fin b.Least 1 (by omega) (by omega)
    · rename_i h1
      split
      · rename_i h2; exact fin 1 a.Least (by omega) (by omega)
      · rename_i h2; exact fin b.Least a.Least (by omega) (by omega))
  exact h

theorem within_why {b c : api_Basket} {a : api_Asset} {day : Int} (h : within b c = true) (h0 : why b a day = 0) (g : 0 ≤ c.Least) : why c a day = 0 := by
  unfold within at h
  rw [decide_eq_true_eq] at h
  obtain ⟨h1, h2, h3, h4, h5⟩ := h
  unfold why at h0 ⊢
  by_cases c1 : a.Currency = b.Currency
  · rw [if_neg (by simpa using c1)] at h0
    rw [if_neg (by simpa using c1.trans h1)]
    split at h0
    · cases h0
    · rw [if_neg (by omega)]
      split at h0
      · cases h0
      · rw [if_neg (by omega)]
        split at h0
        · cases h0
        · rw [if_neg (by omega)]
          split at h0
          · cases h0
          · rename_i hb
            rw [if_neg fun hc => hb (h5 _ hc)]
  · rw [if_pos (by simpa using c1)] at h0; cases h0
theorem within_self (b : api_Basket) : within b b = true := by
  unfold within; rw [decide_eq_true_eq]; exact ⟨rfl, Int.le_refl _, Int.le_refl _, Int.le_refl _, fun _ h => h⟩

end Go.Proofs.Ytbhfedfkckddjaa.Pure
