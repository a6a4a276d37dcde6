/- Numbers as lists of digits to the base 65536, the lowest first: what a list is worth, and what is known of its digits. No program. -/
import Init
set_option linter.unusedVariables false
set_option linter.unusedSimpArgs false
namespace Go.Proofs.Ytfommamkaaggjaa.Big

def val : List Int → Int
  | [] => 0
  | d :: l => d + 65536 * val l

def P (n : Nat) : Int := 65536 ^ n

theorem P_zero : P 0 = 1 := rfl
theorem P_succ (n : Nat) : P (n + 1) = 65536 * P n := by unfold P; rw [Int.pow_succ]; omega
theorem P_pos (n : Nat) : 0 < P n := by
  induction n with
  | zero => decide
  | succ n ih => rw [P_succ]; omega
theorem P_add (a b : Nat) : P (a + b) = P a * P b := by unfold P; exact Int.pow_add _ _ _
theorem P_le {a b : Nat} (h : a ≤ b) : P a ≤ P b := by
  obtain ⟨c, rfl⟩ := Nat.exists_eq_add_of_le h
  have h1 := P_pos a
  have h2 := P_pos c
  rw [P_add]
  have : P a * 1 ≤ P a * P c := Int.mul_le_mul_of_nonneg_left (by omega) (by omega)
  omega

def Digits (l : List Int) : Prop := ∀ x ∈ l, 0 ≤ x ∧ x < 65536
def Trimmed (l : List Int) : Prop := ∀ h : l ≠ [], l.getLast h ≠ 0
/-- The digits of a number, without zeros at the end. -/
def IsBig (l : List Int) (n : Int) : Prop := Digits l ∧ Trimmed l ∧ val l = n

theorem Digits.nil : Digits [] := by intro x h; cases h
theorem Digits.cons {d : Int} {l : List Int} (h0 : 0 ≤ d) (h1 : d < 65536) (h : Digits l) : Digits (d :: l) := by
  intro x hx
  rcases List.mem_cons.1 hx with rfl | hx
  · exact ⟨h0, h1⟩
  · exact h x hx
theorem Digits.tail {d : Int} {l : List Int} (h : Digits (d :: l)) : Digits l := fun x hx => h x (List.mem_cons_of_mem _ hx)
theorem Digits.head {d : Int} {l : List Int} (h : Digits (d :: l)) : 0 ≤ d ∧ d < 65536 := h d (List.mem_cons_self ..)
theorem Digits.append {a b : List Int} (h : Digits a) (k : Digits b) : Digits (a ++ b) := by
  intro x hx
  rcases List.mem_append.1 hx with hx | hx
  · exact h x hx
  · exact k x hx
theorem Digits.take {l : List Int} (h : Digits l) (n : Nat) : Digits (l.take n) := fun x hx => h x (List.mem_of_mem_take hx)
theorem Digits.drop {l : List Int} (h : Digits l) (n : Nat) : Digits (l.drop n) := fun x hx => h x (List.mem_of_mem_drop hx)
theorem Digits.get {l : List Int} (h : Digits l) (i : Nat) : 0 ≤ l.getD i 0 ∧ l.getD i 0 < 65536 := by
  rw [List.getD_eq_getElem?_getD]
  cases hh : l[i]? with
  | none => simp
  | some x => simpa using h x (List.mem_of_getElem? hh)
theorem Digits.set {l : List Int} (h : Digits l) (i : Nat) {x : Int} (h0 : 0 ≤ x) (h1 : x < 65536) : Digits (l.set i x) := by
  intro y hy
  rcases List.mem_or_eq_of_mem_set hy with hy | rfl
  · exact h y hy
  · exact ⟨h0, h1⟩
theorem Digits.zeros (n : Nat) : Digits (List.replicate n 0) := by
  intro x hx
  obtain ⟨_, rfl⟩ := List.mem_replicate.1 hx
  omega

theorem val_append (a b : List Int) : val (a ++ b) = val a + P a.length * val b := by
  induction a with
  | nil => simp [val, P_zero]
  | cons d a ih => simp only [List.cons_append, val, ih, List.length_cons, P_succ]; grind
theorem val_nonneg {l : List Int} (h : Digits l) : 0 ≤ val l := by
  induction l with
  | nil => simp [val]
  | cons d l ih => have := ih h.tail; have := h.head; simp only [val]; omega
theorem val_lt {l : List Int} (h : Digits l) : val l < P l.length := by
  induction l with
  | nil => simp [val, P_zero]
  | cons d l ih => have := ih h.tail; have := h.head; simp only [val, List.length_cons, P_succ]; omega
theorem val_zeros (n : Nat) : val (List.replicate n 0) = 0 := by
  induction n with
  | zero => rfl
  | succ n ih => simp only [List.replicate_succ, val, ih]; omega
theorem val_set {l : List Int} {i : Nat} (h : i < l.length) (x : Int) : val (l.set i x) = val l + (x - l.getD i 0) * P i := by
  induction l generalizing i with
  | nil => simp at h
  | cons d l ih =>
    cases i with
    | zero => simp only [List.set_cons_zero, val, List.getD_cons_zero, P_zero]; omega
    | succ i =>
      simp only [List.length_cons, Nat.add_lt_add_iff_right] at h
      simp only [List.set_cons_succ, val, ih h, List.getD_cons_succ, P_succ]
      grind
theorem val_drop {l : List Int} {i : Nat} (h : i < l.length) : val (l.drop i) = l.getD i 0 + 65536 * val (l.drop (i + 1)) := by
  rw [List.drop_eq_getElem_cons h]
  simp only [val]
  rw [List.getD_eq_getElem?_getD, List.getElem?_eq_getElem h]
  rfl
theorem val_drop_end {l : List Int} {i : Nat} (h : l.length ≤ i) : val (l.drop i) = 0 := by rw [List.drop_of_length_le h]; rfl
theorem val_take_succ {l : List Int} {i : Nat} (h : i < l.length) : val (l.take (i + 1)) = val (l.take i) + P i * l.getD i 0 := by
  rw [List.take_succ_eq_append_getElem h, val_append, List.length_take, Nat.min_eq_left (Nat.le_of_lt h), List.getD_eq_getElem?_getD, List.getElem?_eq_getElem h]
  simp [val]
theorem val_split (l : List Int) {i : Nat} (h : i ≤ l.length) : val l = val (l.take i) + P i * val (l.drop i) := by
  conv => lhs; rw [← List.take_append_drop i l]
  rw [val_append, List.length_take, Nat.min_eq_left h]
/-- Digits behind what a number is below are 0. -/
theorem digit_zero {l : List Int} (h : Digits l) {m j : Nat} (hv : val l < P m) (hj : m ≤ j) : l.getD j 0 = 0 := by
  by_cases hl : j < l.length
  · have s := val_split l (Nat.le_of_lt hl)
    have d := val_drop hl
    have t0 := val_nonneg (h.take j)
    have t1 := val_nonneg (h.drop (j + 1))
    have g := h.get j
    have p := P_le hj
    have q := P_pos j
    by_cases z : l.getD j 0 = 0
    · exact z
    · have : 1 ≤ val (l.drop j) := by omega
      have : P j * 1 ≤ P j * val (l.drop j) := Int.mul_le_mul_of_nonneg_left this (by omega)
      omega
  · rw [List.getD_eq_getElem?_getD, List.getElem?_eq_none (by omega)]; rfl

theorem trimmed_nil : Trimmed [] := fun h => absurd rfl h
theorem IsBig.nil : IsBig [] 0 := ⟨Digits.nil, trimmed_nil, rfl⟩
theorem IsBig.nonneg {l : List Int} {n : Int} (h : IsBig l n) : 0 ≤ n := by obtain ⟨d, _, rfl⟩ := h; exact val_nonneg d
theorem last_pos {l : List Int} (h : Digits l) (t : Trimmed l) (hl : 0 < l.length) : P (l.length - 1) ≤ val l := by
  have hne : l ≠ [] := by intro e; subst e; simp at hl
  have s := val_split l (i := l.length - 1) (by omega)
  have d := val_drop (l := l) (i := l.length - 1) (by omega)
  rw [val_drop_end (l := l) (i := l.length - 1 + 1) (by omega)] at d
  have g := h.get (l.length - 1)
  have nz : l.getD (l.length - 1) 0 ≠ 0 := by
    have := t hne
    rw [List.getLast_eq_getElem] at this
    rw [List.getD_eq_getElem?_getD, List.getElem?_eq_getElem (by omega)]
    simpa using this
  have t0 := val_nonneg (h.take (l.length - 1))
  have q := P_pos (l.length - 1)
  have : 1 ≤ val (l.drop (l.length - 1)) := by omega
  have : P (l.length - 1) * 1 ≤ P (l.length - 1) * val (l.drop (l.length - 1)) := Int.mul_le_mul_of_nonneg_left this (by omega)
  omega
theorem IsBig.pos_iff {l : List Int} {n : Int} (h : IsBig l n) : 0 < l.length ↔ 0 < n := by
  obtain ⟨d, t, rfl⟩ := h
  constructor
  · intro hl
    have := last_pos d t hl
    have := P_pos (l.length - 1)
    omega
  · intro hv
    cases l with
    | nil => simp [val] at hv
    | cons => simp
theorem IsBig.len_le {l : List Int} {n : Int} (h : IsBig l n) {m : Nat} (hn : n < P m) : l.length ≤ m := by
  obtain ⟨d, t, rfl⟩ := h
  by_cases hl : l.length ≤ m
  · exact hl
  · have := last_pos d t (by omega)
    have := P_le (show m ≤ l.length - 1 by omega)
    omega
/-- The longer of two is the greater one. -/
theorem IsBig.lt_of_len {a b : List Int} {m n : Int} (ha : IsBig a m) (hb : IsBig b n) (h : a.length < b.length) : m < n := by
  obtain ⟨da, _, rfl⟩ := ha
  obtain ⟨db, tb, rfl⟩ := hb
  have h1 := val_lt da
  have h2 := last_pos db tb (by omega)
  have h3 := P_le (show a.length ≤ b.length - 1 by omega)
  omega
theorem val_mod_two {l : List Int} : val l % 2 = l.getD 0 0 % 2 := by
  cases l with
  | nil => rfl
  | cons d l => simp only [val, List.getD_cons_zero]; omega
end Go.Proofs.Ytfommamkaaggjaa.Big
