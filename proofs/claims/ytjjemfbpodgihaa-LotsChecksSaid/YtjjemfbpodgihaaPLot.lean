-- a shortened text: what this claim does not name is left out (wip/xprint/prune.py of this repo)
import Derived.Laws.Strings
import Derived.Test.YtjjemfbpodgihaaXStr
import Derived.Test.YtjjemfbpodgihaaX0
namespace Go.Proofs.Ytjjemfbpodgihaa.PLot
open Go Go.Proofs.Ytjjemfbpodgihaa.X
abbrev Lot := S43
abbrev Bs := List UInt8
abbrev key (x : Lot) : Bs := x.f0.toList
def L (a b : Bs) : Prop := Op.bytesLess a b = true
instance (a b : Bs) : Decidable (L a b) := by unfold L; infer_instance
def M : Int := 1125899906842624
theorem key_inj {a b : ByteArray} (h : a.toList = b.toList) : a = b := by
  rw [ByteArray.toList_eq, ByteArray.toList_eq] at h
  cases a; cases b
  congr 1
  exact Array.toList_inj.1 h
theorem L_irrefl : ∀ a : Bs, ¬ L a a
  | [] => by unfold L; simp [Op.bytesLess]
  | a :: x => by
    have ih := L_irrefl x
    unfold L at ih ⊢
    have n : ¬ a < a := UInt8.lt_irrefl a
    simp only [Op.bytesLess, n, decide_false, Bool.false_or, beq_self_eq_true, Bool.true_and]
    exact ih
theorem L_tri (a b : Bs) : L a b ∨ a = b ∨ L b a := by
  have := XWords.bl_total a b
  unfold L
  cases h : Op.bytesLess b a
  · rw [h] at this
    simp only [Bool.not_false, Bool.or_eq_true, beq_iff_eq] at this
    rcases this with h1 | h1
    · exact .inl h1
    · exact .inr (.inl h1)
  · exact .inr (.inr rfl)
theorem L_trans : ∀ {a b c : Bs}, L a b → L b c → L a c
  | a, [], c, h, k => by unfold L at h; cases a <;> simp [Op.bytesLess] at h
  | [], b :: y, [], h, k => by unfold L at k; simp [Op.bytesLess] at k
  | [], b :: y, c :: z, h, k => by unfold L; simp [Op.bytesLess]
  | a :: x, b :: y, [], h, k => by unfold L at k; simp [Op.bytesLess] at k
  | a :: x, b :: y, c :: z, h, k => by
    unfold L at h k ⊢
    simp only [Op.bytesLess, Bool.or_eq_true, decide_eq_true_eq, Bool.and_eq_true, beq_iff_eq] at h k ⊢
    rcases h with h | ⟨rfl, h⟩
    · rcases k with k | ⟨rfl, k⟩
      · exact .inl (UInt8.lt_trans h k)
      · exact .inl h
    · rcases k with k | ⟨rfl, k⟩
      · exact .inl k
      · exact .inr ⟨rfl, L_trans (a := x) (b := y) (c := z) h k⟩
theorem L_ne {a b : Bs} (h : L a b) : a ≠ b := fun e => L_irrefl b (by rw [e] at h; exact h)
def Sorted (l : List Lot) : Prop := l.Pairwise fun x y => L (key x) (key y)
def Pos (l : List Lot) : Prop := ∀ x ∈ l, 1 ≤ x.f1 ∧ x.f1 ≤ M
def qty : List Lot → Bs → Int
  | [], _ => 0
  | x :: r, k => if key x = k then x.f1 else qty r k
theorem qty_zero {l : List Lot} {k : Bs} (h : ∀ x ∈ l, key x ≠ k) : qty l k = 0 := by
  induction l with
  | nil => rfl
  | cons x r ih =>
    unfold qty
    rw [if_neg (h x List.mem_cons_self)]
    exact ih fun y hy => h y (List.mem_cons_of_mem _ hy)
theorem qty_mem {l : List Lot} (s : Sorted l) {x : Lot} (h : x ∈ l) : qty l (key x) = x.f1 := by
  induction l with
  | nil => cases h
  | cons y r ih =>
    unfold qty
    rcases List.mem_cons.1 h with rfl | h
    · rw [if_pos rfl]
    · rw [if_neg (L_ne ((List.pairwise_cons.1 s).1 x h))]
      exact ih (List.pairwise_cons.1 s).2 h
theorem qty_nonneg {l : List Lot} (p : Pos l) (k : Bs) : 0 ≤ qty l k ∧ qty l k ≤ M := by
  induction l with
  | nil => unfold qty M; omega
  | cons y r ih =>
    unfold qty
    split
    · have := p y List.mem_cons_self; omega
    · exact ih fun x hx => p x (List.mem_cons_of_mem _ hx)
theorem qty_find {l : List Lot} {k : Bs} (h : qty l k ≠ 0) : ∃ x ∈ l, key x = k := by
  by_cases c : ∃ x ∈ l, key x = k
  · exact c
  · exact absurd (qty_zero fun x hx e => c ⟨x, hx, e⟩) h
theorem Pos.tail {x : Lot} {l : List Lot} (p : Pos (x :: l)) : Pos l := fun y hy => p y (List.mem_cons_of_mem _ hy)
theorem Sorted.tail {x : Lot} {l : List Lot} (s : Sorted (x :: l)) : Sorted l := (List.pairwise_cons.1 s).2
theorem Sorted.head {x : Lot} {l : List Lot} (s : Sorted (x :: l)) : ∀ y ∈ l, L (key x) (key y) := (List.pairwise_cons.1 s).1
theorem qty_below {l : List Lot} {k : Bs} (h : ∀ y ∈ l, L k (key y)) : qty l k = 0 := qty_zero fun x hx e => L_irrefl k (by have := h x hx; rwa [e] at this)
theorem len_le : ∀ {b a : List Lot}, Sorted a → Sorted b → (∀ x ∈ a, ∃ y ∈ b, key y = key x) → a.length ≤ b.length
  | [], [], _, _, _ => Nat.le_refl _
  | [], x :: r, _, _, h => by obtain ⟨y, hy, _⟩ := h x List.mem_cons_self; cases hy
  | y :: s, [], _, _, _ => Nat.zero_le _
  | y :: s, x :: r, sa, sb, h => by
    obtain ⟨z, hz, e⟩ := h x List.mem_cons_self
    rcases List.mem_cons.1 hz with rfl | hz'
    all_goals clear hz
    · refine Nat.succ_le_succ (len_le sa.tail sb.tail fun u hu => ?_)
      obtain ⟨v, hv, e2⟩ := h u (List.mem_cons_of_mem _ hu)
      rcases List.mem_cons.1 hv with rfl | hv
      · exact absurd (by rw [← e2, e] : key u = key x) (fun e3 => L_irrefl (key x) (by have := sa.head u hu; rwa [e3] at this))
      · exact ⟨v, hv, e2⟩
    · refine Nat.le_succ_of_le (len_le sa sb.tail fun u hu => ?_)
      obtain ⟨v, hv, e2⟩ := h u hu
      rcases List.mem_cons.1 hv with rfl | hv
      · have l1 : L (key v) (key x) := by rw [← e]; exact sb.head z hz'
        rcases List.mem_cons.1 hu with rfl | hu
        · rw [e2] at l1; exact absurd l1 (L_irrefl _)
        · have := L_trans l1 (sa.head u hu); rw [e2] at this; exact absurd this (L_irrefl _)
      · exact ⟨v, hv, e2⟩
def setS : List Lot → ByteArray → Int → List Lot
  | [], n, q => if q = 0 then [] else [⟨n, q⟩]
  | x :: r, n, q => if L (key x) n.toList then x :: setS r n q else if key x = n.toList then (if q = 0 then r else ⟨n, q⟩ :: r) else (if q = 0 then x :: r else ⟨n, q⟩ :: x :: r)
theorem setS_keys {l : List Lot} {n : ByteArray} {q : Int} : ∀ x ∈ setS l n q, key x = n.toList ∧ x.f1 = q ∧ q ≠ 0 ∨ x ∈ l := by
  induction l with
  | nil => intro x hx; unfold setS at hx; split at hx <;> simp at hx; subst hx; exact .inl ⟨rfl, rfl, by assumption⟩
  | cons y r ih =>
    intro x hx
    unfold setS at hx
    split at hx
    · rcases List.mem_cons.1 hx with rfl | hx
      · exact .inr List.mem_cons_self
      · rcases ih x hx with h | h
        · exact .inl h
        · exact .inr (List.mem_cons_of_mem _ h)
    · split at hx
      · split at hx
        · exact .inr (List.mem_cons_of_mem _ hx)
        · rcases List.mem_cons.1 hx with rfl | hx
          · exact .inl ⟨rfl, rfl, by assumption⟩
          · exact .inr (List.mem_cons_of_mem _ hx)
      · split at hx
        · exact .inr hx
        · rcases List.mem_cons.1 hx with rfl | hx
          · exact .inl ⟨rfl, rfl, by assumption⟩
          · exact .inr hx
theorem setS_sorted {l : List Lot} (s : Sorted l) (n : ByteArray) (q : Int) : Sorted (setS l n q) := by
  induction l with
  | nil => unfold setS; split <;> simp [Sorted]
  | cons y r ih =>
    unfold setS
    split
    · rename_i c
      refine List.pairwise_cons.2 ⟨fun x hx => ?_, ih s.tail⟩
      rcases setS_keys x hx with ⟨h, _⟩ | h
      · rw [h]; exact c
      · exact s.head x h
    · rename_i c
      split
      · rename_i e
        split
        · exact s.tail
        · exact List.pairwise_cons.2 ⟨fun x hx => by have := s.head x hx; rw [e] at this; exact this, s.tail⟩
      · rename_i e
        split
        · exact s
        · have lt : L n.toList (key y) := by
            rcases L_tri n.toList (key y) with h | h | h
            · exact h
            · exact absurd h.symm e
            · exact absurd h c
          refine List.pairwise_cons.2 ⟨fun x hx => ?_, s⟩
          rcases List.mem_cons.1 hx with rfl | hx
          · exact lt
          · exact L_trans lt (s.head x hx)
theorem setS_pos {l : List Lot} (p : Pos l) {n : ByteArray} {q : Int} (q0 : 0 ≤ q) (q1 : q ≤ M) : Pos (setS l n q) := fun x hx => by
  rcases setS_keys x hx with ⟨_, e, h⟩ | h
  · omega
  · exact p x h
theorem setS_qty {l : List Lot} (s : Sorted l) (n : ByteArray) (q : Int) (k : Bs) : qty (setS l n q) k = if k = n.toList then q else qty l k := by
  induction l with
  | nil =>
    unfold setS
    by_cases c : q = 0
    · rw [if_pos c]; simp only [qty]; split <;> omega
    · rw [if_neg c]; simp only [qty]
      by_cases e : k = n.toList
      · rw [if_pos e, if_pos (by rw [e])]
      · rw [if_neg e, if_neg (fun h => e h.symm)]
  | cons y r ih =>
    unfold setS
    by_cases c : L (key y) n.toList
    · rw [if_pos c]
      simp only [qty]
      rw [ih s.tail]
      by_cases e : key y = k
      · rw [if_pos e, if_neg (fun h => L_ne c (e.trans h)), if_pos e]
      · rw [if_neg e, if_neg e]
    · rw [if_neg c]
      by_cases e : key y = n.toList
      · rw [if_pos e]
        by_cases z : q = 0
        · rw [if_pos z]
          by_cases ek : k = n.toList
          · rw [if_pos ek, ek, ← e, qty_below s.head, z]
          · rw [if_neg ek]; simp only [qty]; rw [if_neg (fun h => ek (h.symm.trans e))]
        · rw [if_neg z]
          simp only [qty]
          by_cases ek : k = n.toList
          · rw [if_pos ek, if_pos (show key ⟨n, q⟩ = k by rw [ek])]
          · rw [if_neg ek, if_neg (show ¬ key ⟨n, q⟩ = k from fun h => ek h.symm), if_neg (fun h => ek (h.symm.trans e))]
      · rw [if_neg e]
        have lt : L n.toList (key y) := by
          rcases L_tri n.toList (key y) with h | h | h
          · exact h
          · exact absurd h.symm e
          · exact absurd h c
        have no : qty (y :: r) n.toList = 0 := qty_below fun x hx => by
          rcases List.mem_cons.1 hx with rfl | hx
          · exact lt
          · exact L_trans lt (s.head x hx)
        by_cases z : q = 0
        · rw [if_pos z]
          by_cases ek : k = n.toList
          · rw [if_pos ek, ek, no, z]
          · rw [if_neg ek]
        · rw [if_neg z]
          by_cases ek : k = n.toList
          · rw [if_pos ek]; simp only [qty]; rw [if_pos (show key ⟨n, q⟩ = k by rw [ek])]
          · rw [if_neg ek]
            show (if key ⟨n, q⟩ = k then q else qty (y :: r) k) = _
            rw [if_neg (show ¬ key ⟨n, q⟩ = k from fun h => ek h.symm)]
theorem setS_len {l : List Lot} {n : ByteArray} {q : Int} (h : qty l n.toList = 0) (p : Pos l) (q0 : q ≠ 0) : (setS l n q).length = l.length + 1 := by
  induction l with
  | nil => unfold setS; rw [if_neg q0]; rfl
  | cons y r ih =>
    unfold qty at h
    by_cases e : key y = n.toList
    · rw [if_pos e] at h; have := p y List.mem_cons_self; omega
    · rw [if_neg e] at h
      unfold setS
      by_cases c : L (key y) n.toList
      · rw [if_pos c]; simp only [List.length_cons]; rw [ih h p.tail]
      · rw [if_neg c, if_neg e, if_neg q0]; rfl
end Go.Proofs.Ytjjemfbpodgihaa.PLot
