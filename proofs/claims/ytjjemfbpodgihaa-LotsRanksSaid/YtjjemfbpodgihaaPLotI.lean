-- a shortened text: what this claim does not name is left out (wip/xprint/prune.py of this repo)
import Derived.Laws.Strings
import Derived.Test.YtjjemfbpodgihaaXStr
import Derived.Test.YtjjemfbpodgihaaX0
import Derived.Test.YtjjemfbpodgihaaX8
import Derived.Test.YtjjemfbpodgihaaX9
import Derived.Test.YtjjemfbpodgihaaX11
import Derived.Test.YtjjemfbpodgihaaXMin
import Derived.Test.YtjjemfbpodgihaaX4
import Derived.Test.YtjjemfbpodgihaaX6
import Derived.Test.YtjjemfbpodgihaaX7
section
namespace Go.Proofs.Ytjjemfbpodgihaa.PLot
open Go Go.Proofs.Ytjjemfbpodgihaa.X
abbrev Lot := S43
abbrev Bs := List UInt8
abbrev key (x : Lot) : Bs := x.f0.toList
def L (a b : Bs) : Prop := Op.bytesLess a b = true
instance (a b : Bs) : Decidable (L a b) := by unfold L; infer_instance
def M : Int := 1125899906842624
theorem key_inj {a b : ByteArray} (h : a.toList = b.toList) : a = b := by
  rw [ByteArray.toList_eq, ByteArray.toList_eq] at h
  cases a; cases b
  congr 1
  exact Array.toList_inj.1 h
theorem L_irrefl : ∀ a : Bs, ¬ L a a
  | [] => by unfold L; simp [Op.bytesLess]
  | a :: x => by
    have ih := L_irrefl x
    unfold L at ih ⊢
    have n : ¬ a < a := UInt8.lt_irrefl a
    simp only [Op.bytesLess, n, decide_false, Bool.false_or, beq_self_eq_true, Bool.true_and]
    exact ih
theorem L_tri (a b : Bs) : L a b ∨ a = b ∨ L b a := by
  have := XWords.bl_total a b
  unfold L
  cases h : Op.bytesLess b a
  · rw [h] at this
    simp only [Bool.not_false, Bool.or_eq_true, beq_iff_eq] at this
    rcases this with h1 | h1
    · exact .inl h1
    · exact .inr (.inl h1)
  · exact .inr (.inr rfl)
theorem L_trans : ∀ {a b c : Bs}, L a b → L b c → L a c
  | a, [], c, h, k => by unfold L at h; cases a <;> simp [Op.bytesLess] at h
  | [], b :: y, [], h, k => by unfold L at k; simp [Op.bytesLess] at k
  | [], b :: y, c :: z, h, k => by unfold L; simp [Op.bytesLess]
  | a :: x, b :: y, [], h, k => by unfold L at k; simp [Op.bytesLess] at k
  | a :: x, b :: y, c :: z, h, k => by
    unfold L at h k ⊢
    simp only [Op.bytesLess, Bool.or_eq_true, decide_eq_true_eq, Bool.and_eq_true, beq_iff_eq] at h k ⊢
    rcases h with h | ⟨rfl, h⟩
    · rcases k with k | ⟨rfl, k⟩
      · exact .inl (UInt8.lt_trans h k)
      · exact .inl h
    · rcases k with k | ⟨rfl, k⟩
      · exact .inl k
      · exact .inr ⟨rfl, L_trans (a := x) (b := y) (c := z) h k⟩
theorem L_ne {a b : Bs} (h : L a b) : a ≠ b := fun e => L_irrefl b (by rw [e] at h; exact h)
def Sorted (l : List Lot) : Prop := l.Pairwise fun x y => L (key x) (key y)
def Pos (l : List Lot) : Prop := ∀ x ∈ l, 1 ≤ x.f1 ∧ x.f1 ≤ M
def qty : List Lot → Bs → Int
  | [], _ => 0
  | x :: r, k => if key x = k then x.f1 else qty r k
theorem qty_zero {l : List Lot} {k : Bs} (h : ∀ x ∈ l, key x ≠ k) : qty l k = 0 := by
  induction l with
  | nil => rfl
  | cons x r ih =>
    unfold qty
    rw [if_neg (h x List.mem_cons_self)]
    exact ih fun y hy => h y (List.mem_cons_of_mem _ hy)
theorem qty_mem {l : List Lot} (s : Sorted l) {x : Lot} (h : x ∈ l) : qty l (key x) = x.f1 := by
  induction l with
  | nil => cases h
  | cons y r ih =>
    unfold qty
    rcases List.mem_cons.1 h with rfl | h
    · rw [if_pos rfl]
    · rw [if_neg (L_ne ((List.pairwise_cons.1 s).1 x h))]
      exact ih (List.pairwise_cons.1 s).2 h
theorem qty_nonneg {l : List Lot} (p : Pos l) (k : Bs) : 0 ≤ qty l k ∧ qty l k ≤ M := by
  induction l with
  | nil => unfold qty M; omega
  | cons y r ih =>
    unfold qty
    split
    · have := p y List.mem_cons_self; omega
    · exact ih fun x hx => p x (List.mem_cons_of_mem _ hx)
theorem qty_find {l : List Lot} {k : Bs} (h : qty l k ≠ 0) : ∃ x ∈ l, key x = k := by
  by_cases c : ∃ x ∈ l, key x = k
  · exact c
  · exact absurd (qty_zero fun x hx e => c ⟨x, hx, e⟩) h
theorem Pos.tail {x : Lot} {l : List Lot} (p : Pos (x :: l)) : Pos l := fun y hy => p y (List.mem_cons_of_mem _ hy)
theorem Sorted.tail {x : Lot} {l : List Lot} (s : Sorted (x :: l)) : Sorted l := (List.pairwise_cons.1 s).2
theorem Sorted.head {x : Lot} {l : List Lot} (s : Sorted (x :: l)) : ∀ y ∈ l, L (key x) (key y) := (List.pairwise_cons.1 s).1
theorem qty_below {l : List Lot} {k : Bs} (h : ∀ y ∈ l, L k (key y)) : qty l k = 0 := qty_zero fun x hx e => L_irrefl k (by have := h x hx; rwa [e] at this)
theorem len_le : ∀ {b a : List Lot}, Sorted a → Sorted b → (∀ x ∈ a, ∃ y ∈ b, key y = key x) → a.length ≤ b.length
  | [], [], _, _, _ => Nat.le_refl _
  | [], x :: r, _, _, h => by obtain ⟨y, hy, _⟩ := h x List.mem_cons_self; cases hy
  | y :: s, [], _, _, _ => Nat.zero_le _
  | y :: s, x :: r, sa, sb, h => by
    obtain ⟨z, hz, e⟩ := h x List.mem_cons_self
    rcases List.mem_cons.1 hz with rfl | hz'
    all_goals clear hz
    · refine Nat.succ_le_succ (len_le sa.tail sb.tail fun u hu => ?_)
      obtain ⟨v, hv, e2⟩ := h u (List.mem_cons_of_mem _ hu)
      rcases List.mem_cons.1 hv with rfl | hv
      · exact absurd (by rw [← e2, e] : key u = key x) (fun e3 => L_irrefl (key x) (by have := sa.head u hu; rwa [e3] at this))
      · exact ⟨v, hv, e2⟩
    · refine Nat.le_succ_of_le (len_le sa sb.tail fun u hu => ?_)
      obtain ⟨v, hv, e2⟩ := h u hu
      rcases List.mem_cons.1 hv with rfl | hv
      · have l1 : L (key v) (key x) := by rw [← e]; exact sb.head z hz'
        rcases List.mem_cons.1 hu with rfl | hu
        · rw [e2] at l1; exact absurd l1 (L_irrefl _)
        · have := L_trans l1 (sa.head u hu); rw [e2] at this; exact absurd this (L_irrefl _)
      · exact ⟨v, hv, e2⟩
def setS : List Lot → ByteArray → Int → List Lot
  | [], n, q => if q = 0 then [] else [⟨n, q⟩]
  | x :: r, n, q => if L (key x) n.toList then x :: setS r n q else if key x = n.toList then (if q = 0 then r else ⟨n, q⟩ :: r) else (if q = 0 then x :: r else ⟨n, q⟩ :: x :: r)
theorem setS_keys {l : List Lot} {n : ByteArray} {q : Int} : ∀ x ∈ setS l n q, key x = n.toList ∧ x.f1 = q ∧ q ≠ 0 ∨ x ∈ l := by
  induction l with
  | nil => intro x hx; unfold setS at hx; split at hx <;> simp at hx; subst hx; exact .inl ⟨rfl, rfl, by assumption⟩
  | cons y r ih =>
    intro x hx
    unfold setS at hx
    split at hx
    · rcases List.mem_cons.1 hx with rfl | hx
      · exact .inr List.mem_cons_self
      · rcases ih x hx with h | h
        · exact .inl h
        · exact .inr (List.mem_cons_of_mem _ h)
    · split at hx
      · split at hx
        · exact .inr (List.mem_cons_of_mem _ hx)
        · rcases List.mem_cons.1 hx with rfl | hx
          · exact .inl ⟨rfl, rfl, by assumption⟩
          · exact .inr (List.mem_cons_of_mem _ hx)
      · split at hx
        · exact .inr hx
        · rcases List.mem_cons.1 hx with rfl | hx
          · exact .inl ⟨rfl, rfl, by assumption⟩
          · exact .inr hx
theorem setS_sorted {l : List Lot} (s : Sorted l) (n : ByteArray) (q : Int) : Sorted (setS l n q) := by
  induction l with
  | nil => unfold setS; split <;> simp [Sorted]
  | cons y r ih =>
    unfold setS
    split
    · rename_i c
      refine List.pairwise_cons.2 ⟨fun x hx => ?_, ih s.tail⟩
      rcases setS_keys x hx with ⟨h, _⟩ | h
      · rw [h]; exact c
      · exact s.head x h
    · rename_i c
      split
      · rename_i e
        split
        · exact s.tail
        · exact List.pairwise_cons.2 ⟨fun x hx => by have := s.head x hx; rw [e] at this; exact this, s.tail⟩
      · rename_i e
        split
        · exact s
        · have lt : L n.toList (key y) := by
            rcases L_tri n.toList (key y) with h | h | h
            · exact h
            · exact absurd h.symm e
            · exact absurd h c
          refine List.pairwise_cons.2 ⟨fun x hx => ?_, s⟩
          rcases List.mem_cons.1 hx with rfl | hx
          · exact lt
          · exact L_trans lt (s.head x hx)
theorem setS_pos {l : List Lot} (p : Pos l) {n : ByteArray} {q : Int} (q0 : 0 ≤ q) (q1 : q ≤ M) : Pos (setS l n q) := fun x hx => by
  rcases setS_keys x hx with ⟨_, e, h⟩ | h
  · omega
  · exact p x h
theorem setS_qty {l : List Lot} (s : Sorted l) (n : ByteArray) (q : Int) (k : Bs) : qty (setS l n q) k = if k = n.toList then q else qty l k := by
  induction l with
  | nil =>
    unfold setS
    by_cases c : q = 0
    · rw [if_pos c]; simp only [qty]; split <;> omega
    · rw [if_neg c]; simp only [qty]
      by_cases e : k = n.toList
      · rw [if_pos e, if_pos (by rw [e])]
      · rw [if_neg e, if_neg (fun h => e h.symm)]
  | cons y r ih =>
    unfold setS
    by_cases c : L (key y) n.toList
    · rw [if_pos c]
      simp only [qty]
      rw [ih s.tail]
      by_cases e : key y = k
      · rw [if_pos e, if_neg (fun h => L_ne c (e.trans h)), if_pos e]
      · rw [if_neg e, if_neg e]
    · rw [if_neg c]
      by_cases e : key y = n.toList
      · rw [if_pos e]
        by_cases z : q = 0
        · rw [if_pos z]
          by_cases ek : k = n.toList
          · rw [if_pos ek, ek, ← e, qty_below s.head, z]
          · rw [if_neg ek]; simp only [qty]; rw [if_neg (fun h => ek (h.symm.trans e))]
        · rw [if_neg z]
          simp only [qty]
          by_cases ek : k = n.toList
          · rw [if_pos ek, if_pos (show key ⟨n, q⟩ = k by rw [ek])]
          · rw [if_neg ek, if_neg (show ¬ key ⟨n, q⟩ = k from fun h => ek h.symm), if_neg (fun h => ek (h.symm.trans e))]
      · rw [if_neg e]
        have lt : L n.toList (key y) := by
          rcases L_tri n.toList (key y) with h | h | h
          · exact h
          · exact absurd h.symm e
          · exact absurd h c
        have no : qty (y :: r) n.toList = 0 := qty_below fun x hx => by
          rcases List.mem_cons.1 hx with rfl | hx
          · exact lt
          · exact L_trans lt (s.head x hx)
        by_cases z : q = 0
        · rw [if_pos z]
          by_cases ek : k = n.toList
          · rw [if_pos ek, ek, no, z]
          · rw [if_neg ek]
        · rw [if_neg z]
          by_cases ek : k = n.toList
          · rw [if_pos ek]; simp only [qty]; rw [if_pos (show key ⟨n, q⟩ = k by rw [ek])]
          · rw [if_neg ek]
            show (if key ⟨n, q⟩ = k then q else qty (y :: r) k) = _
            rw [if_neg (show ¬ key ⟨n, q⟩ = k from fun h => ek h.symm)]
theorem setS_len {l : List Lot} {n : ByteArray} {q : Int} (h : qty l n.toList = 0) (p : Pos l) (q0 : q ≠ 0) : (setS l n q).length = l.length + 1 := by
  induction l with
  | nil => unfold setS; rw [if_neg q0]; rfl
  | cons y r ih =>
    unfold qty at h
    by_cases e : key y = n.toList
    · rw [if_pos e] at h; have := p y List.mem_cons_self; omega
    · rw [if_neg e] at h
      unfold setS
      by_cases c : L (key y) n.toList
      · rw [if_pos c]; simp only [List.length_cons]; rw [ih h p.tail]
      · rw [if_neg c, if_neg e, if_neg q0]; rfl
end Go.Proofs.Ytjjemfbpodgihaa.PLot
end
section
namespace Go.Proofs.Ytjjemfbpodgihaa.PLot
open Go Go.Proofs.Ytjjemfbpodgihaa.X
theorem qty_cons (x : Lot) (r : List Lot) (k : Bs) : qty (x :: r) k = if key x = k then x.f1 else qty r k := rfl
def minusS : List Lot → List Lot → List Lot × Int
  | out, [] => (out, 0)
  | out, x :: r => if qty out (key x) < x.f1 then ([], 20) else minusS (setS out x.f0 (qty out (key x) - x.f1)) r
def plusS : List Lot → List Lot → List Lot × Int
  | out, [] => (out, 0)
  | out, x :: r => if qty out (key x) = 0 ∧ 64 ≤ out.length then ([], 2) else if x.f1 > M - qty out (key x) then ([], 9) else plusS (setS out x.f0 (qty out (key x) + x.f1)) r
end Go.Proofs.Ytjjemfbpodgihaa.PLot
end
section
namespace Go.Proofs.Ytjjemfbpodgihaa.PLot
open Go Go.RowKit Go.Proofs.Ytjjemfbpodgihaa.X Go.Proofs.YtjjemfbpodgihaaW.PrintWords Go.Proofs.YtjjemfbpodgihaaW.PrintLast Go.Proofs.YtjjemfbpodgihaaW.PrintMore
theorem w_id {x : Int} (h0 : -9223372036854775808 ≤ x) (h1 : x ≤ 9223372036854775807) : wrap64 x = x := by unfold wrap64; omega
theorem up {i n : Nat} (h : i < n) (hn : n ≤ 1000) : wrap64 ((i : Int) + 1) = ((i + 1 : Nat) : Int) := by rw [w_id (by omega) (by omega)]; omega
theorem rd_at {l : List Lot} {i : Nat} (h : i < l.length) : rd_T43 l (i : Int) = l[i] := by
  unfold rd_T43; rw [Int.toNat_natCast, List.getD_eq_getElem?_getD, List.getElem?_eq_getElem h]; rfl
theorem rqty_go (l : List Lot) (hl : l.length ≤ 1000) (s : ByteArray) : ∀ (n i : Nat), i + n = l.length → Ev (fun k => lombardref17_Qty.l0 k l s (i : Int)) (qty (l.drop i) s.toList)
  | 0, i, hi => by
    rw [List.drop_of_length_le (by omega)]
    refine Ev.step (f := fun _ => some 0) (fun k => ?_) (Ev.now _)
    simp only [lombardref17_Qty.l0]
    rw [if_neg (by omega)]
  | n + 1, i, hi => by
    have h : i < l.length := by omega
    rw [List.drop_eq_getElem_cons h, qty_cons]
    by_cases c : key l[i] = s.toList
    · rw [if_pos c]
      refine Ev.step (f := fun _ => some l[i].f1) (fun k => ?_) (Ev.now _)
      simp only [lombardref17_Qty.l0, rd_at h]
      rw [if_pos (by omega), if_pos (by omega), if_pos c]
    · rw [if_neg c]
      refine Ev.step (fun k => ?_) (rqty_go l hl s n (i + 1) (by omega))
      simp only [lombardref17_Qty.l0, rd_at h, up h hl]
      rw [if_pos (by omega), if_pos (by omega), if_neg c]
theorem rqty_ev {l : List Lot} (hl : l.length ≤ 1000) (s : ByteArray) : Ev (fun k => lombardref17_Qty.f k l s) (qty l s.toList) := rqty_go l hl s l.length 0 (by omega)
theorem set_done (l : List Lot) (hl : l.length ≤ 1000) (s : ByteArray) (q : Int) : ∀ (n i : Nat) (out : List Lot), i + n = l.length → out.length ≤ i + 1 →
    Ev (fun k => lombardref17_Set.l0 k l s q out true (i : Int)) (out ++ (l.drop i).filter fun x => decide (key x ≠ s.toList))
  | 0, i, out, hi, ho => by
    rw [List.drop_of_length_le (by omega), List.filter_nil, List.append_nil]
    refine Ev.step (f := fun _ => some out) (fun k => ?_) (Ev.now _)
    simp only [lombardref17_Set.l0]
    rw [if_neg (by omega), if_pos trivial]
  | n + 1, i, out, hi, ho => by
    have h : i < l.length := by omega
    rw [List.drop_eq_getElem_cons h, List.filter_cons]
    refine Ev.step (f := fun k => lombardref17_Set.j1 k l s q out true (i : Int) false) (fun k => ?_) ?_
    · simp only [lombardref17_Set.l0]
      rw [if_pos (by omega), if_pos trivial]
    by_cases c : key l[i] = s.toList
    · rw [if_neg (by simpa using c)]
      refine Ev.step (fun k => ?_) (set_done l hl s q n (i + 1) out (by omega) (by omega))
      simp only [lombardref17_Set.j1, rd_at h, up h hl]
      rw [if_neg (by simp), if_pos (by omega), if_pos (by omega), if_pos c]
    · rw [if_pos (by simpa using c)]
      have ih := set_done l hl s q n (i + 1) (out ++ [l[i]]) (by omega) (by simp; omega)
      rw [List.append_assoc] at ih
      refine Ev.step (fun k => ?_) ih
      simp only [lombardref17_Set.j1, rd_at h, up h hl]
      rw [if_neg (by simp), if_pos (by omega), if_pos (by omega), if_neg c, if_pos (by omega)]
theorem filter_all {l : List Lot} {s : Bs} (h : ∀ x ∈ l, key x ≠ s) : (l.filter fun x => decide (key x ≠ s)) = l := List.filter_eq_self.2 fun x hx => by simpa using h x hx
theorem filter_zero {l : List Lot} (s : Sorted l) (n : ByteArray) : (l.filter fun x => decide (key x ≠ n.toList)) = setS l n 0 := by
  induction l with
  | nil => rfl
  | cons x r ih =>
    rw [List.filter_cons]
    unfold setS
    by_cases c : L (key x) n.toList
    · rw [if_pos c, if_pos (by simpa using L_ne c), ih s.tail]
    · rw [if_neg c]
      by_cases e : key x = n.toList
      · rw [if_pos e, if_neg (by simpa using e), if_pos rfl]
        exact filter_all fun y hy => by have := s.head y hy; rw [e] at this; exact (L_ne this).symm
      · have lt : L n.toList (key x) := by
          rcases L_tri n.toList (key x) with h | h | h
          · exact h
          · exact absurd h.symm e
          · exact absurd h c
        rw [if_neg e, if_pos (by simpa using e), if_pos rfl]
        congr 1
        exact filter_all fun y hy => (L_ne (L_trans lt (s.head y hy))).symm
theorem set_go (l : List Lot) (hl : l.length ≤ 1000) (sl : Sorted l) (s : ByteArray) (q : Int) (q0 : q ≠ 0) : ∀ (n i : Nat) (out : List Lot), i + n = l.length → out.length ≤ i →
    Ev (fun k => lombardref17_Set.l0 k l s q out false (i : Int)) (out ++ setS (l.drop i) s q)
  | 0, i, out, hi, ho => by
    rw [List.drop_of_length_le (by omega)]
    refine Ev.step (f := fun _ => some (out ++ [(⟨s, q⟩ : Lot)])) (fun k => ?_) (by unfold setS; rw [if_neg q0]; exact Ev.now _)
    simp only [lombardref17_Set.l0]
    rw [if_neg (by omega), if_neg (by simp), if_pos (by omega)]
  | n + 1, i, out, hi, ho => by
    have h : i < l.length := by omega
    have sd : Sorted (l.drop i) := List.Pairwise.sublist (List.drop_sublist i l) sl
    rw [List.drop_eq_getElem_cons h] at sd ⊢
    refine Ev.step (f := fun k => lombardref17_Set.j1 k l s q out false (i : Int) (!(Op.bytesLess (key l[i]) s.toList))) (fun k => ?_) ?_
    · simp only [lombardref17_Set.l0, rd_at h]
      rw [if_pos (by omega), if_neg (by simp), if_pos (by omega)]
    unfold setS
    by_cases c : L (key l[i]) s.toList
    · rw [if_pos c]
      have ih := set_go l hl sl s q q0 n (i + 1) (out ++ [l[i]]) (by omega) (by simp; omega)
      rw [List.append_assoc] at ih
      refine Ev.step (fun k => ?_) ih
      unfold L at c
      simp only [lombardref17_Set.j1, rd_at h, up h hl, c]
      rw [if_neg (by simp), if_pos (by omega), if_pos (by omega), if_neg (L_ne c), if_pos (by omega)]
    · rw [if_neg c]
      have c' : Op.bytesLess (key l[i]) s.toList = false := by unfold L at c; simpa using c
      by_cases e : key l[i] = s.toList
      · rw [if_pos e, if_neg q0]
        have ih := set_done l hl s q n (i + 1) (out ++ [(⟨s, q⟩ : Lot)]) (by omega) (by simp; omega)
        rw [filter_all (fun y hy => by have := sd.head y hy; rw [e] at this; exact (L_ne this).symm), List.append_assoc] at ih
        refine Ev.step (fun k => ?_) ih
        simp only [lombardref17_Set.j1, rd_at h, up h hl, c']
        rw [if_pos (by simp), if_pos (by omega)]
        simp only [Option.bind_some]
        rw [if_pos (by omega), if_pos (by omega), if_pos e]
      · rw [if_neg e, if_neg q0]
        have lt : L s.toList (key l[i]) := by
          rcases L_tri s.toList (key l[i]) with h | h | h
          · exact h
          · exact absurd h.symm e
          · exact absurd h c
        have ih := set_done l hl s q n (i + 1) (out ++ [(⟨s, q⟩ : Lot)] ++ [l[i]]) (by omega) (by simp; omega)
        rw [filter_all (fun y hy => (L_ne (L_trans lt (sd.head y hy))).symm), List.append_assoc, List.append_assoc] at ih
        refine Ev.step (fun k => ?_) ih
        simp only [lombardref17_Set.j1, rd_at h, up h hl, c']
        rw [if_pos (by simp), if_pos (by omega)]
        simp only [Option.bind_some]
        rw [if_pos (by omega), if_pos (by omega), if_neg e, if_pos (by simp; omega), ← List.append_assoc]
theorem set_ev {l : List Lot} (hl : l.length ≤ 1000) (sl : Sorted l) (s : ByteArray) (q : Int) : Ev (fun k => lombardref17_Set.f k l s q) (setS l s q) := by
  unfold lombardref17_Set.f
  by_cases z : q = 0
  · subst z
    have := set_done l hl s 0 l.length 0 [] (by omega) (by simp)
    rw [List.drop_zero, List.nil_append, filter_zero sl] at this
    exact this
  · have := set_go l hl sl s q z l.length 0 [] (by omega) (by simp)
    rw [List.drop_zero, List.nil_append] at this
    rw [show (q == 0) = false by simpa using z]
    exact this
end Go.Proofs.Ytjjemfbpodgihaa.PLot
end
section
namespace Go.Proofs.Ytjjemfbpodgihaa.PLot
open Go Go.RowKit Go.Proofs.Ytjjemfbpodgihaa.X Go.Proofs.YtjjemfbpodgihaaW.PrintWords Go.Proofs.YtjjemfbpodgihaaW.PrintLast Go.Proofs.YtjjemfbpodgihaaW.PrintMore
theorem setS_len_le {l : List Lot} {n : ByteArray} {q : Int} : (setS l n q).length ≤ l.length + 1 := by
  induction l with
  | nil => unfold setS; split <;> simp
  | cons y r ih =>
    unfold setS
    split
    · simp only [List.length_cons]; omega
    · split
      · split <;> simp only [List.length_cons] <;> omega
      · split <;> simp only [List.length_cons] <;> omega
theorem rplus_go (b : List Lot) (hb : b.length ≤ 64) (pb : Pos b) : ∀ (n i : Nat) (out : List Lot), i + n = b.length → out.length ≤ 100 + i → Sorted out → Pos out →
    Ev (fun k => lombardref17_Plus.l0 k b out (i : Int)) (plusS out (b.drop i))
  | 0, i, out, hi, ho, so, po => by
    rw [List.drop_of_length_le (by omega)]
    refine Ev.step (f := fun _ => some (out, 0)) (fun k => ?_) (Ev.now _)
    simp only [lombardref17_Plus.l0]
    rw [if_neg (by omega)]
  | n + 1, i, out, hi, ho, so, po => by
    have h : i < b.length := by omega
    have q0 := qty_nonneg po (b[i].f0.toList)
    have x0 := pb b[i] (List.getElem_mem h)
    unfold M at q0 x0
    rw [List.drop_eq_getElem_cons h]
    unfold plusS
    simp only [key]
    have qe := rqty_ev (l := out) (by omega) b[i].f0
    have body : ∀ v : Bool, v = decide (qty out (b[i].f0.toList) = 0 ∧ 64 ≤ out.length) → Ev (fun k => lombardref17_Plus.j1 k b out (i : Int) (qty out (b[i].f0.toList)) v) (if qty out (b[i].f0.toList) = 0 ∧ 64 ≤ out.length then ([], 2) else if b[i].f1 > M - qty out (b[i].f0.toList) then ([], 9) else plusS (setS out b[i].f0 (qty out (b[i].f0.toList) + b[i].f1)) (b.drop (i + 1))) := by
      intro v hv
      refine Ev.step (f := fun k => lombardref17_Plus.j1 (k + 1) b out (i : Int) (qty out (b[i].f0.toList)) v) (fun k => rfl) ?_
      simp only [lombardref17_Plus.j1, rd_at h, up h (by omega), if_pos (show (i : Int) < (b.length : Int) by omega), if_pos (show (0 : Int) ≤ (i : Int) by omega)]
      by_cases c : qty out (b[i].f0.toList) = 0 ∧ 64 ≤ out.length
      · rw [if_pos c, hv, decide_eq_true c]; simp only [if_true]; exact Ev.now _
      rw [if_neg c, hv, decide_eq_false c]
      simp only [Bool.false_eq_true, if_false]
      rw [w_id (x := 1125899906842624 - qty out (b[i].f0.toList)) (by omega) (by omega)]
      by_cases d : b[i].f1 > 1125899906842624 - qty out (b[i].f0.toList)
      · simp only [if_pos d]; rw [if_pos (show b[i].f1 > M - qty out (b[i].f0.toList) by unfold M; omega)]; exact Ev.now _
      simp only [if_neg d]
      rw [if_neg (show ¬ b[i].f1 > M - qty out (b[i].f0.toList) by unfold M; omega), w_id (by omega) (by omega)]
      refine Ev.bind (set_ev (by omega) so b[i].f0 _) ?_
      have := setS_len_le (l := out) (n := b[i].f0) (q := qty out (b[i].f0.toList) + b[i].f1)
      exact rplus_go b hb pb n (i + 1) _ (by omega) (by omega) (setS_sorted so _ _) (setS_pos po (by omega) (by unfold M; omega))
    refine Ev.step (f := fun k => lombardref17_Plus.l0 (k + 1) b out (i : Int)) (fun k => rfl) ?_
    simp only [lombardref17_Plus.l0, rd_at h, if_pos (show (i : Int) < (b.length : Int) by omega), if_pos (show (0 : Int) ≤ (i : Int) by omega)]
    refine Ev.bind qe ?_
    by_cases z : qty out (b[i].f0.toList) = 0
    · simp only [if_pos z]
      exact body _ (by simp [z]; omega)
    · simp only [if_neg z]
      exact body _ (by simp [z])
theorem rplus_ev {a b : List Lot} (ha : a.length ≤ 100) (hb : b.length ≤ 64) (sa : Sorted a) (pa : Pos a) (pb : Pos b) : Ev (fun k => lombardref17_Plus.f k a b) (plusS a b) :=
  rplus_go b hb pb b.length 0 a (by omega) (by omega) sa pa
theorem same_go (a : List Lot) (ha : a.length ≤ 1000) : ∀ (n i : Nat), i + n = a.length → Ev (fun k => lombardref10_Lots.l0 k a a (i : Int)) true
  | 0, i, hi => by
    refine Ev.step (f := fun _ => some true) (fun k => ?_) (Ev.now _)
    simp only [lombardref10_Lots.l0]
    rw [if_neg (by omega)]
  | n + 1, i, hi => by
    have h : i < a.length := by omega
    refine Ev.step (fun k => ?_) (same_go a ha n (i + 1) (by omega))
    simp only [lombardref10_Lots.l0, rd_at h, up h ha]
    rw [if_pos (by omega), if_pos (by omega), if_pos (by omega), if_neg (by simp)]
theorem same_ev {a : List Lot} (ha : a.length ≤ 1000) : Ev (fun k => lombardref10_Lots.f k a a) true := by
  unfold lombardref10_Lots.f
  simp only [if_true]
  exact same_go a ha a.length 0 (by omega)
end Go.Proofs.Ytjjemfbpodgihaa.PLot
end
section
namespace Go.Proofs.Ytjjemfbpodgihaa.PLot
open Go Go.RowKit Go.Proofs.Ytjjemfbpodgihaa.X Go.Proofs.YtjjemfbpodgihaaW.PrintWords Go.Proofs.YtjjemfbpodgihaaW.PrintLast Go.Proofs.YtjjemfbpodgihaaW.PrintMore
def cmpS (a b : Bs) : Int := if L a b then -1 else if L b a then 1 else 0
theorem cmp_eq (a b : ByteArray) : cmp_Compare_string.f a b = some (cmpS a.toList b.toList) := by
  unfold cmp_Compare_string.f cmp_isNaN_string.f cmpS
  simp only [Option.bind_some, bne_self_eq_false, Bool.false_eq_true, if_false]
  by_cases h1 : Op.bytesLess a.toList b.toList = true
  · rw [if_pos h1, if_pos (show L a.toList b.toList from h1)]
  · rw [if_neg h1, if_neg (show ¬ L a.toList b.toList from h1)]
    by_cases h2 : Op.bytesLess b.toList a.toList = true
    · rw [if_pos h2, if_pos (show L b.toList a.toList from h2)]
    · rw [if_neg h2, if_neg (show ¬ L b.toList a.toList from h2)]
theorem place1_eq (a : ByteArray) (q : Int) (b : ByteArray) : lots_place_1.f a q b = some (cmpS a.toList b.toList) := by
  unfold lots_place_1.f; rw [cmp_eq]; rfl
def PlaceAt (l : List Lot) (s : Bs) (i : Nat) : Prop := i ≤ l.length ∧ (∀ j (h : j < l.length), j < i → L (key l[j]) s) ∧ (∀ j (h : j < l.length), i ≤ j → ¬ L (key l[j]) s)
def Found (l : List Lot) (s : Bs) (i : Nat) : Prop := ∃ h : i < l.length, key l[i] = s
theorem search_go (l : List Lot) (hl : l.length ≤ 1000) (sl : Sorted l) (s : ByteArray) : ∀ (n lo hi : Nat), hi - lo ≤ n → lo ≤ hi → hi ≤ l.length → (∀ j (h : j < l.length), j < lo → L (key l[j]) s.toList) → (∀ j (h : j < l.length), hi ≤ j → ¬ L (key l[j]) s.toList) →
    ∃ i b, PlaceAt l s.toList i ∧ (b = true ↔ Found l s.toList i) ∧ Ev (fun k => slices_BinarySearchFunc_api_Lot_api_Lot_string.l0 k l s (l.length : Int) (lo : Int) (hi : Int)) ((i : Int), b) := by
  intro n
  induction n with
  | zero =>
    intro lo hi hn h1 h2 hA hB
    obtain rfl : lo = hi := by omega
    refine ⟨lo, decide (∃ h : lo < l.length, key l[lo] = s.toList), ⟨h2, hA, hB⟩, by simp [Found], ?_⟩
    refine Ev.step (f := fun k => slices_BinarySearchFunc_api_Lot_api_Lot_string.l0 (k + 1) l s (l.length : Int) (lo : Int) (lo : Int)) (fun k => rfl) ?_
    simp only [slices_BinarySearchFunc_api_Lot_api_Lot_string.l0, if_neg (show ¬ (lo : Int) < (lo : Int) by omega)]
    by_cases c : lo < l.length
    · simp only [if_pos (show (lo : Int) < (l.length : Int) by omega), if_pos (show (0 : Int) ≤ (lo : Int) by omega), rd_at c, place1_eq, Option.bind_some]
      have e : (cmpS l[lo].f0.toList s.toList == 0) = decide (∃ h : lo < l.length, key l[lo] = s.toList) := by
        unfold cmpS
        by_cases d : L l[lo].f0.toList s.toList
        · rw [if_pos d, decide_eq_false (fun ⟨_, e⟩ => L_ne d e)]; rfl
        · rw [if_neg d]
          by_cases d2 : L s.toList l[lo].f0.toList
          · rw [if_pos d2, decide_eq_false (fun ⟨_, e⟩ => L_ne d2 e.symm)]; rfl
          · rw [if_neg d2]
            rcases L_tri l[lo].f0.toList s.toList with z | z | z
            · exact absurd z d
            · rw [decide_eq_true ⟨c, z⟩]; rfl
            · exact absurd z d2
      rw [e]; exact Ev.now _
    · simp only [if_neg (show ¬ (lo : Int) < (l.length : Int) by omega)]
      rw [decide_eq_false (fun ⟨h, _⟩ => c h)]; exact Ev.now _
  | succ n ih =>
    intro lo hi hn h1 h2 hA hB
    by_cases c : lo < hi
    · have em : wrap64 (IntKind.u64.wrap (wrap64 ((lo : Int) + (hi : Int))) / 2) = (((lo + hi) / 2 : Nat) : Int) := by
        rw [w_id (x := (lo : Int) + hi) (by omega) (by omega), IntWalk.u64_in _ ⟨by omega, by omega⟩, w_id (by omega) (by omega)]; omega
      have hm : (lo + hi) / 2 < l.length := by omega
      have e1 : wrap64 ((((lo + hi) / 2 : Nat) : Int) + 1) = (((lo + hi) / 2 + 1 : Nat) : Int) := by rw [w_id (by omega) (by omega)]; omega
      by_cases d : L l[(lo + hi) / 2].f0.toList s.toList
      · obtain ⟨i, b, p, q, r⟩ := ih ((lo + hi) / 2 + 1) hi (by omega) (by omega) h2 (fun j h hj => by
          rcases Nat.lt_or_ge j ((lo + hi) / 2) with z | z
          · exact L_trans (List.pairwise_iff_getElem.1 sl j _ h hm z) d
          · obtain rfl : j = (lo + hi) / 2 := by omega
            exact d) hB
        refine ⟨i, b, p, q, Ev.step (fun k => ?_) r⟩
        simp only [slices_BinarySearchFunc_api_Lot_api_Lot_string.l0, em, rd_at hm, place1_eq, Option.bind_some, e1]
        rw [if_pos (by omega), if_pos (by omega), if_pos (by omega), if_pos (by unfold cmpS; rw [if_pos d]; decide)]
      · obtain ⟨i, b, p, q, r⟩ := ih lo ((lo + hi) / 2) (by omega) (by omega) (by omega) hA (fun j h hj => by
          rcases Nat.lt_or_ge ((lo + hi) / 2) j with z | z
          · exact fun w => d (L_trans (List.pairwise_iff_getElem.1 sl _ j hm h z) w)
          · obtain rfl : j = (lo + hi) / 2 := by omega
            exact d)
        refine ⟨i, b, p, q, Ev.step (fun k => ?_) r⟩
        simp only [slices_BinarySearchFunc_api_Lot_api_Lot_string.l0, em, rd_at hm, place1_eq, Option.bind_some]
        rw [if_pos (by omega), if_pos (by omega), if_pos (by omega), if_neg (by unfold cmpS; rw [if_neg d]; split <;> decide)]
    · exact ih lo hi (by omega) h1 h2 hA hB
theorem place_ev {l : List Lot} (hl : l.length ≤ 1000) (sl : Sorted l) (s : ByteArray) : ∃ i b, PlaceAt l s.toList i ∧ (b = true ↔ Found l s.toList i) ∧ Ev (fun k => lots_place.f k l s) ((i : Int), b) := by
  obtain ⟨i, b, p, q, r⟩ := search_go l hl sl s l.length 0 l.length (by omega) (by omega) (by omega) (fun j h hj => by omega) (fun j h hj => by omega)
  exact ⟨i, b, p, q, Ev.bind r (Ev.now _)⟩
theorem found_qty {l : List Lot} (sl : Sorted l) {s : Bs} {i : Nat} (f : Found l s i) : ∃ h : i < l.length, qty l s = l[i].f1 ∧ key l[i] = s := by
  obtain ⟨h, e⟩ := f
  exact ⟨h, by rw [← e]; exact qty_mem sl (List.getElem_mem h), e⟩
theorem lost_qty {l : List Lot} (sl : Sorted l) {s : Bs} {i : Nat} (p : PlaceAt l s i) (f : ¬ Found l s i) : qty l s = 0 := qty_zero fun x hx e => by
  obtain ⟨j, hj, rfl⟩ := List.mem_iff_getElem.1 hx
  rcases Nat.lt_or_ge j i with z | z
  · exact L_ne (p.2.1 j hj z) e
  · rcases Nat.lt_or_ge i j with y | y
    · have := List.pairwise_iff_getElem.1 sl i j (by omega) hj y
      rw [e] at this
      exact p.2.2 i (by omega) (Nat.le_refl _) this
    · obtain rfl : i = j := by omega
      exact f ⟨hj, e⟩
end Go.Proofs.Ytjjemfbpodgihaa.PLot
end
section
namespace Go.Proofs.Ytjjemfbpodgihaa.PLot
open Go Go.RowKit Go.Proofs.Ytjjemfbpodgihaa.X Go.Proofs.YtjjemfbpodgihaaW.PrintWords Go.Proofs.YtjjemfbpodgihaaW.PrintLast Go.Proofs.YtjjemfbpodgihaaW.PrintMore
theorem put_eq : ∀ {l : List Lot} {s : ByteArray} {i : Nat} {v : Int}, PlaceAt l s.toList i → (h : i < l.length) → key l[i] = s.toList → v ≠ 0 → l.set i ⟨l[i].f0, v⟩ = setS l s v
  | [], _, _, _, _, h, _, _ => by simp at h
  | x :: r, s, 0, v, p, h, e, v0 => by
    have e' : key x = s.toList := e
    unfold setS
    rw [if_neg (by rw [e']; exact L_irrefl _), if_pos e', if_neg v0]
    show (⟨x.f0, v⟩ : Lot) :: r = _
    rw [key_inj e']
  | x :: r, s, i + 1, v, p, h, e, v0 => by
    have c : L (key x) s.toList := p.2.1 0 (by simp) (by omega)
    unfold setS
    rw [if_pos c]
    have hr : i < r.length := by simp at h; omega
    show x :: r.set i ⟨r[i].f0, v⟩ = _
    rw [put_eq (l := r) (i := i) ⟨by simp at h; omega, fun j hj hi => p.2.1 (j + 1) (by simp; omega) (by omega), fun j hj hi => p.2.2 (j + 1) (by simp; omega) (by omega)⟩ (by simp at h; omega) e v0]
theorem del_eq : ∀ {l : List Lot} {s : ByteArray} {i : Nat}, PlaceAt l s.toList i → (h : i < l.length) → key l[i] = s.toList → l.take i ++ l.drop (i + 1) = setS l s 0
  | [], _, _, _, h, _ => by simp at h
  | x :: r, s, 0, p, h, e => by
    have e' : key x = s.toList := e
    unfold setS
    rw [if_neg (by rw [e']; exact L_irrefl _), if_pos e', if_pos rfl]
    rfl
  | x :: r, s, i + 1, p, h, e => by
    have c : L (key x) s.toList := p.2.1 0 (by simp) (by omega)
    unfold setS
    rw [if_pos c]
    show x :: (r.take i ++ r.drop (i + 1)) = _
    rw [del_eq (l := r) (i := i) ⟨by simp at h; omega, fun j hj hi => p.2.1 (j + 1) (by simp; omega) (by omega), fun j hj hi => p.2.2 (j + 1) (by simp; omega) (by omega)⟩ (by simp at h; omega) e]
theorem lminus_go (b : List Lot) (hb : b.length ≤ 100) (pb : Pos b) : ∀ (n i : Nat) (out : List Lot), i + n = b.length → out.length ≤ 100 + i → Sorted out → Pos out →
    Ev (fun k => lots_Minus.l0 k out b (b.length : Int) (i : Int)) (minusS out (b.drop i))
  | 0, i, out, hi, ho, so, po => by
    rw [List.drop_of_length_le (by omega)]
    refine Ev.step (f := fun _ => some (out, 0)) (fun k => ?_) (Ev.now _)
    simp only [lots_Minus.l0]
    rw [if_neg (by omega)]
  | n + 1, i, out, hi, ho, so, po => by
    have h : i < b.length := by omega
    have q0 := qty_nonneg po b[i].f0.toList
    have x0 := pb b[i] (List.getElem_mem h)
    unfold M at q0 x0
    rw [List.drop_eq_getElem_cons h]
    unfold minusS
    simp only [key]
    obtain ⟨p, f, pl, ff, pe⟩ := place_ev (l := out) (by omega) so b[i].f0
    have bad : ∀ x9 y z, Ev (fun k => lots_Minus.j1 k out x9 b (b.length : Int) (i : Int) true y z) ([], 20) := fun x9 y z =>
      Ev.step (f := fun _ => some ([], 20)) (fun k => by simp only [lots_Minus.j1]; rw [if_pos trivial]) (Ev.now _)
    refine Ev.step (f := fun k => lots_Minus.l0 (k + 1) out b (b.length : Int) (i : Int)) (fun k => rfl) ?_
    simp only [lots_Minus.l0, rd_at h, if_pos (show (i : Int) < (b.length : Int) by omega), if_pos (show (0 : Int) ≤ (i : Int) by omega)]
    refine Ev.bind pe ?_
    cases f with
    | false =>
      simp only [Bool.false_eq_true, if_false]
      rw [lost_qty so pl (fun f => by have := ff.2 f; cases this), if_pos (by omega)]
      exact bad _ _ _
    | true =>
      obtain ⟨hp, eq_, ek⟩ := found_qty so (ff.1 rfl)
      simp only [if_true, if_pos (show (0 : Int) ≤ (p : Int) by omega), if_pos (show (p : Int) < (out.length : Int) by omega), rd_at hp]
      rw [eq_] at q0 ⊢
      by_cases c : out[p].f1 < b[i].f1
      · rw [if_pos c, decide_eq_true c]; exact bad _ _ _
      rw [if_neg c, decide_eq_false c]
      have ln := setS_len_le (l := out) (n := b[i].f0) (q := out[p].f1 - b[i].f1)
      have go := lminus_go b hb pb n (i + 1) (setS out b[i].f0 (out[p].f1 - b[i].f1)) (by omega) (by omega) (setS_sorted so _ _) (setS_pos po (by omega) (by unfold M; omega))
      refine Ev.step (f := fun k => lots_Minus.j1 (k + 1) out (p : Int) b (b.length : Int) (i : Int) false b[i].f0 b[i].f1) (fun k => rfl) ?_
      simp only [lots_Minus.j1, Bool.false_eq_true, if_false, if_pos (show (0 : Int) ≤ (p : Int) by omega), if_pos (show (p : Int) < (out.length : Int) by omega), rd_at hp, up h (by omega), Int.toNat_natCast, Option.bind_some]
      rw [w_id (x := out[p].f1 - b[i].f1) (by omega) (by omega)]
      by_cases z : out[p].f1 - b[i].f1 = 0
      · simp only [if_pos z]
        have e1 : wrap64 ((p : Int) + 1) = ((p + 1 : Nat) : Int) := by rw [w_id (by omega) (by omega)]; omega
        rw [z] at go
        rw [← del_eq pl hp ek] at go
        rw [e1]
        have e2 : slices_Delete_api_Lot_api_Lot.f (out.set p ⟨out[p].f0, out[p].f1 - b[i].f1⟩) (p : Int) ((p + 1 : Nat) : Int) = some (out.take p ++ out.drop (p + 1)) := by
          unfold slices_Delete_api_Lot_api_Lot.f
          rw [if_pos ⟨by omega, by omega, by rw [List.length_set]; omega⟩, Int.toNat_natCast, Int.toNat_natCast, List.take_set_of_le (by omega), List.drop_set_of_lt (by omega)]
        rw [z] at e2 ⊢
        simp only [e2, Option.bind_some]
        rw [← del_eq pl hp ek]
        exact go
      · simp only [if_neg z]
        rw [put_eq pl hp ek z]
        exact go
theorem lminus_ev {a b : List Lot} (ha : a.length ≤ 100) (hb : b.length ≤ 100) (sa : Sorted a) (pa : Pos a) (pb : Pos b) : Ev (fun k => lots_Minus.f k a b) (minusS a b) := by
  unfold lots_Minus.f
  have e : slices_Clone_api_Lot_api_Lot.f a = some a := by
    unfold slices_Clone_api_Lot_api_Lot.f
    simp only [Option.bind_some, List.nil_append]
    rw [if_pos (by simp; omega)]
  simp only [e, Option.bind_some]
  exact lminus_go b hb pb b.length 0 a (by omega) (by omega) sa pa
end Go.Proofs.Ytjjemfbpodgihaa.PLot
end
section
namespace Go.Proofs.Ytjjemfbpodgihaa.PLot
open Go Go.RowKit Go.Proofs.Ytjjemfbpodgihaa.X Go.Proofs.YtjjemfbpodgihaaW.PrintWords Go.Proofs.YtjjemfbpodgihaaW.PrintLast Go.Proofs.YtjjemfbpodgihaaW.PrintMore
def addS (out : List Lot) (x : Lot) : List Lot × Int :=
  if qty out (key x) = 0 ∧ 64 ≤ out.length then ([], 2) else if x.f1 > M - qty out (key x) then ([], 9) else (setS out x.f0 (qty out (key x) + x.f1), 0)
theorem plusS_cons (out : List Lot) (x : Lot) (r : List Lot) : plusS out (x :: r) = if (addS out x).2 = 0 then plusS (addS out x).1 r else ([], (addS out x).2) := by
  unfold addS
  rw [plusS]
  split
  · rw [if_neg (by simp)]
  · split
    · rw [if_neg (by simp)]
    · rw [if_pos rfl]
theorem plusS_one (out : List Lot) (x : Lot) : plusS out [x] = addS out x := by
  rw [plusS_cons]
  unfold addS plusS
  split
  · rw [if_neg (by simp)]
  · split
    · rw [if_neg (by simp)]
    · rw [if_pos rfl]
theorem addS_ok {out : List Lot} {x : Lot} (so : Sorted out) (po : Pos out) (lo : out.length ≤ 64) (x0 : 1 ≤ x.f1) (_x1 : x.f1 ≤ M) (h : (addS out x).2 = 0) :
    Sorted (addS out x).1 ∧ Pos (addS out x).1 ∧ (addS out x).1.length ≤ 64 ∧ ∀ k, qty (addS out x).1 k = qty out k + if key x = k then x.f1 else 0 := by
  have o0 := qty_nonneg po (key x)
  unfold addS at h ⊢
  split at h
  · cases h
  · rename_i c
    rw [if_neg c]
    split at h
    · cases h
    · rename_i d
      rw [if_neg d]
      have s1 := setS_sorted so x.f0 (qty out (key x) + x.f1)
      have p1 := setS_pos po (n := x.f0) (q := qty out (key x) + x.f1) (by omega) (by omega)
      refine ⟨s1, p1, ?_, fun k => ?_⟩
      · show (setS out x.f0 (qty out (key x) + x.f1)).length ≤ 64
        by_cases z : qty out (key x) = 0
        · rw [setS_len z po (by omega)]
          omega
        · have := len_le (a := setS out x.f0 (qty out (key x) + x.f1)) (b := out) s1 so (fun y hy => by
            rcases setS_keys y hy with ⟨e, _, _⟩ | hy
            · obtain ⟨w, hw, e2⟩ := qty_find z
              exact ⟨w, hw, by rw [e2, e]⟩
            · exact ⟨y, hy, rfl⟩)
          omega
      · show qty (setS out x.f0 (qty out (key x) + x.f1)) k = _
        rw [setS_qty so]
        by_cases c : k = x.f0.toList
        · rw [if_pos c, if_pos (show key x = k from c.symm), c]
        · rw [if_neg c, if_neg (fun e => c (by rw [← e]))]
          omega
theorem ins_eq : ∀ {l : List Lot} {s : ByteArray} {i : Nat} {v : Int}, PlaceAt l s.toList i → ¬ Found l s.toList i → v ≠ 0 → l.take i ++ [(⟨s, v⟩ : Lot)] ++ l.drop i = setS l s v
  | [], s, i, v, p, _, v0 => by
    unfold setS
    rw [if_neg v0]
    simp
  | x :: r, s, 0, v, p, f, v0 => by
    have h1 : ¬ L (key x) s.toList := p.2.2 0 (by simp) (by omega)
    have h2 : ¬ key x = s.toList := fun e => f ⟨by simp, e⟩
    unfold setS
    rw [if_neg h1, if_neg h2, if_neg v0]
    rfl
  | x :: r, s, i + 1, v, p, f, v0 => by
    have c : L (key x) s.toList := p.2.1 0 (by simp) (by omega)
    unfold setS
    rw [if_pos c]
    show x :: (r.take i ++ [(⟨s, v⟩ : Lot)] ++ r.drop i) = _
    rw [ins_eq (l := r) (i := i) ⟨by have := p.1; simp at this; omega, fun j hj hi => p.2.1 (j + 1) (by simp; omega) (by omega), fun j hj hi => p.2.2 (j + 1) (by simp; omega) (by omega)⟩ (fun ⟨h, e⟩ => f ⟨by simp; omega, e⟩) v0]
theorem add_ev {out : List Lot} (lo : out.length ≤ 300) (so : Sorted out) (po : Pos out) (x : Lot) (x0 : 1 ≤ x.f1) (x1 : x.f1 ≤ M) : Ev (fun k => lots_add.f k out x.f0 x.f1) (addS out x) := by
  obtain ⟨p, f, pl, ff, pe⟩ := place_ev (l := out) (by omega) so x.f0
  have o0 := qty_nonneg po (key x)
  unfold M at x1 o0
  unfold lots_add.f addS
  refine Ev.bind pe ?_
  cases f with
  | false =>
    have nf : ¬ Found out x.f0.toList p := fun z => by have := ff.2 z; cases this
    have z : qty out (key x) = 0 := lost_qty so pl nf
    simp only [Bool.false_eq_true, if_false]
    rw [z]
    by_cases c : (64 : Nat) ≤ out.length
    · rw [if_pos (show (0 : Int) = 0 ∧ 64 ≤ out.length from ⟨rfl, c⟩)]
      simp only [if_pos (show (out.length : Int) ≥ 64 by omega)]
      exact Ev.now _
    · rw [if_neg (show ¬ ((0 : Int) = 0 ∧ 64 ≤ out.length) from fun h => c h.2), if_neg (show ¬ x.f1 > M - 0 by unfold M; omega)]
      simp only [if_neg (show ¬ (out.length : Int) ≥ 64 by omega)]
      have e : slices_Insert_api_Lot_api_Lot.f out (p : Int) [(⟨x.f0, x.f1⟩ : Lot)] = some (setS out x.f0 x.f1) := by
        have := pl.1
        unfold slices_Insert_api_Lot_api_Lot.f
        rw [if_pos ⟨by omega, by omega, rfl, by omega⟩, Int.toNat_natCast, ins_eq pl nf (by omega)]
      simp only [e, Option.bind_some, Int.zero_add]
      exact Ev.now _
  | true =>
    obtain ⟨hp, eq_, ek⟩ := found_qty so (ff.1 rfl)
    have px := po out[p] (List.getElem_mem hp)
    have eq2 : qty out (key x) = out[p].f1 := eq_
    unfold M at px
    simp only [if_true, if_pos (show (0 : Int) ≤ (p : Int) by omega), if_pos (show (p : Int) < (out.length : Int) by omega), rd_at hp]
    rw [eq2, if_neg (show ¬ (out[p].f1 = 0 ∧ 64 ≤ out.length) by omega), w_id (x := 1125899906842624 - out[p].f1) (by omega) (by omega)]
    by_cases c : x.f1 > 1125899906842624 - out[p].f1
    · rw [if_pos c, if_pos (show x.f1 > M - out[p].f1 from c)]
      exact Ev.now _
    · rw [if_neg c, if_neg (show ¬ x.f1 > M - out[p].f1 from c), w_id (x := out[p].f1 + x.f1) (by omega) (by omega), Int.toNat_natCast, put_eq pl hp ek (by omega)]
      exact Ev.now _
theorem lplus_go (b : List Lot) (hb : b.length ≤ 64) (pb : Pos b) (sb : Sorted b) : ∀ (n i : Nat) (out : List Lot), i + n = b.length → Sorted out → Pos out → out.length ≤ 64 →
    Ev (fun k => lots_Plus.l0 k out b (b.length : Int) (i : Int)) (plusS out (b.drop i))
  | 0, i, out, hi, so, po, lo => by
    rw [List.drop_of_length_le (by omega)]
    refine Ev.step (f := fun _ => some (out, 0)) (fun k => ?_) (Ev.now _)
    simp only [lots_Plus.l0]
    rw [if_neg (by omega)]
  | n + 1, i, out, hi, so, po, lo => by
    have h : i < b.length := by omega
    have x0 := pb b[i] (List.getElem_mem h)
    rw [List.drop_eq_getElem_cons h, plusS_cons]
    refine Ev.step (f := fun k => lots_Plus.l0 (k + 1) out b (b.length : Int) (i : Int)) (fun k => rfl) ?_
    simp only [lots_Plus.l0, rd_at h, up h (by omega), if_pos (show (i : Int) < (b.length : Int) by omega), if_pos (show (0 : Int) ≤ (i : Int) by omega)]
    refine Ev.bind (add_ev (by omega) so po b[i] x0.1 x0.2) ?_
    by_cases c : (addS out b[i]).2 = 0
    · simp only [if_pos c]
      obtain ⟨s1, p1, l1, _⟩ := addS_ok so po lo x0.1 x0.2 c
      exact lplus_go b hb pb sb n (i + 1) _ (by omega) s1 p1 l1
    · simp only [if_neg c]
      exact Ev.now _
theorem lplus_ev {a b : List Lot} (ha : a.length ≤ 64) (hb : b.length ≤ 64) (sa : Sorted a) (pa : Pos a) (sb : Sorted b) (pb : Pos b) : Ev (fun k => lots_Plus.f k a b) (plusS a b) := by
  unfold lots_Plus.f
  have e : slices_Clone_api_Lot_api_Lot.f a = some a := by
    unfold slices_Clone_api_Lot_api_Lot.f
    simp only [Option.bind_some, List.nil_append]
    rw [if_pos (by simp; omega)]
  simp only [e, Option.bind_some]
  exact lplus_go b hb pb sb b.length 0 a (by omega) sa pa ha
end Go.Proofs.Ytjjemfbpodgihaa.PLot
end
section
namespace Go.Proofs.Ytjjemfbpodgihaa.PLot
open Go Go.RowKit Go.Proofs.Ytjjemfbpodgihaa.X Go.Proofs.YtjjemfbpodgihaaW.PrintWords Go.Proofs.YtjjemfbpodgihaaW.PrintLast Go.Proofs.YtjjemfbpodgihaaW.PrintMore
def lot (c : UInt8) (n : Int) : Lot := ⟨⟨#[c]⟩, n⟩
theorem key_lot (c : UInt8) (n : Int) : key (lot c n) = [c] := by show (⟨#[c]⟩ : ByteArray).toList = [c]; rw [ByteArray.toList_eq]
theorem awake_ev : Ev (fun k => lombardlaw17_awake.f k) true := by
  have sa : Sorted [lot 65 5, lot 66 2] := by simp [Sorted, key_lot, L, Op.bytesLess]
  have sb : Sorted [lot 65 1, lot 67 4] := by simp [Sorted, key_lot, L, Op.bytesLess]
  have sc : Sorted [lot 65 6, lot 66 2, lot 67 4] := by simp [Sorted, key_lot, L, Op.bytesLess]
  have pa : Pos [lot 65 5, lot 66 2] := by simp [Pos, lot, M]
  have pb : Pos [lot 65 1, lot 67 4] := by simp [Pos, lot, M]
  have pc : Pos [lot 65 6, lot 66 2, lot 67 4] := by simp [Pos, lot, M]
  have pd : Pos [lot 66 2] := by simp [Pos, lot, M]
  have m1 : plusS [lot 65 5, lot 66 2] [lot 65 1, lot 67 4] = ([lot 65 6, lot 66 2, lot 67 4], 0) := by
    simp [plusS, setS, qty, L, Op.bytesLess, M, lot, ByteArray.toList_eq]
  have m2 : minusS [lot 65 6, lot 66 2, lot 67 4] [lot 66 2] = ([lot 65 6, lot 67 4], 0) := by
    simp [minusS, setS, qty, L, Op.bytesLess, lot, ByteArray.toList_eq]
  have e1 := lplus_ev (by simp) (by simp) sa pa sb pb
  have e2 := lminus_ev (by simp) (by simp) sc pc pd
  rw [m1] at e1
  rw [m2] at e2
  unfold lombardlaw17_awake.f
  refine Ev.bind e1 ?_
  refine Ev.bind e2 ?_
  simp only [if_true]
  refine Ev.bind (same_ev (a := [lot 65 6, lot 66 2, lot 67 4]) (by simp)) ?_
  simp only [if_true]
  exact Ev.bind (same_ev (a := [lot 65 6, lot 67 4]) (by simp)) (Ev.now _)
end Go.Proofs.Ytjjemfbpodgihaa.PLot
end
