-- a shortened text: what this claim does not name is left out (wip/xprint/prune.py of this repo)
import Derived.Test.YtjjemfbpodgihaaPLotB
import Derived.Test.YtjjemfbpodgihaaX9
import Derived.Test.YtjjemfbpodgihaaX10
namespace Go.Proofs.Ytjjemfbpodgihaa.PLot
open Go Go.RowKit Go.Proofs.Ytjjemfbpodgihaa.X Go.Proofs.YtjjemfbpodgihaaW.PrintWords Go.Proofs.YtjjemfbpodgihaaW.PrintLast Go.Proofs.YtjjemfbpodgihaaW.PrintMore
theorem w_id {x : Int} (h0 : -9223372036854775808 ≤ x) (h1 : x ≤ 9223372036854775807) : wrap64 x = x := by unfold wrap64; omega
theorem up {i n : Nat} (h : i < n) (hn : n ≤ 1000) : wrap64 ((i : Int) + 1) = ((i + 1 : Nat) : Int) := by rw [w_id (by omega) (by omega)]; omega
theorem rd_at {l : List Lot} {i : Nat} (h : i < l.length) : rd_T43 l (i : Int) = l[i] := by
  unfold rd_T43; rw [Int.toNat_natCast, List.getD_eq_getElem?_getD, List.getElem?_eq_getElem h]; rfl
theorem rqty_go (l : List Lot) (hl : l.length ≤ 1000) (s : ByteArray) : ∀ (n i : Nat), i + n = l.length → Ev (fun k => lombardref17_Qty.l0 k l s (i : Int)) (qty (l.drop i) s.toList)
  | 0, i, hi => by
    rw [List.drop_of_length_le (by omega)]
    refine Ev.step (f := fun _ => some 0) (fun k => ?_) (Ev.now _)
    simp only [lombardref17_Qty.l0]
    rw [if_neg (by omega)]
  | n + 1, i, hi => by
    have h : i < l.length := by omega
    rw [List.drop_eq_getElem_cons h, qty_cons]
    by_cases c : key l[i] = s.toList
    · rw [if_pos c]
      refine Ev.step (f := fun _ => some l[i].f1) (fun k => ?_) (Ev.now _)
      simp only [lombardref17_Qty.l0, rd_at h]
      rw [if_pos (by omega), if_pos (by omega), if_pos c]
    · rw [if_neg c]
      refine Ev.step (fun k => ?_) (rqty_go l hl s n (i + 1) (by omega))
      simp only [lombardref17_Qty.l0, rd_at h, up h hl]
      rw [if_pos (by omega), if_pos (by omega), if_neg c]
theorem rqty_ev {l : List Lot} (hl : l.length ≤ 1000) (s : ByteArray) : Ev (fun k => lombardref17_Qty.f k l s) (qty l s.toList) := rqty_go l hl s l.length 0 (by omega)
theorem set_done (l : List Lot) (hl : l.length ≤ 1000) (s : ByteArray) (q : Int) : ∀ (n i : Nat) (out : List Lot), i + n = l.length → out.length ≤ i + 1 →
    Ev (fun k => lombardref17_Set.l0 k l s q out true (i : Int)) (out ++ (l.drop i).filter fun x => decide (key x ≠ s.toList))
  | 0, i, out, hi, ho => by
    rw [List.drop_of_length_le (by omega), List.filter_nil, List.append_nil]
    refine Ev.step (f := fun _ => some out) (fun k => ?_) (Ev.now _)
    simp only [lombardref17_Set.l0]
    rw [if_neg (by omega), if_pos trivial]
  | n + 1, i, out, hi, ho => by
    have h : i < l.length := by omega
    rw [List.drop_eq_getElem_cons h, List.filter_cons]
    refine Ev.step (f := fun k => lombardref17_Set.j1 k l s q out true (i : Int) false) (fun k => ?_) ?_
    · simp only [lombardref17_Set.l0]
      rw [if_pos (by omega), if_pos trivial]
    by_cases c : key l[i] = s.toList
    · rw [if_neg (by simpa using c)]
      refine Ev.step (fun k => ?_) (set_done l hl s q n (i + 1) out (by omega) (by omega))
      simp only [lombardref17_Set.j1, rd_at h, up h hl]
      rw [if_neg (by simp), if_pos (by omega), if_pos (by omega), if_pos c]
    · rw [if_pos (by simpa using c)]
      have ih := set_done l hl s q n (i + 1) (out ++ [l[i]]) (by omega) (by simp; omega)
      rw [List.append_assoc] at ih
      refine Ev.step (fun k => ?_) ih
      simp only [lombardref17_Set.j1, rd_at h, up h hl]
      rw [if_neg (by simp), if_pos (by omega), if_pos (by omega), if_neg c, if_pos (by omega)]
theorem filter_all {l : List Lot} {s : Bs} (h : ∀ x ∈ l, key x ≠ s) : (l.filter fun x => decide (key x ≠ s)) = l := List.filter_eq_self.2 fun x hx => by simpa using h x hx
theorem filter_zero {l : List Lot} (s : Sorted l) (n : ByteArray) : (l.filter fun x => decide (key x ≠ n.toList)) = setS l n 0 := by
  induction l with
  | nil => rfl
  | cons x r ih =>
    rw [List.filter_cons]
    unfold setS
    by_cases c : L (key x) n.toList
    · rw [if_pos c, if_pos (by simpa using L_ne c), ih s.tail]
    · rw [if_neg c]
      by_cases e : key x = n.toList
      · rw [if_pos e, if_neg (by simpa using e), if_pos rfl]
        exact filter_all fun y hy => by have := s.head y hy; rw [e] at this; exact (L_ne this).symm
      · have lt : L n.toList (key x) := by
          rcases L_tri n.toList (key x) with h | h | h
          · exact h
          · exact absurd h.symm e
          · exact absurd h c
        rw [if_neg e, if_pos (by simpa using e), if_pos rfl]
        congr 1
        exact filter_all fun y hy => (L_ne (L_trans lt (s.head y hy))).symm
theorem set_go (l : List Lot) (hl : l.length ≤ 1000) (sl : Sorted l) (s : ByteArray) (q : Int) (q0 : q ≠ 0) : ∀ (n i : Nat) (out : List Lot), i + n = l.length → out.length ≤ i →
    Ev (fun k => lombardref17_Set.l0 k l s q out false (i : Int)) (out ++ setS (l.drop i) s q)
  | 0, i, out, hi, ho => by
    rw [List.drop_of_length_le (by omega)]
    refine Ev.step (f := fun _ => some (out ++ [(⟨s, q⟩ : Lot)])) (fun k => ?_) (by unfold setS; rw [if_neg q0]; exact Ev.now _)
    simp only [lombardref17_Set.l0]
    rw [if_neg (by omega), if_neg (by simp), if_pos (by omega)]
  | n + 1, i, out, hi, ho => by
    have h : i < l.length := by omega
    have sd : Sorted (l.drop i) := List.Pairwise.sublist (List.drop_sublist i l) sl
    rw [List.drop_eq_getElem_cons h] at sd ⊢
    refine Ev.step (f := fun k => lombardref17_Set.j1 k l s q out false (i : Int) (!(Op.bytesLess (key l[i]) s.toList))) (fun k => ?_) ?_
    · simp only [lombardref17_Set.l0, rd_at h]
      rw [if_pos (by omega), if_neg (by simp), if_pos (by omega)]
    unfold setS
    by_cases c : L (key l[i]) s.toList
    · rw [if_pos c]
      have ih := set_go l hl sl s q q0 n (i + 1) (out ++ [l[i]]) (by omega) (by simp; omega)
      rw [List.append_assoc] at ih
      refine Ev.step (fun k => ?_) ih
      unfold L at c
      simp only [lombardref17_Set.j1, rd_at h, up h hl, c]
      rw [if_neg (by simp), if_pos (by omega), if_pos (by omega), if_neg (L_ne c), if_pos (by omega)]
    · rw [if_neg c]
      have c' : Op.bytesLess (key l[i]) s.toList = false := by unfold L at c; simpa using c
      by_cases e : key l[i] = s.toList
      · rw [if_pos e, if_neg q0]
        have ih := set_done l hl s q n (i + 1) (out ++ [(⟨s, q⟩ : Lot)]) (by omega) (by simp; omega)
        rw [filter_all (fun y hy => by have := sd.head y hy; rw [e] at this; exact (L_ne this).symm), List.append_assoc] at ih
        refine Ev.step (fun k => ?_) ih
        simp only [lombardref17_Set.j1, rd_at h, up h hl, c']
        rw [if_pos (by simp), if_pos (by omega)]
        simp only [Option.bind_some]
        rw [if_pos (by omega), if_pos (by omega), if_pos e]
      · rw [if_neg e, if_neg q0]
        have lt : L s.toList (key l[i]) := by
          rcases L_tri s.toList (key l[i]) with h | h | h
          · exact h
          · exact absurd h.symm e
          · exact absurd h c
        have ih := set_done l hl s q n (i + 1) (out ++ [(⟨s, q⟩ : Lot)] ++ [l[i]]) (by omega) (by simp; omega)
        rw [filter_all (fun y hy => (L_ne (L_trans lt (sd.head y hy))).symm), List.append_assoc, List.append_assoc] at ih
        refine Ev.step (fun k => ?_) ih
        simp only [lombardref17_Set.j1, rd_at h, up h hl, c']
        rw [if_pos (by simp), if_pos (by omega)]
        simp only [Option.bind_some]
        rw [if_pos (by omega), if_pos (by omega), if_neg e, if_pos (by simp; omega), ← List.append_assoc]
theorem set_ev {l : List Lot} (hl : l.length ≤ 1000) (sl : Sorted l) (s : ByteArray) (q : Int) : Ev (fun k => lombardref17_Set.f k l s q) (setS l s q) := by
  unfold lombardref17_Set.f
  by_cases z : q = 0
  · subst z
    have := set_done l hl s 0 l.length 0 [] (by omega) (by simp)
    rw [List.drop_zero, List.nil_append, filter_zero sl] at this
    exact this
  · have := set_go l hl sl s q z l.length 0 [] (by omega) (by simp)
    rw [List.drop_zero, List.nil_append] at this
    rw [show (q == 0) = false by simpa using z]
    exact this
end Go.Proofs.Ytjjemfbpodgihaa.PLot
