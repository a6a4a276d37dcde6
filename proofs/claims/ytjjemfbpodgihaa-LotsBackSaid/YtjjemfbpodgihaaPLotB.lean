-- a shortened text: what this claim does not name is left out (wip/xprint/prune.py of this repo)
import Derived.Test.YtjjemfbpodgihaaPLot
namespace Go.Proofs.Ytjjemfbpodgihaa.PLot
open Go Go.Proofs.Ytjjemfbpodgihaa.X
theorem qty_nil (k : Bs) : qty [] k = 0 := rfl
theorem qty_cons (x : Lot) (r : List Lot) (k : Bs) : qty (x :: r) k = if key x = k then x.f1 else qty r k := rfl
def mapQ (f : Lot → Int) : List Lot → List Lot
  | [] => []
  | x :: r => if f x > 0 then ⟨x.f0, f x⟩ :: mapQ f r else mapQ f r
theorem mapQ_mem {f : Lot → Int} {l : List Lot} : ∀ y ∈ mapQ f l, ∃ x ∈ l, key y = key x ∧ y.f1 = f x ∧ 0 < f x := by
  induction l with
  | nil => intro y hy; cases hy
  | cons x r ih =>
    intro y hy
    unfold mapQ at hy
    split at hy
    · rename_i c
      rcases List.mem_cons.1 hy with rfl | hy'
      · exact ⟨x, List.mem_cons_self, rfl, rfl, c⟩
      · obtain ⟨z, hz, h⟩ := ih y hy'; exact ⟨z, List.mem_cons_of_mem _ hz, h⟩
    · obtain ⟨z, hz, h⟩ := ih y hy; exact ⟨z, List.mem_cons_of_mem _ hz, h⟩
theorem mapQ_sorted {f : Lot → Int} {l : List Lot} (s : Sorted l) : Sorted (mapQ f l) := by
  induction l with
  | nil => exact List.Pairwise.nil
  | cons x r ih =>
    unfold mapQ
    split
    · refine List.pairwise_cons.2 ⟨fun y hy => ?_, ih s.tail⟩
      obtain ⟨z, hz, h, _⟩ := mapQ_mem y hy
      rw [h]; exact s.head z hz
    · exact ih s.tail
theorem mapQ_pos {f : Lot → Int} {l : List Lot} (h : ∀ x ∈ l, f x ≤ M) : Pos (mapQ f l) := fun y hy => by
  obtain ⟨z, hz, _, e, p⟩ := mapQ_mem y hy
  have := h z hz; omega
theorem mapQ_qty (F : Bs → Int → Int) (hF : ∀ k, F k 0 ≤ 0) {l : List Lot} (s : Sorted l) (k : Bs) : qty (mapQ (fun x => F (key x) x.f1) l) k = max 0 (F k (qty l k)) := by
  induction l with
  | nil => have := hF k; show (0 : Int) = max 0 (F k 0); omega
  | cons x r ih =>
    have ih := ih s.tail
    unfold mapQ
    by_cases e : key x = k
    · have z : qty r k = 0 := by rw [← e]; exact qty_below s.head
      rw [z] at ih
      have h0 := hF k
      have q : qty (x :: r) k = x.f1 := by rw [qty_cons, if_pos e]
      rw [q]
      split
      · rename_i c
        rw [qty_cons, if_pos (show key ⟨x.f0, F (key x) x.f1⟩ = k from e)]
        rw [e] at c ⊢; show F k x.f1 = _; omega
      · rename_i c
        rw [e] at c; rw [ih]; omega
    · have q : qty (x :: r) k = qty r k := by rw [qty_cons, if_neg e]
      rw [q, ← ih]
      split
      · rw [qty_cons, if_neg (show ¬ key ⟨x.f0, F (key x) x.f1⟩ = k from e)]
      · rfl
def bothS (a b : List Lot) : List Lot := mapQ (fun x => min x.f1 (qty b (key x))) a
theorem both_qty {a b : List Lot} (s : Sorted a) (_pa : Pos a) (pb : Pos b) (k : Bs) : qty (bothS a b) k = max 0 (min (qty a k) (qty b k)) :=
  mapQ_qty (fun k q => min q (qty b k)) (fun k => by have := qty_nonneg pb k; omega) s k
theorem both_pos {a b : List Lot} (pa : Pos a) : Pos (bothS a b) := mapQ_pos fun x hx => by have := pa x hx; omega
def minusS : List Lot → List Lot → List Lot × Int
  | out, [] => (out, 0)
  | out, x :: r => if qty out (key x) < x.f1 then ([], 20) else minusS (setS out x.f0 (qty out (key x) - x.f1)) r
theorem minus_ok : ∀ {b out : List Lot}, Sorted out → Pos out → Sorted b → Pos b → (∀ k, qty b k ≤ qty out k) →
    (minusS out b).2 = 0 ∧ Sorted (minusS out b).1 ∧ Pos (minusS out b).1 ∧ ∀ k, qty (minusS out b).1 k = qty out k - qty b k
  | [], out, so, po, _, _, _ => ⟨rfl, so, po, fun k => by rw [qty_nil]; show qty out k = _; omega⟩
  | x :: r, out, so, po, sb, pb, h => by
    have hx := h (key x)
    have qx : qty (x :: r) (key x) = x.f1 := by rw [qty_cons, if_pos rfl]
    rw [qx] at hx
    have x0 := pb x List.mem_cons_self
    have o0 := qty_nonneg po (key x)
    unfold minusS
    rw [if_neg (by omega)]
    have s1 := setS_sorted so x.f0 (qty out (key x) - x.f1)
    have p1 := setS_pos po (n := x.f0) (q := qty out (key x) - x.f1) (by omega) (by omega)
    have q1 := setS_qty so x.f0 (qty out (key x) - x.f1)
    obtain ⟨e, s, p, q⟩ := minus_ok s1 p1 sb.tail pb.tail (fun k => by
      rw [q1]
      by_cases c : k = x.f0.toList
      · rw [if_pos c, c, show qty r x.f0.toList = 0 from qty_below sb.head]; omega
      · rw [if_neg c]
        have := h k; rw [qty_cons, if_neg (show ¬ key x = k from fun h => c h.symm)] at this; exact this)
    refine ⟨e, s, p, fun k => ?_⟩
    rw [q, q1]
    by_cases c : k = x.f0.toList
    · rw [if_pos c, c, show qty r x.f0.toList = 0 from qty_below sb.head, show qty (x :: r) x.f0.toList = x.f1 from qx]; show _ = qty out (key x) - x.f1; omega
    · rw [if_neg c]
      rw [qty_cons, if_neg (show ¬ key x = k from fun h => c h.symm)]
def plusS : List Lot → List Lot → List Lot × Int
  | out, [] => (out, 0)
  | out, x :: r => if qty out (key x) = 0 ∧ 64 ≤ out.length then ([], 2) else if x.f1 > M - qty out (key x) then ([], 9) else plusS (setS out x.f0 (qty out (key x) + x.f1)) r
theorem plus_ok {T : List Lot} (st : Sorted T) (pt : Pos T) (lt : T.length ≤ 64) : ∀ {b out : List Lot}, Sorted out → Pos out → Sorted b → Pos b → (∀ k, qty out k + qty b k ≤ qty T k) →
    (plusS out b).2 = 0 ∧ Sorted (plusS out b).1 ∧ Pos (plusS out b).1 ∧ ∀ k, qty (plusS out b).1 k = qty out k + qty b k
  | [], out, so, po, _, _, _ => ⟨rfl, so, po, fun k => by rw [qty_nil]; show qty out k = _; omega⟩
  | x :: r, out, so, po, sb, pb, h => by
    have hx := h (key x)
    have qx : qty (x :: r) (key x) = x.f1 := by rw [qty_cons, if_pos rfl]
    rw [qx] at hx
    have x0 := pb x List.mem_cons_self
    have o0 := qty_nonneg po (key x)
    have t0 := qty_nonneg pt (key x)
    have s1 := setS_sorted so x.f0 (qty out (key x) + x.f1)
    have p1 := setS_pos po (n := x.f0) (q := qty out (key x) + x.f1) (by omega) (by omega)
    have q1 := setS_qty so x.f0 (qty out (key x) + x.f1)
    have hr : ∀ k, qty (setS out x.f0 (qty out (key x) + x.f1)) k + qty r k ≤ qty T k := fun k => by
      rw [q1]
      by_cases c : k = x.f0.toList
      · rw [if_pos c, c, show qty r x.f0.toList = 0 from qty_below sb.head]; show _ ≤ qty T (key x); omega
      · rw [if_neg c]
        have := h k
        rw [qty_cons, if_neg (show ¬ key x = k from fun h => c h.symm)] at this; exact this
    have room : ¬ (qty out (key x) = 0 ∧ 64 ≤ out.length) := fun ⟨z, l⟩ => by
      have e := setS_len (l := out) (n := x.f0) (q := qty out (key x) + x.f1) z po (by omega)
      have := len_le s1 st (fun y hy => by
        have y1 : qty (setS out x.f0 (qty out (key x) + x.f1)) (key y) = y.f1 := qty_mem s1 hy
        have y2 := p1 y hy
        have y3 := hr (key y)
        have y4 := qty_nonneg pb.tail (key y)
        exact qty_find (by omega))
      omega
    unfold plusS
    rw [if_neg room, if_neg (by omega)]
    obtain ⟨e, s, p, q⟩ := plus_ok st pt lt s1 p1 sb.tail pb.tail hr
    refine ⟨e, s, p, fun k => ?_⟩
    rw [q, q1]
    by_cases c : k = x.f0.toList
    · rw [if_pos c, c, show qty r x.f0.toList = 0 from qty_below sb.head, show qty (x :: r) x.f0.toList = x.f1 from qx]; show _ = qty out (key x) + x.f1; omega
    · rw [if_neg c]
      rw [qty_cons, if_neg (show ¬ key x = k from fun h => c h.symm)]
end Go.Proofs.Ytjjemfbpodgihaa.PLot
