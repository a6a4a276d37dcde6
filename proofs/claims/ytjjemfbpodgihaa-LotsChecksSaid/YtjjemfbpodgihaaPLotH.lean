-- a shortened text: what this claim does not name is left out (wip/xprint/prune.py of this repo)
import Derived.Test.YtjjemfbpodgihaaPLotG
import Derived.Test.YtjjemfbpodgihaaX9
import Derived.Test.YtjjemfbpodgihaaX10
namespace Go.Proofs.Ytjjemfbpodgihaa.PLot
open Go Go.RowKit Go.Proofs.Ytjjemfbpodgihaa.X Go.Proofs.YtjjemfbpodgihaaW.PrintWords Go.Proofs.YtjjemfbpodgihaaW.PrintLast Go.Proofs.YtjjemfbpodgihaaW.PrintMore
def addS (out : List Lot) (x : Lot) : List Lot × Int :=
  if qty out (key x) = 0 ∧ 64 ≤ out.length then ([], 2) else if x.f1 > M - qty out (key x) then ([], 9) else (setS out x.f0 (qty out (key x) + x.f1), 0)
theorem plusS_cons (out : List Lot) (x : Lot) (r : List Lot) : plusS out (x :: r) = if (addS out x).2 = 0 then plusS (addS out x).1 r else ([], (addS out x).2) := by
  unfold addS
  rw [plusS]
  split
  · rw [if_neg (by simp)]
  · split
    · rw [if_neg (by simp)]
    · rw [if_pos rfl]
theorem plusS_one (out : List Lot) (x : Lot) : plusS out [x] = addS out x := by
  rw [plusS_cons]
  unfold addS plusS
  split
  · rw [if_neg (by simp)]
  · split
    · rw [if_neg (by simp)]
    · rw [if_pos rfl]
theorem addS_ok {out : List Lot} {x : Lot} (so : Sorted out) (po : Pos out) (lo : out.length ≤ 64) (x0 : 1 ≤ x.f1) (_x1 : x.f1 ≤ M) (h : (addS out x).2 = 0) :
    Sorted (addS out x).1 ∧ Pos (addS out x).1 ∧ (addS out x).1.length ≤ 64 ∧ ∀ k, qty (addS out x).1 k = qty out k + if key x = k then x.f1 else 0 := by
  have o0 := qty_nonneg po (key x)
  unfold addS at h ⊢
  split at h
  · cases h
  · rename_i c
    rw [if_neg c]
    split at h
    · cases h
    · rename_i d
      rw [if_neg d]
      have s1 := setS_sorted so x.f0 (qty out (key x) + x.f1)
      have p1 := setS_pos po (n := x.f0) (q := qty out (key x) + x.f1) (by omega) (by omega)
      refine ⟨s1, p1, ?_, fun k => ?_⟩
      · show (setS out x.f0 (qty out (key x) + x.f1)).length ≤ 64
        by_cases z : qty out (key x) = 0
        · rw [setS_len z po (by omega)]
          omega
        · have := len_le (a := setS out x.f0 (qty out (key x) + x.f1)) (b := out) s1 so (fun y hy => by
            rcases setS_keys y hy with ⟨e, _, _⟩ | hy
            · obtain ⟨w, hw, e2⟩ := qty_find z
              exact ⟨w, hw, by rw [e2, e]⟩
            · exact ⟨y, hy, rfl⟩)
          omega
      · show qty (setS out x.f0 (qty out (key x) + x.f1)) k = _
        rw [setS_qty so]
        by_cases c : k = x.f0.toList
        · rw [if_pos c, if_pos (show key x = k from c.symm), c]
        · rw [if_neg c, if_neg (fun e => c (by rw [← e]))]
          omega
theorem ins_eq : ∀ {l : List Lot} {s : ByteArray} {i : Nat} {v : Int}, PlaceAt l s.toList i → ¬ Found l s.toList i → v ≠ 0 → l.take i ++ [(⟨s, v⟩ : Lot)] ++ l.drop i = setS l s v
  | [], s, i, v, p, _, v0 => by
    unfold setS
    rw [if_neg v0]
    simp
  | x :: r, s, 0, v, p, f, v0 => by
    have h1 : ¬ L (key x) s.toList := p.2.2 0 (by simp) (by omega)
    have h2 : ¬ key x = s.toList := fun e => f ⟨by simp, e⟩
    unfold setS
    rw [if_neg h1, if_neg h2, if_neg v0]
    rfl
  | x :: r, s, i + 1, v, p, f, v0 => by
    have c : L (key x) s.toList := p.2.1 0 (by simp) (by omega)
    unfold setS
    rw [if_pos c]
    show x :: (r.take i ++ [(⟨s, v⟩ : Lot)] ++ r.drop i) = _
    rw [ins_eq (l := r) (i := i) ⟨by have := p.1; simp at this; omega, fun j hj hi => p.2.1 (j + 1) (by simp; omega) (by omega), fun j hj hi => p.2.2 (j + 1) (by simp; omega) (by omega)⟩ (fun ⟨h, e⟩ => f ⟨by simp; omega, e⟩) v0]
theorem add_ev {out : List Lot} (lo : out.length ≤ 300) (so : Sorted out) (po : Pos out) (x : Lot) (x0 : 1 ≤ x.f1) (x1 : x.f1 ≤ M) : Ev (fun k => lots_add.f k out x.f0 x.f1) (addS out x) := by
  obtain ⟨p, f, pl, ff, pe⟩ := place_ev (l := out) (by omega) so x.f0
  have o0 := qty_nonneg po (key x)
  unfold M at x1 o0
  unfold lots_add.f addS
  refine Ev.bind pe ?_
  cases f with
  | false =>
    have nf : ¬ Found out x.f0.toList p := fun z => by have := ff.2 z; cases this
    have z : qty out (key x) = 0 := lost_qty so pl nf
    simp only [Bool.false_eq_true, if_false]
    rw [z]
    by_cases c : (64 : Nat) ≤ out.length
    · rw [if_pos (show (0 : Int) = 0 ∧ 64 ≤ out.length from ⟨rfl, c⟩)]
      simp only [if_pos (show (out.length : Int) ≥ 64 by omega)]
      exact Ev.now _
    · rw [if_neg (show ¬ ((0 : Int) = 0 ∧ 64 ≤ out.length) from fun h => c h.2), if_neg (show ¬ x.f1 > M - 0 by unfold M; omega)]
      simp only [if_neg (show ¬ (out.length : Int) ≥ 64 by omega)]
      have e : slices_Insert_api_Lot_api_Lot.f out (p : Int) [(⟨x.f0, x.f1⟩ : Lot)] = some (setS out x.f0 x.f1) := by
        have := pl.1
        unfold slices_Insert_api_Lot_api_Lot.f
        rw [if_pos ⟨by omega, by omega, rfl, by omega⟩, Int.toNat_natCast, ins_eq pl nf (by omega)]
      simp only [e, Option.bind_some, Int.zero_add]
      exact Ev.now _
  | true =>
    obtain ⟨hp, eq_, ek⟩ := found_qty so (ff.1 rfl)
    have px := po out[p] (List.getElem_mem hp)
    have eq2 : qty out (key x) = out[p].f1 := eq_
    unfold M at px
    simp only [if_true, if_pos (show (0 : Int) ≤ (p : Int) by omega), if_pos (show (p : Int) < (out.length : Int) by omega), rd_at hp]
    rw [eq2, if_neg (show ¬ (out[p].f1 = 0 ∧ 64 ≤ out.length) by omega), w_id (x := 1125899906842624 - out[p].f1) (by omega) (by omega)]
    by_cases c : x.f1 > 1125899906842624 - out[p].f1
    · rw [if_pos c, if_pos (show x.f1 > M - out[p].f1 from c)]
      exact Ev.now _
    · rw [if_neg c, if_neg (show ¬ x.f1 > M - out[p].f1 from c), w_id (x := out[p].f1 + x.f1) (by omega) (by omega), Int.toNat_natCast, put_eq pl hp ek (by omega)]
      exact Ev.now _
theorem lplus_go (b : List Lot) (hb : b.length ≤ 64) (pb : Pos b) (sb : Sorted b) : ∀ (n i : Nat) (out : List Lot), i + n = b.length → Sorted out → Pos out → out.length ≤ 64 →
    Ev (fun k => lots_Plus.l0 k out b (b.length : Int) (i : Int)) (plusS out (b.drop i))
  | 0, i, out, hi, so, po, lo => by
    rw [List.drop_of_length_le (by omega)]
    refine Ev.step (f := fun _ => some (out, 0)) (fun k => ?_) (Ev.now _)
    simp only [lots_Plus.l0]
    rw [if_neg (by omega)]
  | n + 1, i, out, hi, so, po, lo => by
    have h : i < b.length := by omega
    have x0 := pb b[i] (List.getElem_mem h)
    rw [List.drop_eq_getElem_cons h, plusS_cons]
    refine Ev.step (f := fun k => lots_Plus.l0 (k + 1) out b (b.length : Int) (i : Int)) (fun k => rfl) ?_
    simp only [lots_Plus.l0, rd_at h, up h (by omega), if_pos (show (i : Int) < (b.length : Int) by omega), if_pos (show (0 : Int) ≤ (i : Int) by omega)]
    refine Ev.bind (add_ev (by omega) so po b[i] x0.1 x0.2) ?_
    by_cases c : (addS out b[i]).2 = 0
    · simp only [if_pos c]
      obtain ⟨s1, p1, l1, _⟩ := addS_ok so po lo x0.1 x0.2 c
      exact lplus_go b hb pb sb n (i + 1) _ (by omega) s1 p1 l1
    · simp only [if_neg c]
      exact Ev.now _
theorem lplus_ev {a b : List Lot} (ha : a.length ≤ 64) (hb : b.length ≤ 64) (sa : Sorted a) (pa : Pos a) (sb : Sorted b) (pb : Pos b) : Ev (fun k => lots_Plus.f k a b) (plusS a b) := by
  unfold lots_Plus.f
  have e : slices_Clone_api_Lot_api_Lot.f a = some a := by
    unfold slices_Clone_api_Lot_api_Lot.f
    simp only [Option.bind_some, List.nil_append]
    rw [if_pos (by simp; omega)]
  simp only [e, Option.bind_some]
  exact lplus_go b hb pb sb b.length 0 a (by omega) sa pa ha
end Go.Proofs.Ytjjemfbpodgihaa.PLot
