-- a shortened text: what this claim does not name is left out (wip/xprint/prune.py of this repo)
import Derived.Test.YtjjemfbpodgihaaPLotE
import Derived.Test.YtjjemfbpodgihaaX9
import Derived.Test.YtjjemfbpodgihaaX10
namespace Go.Proofs.Ytjjemfbpodgihaa.PLot
open Go Go.RowKit Go.Proofs.Ytjjemfbpodgihaa.X Go.Proofs.YtjjemfbpodgihaaW.PrintWords Go.Proofs.YtjjemfbpodgihaaW.PrintLast Go.Proofs.YtjjemfbpodgihaaW.PrintMore
theorem put_eq : ∀ {l : List Lot} {s : ByteArray} {i : Nat} {v : Int}, PlaceAt l s.toList i → (h : i < l.length) → key l[i] = s.toList → v ≠ 0 → l.set i ⟨l[i].f0, v⟩ = setS l s v
  | [], _, _, _, _, h, _, _ => by simp at h
  | x :: r, s, 0, v, p, h, e, v0 => by
    have e' : key x = s.toList := e
    unfold setS
    rw [if_neg (by rw [e']; exact L_irrefl _), if_pos e', if_neg v0]
    show (⟨x.f0, v⟩ : Lot) :: r = _
    rw [key_inj e']
  | x :: r, s, i + 1, v, p, h, e, v0 => by
    have c : L (key x) s.toList := p.2.1 0 (by simp) (by omega)
    unfold setS
    rw [if_pos c]
    have hr : i < r.length := by simp at h; omega
    show x :: r.set i ⟨r[i].f0, v⟩ = _
    rw [put_eq (l := r) (i := i) ⟨by simp at h; omega, fun j hj hi => p.2.1 (j + 1) (by simp; omega) (by omega), fun j hj hi => p.2.2 (j + 1) (by simp; omega) (by omega)⟩ (by simp at h; omega) e v0]
theorem del_eq : ∀ {l : List Lot} {s : ByteArray} {i : Nat}, PlaceAt l s.toList i → (h : i < l.length) → key l[i] = s.toList → l.take i ++ l.drop (i + 1) = setS l s 0
  | [], _, _, _, h, _ => by simp at h
  | x :: r, s, 0, p, h, e => by
    have e' : key x = s.toList := e
    unfold setS
    rw [if_neg (by rw [e']; exact L_irrefl _), if_pos e', if_pos rfl]
    rfl
  | x :: r, s, i + 1, p, h, e => by
    have c : L (key x) s.toList := p.2.1 0 (by simp) (by omega)
    unfold setS
    rw [if_pos c]
    show x :: (r.take i ++ r.drop (i + 1)) = _
    rw [del_eq (l := r) (i := i) ⟨by simp at h; omega, fun j hj hi => p.2.1 (j + 1) (by simp; omega) (by omega), fun j hj hi => p.2.2 (j + 1) (by simp; omega) (by omega)⟩ (by simp at h; omega) e]
theorem lminus_go (b : List Lot) (hb : b.length ≤ 100) (pb : Pos b) : ∀ (n i : Nat) (out : List Lot), i + n = b.length → out.length ≤ 100 + i → Sorted out → Pos out →
    Ev (fun k => lots_Minus.l0 k out b (b.length : Int) (i : Int)) (minusS out (b.drop i))
  | 0, i, out, hi, ho, so, po => by
    rw [List.drop_of_length_le (by omega)]
    refine Ev.step (f := fun _ => some (out, 0)) (fun k => ?_) (Ev.now _)
    simp only [lots_Minus.l0]
    rw [if_neg (by omega)]
  | n + 1, i, out, hi, ho, so, po => by
    have h : i < b.length := by omega
    have q0 := qty_nonneg po b[i].f0.toList
    have x0 := pb b[i] (List.getElem_mem h)
    unfold M at q0 x0
    rw [List.drop_eq_getElem_cons h]
    unfold minusS
    simp only [key]
    obtain ⟨p, f, pl, ff, pe⟩ := place_ev (l := out) (by omega) so b[i].f0
    have bad : ∀ x9 y z, Ev (fun k => lots_Minus.j1 k out x9 b (b.length : Int) (i : Int) true y z) ([], 20) := fun x9 y z =>
      Ev.step (f := fun _ => some ([], 20)) (fun k => by simp only [lots_Minus.j1]; rw [if_pos trivial]) (Ev.now _)
    refine Ev.step (f := fun k => lots_Minus.l0 (k + 1) out b (b.length : Int) (i : Int)) (fun k => rfl) ?_
    simp only [lots_Minus.l0, rd_at h, if_pos (show (i : Int) < (b.length : Int) by omega), if_pos (show (0 : Int) ≤ (i : Int) by omega)]
    refine Ev.bind pe ?_
    cases f with
    | false =>
      simp only [Bool.false_eq_true, if_false]
      rw [lost_qty so pl (fun f => by have := ff.2 f; cases this), if_pos (by omega)]
      exact bad _ _ _
    | true =>
      obtain ⟨hp, eq_, ek⟩ := found_qty so (ff.1 rfl)
      simp only [if_true, if_pos (show (0 : Int) ≤ (p : Int) by omega), if_pos (show (p : Int) < (out.length : Int) by omega), rd_at hp]
      rw [eq_] at q0 ⊢
      by_cases c : out[p].f1 < b[i].f1
      · rw [if_pos c, decide_eq_true c]; exact bad _ _ _
      rw [if_neg c, decide_eq_false c]
      have ln := setS_len_le (l := out) (n := b[i].f0) (q := out[p].f1 - b[i].f1)
      have go := lminus_go b hb pb n (i + 1) (setS out b[i].f0 (out[p].f1 - b[i].f1)) (by omega) (by omega) (setS_sorted so _ _) (setS_pos po (by omega) (by unfold M; omega))
      refine Ev.step (f := fun k => lots_Minus.j1 (k + 1) out (p : Int) b (b.length : Int) (i : Int) false b[i].f0 b[i].f1) (fun k => rfl) ?_
      simp only [lots_Minus.j1, Bool.false_eq_true, if_false, if_pos (show (0 : Int) ≤ (p : Int) by omega), if_pos (show (p : Int) < (out.length : Int) by omega), rd_at hp, up h (by omega), Int.toNat_natCast, Option.bind_some]
      rw [w_id (x := out[p].f1 - b[i].f1) (by omega) (by omega)]
      by_cases z : out[p].f1 - b[i].f1 = 0
      · simp only [if_pos z]
        have e1 : wrap64 ((p : Int) + 1) = ((p + 1 : Nat) : Int) := by rw [w_id (by omega) (by omega)]; omega
        rw [z] at go
        rw [← del_eq pl hp ek] at go
        rw [e1]
        have e2 : slices_Delete_api_Lot_api_Lot.f (out.set p ⟨out[p].f0, out[p].f1 - b[i].f1⟩) (p : Int) ((p + 1 : Nat) : Int) = some (out.take p ++ out.drop (p + 1)) := by
          unfold slices_Delete_api_Lot_api_Lot.f
          rw [if_pos ⟨by omega, by omega, by rw [List.length_set]; omega⟩, Int.toNat_natCast, Int.toNat_natCast, List.take_set_of_le (by omega), List.drop_set_of_lt (by omega)]
        rw [z] at e2 ⊢
        simp only [e2, Option.bind_some]
        rw [← del_eq pl hp ek]
        exact go
      · simp only [if_neg z]
        rw [put_eq pl hp ek z]
        exact go
theorem lminus_ev {a b : List Lot} (ha : a.length ≤ 100) (hb : b.length ≤ 100) (sa : Sorted a) (pa : Pos a) (pb : Pos b) : Ev (fun k => lots_Minus.f k a b) (minusS a b) := by
  unfold lots_Minus.f
  have e : slices_Clone_api_Lot_api_Lot.f a = some a := by
    unfold slices_Clone_api_Lot_api_Lot.f
    simp only [Option.bind_some, List.nil_append]
    rw [if_pos (by simp; omega)]
  simp only [e, Option.bind_some]
  exact lminus_go b hb pb b.length 0 a (by omega) (by omega) sa pa
end Go.Proofs.Ytjjemfbpodgihaa.PLot
