-- a shortened text: what this claim does not name is left out (wip/xprint/prune.py of this repo)
import Derived.Test.YtjjemfbpodgihaaPLotC
import Derived.Test.YtjjemfbpodgihaaX9
import Derived.Test.YtjjemfbpodgihaaX10
namespace Go.Proofs.Ytjjemfbpodgihaa.PLot
open Go Go.RowKit Go.Proofs.Ytjjemfbpodgihaa.X Go.Proofs.YtjjemfbpodgihaaW.PrintWords Go.Proofs.YtjjemfbpodgihaaW.PrintLast Go.Proofs.YtjjemfbpodgihaaW.PrintMore
theorem setS_len_le {l : List Lot} {n : ByteArray} {q : Int} : (setS l n q).length ≤ l.length + 1 := by
  induction l with
  | nil => unfold setS; split <;> simp
  | cons y r ih =>
    unfold setS
    split
    · simp only [List.length_cons]; omega
    · split
      · split <;> simp only [List.length_cons] <;> omega
      · split <;> simp only [List.length_cons] <;> omega
theorem rplus_go (b : List Lot) (hb : b.length ≤ 64) (pb : Pos b) : ∀ (n i : Nat) (out : List Lot), i + n = b.length → out.length ≤ 100 + i → Sorted out → Pos out →
    Ev (fun k => lombardref17_Plus.l0 k b out (i : Int)) (plusS out (b.drop i))
  | 0, i, out, hi, ho, so, po => by
    rw [List.drop_of_length_le (by omega)]
    refine Ev.step (f := fun _ => some (out, 0)) (fun k => ?_) (Ev.now _)
    simp only [lombardref17_Plus.l0]
    rw [if_neg (by omega)]
  | n + 1, i, out, hi, ho, so, po => by
    have h : i < b.length := by omega
    have q0 := qty_nonneg po (b[i].f0.toList)
    have x0 := pb b[i] (List.getElem_mem h)
    unfold M at q0 x0
    rw [List.drop_eq_getElem_cons h]
    unfold plusS
    simp only [key]
    have qe := rqty_ev (l := out) (by omega) b[i].f0
    have body : ∀ v : Bool, v = decide (qty out (b[i].f0.toList) = 0 ∧ 64 ≤ out.length) → Ev (fun k => lombardref17_Plus.j1 k b out (i : Int) (qty out (b[i].f0.toList)) v) (if qty out (b[i].f0.toList) = 0 ∧ 64 ≤ out.length then ([], 2) else if b[i].f1 > M - qty out (b[i].f0.toList) then ([], 9) else plusS (setS out b[i].f0 (qty out (b[i].f0.toList) + b[i].f1)) (b.drop (i + 1))) := by
      intro v hv
      refine Ev.step (f := fun k => lombardref17_Plus.j1 (k + 1) b out (i : Int) (qty out (b[i].f0.toList)) v) (fun k => rfl) ?_
      simp only [lombardref17_Plus.j1, rd_at h, up h (by omega), if_pos (show (i : Int) < (b.length : Int) by omega), if_pos (show (0 : Int) ≤ (i : Int) by omega)]
      by_cases c : qty out (b[i].f0.toList) = 0 ∧ 64 ≤ out.length
      · rw [if_pos c, hv, decide_eq_true c]; simp only [if_true]; exact Ev.now _
      rw [if_neg c, hv, decide_eq_false c]
      simp only [Bool.false_eq_true, if_false]
      rw [w_id (x := 1125899906842624 - qty out (b[i].f0.toList)) (by omega) (by omega)]
      by_cases d : b[i].f1 > 1125899906842624 - qty out (b[i].f0.toList)
      · simp only [if_pos d]; rw [if_pos (show b[i].f1 > M - qty out (b[i].f0.toList) by unfold M; omega)]; exact Ev.now _
      simp only [if_neg d]
      rw [if_neg (show ¬ b[i].f1 > M - qty out (b[i].f0.toList) by unfold M; omega), w_id (by omega) (by omega)]
      refine Ev.bind (set_ev (by omega) so b[i].f0 _) ?_
      have := setS_len_le (l := out) (n := b[i].f0) (q := qty out (b[i].f0.toList) + b[i].f1)
      exact rplus_go b hb pb n (i + 1) _ (by omega) (by omega) (setS_sorted so _ _) (setS_pos po (by omega) (by unfold M; omega))
    refine Ev.step (f := fun k => lombardref17_Plus.l0 (k + 1) b out (i : Int)) (fun k => rfl) ?_
    simp only [lombardref17_Plus.l0, rd_at h, if_pos (show (i : Int) < (b.length : Int) by omega), if_pos (show (0 : Int) ≤ (i : Int) by omega)]
    refine Ev.bind qe ?_
    by_cases z : qty out (b[i].f0.toList) = 0
    · simp only [if_pos z]
      exact body _ (by simp [z]; omega)
    · simp only [if_neg z]
      exact body _ (by simp [z])
theorem rplus_ev {a b : List Lot} (ha : a.length ≤ 100) (hb : b.length ≤ 64) (sa : Sorted a) (pa : Pos a) (pb : Pos b) : Ev (fun k => lombardref17_Plus.f k a b) (plusS a b) :=
  rplus_go b hb pb b.length 0 a (by omega) (by omega) sa pa
theorem same_go (a : List Lot) (ha : a.length ≤ 1000) : ∀ (n i : Nat), i + n = a.length → Ev (fun k => lombardref10_Lots.l0 k a a (i : Int)) true
  | 0, i, hi => by
    refine Ev.step (f := fun _ => some true) (fun k => ?_) (Ev.now _)
    simp only [lombardref10_Lots.l0]
    rw [if_neg (by omega)]
  | n + 1, i, hi => by
    have h : i < a.length := by omega
    refine Ev.step (fun k => ?_) (same_go a ha n (i + 1) (by omega))
    simp only [lombardref10_Lots.l0, rd_at h, up h ha]
    rw [if_pos (by omega), if_pos (by omega), if_pos (by omega), if_neg (by simp)]
theorem same_ev {a : List Lot} (ha : a.length ≤ 1000) : Ev (fun k => lombardref10_Lots.f k a a) true := by
  unfold lombardref10_Lots.f
  simp only [if_true]
  exact same_go a ha a.length 0 (by omega)
end Go.Proofs.Ytjjemfbpodgihaa.PLot
