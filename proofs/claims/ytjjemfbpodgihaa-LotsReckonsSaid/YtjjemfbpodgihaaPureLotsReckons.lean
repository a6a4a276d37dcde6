/- LotsReckons: the law's printed function answers true at all lists and numbers. No condition. -/
import Derived.Test.YtjjemfbpodgihaaPLotI
import Derived.Test.YtjjemfbpodgihaaOpenLotsReckons
namespace Go.Proofs.Ytjjemfbpodgihaa.PLot
open Go Go.RowKit Go.Proofs.Ytjjemfbpodgihaa.X Go.Proofs.YtjjemfbpodgihaaW.PrintWords Go.Proofs.YtjjemfbpodgihaaW.PrintLast Go.Proofs.YtjjemfbpodgihaaW.PrintMore
theorem rboth_go (a b : List Lot) (ha : a.length ≤ 100) (hb : b.length ≤ 100) : ∀ (n i : Nat) (out : List Lot), i + n = a.length → out.length ≤ i →
    Ev (fun k => lombardref17_Both.l0 k a b out (i : Int)) (out ++ bothS (a.drop i) b)
  | 0, i, out, hi, ho => by
    rw [List.drop_of_length_le (by omega)]
    refine Ev.step (f := fun _ => some out) (fun k => ?_) (by show Ev _ (out ++ []); rw [List.append_nil]; exact Ev.now _)
    simp only [lombardref17_Both.l0]
    rw [if_neg (by omega)]
  | n + 1, i, out, hi, ho => by
    have h : i < a.length := by omega
    rw [List.drop_eq_getElem_cons h]
    unfold bothS mapQ
    simp only [key]
    refine Ev.step (f := fun k => lombardref17_Both.l0 (k + 1) a b out (i : Int)) (fun k => rfl) ?_
    simp only [lombardref17_Both.l0, rd_at h, up h (by omega), if_pos (show (i : Int) < (a.length : Int) by omega), if_pos (show (0 : Int) ≤ (i : Int) by omega), if_pos (show out.length < 5864062014805 by omega)]
    refine Ev.bind (rqty_ev (by omega) a[i].f0) ?_
    have ih := fun v : Int => rboth_go a b ha hb n (i + 1) (out ++ [(⟨a[i].f0, v⟩ : Lot)]) (by omega) (by simp; omega)
    have ih0 := rboth_go a b ha hb n (i + 1) out (by omega) (by omega)
    by_cases m : a[i].f1 < qty b a[i].f0.toList
    · have e : min a[i].f1 (qty b a[i].f0.toList) = a[i].f1 := by omega
      rw [e]
      simp only [if_pos m]
      by_cases c : a[i].f1 > 0
      · simp only [if_pos c]
        have := ih a[i].f1
        rw [List.append_assoc] at this
        exact this
      · simp only [if_neg c]
        exact ih0
    · have e : min a[i].f1 (qty b a[i].f0.toList) = qty b a[i].f0.toList := by omega
      rw [e]
      simp only [if_neg m]
      by_cases c : qty b a[i].f0.toList > 0
      · simp only [if_pos c]
        have := ih (qty b a[i].f0.toList)
        rw [List.append_assoc] at this
        exact this
      · simp only [if_neg c]
        exact ih0
theorem rboth_ev {a b : List Lot} (ha : a.length ≤ 100) (hb : b.length ≤ 100) : Ev (fun k => lombardref17_Both.f k a b) (bothS a b) := by
  have := rboth_go a b ha hb a.length 0 [] (by omega) (by simp)
  rw [List.drop_zero, List.nil_append] at this
  exact this
theorem both_len : ∀ (a b : List Lot), (bothS a b).length ≤ a.length := by
  intro a b
  unfold bothS
  induction a with
  | nil => simp [mapQ]
  | cons x r ih => unfold mapQ; split <;> simp <;> omega
end Go.Proofs.Ytjjemfbpodgihaa.PLot
namespace Go.Proofs.Ytjjemfbpodgihaa.Pure
open Go Go.RowKit Go.Proofs.Ytjjemfbpodgihaa.X Go.Proofs.YtjjemfbpodgihaaW.PrintWords Go.Proofs.YtjjemfbpodgihaaW.PrintLast Go.Proofs.YtjjemfbpodgihaaW.PrintMore Go.Proofs.Ytjjemfbpodgihaa.PLot

theorem LotsReckons : Go.Proofs.Ytjjemfbpodgihaa.X.LotsReckons.Pure := by
  intro a b s _ _ _
  apply Ev.rounds
  have aw : Ev (fun k => lombardlaw17_LotsReckons.j0 k a b s true) true :=
    Ev.step (f := fun k => (lombardlaw17_awake.f k).bind fun t => some t) (fun k => by simp only [lombardlaw17_LotsReckons.j0]; rw [if_pos trivial]) (Ev.bind awake_ev (Ev.now _))
  unfold lombardlaw17_LotsReckons.f
  obtain ⟨g1, e1, c1⟩ := good_ev a
  obtain ⟨g2, e2, c2⟩ := good_ev b
  refine Ev.bind e1 ?_
  cases g1 with
  | false => simp only [Bool.false_eq_true, if_false]; exact aw
  | true =>
    simp only [if_true]
    refine Ev.bind e2 ?_
    cases g2 with
    | false => exact aw
    | true =>
      obtain ⟨sa, pa, la⟩ := c1 rfl
      obtain ⟨sb, pb, lb⟩ := c2 rfl
      have l1 := plus_len (b := b) la
      have l2 := minus_len b a
      have l3 := both_len a b
      refine Ev.step (f := fun k => lombardlaw17_LotsReckons.j0 (k + 1) a b s false) (fun k => rfl) ?_
      simp only [lombardlaw17_LotsReckons.j0, Bool.false_eq_true, if_false]
      refine Ev.bind (lplus_ev la lb sa pa sb pb) (Ev.bind (rplus_ev (by omega) lb sa pa pb) (Ev.bind (lminus_ev (by omega) (by omega) sa pa pb) (Ev.bind (rminus_ev (by omega) lb sa pa pb) (Ev.bind (same_ev (by omega)) ?_))))
      simp only [if_true]
      refine Ev.bind (same_ev (by omega)) ?_
      simp only [if_true]
      refine Ev.bind (has_ev (by omega) (by omega) sa pa pb) ?_
      simp only [beq_self_eq_true, if_true]
      refine Ev.bind (both_ev (by omega) (by omega) sb) (Ev.bind (rboth_ev (by omega) (by omega)) (Ev.bind (same_ev (by omega)) ?_))
      simp only [if_true]
      refine Ev.bind (lqty_ev (by omega) sa s) (Ev.bind (rqty_ev (by omega) s) ?_)
      simp only [if_true]
      exact Ev.bind awake_ev (Ev.now _)
end Go.Proofs.Ytjjemfbpodgihaa.Pure
