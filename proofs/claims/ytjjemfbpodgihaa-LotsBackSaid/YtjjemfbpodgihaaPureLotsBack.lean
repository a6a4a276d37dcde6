/- LotsBack: the law's printed function answers true at all lists. No condition. -/
import Derived.Test.YtjjemfbpodgihaaPLotI
import Derived.Test.YtjjemfbpodgihaaOpenLotsBack
namespace Go.Proofs.Ytjjemfbpodgihaa.Pure
open Go Go.RowKit Go.Proofs.Ytjjemfbpodgihaa.X Go.Proofs.YtjjemfbpodgihaaW.PrintWords Go.Proofs.YtjjemfbpodgihaaW.PrintLast Go.Proofs.YtjjemfbpodgihaaW.PrintMore Go.Proofs.Ytjjemfbpodgihaa.PLot

theorem back1 {a b : List Lot} (sa : Sorted a) (pa : Pos a) (la : a.length ≤ 64) (sb : Sorted b) (pb : Pos b) (lb : b.length ≤ 64) : Ev (fun k => lombardlaw17_LotsBack.j1 k a b) true := by
  refine Ev.step (f := fun k => lombardlaw17_LotsBack.j1 (k + 1) a b) (fun k => rfl) ?_
  simp only [lombardlaw17_LotsBack.j1]
  refine Ev.bind (lminus_ev (by omega) (by omega) sa pa pb) ?_
  by_cases c : (minusS a b).2 = 0
  · simp only [if_pos c]
    obtain ⟨sp, pp, qp⟩ := minus_res sa pa pb sb c
    have lp := len_le (a := (minusS a b).1) (b := a) sp sa (fun y hy => by
      have y1 := qty_mem sp hy
      have y2 := pp y hy
      have y3 := qp (key y)
      have y4 := qty_nonneg pb (key y)
      exact qty_find (by omega))
    obtain ⟨e, st, pt, qt⟩ := plus_ok sa pa la sp pp sb pb (fun k => by rw [qp]; omega)
    have eq1 : plusS (minusS a b).1 b = (a, 0) := by
      have := ext_ st pt sa pa (fun k => by rw [qt, qp]; omega)
      exact Prod.ext this e
    have pl := lplus_ev (by omega) lb sp pp sb pb
    rw [eq1] at pl
    refine Ev.bind pl ?_
    simp only [if_true]
    refine Ev.bind (same_ev (by omega)) ?_
    simp only [if_true]
    have eq2 : bothS a b = b := ext_ (mapQ_sorted sa) (both_pos pa) sb pb (fun k => by
      rw [both_qty sa pa pb]
      have h1 := qp k
      have h2 := qty_nonneg pp k
      have h3 := qty_nonneg pb k
      omega)
    have bo := both_ev (a := a) (b := b) (by omega) (by omega) sb
    rw [eq2] at bo
    refine Ev.bind bo (Ev.bind (same_ev (by omega)) ?_)
    simp only [if_true]
    exact Ev.bind awake_ev (Ev.now _)
  · simp only [if_neg c, minus_bad c, List.length_nil, Int.natCast_zero, if_true]
    exact Ev.bind awake_ev (Ev.now _)
theorem LotsBack : Go.Proofs.Ytjjemfbpodgihaa.X.LotsBack.Pure := by
  intro a b _ _
  apply Ev.rounds
  have aw : Ev (fun k => lombardlaw17_LotsBack.j0 k a b true) true :=
    Ev.step (f := fun k => (lombardlaw17_awake.f k).bind fun t => some t) (fun k => by simp only [lombardlaw17_LotsBack.j0]; rw [if_pos trivial]) (Ev.bind awake_ev (Ev.now _))
  unfold lombardlaw17_LotsBack.f
  obtain ⟨g1, e1, c1⟩ := good_ev a
  obtain ⟨g2, e2, c2⟩ := good_ev b
  refine Ev.bind e1 ?_
  cases g1 with
  | false => simp only [Bool.false_eq_true, if_false]; exact aw
  | true =>
    simp only [if_true]
    refine Ev.bind e2 ?_
    cases g2 with
    | false => exact aw
    | true =>
      obtain ⟨sa, pa, la⟩ := c1 rfl
      obtain ⟨sb, pb, lb⟩ := c2 rfl
      have j1 := back1 sa pa la sb pb lb
      refine Ev.step (f := fun k => lombardlaw17_LotsBack.j0 (k + 1) a b false) (fun k => rfl) ?_
      simp only [lombardlaw17_LotsBack.j0, Bool.false_eq_true, if_false]
      refine Ev.bind (lplus_ev la lb sa pa sb pb) ?_
      by_cases c : (plusS a b).2 = 0
      · simp only [if_pos c]
        obtain ⟨sx, px, lx, qx⟩ := plus_res sa pa la pb sb c
        obtain ⟨m1, m2, m3, m4⟩ := minus_ok sx px sb pb (fun k => by rw [qx]; have := qty_nonneg pa k; omega)
        obtain ⟨n1, _⟩ := minus_ok sx px sa pa (fun k => by rw [qx]; have := qty_nonneg pb k; omega)
        have eq1 : (minusS (plusS a b).1 b).1 = a := ext_ m2 m3 sa pa (fun k => by rw [m4, qx]; omega)
        refine Ev.bind (lminus_ev (by omega) (by omega) sx px pb) ?_
        simp only [if_pos m1, eq1]
        refine Ev.bind (same_ev (by omega)) ?_
        simp only [if_true]
        have h1 := has_ev (a := (plusS a b).1) (b := a) (by omega) (by omega) sx px pa
        have h2 := has_ev (a := (plusS a b).1) (b := b) (by omega) (by omega) sx px pb
        rw [n1] at h1
        rw [m1] at h2
        refine Ev.bind h1 ?_
        simp only [beq_self_eq_true, if_true]
        refine Ev.bind h2 ?_
        simp only [beq_self_eq_true, if_true]
        refine Ev.bind (good_of lx sx px) ?_
        simp only [if_true]
        exact j1
      · simp only [if_neg c]
        exact j1
end Go.Proofs.Ytjjemfbpodgihaa.Pure
