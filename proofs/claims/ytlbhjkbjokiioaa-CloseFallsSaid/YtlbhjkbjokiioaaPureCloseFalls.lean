/- CloseFalls: the law's printed function answers true at every loss and all layers. No condition. -/
import Derived.Test.YtlbhjkbjokiioaaPFallB
import Derived.Test.YtlbhjkbjokiioaaOpenCloseFalls
namespace Go.Proofs.Ytlbhjkbjokiioaa.Pure
open Go Go.RowKit Go.Proofs.Ytlbhjkbjokiioaa.X Go.Proofs.YtlbhjkbjokiioaaW.PrintWords Go.Proofs.YtlbhjkbjokiioaaW.PrintLast Go.Proofs.YtlbhjkbjokiioaaW.PrintMore Go.Proofs.Ytlbhjkbjokiioaa.PShare Go.Proofs.Ytlbhjkbjokiioaa.PFall

theorem falls_go (v : List Rl) (hv : v.length ≤ 64) (hp : ∀ x ∈ v, x.f1.length ≤ 64) : ∀ (n i : Nat), i + n = v.length → Ev (fun k => lombardlaw29_CloseFalls.l0 k (v.map toUs) v (i : Int)) true
  | 0, i, hi => by
    refine Ev.step (f := fun k => (lombardlaw29_awake.f k).bind fun t365 => (some t365)) (fun k => ?_) (Ev.bind awake_ev (Ev.now _))
    simp only [lombardlaw29_CloseFalls.l0]
    rw [if_neg (by omega)]
  | n + 1, i, hi => by
    have h : i < v.length := by omega
    have ih := falls_go v hv hp n (i + 1) (by omega)
    have hp := hp v[i] (List.getElem_mem h)
    refine Ev.step (f := fun k => lombardlaw29_CloseFalls.l0 (k + 1) (v.map toUs) v (i : Int)) (fun k => rfl) ?_
    simp only [lombardlaw29_CloseFalls.l0, List.length_map, rdU h, rdR h, toUs, up h (by omega), if_pos (show (i : Int) < (v.length : Int) by omega), if_pos (show (0 : Int) ≤ (i : Int) by omega), if_true]
    refine Ev.bind (a := true) (ints_ev (by omega)) ?_
    simp only [if_true]
    exact ih
theorem CloseFalls : CloseFalls.Pure := by
  intro a0 l1 _ hl
  apply Ev.rounds
  unfold lombardlaw29_CloseFalls.f
  by_cases c : (l1.length : Int) > 80
  · simp only [if_pos c]
    exact Ev.bind awake_ev (Ev.now _)
  · simp only [if_neg c]
    refine Ev.bind (layers_ev (by omega)) ?_
    refine Ev.bind (fall_ev a0 l1) ?_
    refine Ev.bind (rfall_ev a0 l1) ?_
    obtain ⟨h1, h2⟩ := fallR_ok a0 l1
    simp only [usOf, List.length_map, if_true, bne_self_eq_false]
    refine Ev.step (f := fun k => lombardlaw29_CloseFalls.l0 k ((fallR a0 l1).1.map toUs) (fallR a0 l1).1 0) (fun k => by simp only [lombardlaw29_CloseFalls.j0]; rw [if_neg (by simp)]) ?_
    exact falls_go _ h1 h2 (fallR a0 l1).1.length 0 (by omega)
end Go.Proofs.Ytlbhjkbjokiioaa.Pure
