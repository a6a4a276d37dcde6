-- a shortened text: what this claim does not name is left out (wip/xprint/prune.py of this repo)
import Derived.Test.YtlbhjkbjokiioaaPFall
namespace Go.Proofs.Ytlbhjkbjokiioaa.PFall
open Go Go.RowKit Go.Proofs.Ytlbhjkbjokiioaa.X Go.Proofs.YtlbhjkbjokiioaaW.PrintWords Go.Proofs.YtlbhjkbjokiioaaW.PrintLast Go.Proofs.YtlbhjkbjokiioaaW.PrintMore Go.Proofs.Ytlbhjkbjokiioaa.PShare
theorem ints_go (a : List Int) (ha : a.length ≤ 1000000) : ∀ (n i : Nat), i + n = a.length → Ev (fun k => lombardref01_Ints.l0 k a a (i : Int)) true
  | 0, i, hi => by
    refine Ev.step (f := fun _ => some true) (fun k => ?_) (Ev.now _)
    simp only [lombardref01_Ints.l0]
    rw [if_neg (by omega)]
  | n + 1, i, hi => by
    have h : i < a.length := by omega
    refine Ev.step (fun k => ?_) (ints_go a ha n (i + 1) (by omega))
    simp only [lombardref01_Ints.l0, up h (by omega)]
    rw [if_pos (by omega), if_pos (by omega), if_pos (by omega), if_pos trivial]
theorem ints_ev {a : List Int} (ha : a.length ≤ 1000000) : Ev (fun k => lombardref01_Ints.f k a a) true := by
  unfold lombardref01_Ints.f
  simp only [if_pos]
  exact ints_go a ha a.length 0 (by omega)
def exL : List Rl := [⟨⟨#[97]⟩, [30]⟩, ⟨⟨#[98]⟩, [10, 20, 30]⟩, ⟨⟨#[99]⟩, [50]⟩]
theorem ex_eq : usOf (fallR 100 exL) = ([⟨⟨#[97]⟩, [30]⟩, ⟨⟨#[98]⟩, [10, 20, 30]⟩, ⟨⟨#[99]⟩, [10]⟩], 0, 0) := by rfl
theorem awake_ev : Ev (fun k => lombardlaw29_awake.f k) true := by
  unfold lombardlaw29_awake.f
  have e := fall_ev 100 exL
  rw [ex_eq] at e
  refine Ev.bind e ?_
  simp only [if_pos, List.length_cons, List.length_nil]
  rw [show (((0 + 1 + 1 + 1 : Nat) : Int) = 3) from rfl]
  simp only [if_pos, show (0 : Int) < 3 by omega, show (1 : Int) < 3 by omega, show (2 : Int) < 3 by omega]
  refine Ev.bind (a := true) (ints_ev (a := [30]) (by decide)) ?_
  simp only [if_pos]
  refine Ev.bind (a := true) (ints_ev (a := [10, 20, 30]) (by decide)) ?_
  simp only [if_pos]
  exact Ev.bind (a := true) (ints_ev (a := [10]) (by decide)) (Ev.now _)
end Go.Proofs.Ytlbhjkbjokiioaa.PFall
