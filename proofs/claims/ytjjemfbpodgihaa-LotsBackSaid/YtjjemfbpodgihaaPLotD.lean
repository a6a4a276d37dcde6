-- a shortened text: what this claim does not name is left out (wip/xprint/prune.py of this repo)
import Derived.Test.YtjjemfbpodgihaaPLotC
import Derived.Test.YtjjemfbpodgihaaX9
import Derived.Test.YtjjemfbpodgihaaX10
namespace Go.Proofs.Ytjjemfbpodgihaa.PLot
open Go Go.RowKit Go.Proofs.Ytjjemfbpodgihaa.X Go.Proofs.YtjjemfbpodgihaaW.PrintWords Go.Proofs.YtjjemfbpodgihaaW.PrintLast Go.Proofs.YtjjemfbpodgihaaW.PrintMore
theorem setS_len_le {l : List Lot} {n : ByteArray} {q : Int} : (setS l n q).length ≤ l.length + 1 := by
  induction l with
  | nil => unfold setS; split <;> simp
  | cons y r ih =>
    unfold setS
    split
    · simp only [List.length_cons]; omega
    · split
      · split <;> simp only [List.length_cons] <;> omega
      · split <;> simp only [List.length_cons] <;> omega
theorem same_go (a : List Lot) (ha : a.length ≤ 1000) : ∀ (n i : Nat), i + n = a.length → Ev (fun k => lombardref10_Lots.l0 k a a (i : Int)) true
  | 0, i, hi => by
    refine Ev.step (f := fun _ => some true) (fun k => ?_) (Ev.now _)
    simp only [lombardref10_Lots.l0]
    rw [if_neg (by omega)]
  | n + 1, i, hi => by
    have h : i < a.length := by omega
    refine Ev.step (fun k => ?_) (same_go a ha n (i + 1) (by omega))
    simp only [lombardref10_Lots.l0, rd_at h, up h ha]
    rw [if_pos (by omega), if_pos (by omega), if_pos (by omega), if_neg (by simp)]
theorem same_ev {a : List Lot} (ha : a.length ≤ 1000) : Ev (fun k => lombardref10_Lots.f k a a) true := by
  unfold lombardref10_Lots.f
  simp only [if_true]
  exact same_go a ha a.length 0 (by omega)
end Go.Proofs.Ytjjemfbpodgihaa.PLot
