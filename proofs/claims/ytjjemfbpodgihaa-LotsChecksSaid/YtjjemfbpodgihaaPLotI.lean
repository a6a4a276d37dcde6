-- a shortened text: what this claim does not name is left out (wip/xprint/prune.py of this repo)
import Derived.Test.YtjjemfbpodgihaaPLotH
import Derived.Test.YtjjemfbpodgihaaX9
import Derived.Test.YtjjemfbpodgihaaX10
namespace Go.Proofs.Ytjjemfbpodgihaa.PLot
open Go Go.RowKit Go.Proofs.Ytjjemfbpodgihaa.X Go.Proofs.YtjjemfbpodgihaaW.PrintWords Go.Proofs.YtjjemfbpodgihaaW.PrintLast Go.Proofs.YtjjemfbpodgihaaW.PrintMore
def lot (c : UInt8) (n : Int) : Lot := ⟨⟨#[c]⟩, n⟩
theorem key_lot (c : UInt8) (n : Int) : key (lot c n) = [c] := by show (⟨#[c]⟩ : ByteArray).toList = [c]; rw [ByteArray.toList_eq]
theorem awake_ev : Ev (fun k => lombardlaw17_awake.f k) true := by
  have sa : Sorted [lot 65 5, lot 66 2] := by simp [Sorted, key_lot, L, Op.bytesLess]
  have sb : Sorted [lot 65 1, lot 67 4] := by simp [Sorted, key_lot, L, Op.bytesLess]
  have sc : Sorted [lot 65 6, lot 66 2, lot 67 4] := by simp [Sorted, key_lot, L, Op.bytesLess]
  have pa : Pos [lot 65 5, lot 66 2] := by simp [Pos, lot, M]
  have pb : Pos [lot 65 1, lot 67 4] := by simp [Pos, lot, M]
  have pc : Pos [lot 65 6, lot 66 2, lot 67 4] := by simp [Pos, lot, M]
  have pd : Pos [lot 66 2] := by simp [Pos, lot, M]
  have m1 : plusS [lot 65 5, lot 66 2] [lot 65 1, lot 67 4] = ([lot 65 6, lot 66 2, lot 67 4], 0) := by
    simp [plusS, setS, qty, L, Op.bytesLess, M, lot, ByteArray.toList_eq]
  have m2 : minusS [lot 65 6, lot 66 2, lot 67 4] [lot 66 2] = ([lot 65 6, lot 67 4], 0) := by
    simp [minusS, setS, qty, L, Op.bytesLess, lot, ByteArray.toList_eq]
  have e1 := lplus_ev (by simp) (by simp) sa pa sb pb
  have e2 := lminus_ev (by simp) (by simp) sc pc pd
  rw [m1] at e1
  rw [m2] at e2
  unfold lombardlaw17_awake.f
  refine Ev.bind e1 ?_
  refine Ev.bind e2 ?_
  simp only [if_true]
  refine Ev.bind (same_ev (a := [lot 65 6, lot 66 2, lot 67 4]) (by simp)) ?_
  simp only [if_true]
  exact Ev.bind (same_ev (a := [lot 65 6, lot 67 4]) (by simp)) (Ev.now _)
end Go.Proofs.Ytjjemfbpodgihaa.PLot
