-- a shortened text: what this claim does not name is left out (wip/xprint/prune.py of this repo)
import Derived.Test.YtjjemfbpodgihaaPLot
namespace Go.Proofs.Ytjjemfbpodgihaa.PLot
open Go Go.Proofs.Ytjjemfbpodgihaa.X
theorem qty_cons (x : Lot) (r : List Lot) (k : Bs) : qty (x :: r) k = if key x = k then x.f1 else qty r k := rfl
def minusS : List Lot → List Lot → List Lot × Int
  | out, [] => (out, 0)
  | out, x :: r => if qty out (key x) < x.f1 then ([], 20) else minusS (setS out x.f0 (qty out (key x) - x.f1)) r
def plusS : List Lot → List Lot → List Lot × Int
  | out, [] => (out, 0)
  | out, x :: r => if qty out (key x) = 0 ∧ 64 ≤ out.length then ([], 2) else if x.f1 > M - qty out (key x) then ([], 9) else plusS (setS out x.f0 (qty out (key x) + x.f1)) r
end Go.Proofs.Ytjjemfbpodgihaa.PLot
