-- a shortened text: what this claim does not name is left out (wip/xprint/prune.py of this repo)
import Derived.Test.YtkdbolhheodfkaaProg
import Derived.Below
import Derived.Deep.Draws
import Derived.Deep.AppendLies
import Derived.Maps.AppendAt
import Derived.OwnWalk
import Derived.Laws.BytesArg
import Derived.Laws.MakeOwn
import Derived.Laws.OwnMore
import Derived.Deep.OwnRows
import Derived.Tactics
import Derived.Lib.ConvBytes
import Derived.Laws.Slices
import Derived.WalkKit
import Derived.KernelRfl
import Derived.RowKit3
import Derived.Deep.LoopGhost
import Derived.Deep.QuietTactic
import Derived.BigQuiet
import Derived.WideLaws
import Derived.Deep.DeepCutAuto
import Derived.Deep.CutBlock
import Derived.Deep.RegionHeld3
import Derived.Laws.Rows
import Derived.Lib.AppendStr
import Derived.ArgAppend
import Derived.Laws.IdiomCopy
import Derived.OrdersHeld
import Derived.Laws.BitsLemmas
import Derived.RowKit
import Derived.Test.YtkdbolhheodfkaaWWords
import Derived.Test.YtkdbolhheodfkaaWLast
import Derived.Test.YtkdbolhheodfkaaWTab
import Derived.Test.YtkdbolhheodfkaaWFour
import Derived.Test.YtkdbolhheodfkaaWQPut
import Derived.Test.YtkdbolhheodfkaaWApart
import Derived.Test.YtkdbolhheodfkaaWArr
import Derived.Test.YtkdbolhheodfkaaWZeros
import Derived.Test.YtkdbolhheodfkaaWFoot
import Derived.Test.YtkdbolhheodfkaaWKept
import Derived.Test.YtkdbolhheodfkaaWShare
import Derived.Test.YtkdbolhheodfkaaWN
import Derived.Test.YtkdbolhheodfkaaWFootNe
import Derived.Test.YtkdbolhheodfkaaWAt
import Derived.Test.YtkdbolhheodfkaaWEqStruct
import Derived.Test.YtkdbolhheodfkaaWRepsOne
import Derived.Test.YtkdbolhheodfkaaWInv
import Derived.Test.YtkdbolhheodfkaaWInvWords
import Derived.Test.YtkdbolhheodfkaaWGuard
import Derived.Test.YtkdbolhheodfkaaWNEv
import Derived.Test.YtkdbolhheodfkaaWMore
import Derived.Test.YtkdbolhheodfkaaXStr
import Derived.Test.YtkdbolhheodfkaaXMake
namespace Go.Proofs.Ytkdbolhheodfkaa.X
open Go.RowKit Go.Proofs.YtkdbolhheodfkaaW.PrintWords Go.Proofs.YtkdbolhheodfkaaW.PrintLast Go.Proofs.YtkdbolhheodfkaaW.PrintMore
attribute [local go_sem] max2_int min2_int max_two min_two max_three min_three max_four min_four
set_option linter.unusedVariables false
set_option linter.unusedSimpArgs false
def errW : Option Int → Value
  | none => .nilIface
  | some c => .iface 0 (.int .i64 c)
theorem errW_none : errW none = .nilIface := rfl
theorem errW_some (c : Int) : errW (some c) = .iface 0 (.int .i64 c) := rfl
end Go.Proofs.Ytkdbolhheodfkaa.X
