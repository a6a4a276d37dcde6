-- PRINTED BY print.sh 35421559b90ae4d0a3588c463048766b98c2df88dd9212a6774a882060cdf62d: not written by this session
import Derived.Test.YtbchabgigjjdnaaProg
import Derived.Below
import Derived.Deep.Draws
import Derived.Deep.AppendLies
import Derived.Maps.AppendAt
import Derived.OwnWalk
import Derived.Laws.BytesArg
import Derived.Laws.MakeOwn
import Derived.Laws.OwnMore
import Derived.Deep.OwnRows
import Derived.Tactics
import Derived.Lib.ConvBytes
import Derived.Laws.Slices
import Derived.WalkKit
import Derived.KernelRfl
import Derived.RowKit3
import Derived.Deep.LoopGhost
import Derived.Deep.QuietTactic
import Derived.BigQuiet
import Derived.WideLaws
import Derived.Deep.DeepCutAuto
import Derived.Deep.CutBlock
import Derived.Deep.RegionHeld3
import Derived.Laws.Rows
import Derived.Lib.AppendStr
import Derived.ArgAppend
import Derived.Laws.IdiomCopy
import Derived.OrdersHeld
import Derived.Laws.BitsLemmas
import Derived.RowKit
import Derived.Test.YtbchabgigjjdnaaWWords
import Derived.Test.YtbchabgigjjdnaaWLast
import Derived.Test.YtbchabgigjjdnaaWTab
import Derived.Test.YtbchabgigjjdnaaWFour
import Derived.Test.YtbchabgigjjdnaaWQPut
import Derived.Test.YtbchabgigjjdnaaWApart
import Derived.Test.YtbchabgigjjdnaaWArr
import Derived.Test.YtbchabgigjjdnaaWZeros
import Derived.Test.YtbchabgigjjdnaaWFoot
import Derived.Test.YtbchabgigjjdnaaWKept
import Derived.Test.YtbchabgigjjdnaaWShare
import Derived.Test.YtbchabgigjjdnaaWN
import Derived.Test.YtbchabgigjjdnaaWFootNe
import Derived.Test.YtbchabgigjjdnaaWAt
import Derived.Test.YtbchabgigjjdnaaWEqStruct
import Derived.Test.YtbchabgigjjdnaaWRepsOne
import Derived.Test.YtbchabgigjjdnaaWInv
import Derived.Test.YtbchabgigjjdnaaWInvWords
import Derived.Test.YtbchabgigjjdnaaWGuard
import Derived.Test.YtbchabgigjjdnaaWNEv
import Derived.Test.YtbchabgigjjdnaaWMore
namespace Go.Proofs.Ytbchabgigjjdnaa.PMarginEnough
open Go.RowKit Go.Proofs.YtbchabgigjjdnaaW.PrintWords Go.Proofs.YtbchabgigjjdnaaW.PrintLast Go.Proofs.YtbchabgigjjdnaaW.PrintMore
attribute [local go_sem] max2_int min2_int max_two min_two max_three min_three max_four min_four   -- for this text's walks alone
set_option linter.unusedVariables false
set_option linter.unusedSimpArgs false



def errW : Option Int → Value
  | none => .nilIface
  | some c => .iface 0 (.int .i64 c)
theorem errW_none : errW none = .nilIface := rfl
theorem errW_some (c : Int) : errW (some c) = .iface 0 (.int .i64 c) := rfl

-- the values' own types

end Go.Proofs.Ytbchabgigjjdnaa.PMarginEnough
