-- PRINTED BY print.sh 35421559b90ae4d0a3588c463048766b98c2df88dd9212a6774a882060cdf62d: not written by this session
import Derived.Test.YtonjgbcibjnpoaaProg
import Derived.Below
import Derived.Deep.Draws
import Derived.Deep.AppendLies
import Derived.Maps.AppendAt
import Derived.OwnWalk
import Derived.Laws.BytesArg
import Derived.Laws.MakeOwn
import Derived.Laws.OwnMore
import Derived.Deep.OwnRows
import Derived.Tactics
import Derived.Lib.ConvBytes
import Derived.Laws.Slices
import Derived.WalkKit
import Derived.KernelRfl
import Derived.RowKit3
import Derived.Deep.LoopGhost
import Derived.Deep.QuietTactic
import Derived.BigQuiet
import Derived.WideLaws
import Derived.Deep.DeepCutAuto
import Derived.Deep.CutBlock
import Derived.Deep.RegionHeld3
import Derived.Laws.Rows
import Derived.Lib.AppendStr
import Derived.ArgAppend
import Derived.Laws.IdiomCopy
import Derived.OrdersHeld
import Derived.Laws.BitsLemmas
import Derived.RowKit
import Derived.Test.YtonjgbcibjnpoaaWWords
import Derived.Test.YtonjgbcibjnpoaaWLast
import Derived.Test.YtonjgbcibjnpoaaWTab
import Derived.Test.YtonjgbcibjnpoaaWFour
import Derived.Test.YtonjgbcibjnpoaaWQPut
import Derived.Test.YtonjgbcibjnpoaaWApart
import Derived.Test.YtonjgbcibjnpoaaWArr
import Derived.Test.YtonjgbcibjnpoaaWZeros
import Derived.Test.YtonjgbcibjnpoaaWFoot
import Derived.Test.YtonjgbcibjnpoaaWKept
import Derived.Test.YtonjgbcibjnpoaaWShare
import Derived.Test.YtonjgbcibjnpoaaWN
import Derived.Test.YtonjgbcibjnpoaaWFootNe
import Derived.Test.YtonjgbcibjnpoaaWAt
import Derived.Test.YtonjgbcibjnpoaaWEqStruct
import Derived.Test.YtonjgbcibjnpoaaWRepsOne
import Derived.Test.YtonjgbcibjnpoaaWInv
import Derived.Test.YtonjgbcibjnpoaaWInvWords
import Derived.Test.YtonjgbcibjnpoaaWGuard
import Derived.Test.YtonjgbcibjnpoaaWNEv
import Derived.Test.YtonjgbcibjnpoaaWMore
namespace Go.Proofs.Ytonjgbcibjnpoaa.PParityOf
open Go.RowKit Go.Proofs.YtonjgbcibjnpoaaW.PrintWords Go.Proofs.YtonjgbcibjnpoaaW.PrintLast Go.Proofs.YtonjgbcibjnpoaaW.PrintMore
attribute [local go_sem] max2_int min2_int max_two min_two max_three min_three max_four min_four   -- for this text's walks alone
set_option linter.unusedVariables false
set_option linter.unusedSimpArgs false



def errW : Option Int → Value
  | none => .nilIface
  | some c => .iface 0 (.int .i64 c)
theorem errW_none : errW none = .nilIface := rfl
theorem errW_some (c : Int) : errW (some c) = .iface 0 (.int .i64 c) := rfl

-- the values' own types

end Go.Proofs.Ytonjgbcibjnpoaa.PParityOf
