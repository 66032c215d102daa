-- MADE BY THIS SESSION (fakeprint): not the kit's print
import Derived.Test.YthmdpcdcbfndiaaProg
import Derived.Below
import Derived.Deep.Draws
import Derived.Deep.AppendLies
import Derived.Maps.AppendAt
import Derived.OwnWalk
import Derived.Laws.BytesArg
import Derived.Laws.MakeOwn
import Derived.Laws.OwnMore
import Derived.Deep.OwnRows
import Derived.Tactics
import Derived.Lib.ConvBytes
import Derived.Laws.Slices
import Derived.WalkKit
import Derived.KernelRfl
import Derived.RowKit3
import Derived.Deep.LoopGhost
import Derived.Deep.QuietTactic
import Derived.BigQuiet
import Derived.WideLaws
import Derived.Deep.DeepCutAuto
import Derived.Deep.CutBlock
import Derived.Deep.RegionHeld3
import Derived.Laws.Rows
import Derived.Lib.AppendStr
import Derived.ArgAppend
import Derived.Laws.IdiomCopy
import Derived.OrdersHeld
import Derived.Laws.BitsLemmas
import Derived.RowKit
import Derived.Test.YthmdpcdcbfndiaaWWords
import Derived.Test.YthmdpcdcbfndiaaWLast
import Derived.Test.YthmdpcdcbfndiaaWTab
import Derived.Test.YthmdpcdcbfndiaaWFour
import Derived.Test.YthmdpcdcbfndiaaWQPut
import Derived.Test.YthmdpcdcbfndiaaWApart
import Derived.Test.YthmdpcdcbfndiaaWArr
import Derived.Test.YthmdpcdcbfndiaaWZeros
import Derived.Test.YthmdpcdcbfndiaaWFoot
import Derived.Test.YthmdpcdcbfndiaaWKept
import Derived.Test.YthmdpcdcbfndiaaWShare
import Derived.Test.YthmdpcdcbfndiaaWN
import Derived.Test.YthmdpcdcbfndiaaWFootNe
import Derived.Test.YthmdpcdcbfndiaaWAt
import Derived.Test.YthmdpcdcbfndiaaWEqStruct
import Derived.Test.YthmdpcdcbfndiaaWRepsOne
import Derived.Test.YthmdpcdcbfndiaaWInv
import Derived.Test.YthmdpcdcbfndiaaWInvWords
import Derived.Test.YthmdpcdcbfndiaaWGuard
import Derived.Test.YthmdpcdcbfndiaaWNEv
import Derived.Test.YthmdpcdcbfndiaaWMore
namespace Go.Proofs.Ythmdpcdcbfndiaa.PGeomGrows
open Go.RowKit Go.Proofs.YthmdpcdcbfndiaaW.PrintWords Go.Proofs.YthmdpcdcbfndiaaW.PrintLast Go.Proofs.YthmdpcdcbfndiaaW.PrintMore
attribute [local go_sem] max2_int min2_int max_two min_two max_three min_three max_four min_four   -- for this text's walks alone
set_option linter.unusedVariables false
set_option linter.unusedSimpArgs false



def errW : Option Int → Value
  | none => .nilIface
  | some c => .iface 0 (.int .i64 c)
theorem errW_none : errW none = .nilIface := rfl
theorem errW_some (c : Int) : errW (some c) = .iface 0 (.int .i64 c) := rfl

-- the values' own types

end Go.Proofs.Ythmdpcdcbfndiaa.PGeomGrows
