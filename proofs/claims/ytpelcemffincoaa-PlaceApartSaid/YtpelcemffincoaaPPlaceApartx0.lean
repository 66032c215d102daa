-- PRINTED BY print.sh 35421559b90ae4d0a3588c463048766b98c2df88dd9212a6774a882060cdf62d: not written by this session
import Derived.Test.YtpelcemffincoaaProg
import Derived.Below
import Derived.Deep.Draws
import Derived.Deep.AppendLies
import Derived.Maps.AppendAt
import Derived.OwnWalk
import Derived.Laws.BytesArg
import Derived.Laws.MakeOwn
import Derived.Laws.OwnMore
import Derived.Deep.OwnRows
import Derived.Tactics
import Derived.Lib.ConvBytes
import Derived.Laws.Slices
import Derived.WalkKit
import Derived.KernelRfl
import Derived.RowKit3
import Derived.Deep.LoopGhost
import Derived.Deep.QuietTactic
import Derived.BigQuiet
import Derived.WideLaws
import Derived.Deep.DeepCutAuto
import Derived.Deep.CutBlock
import Derived.Deep.RegionHeld3
import Derived.Laws.Rows
import Derived.Lib.AppendStr
import Derived.ArgAppend
import Derived.Laws.IdiomCopy
import Derived.OrdersHeld
import Derived.Laws.BitsLemmas
import Derived.RowKit
import Derived.Test.YtpelcemffincoaaWWords
import Derived.Test.YtpelcemffincoaaWLast
import Derived.Test.YtpelcemffincoaaWTab
import Derived.Test.YtpelcemffincoaaWFour
import Derived.Test.YtpelcemffincoaaWQPut
import Derived.Test.YtpelcemffincoaaWApart
import Derived.Test.YtpelcemffincoaaWArr
import Derived.Test.YtpelcemffincoaaWZeros
import Derived.Test.YtpelcemffincoaaWFoot
import Derived.Test.YtpelcemffincoaaWKept
import Derived.Test.YtpelcemffincoaaWShare
import Derived.Test.YtpelcemffincoaaWN
import Derived.Test.YtpelcemffincoaaWFootNe
import Derived.Test.YtpelcemffincoaaWAt
import Derived.Test.YtpelcemffincoaaWEqStruct
import Derived.Test.YtpelcemffincoaaWRepsOne
import Derived.Test.YtpelcemffincoaaWInv
import Derived.Test.YtpelcemffincoaaWInvWords
import Derived.Test.YtpelcemffincoaaWGuard
import Derived.Test.YtpelcemffincoaaWNEv
import Derived.Test.YtpelcemffincoaaWMore
namespace Go.Proofs.Ytpelcemffincoaa.PPlaceApart
open Go.RowKit Go.Proofs.YtpelcemffincoaaW.PrintWords Go.Proofs.YtpelcemffincoaaW.PrintLast Go.Proofs.YtpelcemffincoaaW.PrintMore
attribute [local go_sem] max2_int min2_int max_two min_two max_three min_three max_four min_four   -- for this text's walks alone
set_option linter.unusedVariables false
set_option linter.unusedSimpArgs false



def errW : Option Int → Value
  | none => .nilIface
  | some c => .iface 0 (.int .i64 c)
theorem errW_none : errW none = .nilIface := rfl
theorem errW_some (c : Int) : errW (some c) = .iface 0 (.int .i64 c) := rfl

theorem info3 : (Try.prog.info? 3).map (fun i => (i.zero, i.size, i.bytes)) = some (some (.int .i64 0), 1, 8) := by kernel_rfl
-- the values' own types

end Go.Proofs.Ytpelcemffincoaa.PPlaceApart
