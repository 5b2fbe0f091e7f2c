-- Printed by wip/bin/hyb.py by way of the kit's print program. Not trusted: Lean checks it.
import Derived.Test.YtdbokcgjdkbknaaKinds
import Derived.Test.YtdbokcgjdkbknaaDigF
import Derived.Test.YtdbokcgjdkbknaaRefDigE
import Derived.Test.YtdbokcgjdkbknaaRefOct
import Derived.Test.YtdbokcgjdkbknaaProg
import Derived.Below
import Derived.Deep.Draws
import Derived.Deep.AppendLies
import Derived.Maps.AppendAt
import Derived.OwnWalk
import Derived.Laws.BytesArg
import Derived.Laws.MakeOwn
import Derived.Laws.OwnMore
import Derived.Deep.OwnRows
import Derived.Tactics
import Derived.Lib.ConvBytes
import Derived.Laws.Slices
import Derived.WalkKit
import Derived.KernelRfl
import Derived.RowKit3
import Derived.Deep.LoopGhost
import Derived.Deep.QuietTactic
import Derived.BigQuiet
import Derived.WideLaws
import Derived.Deep.DeepCutAuto
import Derived.Deep.CutBlock
import Derived.Deep.RegionHeld3
import Derived.Laws.Rows
import Derived.Lib.AppendStr
import Derived.ArgAppend
import Derived.Laws.IdiomCopy
import Derived.OrdersHeld
import Derived.Laws.BitsLemmas
import Derived.RowKit
import Derived.Test.YtdbokcgjdkbknaaWWords
import Derived.Test.YtdbokcgjdkbknaaWLast
import Derived.Test.YtdbokcgjdkbknaaWTab
import Derived.Test.YtdbokcgjdkbknaaWFour
import Derived.Test.YtdbokcgjdkbknaaWQPut
import Derived.Test.YtdbokcgjdkbknaaWApart
import Derived.Test.YtdbokcgjdkbknaaWArr
import Derived.Test.YtdbokcgjdkbknaaWZeros
import Derived.Test.YtdbokcgjdkbknaaWFoot
import Derived.Test.YtdbokcgjdkbknaaWKept
import Derived.Test.YtdbokcgjdkbknaaWShare
import Derived.Test.YtdbokcgjdkbknaaWN
import Derived.Test.YtdbokcgjdkbknaaWFootNe
import Derived.Test.YtdbokcgjdkbknaaWAt
import Derived.Test.YtdbokcgjdkbknaaWEqStruct
import Derived.Test.YtdbokcgjdkbknaaWRepsOne
import Derived.Test.YtdbokcgjdkbknaaWInv
import Derived.Test.YtdbokcgjdkbknaaWInvWords
import Derived.Test.YtdbokcgjdkbknaaWGuard
import Derived.Test.YtdbokcgjdkbknaaWNEv
import Derived.Test.YtdbokcgjdkbknaaWMore
namespace Go.Proofs.Ytdbokcgjdkbknaa.PE0
open Go.RowKit Go.Proofs.Ytdbokcgjdkbknaa.Hand Go.Proofs.YtdbokcgjdkbknaaW.PrintWords Go.Proofs.YtdbokcgjdkbknaaW.PrintLast Go.Proofs.YtdbokcgjdkbknaaW.PrintMore
attribute [local go_sem] max2_int min2_int max_two min_two max_three min_three max_four min_four   -- for this text's walks alone
set_option linter.unusedVariables false
set_option linter.unusedSimpArgs false



end Go.Proofs.Ytdbokcgjdkbknaa.PE0
