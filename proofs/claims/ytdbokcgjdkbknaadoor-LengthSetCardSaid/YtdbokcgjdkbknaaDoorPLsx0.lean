-- Printed by wip/bin/hyb.py by way of the kit's print program. Not trusted: Lean checks it.
import Derived.Test.YtdbokcgjdkbknaaDoorKinds
import Derived.Test.YtdbokcgjdkbknaaDoorDigT
import Derived.Test.YtdbokcgjdkbknaaDoorHeaderF
import Derived.Test.YtdbokcgjdkbknaaDoorLengthF
import Derived.Test.YtdbokcgjdkbknaaDoorProg
import Derived.Below
import Derived.Deep.Draws
import Derived.Deep.AppendLies
import Derived.Maps.AppendAt
import Derived.OwnWalk
import Derived.Laws.BytesArg
import Derived.Laws.MakeOwn
import Derived.Laws.OwnMore
import Derived.Deep.OwnRows
import Derived.Tactics
import Derived.Lib.ConvBytes
import Derived.Laws.Slices
import Derived.WalkKit
import Derived.KernelRfl
import Derived.RowKit3
import Derived.Deep.LoopGhost
import Derived.Deep.QuietTactic
import Derived.BigQuiet
import Derived.WideLaws
import Derived.Deep.DeepCutAuto
import Derived.Deep.CutBlock
import Derived.Deep.RegionHeld3
import Derived.Laws.Rows
import Derived.Lib.AppendStr
import Derived.ArgAppend
import Derived.Laws.IdiomCopy
import Derived.OrdersHeld
import Derived.Laws.BitsLemmas
import Derived.RowKit
import Derived.Test.YtdbokcgjdkbknaaDoorWWords
import Derived.Test.YtdbokcgjdkbknaaDoorWLast
import Derived.Test.YtdbokcgjdkbknaaDoorWTab
import Derived.Test.YtdbokcgjdkbknaaDoorWFour
import Derived.Test.YtdbokcgjdkbknaaDoorWQPut
import Derived.Test.YtdbokcgjdkbknaaDoorWApart
import Derived.Test.YtdbokcgjdkbknaaDoorWArr
import Derived.Test.YtdbokcgjdkbknaaDoorWZeros
import Derived.Test.YtdbokcgjdkbknaaDoorWFoot
import Derived.Test.YtdbokcgjdkbknaaDoorWKept
import Derived.Test.YtdbokcgjdkbknaaDoorWShare
import Derived.Test.YtdbokcgjdkbknaaDoorWN
import Derived.Test.YtdbokcgjdkbknaaDoorWFootNe
import Derived.Test.YtdbokcgjdkbknaaDoorWAt
import Derived.Test.YtdbokcgjdkbknaaDoorWEqStruct
import Derived.Test.YtdbokcgjdkbknaaDoorWRepsOne
import Derived.Test.YtdbokcgjdkbknaaDoorWInv
import Derived.Test.YtdbokcgjdkbknaaDoorWInvWords
import Derived.Test.YtdbokcgjdkbknaaDoorWGuard
import Derived.Test.YtdbokcgjdkbknaaDoorWNEv
import Derived.Test.YtdbokcgjdkbknaaDoorWMore
namespace Go.Proofs.YtdbokcgjdkbknaaDoor.PLs
open Go.RowKit Go.Proofs.YtdbokcgjdkbknaaDoor.Hand Go.Proofs.YtdbokcgjdkbknaaDoor.PTr Go.Proofs.YtdbokcgjdkbknaaDoorW.PrintWords Go.Proofs.YtdbokcgjdkbknaaDoorW.PrintLast Go.Proofs.YtdbokcgjdkbknaaDoorW.PrintMore
attribute [local go_sem] max2_int min2_int max_two min_two max_three min_three max_four min_four   -- for this text's walks alone
set_option linter.unusedVariables false
set_option linter.unusedSimpArgs false



end Go.Proofs.YtdbokcgjdkbknaaDoor.PLs
