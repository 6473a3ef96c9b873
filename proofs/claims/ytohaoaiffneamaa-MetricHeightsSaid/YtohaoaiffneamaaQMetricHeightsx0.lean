-- Written by a program of this session (myprint.py) for this claim: contracts of the functions that the law reaches. Not trusted: Lean checks it.
import Derived.Test.YtohaoaiffneamaaProg
import Derived.Below
import Derived.Deep.Draws
import Derived.Deep.AppendLies
import Derived.Maps.AppendAt
import Derived.OwnWalk
import Derived.Laws.BytesArg
import Derived.Laws.MakeOwn
import Derived.Laws.OwnMore
import Derived.Deep.OwnRows
import Derived.Tactics
import Derived.Lib.ConvBytes
import Derived.Laws.Slices
import Derived.WalkKit
import Derived.KernelRfl
import Derived.RowKit3
import Derived.Deep.LoopGhost
import Derived.Deep.QuietTactic
import Derived.BigQuiet
import Derived.WideLaws
import Derived.Deep.DeepCutAuto
import Derived.Deep.CutBlock
import Derived.Deep.RegionHeld3
import Derived.Laws.Rows
import Derived.Lib.AppendStr
import Derived.ArgAppend
import Derived.Laws.IdiomCopy
import Derived.OrdersHeld
import Derived.Laws.BitsLemmas
import Derived.RowKit
import Derived.Test.YtohaoaiffneamaaWWords
import Derived.Test.YtohaoaiffneamaaWLast
import Derived.Test.YtohaoaiffneamaaWTab
import Derived.Test.YtohaoaiffneamaaWFour
import Derived.Test.YtohaoaiffneamaaWQPut
import Derived.Test.YtohaoaiffneamaaWApart
import Derived.Test.YtohaoaiffneamaaWArr
import Derived.Test.YtohaoaiffneamaaWZeros
import Derived.Test.YtohaoaiffneamaaWFoot
import Derived.Test.YtohaoaiffneamaaWKept
import Derived.Test.YtohaoaiffneamaaWShare
import Derived.Test.YtohaoaiffneamaaWN
import Derived.Test.YtohaoaiffneamaaWFootNe
import Derived.Test.YtohaoaiffneamaaWAt
import Derived.Test.YtohaoaiffneamaaWEqStruct
import Derived.Test.YtohaoaiffneamaaWRepsOne
import Derived.Test.YtohaoaiffneamaaWInv
import Derived.Test.YtohaoaiffneamaaWInvWords
import Derived.Test.YtohaoaiffneamaaWGuard
import Derived.Test.YtohaoaiffneamaaWNEv
import Derived.Test.YtohaoaiffneamaaWMore
namespace Go.Proofs.Ytohaoaiffneamaa.QMetricHeights
open Go.RowKit Go.Proofs.YtohaoaiffneamaaW.PrintWords Go.Proofs.YtohaoaiffneamaaW.PrintLast Go.Proofs.YtohaoaiffneamaaW.PrintMore
attribute [local go_sem] max2_int min2_int max_two min_two max_three min_three max_four min_four   -- for this text's walks alone
set_option linter.unusedVariables false
set_option linter.unusedSimpArgs false



def errW : Option Int → Value
  | none => .nilIface
  | some c => .iface 0 (.int .i64 c)
theorem errW_none : errW none = .nilIface := rfl
theorem errW_some (c : Int) : errW (some c) = .iface 0 (.int .i64 c) := rfl

-- the values' own types

end Go.Proofs.Ytohaoaiffneamaa.QMetricHeights
