-- Written by a program of this work's (wip/tools/px.py over the seat's translation); Lean checks it.
import Derived.Test.YtkhmoopgjgokcaaProg
import Derived.Below
import Derived.Deep.Draws
import Derived.Deep.AppendLies
import Derived.Maps.AppendAt
import Derived.OwnWalk
import Derived.Laws.BytesArg
import Derived.Laws.MakeOwn
import Derived.Laws.OwnMore
import Derived.Deep.OwnRows
import Derived.Tactics
import Derived.Lib.ConvBytes
import Derived.Laws.Slices
import Derived.WalkKit
import Derived.KernelRfl
import Derived.RowKit3
import Derived.Deep.LoopGhost
import Derived.Deep.QuietTactic
import Derived.BigQuiet
import Derived.WideLaws
import Derived.Deep.DeepCutAuto
import Derived.Deep.CutBlock
import Derived.Deep.RegionHeld3
import Derived.Laws.Rows
import Derived.Lib.AppendStr
import Derived.ArgAppend
import Derived.Laws.IdiomCopy
import Derived.OrdersHeld
import Derived.Laws.BitsLemmas
import Derived.RowKit
import Derived.Test.YtkhmoopgjgokcaaWWords
import Derived.Test.YtkhmoopgjgokcaaWLast
import Derived.Test.YtkhmoopgjgokcaaWTab
import Derived.Test.YtkhmoopgjgokcaaWFour
import Derived.Test.YtkhmoopgjgokcaaWQPut
import Derived.Test.YtkhmoopgjgokcaaWApart
import Derived.Test.YtkhmoopgjgokcaaWArr
import Derived.Test.YtkhmoopgjgokcaaWZeros
import Derived.Test.YtkhmoopgjgokcaaWFoot
import Derived.Test.YtkhmoopgjgokcaaWKept
import Derived.Test.YtkhmoopgjgokcaaWShare
import Derived.Test.YtkhmoopgjgokcaaWN
import Derived.Test.YtkhmoopgjgokcaaWFootNe
import Derived.Test.YtkhmoopgjgokcaaWAt
import Derived.Test.YtkhmoopgjgokcaaWEqStruct
import Derived.Test.YtkhmoopgjgokcaaWRepsOne
import Derived.Test.YtkhmoopgjgokcaaWInv
import Derived.Test.YtkhmoopgjgokcaaWInvWords
import Derived.Test.YtkhmoopgjgokcaaWGuard
import Derived.Test.YtkhmoopgjgokcaaWNEv
import Derived.Test.YtkhmoopgjgokcaaWMore
namespace Go.Proofs.Ytkhmoopgjgokcaa.P
open Go.RowKit Go.Proofs.YtkhmoopgjgokcaaW.PrintWords Go.Proofs.YtkhmoopgjgokcaaW.PrintLast Go.Proofs.YtkhmoopgjgokcaaW.PrintMore
attribute [local go_sem] max2_int min2_int max_two min_two max_three min_three max_four min_four   -- for this text's walks alone
set_option linter.unusedVariables false
set_option linter.unusedSimpArgs false



def errW : Option Int → Value
  | none => .nilIface
  | some c => .iface 0 (.int .i64 c)
theorem errW_none : errW none = .nilIface := rfl
theorem errW_some (c : Int) : errW (some c) = .iface 0 (.int .i64 c) := rfl

-- the values' own types

end Go.Proofs.Ytkhmoopgjgokcaa.P
