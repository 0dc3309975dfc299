-- PRINTED by print.py (a twelfth state) out of the translation. Not trusted: Lean checks it.
import Derived.Test.YtkjkmaopifmghaaProg
import Derived.Below
import Derived.Deep.Draws
import Derived.Deep.AppendLies
import Derived.Maps.AppendAt
import Derived.OwnWalk
import Derived.Laws.BytesArg
import Derived.Laws.MakeOwn
import Derived.Laws.OwnMore
import Derived.Deep.OwnRows
import Derived.Tactics
import Derived.Lib.ConvBytes
import Derived.Laws.Slices
import Derived.WalkKit
import Derived.KernelRfl
import Derived.RowKit3
import Derived.Deep.LoopGhost
import Derived.Deep.QuietTactic
import Derived.BigQuiet
import Derived.WideLaws
import Derived.Deep.DeepCutAuto
import Derived.Deep.CutBlock
import Derived.Deep.RegionHeld3
import Derived.Laws.Rows
import Derived.Lib.AppendStr
import Derived.ArgAppend
import Derived.Laws.IdiomCopy
import Derived.OrdersHeld
import Derived.Laws.BitsLemmas
import Derived.RowKit
import Derived.Test.YtkjkmaopifmghaaWWords
import Derived.Test.YtkjkmaopifmghaaWLast
import Derived.Test.YtkjkmaopifmghaaWTab
import Derived.Test.YtkjkmaopifmghaaWFour
import Derived.Test.YtkjkmaopifmghaaWQPut
import Derived.Test.YtkjkmaopifmghaaWApart
import Derived.Test.YtkjkmaopifmghaaWArr
import Derived.Test.YtkjkmaopifmghaaWZeros
import Derived.Test.YtkjkmaopifmghaaWFoot
import Derived.Test.YtkjkmaopifmghaaWKept
import Derived.Test.YtkjkmaopifmghaaWShare
import Derived.Test.YtkjkmaopifmghaaWN
import Derived.Test.YtkjkmaopifmghaaWFootNe
import Derived.Test.YtkjkmaopifmghaaWAt
import Derived.Test.YtkjkmaopifmghaaWEqStruct
import Derived.Test.YtkjkmaopifmghaaWRepsOne
import Derived.Test.YtkjkmaopifmghaaWInv
import Derived.Test.YtkjkmaopifmghaaWInvWords
import Derived.Test.YtkjkmaopifmghaaWGuard
import Derived.Test.YtkjkmaopifmghaaWNEv
import Derived.Test.YtkjkmaopifmghaaWMore
namespace Go.Proofs.Ytkjkmaopifmghaa.OctShort
open Go.RowKit Go.Proofs.YtkjkmaopifmghaaW.PrintWords Go.Proofs.YtkjkmaopifmghaaW.PrintLast Go.Proofs.YtkjkmaopifmghaaW.PrintMore
attribute [local go_sem] max2_int min2_int max_two min_two max_three min_three max_four min_four   -- for this text's walks alone
set_option linter.unusedVariables false
set_option linter.unusedSimpArgs false



def errW : Option Int → Value
  | none => .nilIface
  | some c => .iface 0 (.int .i64 c)
theorem errW_none : errW none = .nilIface := rfl
theorem errW_some (c : Int) : errW (some c) = .iface 0 (.int .i64 c) := rfl

-- the values' own types

end Go.Proofs.Ytkjkmaopifmghaa.OctShort
