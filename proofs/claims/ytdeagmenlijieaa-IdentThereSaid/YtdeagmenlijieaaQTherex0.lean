-- PRINTED by print.py (a twelfth state) out of the translation. Not trusted: Lean checks it.
import Derived.Test.YtdeagmenlijieaaProg
import Derived.Below
import Derived.Deep.Draws
import Derived.Deep.AppendLies
import Derived.Maps.AppendAt
import Derived.OwnWalk
import Derived.Laws.BytesArg
import Derived.Laws.MakeOwn
import Derived.Laws.OwnMore
import Derived.Deep.OwnRows
import Derived.Tactics
import Derived.Lib.ConvBytes
import Derived.Laws.Slices
import Derived.WalkKit
import Derived.KernelRfl
import Derived.RowKit3
import Derived.Deep.LoopGhost
import Derived.Deep.QuietTactic
import Derived.BigQuiet
import Derived.WideLaws
import Derived.Deep.DeepCutAuto
import Derived.Deep.CutBlock
import Derived.Deep.RegionHeld3
import Derived.Laws.Rows
import Derived.Lib.AppendStr
import Derived.ArgAppend
import Derived.Laws.IdiomCopy
import Derived.OrdersHeld
import Derived.Laws.BitsLemmas
import Derived.RowKit
import Derived.WalkLawsBesides
import Derived.Lib.Hide
import Derived.Lib.Bytealg
import Derived.Lib.IndexLaws
import Derived.Lib.Strings
import Derived.Lib.Walk
import Derived.Laws.Externs
import Derived.Test.YtdeagmenlijieaaWWords
import Derived.Test.YtdeagmenlijieaaWLast
import Derived.Test.YtdeagmenlijieaaWTab
import Derived.Test.YtdeagmenlijieaaWFour
import Derived.Test.YtdeagmenlijieaaWQPut
import Derived.Test.YtdeagmenlijieaaWApart
import Derived.Test.YtdeagmenlijieaaWArr
import Derived.Test.YtdeagmenlijieaaWZeros
import Derived.Test.YtdeagmenlijieaaWFoot
import Derived.Test.YtdeagmenlijieaaWKept
import Derived.Test.YtdeagmenlijieaaWShare
import Derived.Test.YtdeagmenlijieaaWN
import Derived.Test.YtdeagmenlijieaaWFootNe
import Derived.Test.YtdeagmenlijieaaWAt
import Derived.Test.YtdeagmenlijieaaWEqStruct
import Derived.Test.YtdeagmenlijieaaWRepsOne
import Derived.Test.YtdeagmenlijieaaWInv
import Derived.Test.YtdeagmenlijieaaWInvWords
import Derived.Test.YtdeagmenlijieaaWGuard
import Derived.Test.YtdeagmenlijieaaWNEv
import Derived.Test.YtdeagmenlijieaaWMore
namespace Go.Proofs.Ytdeagmenlijieaa.QThere
open Go.RowKit Go.Proofs.YtdeagmenlijieaaW.PrintWords Go.Proofs.YtdeagmenlijieaaW.PrintLast Go.Proofs.YtdeagmenlijieaaW.PrintMore
attribute [local go_sem] max2_int min2_int max_two min_two max_three min_three max_four min_four   -- for this text's walks alone
set_option linter.unusedVariables false
set_option linter.unusedSimpArgs false



def errW : Option Int → Value
  | none => .nilIface
  | some c => .iface 0 (.int .i64 c)
theorem errW_none : errW none = .nilIface := rfl
theorem errW_some (c : Int) : errW (some c) = .iface 0 (.int .i64 c) := rfl

-- the values' own types

end Go.Proofs.Ytdeagmenlijieaa.QThere
