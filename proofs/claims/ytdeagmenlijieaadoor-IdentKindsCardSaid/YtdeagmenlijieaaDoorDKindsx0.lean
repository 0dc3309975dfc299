-- PRINTED by print.py (a twelfth state) out of the translation. Not trusted: Lean checks it.
import Derived.Test.YtdeagmenlijieaaDoorProg
import Derived.Below
import Derived.Deep.Draws
import Derived.Deep.AppendLies
import Derived.Maps.AppendAt
import Derived.OwnWalk
import Derived.Laws.BytesArg
import Derived.Laws.MakeOwn
import Derived.Laws.OwnMore
import Derived.Deep.OwnRows
import Derived.Tactics
import Derived.Lib.ConvBytes
import Derived.Laws.Slices
import Derived.WalkKit
import Derived.KernelRfl
import Derived.RowKit3
import Derived.Deep.LoopGhost
import Derived.Deep.QuietTactic
import Derived.BigQuiet
import Derived.WideLaws
import Derived.Deep.DeepCutAuto
import Derived.Deep.CutBlock
import Derived.Deep.RegionHeld3
import Derived.Laws.Rows
import Derived.Lib.AppendStr
import Derived.ArgAppend
import Derived.Laws.IdiomCopy
import Derived.OrdersHeld
import Derived.Laws.BitsLemmas
import Derived.RowKit
import Derived.WalkLawsBesides
import Derived.Lib.Hide
import Derived.Lib.Bytealg
import Derived.Lib.IndexLaws
import Derived.Lib.Strings
import Derived.Lib.Walk
import Derived.Laws.Externs
import Derived.Test.YtdeagmenlijieaaDoorGL
import Derived.Test.YtdeagmenlijieaaDoorWWords
import Derived.Test.YtdeagmenlijieaaDoorWLast
import Derived.Test.YtdeagmenlijieaaDoorWTab
import Derived.Test.YtdeagmenlijieaaDoorWFour
import Derived.Test.YtdeagmenlijieaaDoorWQPut
import Derived.Test.YtdeagmenlijieaaDoorWApart
import Derived.Test.YtdeagmenlijieaaDoorWArr
import Derived.Test.YtdeagmenlijieaaDoorWZeros
import Derived.Test.YtdeagmenlijieaaDoorWFoot
import Derived.Test.YtdeagmenlijieaaDoorWKept
import Derived.Test.YtdeagmenlijieaaDoorWShare
import Derived.Test.YtdeagmenlijieaaDoorWN
import Derived.Test.YtdeagmenlijieaaDoorWFootNe
import Derived.Test.YtdeagmenlijieaaDoorWAt
import Derived.Test.YtdeagmenlijieaaDoorWEqStruct
import Derived.Test.YtdeagmenlijieaaDoorWRepsOne
import Derived.Test.YtdeagmenlijieaaDoorWInv
import Derived.Test.YtdeagmenlijieaaDoorWInvWords
import Derived.Test.YtdeagmenlijieaaDoorWGuard
import Derived.Test.YtdeagmenlijieaaDoorWNEv
import Derived.Test.YtdeagmenlijieaaDoorWMore
namespace Go.Proofs.YtdeagmenlijieaaDoor.DKinds
open Go.RowKit Go.Proofs.YtdeagmenlijieaaDoorW.PrintWords Go.Proofs.YtdeagmenlijieaaDoorW.PrintLast Go.Proofs.YtdeagmenlijieaaDoorW.PrintMore
attribute [local go_sem] max2_int min2_int max_two min_two max_three min_three max_four min_four   -- for this text's walks alone
set_option linter.unusedVariables false
set_option linter.unusedSimpArgs false



def errW : Option Int → Value
  | none => .nilIface
  | some c => .iface 0 (.int .i64 c)
theorem errW_none : errW none = .nilIface := rfl
theorem errW_some (c : Int) : errW (some c) = .iface 0 (.int .i64 c) := rfl

-- the values' own types

end Go.Proofs.YtdeagmenlijieaaDoor.DKinds
