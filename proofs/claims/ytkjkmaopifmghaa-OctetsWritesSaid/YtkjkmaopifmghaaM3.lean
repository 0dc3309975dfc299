-- PRINTED by print.py (a twelfth state) out of the translation. Not trusted: Lean checks it.
import Derived.Test.YtkjkmaopifmghaaProg
import Derived.Below
import Derived.Deep.Draws
import Derived.Deep.AppendLies
import Derived.Maps.AppendAt
import Derived.OwnWalk
import Derived.Laws.BytesArg
import Derived.Laws.MakeOwn
import Derived.Laws.OwnMore
import Derived.Deep.OwnRows
import Derived.Tactics
import Derived.Lib.ConvBytes
import Derived.Laws.Slices
import Derived.WalkKit
import Derived.KernelRfl
import Derived.RowKit3
import Derived.Deep.LoopGhost
import Derived.Deep.QuietTactic
import Derived.BigQuiet
import Derived.WideLaws
import Derived.Deep.DeepCutAuto
import Derived.Deep.CutBlock
import Derived.Deep.RegionHeld3
import Derived.Laws.Rows
import Derived.Lib.AppendStr
import Derived.ArgAppend
import Derived.Laws.IdiomCopy
import Derived.OrdersHeld
import Derived.Laws.BitsLemmas
import Derived.RowKit
import Derived.Test.YtkjkmaopifmghaaWWords
import Derived.Test.YtkjkmaopifmghaaWLast
import Derived.Test.YtkjkmaopifmghaaWTab
import Derived.Test.YtkjkmaopifmghaaWFour
import Derived.Test.YtkjkmaopifmghaaWQPut
import Derived.Test.YtkjkmaopifmghaaWApart
import Derived.Test.YtkjkmaopifmghaaWArr
import Derived.Test.YtkjkmaopifmghaaWZeros
import Derived.Test.YtkjkmaopifmghaaWFoot
import Derived.Test.YtkjkmaopifmghaaWKept
import Derived.Test.YtkjkmaopifmghaaWShare
import Derived.Test.YtkjkmaopifmghaaWN
import Derived.Test.YtkjkmaopifmghaaWFootNe
import Derived.Test.YtkjkmaopifmghaaWAt
import Derived.Test.YtkjkmaopifmghaaWEqStruct
import Derived.Test.YtkjkmaopifmghaaWRepsOne
import Derived.Test.YtkjkmaopifmghaaWInv
import Derived.Test.YtkjkmaopifmghaaWInvWords
import Derived.Test.YtkjkmaopifmghaaWGuard
import Derived.Test.YtkjkmaopifmghaaWNEv
import Derived.Test.YtkjkmaopifmghaaWMore
namespace Go.Proofs.Ytkjkmaopifmghaa.OctKept
open Go.RowKit Go.Proofs.YtkjkmaopifmghaaW.PrintWords Go.Proofs.YtkjkmaopifmghaaW.PrintLast Go.Proofs.YtkjkmaopifmghaaW.PrintMore
attribute [local go_sem] max2_int min2_int max_two min_two max_three min_three max_four min_four   -- for this text's walks alone
set_option linter.unusedVariables false
set_option linter.unusedSimpArgs false



def errW : Option Int → Value
  | none => .nilIface
  | some c => .iface 0 (.int .i64 c)
theorem errW_none : errW none = .nilIface := rfl
theorem errW_some (c : Int) : errW (some c) = .iface 0 (.int .i64 c) := rfl

theorem info5 : (Try.prog.info? 5).map (fun i => (i.zero, i.size, i.bytes)) = some (some (.int .u8 0), 1, 1) := by kernel_rfl
-- the values' own types

end Go.Proofs.Ytkjkmaopifmghaa.OctKept

namespace Go.Proofs.Ytkjkmaopifmghaa.OctKept
open Go.RowKit Go.Proofs.YtkjkmaopifmghaaW.PrintWords Go.Proofs.YtkjkmaopifmghaaW.PrintLast Go.Proofs.YtkjkmaopifmghaaW.PrintMore
attribute [local go_sem] max2_int min2_int max_two min_two max_three min_three max_four min_four   -- for this text's walks alone
set_option linter.unusedVariables false
set_option linter.unusedSimpArgs false

/-! ### latchkeykit_mark: function 68 -/
def latchkeykit_mark.f (a0 : Int) (a1 : Int) : Option (Int) := some (wrap64 ((wrap64 (1000003 * (wrap64 (a0 + 7)))) + a1))
set_option maxHeartbeats 8000000 in
set_option maxRecDepth 100000 in
theorem latchkeykit_mark.calls (a0 : Int) (a1 : Int) (r : Int) (w : World) (h : latchkeykit_mark.f a0 a1 = some r) :
    Calls Try.prog 68 #[.int .i64 a0, .int .i64 a1] w fun e w' => e = .returned (.int .i64 r) ∧ Drawn0 w w' := by
  have H : (some (wrap64 ((wrap64 (1000003 * (wrap64 (a0 + 7)))) + a1))) = some r := h
  clear h
  obtain rfl := Option.some.inj H
  go_enter Try.func68, Try.ntmps68
  go_wp2
  go_ret
  exact ⟨by first | rfl | (simp; done) | (simp [*]; done), by repeat (first | exact Drawn0.refl _ | apply Drawn0.step)⟩

/-! ### latchkeykit_markByte: function 49 -/
def latchkeykit_markByte.f (a0 : Int) (a1 : Int) : Option (Int) := (latchkeykit_mark.f a0 a1).bind fun t101 => (some (((IntKind.u64.wrap ((IntKind.u64.wrap (t101)) * 11400714819323198485)) / 72057594037927936) % 256))
set_option maxHeartbeats 8000000 in
set_option maxRecDepth 100000 in
theorem latchkeykit_markByte.calls (a0 : Int) (a1 : Int) (r : Int) (w : World) (h : latchkeykit_markByte.f a0 a1 = some r) :
    Calls Try.prog 49 #[.int .i64 a0, .int .i64 a1] w fun e w' => e = .returned (.int .u8 r) ∧ Drawn0 w w' := by
  have H : ((latchkeykit_mark.f a0 a1).bind fun t101 => (some (((IntKind.u64.wrap ((IntKind.u64.wrap (t101)) * 11400714819323198485)) / 72057594037927936) % 256))) = some r := h
  clear h
  replace H := Option.bind_eq_some_iff.mp H
  obtain ⟨t101, A30, H⟩ := H
  replace H : (some (((IntKind.u64.wrap ((IntKind.u64.wrap (t101)) * 11400714819323198485)) / 72057594037927936) % 256)) = some r := H
  have A3 := Aside0.mk A30
  clear A30
  obtain rfl := Option.some.inj H
  go_enter Try.func49, Try.ntmps49
  go_wp2_with (first | ((with_reducible refine gate_callee (f := 68) rfl ?_); refine goesL_ (some 7) rfl rfl Try.func68 (by kernel_rfl) rfl #[.int .i64 a0, .int .i64 a1] rfl (by (try simp only [List.map_toArray, List.map_cons, List.map_nil]); first | done | rfl | (simp only [List.length_drop, List.length_take]; rfl)) ?_; (with_reducible refine (latchkeykit_mark.calls a0 a1 t101 _ A3.out).mono ?_); rintro e w' ⟨rfl, ⟨nd, rfl⟩⟩; refine ⟨_, rfl, ?_⟩))
  go_ret
  exact ⟨by first | rfl | (simp; done) | (simp [*]; done), by repeat (first | exact Drawn0.refl _ | apply Drawn0.step)⟩

end Go.Proofs.Ytkjkmaopifmghaa.OctKept
