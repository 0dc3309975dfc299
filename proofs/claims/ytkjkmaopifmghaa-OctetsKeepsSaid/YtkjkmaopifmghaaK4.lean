/- OverBytes: a lent row of bytes is written over: nothing but its block turns (plain walk). -/
import Derived.Test.YtkjkmaopifmghaaKxOctM
import Derived.Test.YtkjkmaopifmghaaKxOctKeptx2
import Derived.Test.YtkjkmaopifmghaaProg
import Derived.Below
import Derived.Deep.Draws
import Derived.Deep.AppendLies
import Derived.Maps.AppendAt
import Derived.OwnWalk
import Derived.Laws.BytesArg
import Derived.Laws.MakeOwn
import Derived.Laws.OwnMore
import Derived.Deep.OwnRows
import Derived.Tactics
import Derived.Lib.ConvBytes
import Derived.Laws.Slices
import Derived.WalkKit
import Derived.KernelRfl
import Derived.RowKit3
import Derived.Deep.LoopGhost
import Derived.Deep.QuietTactic
import Derived.BigQuiet
import Derived.WideLaws
import Derived.Deep.DeepCutAuto
import Derived.Deep.CutBlock
import Derived.Deep.RegionHeld3
import Derived.Laws.Rows
import Derived.Lib.AppendStr
import Derived.ArgAppend
import Derived.Laws.IdiomCopy
import Derived.OrdersHeld
import Derived.Laws.BitsLemmas
import Derived.RowKit
import Derived.Test.YtkjkmaopifmghaaWWords
import Derived.Test.YtkjkmaopifmghaaWLast
import Derived.Test.YtkjkmaopifmghaaWTab
import Derived.Test.YtkjkmaopifmghaaWFour
import Derived.Test.YtkjkmaopifmghaaWQPut
import Derived.Test.YtkjkmaopifmghaaWApart
import Derived.Test.YtkjkmaopifmghaaWArr
import Derived.Test.YtkjkmaopifmghaaWZeros
import Derived.Test.YtkjkmaopifmghaaWFoot
import Derived.Test.YtkjkmaopifmghaaWKept
import Derived.Test.YtkjkmaopifmghaaWShare
import Derived.Test.YtkjkmaopifmghaaWN
import Derived.Test.YtkjkmaopifmghaaWFootNe
import Derived.Test.YtkjkmaopifmghaaWAt
import Derived.Test.YtkjkmaopifmghaaWEqStruct
import Derived.Test.YtkjkmaopifmghaaWRepsOne
import Derived.Test.YtkjkmaopifmghaaWInv
import Derived.Test.YtkjkmaopifmghaaWInvWords
import Derived.Test.YtkjkmaopifmghaaWGuard
import Derived.Test.YtkjkmaopifmghaaWNEv
import Derived.Test.YtkjkmaopifmghaaWMore
namespace Go.Proofs.Ytkjkmaopifmghaa.Oct
open Go.RowKit Go.Proofs.YtkjkmaopifmghaaW.PrintWords Go.Proofs.YtkjkmaopifmghaaW.PrintLast Go.Proofs.YtkjkmaopifmghaaW.PrintMore
set_option linter.unusedVariables false
set_option linter.unusedSimpArgs false
set_option maxRecDepth 100000
theorem row_cell {w : World} {g : Nat} {cur : Array Value} {T : Nat} (h : w.heap[g]? = some (.cells cur T (0, 0))) {j : Nat} (hj : j < cur.size) : w.cell? ⟨g, j, none⟩ = some cur[j] ∧ w.frozen? ⟨g, j, none⟩ = false := by
  constructor
  · simp [World.cell?, h, hj]
  · simp [World.frozen?, h]
theorem row_set {w : World} {g : Nat} {cur : Array Value} {T : Nat} (h : w.heap[g]? = some (.cells cur T (0, 0))) (j : Nat) (u : Value) : ∃ cur2 : Array Value, (w.setCell ⟨g, j, none⟩ u).heap[g]? = some (.cells cur2 T (0, 0)) ∧ cur2.size = cur.size := by
  refine ⟨cur.setIfInBounds j u, ?_, by simp⟩
  simp only [World.setCell, h]
  rw [Array.getElem?_modify]
  simp [h]
/-- Block g holds a row of so many cells, and nothing else than it has turned. -/
def OverRel (w : World) (g cap : Nat) (w' : World) : Prop := (∃ cur : Array Value, w'.heap[g]? = some (.cells cur 5 (0, 0)) ∧ cur.size = cap) ∧ Fr w w' (fun k => k = g)
set_option maxHeartbeats 1000000 in
theorem Over_calls (w : World) (g cap n : Nat) (cur0 : Array Value) (hb : w.heap[g]? = some (.cells cur0 5 (0, 0))) (hs : cur0.size = cap) (hn : n + 24 ≤ cap) (hcap : cap ≤ 9223372036854775807) :
    Calls Try.prog 20 #[.slice (some ⟨g, 0, none⟩) n cap] w fun e w' => e = .returned (.tuple #[]) ∧ Fr w w' (fun k => k = g) := by
  have H0 : Aside0 (OverRel w g cap w) := ⟨⟨cur0, hb, hs⟩, Fr.refl _ _⟩
  have hwr : wrap64 ((n : Int) + 24) = ((n + 24 : Nat) : Int) := by unfold wrap64; omega
  obtain ⟨i, hi, _, hsz, _⟩ := info_parts info5
  have hcut : ∀ W : World, (Instr.slice 22 (.slice (some ⟨g, 0, none⟩) n cap) none (some (.int .i64 ((n + 24 : Nat) : Int))) none).run Try.prog W = .ok (.slice (some ⟨g, 0, none⟩) (n + 24) cap) W :=
    OctKept.cut_beyond (P := Try.prog) 22 5 .i64 Try.underlying22 hi (some ⟨g, 0, none⟩) n cap ((n + 24 : Nat) : Int) (by omega) (by omega)
  obtain ⟨m, hm⟩ : ∃ m, m = n + 24 := ⟨_, rfl⟩
  rw [← hm] at hwr hcut hn
  have hm' := hm.symm
  have HW := Aside0.mk hwr
  have hw2 : (n : Int) + 24 = (m : Int) := by omega
  clear hb hs hi hsz hm hm' hwr
  go_enter Try.func20, Try.ntmps20
  go_wp2
  go_loopg [3] (m + 1) (fun kq v3 w' => ∃ j : Nat, v3 = .int .i64 (j : Int) ∧ Aside0 (kq + j = m + 1) ∧ Aside0 (j ≤ m) ∧ Aside0 (OverRel w g cap w'))
  case atStart => exact ⟨0, rfl, ⟨rfl⟩, ⟨Nat.zero_le _⟩, H0⟩
  case round =>
    obtain ⟨j, rfl, HK, HJ, HO⟩ := hrel
    cases gk with
    | zero => exact absurd HK.out (by have := HJ.out; omega)
    | succ k1 =>
      by_cases hlt : j < m
      · obtain ⟨v, hv⟩ : ∃ v, OctKept.latchkeykit_markByte.f 2 (j : Int) = some v := ⟨_, rfl⟩
        have HV := Aside0.mk hv
        obtain ⟨⟨cur, hcur, hcs⟩, hfr⟩ := HO.out
        have hjc : j < cur.size := by omega
        obtain ⟨hcell, hfz⟩ := row_cell hcur hjc
        generalize cur[j] = z at hcell
        have hji : (0 : Int) ≤ (j : Int) := by omega
        have hjm : (j : Int) < (m : Int) := by omega
        have hw3 : wrap64 ((j : Int) + 1) = ((j + 1 : Nat) : Int) := by unfold wrap64; omega
        have HCUR := Aside0.mk hcur
        have HCS := Aside0.mk hcs
        have HFR := Aside0.mk hfr
        have HW3 := Aside0.mk hw3
        clear hv hcur hcs hfr hw3 hjc
        go_wp2_with (go_at_call 49; go_loud (refine (OctKept.latchkeykit_markByte.calls 2 (j : Int) v _ HV.out).mono ?_); rintro e1 w2 ⟨rfl, ⟨m2, rfl⟩⟩)
        go_roundg k1
        case measure => omega
        case rel =>
          refine ⟨j + 1, by first | rfl | (rw [← HW3.out]), ⟨by have := HK.out; omega⟩, ⟨by omega⟩, ⟨?_⟩⟩
          obtain ⟨cur2, h2, h3⟩ := row_set (w := wr.drewN m2) (g := g) HCUR.out j (.int .u8 v)
          exact ⟨⟨cur2, h2, h3.trans HCS.out⟩, (HFR.out.then_ (Fr.drewN _ m2 (fun _ => False)) (fun _ h => h.elim)).then_ (Fr.set j _) (fun _ h => .inl h)⟩
      · have hd : decide ((j : Int) < (m : Int)) = false := decide_eq_false (by omega)
        go_wp2
        (try simp only [Exit.inBlock, Exit.then])
        refine ⟨rfl, _, res0 rfl _ _ _, ?_⟩
        exact ⟨rfl, HO.out.2⟩
end Go.Proofs.Ytkjkmaopifmghaa.Oct

namespace Go.Proofs.Ytkjkmaopifmghaa.OctLent
open Go.RowKit Go.Proofs.YtkjkmaopifmghaaW.PrintWords Go.Proofs.YtkjkmaopifmghaaW.PrintLast Go.Proofs.YtkjkmaopifmghaaW.PrintMore
attribute [local go_sem] max2_int min2_int max_two min_two max_three min_three max_four min_four   -- for this text's walks alone
set_option linter.unusedVariables false
set_option linter.unusedSimpArgs false



def errW : Option Int → Value
  | none => .nilIface
  | some c => .iface 0 (.int .i64 c)
theorem errW_none : errW none = .nilIface := rfl
theorem errW_some (c : Int) : errW (some c) = .iface 0 (.int .i64 c) := rfl

theorem info5 : (Try.prog.info? 5).map (fun i => (i.zero, i.size, i.bytes)) = some (some (.int .u8 0), 1, 1) := by kernel_rfl
-- the values' own types

end Go.Proofs.Ytkjkmaopifmghaa.OctLent
