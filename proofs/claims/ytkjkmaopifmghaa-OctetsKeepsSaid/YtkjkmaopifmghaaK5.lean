/- What is lent, and whether it is kept: plain Lean. -/
import Derived.Test.YtkjkmaopifmghaaKxPureArmor
import Derived.Test.YtkjkmaopifmghaaKxOctLentx1
import Derived.Test.YtkjkmaopifmghaaKxOctKeptx2
import Derived.Test.YtkjkmaopifmghaaK4
import Derived.Test.YtkjkmaopifmghaaProg
import Derived.Below
import Derived.Deep.Draws
import Derived.Deep.AppendLies
import Derived.Maps.AppendAt
import Derived.OwnWalk
import Derived.Laws.BytesArg
import Derived.Laws.MakeOwn
import Derived.Laws.OwnMore
import Derived.Deep.OwnRows
import Derived.Tactics
import Derived.Lib.ConvBytes
import Derived.Laws.Slices
import Derived.WalkKit
import Derived.KernelRfl
import Derived.RowKit3
import Derived.Deep.LoopGhost
import Derived.Deep.QuietTactic
import Derived.BigQuiet
import Derived.WideLaws
import Derived.Deep.DeepCutAuto
import Derived.Deep.CutBlock
import Derived.Deep.RegionHeld3
import Derived.Laws.Rows
import Derived.Lib.AppendStr
import Derived.ArgAppend
import Derived.Laws.IdiomCopy
import Derived.OrdersHeld
import Derived.Laws.BitsLemmas
import Derived.RowKit
import Derived.Test.YtkjkmaopifmghaaWWords
import Derived.Test.YtkjkmaopifmghaaWLast
import Derived.Test.YtkjkmaopifmghaaWTab
import Derived.Test.YtkjkmaopifmghaaWFour
import Derived.Test.YtkjkmaopifmghaaWQPut
import Derived.Test.YtkjkmaopifmghaaWApart
import Derived.Test.YtkjkmaopifmghaaWArr
import Derived.Test.YtkjkmaopifmghaaWZeros
import Derived.Test.YtkjkmaopifmghaaWFoot
import Derived.Test.YtkjkmaopifmghaaWKept
import Derived.Test.YtkjkmaopifmghaaWShare
import Derived.Test.YtkjkmaopifmghaaWN
import Derived.Test.YtkjkmaopifmghaaWFootNe
import Derived.Test.YtkjkmaopifmghaaWAt
import Derived.Test.YtkjkmaopifmghaaWEqStruct
import Derived.Test.YtkjkmaopifmghaaWRepsOne
import Derived.Test.YtkjkmaopifmghaaWInv
import Derived.Test.YtkjkmaopifmghaaWInvWords
import Derived.Test.YtkjkmaopifmghaaWGuard
import Derived.Test.YtkjkmaopifmghaaWNEv
import Derived.Test.YtkjkmaopifmghaaWMore
namespace Go.Proofs.Ytkjkmaopifmghaa.PureLent
open Go.RowKit Go.Proofs.YtkjkmaopifmghaaW.PrintWords Go.Proofs.YtkjkmaopifmghaaW.PrintLast Go.Proofs.YtkjkmaopifmghaaW.PrintMore Go.Proofs.Ytkjkmaopifmghaa.PureArmor
set_option linter.unusedVariables false
set_option linter.unusedSimpArgs false
abbrev mkv (x : Int) : Int := ((IntKind.u64.wrap ((IntKind.u64.wrap (wrap64 ((wrap64 (1000003 * (wrap64 (1 + 7)))) + x))) * 11400714819323198485)) / 72057594037927936) % 256
def marksTo (n : Nat) : List Int := (List.range n).map fun i => mkv (i : Nat)
theorem marks_len (n : Nat) : (marksTo n).length = n := by simp [marksTo]
theorem marks_succ (n : Nat) : marksTo (n + 1) = marksTo n ++ [mkv (n : Nat)] := by simp [marksTo, List.range_succ]
theorem marks_get (n i : Nat) (h : i < (marksTo n).length) : (marksTo n)[i] = mkv (i : Nat) := by simp [marksTo]
theorem lent_marks (l : List Int) (hl : l.length ≤ 140737488351232) : ∀ (d i k : Nat), i + d = 24 → d < k → OctLent.latchkeykit_LentBytes.l1 k l (l ++ marksTo i) (i : Int) = some (l ++ marksTo 24) := by
  intro d
  induction d with
  | zero =>
    intro i k hi hk
    obtain ⟨k, rfl⟩ : ∃ j, k = j + 1 := ⟨k - 1, by omega⟩
    obtain rfl : i = 24 := by omega
    have := marks_len 24
    simp only [OctLent.latchkeykit_LentBytes.l1]
    rw [if_neg (by decide), if_pos (by omega), if_pos (by rw [List.length_append]; omega)]
  | succ d ih =>
    intro i k hi hk
    obtain ⟨k, rfl⟩ : ∃ j, k = j + 1 := ⟨k - 1, by omega⟩
    have hm := marks_len i
    have E1 : Aside0 (wrap64 ((i : Int) + 1) = ((i + 1 : Nat) : Int)) := ⟨by rw [wrap64_small (by omega) (by omega)]; rfl⟩
    have h1 : OctLent.latchkeykit_markByte.f 1 (i : Int) = some (mkv (i : Int)) := rfl
    simp only [OctLent.latchkeykit_LentBytes.l1]
    rw [if_pos (by omega), h1, Option.bind_some, if_pos (by rw [List.length_append]; omega), E1.out, List.append_assoc, ← marks_succ]
    exact ih (i + 1) k (by omega) (by omega)
theorem lent_from (l : List Int) (hl : l.length ≤ 140737488351232) : ∀ (d i k : Nat), i + d = l.length → d + 30 < k → OctLent.latchkeykit_LentBytes.l0 k l (l.take i) (i : Int) = some (l ++ marksTo 24) := by
  intro d
  induction d with
  | zero =>
    intro i k hi hk
    obtain ⟨k, rfl⟩ : ∃ j, k = j + 1 := ⟨k - 1, by omega⟩
    have := lent_marks l hl 24 0 k (by omega) (by omega)
    simp only [OctLent.latchkeykit_LentBytes.l0]
    rw [if_neg (by omega), List.take_of_length_le (by omega)]
    have e : marksTo 0 = [] := rfl
    rw [e, List.append_nil] at this
    exact this
  | succ d ih =>
    intro i k hi hk
    obtain ⟨k, rfl⟩ : ∃ j, k = j + 1 := ⟨k - 1, by omega⟩
    have hin : i < l.length := by omega
    have E1 : Aside0 (wrap64 ((i : Int) + 1) = ((i + 1 : Nat) : Int)) := ⟨by rw [wrap64_small (by omega) (by omega)]; rfl⟩
    simp only [OctLent.latchkeykit_LentBytes.l0]
    rw [if_pos (by omega), if_pos (by omega), if_pos (by rw [List.length_take]; omega), rd_nat hin, ← List.take_succ_eq_append_getElem hin, E1.out]
    exact ih (i + 1) k (by omega) (by omega)
theorem lent_f (l : List Int) (hl : l.length ≤ 140737488351232) {k : Nat} (hk : l.length + 30 < k) : OctLent.latchkeykit_LentBytes.f k l = some (l ++ marksTo 24) := lent_from l hl l.length 0 k (by omega) hk
theorem kept_from (l : List Int) (hl : l.length ≤ 140737488351232) : ∀ (d i k : Nat), i + d = l.length + 24 → d < k → OctKept.latchkeykit_KeptBytes.l0 k l (l ++ marksTo 24) (i : Int) = some true := by
  have hm := marks_len 24
  have hL : (l ++ marksTo 24).length = l.length + 24 := by rw [List.length_append, hm]
  intro d
  induction d with
  | zero =>
    intro i k hi hk
    obtain ⟨k, rfl⟩ : ∃ j, k = j + 1 := ⟨k - 1, by omega⟩
    simp only [OctKept.latchkeykit_KeptBytes.l0]
    rw [if_neg (by omega)]
  | succ d ih =>
    intro i k hi hk
    obtain ⟨k, rfl⟩ : ∃ j, k = j + 1 := ⟨k - 1, by omega⟩
    have hnext := ih (i + 1) k (by omega) (by omega)
    have E1 : Aside0 (wrap64 ((i : Int) + 1) = ((i + 1 : Nat) : Int)) := ⟨by rw [wrap64_small (by omega) (by omega)]; rfl⟩
    have hF : i < (l ++ marksTo 24).length := by omega
    by_cases hin : i < l.length
    · simp only [OctKept.latchkeykit_KeptBytes.l0]
      rw [if_pos (by omega), if_pos (by omega), if_pos (by omega), rd_nat hF, rd_nat hin, List.getElem_append_left hin, if_pos rfl, if_neg (by omega), E1.out]
      exact hnext
    · have E2 : Aside0 (wrap64 ((i : Int) - (l.length : Int)) = ((i - l.length : Nat) : Int)) := ⟨by rw [wrap64_small (by omega) (by omega)]; omega⟩
      have h1 : OctKept.latchkeykit_markByte.f 1 ((i - l.length : Nat) : Int) = some (mkv ((i - l.length : Nat) : Int)) := rfl
      simp only [OctKept.latchkeykit_KeptBytes.l0]
      rw [if_pos (by omega), if_neg (by omega), if_pos (by omega), if_pos (by omega), E2.out, h1, Option.bind_some, rd_nat hF, List.getElem_append_right (by omega), marks_get, if_pos rfl, E1.out]
      exact hnext
theorem kept_f (l : List Int) (hl : l.length ≤ 140737488351232) {k : Nat} (hk : l.length + 24 < k) : OctKept.latchkeykit_KeptBytes.f k (l ++ marksTo 24) l = some true := by
  have hm := marks_len 24
  have E1 : Aside0 (wrap64 ((l.length : Int) + 24) = ((l.length + 24 : Nat) : Int)) := ⟨by rw [wrap64_small (by omega) (by omega)]; rfl⟩
  unfold OctKept.latchkeykit_KeptBytes.f
  rw [if_pos (by rw [List.length_append, hm]; rfl), E1.out, if_pos (by omega), if_pos (by rw [List.length_append, hm]; omega)]
  exact kept_from l hl (l.length + 24) 0 k (by omega) hk
end Go.Proofs.Ytkjkmaopifmghaa.PureLent

namespace Go.Proofs.Ytkjkmaopifmghaa.Oct
open Go.RowKit Go.Proofs.YtkjkmaopifmghaaW.PrintWords Go.Proofs.YtkjkmaopifmghaaW.PrintLast Go.Proofs.YtkjkmaopifmghaaW.PrintMore
set_option linter.unusedVariables false
set_option linter.unusedSimpArgs false
set_option maxRecDepth 100000
theorem lend_block {w : World} {base : Nat} {v : Value} {l : List Int} (h : U8.R 5 w base (fun _ => True) v l) (hl : 0 < l.length) : ∃ g cap cur, v = .slice (some ⟨g, 0, none⟩) l.length cap ∧ base ≤ g ∧ g < w.heap.size ∧ w.heap[g]? = some (.cells cur 5 (0, 0)) ∧ cur.size = cap ∧ l.length ≤ cap ∧ cap ≤ 9223372036854775807 := by
  have ho := Kd.own_of_R h
  rcases ho.2 with ⟨_, hn⟩ | ⟨g, cap, cur, hv, hb, hg, hnc, hcm, hcs, _⟩
  · omega
  · exact ⟨g, cap, cur, hv, hb, blk_lt hg, hg, by omega, hnc, by simpa [maxLen] using hcm⟩
theorem C_take {w : World} {A : Option Addr} {F l : List Int} (h : U8.C w A F.length F) (hl : F.take l.length = l) (hle : l.length ≤ F.length) : U8.C w A l.length l := by
  have := ReadsInt.take_ (k := .u8) (Kd.reads_of_C (d := (0 : Int)) h) l.length hle
  rw [hl] at this
  exact Kd.C_of_reads (enc := Value.int .u8) (d := (0 : Int)) this
/-- The bytes raw, lent in block g. -/
structure LentAt (w : World) (g cap : Nat) (raw : List Int) : Prop where
  blk : ∃ cur : Array Value, w.heap[g]? = some (.cells cur 5 (0, 0)) ∧ cur.size = cap
  hcap : raw.length + 24 ≤ cap ∧ cap ≤ 9223372036854775807
  all : U8.C w (some ⟨g, 0, none⟩) (raw ++ PureLent.marksTo 24).length (raw ++ PureLent.marksTo 24)
theorem LentAt.raw {w : World} {g cap : Nat} {raw : List Int} (h : LentAt w g cap raw) : U8.C w (some ⟨g, 0, none⟩) raw.length raw :=
  C_take h.all (by simp) (by rw [List.length_append]; omega)
theorem LentAt.fr {w w' : World} {g cap : Nat} {raw : List Int} {T : Nat → Prop} (h : LentAt w g cap raw) (hk : Kept w w' T) (hn : ¬ T g) : LentAt w' g cap raw := by
  obtain ⟨cur, h1, h2⟩ := h.blk
  exact ⟨⟨cur, blk_kept h1 hk hn, h2⟩, h.hcap, C_kept h.all hk (fun ad ha => by obtain rfl := Option.some.inj ha; exact hn)⟩
theorem LentAt.below {w w' : World} {g cap : Nat} {raw : List Int} (h : LentAt w g cap raw) (hb : Below w.heap.size w w') : LentAt w' g cap raw := h.fr (Kept.of_below hb (fun _ => False)) (fun h => h)
theorem lent_calls (w : World) (A : Option Addr) (c : Nat) (raw : List Int) (hC : U8.C w A raw.length raw) (hc : raw.length ≤ c) (hl : raw.length ≤ 140737488351232) :
    Calls Try.prog 17 #[.slice A raw.length c] w fun e w' => ∃ g cap, e = .returned (.slice (some ⟨g, 0, none⟩) raw.length cap) ∧ w.heap.size ≤ g ∧ LentAt w' g cap raw ∧ Below w.heap.size w w' := by
  have hm := PureLent.marks_len 24
  have hL : (raw ++ PureLent.marksTo 24).length = raw.length + 24 := by rw [List.length_append, hm]
  refine (OctLent.latchkeykit_LentBytes.calls (raw.length + 60) A c raw (raw ++ PureLent.marksTo 24) w hC hc (PureLent.lent_f raw hl (by omega))).mono ?_
  rintro e w' ⟨A1, c1, rfl, q1, b1⟩
  obtain ⟨g1, cap1, cur1, hv1, gb1, gl1, hg1, hs1, hc1, hm1⟩ := lend_block q1 (by omega)
  obtain ⟨hA1, hlen1, hcc1⟩ := Value.slice.inj hv1
  subst hA1
  subst hcc1
  exact ⟨g1, c1, rfl, gb1, ⟨⟨cur1, hg1, hs1⟩, ⟨by omega, hm1⟩, (Kd.R_reads' q1).2.2⟩, b1⟩
theorem kept_calls (w : World) (g cap : Nat) (A : Option Addr) (c : Nat) (raw : List Int) (h : LentAt w g cap raw) (hC : U8.C w A raw.length raw) (hc : raw.length ≤ c) (hl : raw.length ≤ 140737488351232) :
    Calls Try.prog 19 #[.slice (some ⟨g, 0, none⟩) raw.length cap, .slice A raw.length c] w fun e w' => e = .returned (.bool true) ∧ Below w.heap.size w w' := by
  have hm := PureLent.marks_len 24
  have hL : (raw ++ PureLent.marksTo 24).length = raw.length + 24 := by rw [List.length_append, hm]
  refine (OctKept.latchkeykit_KeptBytes.calls (raw.length + 60) (some ⟨g, 0, none⟩) cap (raw ++ PureLent.marksTo 24) A c raw true w h.all (by have := h.hcap; omega) hC hc (PureLent.kept_f raw hl (by omega))).mono ?_
  rintro e w' ⟨rfl, b⟩
  exact ⟨rfl, b⟩
theorem over_calls (w : World) (g cap : Nat) (raw : List Int) (h : LentAt w g cap raw) :
    Calls Try.prog 20 #[.slice (some ⟨g, 0, none⟩) raw.length cap] w fun e w' => e = .returned (.tuple #[]) ∧ Fr w w' (fun k => k = g) := by
  obtain ⟨cur, h1, h2⟩ := h.blk
  exact Over_calls w g cap raw.length cur h1 h2 h.hcap.1 h.hcap.2
end Go.Proofs.Ytkjkmaopifmghaa.Oct

namespace Go.Proofs.Ytkjkmaopifmghaa.OctUn
open Go.RowKit Go.Proofs.YtkjkmaopifmghaaW.PrintWords Go.Proofs.YtkjkmaopifmghaaW.PrintLast Go.Proofs.YtkjkmaopifmghaaW.PrintMore
attribute [local go_sem] max2_int min2_int max_two min_two max_three min_three max_four min_four   -- for this text's walks alone
set_option linter.unusedVariables false
set_option linter.unusedSimpArgs false



def errW : Option Int → Value
  | none => .nilIface
  | some c => .iface 0 (.int .i64 c)
theorem errW_none : errW none = .nilIface := rfl
theorem errW_some (c : Int) : errW (some c) = .iface 0 (.int .i64 c) := rfl

theorem info5 : (Try.prog.info? 5).map (fun i => (i.zero, i.size, i.bytes)) = some (some (.int .u8 0), 1, 1) := by kernel_rfl
-- the values' own types

end Go.Proofs.Ytkjkmaopifmghaa.OctUn
