/- What is lent, and whether it is kept: plain Lean. -/
import Derived.Test.YtkjkmaopifmghaaPureArmor
import Derived.Test.YtkjkmaopifmghaaOctLentx1
import Derived.Test.YtkjkmaopifmghaaOctKeptx2
namespace Go.Proofs.Ytkjkmaopifmghaa.PureLent
open Go.RowKit Go.Proofs.YtkjkmaopifmghaaW.PrintWords Go.Proofs.YtkjkmaopifmghaaW.PrintLast Go.Proofs.YtkjkmaopifmghaaW.PrintMore Go.Proofs.Ytkjkmaopifmghaa.PureArmor
set_option linter.unusedVariables false
set_option linter.unusedSimpArgs false
abbrev mkv (x : Int) : Int := ((IntKind.u64.wrap ((IntKind.u64.wrap (wrap64 ((wrap64 (1000003 * (wrap64 (1 + 7)))) + x))) * 11400714819323198485)) / 72057594037927936) % 256
def marksTo (n : Nat) : List Int := (List.range n).map fun i => mkv (i : Nat)
theorem marks_len (n : Nat) : (marksTo n).length = n := by simp [marksTo]
theorem marks_succ (n : Nat) : marksTo (n + 1) = marksTo n ++ [mkv (n : Nat)] := by simp [marksTo, List.range_succ]
theorem marks_get (n i : Nat) (h : i < (marksTo n).length) : (marksTo n)[i] = mkv (i : Nat) := by simp [marksTo]
theorem lent_marks (l : List Int) (hl : l.length ≤ 140737488351232) : ∀ (d i k : Nat), i + d = 24 → d < k → OctLent.latchkeykit_LentBytes.l1 k l (l ++ marksTo i) (i : Int) = some (l ++ marksTo 24) := by
  intro d
  induction d with
  | zero =>
    intro i k hi hk
    obtain ⟨k, rfl⟩ : ∃ j, k = j + 1 := ⟨k - 1, by omega⟩
    obtain rfl : i = 24 := by omega
    have := marks_len 24
    simp only [OctLent.latchkeykit_LentBytes.l1]
    rw [if_neg (by decide), if_pos (by omega), if_pos (by rw [List.length_append]; omega)]
  | succ d ih =>
    intro i k hi hk
    obtain ⟨k, rfl⟩ : ∃ j, k = j + 1 := ⟨k - 1, by omega⟩
    have hm := marks_len i
    have E1 : Aside0 (wrap64 ((i : Int) + 1) = ((i + 1 : Nat) : Int)) := ⟨by rw [wrap64_small (by omega) (by omega)]; rfl⟩
    have h1 : OctLent.latchkeykit_markByte.f 1 (i : Int) = some (mkv (i : Int)) := rfl
    simp only [OctLent.latchkeykit_LentBytes.l1]
    rw [if_pos (by omega), h1, Option.bind_some, if_pos (by rw [List.length_append]; omega), E1.out, List.append_assoc, ← marks_succ]
    exact ih (i + 1) k (by omega) (by omega)
theorem lent_from (l : List Int) (hl : l.length ≤ 140737488351232) : ∀ (d i k : Nat), i + d = l.length → d + 30 < k → OctLent.latchkeykit_LentBytes.l0 k l (l.take i) (i : Int) = some (l ++ marksTo 24) := by
  intro d
  induction d with
  | zero =>
    intro i k hi hk
    obtain ⟨k, rfl⟩ : ∃ j, k = j + 1 := ⟨k - 1, by omega⟩
    have := lent_marks l hl 24 0 k (by omega) (by omega)
    simp only [OctLent.latchkeykit_LentBytes.l0]
    rw [if_neg (by omega), List.take_of_length_le (by omega)]
    have e : marksTo 0 = [] := rfl
    rw [e, List.append_nil] at this
    exact this
  | succ d ih =>
    intro i k hi hk
    obtain ⟨k, rfl⟩ : ∃ j, k = j + 1 := ⟨k - 1, by omega⟩
    have hin : i < l.length := by omega
    have E1 : Aside0 (wrap64 ((i : Int) + 1) = ((i + 1 : Nat) : Int)) := ⟨by rw [wrap64_small (by omega) (by omega)]; rfl⟩
    simp only [OctLent.latchkeykit_LentBytes.l0]
    rw [if_pos (by omega), if_pos (by omega), if_pos (by rw [List.length_take]; omega), rd_nat hin, ← List.take_succ_eq_append_getElem hin, E1.out]
    exact ih (i + 1) k (by omega) (by omega)
theorem lent_f (l : List Int) (hl : l.length ≤ 140737488351232) {k : Nat} (hk : l.length + 30 < k) : OctLent.latchkeykit_LentBytes.f k l = some (l ++ marksTo 24) := lent_from l hl l.length 0 k (by omega) hk
theorem kept_from (l : List Int) (hl : l.length ≤ 140737488351232) : ∀ (d i k : Nat), i + d = l.length + 24 → d < k → OctKept.latchkeykit_KeptBytes.l0 k l (l ++ marksTo 24) (i : Int) = some true := by
  have hm := marks_len 24
  have hL : (l ++ marksTo 24).length = l.length + 24 := by rw [List.length_append, hm]
  intro d
  induction d with
  | zero =>
    intro i k hi hk
    obtain ⟨k, rfl⟩ : ∃ j, k = j + 1 := ⟨k - 1, by omega⟩
    simp only [OctKept.latchkeykit_KeptBytes.l0]
    rw [if_neg (by omega)]
  | succ d ih =>
    intro i k hi hk
    obtain ⟨k, rfl⟩ : ∃ j, k = j + 1 := ⟨k - 1, by omega⟩
    have hnext := ih (i + 1) k (by omega) (by omega)
    have E1 : Aside0 (wrap64 ((i : Int) + 1) = ((i + 1 : Nat) : Int)) := ⟨by rw [wrap64_small (by omega) (by omega)]; rfl⟩
    have hF : i < (l ++ marksTo 24).length := by omega
    by_cases hin : i < l.length
    · simp only [OctKept.latchkeykit_KeptBytes.l0]
      rw [if_pos (by omega), if_pos (by omega), if_pos (by omega), rd_nat hF, rd_nat hin, List.getElem_append_left hin, if_pos rfl, if_neg (by omega), E1.out]
      exact hnext
    · have E2 : Aside0 (wrap64 ((i : Int) - (l.length : Int)) = ((i - l.length : Nat) : Int)) := ⟨by rw [wrap64_small (by omega) (by omega)]; omega⟩
      have h1 : OctKept.latchkeykit_markByte.f 1 ((i - l.length : Nat) : Int) = some (mkv ((i - l.length : Nat) : Int)) := rfl
      simp only [OctKept.latchkeykit_KeptBytes.l0]
      rw [if_pos (by omega), if_neg (by omega), if_pos (by omega), if_pos (by omega), E2.out, h1, Option.bind_some, rd_nat hF, List.getElem_append_right (by omega), marks_get, if_pos rfl, E1.out]
      exact hnext
theorem kept_f (l : List Int) (hl : l.length ≤ 140737488351232) {k : Nat} (hk : l.length + 24 < k) : OctKept.latchkeykit_KeptBytes.f k (l ++ marksTo 24) l = some true := by
  have hm := marks_len 24
  have E1 : Aside0 (wrap64 ((l.length : Int) + 24) = ((l.length + 24 : Nat) : Int)) := ⟨by rw [wrap64_small (by omega) (by omega)]; rfl⟩
  unfold OctKept.latchkeykit_KeptBytes.f
  rw [if_pos (by rw [List.length_append, hm]; rfl), E1.out, if_pos (by omega), if_pos (by rw [List.length_append, hm]; omega)]
  exact kept_from l hl (l.length + 24) 0 k (by omega) hk
end Go.Proofs.Ytkjkmaopifmghaa.PureLent
