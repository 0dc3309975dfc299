/- Reader.Left, Err, End, ask and Raw of a Reader in any state (plain walks). -/
import Derived.Test.YtkjkmaopifmghaaOctNil
namespace Go.Proofs.Ytkjkmaopifmghaa.Oct
open Go.RowKit Go.Proofs.YtkjkmaopifmghaaW.PrintWords Go.Proofs.YtkjkmaopifmghaaW.PrintLast Go.Proofs.YtkjkmaopifmghaaW.PrintMore Go.Proofs.Ytkjkmaopifmghaa.OctShort
set_option linter.unusedVariables false
set_option linter.unusedSimpArgs false
variable {S : Nat → Prop}
set_option maxRecDepth 100000
theorem Reader_Left (w : World) (g : Nat) (l : List Int) (e : Int) (h : RdAt w g S l e) : Calls Try.prog 37 #[.pointer (some ⟨g, 0, none⟩)] w fun r w' => r = .returned (.int .i64 l.length) ∧ w' = w := by
  obtain ⟨A, c, h⟩ := h
  obtain ⟨h1, h2, h3, h4⟩ := h
  obtain ⟨⟨hc0, hf0⟩, hc1, hf1⟩ := blk_two h1
  clear h1 h2 h3 h4
  go_enter Try.func37, Try.ntmps37
  go_wp2
  go_ret
  exact ⟨rfl, rfl⟩
theorem Reader_Err (w : World) (g : Nat) (l : List Int) (e : Int) (h : RdAt w g S l e) : Calls Try.prog 36 #[.pointer (some ⟨g, 0, none⟩)] w fun r w' => r = .returned (.int .i64 e) ∧ w' = w := by
  obtain ⟨A, c, h⟩ := h
  obtain ⟨h1, h2, h3, h4⟩ := h
  obtain ⟨⟨hc0, hf0⟩, hc1, hf1⟩ := blk_two h1
  clear h1 h2 h3 h4
  go_enter Try.func36, Try.ntmps36
  go_wp2
  go_ret
  exact ⟨rfl, rfl⟩
def endOf (l : List Int) (e : Int) : Int := if e = 0 ∧ l ≠ [] then 23 else e
theorem Reader_End (w : World) (g : Nat) (l : List Int) (e : Int) (h : RdAt w g S l e) : Calls Try.prog 39 #[.pointer (some ⟨g, 0, none⟩)] w fun r w' => r = .returned (.int .i64 (endOf l e)) ∧ w' = w := by
  obtain ⟨A, c, h⟩ := h
  obtain ⟨h1, h2, h3, h4⟩ := h
  obtain ⟨⟨hc0, hf0⟩, hc1, hf1⟩ := blk_two h1
  clear h1 h2 h3 h4
  by_cases he : e = 0
  · subst he
    by_cases hl : l = []
    · subst hl
      have E : endOf [] 0 = 0 := by decide
      rw [E]
      clear E
      go_enter Try.func39, Try.ntmps39
      go_wp2
      all_goals go_ret
      all_goals exact ⟨rfl, rfl⟩
    · have E : endOf l 0 = 23 := by unfold endOf; rw [if_pos ⟨rfl, hl⟩]
      rw [E]
      have hp : 0 < l.length := List.length_pos_iff.mpr hl
      clear hl E
      go_enter Try.func39, Try.ntmps39
      go_wp2
      all_goals go_ret
      all_goals exact ⟨rfl, rfl⟩
  · have E : endOf l e = e := by unfold endOf; rw [if_neg (fun h => he h.1)]
    rw [E]
    clear E
    go_enter Try.func39, Try.ntmps39
    go_wp2
    all_goals go_ret
    all_goals exact ⟨rfl, rfl⟩
theorem Reader_ask_err (w : World) (g : Nat) (l : List Int) (e n : Int) (h : RdAt w g S l e) (he : e ≠ 0) :
    Calls Try.prog 57 #[.pointer (some ⟨g, 0, none⟩), .int .i64 n] w fun r w' => r = .returned (.tuple #[.slice none 0 0, .bool false]) ∧ w' = w := by
  obtain ⟨A, c, h⟩ := h
  obtain ⟨h1, h2, h3, h4⟩ := h
  obtain ⟨⟨hc0, hf0⟩, hc1, hf1⟩ := blk_two h1
  clear h1 h2 h3 h4
  go_enter Try.func57, Try.ntmps57
  go_wp2
  go_ret2
  exact ⟨rfl, rfl⟩
theorem Reader_ask_short (w : World) (g : Nat) (l : List Int) (n : Int) (h : RdAt w g S l 0) (hn : (l.length : Int) < n) :
    Calls Try.prog 57 #[.pointer (some ⟨g, 0, none⟩), .int .i64 n] w fun r w' => r = .returned (.tuple #[.slice none 0 0, .bool false]) ∧ RdAt w' g S l 20 ∧ Fr w w' (fun k => k = g) := by
  obtain ⟨A, c, h⟩ := h
  have H := Aside0.mk h
  obtain ⟨h1, h2, h3, h4⟩ := h
  obtain ⟨⟨hc0, hf0⟩, hc1, hf1⟩ := blk_two h1
  clear h1 h2 h3 h4
  have hcmp : decide ((l.length : Int) < n) = true := decide_eq_true hn
  clear hn
  go_enter Try.func57, Try.ntmps57
  go_wp2
  go_ret2
  exact ⟨rfl, ⟨A, c, H.out.set_err 20⟩, Fr.set 1 _⟩
end Go.Proofs.Ytkjkmaopifmghaa.Oct
