/- The reference's number and Back are the program's: plain Lean. -/
import Derived.Test.YtkjkmaopifmghaaPureForms
import Derived.Test.YtkjkmaopifmghaaOctNumx1
namespace Go.Proofs.Ytkjkmaopifmghaa.PureNum
open Go.RowKit Go.Proofs.YtkjkmaopifmghaaW.PrintWords Go.Proofs.YtkjkmaopifmghaaW.PrintLast Go.Proofs.YtkjkmaopifmghaaW.PrintMore Go.Proofs.Ytkjkmaopifmghaa.PureArmor Go.Proofs.Ytkjkmaopifmghaa.PureShort Go.Proofs.Ytkjkmaopifmghaa.PureForms Go.Proofs.Ytkjkmaopifmghaa.OctNum Go.Proofs.Ytkjkmaopifmghaa.Oct
set_option linter.unusedVariables false
set_option linter.unusedSimpArgs false
theorem num_part (l : List Int) (x p : Int) (i : Nat) (hi : i ≤ 9) (hp0 : 0 ≤ p) (hp : p * 128 ^ i < 18446744073709551616) : ∀ (d j k : Nat), j + d = i → d < k → ∃ k', k = k' + d ∧ latchkeyref02_number.l1 k l x (i : Int) (p * 128 ^ j) (j : Int) = latchkeyref02_number.l1 k' l x (i : Int) (p * 128 ^ i) (i : Int) := by
  intro d
  induction d with
  | zero =>
    intro j k hj hk
    obtain rfl : j = i := by omega
    exact ⟨k, rfl, rfl⟩
  | succ d ih =>
    intro j k hj hk
    obtain ⟨k, rfl⟩ : ∃ m, k = m + 1 := ⟨k - 1, by omega⟩
    obtain ⟨k', e1, e2⟩ := ih (j + 1) k (by omega) (by omega)
    refine ⟨k', by omega, ?_⟩
    have hpw : (128 : Int) ^ (j + 1) ≤ 128 ^ i := by exact_mod_cast Nat.pow_le_pow_right (by decide : 128 > 0) (by omega : j + 1 ≤ i)
    have hle := Int.mul_le_mul_of_nonneg_left hpw hp0
    have h0 : 0 ≤ p * 128 ^ (j + 1) := Int.mul_nonneg hp0 (Int.le_of_lt (Int.pow_pos (by decide)))
    have E1 : Aside0 (wrap64 ((j : Int) + 1) = ((j + 1 : Nat) : Int)) := ⟨by rw [wrap64_small (by omega) (by omega)]; rfl⟩
    have E2 : IntKind.u64.wrap (p * 128 ^ j * 128) = p * 128 ^ (j + 1) := by
      rw [Int.mul_assoc, ← Int.pow_succ, u64_wrap, Int.emod_eq_of_lt h0 (by omega)]
    rw [← e2]
    have hstep : latchkeyref02_number.l1 (k + 1) l x (i : Int) (p * 128 ^ j) (j : Int) = latchkeyref02_number.l1 k l x (i : Int) (IntKind.u64.wrap (p * 128 ^ j * 128)) (wrap64 ((j : Int) + 1)) := by
      conv => lhs; unfold latchkeyref02_number.l1
      rw [if_pos (by omega)]
    rw [hstep, E1.out, E2]
theorem num_from (l : List Int) (hb : ∀ c ∈ l, 0 ≤ c ∧ c < 256) (hl : l.length ≤ 140737488355328) : ∀ (d i k : Nat) (x : Int), i + d = 10 → i ≤ 9 → i ≤ l.length → 0 ≤ x → x < 128 ^ i → 20 * d < k →
    latchkeyref02_number.l0 k l x (i : Int) = some (fin x i (sh i (l.drop i))) := by
  intro d
  induction d with
  | zero => intro i k x hi h9; omega
  | succ d ih =>
    intro i k x hi h9 hil h0 h1 hk
    obtain ⟨k, rfl⟩ : ∃ j, k = j + 2 := ⟨k - 2, by omega⟩
    by_cases hin : i < l.length
    · have hc := hb _ (List.getElem_mem hin)
      have hdrop : l.drop i = l[i] :: l.drop (i + 1) := List.drop_eq_getElem_cons hin
      have hstep : latchkeyref02_number.l0 (k + 2) l x (i : Int) = latchkeyref02_number.j1 (k + 1) l x (i : Int) (decide ((i = 9 ∧ l[i] > 1) ∨ (i > 0 ∧ l[i] = 0))) := by
        simp only [latchkeyref02_number.l0]
        rw [if_neg (by omega), rd_nat hin]
        by_cases e9 : i = 9
        · subst e9
          rw [if_pos (show ((9 : Nat) : Int) = 9 from rfl), if_pos (by omega), if_pos (by omega)]
          by_cases e1 : l[9] > 1
          · rw [if_pos e1, decide_eq_true (.inl ⟨rfl, e1⟩)]
          · rw [if_neg e1, if_pos (by omega)]
            congr 1
            by_cases e0 : l[9] = 0
            · rw [e0]; simp
            · rw [beq_eq_false_iff_ne.mpr e0, decide_eq_false (by omega)]
        · rw [if_neg (by omega)]
          by_cases e0 : i = 0
          · rw [if_neg (by omega), decide_eq_false (by omega)]
          · rw [if_pos (by omega), if_pos (by omega), if_pos (by omega)]
            congr 1
            by_cases e1 : l[i] = 0
            · rw [e1, decide_eq_true (.inr ⟨by omega, rfl⟩)]; rfl
            · rw [beq_eq_false_iff_ne.mpr e1, decide_eq_false (by omega)]
      rw [hstep, hdrop]
      simp only [latchkeyref02_number.j1]
      rw [rd_nat hin]
      have hget : rd l (i : Int) = l[i] := rd_nat hin
      generalize l[i] = c at *
      by_cases h2 : (i = 9 ∧ c > 1) ∨ (i > 0 ∧ c = 0)
      · have E : sh i (c :: l.drop (i + 1)) = (0, 0, 21) := by simp only [sh]; rw [if_pos h2]
        rw [if_pos (decide_eq_true h2), E]
        rfl
      · have em : IntKind.u64.wrap (Int.tmod c 128) = c % 128 := by rw [Int.tmod_eq_emod_of_nonneg hc.1, u64_wrap]; omega
        rw [if_neg (by simpa using h2), if_pos (by omega), if_pos (by omega), em]
        obtain ⟨o1, o2, o3⟩ := or_shift x (c % 128) i h9 h0 h1 (by omega) (by omega) (fun e => by omega)
        have hpi : (0 : Int) ≤ c % 128 * 128 ^ i := Int.mul_nonneg (by omega) (Int.le_of_lt (Int.pow_pos (by decide)))
        have h64 : x + c % 128 * 128 ^ i < 18446744073709551616 := by
          by_cases e9 : i = 9
          · exact o3 e9
          · have : (128 : Int) ^ (i + 1) ≤ 128 ^ 9 := by exact_mod_cast Nat.pow_le_pow_right (by decide : 128 > 0) (by omega : i + 1 ≤ 9)
            have e9 : (128 : Int) ^ 9 = 9223372036854775808 := by decide
            omega
        obtain ⟨k', e1, e2⟩ := num_part l x (c % 128) i h9 (by omega) (by omega) i 0 k (by omega) (by omega)
        have hz : c % 128 * 128 ^ 0 = c % 128 := by simp
        rw [hz] at e2
        have e2' : latchkeyref02_number.l1 k l x (i : Int) (c % 128) 0 = latchkeyref02_number.l1 k' l x (i : Int) (c % 128 * 128 ^ i) (i : Int) := e2
        rw [e2']
        obtain ⟨k', rfl⟩ : ∃ j, k' = j + 1 := ⟨k' - 1, by omega⟩
        have ew : IntKind.u64.wrap (x + c % 128 * 128 ^ i) = x + c % 128 * 128 ^ i := by rw [u64_wrap, Int.emod_eq_of_lt (by omega) h64]
        have E1 : Aside0 (wrap64 ((i : Int) + 1) = ((i + 1 : Nat) : Int)) := ⟨by rw [wrap64_small (by omega) (by omega)]; rfl⟩
        unfold latchkeyref02_number.l1
        rw [if_neg (by omega), if_pos (by omega), if_pos (by omega), hget, ew, E1.out]
        by_cases h3 : c < 128
        · have E : sh i (c :: l.drop (i + 1)) = (c, 1, 0) := by simp only [sh]; rw [if_neg h2, if_pos h3]
          rw [if_pos h3, E]
          have : c % 128 = c := by omega
          rw [this]
          rfl
        · rw [if_neg h3]
          have hi8 : i ≠ 9 := fun e => h2 (.inl ⟨e, by omega⟩)
          have hnext := ih (i + 1) k' (x + c % 128 * 128 ^ i) (by omega) (by omega) (by omega) (by omega) o2 (by omega)
          rw [hnext]
          congr 1
          by_cases h4 : (sh (i + 1) (l.drop (i + 1))).2.2 = 0
          · have E : sh i (c :: l.drop (i + 1)) = (c % 128 + 128 * (sh (i + 1) (l.drop (i + 1))).1, (sh (i + 1) (l.drop (i + 1))).2.1 + 1, 0) := by simp only [sh]; rw [if_neg h2, if_neg h3, if_pos h4]
            rw [E]
            unfold fin
            rw [if_pos h4, if_pos rfl]
            simp only [Prod.mk.injEq, and_true]
            constructor
            · rw [Int.pow_succ, Int.add_mul, Int.mul_comm (128 ^ i) 128, ← Int.mul_assoc, Int.mul_comm 128 (sh (i + 1) (l.drop (i + 1))).1, Int.add_assoc]
            · omega
          · have E : sh i (c :: l.drop (i + 1)) = (0, 0, (sh (i + 1) (l.drop (i + 1))).2.2) := by simp only [sh]; rw [if_neg h2, if_neg h3, if_neg h4]
            rw [E]
            unfold fin
            rw [if_neg h4, if_neg h4]
    · have hnil : l.drop i = [] := List.drop_eq_nil_of_le (by omega)
      rw [hnil]
      simp only [latchkeyref02_number.l0]
      rw [if_pos (by omega)]
      rfl
theorem num_f (l : List Int) (hb : ∀ c ∈ l, 0 ≤ c ∧ c < 256) (hl : l.length ≤ 140737488355328) {k : Nat} (hk : 200 < k) : latchkeyref02_number.f k l = some (sh 0 l) := by
  have := num_from l hb hl 10 0 k 0 (by omega) (by omega) (by omega) (by omega) (by decide) (by omega)
  unfold latchkeyref02_number.f
  rw [show (0 : Int) = ((0 : Nat) : Int) from rfl] at this ⊢
  rw [this, List.drop_zero]
  unfold fin
  by_cases h : (sh 0 l).2.2 = 0
  · rw [if_pos h]
    generalize sh 0 l = q at *
    obtain ⟨a, b, c⟩ := q
    simp only [] at h
    subst h
    simp
  · rw [if_neg h]
    obtain ⟨a, b, _⟩ := sh_err l 0 (by omega) hb h
    generalize sh 0 l = q at *
    obtain ⟨x, n, s⟩ := q
    simp only [] at a b
    rw [a, b]
theorem back_f (u : Int) (h0 : 0 ≤ u) (h1 : u < 18446744073709551616) : latchkeyref02_Back.f u = some (back u) := by
  rw [back_eq u h0 h1]
  unfold latchkeyref02_Back.f
  have e1 : Int.tmod u 2 = u % 2 := Int.tmod_eq_emod_of_nonneg h0
  have e2 : Int.tdiv u 2 = u / 2 := Int.tdiv_eq_ediv_of_nonneg h0
  have e3 : IntKind.u64.wrap (u / 2) = u / 2 := by rw [u64_wrap]; omega
  have e4 : wrap64 (u / 2) = u / 2 := by unfold wrap64; omega
  rw [e1, e2, e3, e4]
  by_cases h : u % 2 = 0
  · rw [if_pos h, if_pos h]
  · have e5 : wrap64 (-(u / 2)) = -(u / 2) := by unfold wrap64; omega
    have e6 : wrap64 (-(u / 2) - 1) = -(u / 2) - 1 := by unfold wrap64; omega
    rw [if_neg h, if_neg h, e5, e6]
end Go.Proofs.Ytkjkmaopifmghaa.PureNum
