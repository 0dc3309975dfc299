/- The short form of a number: what is read of bytes, what is written. Plain Lean. -/
import Derived.Test.YtkjkmaopifmghaaOctShortx1
import Derived.Test.YtkjkmaopifmghaaKxOctW
import Derived.Test.YtkjkmaopifmghaaKxOctR
import Derived.Test.YtkjkmaopifmghaaKxPureArmor
namespace Go.Proofs.Ytkjkmaopifmghaa.PureShort
open Go.RowKit Go.Proofs.YtkjkmaopifmghaaW.PrintWords Go.Proofs.YtkjkmaopifmghaaW.PrintLast Go.Proofs.YtkjkmaopifmghaaW.PrintMore Go.Proofs.Ytkjkmaopifmghaa.PureArmor Go.Proofs.Ytkjkmaopifmghaa.OctShort
set_option linter.unusedVariables false
set_option linter.unusedSimpArgs false
/-- What stands at the beginning of some bytes, as a number from its digit i on: the number, how many bytes, the error. -/
def sh : Nat → List Int → Int × Int × Int
  | _, [] => (0, 0, 20)
  | i, c :: t => if (i = 9 ∧ c > 1) ∨ (i > 0 ∧ c = 0) then (0, 0, 21) else if c < 128 then (c, 1, 0) else if (sh (i + 1) t).2.2 = 0 then (c % 128 + 128 * (sh (i + 1) t).1, (sh (i + 1) t).2.1 + 1, 0) else (0, 0, (sh (i + 1) t).2.2)
/-- A number's digits. -/
def dg : Nat → Int → List Int
  | 0, _ => []
  | k + 1, x => if x > 127 then (x % 128 + 128) :: dg k (x / 128) else [x]
set_option maxRecDepth 100000 in
theorem or128 : ∀ y : Fin 256, Go.bits .or .u8 ((y.val : Nat) : Int) 128 = ((y.val % 128 + 128 : Nat) : Int) := by decide
theorem or128' (x : Int) : Go.bits .or .u8 (x % 256) 128 = x % 128 + 128 := by
  have h := or128 ⟨(x % 256).toNat, by omega⟩
  have e : (((x % 256).toNat : Nat) : Int) = x % 256 := by omega
  simp only [e] at h
  rw [h]
  omega
set_option maxRecDepth 100000 in
theorem and127 : ∀ y : Fin 256, Go.bits .and .u8 ((y.val : Nat) : Int) 127 = ((y.val % 128 : Nat) : Int) := by decide
theorem and127' (c : Int) (h0 : 0 ≤ c) (h1 : c < 256) : Go.bits .and .u8 c 127 = c % 128 := by
  have h := and127 ⟨c.toNat, by omega⟩
  have e : ((c.toNat : Nat) : Int) = c := by omega
  simp only [e] at h
  rw [h]
  omega
theorem dg_len (k : Nat) : ∀ x, (dg k x).length ≤ k := by
  induction k with
  | zero => intro x; simp [dg]
  | succ k ih =>
    intro x
    simp only [dg]
    split
    · have := ih (x / 128); simp; omega
    · simp
theorem dg_pos (k : Nat) (x : Int) : 1 ≤ (dg (k + 1) x).length := by
  simp only [dg]
  split <;> simp
theorem dg_bytes (k : Nat) : ∀ x, 0 ≤ x → ∀ y ∈ dg k x, 0 ≤ y ∧ y < 256 := by
  induction k with
  | zero => intro x _ y hy; simp [dg] at hy
  | succ k ih =>
    intro x hx y hy
    simp only [dg] at hy
    split at hy
    · rcases List.mem_cons.1 hy with rfl | hy
      · omega
      · exact ih _ (by omega) y hy
    · rw [List.mem_singleton.1 hy]; omega
/-- What Writer.Uint writes. -/
theorem uint_dg (k : Nat) : ∀ (x : Int) (l : List Int), 0 ≤ x → x < 128 ^ k → 1 ≤ k → l.length + k ≤ 140737488355328 → Oct.uintL k l x = some (l ++ dg k x) := by
  induction k with
  | zero => intro x l _ _ h; omega
  | succ k ih =>
    intro x l h0 h1 _ hl
    simp only [Oct.uintL, dg]
    by_cases hx : x > 127
    · rw [if_pos hx, if_pos (by omega), if_pos hx, or128']
      have hk : 1 ≤ k := by
        rcases k with _ | k
        · simp at h1; omega
        · omega
      rw [Int.pow_succ] at h1
      rw [ih (x / 128) _ (by omega) (by omega) hk (by simp; omega)]
      simp
    · rw [if_neg hx, if_pos (by omega), if_neg hx]
      have : x % 256 = x := by omega
      rw [this]
theorem sh_err : ∀ (l : List Int) (i : Nat), i ≤ 9 → (∀ c ∈ l, 0 ≤ c ∧ c < 256) → (sh i l).2.2 ≠ 0 → (sh i l).1 = 0 ∧ (sh i l).2.1 = 0 ∧ ((sh i l).2.2 = 20 ∨ (sh i l).2.2 = 21) ∧ ((sh i l).2.2 = 20 → l.length + i < 10) := by
  intro l
  induction l with
  | nil => intro i hi _ _; simp [sh]; omega
  | cons c t ih =>
    intro i hi hb h
    have hc := hb c (by simp)
    simp only [sh] at h ⊢
    by_cases h1 : (i = 9 ∧ c > 1) ∨ (i > 0 ∧ c = 0)
    · rw [if_pos h1]; simp
    · rw [if_neg h1] at h ⊢
      by_cases h2 : c < 128
      · rw [if_pos h2] at h; simp at h
      · rw [if_neg h2] at h ⊢
        by_cases h3 : (sh (i + 1) t).2.2 = 0
        · rw [if_pos h3] at h; simp at h
        · rw [if_neg h3] at h ⊢
          have := ih (i + 1) (by omega) (fun d hd => hb d (by simp [hd])) h3
          refine ⟨rfl, rfl, this.2.2.1, fun e => ?_⟩
          have := this.2.2.2 e
          simp
          omega
/-- What is written is read. -/
theorem sh_dg (k : Nat) : ∀ (x : Int) (i : Nat) (rest : List Int), 0 ≤ x → x < 128 ^ k → 1 ≤ k → k + i = 10 → (i = 9 → x ≤ 1) → (i > 0 → x > 0) → (k = 10 → x < 18446744073709551616) → (∀ j, j + k = 10 → x * 128 ^ j < 18446744073709551616) → sh i (dg k x ++ rest) = (x, ((dg k x).length : Int), 0) := by
  induction k with
  | zero => intro x i rest _ _ h; omega
  | succ k ih =>
    intro x i rest h0 h1 _ hk h9 hp _ hj
    have hj := hj i (by omega)
    simp only [dg]
    by_cases hx : x > 127
    · rw [if_pos hx, List.cons_append]
      have hk1 : 1 ≤ k := by
        rcases k with _ | k
        · simp at h1; omega
        · omega
      have e := ih (x / 128) (i + 1) rest (by omega) (by rw [Int.pow_succ] at h1; omega) hk1 (by omega) ?_ (by omega) (by omega) ?_
      · simp only [sh]
        rw [if_neg (by omega), if_neg (by omega), e]
        simp only [if_pos]
        rw [List.length_cons]
        congr 1
        · omega
      · intro h
        obtain rfl : i = 8 := by omega
        have : (128 : Int) ^ 8 = 72057594037927936 := by decide
        omega
      · intro j hjk
        obtain rfl : j = i + 1 := by omega
        rw [Int.pow_succ]
        have h3 : x / 128 * (128 ^ i * 128) = (x / 128 * 128) * 128 ^ i := by rw [Int.mul_comm (128 ^ i) 128, Int.mul_assoc]
        rw [h3]
        have h4 : x / 128 * 128 ≤ x := by omega
        have h5 : (0 : Int) ≤ 128 ^ i := Int.le_of_lt (Int.pow_pos (by decide))
        have := Int.mul_le_mul_of_nonneg_right h4 h5
        omega
    · rw [if_neg hx]
      simp only [sh, List.cons_append, List.nil_append]
      rw [if_neg (by
        rintro (⟨a, b⟩ | ⟨a, b⟩)
        · have := h9 a; omega
        · have := hp a; omega), if_pos (by omega)]
      rfl
/-- What is read was written so. -/
theorem sh_back (k : Nat) : ∀ (l : List Int) (i : Nat), 1 ≤ k → k + i = 10 → (∀ c ∈ l, 0 ≤ c ∧ c < 256) → (sh i l).2.2 = 0 → 0 ≤ (sh i l).1 ∧ (sh i l).1 < 128 ^ k ∧ (sh i l).1 * 128 ^ i < 18446744073709551616 ∧ (i > 0 → (sh i l).1 > 0) ∧ (sh i l).2.1 = ((dg k (sh i l).1).length : Int) ∧ l.take (dg k (sh i l).1).length = dg k (sh i l).1 ∧ (dg k (sh i l).1).length ≤ l.length := by
  induction k with
  | zero => intro l i h; omega
  | succ k ih =>
    intro l i _ hk hb h
    rcases l with _ | ⟨c, t⟩
    · simp [sh] at h
    · have hc := hb c (by simp)
      simp only [sh] at h ⊢
      by_cases h1 : (i = 9 ∧ c > 1) ∨ (i > 0 ∧ c = 0)
      · rw [if_pos h1] at h; simp at h
      · rw [if_neg h1] at h ⊢
        by_cases h2 : c < 128
        · rw [if_pos h2] at h ⊢
          have hd : dg (k + 1) c = [c] := by simp only [dg]; rw [if_neg (by omega)]
          have hp1 : (128 : Int) ≤ 128 ^ (k + 1) := by
            rw [Int.pow_succ]
            have : (0 : Int) < 128 ^ k := Int.pow_pos (by decide)
            omega
          refine ⟨hc.1, by simp only []; omega, ?_, fun hi => ?_, by simp only []; rw [hd]; rfl, by simp only []; rw [hd]; simp, by simp only []; rw [hd]; simp⟩
          · simp only []
            by_cases hi : i = 9
            · subst hi
              have hc1 : c ≤ 1 := by omega
              have : (128 : Int) ^ 9 = 9223372036854775808 := by decide
              omega
            · have : (128 : Int) ^ i ≤ 128 ^ 8 := by exact_mod_cast Nat.pow_le_pow_right (by decide : 128 > 0) (by omega : i ≤ 8)
              have e8 : (128 : Int) ^ 8 = 72057594037927936 := by decide
              have h5 : (0 : Int) ≤ 128 ^ i := Int.le_of_lt (Int.pow_pos (by decide))
              have := Int.mul_le_mul_of_nonneg_right (by omega : c ≤ 127) h5
              omega
          · simp only []
            omega
        · rw [if_neg h2] at h ⊢
          by_cases h3 : (sh (i + 1) t).2.2 = 0
          · rw [if_pos h3] at h ⊢
            have hi : i ≠ 9 := fun e => h1 (.inl ⟨e, by omega⟩)
            obtain ⟨a, b, c1, d, e, f, g⟩ := ih t (i + 1) (by omega) (by omega) (fun d hd => hb d (by simp [hd])) h3
            have d := d (by omega)
            generalize sh (i + 1) t = q at *
            obtain ⟨x, n, s⟩ := q
            simp only [] at *
            have ex : (c % 128 + 128 * x) % 128 + 128 = c := by omega
            have ey : (c % 128 + 128 * x) / 128 = x := by omega
            have hd : dg (k + 1) (c % 128 + 128 * x) = c :: dg k x := by simp only [dg]; rw [if_pos (by omega), ex, ey]
            refine ⟨by omega, by rw [Int.pow_succ]; omega, ?_, fun _ => by omega, by rw [hd, e, List.length_cons]; omega, by rw [hd, List.length_cons, List.take_succ_cons, f], by rw [hd, List.length_cons, List.length_cons]; omega⟩
            rw [Int.pow_succ] at c1
            by_cases hx : i = 8
            · subst hx
              have e8 : (128 : Int) ^ 8 = 72057594037927936 := by decide
              rw [e8] at *
              omega
            · have hi7 : i ≤ 7 := by omega
              have hi' : i = 0 ∨ i = 1 ∨ i = 2 ∨ i = 3 ∨ i = 4 ∨ i = 5 ∨ i = 6 ∨ i = 7 := by omega
              rcases hi' with rfl | rfl | rfl | rfl | rfl | rfl | rfl | rfl <;> simp only [Int.reducePow] at * <;> omega
          · rw [if_neg h3] at h
            exact absurd h h3
theorem or_shift (x c : Int) (i : Nat) (hi : i ≤ 9) (hx0 : 0 ≤ x) (hx1 : x < 128 ^ i) (hc0 : 0 ≤ c) (hc1 : c < 128) (h9 : i = 9 → c ≤ 1) :
    Go.bits .or .u64 x (shl .u64 (IntKind.u64.wrap c) (wrap64 (7 * (i : Int)))) = x + c * 128 ^ i ∧ x + c * 128 ^ i < 128 ^ (i + 1) ∧ (i = 9 → x + c * 128 ^ i < 18446744073709551616) := by
  have e1 : wrap64 (7 * (i : Int)) = ((7 * i : Nat) : Int) := by rw [wrap64_small (by omega) (by omega)]; omega
  have e2 : IntKind.u64.wrap c = c := by rw [u64_wrap]; omega
  have hm : min (((7 * i : Nat) : Int)).toNat IntKind.u64.bits = 7 * i := by
    show min (((7 * i : Nat) : Int)).toNat 64 = 7 * i
    omega
  have e3 : shl .u64 c ((7 * i : Nat) : Int) = IntKind.u64.wrap (c * 2 ^ (7 * i)) := by unfold shl; rw [hm]
  have e4 : (2 : Int) ^ (7 * i) = 128 ^ i := by rw [Int.pow_mul]; rfl
  have hp : (0 : Int) < 128 ^ i := Int.pow_pos (by decide)
  have hlt : c * 128 ^ i < 18446744073709551616 ∧ (i = 9 → c * 128 ^ i ≤ 128 ^ 9) := by
    by_cases h : i = 9
    · subst h
      have := h9 rfl
      have e9 : (128 : Int) ^ 9 = 9223372036854775808 := by decide
      rw [e9]
      omega
    · have : (128 : Int) ^ i ≤ 128 ^ 8 := by exact_mod_cast Nat.pow_le_pow_right (by decide : 128 > 0) (by omega : i ≤ 8)
      have e8 : (128 : Int) ^ 8 = 72057594037927936 := by decide
      have := Int.mul_le_mul_of_nonneg_right (by omega : c ≤ 127) (Int.le_of_lt hp)
      exact ⟨by omega, fun h' => absurd h' h⟩
  have hor : Go.bits .or .u64 (IntKind.u64.wrap (c * 2 ^ (7 * i))) x = c * 2 ^ (7 * i) + x := or_join c x (7 * i) hc0 (by rw [e4]; exact hlt.1) hx0 (by rw [e4]; exact hx1) (by
    have : (128 : Int) ^ i ≤ 128 ^ 9 := by exact_mod_cast Nat.pow_le_pow_right (by decide : 128 > 0) hi
    have e9 : (128 : Int) ^ 9 = 9223372036854775808 := by decide
    omega)
  have hcomm : Go.bits .or .u64 x (IntKind.u64.wrap (c * 2 ^ (7 * i))) = Go.bits .or .u64 (IntKind.u64.wrap (c * 2 ^ (7 * i))) x := by
    unfold Go.bits
    simp only []
    rw [BitVec.or_comm]
  refine ⟨?_, ?_, ?_⟩
  · rw [e1, e2, e3, hcomm, hor, e4, Int.add_comm]
  · rw [Int.pow_succ]
    have := Int.mul_le_mul_of_nonneg_right (by omega : c ≤ 127) (Int.le_of_lt hp)
    omega
  · intro h
    have := hlt.2 h
    subst h
    have e9 : (128 : Int) ^ 9 = 9223372036854775808 := by decide
    omega
def fin (x : Int) (i : Nat) (q : Int × Int × Int) : Int × Int × Int := if q.2.2 = 0 then (x + q.1 * 128 ^ i, (i : Int) + q.2.1, 0) else (0, 0, q.2.2)
theorem short_from (l : List Int) (hb : ∀ c ∈ l, 0 ≤ c ∧ c < 256) (hl : l.length ≤ 140737488355328) : ∀ (d i k : Nat) (x : Int), i + d = 10 → i ≤ 9 → i ≤ l.length → 0 ≤ x → x < 128 ^ i → 3 * d < k →
    octets_short.l0 k x l (l.length : Int) (i : Int) = some (fin x i (sh i (l.drop i))) := by
  intro d
  induction d with
  | zero => intro i k x hi h9; omega
  | succ d ih =>
    intro i k x hi h9 hil h0 h1 hk
    obtain ⟨k, rfl⟩ : ∃ j, k = j + 3 := ⟨k - 3, by omega⟩
    by_cases hin : i < l.length
    · have hc := hb _ (List.getElem_mem hin)
      have hdrop : l.drop i = l[i] :: l.drop (i + 1) := List.drop_eq_getElem_cons hin
      have hstep : octets_short.l0 (k + 3) x l (l.length : Int) (i : Int) = octets_short.j1 (k + 2) x (i : Int) l[i] l (l.length : Int) (i : Int) (decide ((i = 9 ∧ l[i] > 1) ∨ (i > 0 ∧ l[i] = 0))) := by
        simp only [octets_short.l0]
        rw [if_pos (by omega), if_pos (by omega), if_pos (by omega), rd_nat hin]
        by_cases e9 : i = 9
        · subst e9
          rw [if_pos (show ((9 : Nat) : Int) = 9 from rfl)]
          by_cases e1 : l[9] > 1
          · rw [if_pos e1, decide_eq_true (.inl ⟨rfl, e1⟩)]
          · rw [if_neg e1, if_pos (by omega)]
            congr 1
            by_cases e0 : l[9] = 0
            · rw [e0]; simp
            · rw [beq_eq_false_iff_ne.mpr e0, decide_eq_false (by omega)]
        · rw [if_neg (by omega)]
          by_cases e0 : i = 0
          · rw [if_neg (by omega), decide_eq_false (by omega)]
          · rw [if_pos (by omega)]
            congr 1
            by_cases e1 : l[i] = 0
            · rw [e1, decide_eq_true (.inr ⟨by omega, rfl⟩)]; rfl
            · rw [beq_eq_false_iff_ne.mpr e1, decide_eq_false (by omega)]
      rw [hstep, hdrop]
      simp only [octets_short.j1]
      generalize l[i] = c at *
      by_cases h2 : (i = 9 ∧ c > 1) ∨ (i > 0 ∧ c = 0)
      · have E : sh i (c :: l.drop (i + 1)) = (0, 0, 21) := by simp only [sh]; rw [if_pos h2]
        rw [if_pos (decide_eq_true h2), E]
        rfl
      · rw [if_neg (by simpa using h2), if_pos (by rw [wrap64_small (by omega) (by omega)]; omega), and127' c hc.1 hc.2]
        obtain ⟨o1, o2, o3⟩ := or_shift x (c % 128) i h9 h0 h1 (by omega) (by omega) (fun e => by omega)
        rw [o1]
        by_cases h3 : c < 128
        · have E : sh i (c :: l.drop (i + 1)) = (c, 1, 0) := by simp only [sh]; rw [if_neg h2, if_pos h3]
          rw [if_pos h3, E, wrap64_small (by omega) (by omega)]
          have : c % 128 = c := by omega
          rw [this]
          rfl
        · rw [if_neg h3]
          have hi8 : i ≠ 9 := fun e => h2 (.inl ⟨e, by omega⟩)
          have hnext := ih (i + 1) (k + 1) (x + c % 128 * 128 ^ i) (by omega) (by omega) (by omega) (by
            have : (0 : Int) ≤ 128 ^ i := Int.le_of_lt (Int.pow_pos (by decide))
            have := Int.mul_nonneg (by omega : 0 ≤ c % 128) this
            omega) o2 (by omega)
          have E1 : Aside0 (wrap64 ((i : Int) + 1) = ((i + 1 : Nat) : Int)) := ⟨by rw [wrap64_small (by omega) (by omega)]; rfl⟩
          rw [E1.out, hnext]
          congr 1
          by_cases h4 : (sh (i + 1) (l.drop (i + 1))).2.2 = 0
          · have E : sh i (c :: l.drop (i + 1)) = (c % 128 + 128 * (sh (i + 1) (l.drop (i + 1))).1, (sh (i + 1) (l.drop (i + 1))).2.1 + 1, 0) := by simp only [sh]; rw [if_neg h2, if_neg h3, if_pos h4]
            rw [E]
            unfold fin
            rw [if_pos h4, if_pos rfl]
            simp only [Prod.mk.injEq, and_true]
            constructor
            · rw [Int.pow_succ, Int.add_mul, Int.mul_comm (128 ^ i) 128, ← Int.mul_assoc, Int.mul_comm 128 (sh (i + 1) (l.drop (i + 1))).1, Int.add_assoc]
            · omega
          · have E : sh i (c :: l.drop (i + 1)) = (0, 0, (sh (i + 1) (l.drop (i + 1))).2.2) := by simp only [sh]; rw [if_neg h2, if_neg h3, if_neg h4]
            rw [E]
            unfold fin
            rw [if_neg h4, if_neg h4]
    · have hnil : l.drop i = [] := List.drop_eq_nil_of_le (by omega)
      rw [hnil]
      simp only [octets_short.l0]
      rw [if_neg (by omega)]
      rfl
theorem short_f (l : List Int) (hb : ∀ c ∈ l, 0 ≤ c ∧ c < 256) (hl : l.length ≤ 140737488355328) {k : Nat} (hk : 30 < k) : octets_short.f k l = some (sh 0 l) := by
  have := short_from l hb hl 10 0 k 0 (by omega) (by omega) (by omega) (by omega) (by decide) (by omega)
  unfold octets_short.f
  rw [show (0 : Int) = ((0 : Nat) : Int) from rfl] at this ⊢
  rw [this, List.drop_zero]
  unfold fin
  by_cases h : (sh 0 l).2.2 = 0
  · rw [if_pos h]
    generalize sh 0 l = q at *
    obtain ⟨a, b, c⟩ := q
    simp only [] at h
    subst h
    simp
  · rw [if_neg h]
    obtain ⟨a, b, _⟩ := sh_err l 0 (by omega) hb h
    generalize sh 0 l = q at *
    obtain ⟨x, n, s⟩ := q
    simp only [] at a b
    rw [a, b]
end Go.Proofs.Ytkjkmaopifmghaa.PureShort
