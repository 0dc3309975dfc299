/- Rows of words as sets of numbers: plain Lean. -/
import Derived.Test.YtmldefednihohaaDoorGrpRowx1
import Derived.Laws.BitsAllLaws
import Derived.Laws.BitsLemmas
namespace Go.Proofs.YtmldefednihohaaDoor.Grp
open Go.RowKit Go.Proofs.YtmldefednihohaaDoorW.PrintWords Go.Proofs.YtmldefednihohaaDoorW.PrintLast Go.Proofs.YtmldefednihohaaDoorW.PrintMore
set_option linter.unusedVariables false
set_option linter.unusedSimpArgs false
/-- k bits of word i of a set. -/
def wk (P : Nat → Bool) (i : Nat) : Nat → Nat
  | 0 => 0
  | k + 1 => wk P i k + (if P (64 * i + k) then 2 ^ k else 0)
theorem wk_lt (P : Nat → Bool) (i : Nat) : ∀ k, wk P i k < 2 ^ k := by
  intro k
  induction k with
  | zero => simp [wk]
  | succ k ih =>
    simp only [wk]
    have := Nat.pow_succ (n := 2) (m := k)
    split <;> omega
theorem wk_bit (P : Nat → Bool) (i : Nat) : ∀ k b, (wk P i k).testBit b = (decide (b < k) && P (64 * i + b)) := by
  intro k
  induction k with
  | zero => intro b; simp [wk]
  | succ k ih =>
    intro b
    have hlt := wk_lt P i k
    have hlt2 := wk_lt P i (k + 1)
    rcases Nat.lt_trichotomy b k with h | h | h
    · have h1 : decide (b < k + 1) = true := decide_eq_true (by omega)
      have h2 : decide (b < k) = true := decide_eq_true h
      rw [h1]
      have := ih b
      rw [h2] at this
      simp only [wk]
      split
      · rw [Nat.add_comm, Nat.testBit_two_pow_add_gt h]
        exact this
      · exact this
    · subst h
      have h1 : decide (b < b + 1) = true := decide_eq_true (by omega)
      have h2 := Nat.testBit_lt_two_pow hlt
      rw [h1, Bool.true_and]
      simp only [wk]
      split
      · next hp => rw [Nat.add_comm, Nat.testBit_two_pow_add_eq, h2, hp]; rfl
      · next hp => rw [Nat.add_zero, h2]; simp [hp]
    · have h1 : decide (b < k + 1) = false := decide_eq_false (by omega)
      rw [h1, Bool.false_and]
      exact Nat.testBit_lt_two_pow (Nat.lt_of_lt_of_le hlt2 (Nat.pow_le_pow_right (by omega) h))
def wd (P : Nat → Bool) (i : Nat) : Nat := wk P i 64
theorem wd_lt (P : Nat → Bool) (i : Nat) : wd P i < 18446744073709551616 := wk_lt P i 64
theorem wd_bit (P : Nat → Bool) (i b : Nat) : (wd P i).testBit b = (decide (b < 64) && P (64 * i + b)) := wk_bit P i 64 b
theorem wd_eq {P : Nat → Bool} {i x : Nat} (hx : x < 18446744073709551616) (h : ∀ b, b < 64 → x.testBit b = P (64 * i + b)) : x = wd P i := by
  apply Nat.eq_of_testBit_eq
  intro b
  rw [wd_bit]
  by_cases hb : b < 64
  · rw [h b hb]; simp [hb]
  · have : x < 2 ^ b := Nat.lt_of_lt_of_le hx (show 2 ^ 64 ≤ 2 ^ b from Nat.pow_le_pow_right (by omega) (by omega))
    rw [Nat.testBit_lt_two_pow this]
    simp [hb]
/-- The words of a set. -/
def rowL (P : Nat → Bool) (m : Nat) : List Int := (List.range m).map fun i => ((wd P i : Nat) : Int)
theorem rowL_len (P : Nat → Bool) (m : Nat) : (rowL P m).length = m := by simp [rowL]
theorem rowL_get (P : Nat → Bool) {m i : Nat} (h : i < m) : (rowL P m).getD i 0 = ((wd P i : Nat) : Int) := by
  simp [rowL, h, List.getD_eq_getElem?_getD]
theorem rowL_congr {P Q : Nat → Bool} {m : Nat} (h : ∀ b, b < 64 * m → P b = Q b) : rowL P m = rowL Q m := by
  unfold rowL
  refine List.map_congr_left fun i hi => ?_
  have hi := List.mem_range.1 hi
  congr 1
  exact wd_eq (wd_lt P i) (fun b hb => by rw [wd_bit]; simp [hb]; exact h _ (by omega))
theorem rowL_set (P : Nat → Bool) {m i x : Nat} (hi : i < m) (hx : x < 18446744073709551616) : (rowL P m).set i (x : Int) = rowL (fun b => if b / 64 = i then x.testBit (b % 64) else P b) m := by
  apply List.ext_getElem?
  intro j
  simp only [rowL, List.getElem?_set, List.getElem?_map, List.length_map, List.length_range]
  by_cases hj : j < m
  · by_cases e : i = j
    · subst e
      simp only [hj, if_true, List.getElem?_range, Option.map_some, Option.some.injEq]
      congr 1
      refine wd_eq hx (fun b hb => ?_)
      have h1 : (64 * i + b) / 64 = i := by omega
      have h2 : (64 * i + b) % 64 = b := by omega
      simp [h1, h2]
    · simp only [e, if_false, hj, List.getElem?_range, Option.map_some, Option.some.injEq]
      congr 1
      refine wd_eq (wd_lt P j) (fun b hb => ?_)
      have h1 : (64 * j + b) / 64 = j := by omega
      have h2 : ¬ j = i := fun h => e h.symm
      rw [wd_bit]
      simp [h1, h2, hb]
  · have : i ≠ j := by omega
    simp [hj, this]
theorem and63 (b : Nat) (hb : b < 9223372036854775808) : Go.bits .and .i64 (b : Int) 63 = ((b % 64 : Nat) : Int) := by
  have h : b &&& 63 = b % 64 := Nat.and_two_pow_sub_one_eq_mod b 6
  show IntKind.i64.wrap ((BitVec.ofInt 64 (b : Int) &&& BitVec.ofInt 64 63).toNat : Int) = _
  rw [BitVec.toNat_and, BitVec.ofInt_natCast, BitVec.toNat_ofNat, Nat.mod_eq_of_lt (by omega)]
  have e : (BitVec.ofInt 64 63).toNat = 63 := by decide
  rw [e, h, IntKind.wrap_i64]
  omega
theorem has_f (P : Nat → Bool) (m b : Nat) (hb : b < 64 * m) (hm : m ≤ 1000) : GrpRow.groups_row_has.f (rowL P m) (b : Int) = some (P b) := by
  unfold GrpRow.groups_row_has.f
  have hd : (b : Int) / 64 = ((b / 64 : Nat) : Int) := by omega
  rw [and63 b (by omega), hd, rowL_len, if_pos (by omega), if_pos (by omega), if_pos (by omega)]
  congr 1
  have hr : rd (rowL P m) ((b / 64 : Nat) : Int) = ((wd P (b / 64) : Nat) : Int) := by
    unfold rd
    rw [Int.toNat_natCast]
    exact rowL_get P (by omega)
  rw [hr]
  unfold shr
  have hs : min ((b % 64 : Nat) : Int).toNat IntKind.u64.bits = b % 64 := by
    have : IntKind.u64.bits = 64 := rfl
    rw [this, Int.toNat_natCast]
    omega
  rw [hs]
  have hx : ((wd P (b / 64) : Nat) : Int) / 2 ^ (b % 64) = ((wd P (b / 64) / 2 ^ (b % 64) : Nat) : Int) := by
    rw [Int.natCast_ediv, Int.natCast_pow]; rfl
  have hq := wd_lt P (b / 64)
  rw [hx, show (1 : Int) = ((1 : Nat) : Int) from rfl, u64_and_nat _ _ (Nat.lt_of_le_of_lt (Nat.div_le_self _ _) hq) (by omega), Nat.and_one_is_mod]
  have ht : (wd P (b / 64)).testBit (b % 64) = P b := by
    rw [wd_bit, decide_eq_true (by omega : b % 64 < 64), Bool.true_and]
    congr 1
    omega
  rw [← ht, Nat.testBit_eq_decide_div_mod_eq]
  generalize wd P (b / 64) / 2 ^ (b % 64) % 2 = z
  by_cases hz : z = 1
  · simp [hz]
  · have : ¬ ((z : Int) = 1) := by omega
    simp [hz, this]
end Go.Proofs.YtmldefednihohaaDoor.Grp
