/- Bits of bytes. -/
import Derived.Test.YtkjkmaopifmghaaPureArmor
namespace Go.Proofs.Ytkjkmaopifmghaa.PureBits
open Go.RowKit Go.Proofs.YtkjkmaopifmghaaW.PrintWords Go.Proofs.YtkjkmaopifmghaaW.PrintLast Go.Proofs.YtkjkmaopifmghaaW.PrintMore Go.Proofs.Ytkjkmaopifmghaa.PureArmor
/-- The bit at place p of some bytes; 0 beyond them. -/
def bitAt (b : List Int) (p : Nat) : Int := if p < 8 * b.length then rd b ((p / 8 : Nat) : Int) / 2 ^ (7 - p % 8) % 2 else 0
def vAt (b : List Int) : Nat → Int
  | 0 => 0
  | p + 1 => 2 * vAt b p + bitAt b p
theorem bit_in {b : List Int} {i j : Nat} (hi : i < b.length) (hj : j < 8) : bitAt b (8 * i + j) = b[i] / 2 ^ (7 - j) % 2 := by
  unfold bitAt
  rw [if_pos (by omega), show (8 * i + j) / 8 = i by omega, show (8 * i + j) % 8 = j by omega, rd_nat hi]
theorem vAt_byte {b : List Int} {i : Nat} (hi : i < b.length) (hb : 0 ≤ b[i] ∧ b[i] < 256) : vAt b (8 * i + 8) = vAt b (8 * i) * 256 + b[i] := by
  have e0 := bit_in hi (j := 0) (by omega)
  have e1 := bit_in hi (j := 1) (by omega)
  have e2 := bit_in hi (j := 2) (by omega)
  have e3 := bit_in hi (j := 3) (by omega)
  have e4 := bit_in hi (j := 4) (by omega)
  have e5 := bit_in hi (j := 5) (by omega)
  have e6 := bit_in hi (j := 6) (by omega)
  have e7 := bit_in hi (j := 7) (by omega)
  simp only [vAt]
  rw [e7, e6, e5, e4, e3, e2, e1]
  rw [show 8 * i = 8 * i + 0 from rfl, e0]
  clear e0 e1 e2 e3 e4 e5 e6 e7
  generalize b[i] = x at *
  generalize vAt b (8 * i + 0) = v
  simp only [Nat.reduceSub]
  omega
theorem vAt_take {b : List Int} (hb : ∀ x ∈ b, 0 ≤ x ∧ x < 256) : ∀ i, i ≤ b.length → vAt b (8 * i) = numOf 256 (b.take i) := by
  intro i
  induction i with
  | zero => intro _; simp [vAt, numOf]
  | succ i ih =>
    intro hi
    have hi' : i < b.length := by omega
    rw [show 8 * (i + 1) = 8 * i + 8 by omega, vAt_byte hi' (hb _ (List.getElem_mem hi')), ih (by omega), List.take_succ_eq_append_getElem hi', numOf_snoc]
theorem vAt_end {b : List Int} (n : Nat) : vAt b (8 * b.length + n) = vAt b (8 * b.length) * 2 ^ n := by
  induction n with
  | zero => simp
  | succ n ih =>
    show 2 * vAt b (8 * b.length + n) + bitAt b (8 * b.length + n) = _
    have : bitAt b (8 * b.length + n) = 0 := by unfold bitAt; rw [if_neg (by omega)]
    rw [this, ih, Int.pow_succ, Int.add_zero, Int.mul_comm 2, Int.mul_assoc]
/-- The value of j bits from p on. -/
def cAt (b : List Int) (p : Nat) : Nat → Int
  | 0 => 0
  | j + 1 => 2 * cAt b p j + bitAt b (p + j)
theorem bit_01 (b : List Int) (p : Nat) : bitAt b p = 0 ∨ bitAt b p = 1 := by
  unfold bitAt
  split
  · generalize rd b ((p / 8 : Nat) : Int) / 2 ^ (7 - p % 8) = y
    omega
  · exact .inl rfl
theorem cAt_bound (b : List Int) (p : Nat) : ∀ j, 0 ≤ cAt b p j ∧ cAt b p j < 2 ^ j := by
  intro j
  induction j with
  | zero => simp [cAt]
  | succ j ih =>
    have := bit_01 b (p + j)
    simp only [cAt, Int.pow_succ]
    omega
theorem vAt_c (b : List Int) (p : Nat) : ∀ j, vAt b (p + j) = vAt b p * 2 ^ j + cAt b p j := by
  intro j
  induction j with
  | zero => simp [cAt]
  | succ j ih =>
    show 2 * vAt b (p + j) + bitAt b (p + j) = _
    rw [ih]
    simp only [cAt, Int.pow_succ]
    rw [Int.mul_add, ← Int.mul_assoc, Int.mul_comm 2 (vAt b p), Int.mul_assoc (vAt b p) 2, Int.mul_comm 2 (2 ^ j), Int.add_assoc]
theorem tdiv8 (p : Nat) (h : p < 4611686018427387904) : wrap64 (Int.tdiv (p : Int) 8) = ((p / 8 : Nat) : Int) := by
  rw [Int.tdiv_eq_ediv_of_nonneg (by omega), wrap64_small (by omega) (by omega)]
  omega
theorem tmod8 (p : Nat) : IntKind.u64.wrap (wrap64 (7 - (Int.tmod (p : Int) 8))) = ((7 - p % 8 : Nat) : Int) := by
  rw [Int.tmod_eq_emod_of_nonneg (by omega), wrap64_small (by omega) (by omega), u64_wrap]
  omega
theorem shr8 (y : Int) (j : Nat) (hj : j < 8) (hy : 0 ≤ y) : Int.tmod (shr .u8 y (j : Int)) 2 = y / 2 ^ j % 2 := by
  have hp0 : (0 : Int) < 2 ^ j := by exact_mod_cast Nat.two_pow_pos j
  have hm : min ((j : Int)).toNat IntKind.u8.bits = j := by
    show min ((j : Int)).toNat 8 = j
    omega
  unfold shr
  rw [hm, Int.tmod_eq_emod_of_nonneg (Int.ediv_nonneg hy (by omega))]
end Go.Proofs.Ytkjkmaopifmghaa.PureBits
