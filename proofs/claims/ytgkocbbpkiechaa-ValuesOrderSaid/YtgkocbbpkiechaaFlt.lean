/- Singles by their exact worth: order, whole part, difference (no program in sight). -/
import Derived.Laws.FloatArith
namespace Go.Proofs.Ytgkocbbpkiechaa.Flt
set_option linter.unusedVariables false
set_option linter.unusedSimpArgs false
/-- The rung of a word, its sign, whether it is no number. -/
def rg (b : Nat) : Nat := b % 2147483648
def ng (b : Nat) : Bool := b / 2147483648 % 2 == 1
def nanB (b : Nat) : Bool := decide (2139095040 < b % 2147483648)
/-- The worth of a rung, in units of 2^-149 (that of infinity's rung is 2^128). -/
def mg (r : Nat) : Nat := if r < 8388608 then r else (8388608 + r % 8388608) * 2 ^ (r / 8388608 - 1)
/-- The worth of a word. -/
def V (b : Nat) : Int := if ng b then -(mg (rg b) : Int) else (mg (rg b) : Int)
theorem mg_low {r : Nat} (h : r < 8388608) : mg r = r := by unfold mg; rw [if_pos h]
theorem mg_high {r : Nat} (h : ¬ r < 8388608) : mg r = (8388608 + r % 8388608) * 2 ^ (r / 8388608 - 1) := by unfold mg; rw [if_neg h]
/-- What a word stands for. -/
theorem read_low {b : Nat} (h : rg b < 8388608) : Ieee.single.read b = .number (ng b) (rg b) (-149) := by
  have e1 : Ieee.single.signWeight = 2147483648 := by decide
  have e2 : Ieee.single.binade = 8388608 := by decide
  have e4 : Ieee.single.leastPlace = -149 := by decide
  unfold Ieee.Format.read ng rg at *
  rw [e1, e2, e4]
  simp only [h, if_true]
theorem read_mid {b : Nat} (h : ¬ rg b < 8388608) (h2 : rg b < 2139095040) : Ieee.single.read b = .number (ng b) (8388608 + rg b % 8388608) (-149 + ((rg b / 8388608 - 1 : Nat) : Int)) := by
  have e1 : Ieee.single.signWeight = 2147483648 := by decide
  have e2 : Ieee.single.binade = 8388608 := by decide
  have e3 : Ieee.single.infRung = 2139095040 := by decide
  have e4 : Ieee.single.leastPlace = -149 := by decide
  unfold Ieee.Format.read ng rg at *
  rw [e1, e2, e3, e4]
  simp only [h, h2, if_true, if_false]
theorem read_inf {b : Nat} (h : rg b = 2139095040) : Ieee.single.read b = .infinity (ng b) := by
  have e1 : Ieee.single.signWeight = 2147483648 := by decide
  have e2 : Ieee.single.binade = 8388608 := by decide
  have e3 : Ieee.single.infRung = 2139095040 := by decide
  unfold Ieee.Format.read ng rg at *
  rw [e1, e2, e3]
  simp only [h]
  rfl
theorem read_nan {b : Nat} (h : nanB b = true) : ∃ t, Ieee.single.read b = .nan (ng b) t := by
  have e1 : Ieee.single.signWeight = 2147483648 := by decide
  have e2 : Ieee.single.binade = 8388608 := by decide
  have e3 : Ieee.single.infRung = 2139095040 := by decide
  have h := of_decide_eq_true h
  refine ⟨rg b - 2139095040, ?_⟩
  unfold Ieee.Format.read ng rg at *
  rw [e1, e2, e3]
  simp only []
  rw [if_neg (by omega), if_neg (by omega), if_neg (by omega)]
/-- A finite word: a number of some digits at a place of -149 or more, its worth. -/
theorem read_fin {b : Nat} (h : rg b < 2139095040) : ∃ (m k : Nat), Ieee.single.read b = .number (ng b) m (-149 + (k : Int)) ∧ m * 2 ^ k = mg (rg b) ∧ m < 16777216 ∧ k ≤ 253 ∧ (k = 0 ∨ 8388608 ≤ m) := by
  by_cases h1 : rg b < 8388608
  · exact ⟨rg b, 0, by rw [read_low h1]; rfl, by rw [mg_low h1]; simp, by omega, by omega, .inl rfl⟩
  · exact ⟨8388608 + rg b % 8388608, rg b / 8388608 - 1, read_mid h1 h, (mg_high h1).symm, by omega, by omega, .inr (by omega)⟩
theorem pow_mono {a b : Nat} (h : a ≤ b) : 2 ^ a ≤ 2 ^ b := Nat.pow_le_pow_right (by omega) h
/-- The worth of infinity's rung. -/
def topM : Nat := 16777216 * 2 ^ 253
theorem mg_inf : mg 2139095040 = topM := by
  rw [mg_high (by decide)]
  show (8388608 + 0) * 2 ^ 254 = 16777216 * 2 ^ 253
  rw [show (254 : Nat) = 253 + 1 from rfl, Nat.pow_succ]
/-- A finite worth lies below infinity's. -/
theorem mg_lt {r : Nat} (h : r < 2139095040) : mg r < topM := by
  by_cases h1 : r < 8388608
  · rw [mg_low h1]; exact Nat.lt_of_lt_of_le (show r < 16777216 * 1 by omega) (Nat.mul_le_mul_left _ (Nat.pow_pos (by omega)))
  · rw [mg_high h1]
    have h2 : 2 ^ (r / 8388608 - 1) ≤ 2 ^ 253 := pow_mono (by omega)
    calc (8388608 + r % 8388608) * 2 ^ (r / 8388608 - 1) ≤ (8388608 + r % 8388608) * 2 ^ 253 := Nat.mul_le_mul_left _ h2
      _ < 16777216 * 2 ^ 253 := Nat.mul_lt_mul_of_pos_right (by omega) (Nat.pow_pos (by omega))
theorem signed_eq (s : Bool) (m u : Nat) : Ieee.signed s m u = if s then -((m * 2 ^ u : Nat) : Int) else ((m * 2 ^ u : Nat) : Int) := by
  unfold Ieee.signed; rw [Nat.shiftLeft_eq]
theorem V_fin {b m k : Nat} (h : m * 2 ^ k = mg (rg b)) : V b = Ieee.signed (ng b) m k := by
  rw [signed_eq, h]; rfl
theorem signed_up (s : Bool) (m u v : Nat) : Ieee.signed s m (u + v) = Ieee.signed s m u * (2 ^ v : Nat) := by
  rw [signed_eq, signed_eq, Nat.pow_add, ← Nat.mul_assoc, Int.natCast_mul (m * 2 ^ u)]
  cases s <;> simp [Int.neg_mul]
theorem compare_mul (a b : Int) {c : Nat} (hc : 0 < c) : compare (a * (c : Int)) (b * (c : Int)) = compare a b := by
  have hc' : (0 : Int) < (c : Int) := by omega
  rcases Int.lt_trichotomy a b with h | h | h
  · have := Int.mul_lt_mul_of_pos_right h hc'
    simp [compare, compareOfLessAndEq, h, this]
  · subst h; simp
  · have h2 := Int.mul_lt_mul_of_pos_right h hc'
    have e1 : ¬ a < b := by omega
    have e2 : ¬ a = b := by omega
    have e3 : ¬ a * (c : Int) < b * (c : Int) := by omega
    have e4 : ¬ a * (c : Int) = b * (c : Int) := by omega
    simp only [compare, compareOfLessAndEq, e1, e2, e3, e4, if_false]
/-- How two words stand to each other. -/
theorem order_V (a b : Nat) (ha : nanB a = false) (hb : nanB b = false) : Ieee.single.order a b = some (compare (V a) (V b)) := by
  have ha := of_decide_eq_false ha
  have hb := of_decide_eq_false hb
  show (Ieee.single.read a).order (Ieee.single.read b) = _
  by_cases fa : rg a < 2139095040
  · obtain ⟨m, k, hr, hm, _⟩ := read_fin fa
    rw [hr, V_fin hm]
    by_cases fb : rg b < 2139095040
    · obtain ⟨n, l, hs, hn, _⟩ := read_fin fb
      rw [hs, V_fin hn]
      unfold Ieee.Datum.order
      simp only []
      by_cases hkl : k ≤ l
      · have : min (-149 + (k : Int)) (-149 + (l : Int)) = -149 + (k : Int) := by omega
        rw [this, show (-149 + (k : Int) - (-149 + (k : Int))).toNat = 0 by omega, show (-149 + (l : Int) - (-149 + (k : Int))).toNat = l - k by omega]
        have h1 := signed_up (ng a) m 0 k
        have h2 := signed_up (ng b) n (l - k) k
        rw [Nat.zero_add] at h1
        rw [show l - k + k = l by omega] at h2
        rw [h1, h2, compare_mul _ _ (Nat.pow_pos (by omega))]
      · have : min (-149 + (k : Int)) (-149 + (l : Int)) = -149 + (l : Int) := by omega
        rw [this, show (-149 + (l : Int) - (-149 + (l : Int))).toNat = 0 by omega, show (-149 + (k : Int) - (-149 + (l : Int))).toNat = k - l by omega]
        have h1 := signed_up (ng b) n 0 l
        have h2 := signed_up (ng a) m (k - l) l
        rw [Nat.zero_add] at h1
        rw [show k - l + l = k by omega] at h2
        rw [h1, h2, compare_mul _ _ (Nat.pow_pos (by omega))]
    · have eb : rg b = 2139095040 := by unfold rg at *; omega
      rw [read_inf eb, ← V_fin hm]
      have hl := mg_lt fa
      unfold Ieee.Datum.order V
      simp only []
      rw [eb, mg_inf]
      generalize topM = I at hl
      generalize mg (rg a) = x at hl
      cases ng a <;> cases ng b <;> simp only [if_true, if_false, Bool.false_eq_true] <;> congr 1 <;> simp only [compare, compareOfLessAndEq] <;> (first | rw [if_pos (by omega)] | (rw [if_neg (by omega), if_neg (by omega)]))
  · have ea : rg a = 2139095040 := by unfold rg at *; omega
    rw [read_inf ea]
    by_cases fb : rg b < 2139095040
    · obtain ⟨n, l, hs, hn, _⟩ := read_fin fb
      rw [hs]
      have hl := mg_lt fb
      unfold Ieee.Datum.order V
      simp only []
      rw [ea, mg_inf]
      generalize topM = I at hl
      generalize mg (rg b) = x at hl
      cases ng a <;> cases ng b <;> simp only [if_true, if_false, Bool.false_eq_true] <;> congr 1 <;> simp only [compare, compareOfLessAndEq] <;> (first | rw [if_pos (by omega)] | (rw [if_neg (by omega), if_neg (by omega)]))
    · have eb : rg b = 2139095040 := by unfold rg at *; omega
      rw [read_inf eb]
      unfold Ieee.Datum.order V
      simp only []
      rw [ea, eb, mg_inf]
      have hl : 0 < topM := Nat.mul_pos (by omega) (Nat.pow_pos (by omega))
      generalize topM = I at hl
      cases ng a <;> cases ng b <;> simp only [if_true, if_false, Bool.false_eq_true] <;> congr 1 <;> simp only [compare, compareOfLessAndEq, Bool.toNat_true, Bool.toNat_false] <;> (first | (simp; done) | rw [if_pos (by omega), if_pos (by omega)] | (rw [if_neg (by omega), if_neg (by omega), if_neg (by omega), if_neg (by omega)]) | (rw [if_neg (by omega), if_pos (by omega), if_neg (by omega), if_pos (by omega)]) | (rw [if_neg (by omega), if_neg (by omega)]))
theorem order_nan1 (a b : Nat) (h : nanB a = true) : Ieee.single.order a b = none := by
  obtain ⟨t, ht⟩ := read_nan h
  show (Ieee.single.read a).order (Ieee.single.read b) = _
  rw [ht]; rfl
theorem order_nan2 (a b : Nat) (h : nanB b = true) : Ieee.single.order a b = none := by
  obtain ⟨t, ht⟩ := read_nan h
  show (Ieee.single.read a).order (Ieee.single.read b) = _
  rw [ht]
  cases Ieee.single.read a <;> rfl
end Go.Proofs.Ytgkocbbpkiechaa.Flt
