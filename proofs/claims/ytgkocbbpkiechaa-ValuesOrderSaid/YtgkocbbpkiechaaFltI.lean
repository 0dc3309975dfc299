/- Singles beside whole numbers: cutting towards zero, whole numbers as singles, the sign of a difference (no program in sight). -/
import Derived.Test.YtgkocbbpkiechaaFlt
namespace Go.Proofs.Ytgkocbbpkiechaa.Flt
set_option linter.unusedVariables false
set_option linter.unusedSimpArgs false
/-- What a whole one is worth. -/
def oneM : Nat := 2 ^ 149
theorem oneM_pos : 0 < oneM := Nat.pow_pos (by omega)
theorem cut_zero (s : Bool) (n drop : Nat) : Ieee.Toward.zero.cut s n drop = n / 2 ^ drop := by
  unfold Ieee.Toward.cut
  simp only [Bool.toNat_false, Nat.add_zero]
  rw [Nat.one_shiftLeft]
  by_cases h : drop ≤ n.log2 + 2
  · rw [Nat.min_eq_left h]
  · rw [Nat.min_eq_right (by omega)]
    have h1 : n < 2 ^ (n.log2 + 1) := Nat.lt_log2_self
    have h2 : (2 : Nat) ^ (n.log2 + 1) ≤ 2 ^ (n.log2 + 2) := pow_mono (by omega)
    have h3 : (2 : Nat) ^ (n.log2 + 1) ≤ 2 ^ drop := pow_mono (by omega)
    rw [Nat.div_eq_of_lt (by omega), Nat.div_eq_of_lt (by omega)]
theorem cut_even (s : Bool) {n drop c : Nat} (h : n = c * 2 ^ drop) (hc : 0 < c) : Ieee.Toward.even.cut s n drop = c := by
  have hp : 0 < (2 : Nat) ^ drop := Nat.pow_pos (by omega)
  have hn : 0 < n := by rw [h]; exact Nat.mul_pos hc hp
  have hl : drop ≤ n.log2 + 2 := by
    have h1 : 2 ^ drop ≤ n := by rw [h]; exact Nat.le_mul_of_pos_left _ hc
    have h2 := (Nat.le_log2 (by omega)).2 h1
    omega
  unfold Ieee.Toward.cut
  simp only []
  rw [Nat.one_shiftLeft, Nat.min_eq_left hl]
  have h1 : n / 2 ^ drop = c := by rw [h]; exact Nat.mul_div_cancel _ hp
  have h2 : n % 2 ^ drop = 0 := by rw [h]; exact Nat.mul_mod_left _ _
  rw [h1, h2]
  generalize (2 : Nat) ^ drop = g at hp
  have h3 : decide (g < 2 * 0) = false := decide_eq_false (by omega)
  have h4 : (g == 2 * 0) = false := by simp; omega
  rw [h3, h4]
  rfl
/-- A finite single, cut towards zero. -/
theorem toInt_V {b : Nat} (h : rg b < 2139095040) : (Ieee.single.read b).toInt .zero = some ((V b).tdiv (oneM : Int)) := by
  obtain ⟨m, k, hr, hm, _⟩ := read_fin h
  rw [hr]
  unfold Ieee.Datum.toInt Ieee.Datum.integral
  simp only [cut_zero]
  congr 1
  have hV : V b = if ng b then -((m * 2 ^ k : Nat) : Int) else ((m * 2 ^ k : Nat) : Int) := by rw [hm]; rfl
  have hq : (m <<< (-149 + (k : Int)).toNat) / 2 ^ (-(-149 + (k : Int))).toNat = m * 2 ^ k / oneM := by
    rw [Nat.shiftLeft_eq]
    unfold oneM
    by_cases hk : 149 ≤ k
    · rw [show (-149 + (k : Int)).toNat = k - 149 by omega, show (-(-149 + (k : Int))).toNat = 0 by omega]
      obtain ⟨d, rfl⟩ : ∃ d, k = d + 149 := ⟨k - 149, by omega⟩
      rw [show d + 149 - 149 = d by omega, Nat.pow_add, ← Nat.mul_assoc, Nat.mul_div_cancel _ (Nat.pow_pos (by omega))]
      simp
    · rw [show (-149 + (k : Int)).toNat = 0 by omega, show (-(-149 + (k : Int))).toNat = 149 - k by omega]
      obtain ⟨d, hd⟩ : ∃ d, d = 149 - k := ⟨_, rfl⟩
      rw [← hd, show (149 : Nat) = d + k by omega, Nat.pow_add, Nat.mul_div_mul_right _ _ (Nat.pow_pos (by omega))]
      simp
  rw [hq, signed_eq, hV]
  cases ng b
  · simp only [Bool.false_eq_true, if_false, Nat.pow_zero, Nat.mul_one]
    exact (Int.ofNat_tdiv _ _).symm
  · simp only [if_true, Nat.pow_zero, Nat.mul_one, Int.neg_tdiv]
    rw [← Int.ofNat_tdiv]
theorem word_V (s : Bool) {r : Nat} (h : r < 2147483648) : rg (Ieee.single.word s r) = r ∧ ng (Ieee.single.word s r) = s := by
  have e1 : Ieee.single.signWeight = 2147483648 := by decide
  unfold Ieee.Format.word rg ng
  rw [e1]
  cases s
  · simp only [Bool.false_eq_true, if_false]
    exact ⟨by omega, by rw [Nat.div_eq_of_lt h]; rfl⟩
  · simp only [if_true]
    exact ⟨by omega, by rw [show (2147483648 + r) / 2147483648 = 1 by omega]; rfl⟩
theorem V_word (s : Bool) {r : Nat} (h : r < 2147483648) : V (Ieee.single.word s r) = if s then -(mg r : Int) else (mg r : Int) := by
  have hw := word_V s h
  unfold V
  rw [hw.1, hw.2]
/-- A whole number of 24 binary digits and noughts, as a single: just that. -/
theorem nearest_whole (s : Bool) {N q e : Nat} (hN : N = q * 2 ^ e) (hq : q < 16777216) (hlt : N < 2 ^ 128) :
    nanB (Ieee.single.nearest s N 0) = false ∧ rg (Ieee.single.nearest s N 0) < 2139095040 ∧ V (Ieee.single.nearest s N 0) = if s then -((N * oneM : Nat) : Int) else ((N * oneM : Nat) : Int) := by
  by_cases h0 : N = 0
  · subst h0
    have : Ieee.single.nearest s 0 0 = Ieee.single.word s 0 := by unfold Ieee.Format.nearest; rw [if_pos rfl]
    rw [this]
    have hw := word_V s (r := 0) (by omega)
    refine ⟨?_, by rw [hw.1]; omega, by rw [V_word s (by omega)]; cases s <;> simp [mg]⟩
    unfold nanB
    rw [show Ieee.single.word s 0 % 2147483648 = 0 from hw.1]; rfl
  · obtain ⟨L, hL⟩ : ∃ L, L = N.log2 := ⟨_, rfl⟩
    have l1 : 2 ^ L ≤ N := by rw [hL]; exact Nat.log2_self_le h0
    have l2 : N < 2 ^ (L + 1) := by rw [hL]; exact Nat.lt_log2_self
    have hL2 : L ≤ 127 := by
      apply Nat.le_of_lt_succ
      exact (Nat.pow_lt_pow_iff_right (by omega : 1 < 2)).1 (Nat.lt_of_le_of_lt l1 hlt)
    have f1 : Ieee.single.leastPlace = -149 := by decide
    have f2 : Ieee.single.binade = 8388608 := by decide
    have f3 : Ieee.single.infRung = 2139095040 := by decide
    have f4 : Ieee.single.fractionBits = 23 := by decide
    -- the digits that are kept
    obtain ⟨c, hk, hc1, hc2, hc3⟩ : ∃ c, Ieee.Toward.even.cut s (N <<< (0 - ((L : Int) - 23)).toNat) ((L : Int) - 23 - 0).toNat = c ∧ 8388608 ≤ c ∧ c < 16777216 ∧ c * 2 ^ (L + 126) = N * oneM := by
      by_cases h23 : 23 ≤ L
      · have he : L - 23 ≤ e := by
          apply Classical.byContradiction
          intro hne
          have h1 : (2 : Nat) ^ e ≤ 2 ^ (L - 24) := pow_mono (by omega)
          have h2 : N < 16777216 * 2 ^ (L - 24) := by
            rw [hN]
            exact Nat.lt_of_lt_of_le (Nat.mul_lt_mul_of_pos_right hq (Nat.pow_pos (by omega))) (Nat.mul_le_mul_left _ h1)
          have h3 : (16777216 : Nat) * 2 ^ (L - 24) = 2 ^ L := by
            rw [show (16777216 : Nat) = 2 ^ 24 from rfl, ← Nat.pow_add]; congr 1; omega
          omega
        have hsplit : N = (q * 2 ^ (e - (L - 23))) * 2 ^ (L - 23) := by
          rw [hN, Nat.mul_assoc, ← Nat.pow_add]; congr 2; omega
        obtain ⟨c, hc⟩ : ∃ c, c = q * 2 ^ (e - (L - 23)) := ⟨_, rfl⟩
        rw [← hc] at hsplit
        have hcp : 0 < c := Nat.pos_of_ne_zero (fun e0 => h0 (by rw [hsplit, e0, Nat.zero_mul]))
        refine ⟨c, ?_, ?_, ?_, ?_⟩
        · rw [show (0 - ((L : Int) - 23)).toNat = 0 by omega, show ((L : Int) - 23 - 0).toNat = L - 23 by omega]
          exact cut_even s hsplit hcp
        · apply Nat.le_of_lt_succ
          apply Nat.lt_succ_of_le
          apply Nat.le_of_mul_le_mul_right (c := 2 ^ (L - 23)) _ (Nat.pow_pos (by omega))
          rw [← hsplit, show (8388608 : Nat) = 2 ^ 23 from rfl, ← Nat.pow_add, show 23 + (L - 23) = L by omega]
          exact l1
        · apply Nat.lt_of_mul_lt_mul_right (a := 2 ^ (L - 23))
          rw [← hsplit, show (16777216 : Nat) = 2 ^ 24 from rfl, ← Nat.pow_add, show 24 + (L - 23) = L + 1 by omega]
          exact l2
        · rw [hsplit, Nat.mul_assoc]
          unfold oneM
          rw [← Nat.pow_add]; congr 2; omega
      · obtain ⟨d, hd⟩ : ∃ d, d = 23 - L := ⟨_, rfl⟩
        have hp : 0 < N * 2 ^ d := Nat.mul_pos (Nat.pos_of_ne_zero h0) (Nat.pow_pos (by omega))
        refine ⟨N * 2 ^ d, ?_, ?_, ?_, ?_⟩
        · rw [show (0 - ((L : Int) - 23)).toNat = d by omega, show ((L : Int) - 23 - 0).toNat = 0 by omega, Nat.shiftLeft_eq]
          exact cut_even s (by simp) hp
        · have : 2 ^ L * 2 ^ d ≤ N * 2 ^ d := Nat.mul_le_mul_right _ l1
          rw [← Nat.pow_add, show L + d = 23 by omega] at this
          exact this
        · have : N * 2 ^ d < 2 ^ (L + 1) * 2 ^ d := Nat.mul_lt_mul_of_pos_right l2 (Nat.pow_pos (by omega))
          rw [← Nat.pow_add, show L + 1 + d = 24 by omega] at this
          exact this
        · rw [Nat.mul_assoc, ← Nat.pow_add]
          unfold oneM
          congr 2; omega
    have hn : Ieee.single.nearest s N 0 = Ieee.single.word s ((L + 126) * 8388608 + c) := by
      unfold Ieee.Format.nearest
      rw [if_neg h0, f1, f2, f3, f4, ← hL]
      simp only []
      have hm : max (0 + (L : Int) - ((23 : Nat) : Int)) (-149) = (L : Int) - 23 := by omega
      rw [hm, hk, show ((L : Int) - 23 - -149).toNat = L + 126 by omega, Nat.min_eq_left (by omega)]
    rw [hn]
    have hr : (L + 126) * 8388608 + c < 2147483648 := by omega
    have hw := word_V s hr
    have hmg : mg ((L + 126) * 8388608 + c) = N * oneM := by
      rw [mg_high (by omega), ← hc3]
      have h1 : ((L + 126) * 8388608 + c) % 8388608 = c - 8388608 := by omega
      have h2 : ((L + 126) * 8388608 + c) / 8388608 = L + 127 := by omega
      rw [h1, h2, show 8388608 + (c - 8388608) = c by omega, show L + 127 - 1 = L + 126 by omega]
    refine ⟨?_, by rw [hw.1]; omega, by rw [V_word s hr, hmg]⟩
    unfold nanB
    rw [show Ieee.single.word s ((L + 126) * 8388608 + c) % 2147483648 = (L + 126) * 8388608 + c from hw.1]
    exact decide_eq_false (by omega)
theorem mg_pos {r : Nat} (h : 0 < r) : 0 < mg r := by
  by_cases h1 : r < 8388608
  · rw [mg_low h1]; exact h
  · rw [mg_high h1]; exact Nat.mul_pos (by omega) (Nat.pow_pos (by omega))
/-- What is written of a number: no nought of anything else, its sign. -/
theorem nearest_sign (s : Bool) (mag : Nat) {place : Int} (hp : -149 ≤ place) : ∃ r, Ieee.single.nearest s mag place = Ieee.single.word s r ∧ r ≤ 2139095040 ∧ (mag = 0 → r = 0) ∧ (0 < mag → 0 < r) := by
  have f1 : Ieee.single.leastPlace = -149 := by decide
  have f2 : Ieee.single.binade = 8388608 := by decide
  have f3 : Ieee.single.infRung = 2139095040 := by decide
  unfold Ieee.Format.nearest
  rw [f1, f2, f3]
  by_cases h0 : mag = 0
  · rw [if_pos h0]
    exact ⟨0, rfl, by omega, fun _ => rfl, fun h => by omega⟩
  · rw [if_neg h0]
    simp only []
    obtain ⟨last, hlast⟩ : ∃ last, last = max (place + (mag.log2 : Int) - (Ieee.single.fractionBits : Int)) (-149) := ⟨_, rfl⟩
    rw [← hlast]
    refine ⟨_, rfl, Nat.min_le_right _ _, fun h => absurd h h0, fun _ => ?_⟩
    by_cases hl : last = -149
    · have hk : Ieee.Toward.even.cut s (mag <<< (place - last).toNat) (last - place).toNat = mag <<< (place - last).toNat := by
        rw [show (last - place).toNat = 0 by omega]
        have : 0 < mag <<< (place - last).toNat := by rw [Nat.shiftLeft_eq]; exact Nat.mul_pos (by omega) (Nat.pow_pos (by omega))
        exact cut_even s (by simp) this
      rw [hk]
      have : 0 < mag <<< (place - last).toNat := by rw [Nat.shiftLeft_eq]; exact Nat.mul_pos (by omega) (Nat.pow_pos (by omega))
      omega
    · have : 1 ≤ (last - -149).toNat := by omega
      have : 8388608 ≤ (last - -149).toNat * 8388608 := Nat.le_mul_of_pos_left _ this
      omega
theorem signed_not (s : Bool) (m u : Nat) : Ieee.signed (!s) m u = -Ieee.signed s m u := by
  rw [signed_eq, signed_eq]; cases s <;> simp
/-- A difference of finite singles: a single whose sign is that of the worths' difference. -/
theorem sub_V {a b : Nat} (ha : rg a < 2139095040) (hb : rg b < 2139095040) : ∃ w, Ieee.single.sub a b = some w ∧ nanB w = false ∧ (V w < 0 ↔ V a < V b) ∧ (0 < V w ↔ V b < V a) := by
  obtain ⟨m, k, hr, hm, _⟩ := read_fin ha
  obtain ⟨n, l, hs, hn, _⟩ := read_fin hb
  have hVa := V_fin hm
  have hVb := V_fin hn
  obtain ⟨p, hp⟩ : ∃ p, p = min k l := ⟨_, rfl⟩
  have hbase : min (-149 + (k : Int)) (-149 + (l : Int)) = -149 + (p : Int) := by omega
  have e1 : (-149 + (k : Int) - (-149 + (p : Int))).toNat = k - p := by omega
  have e2 : (-149 + (l : Int) - (-149 + (p : Int))).toNat = l - p := by omega
  have h1 := signed_up (ng a) m (k - p) p
  have h2 := signed_up (ng b) n (l - p) p
  rw [show k - p + p = k by omega] at h1
  rw [show l - p + p = l by omega] at h2
  obtain ⟨t, ht⟩ : ∃ t, t = Ieee.signed (ng a) m (k - p) + Ieee.signed (!(ng b)) n (l - p) := ⟨_, rfl⟩
  have hV : V a - V b = t * ((2 ^ p : Nat) : Int) := by
    rw [hVa, hVb, h1, h2, ht, signed_not, Int.add_mul, Int.neg_mul]; omega
  have hpp : (0 : Int) < ((2 ^ p : Nat) : Int) := by have : 0 < 2 ^ p := Nat.pow_pos (by omega); omega
  have hneg : t < 0 ↔ V a < V b := by
    constructor
    · intro h
      have := Int.mul_neg_of_neg_of_pos h hpp
      omega
    · intro h
      apply Classical.byContradiction
      intro hn
      have := Int.mul_nonneg (show 0 ≤ t by omega) (Int.le_of_lt hpp)
      omega
  have hpos : 0 < t ↔ V b < V a := by
    constructor
    · intro h
      have := Int.mul_pos h hpp
      omega
    · intro h
      apply Classical.byContradiction
      intro hn
      have := Int.mul_nonneg (show 0 ≤ -t by omega) (Int.le_of_lt hpp)
      rw [Int.neg_mul] at this
      omega
  obtain ⟨s', hs'⟩ : ∃ s', s' = (if t = 0 then ng a && !(ng b) else decide (t < 0)) := ⟨_, rfl⟩
  obtain ⟨r, hw, hr1, hr2, hr3⟩ := nearest_sign s' t.natAbs (place := -149 + (p : Int)) (by omega)
  refine ⟨Ieee.single.word s' r, ?_, ?_, ?_, ?_⟩
  · unfold Ieee.Format.sub
    rw [hr, hs]
    simp only [Ieee.Datum.opposite, Ieee.Datum.sum, hbase, e1, e2, ← ht, Option.map_some, Ieee.Format.write]
    rw [← hs', hw]
  · have hw := word_V s' (r := r) (by omega)
    unfold nanB
    rw [show Ieee.single.word s' r % 2147483648 = r from hw.1]
    exact decide_eq_false (by omega)
  · rw [V_word s' (by omega), ← hneg, hs']
    by_cases h0 : t = 0
    · have : r = 0 := hr2 (by omega)
      subst this
      rw [h0]
      simp [mg]
    · have : 0 < mg r := mg_pos (hr3 (by omega))
      rw [if_neg h0]
      by_cases ht : t < 0
      · simp only [ht, decide_true, if_true]; constructor <;> intro _ <;> first | trivial | omega
      · simp only [ht, decide_false, Bool.false_eq_true, if_false]; constructor <;> intro _ <;> first | trivial | omega
  · rw [V_word s' (by omega), ← hpos, hs']
    by_cases h0 : t = 0
    · have : r = 0 := hr2 (by omega)
      subst this
      rw [h0]
      simp [mg]
    · have : 0 < mg r := mg_pos (hr3 (by omega))
      rw [if_neg h0]
      by_cases ht : t < 0
      · simp only [ht, decide_true, if_true]; constructor <;> intro _ <;> omega
      · simp only [ht, decide_false, Bool.false_eq_true, if_false]; constructor <;> intro _ <;> omega
end Go.Proofs.Ytgkocbbpkiechaa.Flt
