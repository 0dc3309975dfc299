/- reals.CompareInt: how a single stands beside a whole number (a plain walk). -/
import Derived.Test.YtgkocbbpkiechaaProg
import Derived.Test.YtgkocbbpkiechaaWKept
import Derived.Test.YtgkocbbpkiechaaWMore
import Derived.Test.YtgkocbbpkiechaaWLast
import Derived.Test.YtgkocbbpkiechaaWApart
import Derived.WalkKit
import Derived.WalkLawsBesides
import Derived.WalkSpells
import Derived.Lib.Hide
import Derived.Outline
import Derived.Deep.RegionLaw
import Derived.Test.YtgkocbbpkiechaaValOrd
import Derived.WalkLawsBesides
namespace Go.Proofs.Ytgkocbbpkiechaa.Val
open Go.RowKit Go.Proofs.YtgkocbbpkiechaaW.PrintWords Go.Proofs.YtgkocbbpkiechaaW.PrintLast Go.Proofs.YtgkocbbpkiechaaW.PrintMore Go.Proofs.Ytgkocbbpkiechaa.Flt
set_option linter.unusedVariables false
set_option linter.unusedSimpArgs false
set_option maxRecDepth 100000
theorem c_lt (x y : Int) : (some (compare x y) == some Ordering.lt) = decide (x < y) := by
  rcases Int.lt_trichotomy x y with h | h | h
  · simp [compare, compareOfLessAndEq, h]
  · subst h; simp [compare, compareOfLessAndEq]
  · have e1 : ¬ x < y := by omega
    have e2 : ¬ x = y := by omega
    simp [compare, compareOfLessAndEq, e1, e2]
theorem c_gt (x y : Int) : (some (compare x y) == some Ordering.gt) = decide (y < x) := by
  rcases Int.lt_trichotomy x y with h | h | h
  · have e1 : ¬ y < x := by omega
    simp [compare, compareOfLessAndEq, h, e1]
  · subst h; simp [compare, compareOfLessAndEq]
  · have e1 : ¬ x < y := by omega
    have e2 : ¬ x = y := by omega
    simp [compare, compareOfLessAndEq, e1, e2, h]
theorem c_eq (x y : Int) : (some (compare x y) == some Ordering.eq) = decide (x = y) := by
  rcases Int.lt_trichotomy x y with h | h | h
  · have e1 : ¬ x = y := by omega
    simp [compare, compareOfLessAndEq, h, e1]
  · subst h; simp [compare, compareOfLessAndEq]
  · have e1 : ¬ x < y := by omega
    have e2 : ¬ x = y := by omega
    simp [compare, compareOfLessAndEq, e1, e2]
theorem f_lt {a b : Nat} (ha : nanB a = false) (hb : nanB b = false) : (FloatKind.f32.format.order a b == some Ordering.lt) = decide (V a < V b) := by
  rw [show FloatKind.f32.format.order a b = some (compare (V a) (V b)) from order_V a b ha hb]; exact c_lt _ _
theorem f_gt {a b : Nat} (ha : nanB a = false) (hb : nanB b = false) : (FloatKind.f32.format.order a b == some Ordering.gt) = decide (V b < V a) := by
  rw [show FloatKind.f32.format.order a b = some (compare (V a) (V b)) from order_V a b ha hb]; exact c_gt _ _
theorem f_eq {a b : Nat} (ha : nanB a = false) (hb : nanB b = false) : (FloatKind.f32.format.order a b == some Ordering.eq) = decide (V a = V b) := by
  rw [show FloatKind.f32.format.order a b = some (compare (V a) (V b)) from order_V a b ha hb]; exact c_eq _ _
theorem f_self (b : Nat) : (FloatKind.f32.format.order b b != some Ordering.eq) = nanB b := by
  cases h : nanB b with
  | true => rw [show FloatKind.f32.format.order b b = none from order_nan1 b b h]; rfl
  | false =>
    have := f_eq h h
    rw [decide_eq_true rfl] at this
    unfold bne; rw [this]; rfl
theorem V_zero : V 0 = 0 := by decide
theorem V_top : V 1593835520 = ((9223372036854775808 * oneM : Nat) : Int) := by
  unfold V
  rw [if_neg (by decide)]
  congr 1
theorem V_bot : V 3741319168 = -((9223372036854775808 * oneM : Nat) : Int) := by
  unfold V
  rw [if_pos (by decide)]
  congr 2
/-- A worth cut towards zero, by D, beside n. -/
theorem tdiv_lt {v n D : Int} (hD : 0 < D) (h : v.tdiv D < n) : v < n * D := by
  have e := Int.tmod_add_mul_tdiv v D
  have l1 : v.tmod D < D := Int.tmod_lt_of_pos v hD
  have l2 : (v.tdiv D + 1) * D ≤ n * D := Int.mul_le_mul_of_nonneg_right h (by omega)
  rw [Int.add_mul, Int.one_mul, Int.mul_comm] at l2
  omega
theorem tdiv_gt {v n D : Int} (hD : 0 < D) (h : n < v.tdiv D) : n * D < v := by
  have e := Int.tmod_add_mul_tdiv v D
  have l1 : -D < v.tmod D := by have h := Int.tmod_lt_of_pos (-v) hD; rw [Int.neg_tmod] at h; omega
  have l2 : (n + 1) * D ≤ v.tdiv D * D := Int.mul_le_mul_of_nonneg_right h (by omega)
  rw [Int.add_mul, Int.one_mul, Int.mul_comm (v.tdiv D)] at l2
  omega
/-- How a single stands beside a whole number. -/
theorem compareInt_calls (b : Nat) (n : Int) (w : World) (hn1 : -9223372036854775808 ≤ n) (hn2 : n ≤ 9223372036854775807) :
    Calls Try.prog 25 #[.float .f32 b, .int .i64 n] w fun e w' => e = .returned (.tuple #[.int .i64 (if nanB b then 0 else cmpI (V b) (n * (oneM : Int))), .bool (!nanB b)]) ∧ w' = w := by
  have ho := f_self b
  cases hb : nanB b with
  | true =>
    rw [hb] at ho
    go_enter Try.func25, Try.ntmps25
    go_wp2
    go_ret2
    exact ⟨by simp, rfl⟩
  | false =>
    rw [hb] at ho
    have hD : (0 : Int) < (oneM : Int) := by have := oneM_pos; omega
    have hc1 : nanB 1593835520 = false := by decide
    have hc2 : nanB 3741319168 = false := by decide
    have g1 := f_gt hb hc1
    have g2 := f_eq hb hc1
    have g3 := f_lt hb hc2
    rw [V_top, Int.natCast_mul] at g1 g2
    rw [V_bot, Int.natCast_mul] at g3
    have m1 : n * (oneM : Int) ≤ 9223372036854775807 * (oneM : Int) := Int.mul_le_mul_of_nonneg_right hn2 (by omega)
    have m2 : -9223372036854775808 * (oneM : Int) ≤ n * (oneM : Int) := Int.mul_le_mul_of_nonneg_right hn1 (by omega)
    by_cases hA : ((9223372036854775808 : Nat) : Int) * (oneM : Int) ≤ V b
    · have hc : cmpI (V b) (n * (oneM : Int)) = 1 := cmpI_gt (by omega)
      by_cases hA2 : ((9223372036854775808 : Nat) : Int) * (oneM : Int) < V b
      · rw [decide_eq_true hA2] at g1
        rw [decide_eq_false (by omega)] at g2
        clear m1 m2 g3 hD hn1 hn2 hA hA2
        go_enter Try.func25, Try.ntmps25
        go_wp2
        go_ret2
        exact ⟨by simp [hc], rfl⟩
      · rw [decide_eq_false hA2] at g1
        rw [decide_eq_true (by omega)] at g2
        clear m1 m2 g3 hD hn1 hn2 hA hA2
        go_enter Try.func25, Try.ntmps25
        go_wp2
        go_ret2
        exact ⟨by simp [hc], rfl⟩
    · rw [decide_eq_false (by omega)] at g1
      rw [decide_eq_false (by omega)] at g2
      by_cases hB : V b < -(((9223372036854775808 : Nat) : Int) * (oneM : Int))
      · have hc : cmpI (V b) (n * (oneM : Int)) = -1 := cmpI_lt (by omega)
        rw [decide_eq_true hB] at g3
        clear m1 m2 hD hn1 hn2 hA hB
        go_enter Try.func25, Try.ntmps25
        go_wp2
        go_ret2
        exact ⟨by simp [hc], rfl⟩
      · rw [decide_eq_false hB] at g3
        have hfin : rg b < 2139095040 := by
          have h1 := of_decide_eq_false hb
          apply Classical.byContradiction
          intro h2
          have h3 : rg b = 2139095040 := by unfold rg at *; omega
          have h4 : (topM : Int) = 9223372036854775808 * (oneM : Int) * 340282366920938463463374607431768211456 / 9223372036854775808 := by
            unfold topM oneM; decide
          have h5 : V b = (topM : Int) ∨ V b = -(topM : Int) := by
            unfold V; rw [h3, mg_inf]; cases ng b
            · exact .inl rfl
            · exact .inr rfl
          have h6 : 9223372036854775808 * (oneM : Int) < (topM : Int) := by unfold topM oneM; decide
          rcases h5 with h5 | h5 <;> omega
        obtain ⟨q, hq⟩ : ∃ q, q = (V b).tdiv (oneM : Int) := ⟨_, rfl⟩
        have hto := toInt_V hfin
        rw [← hq] at hto
        have hq1 : q ≤ 9223372036854775807 := by
          apply Classical.byContradiction
          intro h
          have := tdiv_gt (v := V b) (n := 9223372036854775807) hD (by omega)
          have e1 := Int.tmod_add_mul_tdiv (V b) (oneM : Int)
          have e2 : 9223372036854775808 * (oneM : Int) ≤ q * (oneM : Int) := Int.mul_le_mul_of_nonneg_right (by omega) (by omega)
          have e3 : 0 ≤ (V b).tmod (oneM : Int) := Int.tmod_nonneg _ (by omega)
          rw [← hq, Int.mul_comm] at e1
          omega
        have hq2 : -9223372036854775808 ≤ q := by
          apply Classical.byContradiction
          intro h
          have := tdiv_lt (v := V b) (n := -9223372036854775808) hD (by omega)
          omega
        have hcv : ∀ W, (convert 22 2 (.float .f32 b)).run Try.prog W = .ok (.int .i64 q) W := fun W => run_convert_float_int (P := Try.prog) W 22 2 .f32 .i64 b q (by rw [Try.underlying22]; rfl) Try.underlying2 (by
          unfold floatToIntVal
          rw [show (FloatKind.f32.decode b).toInt .zero = some q from hto]
          simp only []
          rw [if_pos ⟨by show -9223372036854775808 ≤ q; exact hq2, by show q ≤ 9223372036854775807; exact hq1⟩])
        rcases Int.lt_trichotomy q n with h | h | h
        · have hc : cmpI (V b) (n * (oneM : Int)) = -1 := cmpI_lt (tdiv_lt hD (by rw [← hq]; exact h))
          have hd : decide (q < n) = true := decide_eq_true h
          clear m1 m2 hD hn1 hn2 hA hB hq1 hq2 hq hto hfin h
          go_enter Try.func25, Try.ntmps25
          go_wp2
          go_ret2
          exact ⟨by simp [hc], rfl⟩
        · subst h
          have hab : q.natAbs = mg (rg b) / oneM := by
            rw [hq, Int.natAbs_tdiv, Int.natAbs_natCast]
            congr 1
            unfold V
            cases ng b
            · exact Int.natAbs_natCast _
            · exact (Int.natAbs_neg _).trans (Int.natAbs_natCast _)
          obtain ⟨q', e', hN, hq'⟩ : ∃ q' e' : Nat, q.natAbs = q' * 2 ^ e' ∧ q' < 16777216 := by
            obtain ⟨m, k, _, hm, hm2, _⟩ := read_fin hfin
            rw [hab, ← hm]
            unfold oneM
            by_cases hk : 149 ≤ k
            · refine ⟨m, k - 149, ?_, hm2⟩
              obtain ⟨d, rfl⟩ : ∃ d, k = d + 149 := ⟨k - 149, by omega⟩
              rw [show d + 149 - 149 = d by omega, Nat.pow_add, ← Nat.mul_assoc, Nat.mul_div_cancel _ (Nat.pow_pos (by omega))]
            · refine ⟨m * 2 ^ k / 2 ^ 149, 0, by simp, ?_⟩
              obtain ⟨d, hd⟩ : ∃ d, d = 149 - k := ⟨_, rfl⟩
              rw [show (149 : Nat) = d + k by omega, Nat.pow_add, Nat.mul_div_mul_right _ _ (Nat.pow_pos (by omega))]
              exact Nat.lt_of_le_of_lt (Nat.div_le_self _ _) hm2
          obtain ⟨w1, w2, w3⟩ := nearest_whole (decide (q < 0)) hN hq' (Nat.lt_of_le_of_lt (show q.natAbs ≤ 9223372036854775808 by omega) (by decide))
          have hw : floatOfInt .f32 q = Ieee.single.nearest (decide (q < 0)) q.natAbs 0 := rfl
          rw [← hw] at w1 w2 w3
          have hVf : V (floatOfInt .f32 q) = q * (oneM : Int) := by
            rw [w3, Int.natCast_mul]
            by_cases hneg : q < 0
            · rw [decide_eq_true hneg, if_pos rfl, show ((q.natAbs : Nat) : Int) = -q by omega, Int.neg_mul]; omega
            · rw [decide_eq_false hneg, if_neg (by decide), show ((q.natAbs : Nat) : Int) = q by omega]
          generalize hff : floatOfInt .f32 q = f at w1 w2 hVf
          obtain ⟨r, hr, hr1, hr2, hr3⟩ := sub_V hfin w2
          rw [hVf] at hr2 hr3
          have hsb : ∀ W, (binOp .sub 22 (.float .f32 b) (.float .f32 (floatOfInt .f32 q))).run Try.prog W = .ok (.float .f32 r) W := fun W => by
            rw [hff]; exact run_float_arith (P := Try.prog) W .sub 22 .f32 b f r hr
          have g4 := f_lt hr1 (b := 0) (by decide)
          have g5 := f_gt hr1 (b := 0) (by decide)
          rw [V_zero] at g4 g5
          have hd : decide (q < q) = false := decide_eq_false (by omega)
          rcases Int.lt_trichotomy (V b) (q * (oneM : Int)) with h | h | h
          · have hc : cmpI (V b) (q * (oneM : Int)) = -1 := cmpI_lt h
            rw [decide_eq_true (hr2.2 h)] at g4
            clear m1 m2 hD hn1 hn2 hA hB hq1 hq2 hq hto hfin h hab hN hq' w1 w2 w3 hVf hw hr hr1 hr2 hr3 hff g5
            go_enter Try.func25, Try.ntmps25
            go_wp2
            go_ret2
            exact ⟨by simp [hc], rfl⟩
          · have hc : cmpI (V b) (q * (oneM : Int)) = 0 := cmpI_eq h
            rw [decide_eq_false (by rw [hr2]; omega)] at g4
            rw [decide_eq_false (by rw [hr3]; omega)] at g5
            clear m1 m2 hD hn1 hn2 hA hB hq1 hq2 hq hto hfin h hab hN hq' w1 w2 w3 hVf hw hr hr1 hr2 hr3 hff
            go_enter Try.func25, Try.ntmps25
            go_wp2
            go_ret2
            exact ⟨by simp [hc], rfl⟩
          · have hc : cmpI (V b) (q * (oneM : Int)) = 1 := cmpI_gt h
            rw [decide_eq_false (by rw [hr2]; omega)] at g4
            rw [decide_eq_true (hr3.2 h)] at g5
            clear m1 m2 hD hn1 hn2 hA hB hq1 hq2 hq hto hfin h hab hN hq' w1 w2 w3 hVf hw hr hr1 hr2 hr3 hff
            go_enter Try.func25, Try.ntmps25
            go_wp2
            go_ret2
            exact ⟨by simp [hc], rfl⟩
        · have hc : cmpI (V b) (n * (oneM : Int)) = 1 := cmpI_gt (tdiv_gt hD (by rw [← hq]; exact h))
          have hd : decide (q < n) = false := decide_eq_false (by omega)
          have hd2 : decide (q > n) = true := decide_eq_true h
          have hd3 : decide (n < q) = true := decide_eq_true h
          clear m1 m2 hD hn1 hn2 hA hB hq1 hq2 hq hto hfin h
          go_enter Try.func25, Try.ntmps25
          go_wp2
          go_ret2
          exact ⟨by simp [hc], rfl⟩
end Go.Proofs.Ytgkocbbpkiechaa.Val
