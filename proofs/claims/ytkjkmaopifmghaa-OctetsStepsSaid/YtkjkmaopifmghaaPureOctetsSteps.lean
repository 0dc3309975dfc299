/- The plain law of OctetsSteps. -/
import Derived.Test.YtkjkmaopifmghaaQStepsx2
import Derived.Laws.BitsAllLaws
namespace Go.Proofs.Ytkjkmaopifmghaa.Pure
open Go.RowKit Go.Proofs.Ytkjkmaopifmghaa.QSteps Go.Proofs.YtkjkmaopifmghaaW.PrintWords Go.Proofs.YtkjkmaopifmghaaW.PrintLast
set_option linter.unusedVariables false
set_option linter.unusedSimpArgs false
theorem u64_wrap (n : Int) : IntKind.u64.wrap n = n % 18446744073709551616 := rfl
abbrev fstep (x c : Int) : Int := IntKind.u64.wrap ((Go.bits .xor .u64 x (IntKind.u64.wrap c)) * 1099511628211)
abbrev fnv (x : Int) (l : List Int) : Int := l.foldl fstep x
theorem rd_nat {l : List Int} {i : Nat} (h : i < l.length) : rd l (i : Int) = l[i] := by
  simp only [rd, rdOf]
  simp [List.getD_eq_getElem?_getD, h]
theorem wrap64_small {n : Int} (h0 : 0 ≤ n) (h : n < 9223372036854775808) : wrap64 n = n := by unfold wrap64; omega
theorem sum_from (l : List Int) (hl : l.length ≤ 4611686018427387904) : ∀ (d i k : Nat) (x : Int), i + d = l.length → d < k → octets_Sum.l0 k x l (l.length : Int) (i : Int) = some (fnv x (l.drop i)) := by
  intro d
  induction d with
  | zero =>
    intro i k x hi hk
    obtain ⟨k, rfl⟩ : ∃ j, k = j + 1 := ⟨k - 1, by omega⟩
    simp only [octets_Sum.l0]
    rw [if_neg (by omega), List.drop_eq_nil_of_le (by omega)]
    rfl
  | succ d ih =>
    intro i k x hi hk
    obtain ⟨k, rfl⟩ : ∃ j, k = j + 1 := ⟨k - 1, by omega⟩
    simp only [octets_Sum.l0]
    rw [if_pos (by omega), if_pos (by omega), if_pos (by omega), wrap64_small (by omega) (by omega), rd_nat (by omega : i < l.length)]
    rw [show ((i : Int) + 1) = ((i + 1 : Nat) : Int) from rfl, ih (i + 1) k _ (by omega) (by omega)]
    rw [List.drop_eq_getElem_cons (by omega : i < l.length)]
    rfl
theorem sum_f {k : Nat} {l : List Int} (hl : l.length ≤ 4611686018427387904) (hk : l.length < k) : octets_Sum.f k l = some (fnv 14695981039346656037 l) := by
  unfold octets_Sum.f
  have := sum_from l hl l.length 0 k 14695981039346656037 (by omega) hk
  simpa using this
theorem copy_from (l : List Int) (hl : l.length ≤ 140737488355328) : ∀ (d i k : Nat) (a : List Int), i + d = l.length → a.length = i → d < k → latchkeyref00_CopyBytes.l0 k l a (i : Int) = some (a ++ l.drop i) := by
  intro d
  induction d with
  | zero =>
    intro i k a hi ha hk
    obtain ⟨k, rfl⟩ : ∃ j, k = j + 1 := ⟨k - 1, by omega⟩
    simp only [latchkeyref00_CopyBytes.l0]
    rw [if_neg (by omega), List.drop_eq_nil_of_le (by omega), List.append_nil]
  | succ d ih =>
    intro i k a hi ha hk
    obtain ⟨k, rfl⟩ : ∃ j, k = j + 1 := ⟨k - 1, by omega⟩
    simp only [latchkeyref00_CopyBytes.l0]
    rw [if_pos (by omega), if_pos (by omega), if_pos (by omega), wrap64_small (by omega) (by omega), rd_nat (by omega : i < l.length)]
    rw [show ((i : Int) + 1) = ((i + 1 : Nat) : Int) from rfl, ih (i + 1) k _ (by omega) (by simp [ha]) (by omega)]
    rw [List.drop_eq_getElem_cons (by omega : i < l.length), List.append_assoc]
    rfl
theorem copy_f {k : Nat} {l : List Int} (hl : l.length ≤ 140737488355328) (hk : l.length < k) : latchkeyref00_CopyBytes.f k l = some l := by
  unfold latchkeyref00_CopyBytes.f
  have := copy_from l hl l.length 0 k [] (by omega) rfl hk
  simpa using this
theorem fstep_lo (x c : Int) : 0 ≤ fstep x c := by simp only [fstep, u64_wrap]; omega
theorem fstep_hi (x c : Int) : fstep x c < 18446744073709551616 := by simp only [fstep, u64_wrap]; omega
theorem prime_back {a : Int} (ha : 0 ≤ a) (ha' : a < 18446744073709551616) : a * 1099511628211 % 18446744073709551616 * 14886173955864302971 % 18446744073709551616 = a := by
  have h1 : (1099511628211 * 14886173955864302971 : Int) % 18446744073709551616 = 1 := by decide
  rw [Int.mul_emod, Int.emod_emod, ← Int.mul_emod, Int.mul_assoc, Int.mul_emod, h1, Int.mul_one, Int.emod_emod, Int.emod_eq_of_lt ha ha']
theorem prime_inj {a b : Int} (ha : 0 ≤ a) (ha' : a < 18446744073709551616) (hb : 0 ≤ b) (hb' : b < 18446744073709551616) (h : IntKind.u64.wrap (a * 1099511628211) = IntKind.u64.wrap (b * 1099511628211)) : a = b := by
  rw [u64_wrap, u64_wrap] at h
  rw [← prime_back ha ha', h, prime_back hb hb']
theorem xor_lo (x c : Int) : 0 ≤ Go.bits .xor .u64 x c ∧ Go.bits .xor .u64 x c < 18446744073709551616 := by
  unfold Go.bits
  constructor
  · exact Int.emod_nonneg _ (by decide)
  · exact Int.emod_lt_of_pos _ (by decide)
theorem fstep_inj_l {x y c : Int} (hx : 0 ≤ x) (hx' : x < 18446744073709551616) (hy : 0 ≤ y) (hy' : y < 18446744073709551616) (h : fstep x c = fstep y c) : x = y := by
  have h1 := prime_inj (xor_lo _ _).1 (xor_lo _ _).2 (xor_lo _ _).1 (xor_lo _ _).2 h
  have hc0 : 0 ≤ IntKind.u64.wrap c := Int.emod_nonneg _ (by decide)
  have hc1 : IntKind.u64.wrap c < 18446744073709551616 := Int.emod_lt_of_pos _ (by decide)
  rw [u64_xor _ _ hx hx' hc0 hc1, u64_xor _ _ hy hy' hc0 hc1] at h1
  have h2 : x.toNat ^^^ (IntKind.u64.wrap c).toNat = y.toNat ^^^ (IntKind.u64.wrap c).toNat := by omega
  have h3 := congrArg (· ^^^ (IntKind.u64.wrap c).toNat) h2
  simp only [Nat.xor_assoc, Nat.xor_self, Nat.xor_zero] at h3
  omega
theorem fstep_inj_r {x c d : Int} (hx : 0 ≤ x) (hx' : x < 18446744073709551616) (hc : 0 ≤ c) (hc' : c < 256) (hd : 0 ≤ d) (hd' : d < 256) (h : fstep x c = fstep x d) : c = d := by
  have h1 := prime_inj (xor_lo _ _).1 (xor_lo _ _).2 (xor_lo _ _).1 (xor_lo _ _).2 h
  have ec : IntKind.u64.wrap c = c := by rw [u64_wrap]; omega
  have ed : IntKind.u64.wrap d = d := by rw [u64_wrap]; omega
  rw [ec, ed, u64_xor _ _ hx hx' hc (by omega), u64_xor _ _ hx hx' hd (by omega)] at h1
  have h2 : x.toNat ^^^ c.toNat = x.toNat ^^^ d.toNat := by omega
  have h3 := congrArg (x.toNat ^^^ ·) h2
  simp only [← Nat.xor_assoc, Nat.xor_self, Nat.zero_xor] at h3
  omega
theorem fnv_lo (x : Int) (l : List Int) (hx : 0 ≤ x) (hx' : x < 18446744073709551616) : 0 ≤ fnv x l ∧ fnv x l < 18446744073709551616 := by
  induction l generalizing x with
  | nil => exact ⟨hx, hx'⟩
  | cons c l ih => exact ih _ (fstep_lo _ _) (fstep_hi _ _)
theorem fnv_inj {x y : Int} (l : List Int) (hx : 0 ≤ x) (hx' : x < 18446744073709551616) (hy : 0 ≤ y) (hy' : y < 18446744073709551616) (h : fnv x l = fnv y l) : x = y := by
  induction l generalizing x y with
  | nil => exact h
  | cons c l ih => exact fstep_inj_l hx hx' hy hy' (ih (fstep_lo _ _) (fstep_hi _ _) (fstep_lo _ _) (fstep_hi _ _) h)
theorem fnv_set (l : List Int) (i : Nat) (y : Int) (hi : i < l.length) (hb : ∀ x ∈ l, 0 ≤ x ∧ x < 256) (hy : 0 ≤ y) (hy' : y < 256) : (fnv 14695981039346656037 (l.set i y) == fnv 14695981039346656037 l) = (l[i] == y) := by
  have e1 : l = l.take i ++ l[i] :: l.drop (i + 1) := by simp
  have e2 : l.set i y = l.take i ++ y :: l.drop (i + 1) := by rw [List.set_eq_take_append_cons_drop, if_pos hi]
  have hl := hb l[i] (List.getElem_mem hi)
  have hp := fnv_lo 14695981039346656037 (l.take i) (by decide) (by decide)
  have f1 : fnv 14695981039346656037 l = fnv (fstep (fnv 14695981039346656037 (l.take i)) l[i]) (l.drop (i + 1)) := by
    conv => lhs; rw [e1]
    simp only [fnv, List.foldl_append, List.foldl_cons]
  have f2 : fnv 14695981039346656037 (l.set i y) = fnv (fstep (fnv 14695981039346656037 (l.take i)) y) (l.drop (i + 1)) := by
    rw [e2]
    simp only [fnv, List.foldl_append, List.foldl_cons]
  rw [f1, f2]
  by_cases h : l[i] = y
  · rw [h]; simp
  · have : ¬ fnv (fstep (fnv 14695981039346656037 (l.take i)) y) (l.drop (i + 1)) = fnv (fstep (fnv 14695981039346656037 (l.take i)) l[i]) (l.drop (i + 1)) := fun e =>
      h (fstep_inj_r hp.1 hp.2 hy hy' hl.1 hl.2 (fnv_inj _ (fstep_lo _ _) (fstep_hi _ _) (fstep_lo _ _) (fstep_hi _ _) e)).symm
    rw [beq_eq_false_iff_ne.mpr this, beq_eq_false_iff_ne.mpr h]
theorem pick_f (a : Int) (n : Nat) (hn : 0 < n) (hn' : n ≤ 4611686018427387904) : ∃ j : Nat, j < n ∧ latchkeykit_Pick.f a (n : Int) = some (j : Int) := by
  unfold latchkeykit_Pick.f
  rw [if_neg (by omega), if_neg (by omega)]
  have h1 : Int.tmod a n < n := Int.tmod_lt_of_pos a (by omega)
  have h2 : -(n : Int) < Int.tmod a n := by
    have := Int.lt_tmod_of_pos a (b := (n : Int)) (by omega)
    omega
  by_cases h : Int.tmod a n < 0
  · rw [if_pos h, wrap64_small (by omega) (by omega)]
    exact ⟨(Int.tmod a n + n).toNat, by omega, by congr 1; omega⟩
  · rw [if_neg h]
    exact ⟨(Int.tmod a n).toNat, by omega, by congr 1; omega⟩
theorem wf_u8 {x : Int} (h : (Lit.int .u8 x).wf = true) : 0 ≤ x ∧ x < 256 := by
  simp [Lit.wf, IntKind.min, IntKind.max, IntKind.signed, IntKind.bits] at h
  omega
theorem OctetsSteps (l0 : List Int) (a1_0 a1_1 a1_2 : Int) (hl0 : l0.length * 1 ≤ 140737488351232) (hb : ∀ x ∈ l0, (Lit.int .u8 x).wf = true) (h0 : (Lit.int .u8 a1_0).wf = true) (h2 : (Lit.int .u8 a1_2).wf = true) : ∃ k, latchkeylaw02_OctetsSteps.f k l0 a1_0 a1_1 a1_2 = some true := by
  have hl : l0.length ≤ 140737488351232 := by omega
  refine ⟨l0.length + 10, ?_⟩
  have hc := copy_f (k := l0.length + 10) (l := l0) (by omega) (by omega)
  have hc' := copy_f (k := l0.length + 9) (l := l0) (by omega) (by omega)
  have hs := sum_f (k := l0.length + 10) (l := l0) (by omega) (by omega)
  have hs0 := sum_f (k := l0.length + 10) (l := []) (by simp) (by simp)
  have hs1 := sum_f (k := l0.length + 10) (l := l0 ++ [a1_0]) (by simp; omega) (by simp)
  have f1 : fnv 14695981039346656037 (l0 ++ [a1_0]) = fstep (fnv 14695981039346656037 l0) a1_0 := by simp only [fnv, List.foldl_append, List.foldl_cons, List.foldl_nil]
  unfold latchkeylaw02_OctetsSteps.f
  simp only [latchkeylaw02_awake.f, Option.bind_some, hc, hs, hs0, hs1]
  rw [if_pos trivial, if_pos (by simp; omega), if_pos (by rfl)]
  rw [f1]
  simp only [latchkeylaw02_OctetsSteps.j0]
  rw [if_neg (by simp)]
  by_cases hz : (l0.length : Int) = 0
  · rw [if_pos hz]
  · rw [if_neg hz]
    obtain ⟨j, hj, hp⟩ := pick_f a1_1 l0.length (by omega) (by omega)
    have hs2 := sum_f (k := l0.length + 9) (l := l0.set j a1_2) (by simp; omega) (by simp)
    simp only [hp, Option.bind_some, hc']
    rw [if_pos (by omega), if_pos (by omega)]
    simp only [Int.toNat_natCast, hs2, Option.bind_some]
    rw [if_pos (by omega)]
    rw [fnv_set l0 j a1_2 hj (fun x hx => wf_u8 (hb x hx)) (wf_u8 h2).1 (wf_u8 h2).2, rd_nat hj]
    simp
end Go.Proofs.Ytkjkmaopifmghaa.Pure
