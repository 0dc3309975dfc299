/- The reference's letters and sums: plain Lean. -/
import Derived.Test.YtkjkmaopifmghaaPureBits
import Derived.Test.YtkjkmaopifmghaaOctRefsx1
import Derived.Test.YtkjkmaopifmghaaOctRefsx2
import Derived.Test.YtkjkmaopifmghaaOctSumx1
import Derived.Test.YtkjkmaopifmghaaOctLentx1
import Derived.Test.YtkjkmaopifmghaaOctKeptx2
import Derived.Laws.BytesArg
namespace Go.Proofs.Ytkjkmaopifmghaa.PureSums
open Go.RowKit Go.Proofs.YtkjkmaopifmghaaW.PrintWords Go.Proofs.YtkjkmaopifmghaaW.PrintLast Go.Proofs.YtkjkmaopifmghaaW.PrintMore Go.Proofs.Ytkjkmaopifmghaa.PureArmor Go.Proofs.Ytkjkmaopifmghaa.PureBits Go.Proofs.Ytkjkmaopifmghaa.OctRefs Go.Proofs.Ytkjkmaopifmghaa.OctSum
set_option linter.unusedVariables false
set_option linter.unusedSimpArgs false
abbrev fstep (x c : Int) : Int := IntKind.u64.wrap ((Go.bits .xor .u64 x (IntKind.u64.wrap c)) * 1099511628211)
abbrev fnv (x : Int) (l : List Int) : Int := l.foldl fstep x
theorem sum_from (l : List Int) (hl : l.length ≤ 4611686018427387904) : ∀ (d i k : Nat) (x : Int), i + d = l.length → d < k → octets_Sum.l0 k x l (l.length : Int) (i : Int) = some (fnv x (l.drop i)) := by
  intro d
  induction d with
  | zero =>
    intro i k x hi hk
    obtain ⟨k, rfl⟩ : ∃ j, k = j + 1 := ⟨k - 1, by omega⟩
    simp only [octets_Sum.l0]
    rw [if_neg (by omega), List.drop_eq_nil_of_le (by omega)]
    rfl
  | succ d ih =>
    intro i k x hi hk
    obtain ⟨k, rfl⟩ : ∃ j, k = j + 1 := ⟨k - 1, by omega⟩
    simp only [octets_Sum.l0]
    rw [if_pos (by omega), if_pos (by omega), if_pos (by omega), wrap64_small (by omega) (by omega), rd_nat (by omega : i < l.length)]
    rw [show ((i : Int) + 1) = ((i + 1 : Nat) : Int) from rfl, ih (i + 1) k _ (by omega) (by omega)]
    rw [List.drop_eq_getElem_cons (by omega : i < l.length)]
    rfl
theorem sum_f {k : Nat} {l : List Int} (hl : l.length ≤ 4611686018427387904) (hk : l.length < k) : octets_Sum.f k l = some (fnv 14695981039346656037 l) := by
  unfold octets_Sum.f
  have := sum_from l hl l.length 0 k 14695981039346656037 (by omega) hk
  simpa using this
theorem rsum_from (l : List Int) (hl : l.length ≤ 4611686018427387904) : ∀ (d i k : Nat) (x : Int), i + d = l.length → d < k → latchkeyref02_Sum.l0 k l x (i : Int) = some (fnv x (l.drop i)) := by
  intro d
  induction d with
  | zero =>
    intro i k x hi hk
    obtain ⟨k, rfl⟩ : ∃ j, k = j + 1 := ⟨k - 1, by omega⟩
    simp only [latchkeyref02_Sum.l0]
    rw [if_neg (by omega), List.drop_eq_nil_of_le (by omega)]
    rfl
  | succ d ih =>
    intro i k x hi hk
    obtain ⟨k, rfl⟩ : ∃ j, k = j + 1 := ⟨k - 1, by omega⟩
    simp only [latchkeyref02_Sum.l0]
    rw [if_pos (by omega), if_pos (by omega), wrap64_small (by omega) (by omega), rd_nat (by omega : i < l.length)]
    rw [show ((i : Int) + 1) = ((i + 1 : Nat) : Int) from rfl, ih (i + 1) k _ (by omega) (by omega)]
    rw [List.drop_eq_getElem_cons (by omega : i < l.length)]
    rfl
theorem rsum_f {k : Nat} {l : List Int} (hl : l.length ≤ 4611686018427387904) (hk : l.length < k) : latchkeyref02_Sum.f k l = some (fnv 14695981039346656037 l) := by
  unfold latchkeyref02_Sum.f
  have := rsum_from l hl l.length 0 k 14695981039346656037 (by omega) hk
  simpa using this
/-- One bit more. -/
theorem ra_bit {b X : List Int} {p : Nat} {k : Nat} {n at_ : Int} (hb : ∀ x ∈ b, 0 ≤ x ∧ x < 256) (hlen : b.length ≤ 1048576) (hp : p ≤ 8388608 + 10) (hat : (p : Int) < at_ + 5) (ha : 0 ≤ at_ ∧ at_ ≤ 8388608 + 10) (hn : 0 ≤ n ∧ n < 1024) :
    latchkeyref02_Armor.l1 (k + 1) b X at_ n (p : Int) = latchkeyref02_Armor.l1 k b X at_ (2 * n + bitAt b p) ((p + 1 : Nat) : Int) := by
  have E1 : Aside0 (wrap64 (at_ + 5) = at_ + 5) := ⟨wrap64_small (by omega) (by omega)⟩
  have E2 : Aside0 (wrap64 (8 * (b.length : Int)) = 8 * (b.length : Int)) := ⟨wrap64_small (by omega) (by omega)⟩
  have E3 : Aside0 (wrap64 ((p : Int) + 1) = ((p + 1 : Nat) : Int)) := ⟨by rw [wrap64_small (by omega) (by omega)]; rfl⟩
  have E4 : Aside0 (wrap64 (2 * n) = 2 * n) := ⟨wrap64_small (by omega) (by omega)⟩
  have E5 : Aside0 (wrap64 (2 * n + 1) = 2 * n + 1) := ⟨wrap64_small (by omega) (by omega)⟩
  simp only [latchkeyref02_Armor.l1]
  rw [E1.out, if_pos hat, E2.out]
  by_cases hin : p < 8 * b.length
  · have hq : p / 8 < b.length := by omega
    have hy := hb _ (List.getElem_mem hq)
    rw [if_pos (by omega), tdiv8 p (by omega), if_pos (by omega), if_pos (by omega), tmod8, if_pos (by omega), rd_nat hq, shr8 _ _ (by omega) hy.1]
    have eb : bitAt b p = b[p / 8] / 2 ^ (7 - p % 8) % 2 := by unfold bitAt; rw [if_pos hin, rd_nat hq]
    rw [E4.out, E5.out, E3.out]
    rcases bit_01 b p with h | h
    · rw [← eb, h, if_neg (by decide), Int.add_zero]
    · rw [← eb, h, if_pos rfl]
  · have eb : bitAt b p = 0 := by unfold bitAt; rw [if_neg hin]
    rw [if_neg (by omega), E4.out, E3.out, eb, Int.add_zero]
theorem ra_five {b X : List Int} {at_ : Nat} (hb : ∀ x ∈ b, 0 ≤ x ∧ x < 256) (hlen : b.length ≤ 1048576) (ha : at_ ≤ 8388608 + 5) : ∀ (d j k : Nat), j + d = 5 → d < k →
    ∃ k', k = k' + d ∧ latchkeyref02_Armor.l1 k b X (at_ : Int) (cAt b at_ j) ((at_ + j : Nat) : Int) = latchkeyref02_Armor.l1 k' b X (at_ : Int) (cAt b at_ 5) ((at_ + 5 : Nat) : Int) := by
  intro d
  induction d with
  | zero =>
    intro j k hj hk
    obtain rfl : j = 5 := by omega
    exact ⟨k, rfl, rfl⟩
  | succ d ih =>
    intro j k hj hk
    obtain ⟨k, rfl⟩ : ∃ i, k = i + 1 := ⟨k - 1, by omega⟩
    have hc := cAt_bound b at_ j
    have hp : (2 : Int) ^ j ≤ 2 ^ 5 := by exact_mod_cast Nat.pow_le_pow_right (by decide : 2 > 0) (by omega : j ≤ 5)
    have h32 : cAt b at_ j < 1024 := by omega
    rw [ra_bit hb hlen (by omega) (by omega) (by omega) ⟨hc.1, h32⟩]
    obtain ⟨k', e1, e2⟩ := ih (j + 1) k (by omega) (by omega)
    exact ⟨k', by omega, e2⟩
theorem ra_turn {b L : List Int} (hb : ∀ x ∈ b, 0 ≤ x ∧ x < 256) (hlen : b.length ≤ 1048576) (hat : 5 * L.length < 8 * b.length) (k : Nat) (hk : 7 ≤ k) :
    ∃ k', k = k' + 7 ∧ latchkeyref02_Armor.l0 k b (L.map lt) ((5 * L.length : Nat) : Int) = latchkeyref02_Armor.l0 k' b ((L ++ [cAt b (5 * L.length) 5]).map lt) ((5 * (L.length + 1) : Nat) : Int) := by
  obtain ⟨k, rfl⟩ : ∃ i, k = i + 1 := ⟨k - 1, by omega⟩
  obtain ⟨k', e1, e2⟩ := ra_five (X := L.map lt) (at_ := 5 * L.length) hb hlen (by omega) 5 0 k (by omega) (by omega)
  obtain ⟨k', rfl⟩ : ∃ i, k' = i + 1 := ⟨k' - 1, by omega⟩
  have hc := cAt_bound b (5 * L.length) 5
  have hc1 : cAt b (5 * L.length) 5 < 32 := by have := hc.2; omega
  have E1 : Aside0 (wrap64 (((5 * L.length : Nat) : Int) + 5) = ((5 * (L.length + 1) : Nat) : Int)) := ⟨by rw [wrap64_small (by omega) (by omega)]; omega⟩
  have E2 : Aside0 (wrap64 (8 * (b.length : Int)) = 8 * (b.length : Int)) := ⟨wrap64_small (by omega) (by omega)⟩
  have hX : (L.map lt).length < 140737488355328 := by rw [List.length_map]; omega
  have e0 : cAt b (5 * L.length) 0 = 0 := rfl
  rw [e0, Nat.add_zero] at e2
  refine ⟨k', by omega, ?_⟩
  have h0 : latchkeyref02_Armor.l0 (k + 1) b (L.map lt) ((5 * L.length : Nat) : Int) = latchkeyref02_Armor.l1 k b (L.map lt) ((5 * L.length : Nat) : Int) 0 ((5 * L.length : Nat) : Int) := by
    simp only [latchkeyref02_Armor.l0]
    rw [E2.out, if_pos (by omega)]
  rw [h0, e2]
  simp only [latchkeyref02_Armor.l1]
  rw [E1.out, if_neg (by omega), if_pos hc.1, if_pos hc1, if_pos hX, List.map_append]
  rfl
theorem ra_all {b : List Int} (hb : ∀ x ∈ b, 0 ≤ x ∧ x < 256) (hlen : b.length ≤ 1048576) : ∀ (d k : Nat) (L : List Int), (∀ x ∈ L, 0 ≤ x ∧ x < 32) → numOf 32 L = vAt b (5 * L.length) → 5 * L.length < 8 * b.length + 5 → 8 * b.length ≤ 5 * L.length + d → 7 * d < k →
    ∃ M pad, Arms b M pad ∧ latchkeyref02_Armor.l0 k b (L.map lt) ((5 * L.length : Nat) : Int) = some (strOfNums (M.map lt)) := by
  intro d
  induction d with
  | zero =>
    intro k L code num hlt hle hk
    obtain ⟨k, rfl⟩ : ∃ i, k = i + 1 := ⟨k - 1, by omega⟩
    have E2 : Aside0 (wrap64 (8 * (b.length : Int)) = 8 * (b.length : Int)) := ⟨wrap64_small (by omega) (by omega)⟩
    refine ⟨L, 5 * L.length - 8 * b.length, ⟨code, by omega, by omega, ?_⟩, ?_⟩
    · rw [num, show 5 * L.length = 8 * b.length + (5 * L.length - 8 * b.length) by omega, vAt_end, vAt_take hb b.length (Nat.le_refl _), List.take_length]
      congr 2
      omega
    · simp only [latchkeyref02_Armor.l0]
      rw [E2.out, if_neg (by omega)]
  | succ d ih =>
    intro k L code num hlt hle hk
    by_cases hat : 5 * L.length < 8 * b.length
    · obtain ⟨k', e1, e2⟩ := ra_turn hb hlen hat k (by omega)
      have hc := cAt_bound b (5 * L.length) 5
      rw [e2]
      have := ih k' (L ++ [cAt b (5 * L.length) 5]) ?_ ?_ ?_ ?_ (by omega)
      · simpa using this
      · intro y hy
        rcases List.mem_append.1 hy with hy | hy
        · exact code y hy
        · rw [List.mem_singleton.1 hy]; exact ⟨hc.1, by have := hc.2; omega⟩
      · rw [numOf_snoc, num, List.length_append, List.length_singleton, show 5 * (L.length + 1) = 5 * L.length + 5 by omega, vAt_c]
        rfl
      · simp; omega
      · simp; omega
    · exact ih k L code num hlt (by omega) (by omega)
theorem ra_f {b : List Int} (hb : ∀ x ∈ b, 0 ≤ x ∧ x < 256) (hlen : b.length ≤ 1048576) {k : Nat} (hk : 56 * b.length < k) : ∃ M pad, Arms b M pad ∧ latchkeyref02_Armor.f k b = some (strOfNums (M.map lt)) := by
  have := ra_all hb hlen (8 * b.length) k [] (by simp) (by simp [numOf, vAt]) (by simp) (by simp) (by omega)
  exact this
theorem bt_byte (s : ByteArray) {i : Nat} (hi : i < (bytesOf s).length) : bt s (i : Int) = (bytesOf s)[i] ∧ 0 ≤ (bytesOf s)[i] ∧ (bytesOf s)[i] < 256 := by
  refine ⟨by rw [← rd_bytesOf, rd_nat hi], ?_⟩
  have hm := List.getElem_mem hi
  generalize (bytesOf s)[i] = x at *
  unfold bytesOf at hm
  obtain ⟨u, _, rfl⟩ := List.mem_map.1 hm
  have := u.toNat_lt
  omega
/-- What Unarmor says. -/
def UnaSays (t : List Int) (res : List Int × Int) : Prop :=
  (∃ L B h n, UnaSt t t.length L B h n ∧ res = if n < 5 ∧ h = 0 then (B, 0) else ([], 22)) ∨ (res = ([], 22) ∧ ∃ i, ∃ _ : i < t.length, ∀ x : Int, 0 ≤ x → x < 32 → t[i] ≠ lt x)
theorem una_end {s : ByteArray} {L B : List Int} {h : Int} {n : Nat} (st : UnaSt (bytesOf s) (bytesOf s).length L B h n) (k : Nat) (hk : 0 < k) :
    ∃ res, octets_Unarmor.l0 k s B h n ((bytesOf s).length : Int) = some res ∧ UnaSays (bytesOf s) res := by
  obtain ⟨k, rfl⟩ : ∃ j, k = j + 1 := ⟨k - 1, by omega⟩
  refine ⟨_, ?_, .inl ⟨L, B, h, n, st, rfl⟩⟩
  have hs := bytesOf_length s
  simp only [octets_Unarmor.l0]
  rw [if_neg (by omega)]
  by_cases hn : (n : Int) ≥ 5
  · rw [if_pos hn, if_neg (by omega)]
  · rw [if_neg hn]
    by_cases h0 : h = 0
    · rw [if_pos h0, if_pos (by omega)]
    · rw [if_neg h0, if_neg (by omega)]
theorem or_join32 {h x : Int} (h0 : 0 ≤ h) (h1 : h < 128) (hx0 : 0 ≤ x) (hx1 : x < 32) : Go.bits .or .u64 (IntKind.u64.wrap (h * 32)) x = h * 32 + x := or_join h x 5 h0 (by omega) hx0 hx1 (by omega)
theorem una_one {s : ByteArray} {i : Nat} {L B : List Int} {h : Int} {n : Nat} (st : UnaSt (bytesOf s) i L B h n) (hi : i < (bytesOf s).length) (hlen : s.size ≤ 225179981361972) (k : Nat) (hk : 3 ≤ k) :
    (∃ k' L' B' h' n', k ≤ k' + 3 ∧ UnaSt (bytesOf s) (i + 1) L' B' h' n' ∧ octets_Unarmor.l0 k s B h n (i : Int) = octets_Unarmor.l0 k' s B' h' n' ((i + 1 : Nat) : Int)) ∨
    (octets_Unarmor.l0 k s B h n (i : Int) = some ([], 22) ∧ ∀ x : Int, 0 ≤ x → x < 32 → (bytesOf s)[i] ≠ lt x) := by
  obtain ⟨k, rfl⟩ : ∃ j, k = j + 3 := ⟨k - 3, by omega⟩
  obtain ⟨hb, hc0, hc1⟩ := bt_byte s hi
  have hs := bytesOf_length s
  generalize hc : (bytesOf s)[i] = c at *
  have hn := st.hn
  have h0 := st.h0
  have hlB := st.len
  have h128 : h < 128 := by
    have h1 := st.h1
    have : (2 : Int) ^ n ≤ 2 ^ 7 := by exact_mod_cast Nat.pow_le_pow_right (by decide : 2 > 0) (by omega : n ≤ 7)
    omega
  have ei0 : (i : Int) < (s.size : Int) := by omega
  have hBl : B.length < 140737488355328 := by omega
  have hin : (n : Int) + 5 < 13 ∧ (i : Int) + 1 < 9223372036854775808 := by omega
  have E5 : Aside0 (wrap64 ((n : Int) + 5) = (n : Int) + 5) := ⟨wrap64_small (by omega) (by omega)⟩
  have EI : Aside0 (wrap64 ((i : Int) + 1) = ((i + 1 : Nat) : Int)) := ⟨by rw [wrap64_small (by omega) hin.2]; rfl⟩
  have hor : ∀ x : Int, 0 ≤ x → x < 32 → Go.bits .or .u64 (IntKind.u64.wrap (h * 32)) x = h * 32 + x := fun x hx0 hx1 => or_join32 h0 h128 hx0 hx1
  have e8 : 3 ≤ n → wrap64 ((n : Int) + 5 - 8) = ((n - 3 : Nat) : Int) := fun h3 => by rw [wrap64_small (by omega) (by omega)]; omega
  clear hlen hs hin
  /- the step, both ways -/
  have hin : ∀ (m : Nat) (x : Int), 0 ≤ x → x < 32 → c = lt x → k + 3 ≤ m + 3 →
      ∃ k' L' B' h' n', k + 3 ≤ k' + 3 ∧ UnaSt (bytesOf s) (i + 1) L' B' h' n' ∧
        (if (n : Int) + 5 ≥ 8 then (if 0 ≤ wrap64 ((n : Int) + 5 - 8) then (if B.length < 140737488355328 then octets_Unarmor.l0 m s (B ++ [shr .u64 (h * 32 + x) (wrap64 ((n : Int) + 5 - 8)) % 256]) (Go.bits .and .u64 (h * 32 + x) (IntKind.u64.wrap (shl .u64 1 (wrap64 ((n : Int) + 5 - 8)) - 1))) (wrap64 ((n : Int) + 5 - 8)) (wrap64 ((i : Int) + 1)) else none) else none) else octets_Unarmor.l0 m s B (h * 32 + x) ((n : Int) + 5) (wrap64 ((i : Int) + 1))) = octets_Unarmor.l0 k' s B' h' n' ((i + 1 : Nat) : Int) := by
    intro m x hx0 hx1 hcx hm
    obtain ⟨p1, p2⟩ := una_next st hi hx0 hx1 (hc.trans hcx)
    by_cases h3 : n < 3
    · refine ⟨m, _, _, _, _, hm, p1 h3, ?_⟩
      rw [if_neg (by omega), EI.out]
      rfl
    · obtain ⟨q1, q2, q3⟩ := p2 (by omega)
      refine ⟨m, _, _, _, _, hm, q3, ?_⟩
      rw [if_pos (by omega), e8 (by omega), if_pos (by omega), if_pos hBl, EI.out, shr_div _ _ (by omega), andmask _ _ (by omega) (by omega) (by omega), Int.emod_eq_of_lt q1 q2]
  simp only [octets_Unarmor.l0]
  rw [if_pos ei0, if_pos (by omega), hb]
  by_cases a1 : c ≥ 97
  · rw [if_pos a1]
    by_cases a2 : c ≤ 122
    · have hx := lt_abc (c - 97).toNat (by omega)
      have ex : (((c - 97).toNat : Nat) : Int) = c - 97 := by omega
      rw [ex] at hx
      have em : (c - 97) % 256 = c - 97 := by omega
      rw [decide_eq_true a2]
      simp only [octets_Unarmor.j1]
      rw [if_pos trivial, E5.out, em, hor _ (by omega) (by omega)]
      exact .inl (hin (k + 1) (c - 97) (by omega) (by omega) (by omega) (by omega))
    · rw [decide_eq_false a2]
      simp only [octets_Unarmor.j1]
      rw [if_neg (by simp), if_pos (by omega), decide_eq_false (by omega)]
      simp only [octets_Unarmor.j2]
      rw [if_neg (by simp)]
      refine .inr ⟨rfl, fun x h0 h1 e => ?_⟩
      have := lt_cases h0 h1
      omega
  · rw [if_neg a1]
    simp only [octets_Unarmor.j1]
    rw [if_neg (by simp)]
    by_cases b1 : c ≥ 50
    · rw [if_pos b1]
      by_cases b2 : c ≤ 55
      · have hx := lt_num (c - 50).toNat (by omega)
        have ex : (((c - 50).toNat : Nat) : Int) = c - 50 := by omega
        rw [ex] at hx
        have em : (c - 50) % 256 = c - 50 := by omega
        rw [decide_eq_true b2]
        simp only [octets_Unarmor.j2]
        rw [if_pos trivial, E5.out, em, hor _ (by omega) (by omega)]
        exact .inl (hin k (c - 50 + 26) (by omega) (by omega) (by omega) (by omega))
      · rw [decide_eq_false b2]
        simp only [octets_Unarmor.j2]
        rw [if_neg (by simp)]
        refine .inr ⟨rfl, fun x h0 h1 e => ?_⟩
        have := lt_cases h0 h1
        omega
    · rw [if_neg b1]
      simp only [octets_Unarmor.j2]
      rw [if_neg (by simp)]
      refine .inr ⟨rfl, fun x h0 h1 e => ?_⟩
      have := lt_cases h0 h1
      omega
theorem una_all {s : ByteArray} (hlen : s.size ≤ 225179981361972) : ∀ (d i : Nat) (L B : List Int) (h : Int) (n k : Nat), UnaSt (bytesOf s) i L B h n → i + d = (bytesOf s).length → 3 * d < k →
    ∃ res, octets_Unarmor.l0 k s B h n (i : Int) = some res ∧ UnaSays (bytesOf s) res := by
  intro d
  induction d with
  | zero =>
    intro i L B h n k st hi hk
    obtain rfl : i = (bytesOf s).length := by omega
    exact una_end st k (by omega)
  | succ d ih =>
    intro i L B h n k st hi hk
    rcases una_one st (by omega) hlen k (by omega) with ⟨k', L', B', h', n', hk', st', he⟩ | ⟨he, hx⟩
    · rw [he]
      exact ih (i + 1) L' B' h' n' k' st' (by omega) (by omega)
    · exact ⟨_, he, .inr ⟨rfl, i, by omega, hx⟩⟩
theorem una_f {s : ByteArray} (hlen : s.size ≤ 225179981361972) {k : Nat} (hk : 3 * s.size < k) : ∃ res, octets_Unarmor.f k s = some res ∧ UnaSays (bytesOf s) res := by
  have hs := bytesOf_length s
  have := una_all hlen (bytesOf s).length 0 [] [] 0 0 k ⟨by omega, by omega, by simp, by simp, by simp, by simp, by simp [numOf], by simp⟩ (by omega) (by omega)
  exact this
theorem bytesOf_str {xs : List Int} (h : ∀ x ∈ xs, 0 ≤ x ∧ x < 256) : bytesOf (strOfNums xs) = xs := by
  unfold bytesOf
  rw [strOfNums_data, List.map_map]
  conv => rhs; rw [← List.map_id xs]
  apply List.map_congr_left
  intro x hx
  have := h x hx
  simp only [Function.comp, id, UInt8.toNat_ofNat']
  omega
theorem str_bytesOf (s : ByteArray) : strOfNums (bytesOf s) = s := by
  apply ByteArray.ext
  apply Array.ext'
  rw [strOfNums_data, bytesOf, List.map_map]
  conv => rhs; rw [← List.map_id s.data.toList]
  apply List.map_congr_left
  intro u _
  simp [Function.comp]
theorem bytesOf_inj {s t : ByteArray} (h : bytesOf s = bytesOf t) : s = t := by
  rw [← str_bytesOf s, h, str_bytesOf]
theorem bytesOf_range (s : ByteArray) : ∀ x ∈ bytesOf s, 0 ≤ x ∧ x < 256 := by
  intro x hx
  unfold bytesOf at hx
  obtain ⟨u, _, rfl⟩ := List.mem_map.1 hx
  have := u.toNat_lt
  omega
theorem lt_range {L : List Int} (h : ∀ x ∈ L, 0 ≤ x ∧ x < 32) : ∀ y ∈ L.map lt, 0 ≤ y ∧ y < 256 := by
  intro y hy
  obtain ⟨x, hx, rfl⟩ := List.mem_map.1 hy
  have := lt_cases (h x hx).1 (h x hx).2
  have := h x hx
  omega
theorem list_beq {s t : ByteArray} : (s.toList == t.toList) = decide (s = t) := by
  rw [ByteArray.toList_eq, ByteArray.toList_eq]
  by_cases h : s = t
  · rw [h]; simp
  · have : ¬ s.data.toList = t.data.toList := fun e => h (ByteArray.ext (Array.ext' e))
    rw [beq_eq_false_iff_ne.mpr this, decide_eq_false h]
theorem arms_una {b L : List Int} {pad : Nat} (ha : Arms b L pad) (hb : ∀ x ∈ b, 0 ≤ x ∧ x < 256) {res : List Int × Int} (h : UnaSays (L.map lt) res) : res = (b, 0) := by
  rcases h with ⟨L', B, h, n, st, rfl⟩ | ⟨_, i, hi, hx⟩
  · have say := st.say
    rw [List.take_length] at say
    have e := lt_map_inj ha.code st.code say
    subst e
    have l1 := st.len
    have l2 := ha.len
    rw [List.length_map] at l1
    have hn := st.hn
    have hp := ha.small
    have en : n = pad := by omega
    have eb : B.length = b.length := by omega
    subst en
    have n1 := st.num
    rw [ha.num] at n1
    have h0 := st.h0
    have h1 := st.h1
    have e2 : h = 0 ∧ numOf 256 B = numOf 256 b := by
      clear l1 l2 say eb
      rcases five hp with rfl | rfl | rfl | rfl | rfl <;> omega
    rw [if_pos ⟨hp, e2.1⟩, numOf_inj 256 (by decide) B b eb st.byte hb e2.2]
  · rw [List.getElem_map] at hx
    rw [List.length_map] at hi
    have := ha.code _ (List.getElem_mem hi)
    exact absurd rfl (hx _ this.1 this.2)
theorem arms_same {b c L M : List Int} {p q : Nat} (ha : Arms b L p) (hb : Arms c M q) (hbb : ∀ x ∈ b, 0 ≤ x ∧ x < 256) (hcc : ∀ x ∈ c, 0 ≤ x ∧ x < 256) (h : L = M) : b = c := by
  subst h
  have l1 := ha.len
  have l2 := hb.len
  have p1 := ha.small
  have p2 := hb.small
  have e : p = q := by omega
  subst e
  have n1 := ha.num
  have n2 := hb.num
  rw [n2] at n1
  have : numOf 256 c = numOf 256 b := by
    clear l1 l2 n2
    rcases five p1 with rfl | rfl | rfl | rfl | rfl <;> omega
  exact (numOf_inj 256 (by decide) c b (by omega) hcc hbb this).symm
theorem arms_back {b L M : List Int} {p q : Nat} (ha : Arms b L p) (hlen : 8 * b.length + q = 5 * M.length) (hq : q < 5) (hn : numOf 256 b * 2 ^ q = numOf 32 M) (hM : ∀ x ∈ M, 0 ≤ x ∧ x < 32) : L = M := by
  have l1 := ha.len
  have p1 := ha.small
  have e : p = q := by omega
  subst e
  exact numOf_inj 32 (by decide) L M (by omega) ha.code hM (by rw [ha.num, hn])
theorem letter_from {x : Int} (hx0 : 0 ≤ x) (hx1 : x < 32) : ∀ (d i k : Nat), (i : Int) + d = x → d < k → latchkeyref02_letter.l0 k (lt x) (i : Int) = some x := by
  intro d
  induction d with
  | zero =>
    intro i k hi hk
    obtain ⟨k, rfl⟩ : ∃ j, k = j + 1 := ⟨k - 1, by omega⟩
    have e : (i : Int) = x := by omega
    simp only [latchkeyref02_letter.l0]
    rw [if_pos (by omega), if_pos (by omega), e, if_pos rfl]
  | succ d ih =>
    intro i k hi hk
    obtain ⟨k, rfl⟩ : ∃ j, k = j + 1 := ⟨k - 1, by omega⟩
    have hne : ¬ bt AB (i : Int) = lt x := by
      intro e
      have := lt_inj (x := (i : Int)) (y := x) ⟨by omega, by omega⟩ ⟨hx0, hx1⟩ e
      omega
    have E1 : Aside0 (wrap64 ((i : Int) + 1) = ((i + 1 : Nat) : Int)) := ⟨by rw [wrap64_small (by omega) (by omega)]; rfl⟩
    simp only [latchkeyref02_letter.l0]
    rw [if_pos (by omega), if_pos (by omega), if_neg hne, E1.out]
    exact ih (i + 1) k (by omega) (by omega)
theorem letter_of {x : Int} (hx0 : 0 ≤ x) (hx1 : x < 32) {k : Nat} (hk : 32 < k) : latchkeyref02_letter.f k (lt x) = some x := by
  have := letter_from hx0 hx1 x.toNat 0 k (by omega) (by omega)
  exact this
theorem letter_none {c : Int} (hc : ∀ x : Int, 0 ≤ x → x < 32 → c ≠ lt x) : ∀ (d i k : Nat), i + d = 32 → d < k → latchkeyref02_letter.l0 k c (i : Int) = some (-1) := by
  intro d
  induction d with
  | zero =>
    intro i k hi hk
    obtain ⟨k, rfl⟩ : ∃ j, k = j + 1 := ⟨k - 1, by omega⟩
    simp only [latchkeyref02_letter.l0]
    rw [if_neg (by omega)]
  | succ d ih =>
    intro i k hi hk
    obtain ⟨k, rfl⟩ : ∃ j, k = j + 1 := ⟨k - 1, by omega⟩
    have hne : ¬ bt AB (i : Int) = c := fun e => hc i (by omega) (by omega) e.symm
    have E1 : Aside0 (wrap64 ((i : Int) + 1) = ((i + 1 : Nat) : Int)) := ⟨by rw [wrap64_small (by omega) (by omega)]; rfl⟩
    simp only [latchkeyref02_letter.l0]
    rw [if_pos (by omega), if_pos (by omega), if_neg hne, E1.out]
    exact ih (i + 1) k (by omega) (by omega)
theorem letter_not {c : Int} (hc : ∀ x : Int, 0 ≤ x → x < 32 → c ≠ lt x) {k : Nat} (hk : 32 < k) : latchkeyref02_letter.f k c = some (-1) := by
  have := letter_none hc 32 0 k (by omega) hk
  exact this
def five (n : Int) : List Int := [n / 16 % 2, n / 8 % 2, n / 4 % 2, n / 2 % 2, n % 2]
theorem five_num (l : List Int) (n : Int) (h0 : 0 ≤ n) (h1 : n < 32) : numOf 2 (l ++ five n) = numOf 2 l * 32 + n := by
  have e : l ++ five n = l ++ [n / 16 % 2] ++ [n / 8 % 2] ++ [n / 4 % 2] ++ [n / 2 % 2] ++ [n % 2] := by simp [five]
  rw [e, numOf_snoc, numOf_snoc, numOf_snoc, numOf_snoc, numOf_snoc]
  omega
theorem shr64i (y : Int) (j : Nat) (hj : j < 60) (hy : 0 ≤ y) : Int.tmod (shr .i64 y (IntKind.u64.wrap (j : Int))) 2 = y / 2 ^ j % 2 := by
  have hp0 : (0 : Int) < 2 ^ j := by exact_mod_cast Nat.two_pow_pos j
  have hw : IntKind.u64.wrap (j : Int) = (j : Int) := by rw [u64_wrap]; omega
  have hm : min ((j : Int)).toNat IntKind.i64.bits = j := by
    show min ((j : Int)).toNat 64 = j
    omega
  unfold shr
  rw [hw, hm, Int.tmod_eq_emod_of_nonneg (Int.ediv_nonneg hy (by omega))]
theorem ru_bit {s : ByteArray} {X : List Int} {k : Nat} {i n : Int} (j : Nat) (hj : j < 5) (hn : 0 ≤ n) (hX : X.length < 17592186044416) :
    latchkeyref02_Unarmor.l1 (k + 1) s X i n (j : Int) = latchkeyref02_Unarmor.l1 k s (X ++ [n / 2 ^ j % 2]) i n ((j : Int) - 1) := by
  have E1 : Aside0 (wrap64 ((j : Int) - 1) = (j : Int) - 1) := ⟨by unfold wrap64; omega⟩
  have hw : 0 ≤ IntKind.u64.wrap (j : Int) := by rw [u64_wrap]; omega
  simp only [latchkeyref02_Unarmor.l1]
  rw [if_pos (by omega), if_pos hw, if_pos hX, shr64i n j (by omega) hn, E1.out]
theorem ru_five {s : ByteArray} {X : List Int} {k i : Nat} {n : Int} (h0 : 0 ≤ n) (h1 : n < 32) (hX : X.length < 17592186044400) (hi : i < 4611686018427387904) :
    latchkeyref02_Unarmor.l1 (k + 6) s X (i : Int) n 4 = latchkeyref02_Unarmor.l0 k s (X ++ five n) ((i + 1 : Nat) : Int) := by
  have E1 : Aside0 (wrap64 ((i : Int) + 1) = ((i + 1 : Nat) : Int)) := ⟨by rw [wrap64_small (by omega) (by omega)]; rfl⟩
  have a4 := ru_bit (s := s) (X := X) (k := k + 5) (i := (i : Int)) 4 (by omega) h0 (by omega)
  have a3 := ru_bit (s := s) (X := X ++ [n / 2 ^ 4 % 2]) (k := k + 4) (i := (i : Int)) 3 (by omega) h0 (by simp; omega)
  have a2 := ru_bit (s := s) (X := X ++ [n / 2 ^ 4 % 2] ++ [n / 2 ^ 3 % 2]) (k := k + 3) (i := (i : Int)) 2 (by omega) h0 (by simp; omega)
  have a1 := ru_bit (s := s) (X := X ++ [n / 2 ^ 4 % 2] ++ [n / 2 ^ 3 % 2] ++ [n / 2 ^ 2 % 2]) (k := k + 2) (i := (i : Int)) 1 (by omega) h0 (by simp; omega)
  have a0 := ru_bit (s := s) (X := X ++ [n / 2 ^ 4 % 2] ++ [n / 2 ^ 3 % 2] ++ [n / 2 ^ 2 % 2] ++ [n / 2 ^ 1 % 2]) (k := k + 1) (i := (i : Int)) 0 (by omega) h0 (by simp; omega)
  have hl : ∀ Y : List Int, latchkeyref02_Unarmor.l1 (k + 1) s Y (i : Int) n (((0 : Nat) : Int) - 1) = latchkeyref02_Unarmor.l0 k s Y ((i + 1 : Nat) : Int) := by
    intro Y
    simp only [latchkeyref02_Unarmor.l1]
    rw [if_neg (by omega), E1.out]
  refine a4.trans ?_
  refine a3.trans ?_
  refine a2.trans ?_
  refine a1.trans ?_
  refine a0.trans ?_
  rw [hl]
  have e : X ++ [n / 2 ^ 4 % 2] ++ [n / 2 ^ 3 % 2] ++ [n / 2 ^ 2 % 2] ++ [n / 2 ^ 1 % 2] ++ [n / 2 ^ 0 % 2] = X ++ five n := by simp [five]
  rw [e]
/-- The letters' bits. -/
def bitsOf (L : List Int) : List Int := L.flatMap five
theorem bitsOf_snoc (L : List Int) (x : Int) : bitsOf (L ++ [x]) = bitsOf L ++ five x := by simp [bitsOf]
theorem bitsOf_len (L : List Int) : (bitsOf L).length = 5 * L.length := by
  induction L with
  | nil => rfl
  | cons x L ih =>
    have : bitsOf (x :: L) = five x ++ bitsOf L := rfl
    rw [this, List.length_append, ih, List.length_cons]
    show 5 + _ = _
    omega
theorem bitsOf_num : ∀ (L : List Int), (∀ x ∈ L, 0 ≤ x ∧ x < 32) → numOf 2 (bitsOf L) = numOf 32 L := by
  intro L
  generalize hn : L.length = n
  induction n generalizing L with
  | zero =>
    intro _
    obtain rfl := List.eq_nil_of_length_eq_zero hn
    rfl
  | succ n ih =>
    intro h
    rcases List.eq_nil_or_concat L with rfl | ⟨M, y, rfl⟩
    · simp at hn
    · rw [List.concat_eq_append] at *
      have hy := h y (by simp)
      rw [bitsOf_snoc, five_num _ _ hy.1 hy.2, numOf_snoc, ih M (by simpa using hn) (fun z hz => h z (by simp [hz]))]
theorem bt_byteR (s : ByteArray) {i : Nat} (hi : i < (bytesOf s).length) : bt s (i : Int) = (bytesOf s)[i] := by rw [← rd_bytesOf, rd_nat hi]
theorem ru_letters {s : ByteArray} (hs : s.size ≤ 1048576) : ∀ (d i k : Nat) (L : List Int), (∀ x ∈ L, 0 ≤ x ∧ x < 32) → (bytesOf s).take i = L.map lt → L.length = i → i + d = (bytesOf s).length → 7 * d + 50 ≤ k →
    (∃ M k', (∀ x ∈ M, 0 ≤ x ∧ x < 32) ∧ bytesOf s = M.map lt ∧ k ≤ k' + 7 * d + 1 ∧ latchkeyref02_Unarmor.l0 k s (bitsOf L) (i : Int) = latchkeyref02_Unarmor.l2 k' s (bitsOf M) [] 0) ∨
    (latchkeyref02_Unarmor.l0 k s (bitsOf L) (i : Int) = some ([], 22) ∧ ∃ i, ∃ _ : i < (bytesOf s).length, ∀ x : Int, 0 ≤ x → x < 32 → (bytesOf s)[i] ≠ lt x) := by
  have hsz := bytesOf_length s
  intro d
  induction d with
  | zero =>
    intro i k L code say hL hi hk
    obtain ⟨k, rfl⟩ : ∃ j, k = j + 1 := ⟨k - 1, by omega⟩
    refine .inl ⟨L, k, code, ?_, by omega, ?_⟩
    · rw [← say, List.take_of_length_le (by omega)]
    · simp only [latchkeyref02_Unarmor.l0]
      rw [if_neg (by omega)]
  | succ d ih =>
    intro i k L code say hL hi hk
    obtain ⟨k, rfl⟩ : ∃ j, k = j + 7 := ⟨k - 7, by omega⟩
    have hin : i < (bytesOf s).length := by omega
    have hbt := bt_byteR s hin
    have hlen := bitsOf_len L
    by_cases hx : ∃ x : Int, 0 ≤ x ∧ x < 32 ∧ (bytesOf s)[i] = lt x
    · obtain ⟨x, hx0, hx1, hc⟩ := hx
      have h1 : latchkeyref02_Unarmor.l0 (k + 7) s (bitsOf L) (i : Int) = latchkeyref02_Unarmor.l1 (k + 6) s (bitsOf L) (i : Int) x 4 := by
        simp only [latchkeyref02_Unarmor.l0]
        rw [if_pos (by omega), if_pos (by omega), hbt, hc, letter_of hx0 hx1 (by omega), Option.bind_some, if_neg (by omega)]
      have h2 := ru_five (s := s) (X := bitsOf L) (k := k) (i := i) hx0 hx1 (by omega) (by omega)
      rw [h1, h2, ← bitsOf_snoc]
      have code' : ∀ y ∈ L ++ [x], 0 ≤ y ∧ y < 32 := by
        intro y hy
        rcases List.mem_append.1 hy with hy | hy
        · exact code y hy
        · rw [List.mem_singleton.1 hy]; exact ⟨hx0, hx1⟩
      rcases ih (i + 1) k (L ++ [x]) code' (by rw [List.take_succ_eq_append_getElem hin, say, hc]; simp) (by simp [hL]) (by omega) (by omega) with ⟨M, k', a, b, c, e⟩ | e
      · exact .inl ⟨M, k', a, b, by omega, e⟩
      · exact .inr e
    · have hno : ∀ x : Int, 0 ≤ x → x < 32 → (bytesOf s)[i] ≠ lt x := fun x h0 h1 e => hx ⟨x, h0, h1, e⟩
      refine .inr ⟨?_, i, hin, hno⟩
      simp only [latchkeyref02_Unarmor.l0]
      rw [if_pos (by omega), if_pos (by omega), hbt, letter_not hno (by omega), Option.bind_some, if_pos (by decide)]
theorem numOf_append (b : Int) (l m : List Int) : numOf b (l ++ m) = numOf b l * b ^ m.length + numOf b m := by
  have := numOf_from b m (numOf b l)
  rw [← this]
  simp [numOf, List.foldl_append]
theorem ru_byte {s : ByteArray} {X B : List Int} {p : Nat} (hX : ∀ x ∈ X, 0 ≤ x ∧ x < 2) (hp : p + 8 ≤ X.length) (hl : X.length ≤ 5242880) (hB : B.length < 140737488355328) : ∀ (d j k : Nat), j + d = 8 → d < k →
    ∃ k', k = k' + d + 1 ∧ latchkeyref02_Unarmor.l3 k s X B (p : Int) (numOf 2 ((X.drop p).take j)) (j : Int) = latchkeyref02_Unarmor.l2 k' s X (B ++ [numOf 2 ((X.drop p).take 8) % 256]) ((p + 8 : Nat) : Int) := by
  intro d
  induction d with
  | zero =>
    intro j k hj hk
    obtain rfl : j = 8 := by omega
    obtain ⟨k, rfl⟩ : ∃ i, k = i + 1 := ⟨k - 1, by omega⟩
    refine ⟨k, by omega, ?_⟩
    have E1 : Aside0 (wrap64 ((p : Int) + 8) = ((p + 8 : Nat) : Int)) := ⟨by rw [wrap64_small (by omega) (by omega)]; rfl⟩
    simp only [latchkeyref02_Unarmor.l3]
    rw [if_neg (by decide), if_pos hB, E1.out]
  | succ d ih =>
    intro j k hj hk
    obtain ⟨k, rfl⟩ : ∃ i, k = i + 1 := ⟨k - 1, by omega⟩
    obtain ⟨k', e1, e2⟩ := ih (j + 1) k (by omega) (by omega)
    refine ⟨k', by omega, ?_⟩
    have hin : p + j < X.length := by omega
    have hdl : j < (X.drop p).length := by rw [List.length_drop]; omega
    have hx := hX _ (List.getElem_mem hin)
    have hb := numOf_bound 2 (by decide) ((X.drop p).take j) (fun x hx => hX x (List.mem_of_mem_drop (List.mem_of_mem_take hx)))
    have hjl : ((X.drop p).take j).length ≤ 8 := by rw [List.length_take]; omega
    have hpw : (2 : Int) ^ ((X.drop p).take j).length ≤ 2 ^ 8 := by exact_mod_cast Nat.pow_le_pow_right (by decide : 2 > 0) hjl
    have estep : numOf 2 ((X.drop p).take (j + 1)) = 2 * numOf 2 ((X.drop p).take j) + X[p + j] := by
      rw [List.take_succ_eq_append_getElem hdl, numOf_snoc, List.getElem_drop, Int.mul_comm]
    generalize hv : numOf 2 ((X.drop p).take j) = v at *
    have hv1 : v < 256 := by omega
    clear hpw
    have E1 : Aside0 (wrap64 ((p : Int) + (j : Int)) = ((p + j : Nat) : Int)) := ⟨by rw [wrap64_small (by omega) (by omega)]; rfl⟩
    have E2 : Aside0 (wrap64 (2 * v) = 2 * v) := ⟨wrap64_small (by omega) (by omega)⟩
    have E3 : Aside0 (wrap64 (2 * v + X[p + j]) = 2 * v + X[p + j]) := ⟨wrap64_small (by omega) (by omega)⟩
    have E4 : Aside0 (wrap64 ((j : Int) + 1) = ((j + 1 : Nat) : Int)) := ⟨by rw [wrap64_small (by omega) (by omega)]; rfl⟩
    simp only [latchkeyref02_Unarmor.l3]
    rw [if_pos (by omega), E1.out, if_pos (by omega), if_pos (by omega), E2.out, rd_nat hin, E3.out, E4.out, ← estep]
    exact e2
theorem same_from (l m : List Int) (hl : l.length = m.length) (hb : l.length ≤ 140737488355328) : ∀ (d i k : Nat), i + d = l.length → d < k → latchkeyref00_SameBytes.l0 k l m (i : Int) = some (l.drop i == m.drop i) := by
  intro d
  induction d with
  | zero =>
    intro i k hi hk
    obtain ⟨k, rfl⟩ : ∃ j, k = j + 1 := ⟨k - 1, by omega⟩
    simp only [latchkeyref00_SameBytes.l0]
    rw [if_neg (by omega), List.drop_eq_nil_of_le (by omega), List.drop_eq_nil_of_le (by omega)]
    rfl
  | succ d ih =>
    intro i k hi hk
    obtain ⟨k, rfl⟩ : ∃ j, k = j + 1 := ⟨k - 1, by omega⟩
    simp only [latchkeyref00_SameBytes.l0]
    have h1 : i < l.length := by omega
    have h2 : i < m.length := by omega
    rw [if_pos (by omega), if_pos (by omega), if_pos (by omega), wrap64_small (by omega) (by omega), rd_nat h1, rd_nat h2]
    rw [show ((i : Int) + 1) = ((i + 1 : Nat) : Int) from rfl, ih (i + 1) k (by omega) (by omega)]
    rw [List.drop_eq_getElem_cons h1, List.drop_eq_getElem_cons h2]
    by_cases h : l[i] = m[i]
    · rw [if_pos h, h, List.cons_beq_cons, beq_self_eq_true, Bool.true_and]
    · rw [if_neg h, List.cons_beq_cons, beq_eq_false_iff_ne.mpr h, Bool.false_and]
theorem same_f {k : Nat} {l m : List Int} (hb : l.length ≤ 140737488355328) (hk : l.length < k) : latchkeyref00_SameBytes.f k l m = some (l == m) := by
  unfold latchkeyref00_SameBytes.f
  by_cases h : (l.length : Int) = (m.length : Int)
  · rw [if_pos h]
    have := same_from l m (by omega) hb l.length 0 k (by omega) hk
    simpa using this
  · rw [if_neg h]
    have : ¬ l = m := fun e => h (by rw [e])
    simp [this]
theorem ru_bytes {s : ByteArray} {X : List Int} (hX : ∀ x ∈ X, 0 ≤ x ∧ x < 2) (hl : X.length ≤ 5242880) : ∀ (d k : Nat) (B : List Int), (∀ x ∈ B, 0 ≤ x ∧ x < 256) → 8 * B.length ≤ X.length → numOf 256 B = numOf 2 (X.take (8 * B.length)) → X.length ≤ 8 * B.length + d → 2 * d + 2 ≤ k →
    ∃ C k', (∀ x ∈ C, 0 ≤ x ∧ x < 256) ∧ 8 * C.length ≤ X.length ∧ X.length < 8 * C.length + 8 ∧ numOf 256 C = numOf 2 (X.take (8 * C.length)) ∧ k ≤ k' + 2 * d + 1 ∧
      latchkeyref02_Unarmor.l2 k s X B ((8 * B.length : Nat) : Int) = (latchkeyref02_Armor.f k' C).bind fun t109 => (if t109.toList = s.toList then (some (C, 0)) else (some (([] : List Int), 22))) := by
  intro d
  induction d using Nat.strongRecOn with
  | _ d ih =>
    intro k B hB h8 hn hd hk
    obtain ⟨k, rfl⟩ : ∃ j, k = j + 1 := ⟨k - 1, by omega⟩
    have E1 : Aside0 (wrap64 (((8 * B.length : Nat) : Int) + 8) = ((8 * B.length + 8 : Nat) : Int)) := ⟨by rw [wrap64_small (by omega) (by omega)]; rfl⟩
    by_cases hlt : 8 * B.length + 8 ≤ X.length
    · have h1 : latchkeyref02_Unarmor.l2 (k + 1) s X B ((8 * B.length : Nat) : Int) = latchkeyref02_Unarmor.l3 k s X B ((8 * B.length : Nat) : Int) 0 0 := by
        simp only [latchkeyref02_Unarmor.l2]
        rw [E1.out, if_pos (by omega)]
      obtain ⟨k', e1, e2⟩ := ru_byte (s := s) (B := B) hX hlt hl (by omega) 8 0 k (by omega) (by omega)
      have e0 : numOf 2 ((X.drop (8 * B.length)).take 0) = 0 := by simp [numOf]
      rw [e0] at e2
      have hb := numOf_bound 2 (by decide) ((X.drop (8 * B.length)).take 8) (fun x hx => hX x (List.mem_of_mem_drop (List.mem_of_mem_take hx)))
      have hlen8 : ((X.drop (8 * B.length)).take 8).length = 8 := by rw [List.length_take, List.length_drop]; omega
      rw [hlen8] at hb
      have hb' : 0 ≤ numOf 2 ((X.drop (8 * B.length)).take 8) ∧ numOf 2 ((X.drop (8 * B.length)).take 8) < 256 := by omega
      have hnum : numOf 256 (B ++ [numOf 2 ((X.drop (8 * B.length)).take 8)]) = numOf 2 (X.take (8 * B.length + 8)) := by
        rw [numOf_snoc, hn, List.take_add, numOf_append, hlen8]
        rfl
      rw [Int.emod_eq_of_lt hb'.1 hb'.2] at e2
      generalize numOf 2 ((X.drop (8 * B.length)).take 8) = v at *
      have hB' : ∀ y ∈ B ++ [v], 0 ≤ y ∧ y < 256 := by
        intro y hy
        rcases List.mem_append.1 hy with hy | hy
        · exact hB y hy
        · rw [List.mem_singleton.1 hy]; exact hb'
      have hl8 : 8 * (B ++ [v]).length = 8 * B.length + 8 := by simp; omega
      obtain ⟨C, k2, c1, c2, c3, c4, c5, c6⟩ := ih (d - 8) (by omega) k' (B ++ [v]) hB' (by omega) (by rw [hl8]; exact hnum) (by omega) (by omega)
      rw [hl8] at c6
      exact ⟨C, k2, c1, c2, c3, c4, by omega, by rw [h1]; exact e2.trans c6⟩
    · refine ⟨B, k, hB, h8, by omega, hn, by omega, ?_⟩
      simp only [latchkeyref02_Unarmor.l2]
      rw [E1.out, if_neg (by omega)]
theorem five_bits (L : List Int) : ∀ x ∈ bitsOf L, 0 ≤ x ∧ x < 2 := by
  intro x hx
  unfold bitsOf at hx
  obtain ⟨n, _, hn⟩ := List.mem_flatMap.1 hx
  simp [five] at hn
  omega
theorem arms_iff {C M L : List Int} {p n : Nat} {h : Int} (a : Arms C L p) (hM : ∀ x ∈ M, 0 ≤ x ∧ x < 32) (hn : n < 8) (h0 : 0 ≤ h) (hlen : 8 * C.length + n = 5 * M.length) (num : numOf 256 C * 2 ^ n + h = numOf 32 M) : L = M ↔ n < 5 ∧ h = 0 := by
  constructor
  · rintro rfl
    have l1 := a.len
    have p1 := a.small
    have e : p = n := by omega
    subst e
    have n1 := a.num
    exact ⟨p1, by omega⟩
  · rintro ⟨h5, rfl⟩
    exact arms_back a hlen h5 (by omega) hM
theorem ru_f {s : ByteArray} (hs : s.size ≤ 1048576) {k : Nat} (hk : 100000000 + 100 * s.size ≤ k) : ∃ res, latchkeyref02_Unarmor.f k s = some res ∧ UnaSays (bytesOf s) res := by
  have hsz := bytesOf_length s
  rcases ru_letters hs (bytesOf s).length 0 k [] (by simp) (by simp) rfl (by omega) (by omega) with ⟨M, k', a, b, c, e⟩ | ⟨e, h⟩
  · have hML : M.length = (bytesOf s).length := by rw [b, List.length_map]
    have hbl := bitsOf_len M
    obtain ⟨C, k2, c1, c2, c3, c4, c5, c6⟩ := ru_bytes (s := s) (five_bits M) (by omega) (5 * M.length) k' [] (by simp) (by simp) (by simp [numOf]) (by omega) (by omega)
    obtain ⟨L, p, A, hA⟩ := ra_f c1 (by omega) (k := k2) (by omega)
    rw [hA, Option.bind_some] at c6
    have e' : latchkeyref02_Unarmor.f k s = latchkeyref02_Unarmor.l2 k' s (bitsOf M) [] 0 := e
    have hsplit : numOf 2 (bitsOf M) = numOf 2 ((bitsOf M).take (8 * C.length)) * 2 ^ (5 * M.length - 8 * C.length) + numOf 2 ((bitsOf M).drop (8 * C.length)) := by
      conv => lhs; rw [← List.take_append_drop (8 * C.length) (bitsOf M)]
      rw [numOf_append, List.length_drop, hbl]
    have hbd := numOf_bound 2 (by decide) ((bitsOf M).drop (8 * C.length)) (fun x hx => five_bits M x (List.mem_of_mem_drop hx))
    rw [List.length_drop, hbl] at hbd
    rw [bitsOf_num M a, ← c4] at hsplit
    obtain ⟨n, hn⟩ : ∃ n, n = 5 * M.length - 8 * C.length := ⟨_, rfl⟩
    rw [← hn] at hsplit hbd
    generalize numOf 2 ((bitsOf M).drop (8 * C.length)) = h at *
    have hiff := arms_iff A a (n := n) (h := h) (by omega) hbd.1 (by omega) hsplit.symm
    have hcmp : ((strOfNums (L.map lt)).toList = s.toList) ↔ L = M := by
      have h1 := list_beq (s := strOfNums (L.map lt)) (t := s)
      constructor
      · intro h
        rw [h] at h1
        have e2 : strOfNums (L.map lt) = s := by simpa using h1
        have := congrArg bytesOf e2
        rw [bytesOf_str (lt_range A.code), b] at this
        exact lt_map_inj A.code a this
      · rintro rfl
        rw [← b, str_bytesOf]
    refine ⟨if n < 5 ∧ h = 0 then (C, 0) else ([], 22), ?_, .inl ⟨M, C, h, n, ⟨by omega, hbd.1, hbd.2, a, c1, by rw [List.take_length]; exact b, hsplit.symm, by omega⟩, rfl⟩⟩
    rw [e']
    refine c6.trans ?_
    by_cases hc : n < 5 ∧ h = 0
    · rw [if_pos hc, if_pos (hcmp.2 (hiff.2 hc))]
    · rw [if_neg hc, if_neg (fun e => hc (hiff.1 (hcmp.1 e)))]
  · exact ⟨_, e, .inr ⟨rfl, h⟩⟩
theorem una_alike {t : List Int} {r r' : List Int × Int} (h : UnaSays t r) (h' : UnaSays t r') : r = r' := by
  rcases h with ⟨L, B, h, n, st, rfl⟩ | ⟨rfl, i, hi, hx⟩
  · rcases h' with ⟨L', B', h', n', st', rfl⟩ | ⟨rfl, i, hi, hx⟩
    · have e := lt_map_inj st.code st'.code (st.say.symm.trans st'.say)
      subst e
      have l1 := st.len
      have l2 := st'.len
      have n1 := st.hn
      have n2 := st'.hn
      have en : n = n' := by omega
      subst en
      have eb : B.length = B'.length := by omega
      have u := st.num.trans st'.num.symm
      have h0 := st.h0
      have h1 := st.h1
      have h0' := st'.h0
      have h1' := st'.h1
      have e2 : h = h' ∧ numOf 256 B = numOf 256 B' := by
        clear l1 l2 eb
        rcases eight n1 with rfl | rfl | rfl | rfl | rfl | rfl | rfl | rfl <;> omega
      rw [numOf_inj 256 (by decide) B B' eb st.byte st'.byte e2.2, e2.1]
    · have say := st.say
      rw [List.take_length] at say
      subst say
      rw [List.getElem_map] at hx
      rw [List.length_map] at hi
      have := st.code _ (List.getElem_mem hi)
      exact absurd rfl (hx _ this.1 this.2)
  · rcases h' with ⟨L', B', h', n', st', rfl⟩ | ⟨rfl, _⟩
    · have say := st'.say
      rw [List.take_length] at say
      subst say
      rw [List.getElem_map] at hx
      rw [List.length_map] at hi
      have := st'.code _ (List.getElem_mem hi)
      exact absurd rfl (hx _ this.1 this.2)
    · rfl
abbrev mkv (x : Int) : Int := ((IntKind.u64.wrap ((IntKind.u64.wrap (wrap64 ((wrap64 (1000003 * (wrap64 (1 + 7)))) + x))) * 11400714819323198485)) / 72057594037927936) % 256
def marksTo (n : Nat) : List Int := (List.range n).map fun i => mkv (i : Nat)
theorem marks_len (n : Nat) : (marksTo n).length = n := by simp [marksTo]
theorem marks_succ (n : Nat) : marksTo (n + 1) = marksTo n ++ [mkv (n : Nat)] := by simp [marksTo, List.range_succ]
theorem marks_get (n i : Nat) (h : i < (marksTo n).length) : (marksTo n)[i] = mkv (i : Nat) := by simp [marksTo]
theorem lent_marks (l : List Int) (hl : l.length ≤ 140737488351232) : ∀ (d i k : Nat), i + d = 24 → d < k → OctLent.latchkeykit_LentBytes.l1 k l (l ++ marksTo i) (i : Int) = some (l ++ marksTo 24) := by
  intro d
  induction d with
  | zero =>
    intro i k hi hk
    obtain ⟨k, rfl⟩ : ∃ j, k = j + 1 := ⟨k - 1, by omega⟩
    obtain rfl : i = 24 := by omega
    have := marks_len 24
    simp only [OctLent.latchkeykit_LentBytes.l1]
    rw [if_neg (by decide), if_pos (by omega), if_pos (by rw [List.length_append]; omega)]
  | succ d ih =>
    intro i k hi hk
    obtain ⟨k, rfl⟩ : ∃ j, k = j + 1 := ⟨k - 1, by omega⟩
    have hm := marks_len i
    have E1 : Aside0 (wrap64 ((i : Int) + 1) = ((i + 1 : Nat) : Int)) := ⟨by rw [wrap64_small (by omega) (by omega)]; rfl⟩
    have h1 : OctLent.latchkeykit_markByte.f 1 (i : Int) = some (mkv (i : Int)) := rfl
    simp only [OctLent.latchkeykit_LentBytes.l1]
    rw [if_pos (by omega), h1, Option.bind_some, if_pos (by rw [List.length_append]; omega), E1.out, List.append_assoc, ← marks_succ]
    exact ih (i + 1) k (by omega) (by omega)
theorem lent_from (l : List Int) (hl : l.length ≤ 140737488351232) : ∀ (d i k : Nat), i + d = l.length → d + 30 < k → OctLent.latchkeykit_LentBytes.l0 k l (l.take i) (i : Int) = some (l ++ marksTo 24) := by
  intro d
  induction d with
  | zero =>
    intro i k hi hk
    obtain ⟨k, rfl⟩ : ∃ j, k = j + 1 := ⟨k - 1, by omega⟩
    have := lent_marks l hl 24 0 k (by omega) (by omega)
    simp only [OctLent.latchkeykit_LentBytes.l0]
    rw [if_neg (by omega), List.take_of_length_le (by omega)]
    have e : marksTo 0 = [] := rfl
    rw [e, List.append_nil] at this
    exact this
  | succ d ih =>
    intro i k hi hk
    obtain ⟨k, rfl⟩ : ∃ j, k = j + 1 := ⟨k - 1, by omega⟩
    have hin : i < l.length := by omega
    have E1 : Aside0 (wrap64 ((i : Int) + 1) = ((i + 1 : Nat) : Int)) := ⟨by rw [wrap64_small (by omega) (by omega)]; rfl⟩
    simp only [OctLent.latchkeykit_LentBytes.l0]
    rw [if_pos (by omega), if_pos (by omega), if_pos (by rw [List.length_take]; omega), rd_nat hin, ← List.take_succ_eq_append_getElem hin, E1.out]
    exact ih (i + 1) k (by omega) (by omega)
theorem lent_f (l : List Int) (hl : l.length ≤ 140737488351232) {k : Nat} (hk : l.length + 30 < k) : OctLent.latchkeykit_LentBytes.f k l = some (l ++ marksTo 24) := lent_from l hl l.length 0 k (by omega) hk
theorem kept_from (l : List Int) (hl : l.length ≤ 140737488351232) : ∀ (d i k : Nat), i + d = l.length + 24 → d < k → OctKept.latchkeykit_KeptBytes.l0 k l (l ++ marksTo 24) (i : Int) = some true := by
  have hm := marks_len 24
  have hL : (l ++ marksTo 24).length = l.length + 24 := by rw [List.length_append, hm]
  intro d
  induction d with
  | zero =>
    intro i k hi hk
    obtain ⟨k, rfl⟩ : ∃ j, k = j + 1 := ⟨k - 1, by omega⟩
    simp only [OctKept.latchkeykit_KeptBytes.l0]
    rw [if_neg (by omega)]
  | succ d ih =>
    intro i k hi hk
    obtain ⟨k, rfl⟩ : ∃ j, k = j + 1 := ⟨k - 1, by omega⟩
    have hnext := ih (i + 1) k (by omega) (by omega)
    have E1 : Aside0 (wrap64 ((i : Int) + 1) = ((i + 1 : Nat) : Int)) := ⟨by rw [wrap64_small (by omega) (by omega)]; rfl⟩
    have hF : i < (l ++ marksTo 24).length := by omega
    by_cases hin : i < l.length
    · simp only [OctKept.latchkeykit_KeptBytes.l0]
      rw [if_pos (by omega), if_pos (by omega), if_pos (by omega), rd_nat hF, rd_nat hin, List.getElem_append_left hin, if_pos rfl, if_neg (by omega), E1.out]
      exact hnext
    · have E2 : Aside0 (wrap64 ((i : Int) - (l.length : Int)) = ((i - l.length : Nat) : Int)) := ⟨by rw [wrap64_small (by omega) (by omega)]; omega⟩
      have h1 : OctKept.latchkeykit_markByte.f 1 ((i - l.length : Nat) : Int) = some (mkv ((i - l.length : Nat) : Int)) := rfl
      simp only [OctKept.latchkeykit_KeptBytes.l0]
      rw [if_pos (by omega), if_neg (by omega), if_pos (by omega), if_pos (by omega), E2.out, h1, Option.bind_some, rd_nat hF, List.getElem_append_right (by omega), marks_get, if_pos rfl, E1.out]
      exact hnext
theorem kept_f (l : List Int) (hl : l.length ≤ 140737488351232) {k : Nat} (hk : l.length + 24 < k) : OctKept.latchkeykit_KeptBytes.f k (l ++ marksTo 24) l = some true := by
  have hm := marks_len 24
  have E1 : Aside0 (wrap64 ((l.length : Int) + 24) = ((l.length + 24 : Nat) : Int)) := ⟨by rw [wrap64_small (by omega) (by omega)]; rfl⟩
  unfold OctKept.latchkeykit_KeptBytes.f
  rw [if_pos (by rw [List.length_append, hm]; rfl), E1.out, if_pos (by omega), if_pos (by rw [List.length_append, hm]; omega)]
  exact kept_from l hl (l.length + 24) 0 k (by omega) hk
theorem sums_alls (l : List Int) (s : ByteArray) (hl : l.length ≤ 1048576) (hs : s.size ≤ 1048576) (hb : ∀ x ∈ l, 0 ≤ x ∧ x < 256) :
    ∃ (k : Nat) (F d : List Int) (t : ByteArray) (x e : Int), OctLent.latchkeykit_LentBytes.f k l = some F ∧ (F.take l.length = l ∧ l.length ≤ F.length) ∧ OctSum.octets_Sum.f k l = some x ∧ OctArmor.octets_Armor.f k l = some t ∧ OctRefs.octets_Unarmor.f k s = some (d, e) ∧ OctRefs.latchkeyref02_Unarmor.f k s = some (d, e) ∧ OctRefs.latchkeyref02_Sum.f k l = some x ∧ OctRefs.latchkeyref02_Armor.f k l = some t ∧ OctRefs.latchkeyref00_SameBytes.f k d d = some true ∧ OctKept.latchkeykit_KeptBytes.f k F l = some true := by
  obtain ⟨k, hk⟩ : ∃ k : Nat, k = 1000000000 := ⟨_, rfl⟩
  obtain ⟨L, p, A, hA⟩ := armor_f hb (by omega) (k := k) (by omega)
  obtain ⟨M, q, B, hB⟩ := ra_f hb hl (k := k) (by omega)
  have l1 := A.len
  have p1 := A.small
  have e1 : M = L := arms_back B (by omega) p1 (by rw [A.num]) A.code
  subst e1
  obtain ⟨res, hu, hsay⟩ := una_f (s := s) (by omega) (k := k) (by omega)
  obtain ⟨res', hu', hsay'⟩ := ru_f hs (k := k) (by omega)
  have e2 := una_alike hsay hsay'
  subst e2
  obtain ⟨d, e⟩ := res
  have hd : d.length ≤ 5242880 := by
    have hsz := bytesOf_length s
    rcases hsay with ⟨L', B', h, n, st, er⟩ | ⟨er, _⟩
    · have := st.len
      by_cases hc : n < 5 ∧ h = 0
      · rw [if_pos hc] at er
        cases er
        omega
      · rw [if_neg hc] at er
        cases er
        simp
    · cases er
      simp
  have hm := marks_len 24
  refine ⟨k, l ++ marksTo 24, d, strOfNums (M.map lt), fnv 14695981039346656037 l, e, lent_f l (by omega) (by omega), ⟨by simp, by simp⟩, sum_f (by omega) (by omega), hA, hu, hu', rsum_f (by omega) (by omega), hB, ?_, kept_f l (by omega) (by omega)⟩
  rw [same_f (by omega) (by omega), beq_self_eq_true]
end Go.Proofs.Ytkjkmaopifmghaa.PureSums
