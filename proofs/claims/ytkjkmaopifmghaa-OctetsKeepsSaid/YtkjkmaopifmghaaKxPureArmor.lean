/- What Armor's letters are: plain Lean. -/
import Derived.Test.YtkjkmaopifmghaaKxOctArmorx1
import Derived.Laws.BitsAllLaws
import Derived.Laws.BitsLemmas
namespace Go.Proofs.Ytkjkmaopifmghaa.PureArmor
open Go.RowKit Go.Proofs.YtkjkmaopifmghaaW.PrintWords Go.Proofs.YtkjkmaopifmghaaW.PrintLast Go.Proofs.YtkjkmaopifmghaaW.PrintMore
set_option linter.unusedVariables false
set_option linter.unusedSimpArgs false
theorem u64_wrap (n : Int) : IntKind.u64.wrap n = n % 18446744073709551616 := rfl
theorem rd_nat {l : List Int} {i : Nat} (h : i < l.length) : rd l (i : Int) = l[i] := by
  simp only [rd, rdOf]
  simp [List.getD_eq_getElem?_getD, h]
theorem wrap64_small {n : Int} (h0 : 0 ≤ n) (h : n < 9223372036854775808) : wrap64 n = n := by unfold wrap64; omega
theorem wraps_u64 (n : Int) (h₀ : 0 ≤ n) (h₁ : n < 2 ^ 64) : IntKind.u64.wrap n = n := by rw [u64_wrap]; omega
theorem and31 (x : Int) (h₀ : 0 ≤ x) (h₁ : x < 18446744073709551616) : Go.bits .and .u64 x 31 = x % 32 := bits_mask .u64 64 (by decide) wraps_u64 5 (by decide) x h₀ h₁
theorem andmask (x : Int) (i : Nat) (hi : i ≤ 60) (h₀ : 0 ≤ x) (h₁ : x < 18446744073709551616) : Go.bits .and .u64 x (IntKind.u64.wrap (shl .u64 1 (i : Int) - 1)) = x % 2 ^ i := by
  have hp : (2 : Int) ^ i ≤ 2 ^ 60 := by exact_mod_cast Nat.pow_le_pow_right (by decide : 2 > 0) hi
  have hp0 : (0 : Int) < 2 ^ i := by exact_mod_cast Nat.two_pow_pos i
  have h2 : shl .u64 1 (i : Int) = 2 ^ i := by
    unfold shl
    have hm : min ((i : Int)).toNat IntKind.u64.bits = i := by
      show min ((i : Int)).toNat 64 = i
      omega
    rw [hm, Int.one_mul, u64_wrap]
    omega
  rw [h2, u64_wrap, Int.emod_eq_of_lt (by omega) (by omega)]
  exact bits_mask .u64 64 (by decide) wraps_u64 i (by omega) x h₀ h₁
theorem shr_div (x : Int) (j : Nat) (hj : j ≤ 60) : shr .u64 x (j : Int) = x / 2 ^ j := by
  unfold shr
  have hm : min ((j : Int)).toNat IntKind.u64.bits = j := by
    show min ((j : Int)).toNat 64 = j
    omega
  rw [hm]
theorem or_join (x y : Int) (i : Nat) (hx₀ : 0 ≤ x) (hx₁ : x * 2 ^ i < 18446744073709551616) (hy₀ : 0 ≤ y) (hy : y < 2 ^ i) (hy₁ : y < 18446744073709551616) : Go.bits .or .u64 (IntKind.u64.wrap (x * 2 ^ i)) y = x * 2 ^ i + y := by
  have hp0 : (0 : Int) < 2 ^ i := by exact_mod_cast Nat.two_pow_pos i
  have h0 : 0 ≤ x * 2 ^ i := Int.mul_nonneg hx₀ (by omega)
  rw [u64_wrap, Int.emod_eq_of_lt h0 hx₁]
  exact bits_join .u64 64 (by decide) wraps_u64 i _ y h0 (Int.mul_emod_left _ _) hx₁ hy₀ hy hy₁
abbrev AB : ByteArray := ⟨#[97, 98, 99, 100, 101, 102, 103, 104, 105, 106, 107, 108, 109, 110, 111, 112, 113, 114, 115, 116, 117, 118, 119, 120, 121, 122, 50, 51, 52, 53, 54, 55]⟩
def numOf (b : Int) (l : List Int) : Int := l.foldl (fun v x => v * b + x) 0
theorem numOf_snoc (b : Int) (l : List Int) (x : Int) : numOf b (l ++ [x]) = numOf b l * b + x := by simp [numOf]
theorem numOf_nil (b : Int) : numOf b [] = 0 := rfl
theorem numOf_from (b : Int) (l : List Int) : ∀ v, l.foldl (fun v x => v * b + x) v = v * b ^ l.length + numOf b l := by
  induction l with
  | nil => intro v; simp [numOf]
  | cons x l ih =>
    intro v
    have h2 : numOf b (x :: l) = x * b ^ l.length + numOf b l := by
      have := ih (0 * b + x)
      simp only [numOf, List.foldl_cons] at this ⊢
      rw [this]
      simp
    rw [List.foldl_cons, ih, h2, List.length_cons, Int.pow_succ, Int.add_mul, Int.mul_comm (b ^ l.length) b, Int.mul_assoc, Int.add_assoc]
theorem numOf_cons (b x : Int) (l : List Int) : numOf b (x :: l) = x * b ^ l.length + numOf b l := by
  have := numOf_from b l (0 * b + x)
  simp only [Int.zero_mul, Int.zero_add] at this
  rw [← this]
  simp [numOf]
theorem numOf_bound (b : Int) (hb : 0 < b) (l : List Int) (h : ∀ x ∈ l, 0 ≤ x ∧ x < b) : 0 ≤ numOf b l ∧ numOf b l < b ^ l.length := by
  induction l with
  | nil => simp [numOf]
  | cons x l ih =>
    have ih := ih (fun y hy => h y (by simp [hy]))
    have hx := h x (by simp)
    have hp : (0 : Int) < b ^ l.length := Int.pow_pos hb
    rw [numOf_cons, List.length_cons, Int.pow_succ]
    have h1 : x * b ^ l.length ≤ (b - 1) * b ^ l.length := Int.mul_le_mul_of_nonneg_right (by omega) (by omega)
    have h2 : 0 ≤ x * b ^ l.length := Int.mul_nonneg hx.1 (by omega)
    rw [Int.sub_mul, Int.one_mul] at h1
    rw [Int.mul_comm (b ^ l.length) b]
    omega
theorem numOf_inj (b : Int) (hb : 0 < b) : ∀ (l m : List Int), l.length = m.length → (∀ x ∈ l, 0 ≤ x ∧ x < b) → (∀ x ∈ m, 0 ≤ x ∧ x < b) → numOf b l = numOf b m → l = m := by
  intro l
  induction l with
  | nil => intro m hm _ _ _; exact (List.eq_nil_of_length_eq_zero hm.symm).symm
  | cons x l ih =>
    intro m
    cases m with
    | nil => intro hm; simp at hm
    | cons y m =>
      intro hm hl hmm he
      have hlen : l.length = m.length := by simpa using hm
      have bl := numOf_bound b hb l (fun z hz => hl z (by simp [hz]))
      have bm := numOf_bound b hb m (fun z hz => hmm z (by simp [hz]))
      rw [numOf_cons, numOf_cons, hlen] at he
      rw [hlen] at bl
      have hp : (0 : Int) < b ^ m.length := Int.pow_pos hb
      generalize b ^ m.length = B at *
      have e1 : x = y := by
        have := congrArg (· / B) he
        simp only [Int.mul_comm _ B, Int.add_comm (B * _), Int.add_mul_ediv_left _ _ (by omega : B ≠ 0), Int.ediv_eq_zero_of_lt bl.1 bl.2, Int.ediv_eq_zero_of_lt bm.1 bm.2] at this
        omega
      subst e1
      rw [ih m hlen (fun z hz => hl z (by simp [hz])) (fun z hz => hmm z (by simp [hz])) (by omega)]
abbrev lt (x : Int) : Int := bt AB x
theorem l1_emit {k : Nat} {x3 b : List Int} {x4 len i : Int} (j : Nat) (hj : j ≤ 20) (h0 : 0 ≤ x4) (h1 : x4 < 4503599627370496) (hl : x3.length < 225179981368000) :
    Go.Proofs.Ytkjkmaopifmghaa.OctArmor.octets_Armor.l1 (k + 1) x3 x4 ((j : Int) + 5) b len i = Go.Proofs.Ytkjkmaopifmghaa.OctArmor.octets_Armor.l1 k (x3 ++ [lt (x4 / 2 ^ j % 32)]) x4 (j : Int) b len i := by
  have hp0 : (0 : Int) < 2 ^ j := by exact_mod_cast Nat.two_pow_pos j
  have hq0 : 0 ≤ x4 / 2 ^ j := Int.ediv_nonneg h0 (by omega)
  have hq1 : x4 / 2 ^ j ≤ x4 := Int.ediv_le_self _ h0
  simp only [Go.Proofs.Ytkjkmaopifmghaa.OctArmor.octets_Armor.l1]
  have e1 : (j : Int) + 5 - 5 = j := by omega
  rw [if_pos (by omega), e1, wrap64_small (by omega) (by omega), if_pos (by omega), shr_div x4 j (by omega), and31 _ hq0 (by omega), if_pos (by omega), if_pos (by omega), if_pos hl]
theorem l1_leave {k : Nat} {x3 b : List Int} {x4 len i : Int} (j : Nat) (hj : j < 5) (h0 : 0 ≤ x4) (h1 : x4 < 4503599627370496) :
    Go.Proofs.Ytkjkmaopifmghaa.OctArmor.octets_Armor.l1 (k + 1) x3 x4 (j : Int) b len i = Go.Proofs.Ytkjkmaopifmghaa.OctArmor.octets_Armor.l0 k x3 (x4 % 2 ^ j) (j : Int) b len (wrap64 (i + 1)) := by
  simp only [Go.Proofs.Ytkjkmaopifmghaa.OctArmor.octets_Armor.l1]
  rw [if_neg (by omega), if_pos (by omega), andmask x4 j (by omega) h0 (by omega)]
/-- A state of the letters: so many bits are held. -/
structure ArmSt (b : List Int) (i : Nat) (L : List Int) (h : Int) (n : Nat) : Prop where
  hn : n < 5
  h0 : 0 ≤ h
  h1 : h < 2 ^ n
  code : ∀ x ∈ L, 0 ≤ x ∧ x < 32
  num : numOf 32 L * 2 ^ n + h = numOf 256 (b.take i)
  len : 5 * L.length + n = 8 * i
theorem five {n : Nat} (h : n < 5) : n = 0 ∨ n = 1 ∨ n = 2 ∨ n = 3 ∨ n = 4 := by omega
theorem arm_one {b : List Int} {i : Nat} {L : List Int} {h : Int} {n : Nat} (st : ArmSt b i L h n) (hi : i < b.length) (hb : ∀ x ∈ b, 0 ≤ x ∧ x < 256) (hlen : b.length ≤ 140737488351232) (k : Nat) (hk : 4 ≤ k) :
    ∃ k' L' h' n', k ≤ k' + 4 ∧ ArmSt b (i + 1) L' h' n' ∧ Go.Proofs.Ytkjkmaopifmghaa.OctArmor.octets_Armor.l0 k (L.map lt) h n b (b.length : Int) (i : Int) = Go.Proofs.Ytkjkmaopifmghaa.OctArmor.octets_Armor.l0 k' (L'.map lt) h' n' b (b.length : Int) ((i + 1 : Nat) : Int) := by
  obtain ⟨k, rfl⟩ : ∃ j, k = j + 4 := ⟨k - 4, by omega⟩
  obtain ⟨hn, h0, h1, code, num, len⟩ := st
  have hc := hb b[i] (List.getElem_mem hi)
  have htake : numOf 256 (b.take (i + 1)) = numOf 256 (b.take i) * 256 + b[i] := by
    rw [List.take_succ_eq_append_getElem hi, numOf_snoc]
  have h32 : h < 32 := by
    have : (2 : Int) ^ n ≤ 2 ^ 4 := by exact_mod_cast Nat.pow_le_pow_right (by decide : 2 > 0) (by omega : n ≤ 4)
    omega
  have hor : Go.bits .or .u64 (IntKind.u64.wrap (h * 256)) (IntKind.u64.wrap b[i]) = h * 256 + b[i] := by
    rw [wraps_u64 b[i] hc.1 (by omega)]
    exact or_join h b[i] 8 h0 (by omega) hc.1 hc.2 (by omega)
  have hstep : Go.Proofs.Ytkjkmaopifmghaa.OctArmor.octets_Armor.l0 (k + 4) (L.map lt) h n b (b.length : Int) (i : Int) = Go.Proofs.Ytkjkmaopifmghaa.OctArmor.octets_Armor.l1 (k + 3) (L.map lt) (h * 256 + b[i]) ((n : Int) + 8) b (b.length : Int) (i : Int) := by
    simp only [Go.Proofs.Ytkjkmaopifmghaa.OctArmor.octets_Armor.l0]
    rw [if_pos (by omega), if_pos (by omega), if_pos (by omega), rd_nat hi, hor, wrap64_small (by omega) (by omega)]
  rw [hstep]
  clear hor hstep
  have hL : (L.map lt).length = L.length := by simp
  have hlL : 5 * L.length ≤ 8 * 140737488351232 := by omega
  have e2 : wrap64 ((i : Int) + 1) = ((i + 1 : Nat) : Int) := by rw [wrap64_small (by omega) (by omega)]; rfl
  have hsn : ∀ (x : Int), L.map lt ++ [lt x] = (L ++ [x]).map lt := fun x => by simp
  have hsn2 : ∀ (x y : Int), (L ++ [x]).map lt ++ [lt y] = ((L ++ [x]) ++ [y]).map lt := fun x y => by simp
  generalize hv : h * 256 + b[i] = v at *
  have hv0 : 0 ≤ v := by omega
  have cases5 := five hn
  have code1 : ∀ x, 0 ≤ x → x < 32 → ∀ y ∈ L ++ [x], 0 ≤ y ∧ y < 32 := by
    intro x h0 h1 y hy
    rcases List.mem_append.1 hy with hy | hy
    · exact code y hy
    · rw [List.mem_singleton.1 hy]; exact ⟨h0, h1⟩
  have code2 : ∀ x z, 0 ≤ x → x < 32 → 0 ≤ z → z < 32 → ∀ y ∈ L ++ [x] ++ [z], 0 ≤ y ∧ y < 32 := by
    intro x z h0 h1 h2 h3 y hy
    rcases List.mem_append.1 hy with hy | hy
    · exact code1 x h0 h1 y hy
    · rw [List.mem_singleton.1 hy]; exact ⟨h2, h3⟩
  rcases cases5 with rfl | rfl | rfl | rfl | rfl
  · refine ⟨k + 1, L ++ [v / 2 ^ 3 % 32], v % 2 ^ 3, 3, by omega, ⟨by omega, by omega, by omega, code1 _ (by omega) (by omega), ?_, by simp; omega⟩, ?_⟩
    · rw [htake, numOf_snoc, ← num]
      omega
    · rw [show ((0 : Nat) : Int) + 8 = ((3 : Nat) : Int) + 5 from rfl, l1_emit 3 (by omega) hv0 (by omega) (by omega), hsn, l1_leave 3 (by omega) hv0 (by omega), e2]
  · refine ⟨k + 1, L ++ [v / 2 ^ 4 % 32], v % 2 ^ 4, 4, by omega, ⟨by omega, by omega, by omega, code1 _ (by omega) (by omega), ?_, by simp; omega⟩, ?_⟩
    · rw [htake, numOf_snoc, ← num]
      omega
    · rw [show ((1 : Nat) : Int) + 8 = ((4 : Nat) : Int) + 5 from rfl, l1_emit 4 (by omega) hv0 (by omega) (by omega), hsn, l1_leave 4 (by omega) hv0 (by omega), e2]
  · refine ⟨k, L ++ [v / 2 ^ 5 % 32] ++ [v / 2 ^ 0 % 32], v % 2 ^ 0, 0, by omega, ⟨by omega, by omega, by omega, code2 _ _ (by omega) (by omega) (by omega) (by omega), ?_, by simp; omega⟩, ?_⟩
    · rw [htake, numOf_snoc, numOf_snoc, ← num]
      omega
    · rw [show ((2 : Nat) : Int) + 8 = ((5 : Nat) : Int) + 5 from rfl, l1_emit 5 (by omega) hv0 (by omega) (by omega), hsn, show ((5 : Nat) : Int) = ((0 : Nat) : Int) + 5 from rfl, l1_emit 0 (by omega) hv0 (by omega) (by simp; omega), hsn2, l1_leave 0 (by omega) hv0 (by omega), e2]
  · refine ⟨k, L ++ [v / 2 ^ 6 % 32] ++ [v / 2 ^ 1 % 32], v % 2 ^ 1, 1, by omega, ⟨by omega, by omega, by omega, code2 _ _ (by omega) (by omega) (by omega) (by omega), ?_, by simp; omega⟩, ?_⟩
    · rw [htake, numOf_snoc, numOf_snoc, ← num]
      omega
    · rw [show ((3 : Nat) : Int) + 8 = ((6 : Nat) : Int) + 5 from rfl, l1_emit 6 (by omega) hv0 (by omega) (by omega), hsn, show ((6 : Nat) : Int) = ((1 : Nat) : Int) + 5 from rfl, l1_emit 1 (by omega) hv0 (by omega) (by simp; omega), hsn2, l1_leave 1 (by omega) hv0 (by omega), e2]
  · refine ⟨k, L ++ [v / 2 ^ 7 % 32] ++ [v / 2 ^ 2 % 32], v % 2 ^ 2, 2, by omega, ⟨by omega, by omega, by omega, code2 _ _ (by omega) (by omega) (by omega) (by omega), ?_, by simp; omega⟩, ?_⟩
    · rw [htake, numOf_snoc, numOf_snoc, ← num]
      omega
    · rw [show ((4 : Nat) : Int) + 8 = ((7 : Nat) : Int) + 5 from rfl, l1_emit 7 (by omega) hv0 (by omega) (by omega), hsn, show ((7 : Nat) : Int) = ((2 : Nat) : Int) + 5 from rfl, l1_emit 2 (by omega) hv0 (by omega) (by simp; omega), hsn2, l1_leave 2 (by omega) hv0 (by omega), e2]
/-- What the letters of some bytes are. -/
structure Arms (b L : List Int) (pad : Nat) : Prop where
  code : ∀ x ∈ L, 0 ≤ x ∧ x < 32
  small : pad < 5
  len : 5 * L.length = 8 * b.length + pad
  num : numOf 32 L = numOf 256 b * 2 ^ pad
theorem arm_last {h : Int} (j : Nat) (hj : j < 5) (h0 : 0 ≤ h) (h1 : h * 2 ^ j < 32) : Go.bits .and .u64 (shl .u64 h (j : Int)) 31 = h * 2 ^ j := by
  have hp0 : (0 : Int) < 2 ^ j := by exact_mod_cast Nat.two_pow_pos j
  have hh : 0 ≤ h * 2 ^ j := Int.mul_nonneg h0 (by omega)
  have h2 : shl .u64 h (j : Int) = h * 2 ^ j := by
    unfold shl
    have hm : min ((j : Int)).toNat IntKind.u64.bits = j := by
      show min ((j : Int)).toNat 64 = j
      omega
    rw [hm, u64_wrap]
    omega
  rw [h2, and31 _ hh (by omega)]
  omega
theorem arm_end {b L : List Int} {h : Int} {n : Nat} (st : ArmSt b b.length L h n) (hlen : b.length ≤ 140737488351232) (k : Nat) (hk : 0 < k) :
    ∃ L' pad, Arms b L' pad ∧ Go.Proofs.Ytkjkmaopifmghaa.OctArmor.octets_Armor.l0 k (L.map lt) h n b (b.length : Int) (b.length : Int) = some (strOfNums (L'.map lt)) := by
  obtain ⟨k, rfl⟩ : ∃ j, k = j + 1 := ⟨k - 1, by omega⟩
  obtain ⟨hn, h0, h1, code, num, len⟩ := st
  rw [List.take_length] at num
  have hL : (L.map lt).length = L.length := by simp
  have hlL : 5 * L.length ≤ 8 * 140737488351232 := by omega
  by_cases hz : n = 0
  · subst hz
    refine ⟨L, 0, ⟨code, by omega, by omega, ?_⟩, ?_⟩
    · rw [← num]; simp only [Int.pow_zero] at *; omega
    · simp only [Go.Proofs.Ytkjkmaopifmghaa.OctArmor.octets_Armor.l0]
      rw [if_neg (by omega), if_neg (by omega)]
  · have key : ∀ j : Nat, n + j = 5 → h * 2 ^ j < 32 → 0 ≤ h * 2 ^ j → numOf 32 L * 32 + h * 2 ^ j = (numOf 32 L * 2 ^ n + h) * 2 ^ j → ∃ L' pad, Arms b L' pad ∧ Go.Proofs.Ytkjkmaopifmghaa.OctArmor.octets_Armor.l0 (k + 1) (L.map lt) h n b (b.length : Int) (b.length : Int) = some (strOfNums (L'.map lt)) := by
      intro j hj hb hb0 hnum
      refine ⟨L ++ [h * 2 ^ j], j, ⟨?_, by omega, by simp; omega, by rw [numOf_snoc, hnum, num]⟩, ?_⟩
      · intro y hy
        rcases List.mem_append.1 hy with hy | hy
        · exact code y hy
        · rw [List.mem_singleton.1 hy]; exact ⟨hb0, hb⟩
      · simp only [Go.Proofs.Ytkjkmaopifmghaa.OctArmor.octets_Armor.l0]
        have ej : wrap64 (5 - (n : Int)) = (j : Int) := by rw [wrap64_small (by omega) (by omega)]; omega
        rw [if_neg (by omega), if_pos (by omega), ej, if_pos (by omega), arm_last j (by omega) h0 hb, if_pos hb0, if_pos hb, if_pos (by omega)]
        simp
    clear num
    rcases five hn with rfl | rfl | rfl | rfl | rfl
    · exact absurd rfl hz
    · exact key 4 (by omega) (by omega) (by omega) (by omega)
    · exact key 3 (by omega) (by omega) (by omega) (by omega)
    · exact key 2 (by omega) (by omega) (by omega) (by omega)
    · exact key 1 (by omega) (by omega) (by omega) (by omega)
theorem arm_all {b : List Int} (hb : ∀ x ∈ b, 0 ≤ x ∧ x < 256) (hlen : b.length ≤ 140737488351232) : ∀ (d i : Nat) (L : List Int) (h : Int) (n : Nat) (k : Nat), ArmSt b i L h n → i + d = b.length → 4 * d < k →
    ∃ L' pad, Arms b L' pad ∧ Go.Proofs.Ytkjkmaopifmghaa.OctArmor.octets_Armor.l0 k (L.map lt) h n b (b.length : Int) (i : Int) = some (strOfNums (L'.map lt)) := by
  intro d
  induction d with
  | zero =>
    intro i L h n k st hi hk
    obtain rfl : i = b.length := by omega
    exact arm_end st hlen k (by omega)
  | succ d ih =>
    intro i L h n k st hi hk
    obtain ⟨k', L', h', n', hk', st', he⟩ := arm_one st (by omega) hb hlen k (by omega)
    rw [he]
    exact ih (i + 1) L' h' n' k' st' (by omega) (by omega)
theorem armor_f {b : List Int} (hb : ∀ x ∈ b, 0 ≤ x ∧ x < 256) (hlen : b.length ≤ 140737488351232) {k : Nat} (hk : 4 * b.length < k) :
    ∃ L pad, Arms b L pad ∧ Go.Proofs.Ytkjkmaopifmghaa.OctArmor.octets_Armor.f k b = some (strOfNums (L.map lt)) := by
  have := arm_all hb hlen b.length 0 [] 0 0 k ⟨by omega, by omega, by simp, by simp, by simp [numOf], by simp⟩ (by omega) hk
  unfold Go.Proofs.Ytkjkmaopifmghaa.OctArmor.octets_Armor.f
  rw [if_pos (by decide)]
  exact this
theorem lt_abc : ∀ n : Nat, n < 26 → lt ((n : Nat) : Int) = (n : Int) + 97 := by decide
theorem lt_num : ∀ n : Nat, n < 6 → lt ((n : Nat) + 26 : Int) = (n : Int) + 50 := by decide
theorem lt_cases {x : Int} (h0 : 0 ≤ x) (h1 : x < 32) : (x < 26 ∧ lt x = x + 97) ∨ (26 ≤ x ∧ lt x = x + 24) := by
  obtain ⟨n, rfl⟩ := Int.eq_ofNat_of_zero_le h0
  by_cases h : n < 26
  · exact .inl ⟨by omega, lt_abc n h⟩
  · obtain ⟨m, rfl⟩ : ∃ m, n = m + 26 := ⟨n - 26, by omega⟩
    have := lt_num m (by omega)
    refine .inr ⟨by omega, ?_⟩
    have e : (((m + 26 : Nat)) : Int) = (m : Int) + 26 := by omega
    rw [e, this]
    omega
theorem lt_inj {x y : Int} (hx : 0 ≤ x ∧ x < 32) (hy : 0 ≤ y ∧ y < 32) (h : lt x = lt y) : x = y := by
  have a := lt_cases hx.1 hx.2
  have b := lt_cases hy.1 hy.2
  omega
theorem lt_map_inj : ∀ {l m : List Int}, (∀ x ∈ l, 0 ≤ x ∧ x < 32) → (∀ x ∈ m, 0 ≤ x ∧ x < 32) → l.map lt = m.map lt → l = m := by
  intro l
  induction l with
  | nil => intro m _ _ h; cases m <;> simp_all
  | cons x l ih =>
    intro m hl hm h
    cases m with
    | nil => simp at h
    | cons y m =>
      simp only [List.map_cons, List.cons.injEq] at h
      rw [lt_inj (hl x (by simp)) (hm y (by simp)) h.1, ih (fun z hz => hl z (by simp [hz])) (fun z hz => hm z (by simp [hz])) h.2]
/-- A state of Unarmor. -/
structure UnaSt (t : List Int) (i : Nat) (L B : List Int) (h : Int) (n : Nat) : Prop where
  hn : n < 8
  h0 : 0 ≤ h
  h1 : h < 2 ^ n
  code : ∀ x ∈ L, 0 ≤ x ∧ x < 32
  byte : ∀ x ∈ B, 0 ≤ x ∧ x < 256
  say : t.take i = L.map lt
  num : numOf 256 B * 2 ^ n + h = numOf 32 L
  len : 8 * B.length + n = 5 * i
theorem eight {n : Nat} (h : n < 8) : n = 0 ∨ n = 1 ∨ n = 2 ∨ n = 3 ∨ n = 4 ∨ n = 5 ∨ n = 6 ∨ n = 7 := by omega
/-- One letter more, of the code x. -/
theorem una_next {t : List Int} {i : Nat} {L B : List Int} {h : Int} {n : Nat} (st : UnaSt t i L B h n) (hi : i < t.length) {x : Int} (hx0 : 0 ≤ x) (hx1 : x < 32) (hc : t[i] = lt x) :
    (n < 3 → UnaSt t (i + 1) (L ++ [x]) B (h * 32 + x) (n + 5)) ∧ (3 ≤ n → 0 ≤ (h * 32 + x) / 2 ^ (n - 3) ∧ (h * 32 + x) / 2 ^ (n - 3) < 256 ∧ UnaSt t (i + 1) (L ++ [x]) (B ++ [(h * 32 + x) / 2 ^ (n - 3)]) ((h * 32 + x) % 2 ^ (n - 3)) (n - 3)) := by
  obtain ⟨hn, h0, h1, code, byte, say, num, len⟩ := st
  have say' : t.take (i + 1) = (L ++ [x]).map lt := by rw [List.take_succ_eq_append_getElem hi, say, hc]; simp
  have code' : ∀ y ∈ L ++ [x], 0 ≤ y ∧ y < 32 := by
    intro y hy
    rcases List.mem_append.1 hy with hy | hy
    · exact code y hy
    · rw [List.mem_singleton.1 hy]; exact ⟨hx0, hx1⟩
  have byte' : ∀ z, 0 ≤ z → z < 256 → ∀ y ∈ B ++ [z], 0 ≤ y ∧ y < 256 := by
    intro z hz0 hz1 y hy
    rcases List.mem_append.1 hy with hy | hy
    · exact byte y hy
    · rw [List.mem_singleton.1 hy]; exact ⟨hz0, hz1⟩
  have e : numOf 32 (L ++ [x]) = numOf 32 L * 32 + x := numOf_snoc _ _ _
  clear hc say code byte
  generalize numOf 32 L = N at *
  rcases eight hn with rfl | rfl | rfl | rfl | rfl | rfl | rfl | rfl
  · exact ⟨fun _ => ⟨by omega, by omega, by omega, code', by intro y hy; have := byte' 0 (by omega) (by omega) y (by simp [hy]); exact this, say', by rw [e]; omega, by omega⟩, fun h => absurd h (by omega)⟩
  · exact ⟨fun _ => ⟨by omega, by omega, by omega, code', by intro y hy; have := byte' 0 (by omega) (by omega) y (by simp [hy]); exact this, say', by rw [e]; omega, by omega⟩, fun h => absurd h (by omega)⟩
  · exact ⟨fun _ => ⟨by omega, by omega, by omega, code', by intro y hy; have := byte' 0 (by omega) (by omega) y (by simp [hy]); exact this, say', by rw [e]; omega, by omega⟩, fun h => absurd h (by omega)⟩
  all_goals refine ⟨fun h => absurd h (by omega), fun _ => ?_⟩
  all_goals simp only [Nat.reduceSub]
  all_goals refine ⟨by omega, by omega, by omega, by omega, by omega, code', byte' _ (by omega) (by omega), say', ?_, by simp; omega⟩
  all_goals rw [e, numOf_snoc]
  all_goals omega
end Go.Proofs.Ytkjkmaopifmghaa.PureArmor
