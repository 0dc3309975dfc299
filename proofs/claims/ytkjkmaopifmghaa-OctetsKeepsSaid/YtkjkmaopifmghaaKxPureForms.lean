/- The plain law of OctetsForms, joined with its walks. -/
import Derived.Test.YtkjkmaopifmghaaKxPureShort
import Derived.Test.YtkjkmaopifmghaaKxOctForms
namespace Go.Proofs.Ytkjkmaopifmghaa.PureForms
open Go.RowKit Go.Proofs.YtkjkmaopifmghaaW.PrintWords Go.Proofs.YtkjkmaopifmghaaW.PrintLast Go.Proofs.YtkjkmaopifmghaaW.PrintMore Go.Proofs.Ytkjkmaopifmghaa.PureArmor Go.Proofs.Ytkjkmaopifmghaa.PureShort Go.Proofs.Ytkjkmaopifmghaa.OctShort Go.Proofs.Ytkjkmaopifmghaa.OctCopy Go.Proofs.Ytkjkmaopifmghaa.Oct
set_option linter.unusedVariables false
set_option linter.unusedSimpArgs false
theorem pick3 (a : Int) : ∃ j : Nat, j < 3 ∧ latchkeykit_Pick.f a 3 = some (j : Int) := by
  unfold latchkeykit_Pick.f
  rw [if_neg (by omega), if_neg (by omega)]
  have h1 : Int.tmod a 3 < 3 := Int.tmod_lt_of_pos a (by omega)
  have h2 : -3 < Int.tmod a 3 := Int.lt_tmod_of_pos a (by omega)
  by_cases h : Int.tmod a 3 < 0
  · rw [if_pos h, wrap64_small (by omega) (by omega)]
    exact ⟨(Int.tmod a 3 + 3).toNat, by omega, by congr 1; omega⟩
  · rw [if_neg h]
    exact ⟨(Int.tmod a 3).toNat, by omega, by congr 1; omega⟩
theorem copy_from (l : List Int) (hl : l.length ≤ 140737488351232) : ∀ (d i k : Nat), i + d = l.length → d < k → latchkeyref00_CopyBytes.l0 k l (l.take i) (i : Int) = some l := by
  intro d
  induction d with
  | zero =>
    intro i k hi hk
    obtain ⟨k, rfl⟩ : ∃ j, k = j + 1 := ⟨k - 1, by omega⟩
    simp only [latchkeyref00_CopyBytes.l0]
    rw [if_neg (by omega), List.take_of_length_le (by omega)]
  | succ d ih =>
    intro i k hi hk
    obtain ⟨k, rfl⟩ : ∃ j, k = j + 1 := ⟨k - 1, by omega⟩
    have hin : i < l.length := by omega
    have E1 : Aside0 (wrap64 ((i : Int) + 1) = ((i + 1 : Nat) : Int)) := ⟨by rw [wrap64_small (by omega) (by omega)]; rfl⟩
    simp only [latchkeyref00_CopyBytes.l0]
    rw [if_pos (by omega), if_pos (by omega), if_pos (by rw [List.length_take]; omega), rd_nat hin, ← List.take_succ_eq_append_getElem hin, E1.out]
    exact ih (i + 1) k (by omega) (by omega)
theorem copy_f (l : List Int) (hl : l.length ≤ 140737488351232) {k : Nat} (hk : l.length < k) : latchkeyref00_CopyBytes.f k l = some l := copy_from l hl l.length 0 k (by omega) hk
theorem same_from (l : List Int) (hb : l.length ≤ 140737488351232) : ∀ (d i k : Nat), i + d = l.length → d < k → latchkeyref00_SameBytes.l0 k l l (i : Int) = some true := by
  intro d
  induction d with
  | zero =>
    intro i k hi hk
    obtain ⟨k, rfl⟩ : ∃ j, k = j + 1 := ⟨k - 1, by omega⟩
    simp only [latchkeyref00_SameBytes.l0]
    rw [if_neg (by omega)]
  | succ d ih =>
    intro i k hi hk
    obtain ⟨k, rfl⟩ : ∃ j, k = j + 1 := ⟨k - 1, by omega⟩
    have E1 : Aside0 (wrap64 ((i : Int) + 1) = ((i + 1 : Nat) : Int)) := ⟨by rw [wrap64_small (by omega) (by omega)]; rfl⟩
    simp only [latchkeyref00_SameBytes.l0]
    rw [if_pos (by omega), if_pos (by omega), if_pos (by omega), if_pos trivial, E1.out]
    exact ih (i + 1) k (by omega) (by omega)
theorem same_self (l : List Int) (hb : l.length ≤ 140737488351232) {k : Nat} (hk : l.length < k) : latchkeyref00_SameBytes.f k l l = some true := by
  unfold latchkeyref00_SameBytes.f
  rw [if_pos rfl]
  exact same_from l hb l.length 0 k (by omega) hk
theorem xor0_i64 (a : Int) (h0 : -9223372036854775808 ≤ a) (h1 : a < 9223372036854775808) : Go.bits .xor .i64 a 0 = a := by
  unfold Go.bits
  have e : (BitVec.ofInt IntKind.i64.bits a ^^^ BitVec.ofInt IntKind.i64.bits 0).toNat = (a % 18446744073709551616).toNat := by
    show (BitVec.ofInt 64 a ^^^ BitVec.ofInt 64 0).toNat = _
    have : BitVec.ofInt 64 0 = 0#64 := by decide
    rw [this, BitVec.xor_zero, BitVec.toNat_ofInt]
    rfl
  show IntKind.i64.wrap (((BitVec.ofInt IntKind.i64.bits a ^^^ BitVec.ofInt IntKind.i64.bits 0).toNat : Nat) : Int) = a
  rw [e, IntKind.wrap_i64]
  omega
theorem xorm_i64 (a : Int) (h0 : -9223372036854775808 ≤ a) (h1 : a < 9223372036854775808) : Go.bits .xor .i64 a (-1) = -a - 1 := by
  unfold Go.bits
  have e : (BitVec.ofInt IntKind.i64.bits a ^^^ BitVec.ofInt IntKind.i64.bits (-1)).toNat = 18446744073709551615 - (a % 18446744073709551616).toNat := by
    show (BitVec.ofInt 64 a ^^^ BitVec.ofInt 64 (-1)).toNat = _
    have : BitVec.ofInt 64 (-1) = BitVec.allOnes 64 := by decide
    rw [this, BitVec.xor_allOnes, BitVec.toNat_not, BitVec.toNat_ofInt]
    rfl
  show IntKind.i64.wrap (((BitVec.ofInt IntKind.i64.bits a ^^^ BitVec.ofInt IntKind.i64.bits (-1)).toNat : Nat) : Int) = -a - 1
  rw [e, IntKind.wrap_i64]
  omega
theorem xor0_u64 (a : Int) (h0 : 0 ≤ a) (h1 : a < 18446744073709551616) : Go.bits .xor .u64 a 0 = a := by
  rw [u64_xor a 0 h0 h1 (by decide) (by decide)]
  simp
  omega
theorem xorm_u64 (a : Int) (h0 : 0 ≤ a) (h1 : a < 18446744073709551616) : Go.bits .xor .u64 a 18446744073709551615 = 18446744073709551615 - a := by
  unfold Go.bits
  have e : (BitVec.ofInt IntKind.u64.bits a ^^^ BitVec.ofInt IntKind.u64.bits 18446744073709551615).toNat = 18446744073709551615 - (a % 18446744073709551616).toNat := by
    show (BitVec.ofInt 64 a ^^^ BitVec.ofInt 64 18446744073709551615).toNat = _
    have : BitVec.ofInt 64 18446744073709551615 = BitVec.allOnes 64 := by decide
    rw [this, BitVec.xor_allOnes, BitVec.toNat_not, BitVec.toNat_ofInt]
    rfl
  show IntKind.u64.wrap (((BitVec.ofInt IntKind.u64.bits a ^^^ BitVec.ofInt IntKind.u64.bits 18446744073709551615).toNat : Nat) : Int) = _
  rw [e, u64_wrap]
  omega
theorem turned_eq (x : Int) (h0 : -9223372036854775808 ≤ x) (h1 : x < 9223372036854775808) : turned x = if 0 ≤ x then 2 * x else -2 * x - 1 := by
  unfold turned
  simp only [u64_wrap]
  by_cases h : 0 ≤ x
  · have e1 : x % 18446744073709551616 * 2 % 18446744073709551616 = 2 * x := by omega
    have e2 : x / 9223372036854775808 % 18446744073709551616 = 0 := by omega
    rw [e1, e2, if_pos h, xor0_u64 _ (by omega) (by omega)]
  · have e1 : x % 18446744073709551616 * 2 % 18446744073709551616 = 2 * x + 18446744073709551616 := by omega
    have e2 : x / 9223372036854775808 % 18446744073709551616 = 18446744073709551615 := by omega
    rw [e1, e2, if_neg h, xorm_u64 _ (by omega) (by omega)]
    omega
theorem back_eq (x : Int) (h0 : 0 ≤ x) (h1 : x < 18446744073709551616) : back x = if x % 2 = 0 then x / 2 else -(x / 2) - 1 := by
  have hand : Go.bits .and .u64 x 1 = x % 2 := by
    have := bits_mask .u64 64 (by decide) wraps_u64 1 (by decide) x h0 h1
    simpa using this
  have w1 : wrap64 (x / 2) = x / 2 := by unfold wrap64; omega
  have w2 : wrap64 (x % 2) = x % 2 := by unfold wrap64; omega
  unfold back
  rw [hand, w1, w2]
  by_cases h : x % 2 = 0
  · rw [if_pos h, h]
    have : wrap64 (-0) = 0 := by unfold wrap64; omega
    rw [this, xor0_i64 _ (by omega) (by omega)]
  · have e : x % 2 = 1 := by omega
    rw [if_neg h, e]
    have : wrap64 (-1) = -1 := by unfold wrap64; omega
    rw [this, xorm_i64 _ (by omega) (by omega)]
/-- The turned form's back and forth. -/
theorem turned_back (x : Int) (h0 : 0 ≤ x) (h1 : x < 18446744073709551616) : turned (back x) = x := by
  rw [back_eq x h0 h1]
  by_cases h : x % 2 = 0
  · rw [if_pos h, turned_eq _ (by omega) (by omega), if_pos (by omega)]
    omega
  · rw [if_neg h, turned_eq _ (by omega) (by omega), if_neg (by omega)]
    omega
theorem back_turned (x : Int) (h0 : -9223372036854775808 ≤ x) (h1 : x < 9223372036854775808) : back (turned x) = x ∧ 0 ≤ turned x ∧ turned x < 18446744073709551616 := by
  rw [turned_eq x h0 h1]
  by_cases h : 0 ≤ x
  · rw [if_pos h, back_eq _ (by omega) (by omega), if_pos (by omega)]
    omega
  · rw [if_neg h, back_eq _ (by omega) (by omega), if_neg (by omega)]
    omega
theorem quad_four (a b c d : Int) (ha : 0 ≤ a ∧ a < 256) (hb : 0 ≤ b ∧ b < 256) (hc : 0 ≤ c ∧ c < 256) (hd : 0 ≤ d ∧ d < 256) : quad (four a b c d) = [a, b, c, d] := by
  unfold quad four
  simp only [List.cons.injEq, and_true]
  refine ⟨by omega, by omega, by omega, by omega⟩
theorem forms_all (A : Option Addr) (c : Nat) (l : List Int) (kd : Int) (w : World) (hr : U8.C w A l.length l) (hc : l.length ≤ c) (hl : l.length ≤ 140737488351232) (hb : ∀ x ∈ l, 0 ≤ x ∧ x < 256) :
    Calls Try.prog 7 #[.slice A l.length c, .int .i64 kd] w fun e w' => e = .returned (.bool true) ∧ Below w.heap.size w w' := by
  obtain ⟨j, hj, hp⟩ := pick3 kd
  have hcp := copy_f l hl (k := l.length + 31) (by omega)
  have hsm : ∀ N, latchkeyref00_SameBytes.f (l.length + 31) (l.take N) (l.take N) = some true := fun N => same_self _ (by rw [List.length_take]; omega) (by rw [List.length_take]; omega)
  have hsf := short_f l hb (by omega) (k := 31) (by omega)
  have herr := sh_err l 0 (by omega) hb
  have hback := sh_back 10 l 0 (by omega) (by omega) hb
  have key : (∃ x n : Int, octets_short.f 31 l = some (x, n, 0) ∧ 0 ≤ x ∧ x < 18446744073709551616 ∧ 0 < n ∧ n ≤ l.length ∧ uintL 10 [] x = some (l.take n.toNat)) ∨ (∃ e : Int, octets_short.f 31 l = some (0, 0, e) ∧ (e = 20 ∧ l.length < 10 ∨ e = 21)) := by
    generalize sh 0 l = q at *
    obtain ⟨x, n, s⟩ := q
    by_cases hs : s = 0
    · subst hs
      obtain ⟨a1, a2, a3, _, a5, a6, a7⟩ := hback rfl
      simp only [] at a1 a2 a3 a5 a6 a7
      have hpos : 1 ≤ (dg 10 x).length := dg_pos 9 x
      have hu := uint_dg 10 x [] a1 a2 (by omega) (by simp)
      refine .inl ⟨x, n, hsf, a1, by simpa using a3, by omega, by omega, ?_⟩
      rw [hu, List.nil_append, ← a6]
      congr 2
      omega
    · obtain ⟨b1, b2, b3, b4⟩ := herr hs
      simp only [] at b1 b2 b3 b4
      subst b1 b2
      refine .inr ⟨s, hsf, ?_⟩
      rcases b3 with b3 | b3
      · exact .inl ⟨b3, by have := b4 b3; omega⟩
      · exact .inr b3
  clear hsf herr hback
  have hu0 : uintL 10 [] 0 = some [0] := by decide
  rcases (by omega : j = 0 ∨ j = 1 ∨ j = 2) with rfl | rfl | rfl
  · rcases key with ⟨x, n, hq, h0, h1, hn0, hn, hw⟩ | ⟨e, hq, he⟩
    · exact forms_ok0 (l.length + 31) A c l (l.take n.toNat) (l.drop n.toNat) kd 0 w hr hc hl hb hp hcp x n hq ⟨by omega, hn⟩ rfl hw rfl n.toNat (by omega) (by omega) (by rw [List.length_drop]) rfl (hsm _)
    · exact forms_no0 (l.length + 31) A c l [0] l kd e w hr hc hl hb hp hcp 0 0 hq ⟨by omega, by omega⟩ rfl hu0 he rfl
  · rcases key with ⟨x, n, hq, h0, h1, hn0, hn, hw⟩ | ⟨e, hq, he⟩
    · exact forms_ok1 (l.length + 31) A c l (l.take n.toNat) (l.drop n.toNat) kd 0 w hr hc hl hb hp hcp x n hq ⟨by omega, hn⟩ rfl (by rw [turned_back x h0 h1]; exact hw) rfl n.toNat (by omega) (by omega) (by rw [List.length_drop]) rfl (hsm _)
    · exact forms_no1 (l.length + 31) A c l [0] l kd e w hr hc hl hb hp hcp 0 0 hq ⟨by omega, by omega⟩ rfl (by rw [turned_back 0 (by omega) (by omega)]; exact hu0) he rfl
  · clear key
    by_cases h4 : l.length < 4
    · have hm : mReal l 0 = (0, l, 20) := by
        unfold mReal
        rw [if_neg (by simp)]
        rcases l with _ | ⟨a, _ | ⟨b, _ | ⟨c, _ | ⟨d, t⟩⟩⟩⟩ <;> first | rfl | (simp at h4; omega)
      exact forms_no2 (l.length + 31) A c l (quad (keyB 0)) l kd 20 w hr hc hl hb hp hcp 0 (by decide) hm rfl (.inl ⟨rfl, by omega⟩) rfl
    · obtain ⟨x0, x1, x2, x3, t, rfl⟩ : ∃ a b c d t, l = a :: b :: c :: d :: t := by
        rcases l with _ | ⟨a, _ | ⟨b, _ | ⟨c, _ | ⟨d, t⟩⟩⟩⟩ <;> first | exact ⟨_, _, _, _, _, rfl⟩ | (simp at h4)
      have b0 := hb x0 (by simp)
      have b1 := hb x1 (by simp)
      have b2 := hb x2 (by simp)
      have b3 := hb x3 (by simp)
      have K0 : 0 ≤ four x0 x1 x2 x3 ∧ four x0 x1 x2 x3 < 4294967296 := by unfold four; omega
      by_cases hk : keyB (realB (four x0 x1 x2 x3)) = four x0 x1 x2 x3
      · have hm : mReal (x0 :: x1 :: x2 :: x3 :: t) 0 = (realB (four x0 x1 x2 x3), t, 0) := by unfold mReal; rw [if_neg (by simp)]; simp only []; rw [if_pos hk]
        exact forms_ok2 _ A c (x0 :: x1 :: x2 :: x3 :: t) [x0, x1, x2, x3] t kd 0 w hr hc hl hb hp hcp (realB (four x0 x1 x2 x3)) (realB_lt _ K0.1 K0.2) hm (by rw [hk]; exact quad_four _ _ _ _ b0 b1 b2 b3) rfl 4 (by omega) (by simp) (by simp) rfl (hsm 4)
      · have hm : mReal (x0 :: x1 :: x2 :: x3 :: t) 0 = (0, x0 :: x1 :: x2 :: x3 :: t, 21) := by unfold mReal; rw [if_neg (by simp)]; simp only []; rw [if_neg hk]
        exact forms_no2 _ A c (x0 :: x1 :: x2 :: x3 :: t) (quad (keyB 0)) (x0 :: x1 :: x2 :: x3 :: t) kd 21 w hr hc hl hb hp hcp 0 (by decide) hm rfl (.inr rfl) rfl
end Go.Proofs.Ytkjkmaopifmghaa.PureForms
