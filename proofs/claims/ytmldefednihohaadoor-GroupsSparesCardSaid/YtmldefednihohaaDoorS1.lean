/- What the package variable bits.deBruijn64tab holds, as a fact on a world (GL), and that it lasts. -/
import Derived.Test.YtmldefednihohaaDoorWWords
import Derived.Test.YtmldefednihohaaDoorGrpRow
import Derived.Lib.TrailingZeros
namespace Go.Proofs.YtmldefednihohaaDoor
open Go.RowKit Go.Proofs.YtmldefednihohaaDoorW.PrintWords
def tabL : List Int := [0, 1, 56, 2, 57, 49, 28, 3, 61, 58, 42, 50, 38, 29, 17, 4, 62, 47, 59, 36, 45, 43, 51, 22, 53, 39, 33, 30, 24, 18, 12, 5, 63, 55, 48, 27, 60, 41, 37, 16, 46, 35, 44, 21, 52, 32, 23, 11, 54, 26, 40, 15, 34, 20, 31, 10, 25, 14, 19, 9, 13, 8, 7, 6]
structure GL (w : World) : Prop where mk :: (out : ∀ j, j < 64 → w.cell? ⟨0, j, none⟩ = some (.int .u8 (tabL.getD j 0)))
theorem GL.below {w W : World} (h : GL w) (hb : Below w.heap.size w W) : GL W := ⟨fun j hj => pw_cell_below hb (h.out j hj)⟩
theorem GL.drawn {w W : World} (h : GL w) (hd : Drawn0 w W) : GL W := h.below hd.below
end Go.Proofs.YtmldefednihohaaDoor

namespace Go.Proofs.YtmldefednihohaaDoor.Grp
open Go.RowKit Go.Proofs.YtmldefednihohaaDoorW.PrintWords Go.Proofs.YtmldefednihohaaDoorW.PrintLast Go.Proofs.YtmldefednihohaaDoorW.PrintMore
set_option linter.unusedVariables false
set_option linter.unusedSimpArgs false
set_option maxRecDepth 100000
theorem tabL_eq : ∀ j, j < 64 → tabL.getD j 0 = ((Lib.deBruijn64tab.getD j 0 : Nat) : Int) := by decide +kernel
theorem tz_key (x a : Nat) (hx : x < 18446744073709551616) (hx0 : x ≠ 0) (hlow : x &&& (18446744073709551616 - x) = a) :
    IntKind.u64.wrap (bits BinOp.and IntKind.u64 (x : Int) (IntKind.u64.wrap (-(x : Int))) * 285870213051353865) / 288230376151711744 = ((a * 285870213051353865 % 18446744073709551616 / 288230376151711744 : Nat) : Int) := by
  have e1 : IntKind.u64.wrap (-(x : Int)) = ((18446744073709551616 - x : Nat) : Int) := by rw [IntKind.wrap_u64]; omega
  rw [e1, u64_and_nat x _ hx (by omega), hlow, IntKind.wrap_u64]
  omega
theorem tz_pure (x : Nat) (hx0 : x ≠ 0) (hx : x < 18446744073709551616) : ∃ i k : Nat, i < 64 ∧ k < 64 ∧ Lib.ctz 64 x = k ∧ tabL.getD i 0 = (k : Int) ∧
    IntKind.u64.wrap (bits BinOp.and IntKind.u64 (x : Int) (IntKind.u64.wrap (-(x : Int))) * 285870213051353865) / 288230376151711744 = (i : Int) := by
  obtain ⟨hlow, hk⟩ := Lib.lowest_bit 64 x hx0 hx
  obtain ⟨hi, htab⟩ := Lib.deBruijn64_at _ hk
  exact ⟨_, _, hi, hk, rfl, by rw [tabL_eq _ hi, htab], tz_key x _ hx hx0 hlow⟩
set_option maxHeartbeats 2000000 in
theorem tz_calls (w : World) (x : Nat) (hx0 : x ≠ 0) (hx : x < 18446744073709551616) (hgl : GL w) :
    Calls Tryd.prog 48 #[.int .u64 (x : Int)] w fun e w' => e = .returned (.int .i64 ((Lib.ctz 64 x : Nat) : Int)) ∧ w' = w := by
  obtain ⟨i, k, hi, hk, hkk, htab, hkey⟩ := tz_pure x hx0 hx
  rw [hkk]
  have hcell := hgl.out _ hi
  rw [htab] at hcell
  have hxi : ¬ ((x : Int) = 0) := by omega
  have hk0 : (0 : Int) ≤ (k : Int) := by omega
  have hk6 : (k : Int) < 64 := by omega
  have hi0 : (0 : Int) ≤ (i : Int) := by omega
  have hi6 : (i : Int) < 64 := by omega
  have hw : IntKind.i64.wrap (k : Int) = (k : Int) := by rw [IntKind.wrap_i64]; omega
  clear htab hkk hgl hx
  go_enter Tryd.func48, Tryd.ntmps48
  go_wp2
  go_ret
  exact ⟨rfl, rfl⟩
end Go.Proofs.YtmldefednihohaaDoor.Grp

namespace Go.Proofs.YtmldefednihohaaDoor.Grp
open Go.RowKit Go.Proofs.YtmldefednihohaaDoorW.PrintWords Go.Proofs.YtmldefednihohaaDoorW.PrintLast Go.Proofs.YtmldefednihohaaDoorW.PrintMore
set_option linter.unusedVariables false
set_option linter.unusedSimpArgs false
set_option maxRecDepth 100000
abbrev I64 : Kd Int := Kd.int .i64
theorem infoI : (Tryd.prog.info? 3).map (fun i => (i.zero, i.size, i.bytes)) = some (some (.int .i64 0), 1, 8) := by kernel_rfl
/-- The numbers of a set below N, rising. -/
def elems (P : Nat → Bool) : Nat → List Int
  | 0 => []
  | N + 1 => if P N then elems P N ++ [(N : Int)] else elems P N
theorem elems_len (P : Nat → Bool) : ∀ N, (elems P N).length ≤ N := by
  intro N
  induction N with
  | zero => simp [elems]
  | succ N ih =>
    simp only [elems]
    split
    · simp only [List.length_append, List.length_singleton]; omega
    · omega
theorem elems_skip (P : Nat → Bool) (N : Nat) : ∀ d, (∀ b, N ≤ b → b < N + d → P b = false) → elems P (N + d) = elems P N := by
  intro d
  induction d with
  | zero => intro _; rfl
  | succ d ih =>
    intro h
    rw [show N + (d + 1) = (N + d) + 1 from rfl]
    simp only [elems]
    rw [if_neg (by rw [h (N + d) (by omega) (by omega)]; decide)]
    exact ih (fun b h1 h2 => h b h1 (by omega))
theorem elems_congr {P Q : Nat → Bool} : ∀ N, (∀ b, b < N → P b = Q b) → elems P N = elems Q N := by
  intro N
  induction N with
  | zero => intro _; rfl
  | succ N ih =>
    intro h
    simp only [elems]
    rw [h N (by omega), ih (fun b hb => h b (by omega))]
/-- The lowest bit, and what is left without it. -/
theorem low_bit (x : Nat) (hx0 : x ≠ 0) (hx : x < 18446744073709551616) : ∃ k, Lib.ctz 64 x = k ∧ k < 64 ∧ x.testBit k = true ∧ (∀ b, b < k → x.testBit b = false) ∧ ∀ b, (x &&& (x - 1)).testBit b = (x.testBit b && decide (b ≠ k)) := by
  obtain ⟨q, hq, hk⟩ := Lib.ctzFrom_spec 64 x (by omega) hx
  have hc : Lib.ctz 64 x = Lib.ctzFrom 64 x := by unfold Lib.ctz; rw [if_neg hx0]
  obtain ⟨k, hkk⟩ : ∃ k, k = Lib.ctzFrom 64 x := ⟨_, rfl⟩
  rw [← hkk] at hq hk hc
  have hp : 0 < 2 ^ k := Nat.two_pow_pos k
  have e1 : x = 2 ^ k * (2 * q + 1) + 0 := by omega
  have hx1 : ∀ b, x.testBit b = if b < k then false else (2 * q + 1).testBit (b - k) := fun b => by
    rw [e1, Nat.testBit_two_pow_mul_add _ hp]
    simp
  have e2 : x - 1 = 2 ^ k * (2 * q) + (2 ^ k - 1) := by
    rw [hq, Nat.mul_add, Nat.mul_one]
    omega
  have hx2 : ∀ b, (x - 1).testBit b = if b < k then (2 ^ k - 1).testBit b else (2 * q).testBit (b - k) := fun b => by
    rw [e2, Nat.testBit_two_pow_mul_add _ (by omega)]
  refine ⟨k, hc, hk, ?_, fun b hb => ?_, fun b => ?_⟩
  · rw [hx1, if_neg (by omega), Nat.sub_self, Nat.testBit_zero]
    simp
  · rw [hx1, if_pos hb]
  · rw [Nat.testBit_and, hx1, hx2]
    by_cases hb : b < k
    · simp [hb]
    · rw [if_neg hb, if_neg hb]
      by_cases e : b = k
      · subst e
        rw [Nat.sub_self, Nat.testBit_zero, Nat.testBit_zero]
        simp
      · obtain ⟨j, hj⟩ : ∃ j, b - k = j + 1 := ⟨b - k - 1, by omega⟩
        rw [hj, Nat.testBit_succ, Nat.testBit_succ]
        have e3 : (2 * q + 1) / 2 = q := by omega
        have e4 : 2 * q / 2 = q := by omega
        rw [e3, e4]
        simp [e]
/-- Word i of the numbers from 64 i + t on. -/
def above (P : Nat → Bool) (i t : Nat) : Nat → Bool := fun y => P y && decide (64 * i + t ≤ y)
theorem above_zero (P : Nat → Bool) (i : Nat) : wd (above P i 0) i = wd P i := by
  refine wd_eq (wd_lt _ _) (fun b hb => ?_)
  rw [wd_bit]
  simp [above, hb]
theorem list_done {P : Nat → Bool} {i t : Nat} (ht : t ≤ 64) (h : wd (above P i t) i = 0) : elems P (64 * (i + 1)) = elems P (64 * i + t) := by
  have : 64 * (i + 1) = 64 * i + t + (64 - t) := by omega
  rw [this]
  refine elems_skip P _ _ (fun b h1 h2 => ?_)
  have hb := wd_bit (above P i t) i (b - 64 * i)
  rw [h, Nat.zero_testBit, decide_eq_true (by omega : b - 64 * i < 64), Bool.true_and] at hb
  have e : 64 * i + (b - 64 * i) = b := by omega
  rw [e] at hb
  unfold above at hb
  rw [decide_eq_true h1, Bool.and_true] at hb
  exact hb.symm
theorem list_next {P : Nat → Bool} {i t x : Nat} (ht : t ≤ 64) (hx : x = wd (above P i t) i) (h0 : x ≠ 0) : ∃ k, Lib.ctz 64 x = k ∧ k < 64 ∧ t ≤ k ∧ x &&& (x - 1) = wd (above P i (k + 1)) i ∧ elems P (64 * i + (k + 1)) = elems P (64 * i + t) ++ [((64 * i + k : Nat) : Int)] := by
  have hlt : x < 18446744073709551616 := by rw [hx]; exact wd_lt _ _
  obtain ⟨k, h1, h2, h3, h4, h5⟩ := low_bit x h0 hlt
  have hbit : ∀ b, b < 64 → x.testBit b = (P (64 * i + b) && decide (t ≤ b)) := fun b hb => by
    rw [hx, wd_bit, decide_eq_true hb, Bool.true_and]
    unfold above
    congr 1
    have : (64 * i + t ≤ 64 * i + b) = (t ≤ b) := by apply propext; omega
    simp only [this]
  have h6 := hbit k h2
  rw [h3] at h6
  have h7 : P (64 * i + k) = true ∧ t ≤ k := by
    have := h6.symm
    rw [Bool.and_eq_true] at this
    exact ⟨this.1, of_decide_eq_true this.2⟩
  refine ⟨k, h1, h2, h7.2, ?_, ?_⟩
  · refine wd_eq (Nat.lt_of_le_of_lt Nat.and_le_left hlt) (fun b hb => ?_)
    rw [h5, hbit b hb]
    unfold above
    by_cases e : b = k
    · subst e
      have : ¬ (64 * i + (b + 1) ≤ 64 * i + b) := by omega
      simp [this]
    · by_cases hbk : b < k
      · have h8 := h4 b hbk
        rw [hbit b hb] at h8
        have : ¬ (64 * i + (k + 1) ≤ 64 * i + b) := by omega
        rw [h8]
        simp [this]
      · have a1 : t ≤ b := by omega
        have a2 : 64 * i + (k + 1) ≤ 64 * i + b := by omega
        simp [a1, a2, e]
  · rw [show 64 * i + (k + 1) = (64 * i + k) + 1 from rfl]
    simp only [elems]
    rw [if_pos h7.1]
    congr 1
    have : 64 * i + k = 64 * i + t + (k - t) := by omega
    rw [this]
    refine elems_skip P _ _ (fun b g1 g2 => ?_)
    have h8 := h4 (b - 64 * i) (by omega)
    rw [hbit _ (by omega), decide_eq_true (by omega : t ≤ b - 64 * i), Bool.and_true] at h8
    have e : 64 * i + (b - 64 * i) = b := by omega
    rw [e] at h8
    exact h8
theorem sum_at (i k : Nat) (hi : i ≤ 64) (hk : k < 64) : wrap64 (wrap64 ((i : Int) * 64) + (k : Int)) = ((64 * i + k : Nat) : Int) := by
  have e : wrap64 ((i : Int) * 64) = (i : Int) * 64 := by unfold wrap64; omega
  rw [e]
  unfold wrap64
  omega
theorem sub_one (x : Nat) (hx0 : x ≠ 0) (hx : x < 18446744073709551616) : IntKind.u64.wrap ((x : Int) - 1) = ((x - 1 : Nat) : Int) := by rw [IntKind.wrap_u64]; omega
set_option maxHeartbeats 4000000 in
theorem list_calls (w : World) (A : Option Addr) (c m : Nat) (P : Nat → Bool) (h : RowAt w (.slice A m c) m P) (hm : m ≤ 64) (hm1 : 1 ≤ m) (hgl : GL w) :
    Calls Tryd.prog 36 #[.slice A m c] w fun e w' => ∃ v, e = .returned v ∧ I64.R 3 w' w.heap.size (fun _ => True) v (elems P (64 * m)) ∧ Below w.heap.size w w' := by
  obtain ⟨g, cc, hA⟩ := h.form hm1
  obtain ⟨hA1, _, hA2⟩ := Value.slice.inj hA
  subst hA1
  subst hA2
  have H := Aside0.mk h
  have HM := Aside0.mk hm
  have HGL := Aside0.mk hgl
  clear h hm hm1 hgl hA
  go_enter Tryd.func36, Tryd.ntmps36
  go_wp2
  go_loopg [3, 8] (m + 1) (fun kq v3 v8 w' => ∃ i : Nat, v8 = .int .i64 (i : Int) ∧ Aside0 (kq + i = m + 1) ∧ Aside0 (i ≤ m) ∧ Aside0 (I64.R 3 w' w.heap.size (fun _ => True) v3 (elems P (64 * i))) ∧ Aside0 (Below w.heap.size w w'))
  case atStart => exact ⟨0, rfl, ⟨rfl⟩, ⟨Nat.zero_le _⟩, ⟨Kd.R_nil _ _ _ _ _⟩, ⟨Below.refl _ _⟩⟩
  case round =>
    obtain ⟨i, rfl, HK, HJ, HR, HB⟩ := hrel
    cases gk with
    | zero => exact absurd HK.out (by have := HJ.out; omega)
    | succ k1 =>
      by_cases hlt : i < m
      · have hi0 : (0 : Int) ≤ (i : Int) := by omega
        have him : (i : Int) < (m : Int) := by omega
        have HW3 : Aside0 (wrap64 ((i : Int) + 1) = ((i + 1 : Nat) : Int)) := ⟨wrap_up i m (by omega) (by have := HM.out; omega)⟩
        have hc := ((H.out.below HB.out).cell hlt).1
        obtain ⟨x, hx⟩ : ∃ x, x = wd P i := ⟨_, rfl⟩
        rw [← hx] at hc
        have HX0 : Aside0 (x = wd (above P i 0) i) := ⟨by rw [above_zero]; exact hx⟩
        clear hx
        go_wp2
        go_loopg [3, 5] 65 (fun kq v3 v5 w' => ∃ t x : Nat, v5 = .int .u64 (x : Int) ∧ Aside0 (65 ≤ kq + t) ∧ Aside0 (t ≤ 64) ∧ Aside0 (x = wd (above P i t) i) ∧ Aside0 (I64.R 3 w' w.heap.size (fun _ => True) v3 (elems P (64 * i + t))) ∧ Aside0 (Below w.heap.size w w'))
        case atStart => exact ⟨0, x, rfl, ⟨by omega⟩, ⟨by omega⟩, HX0, HR, HB⟩
        case round =>
          obtain ⟨t, x, rfl, HK2, HT, HX, HR2, HB2⟩ := hrel
          cases gk with
          | zero => exact absurd HK2.out (by have := HT.out; omega)
          | succ k2 =>
            by_cases hx0 : x = 0
            · subst hx0
              have HR3 : Aside0 (I64.R 3 wr w.heap.size (fun _ => True) u3 (elems P (64 * (i + 1)))) := ⟨by rw [list_done HT.out HX.out.symm]; exact HR2.out⟩
              go_wp2
              go_roundg k1
              case measure => omega
              case rel => exact ⟨i + 1, by first | rfl | (rw [← HW3.out]) | (congr 1; omega), ⟨by have := HK.out; omega⟩, ⟨by omega⟩, HR3, HB2⟩
            · obtain ⟨k, hk, hk6, htk, hand, hel⟩ := list_next HT.out HX.out hx0
              have hxi : ¬ ((x : Int) = 0) := by omega
              have hxlt : x < 18446744073709551616 := by rw [HX.out]; exact wd_lt _ _
              have hsub : IntKind.u64.wrap ((x : Int) - 1) = ((x - 1 : Nat) : Int) := sub_one x hx0 hxlt
              obtain ⟨x2, hx2⟩ : ∃ x2, x2 = x &&& (x - 1) := ⟨_, rfl⟩
              have hbits : Go.bits .and .u64 (x : Int) ((x - 1 : Nat) : Int) = (x2 : Int) := by rw [hx2]; exact u64_and_nat x (x - 1) hxlt (by omega)
              have HX2 : Aside0 (x2 = wd (above P i (k + 1)) i) := ⟨by rw [hx2]; exact hand⟩
              have HTZ := Aside0.mk (tz_calls wr x hx0 hxlt (HGL.out.below HB2.out))
              rw [hk] at HTZ
              have HEL := Aside0.mk hel
              have HTK := Aside0.mk htk
              have HY : Aside0 (wrap64 (wrap64 ((i : Int) * 64) + (k : Int)) = ((64 * i + k : Nat) : Int)) := ⟨sum_at i k (by have := HM.out; omega) hk6⟩
              have HK6 := Aside0.mk hk6
              clear hx2 hand hk hel htk hk6
              go_wp2_with (first | (go_at_call 48; ((with_reducible refine HTZ.out.mono ?_); rintro e1 w1 ⟨rfl, h1⟩; have HW1 := Aside0.mk h1; clear h1)) | ((with_reducible refine gate_builtin (b := .append) (xs := #[.tmp 19, .tmp 25]) rfl ?_); at_builtin; go_loud (refine Kd.R_append I64 (w0 := w) (W := w1) w.heap.size rfl (.tmp 19) (.tmp 25) 29 3 (.int .i64 0) 8 rfl Tryd.underlying29 infoI rfl (by decide) (by omega) u3 (elems P (64 * i + t)) (wrap64 (wrap64 ((i : Int) * 64) + (k : Int))) [.int .i64 (wrap64 (wrap64 ((i : Int) * 64) + (k : Int)))] (fun _ => True) (fun _ => False) rfl rfl ?aP (fun _ hk => hk.elim) ?aF ?aO ?aB ?aS ?aL ?_); (case aP => exact rfl); (case aB => rw [HW1.out]; exact HB2.out); (case aF => exact (fun _ _ => trivial)); (case aO => rw [HW1.out]; exact HR2.out); (case aS => rw [HW1.out]; exact HB2.out.size); (case aL => have h1 := elems_len P (64 * i + t); have h2 := HM.out; have h3 := HT.out; omega); intro v6 w6 ho hb hg hat; (rw [HY.out, ← HEL.out] at ho); have HO := Aside0.mk ho; have HB6 := Aside0.mk hb; clear ho hb hg hat))
              go_roundg k2
              case measure => omega
              case rel => exact ⟨k + 1, x2, rfl, ⟨by have h1 := HK2.out; have h2 := HTK.out; omega⟩, ⟨by have := HK6.out; omega⟩, HX2, HO, HB6⟩
      · have hjn : i = m := by have := HJ.out; omega
        subst hjn
        have hd : decide ((i : Int) < (i : Int)) = false := decide_eq_false (by omega)
        go_wp2
        go_ret
        exact ⟨_, rfl, HR.out, HB.out⟩
end Go.Proofs.YtmldefednihohaaDoor.Grp
