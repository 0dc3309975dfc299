/- reals.Key, reals.Same; equal lists of texts (plain walks). -/
import Derived.Test.YtgkocbbpkiechaaValBase
import Derived.Laws.BitsAll
import Derived.BigQuiet
namespace Go.Proofs.Ytgkocbbpkiechaa.Val
open Go.RowKit Go.Proofs.YtgkocbbpkiechaaW.PrintWords Go.Proofs.YtgkocbbpkiechaaW.PrintLast Go.Proofs.YtgkocbbpkiechaaW.PrintMore Go.Proofs.Ytgkocbbpkiechaa.Flt
set_option linter.unusedVariables false
set_option linter.unusedSimpArgs false
set_option maxRecDepth 100000
theorem dnb (w : World) (m : Nat) : Below w.heap.size w (w.drewN m) := ⟨rfl, rfl, rfl, Nat.le_refl _, fun _ _ => rfl⟩
def keyB (b : Nat) : Int := if nanB b then 4290772992 else if b < 2147483648 then (b : Int) + 2147483648 else 4294967295 - (b : Int)
theorem bits_call (b : Nat) (w : World) : (callFunc 73 #[.float .f32 b]).run Try.prog w = .ok (.value (.int .u32 b)) w :=
  (run_callFunc_extern (e := Extern.MathFloatBits.float32bits) Try.func73 (by kernel_rfl) (by kernel_rfl) (by kernel_rfl) (by kernel_rfl) _ _).trans rfl
theorem not32 (b : Nat) (hs : b < 4294967296) : Go.bits .xor .u32 IntKind.u32.max (b : Int) = 4294967295 - (b : Int) := by
  have h1 := u32_xor_nat 4294967295 b (by omega) hs
  have h2 : 4294967295 ^^^ b = 4294967295 - b := by
    apply Nat.eq_of_testBit_eq
    intro i
    have h3 := Nat.testBit_two_pow_sub_succ (n := 32) (x := b) hs i
    rw [show 4294967295 - b = 2 ^ 32 - (b + 1) by omega, h3, Nat.testBit_xor, show (4294967295 : Nat) = 2 ^ 32 - 1 from rfl, Nat.testBit_two_pow_sub_one]
    by_cases hi : i < 32
    · simp [hi]
    · rw [Nat.testBit_lt_two_pow (Nat.lt_of_lt_of_le hs (Nat.pow_le_pow_right (by decide : 2 > 0) (by omega : 32 ≤ i)))]
      simp [hi]
  have h3 : IntKind.u32.max = ((4294967295 : Nat) : Int) := by decide
  rw [h3, h1, h2]
  omega
theorem or_hi (b : Nat) (hs : b < 2147483648) : Go.bits .or .u32 (b : Int) 2147483648 = (b : Int) + 2147483648 := by
  have h1 := u32_or_nat b 2147483648 (by omega) (by decide)
  have h2 : b ||| 2147483648 = b + 2147483648 := by
    have h3 := nat_join 31 2147483648 b (by decide) hs
    rw [Nat.or_comm, h3]
    omega
  rw [h2] at h1
  exact h1
theorem key_calls (b : Nat) (w : World) (hb : b < 4294967296) : Calls Try.prog 61 #[.float .f32 b] w fun e w' => e = .returned (.int .u32 (keyB b)) ∧ w' = w := by
  have hc := bits_call b
  have ho := f_self b
  by_cases hn : nanB b = true
  · have E : keyB b = 4290772992 := by unfold keyB; rw [if_pos hn]
    rw [E]
    rw [hn] at ho
    clear E hn
    go_enter Try.func61, Try.ntmps61
    go_wp2
    go_ret
    exact ⟨by first | rfl | (simp; done), rfl⟩
  · have hn' : nanB b = false := by simpa using hn
    rw [hn'] at ho
    by_cases hs : b < 2147483648
    · have E : keyB b = (b : Int) + 2147483648 := by unfold keyB; rw [if_neg hn, if_pos hs]
      rw [E]
      clear E hn hn'
      have HX := Aside0.mk (or_hi b hs)
      have hd : (b : Int) / 2147483648 = 0 := by omega
      go_enter Try.func61, Try.ntmps61
      go_wp2
      go_ret
      exact ⟨by first | (rw [← HX.out]; rfl) | (simp; done), rfl⟩
    · have E : keyB b = 4294967295 - (b : Int) := by unfold keyB; rw [if_neg hn, if_neg hs]
      rw [E]
      clear E hn hn'
      have hd : (b : Int) / 2147483648 = 1 := by omega
      have HN := Aside0.mk (not32 b hb)
      go_enter Try.func61, Try.ntmps61
      go_wp2
      go_ret
      exact ⟨by rw [← HN.out]; rfl, rfl⟩
theorem rsame_calls (a b : Nat) (w : World) (ha : a < 4294967296) (hb : b < 4294967296) : Calls Try.prog 31 #[.float .f32 a, .float .f32 b] w fun e w' => e = .returned (.bool (keyB a == keyB b)) ∧ w' = w := by
  go_enter Try.func31, Try.ntmps31
  go_wp2_with (first
    | (go_at_call 61; ((with_reducible refine (key_calls a _ ha).mono ?_); rintro e1 w1 ⟨rfl, hw⟩; subst hw))
    | (go_at_call 61; ((with_reducible refine (key_calls b _ hb).mono ?_); rintro e1 w1 ⟨rfl, hw⟩; subst hw)))
  go_ret
  exact ⟨by first | rfl | (simp; done), rfl⟩
/-- The same texts? -/
def eqL (n1 : Nat) (G1 : Nat → ByteArray) (n2 : Nat) (G2 : Nat → ByteArray) : Bool := decide (n1 = n2 ∧ ∀ j, j < n1 → G1 j = G2 j)
theorem slEqual_calls (w : World) (A1 A2 : Option Addr) (n1 n2 c1 c2 : Nat) (G1 G2 : Nat → ByteArray) (h1 : TxAt w A1 n1 G1) (h2 : TxAt w A2 n2 G2) (hn : n1 ≤ 9223372036854775807) :
    Calls Try.prog 32 #[.slice A1 n1 c1, .slice A2 n2 c2] w fun e w' => e = .returned (.bool (eqL n1 G1 n2 G2)) ∧ Below w.heap.size w w' := by
  have H1 := Aside0.mk h1
  have H2 := Aside0.mk h2
  have HN := Aside0.mk hn
  clear h1 h2 hn
  by_cases hne : n1 = n2
  · subst hne
    have hd0 : ((n1 : Int) != (n1 : Int)) = false := by simp
    go_enter Try.func32, Try.ntmps32
    go_wp2
    go_loopg [13] (n1 + 1) (fun kq v13 w' => ∃ i : Nat, v13 = .int .i64 (i : Int) ∧ Aside0 (kq + i = n1 + 1) ∧ Aside0 (i ≤ n1) ∧ Aside0 (∀ j, j < i → G1 j = G2 j) ∧ Aside0 (Below w.heap.size w w'))
    case atStart => exact ⟨0, rfl, ⟨rfl⟩, ⟨Nat.zero_le _⟩, ⟨fun j hj => absurd hj (by omega)⟩, ⟨Below.refl _ _⟩⟩
    case round =>
      obtain ⟨i, rfl, HQ, HI, HE, HB⟩ := hrel
      cases gk with
      | zero => exact absurd HQ.out (by have := HI.out; omega)
      | succ k1 =>
        have hi0 : (0 : Int) ≤ (i : Int) := by omega
        by_cases hlt : i < n1
        · have him : (i : Int) < (n1 : Int) := by omega
          obtain ⟨a1, hA1, hc1⟩ := (H1.out.below HB.out) i hlt
          obtain ⟨a2, hA2, hc2⟩ := (H2.out.below HB.out) i hlt
          subst hA1 hA2
          have HW3 : Aside0 (wrap64 ((i : Int) + 1) = ((i + 1 : Nat) : Int)) := ⟨wrap_up i n1 (by omega) HN.out⟩
          have hs := same_B (G1 i) (G2 i)
          by_cases he : G1 i = G2 i
          · rw [decide_eq_true he] at hs
            have HEE := Aside0.mk he
            clear he
            go_wp2
            go_quiet (fail)
            go_wp2
            go_roundg k1
            case measure => omega
            case rel => exact ⟨i + 1, by first | rfl | (rw [← HW3.out]), ⟨by have := HQ.out; omega⟩, ⟨by omega⟩, ⟨fun j hj => by
              by_cases e : j = i
              · rw [e]; exact HEE.out
              · exact HE.out j (by omega)⟩, ⟨below_step HB.out (dnb wr nq)⟩⟩
          · rw [decide_eq_false he] at hs
            have hr : Aside0 (eqL n1 G1 n1 G2 = false) := ⟨decide_eq_false (fun h => he (h.2 i hlt))⟩
            clear he
            go_wp2
            go_quiet (fail)
            go_wp2
            go_ret
            exact ⟨by rw [hr.out]; rfl, below_step HB.out (dnb wr nq)⟩
        · have hin : i = n1 := by have := HI.out; omega
          subst hin
          have hd : decide ((i : Int) < (i : Int)) = false := decide_eq_false (by omega)
          have hr : Aside0 (eqL i G1 i G2 = true) := ⟨decide_eq_true ⟨rfl, HE.out⟩⟩
          go_wp2
          go_ret
          exact ⟨by first | (rw [hr.out]; done) | (rw [hr.out]; rfl) , HB.out⟩
  · have hd0 : ((n1 : Int) != (n2 : Int)) = true := by simp; omega
    have hr : Aside0 (eqL n1 G1 n2 G2 = false) := ⟨decide_eq_false (fun h => hne h.1)⟩
    go_enter Try.func32, Try.ntmps32
    go_wp2
    go_ret
    exact ⟨by first | (rw [hr.out]; done) | (rw [hr.out]; rfl), Below.refl _ _⟩
end Go.Proofs.Ytgkocbbpkiechaa.Val
