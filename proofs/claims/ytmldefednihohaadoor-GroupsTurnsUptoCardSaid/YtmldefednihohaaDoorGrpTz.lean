/- TrailingZeros64: the lowest bit of a word (plain walk). -/
import Derived.Test.YtmldefednihohaaDoorGrpRow
import Derived.Test.YtmldefednihohaaDoorGrpGL
import Derived.Lib.TrailingZeros
namespace Go.Proofs.YtmldefednihohaaDoor.Grp
open Go.RowKit Go.Proofs.YtmldefednihohaaDoorW.PrintWords Go.Proofs.YtmldefednihohaaDoorW.PrintLast Go.Proofs.YtmldefednihohaaDoorW.PrintMore
set_option linter.unusedVariables false
set_option linter.unusedSimpArgs false
set_option maxRecDepth 100000
theorem tabL_eq : ∀ j, j < 64 → tabL.getD j 0 = ((Lib.deBruijn64tab.getD j 0 : Nat) : Int) := by decide +kernel
theorem tz_key (x a : Nat) (hx : x < 18446744073709551616) (hx0 : x ≠ 0) (hlow : x &&& (18446744073709551616 - x) = a) :
    IntKind.u64.wrap (bits BinOp.and IntKind.u64 (x : Int) (IntKind.u64.wrap (-(x : Int))) * 285870213051353865) / 288230376151711744 = ((a * 285870213051353865 % 18446744073709551616 / 288230376151711744 : Nat) : Int) := by
  have e1 : IntKind.u64.wrap (-(x : Int)) = ((18446744073709551616 - x : Nat) : Int) := by rw [IntKind.wrap_u64]; omega
  rw [e1, u64_and_nat x _ hx (by omega), hlow, IntKind.wrap_u64]
  omega
theorem tz_pure (x : Nat) (hx0 : x ≠ 0) (hx : x < 18446744073709551616) : ∃ i k : Nat, i < 64 ∧ k < 64 ∧ Lib.ctz 64 x = k ∧ tabL.getD i 0 = (k : Int) ∧
    IntKind.u64.wrap (bits BinOp.and IntKind.u64 (x : Int) (IntKind.u64.wrap (-(x : Int))) * 285870213051353865) / 288230376151711744 = (i : Int) := by
  obtain ⟨hlow, hk⟩ := Lib.lowest_bit 64 x hx0 hx
  obtain ⟨hi, htab⟩ := Lib.deBruijn64_at _ hk
  exact ⟨_, _, hi, hk, rfl, by rw [tabL_eq _ hi, htab], tz_key x _ hx hx0 hlow⟩
set_option maxHeartbeats 2000000 in
theorem tz_calls (w : World) (x : Nat) (hx0 : x ≠ 0) (hx : x < 18446744073709551616) (hgl : GL w) :
    Calls Tryd.prog 48 #[.int .u64 (x : Int)] w fun e w' => e = .returned (.int .i64 ((Lib.ctz 64 x : Nat) : Int)) ∧ w' = w := by
  obtain ⟨i, k, hi, hk, hkk, htab, hkey⟩ := tz_pure x hx0 hx
  rw [hkk]
  have hcell := hgl.out _ hi
  rw [htab] at hcell
  have hxi : ¬ ((x : Int) = 0) := by omega
  have hk0 : (0 : Int) ≤ (k : Int) := by omega
  have hk6 : (k : Int) < 64 := by omega
  have hi0 : (0 : Int) ≤ (i : Int) := by omega
  have hi6 : (i : Int) < 64 := by omega
  have hw : IntKind.i64.wrap (k : Int) = (k : Int) := by rw [IntKind.wrap_i64]; omega
  clear htab hkk hgl hx
  go_enter Tryd.func48, Tryd.ntmps48
  go_wp2
  go_ret
  exact ⟨rfl, rfl⟩
end Go.Proofs.YtmldefednihohaaDoor.Grp
