/- A Writer that isn't there: its methods, and write (plain walks). -/
import Derived.Test.YtkjkmaopifmghaaMxOctWrite
namespace Go.Proofs.Ytkjkmaopifmghaa.Oct
open Go.RowKit Go.Proofs.YtkjkmaopifmghaaW.PrintWords Go.Proofs.YtkjkmaopifmghaaW.PrintLast Go.Proofs.YtkjkmaopifmghaaW.PrintMore Go.Proofs.Ytkjkmaopifmghaa.OctShort Go.Proofs.Ytkjkmaopifmghaa.OctCopy Go.Proofs.Ytkjkmaopifmghaa.OctNum Go.Proofs.Ytkjkmaopifmghaa.PureShort
set_option linter.unusedVariables false
set_option linter.unusedSimpArgs false
set_option maxRecDepth 100000
theorem NilW_Byte (x : Int) (w : World) : Calls Try.prog 47 #[.pointer none, .int .u8 x] w fun e w' => e = .returned (.tuple #[]) ∧ w' = w := by
  go_enter Try.func47, Try.ntmps47
  go_wp2
  (try simp only [Exit.inBlock, Exit.then])
  exact ⟨rfl, _, res0 rfl _ _ _, rfl, rfl⟩
theorem NilW_Uint (x : Int) (w : World) : Calls Try.prog 30 #[.pointer none, .int .u64 x] w fun e w' => e = .returned (.tuple #[]) ∧ w' = w := by
  go_enter Try.func30, Try.ntmps30
  go_wp2
  (try simp only [Exit.inBlock, Exit.then])
  exact ⟨rfl, _, res0 rfl _ _ _, rfl, rfl⟩
theorem NilW_Int (x : Int) (w : World) : Calls Try.prog 32 #[.pointer none, .int .i64 x] w fun e w' => e = .returned (.tuple #[]) ∧ w' = w := by
  go_enter Try.func32, Try.ntmps32
  go_wp2_with (go_at_call 30; go_loud (refine (NilW_Uint _ _).mono ?_); rintro e1 w1 ⟨rfl, rfl⟩)
  (try simp only [Exit.inBlock, Exit.then])
  exact ⟨rfl, _, res0 rfl _ _ _, rfl, rfl⟩
theorem NilW_Real (x : Nat) (w : World) : Calls Try.prog 34 #[.pointer none, .float .f32 x] w fun e w' => e = .returned (.tuple #[]) ∧ w' = w := by
  go_enter Try.func34, Try.ntmps34
  go_wp2
  (try simp only [Exit.inBlock, Exit.then])
  exact ⟨rfl, _, res0 rfl _ _ _, rfl, rfl⟩
theorem NilW_Text (x : ByteArray) (w : World) : Calls Try.prog 48 #[.pointer none, .string x] w fun e w' => e = .returned (.tuple #[]) ∧ w' = w := by
  go_enter Try.func48, Try.ntmps48
  go_wp2
  (try simp only [Exit.inBlock, Exit.then])
  exact ⟨rfl, _, res0 rfl _ _ _, rfl, rfl⟩
theorem NilW_Raw (A : Option Addr) (n c : Nat) (w : World) : Calls Try.prog 45 #[.pointer none, .slice A n c] w fun e w' => e = .returned (.tuple #[]) ∧ w' = w := by
  go_enter Try.func45, Try.ntmps45
  go_wp2
  (try simp only [Exit.inBlock, Exit.then])
  exact ⟨rfl, _, res0 rfl _ _ _, rfl, rfl⟩
theorem NilW_Bytes (w : World) : Calls Try.prog 23 #[.pointer none] w fun e w' => e = .returned (.slice none 0 0) ∧ w' = w := by
  go_enter Try.func23, Try.ntmps23
  go_wp2
  go_ret
  exact ⟨rfl, rfl⟩
set_option maxHeartbeats 4000000 in
theorem write_nil0 (w : World) (d : PutD) (A : Option Addr) (n c : Nat) (hu : 0 ≤ d.u ∧ d.u < 18446744073709551616) (hp : latchkeykit_Pick.f d.kind 6 = some 0) :
    Calls Try.prog 18 #[.pointer none, d.val, .slice A n c] w fun e w' => e = .returned (.tuple #[]) ∧ Below w.heap.size w w' := by
  have HP := Aside0.mk hp
  obtain ⟨on, kind, u, i, r, t, Ar, cr, raw⟩ := d
  have hu0 := hu.1
  have hu1 := hu.2
  have hm1 : u % 256 % 256 = u % 256 := by omega
  simp only [] at hu0 hu1
  clear hp hu
  go_enter Try.func18, Try.ntmps18
  go_wp2_with (first | (go_at_call 15; go_loud (refine (latchkeykit_Pick.calls kind 6 0 _ HP.out).mono ?_); rintro e4 w4 ⟨rfl, ⟨m0, rfl⟩⟩) | (go_at_call 47; go_loud (refine (NilW_Byte _ _).mono ?_); rintro e5 w5 ⟨rfl, rfl⟩))
  (try simp only [Exit.inBlock, Exit.then])
  exact ⟨rfl, _, res0 rfl _ _ _, rfl, wx_below _ _ _⟩
set_option maxHeartbeats 4000000 in
theorem write_nil1 (w : World) (d : PutD) (A : Option Addr) (n c : Nat) (hu : 0 ≤ d.u ∧ d.u < 18446744073709551616) (hp : latchkeykit_Pick.f d.kind 6 = some 1) :
    Calls Try.prog 18 #[.pointer none, d.val, .slice A n c] w fun e w' => e = .returned (.tuple #[]) ∧ Below w.heap.size w w' := by
  have HP := Aside0.mk hp
  obtain ⟨on, kind, u, i, r, t, Ar, cr, raw⟩ := d
  have hu0 := hu.1
  have hu1 := hu.2
  have hm1 : u % 256 % 256 = u % 256 := by omega
  simp only [] at hu0 hu1
  clear hp hu
  go_enter Try.func18, Try.ntmps18
  go_wp2_with (first | (go_at_call 15; go_loud (refine (latchkeykit_Pick.calls kind 6 1 _ HP.out).mono ?_); rintro e4 w4 ⟨rfl, ⟨m0, rfl⟩⟩) | (go_at_call 30; go_loud (refine (NilW_Uint _ _).mono ?_); rintro e5 w5 ⟨rfl, rfl⟩))
  (try simp only [Exit.inBlock, Exit.then])
  exact ⟨rfl, _, res0 rfl _ _ _, rfl, wx_below _ _ _⟩
set_option maxHeartbeats 4000000 in
theorem write_nil2 (w : World) (d : PutD) (A : Option Addr) (n c : Nat) (hu : 0 ≤ d.u ∧ d.u < 18446744073709551616) (hp : latchkeykit_Pick.f d.kind 6 = some 2) :
    Calls Try.prog 18 #[.pointer none, d.val, .slice A n c] w fun e w' => e = .returned (.tuple #[]) ∧ Below w.heap.size w w' := by
  have HP := Aside0.mk hp
  obtain ⟨on, kind, u, i, r, t, Ar, cr, raw⟩ := d
  have hu0 := hu.1
  have hu1 := hu.2
  have hm1 : u % 256 % 256 = u % 256 := by omega
  simp only [] at hu0 hu1
  clear hp hu
  go_enter Try.func18, Try.ntmps18
  go_wp2_with (first | (go_at_call 15; go_loud (refine (latchkeykit_Pick.calls kind 6 2 _ HP.out).mono ?_); rintro e4 w4 ⟨rfl, ⟨m0, rfl⟩⟩) | (go_at_call 32; go_loud (refine (NilW_Int _ _).mono ?_); rintro e5 w5 ⟨rfl, rfl⟩))
  (try simp only [Exit.inBlock, Exit.then])
  exact ⟨rfl, _, res0 rfl _ _ _, rfl, wx_below _ _ _⟩
set_option maxHeartbeats 4000000 in
theorem write_nil3 (w : World) (d : PutD) (A : Option Addr) (n c : Nat) (hu : 0 ≤ d.u ∧ d.u < 18446744073709551616) (hp : latchkeykit_Pick.f d.kind 6 = some 3) :
    Calls Try.prog 18 #[.pointer none, d.val, .slice A n c] w fun e w' => e = .returned (.tuple #[]) ∧ Below w.heap.size w w' := by
  have HP := Aside0.mk hp
  obtain ⟨on, kind, u, i, r, t, Ar, cr, raw⟩ := d
  have hu0 := hu.1
  have hu1 := hu.2
  have hm1 : u % 256 % 256 = u % 256 := by omega
  simp only [] at hu0 hu1
  clear hp hu
  go_enter Try.func18, Try.ntmps18
  go_wp2_with (first | (go_at_call 15; go_loud (refine (latchkeykit_Pick.calls kind 6 3 _ HP.out).mono ?_); rintro e4 w4 ⟨rfl, ⟨m0, rfl⟩⟩) | (go_at_call 34; go_loud (refine (NilW_Real _ _).mono ?_); rintro e5 w5 ⟨rfl, rfl⟩))
  (try simp only [Exit.inBlock, Exit.then])
  exact ⟨rfl, _, res0 rfl _ _ _, rfl, wx_below _ _ _⟩
set_option maxHeartbeats 4000000 in
theorem write_nil4 (w : World) (d : PutD) (A : Option Addr) (n c : Nat) (hu : 0 ≤ d.u ∧ d.u < 18446744073709551616) (hp : latchkeykit_Pick.f d.kind 6 = some 4) :
    Calls Try.prog 18 #[.pointer none, d.val, .slice A n c] w fun e w' => e = .returned (.tuple #[]) ∧ Below w.heap.size w w' := by
  have HP := Aside0.mk hp
  obtain ⟨on, kind, u, i, r, t, Ar, cr, raw⟩ := d
  have hu0 := hu.1
  have hu1 := hu.2
  have hm1 : u % 256 % 256 = u % 256 := by omega
  simp only [] at hu0 hu1
  clear hp hu
  go_enter Try.func18, Try.ntmps18
  go_wp2_with (first | (go_at_call 15; go_loud (refine (latchkeykit_Pick.calls kind 6 4 _ HP.out).mono ?_); rintro e4 w4 ⟨rfl, ⟨m0, rfl⟩⟩) | (go_at_call 48; go_loud (refine (NilW_Text _ _).mono ?_); rintro e5 w5 ⟨rfl, rfl⟩))
  (try simp only [Exit.inBlock, Exit.then])
  exact ⟨rfl, _, res0 rfl _ _ _, rfl, wx_below _ _ _⟩
set_option maxHeartbeats 4000000 in
theorem write_nil5 (w : World) (d : PutD) (A : Option Addr) (n c : Nat) (hu : 0 ≤ d.u ∧ d.u < 18446744073709551616) (hp : latchkeykit_Pick.f d.kind 6 = some 5) :
    Calls Try.prog 18 #[.pointer none, d.val, .slice A n c] w fun e w' => e = .returned (.tuple #[]) ∧ Below w.heap.size w w' := by
  have HP := Aside0.mk hp
  obtain ⟨on, kind, u, i, r, t, Ar, cr, raw⟩ := d
  have hu0 := hu.1
  have hu1 := hu.2
  have hm1 : u % 256 % 256 = u % 256 := by omega
  simp only [] at hu0 hu1
  clear hp hu
  go_enter Try.func18, Try.ntmps18
  go_wp2_with (first | (go_at_call 15; go_loud (refine (latchkeykit_Pick.calls kind 6 5 _ HP.out).mono ?_); rintro e4 w4 ⟨rfl, ⟨m0, rfl⟩⟩) | (go_at_call 45; go_loud (refine (NilW_Raw _ _ _ _).mono ?_); rintro e5 w5 ⟨rfl, rfl⟩))
  (try simp only [Exit.inBlock, Exit.then])
  exact ⟨rfl, _, res0 rfl _ _ _, rfl, wx_below _ _ _⟩
theorem write_nil (w : World) (d : PutD) (A : Option Addr) (n c j : Nat) (hj : j < 6) (hu : 0 ≤ d.u ∧ d.u < 18446744073709551616) (hp : latchkeykit_Pick.f d.kind 6 = some (j : Int)) :
    Calls Try.prog 18 #[.pointer none, .agg #[.int .i64 d.on, .int .i64 d.kind, .int .u64 d.u, .int .i64 d.i, .float .f32 d.r, .string d.t, .slice d.A d.raw.length d.c], .slice A n c] w fun e w' => e = .returned (.tuple #[]) ∧ Below w.heap.size w w' := by
  rcases (by omega : j = 0 ∨ j = 1 ∨ j = 2 ∨ j = 3 ∨ j = 4 ∨ j = 5) with rfl | rfl | rfl | rfl | rfl | rfl
  · exact write_nil0 w d A n c hu hp
  · exact write_nil1 w d A n c hu hp
  · exact write_nil2 w d A n c hu hp
  · exact write_nil3 w d A n c hu hp
  · exact write_nil4 w d A n c hu hp
  · exact write_nil5 w d A n c hu hp
end Go.Proofs.Ytkjkmaopifmghaa.Oct
