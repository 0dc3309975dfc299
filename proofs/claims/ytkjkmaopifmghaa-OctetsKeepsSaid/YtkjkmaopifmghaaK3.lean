-- PRINTED by print.py (a twelfth state) out of the translation. Not trusted: Lean checks it.
import Derived.Test.YtkjkmaopifmghaaProg
import Derived.Below
import Derived.Deep.Draws
import Derived.Deep.AppendLies
import Derived.Maps.AppendAt
import Derived.OwnWalk
import Derived.Laws.BytesArg
import Derived.Laws.MakeOwn
import Derived.Laws.OwnMore
import Derived.Deep.OwnRows
import Derived.Tactics
import Derived.Lib.ConvBytes
import Derived.Laws.Slices
import Derived.WalkKit
import Derived.KernelRfl
import Derived.RowKit3
import Derived.Deep.LoopGhost
import Derived.Deep.QuietTactic
import Derived.BigQuiet
import Derived.WideLaws
import Derived.Deep.DeepCutAuto
import Derived.Deep.CutBlock
import Derived.Deep.RegionHeld3
import Derived.Laws.Rows
import Derived.Lib.AppendStr
import Derived.ArgAppend
import Derived.Laws.IdiomCopy
import Derived.OrdersHeld
import Derived.Laws.BitsLemmas
import Derived.RowKit
import Derived.Test.YtkjkmaopifmghaaWWords
import Derived.Test.YtkjkmaopifmghaaWLast
import Derived.Test.YtkjkmaopifmghaaWTab
import Derived.Test.YtkjkmaopifmghaaWFour
import Derived.Test.YtkjkmaopifmghaaWQPut
import Derived.Test.YtkjkmaopifmghaaWApart
import Derived.Test.YtkjkmaopifmghaaWArr
import Derived.Test.YtkjkmaopifmghaaWZeros
import Derived.Test.YtkjkmaopifmghaaWFoot
import Derived.Test.YtkjkmaopifmghaaWKept
import Derived.Test.YtkjkmaopifmghaaWShare
import Derived.Test.YtkjkmaopifmghaaWN
import Derived.Test.YtkjkmaopifmghaaWFootNe
import Derived.Test.YtkjkmaopifmghaaWAt
import Derived.Test.YtkjkmaopifmghaaWEqStruct
import Derived.Test.YtkjkmaopifmghaaWRepsOne
import Derived.Test.YtkjkmaopifmghaaWInv
import Derived.Test.YtkjkmaopifmghaaWInvWords
import Derived.Test.YtkjkmaopifmghaaWGuard
import Derived.Test.YtkjkmaopifmghaaWNEv
import Derived.Test.YtkjkmaopifmghaaWMore
import Derived.Test.YtkjkmaopifmghaaKxOctR
import Derived.Test.YtkjkmaopifmghaaKxOctArmorx1
namespace Go.Proofs.Ytkjkmaopifmghaa.OctSum
open Go.RowKit Go.Proofs.YtkjkmaopifmghaaW.PrintWords Go.Proofs.YtkjkmaopifmghaaW.PrintLast Go.Proofs.YtkjkmaopifmghaaW.PrintMore
attribute [local go_sem] max2_int min2_int max_two min_two max_three min_three max_four min_four   -- for this text's walks alone
set_option linter.unusedVariables false
set_option linter.unusedSimpArgs false



def errW : Option Int → Value
  | none => .nilIface
  | some c => .iface 0 (.int .i64 c)
theorem errW_none : errW none = .nilIface := rfl
theorem errW_some (c : Int) : errW (some c) = .iface 0 (.int .i64 c) := rfl

-- the values' own types

end Go.Proofs.Ytkjkmaopifmghaa.OctSum

namespace Go.Proofs.Ytkjkmaopifmghaa.OctSum
open Go.RowKit Go.Proofs.YtkjkmaopifmghaaW.PrintWords Go.Proofs.YtkjkmaopifmghaaW.PrintLast Go.Proofs.YtkjkmaopifmghaaW.PrintMore
attribute [local go_sem] max2_int min2_int max_two min_two max_three min_three max_four min_four   -- for this text's walks alone
set_option linter.unusedVariables false
set_option linter.unusedSimpArgs false

/-! ### octets_Sum: function 13 -/
def octets_Sum.l0 : Nat → Int → List Int → Int → Int → Option (Int)
  | 0, _, _, _, _ => none
  | k + 1, x3, x6, x7, x8 => if x8 < x7 then (if 0 ≤ x8 then (if x8 < (x6.length : Int) then (octets_Sum.l0 k (IntKind.u64.wrap ((Go.bits .xor .u64 x3 (IntKind.u64.wrap (rd x6 x8))) * 1099511628211)) x6 x7 (wrap64 (x8 + 1))) else (none)) else (none)) else (some x3)
def octets_Sum.f (k : Nat) (l0 : List Int) : Option (Int) := octets_Sum.l0 k 14695981039346656037 l0 (l0.length : Int) 0
theorem octets_Sum.mono_l : ∀ k, (∀ y0 y1 y2 y3, LeO (octets_Sum.l0 k y0 y1 y2 y3) (octets_Sum.l0 (k + 1) y0 y1 y2 y3))
  | 0 => fun _ _ _ _ r h => by simp [octets_Sum.l0] at h
  | k + 1 => by
    have ih0 := octets_Sum.mono_l k
    · intro y0 y1 y2 y3
      unfold octets_Sum.l0
      repeat' first
      | (with_reducible exact ih0 _ _ _ _)
      | (with_reducible exact LeO.refl _)
      | (with_reducible exact LeO.none _)
      | (with_reducible refine LeO.ite ?_ ?_)
      | (with_reducible refine LeO.bind ?_ (fun _ => ?_))
      | exact ih0 _ _ _ _
      | exact LeO.none _
      | refine LeO.ite ?_ ?_
      | refine LeO.bind ?_ (fun _ => ?_)
theorem octets_Sum.mono : ∀ a0 k, LeO (octets_Sum.f k a0) (octets_Sum.f (k + 1) a0) := by
  intro a0 k
  have ih0 := octets_Sum.mono_l k
  unfold octets_Sum.f
  repeat' first
      | (with_reducible exact ih0 _ _ _ _)
      | (with_reducible exact LeO.refl _)
      | (with_reducible exact LeO.none _)
      | (with_reducible refine LeO.ite ?_ ?_)
      | (with_reducible refine LeO.bind ?_ (fun _ => ?_))
      | exact ih0 _ _ _ _
      | exact LeO.none _
      | refine LeO.ite ?_ ?_
      | refine LeO.bind ?_ (fun _ => ?_)
set_option maxHeartbeats 8000000 in
set_option maxRecDepth 100000 in
theorem octets_Sum.calls (k : Nat) (A0 : Option Addr) (c0 : Nat) (l0 : List Int) (r : Int) (w : World) (hr0 : Kd.C (Kd.int .u8) w A0 l0.length l0) (hc0 : l0.length ≤ c0) (h : octets_Sum.f k l0 = some r) :
    Calls Try.prog 13 #[.slice A0 l0.length c0] w fun e w' => e = .returned (.int .u64 r) ∧ Drawn0 w w' := by
  have HR0 := Aside0.mk hr0
  have HC0 := Aside0.mk hc0
  clear hr0 hc0
  have H : (octets_Sum.l0 k 14695981039346656037 l0 (l0.length : Int) 0) = some r := h
  clear h
  have H' := Aside0.mk H
  clear H
  go_enter Try.func13, Try.ntmps13
  go_wp2
  go_loopg [3, 8] k (fun kq v3 v8 w' => ∃ (x3_1 : Int) (x8_1 : Int), v3 = .int .u64 x3_1 ∧ v8 = .int .i64 x8_1 ∧ Aside0 (octets_Sum.l0 kq x3_1 l0 (l0.length : Int) x8_1 = some r) ∧ Aside0 (kq ≤ k) ∧ Drawn0 w w')
  case atStart => exact ⟨(14695981039346656037), (0), (by first | rfl | (simp; done) | (simp [*]; done)), (by first | rfl | (simp; done) | (simp [*]; done)), H', ⟨Nat.le_refl _⟩, by repeat (first | exact Drawn0.refl _ | apply Drawn0.step)⟩
  case round =>
    clear H'
    try clear c1
    obtain ⟨x3_1, x8_1, rfl, rfl, HA, HK1, ⟨m1, rfl⟩⟩ := hrel
    cases gk with
    | zero => exact absurd HA.out (by simp [octets_Sum.l0])
    | succ k1 =>
      have H := HA.out
      clear HA
      simp only [octets_Sum.l0] at H
      by_cases c2 : x8_1 < (l0.length : Int)
      · rw [if_pos c2] at H
        have c2b0 : decide (x8_1 < (l0.length : Int)) = true := decide_eq_true c2
        clear c2
        by_cases c3 : 0 ≤ x8_1
        · rw [if_pos c3] at H
          have c3b0 : decide (0 ≤ x8_1) = true := decide_eq_true c3
          clear c3
          by_cases c4 : x8_1 < (l0.length : Int)
          · rw [if_pos c4] at H
            have c4b0 : decide (x8_1 < (l0.length : Int)) = true := decide_eq_true c4
            clear c4
            have H' := Aside0.mk H
            clear H
            have p101 : 0 ≤ (x8_1 : Int) := of_decide_eq_true (by first | (with_reducible assumption) | assumption)
            have q101 : x8_1 < (l0.length : Int) := of_decide_eq_true (by first | (with_reducible assumption) | assumption)
            obtain ⟨ad101, e101, hx101_0⟩ := Kd.at_int HR0.out x8_1 p101 q101
            cases e101
            replace p101 := eq_true p101
            replace q101 := eq_true q101
            go_wp2
            go_roundg k1
            case measure => have := HK1.out; omega
            case rel => exact ⟨(IntKind.u64.wrap ((Go.bits .xor .u64 x3_1 (IntKind.u64.wrap (rd l0 x8_1))) * 1099511628211)), (wrap64 (x8_1 + 1)), (by first | rfl | (simp; done) | (simp [*]; done)), (by first | rfl | (simp; done) | (simp [*]; done)), H', ⟨by have := HK1.out; omega⟩, by repeat (first | exact Drawn0.refl _ | apply Drawn0.step)⟩
          · rw [if_neg c4] at H
            exact absurd H (by simp)
        · rw [if_neg c3] at H
          exact absurd H (by simp)
      · rw [if_neg c2] at H
        have c2b0 : decide (x8_1 < (l0.length : Int)) = false := decide_eq_false c2
        clear c2
        obtain rfl := Option.some.inj H
        go_wp2
        go_ret
        exact ⟨by first | rfl | (simp; done) | (simp [*]; done), by repeat (first | exact Drawn0.refl _ | apply Drawn0.step)⟩

end Go.Proofs.Ytkjkmaopifmghaa.OctSum

namespace Go.Proofs.Ytkjkmaopifmghaa.Oct
open Go.RowKit Go.Proofs.YtkjkmaopifmghaaW.PrintWords Go.Proofs.YtkjkmaopifmghaaW.PrintLast Go.Proofs.YtkjkmaopifmghaaW.PrintMore Go.Proofs.Ytkjkmaopifmghaa.OctShort Go.Proofs.Ytkjkmaopifmghaa.OctArmor Go.Proofs.Ytkjkmaopifmghaa.OctSum
set_option linter.unusedVariables false
set_option linter.unusedSimpArgs false
theorem Fr.low {w W : World} (h : Fr w W (fun k => w.heap.size ≤ k)) : Below w.heap.size w W := ⟨h.1.os, h.1.tape, h.1.output, h.1.size, fun k hk => h.2.2 k hk (by omega)⟩
theorem u1 : uintL 9 [7] 300 = some [7, 172, 2] := by kernel_rfl
theorem u2 : uintL 9 [7, 172, 2] (turned (-1)) = some [7, 172, 2, 1] := by kernel_rfl
theorem u3 : uintL 9 [7, 172, 2, 1] (((⟨#[97, 98]⟩ : ByteArray).size : Nat) : Int) = some [7, 172, 2, 1, 2] := by kernel_rfl
theorem s1 : octets_short.f 20 [172, 2, 1, 2, 97, 98] = some (300, 2, 0) := by kernel_rfl
theorem s2 : octets_short.f 20 [1, 2, 97, 98] = some (1, 1, 0) := by kernel_rfl
theorem s3 : octets_short.f 20 [2, 97, 98] = some (2, 1, 0) := by kernel_rfl
theorem b1 : back 1 = -1 := by kernel_rfl
theorem sum1 : octets_Sum.f 20 [97] = some 12638187200555641996 := by kernel_rfl
theorem arm1 : octets_Armor.f 20 [255] = some ⟨#[55, 52]⟩ := by kernel_rfl
theorem t1 : strOfNums (([2, 97, 98].drop (1 : Int).toNat).take (2 : Int).toNat) = ⟨#[97, 98]⟩ := by kernel_rfl
abbrev Own (w : World) : Nat → Prop := fun k => w.heap.size ≤ k
theorem WrAt.new (w : World) : WrAt (w.alloc (.cells #[.slice none 0 0] 36)) w.heap.size (Own w) [] := ⟨Nat.le_refl _, _, heap_alloc_new w _, Kd.R_nil _ _ _ _ _⟩
theorem WrAt.own {w W W' : World} {g : Nat} {l : List Int} (h : WrAt W' g (fun k => Own w k ∨ W.heap.size ≤ k) l) (hw : w.heap.size ≤ W.heap.size) : WrAt W' g (Own w) l := h.mono (fun k hk => hk.elim id (fun h => Nat.le_trans hw h))
theorem Fr.own {w W W' : World} (h : Fr w W (Own w)) {S : Nat → Prop} (k : Fr W W' S) (hS : ∀ k, S k → Own w k) : Fr w W' (Own w) := h.then_ k (fun k hk => .inl (hS k hk))
set_option maxHeartbeats 4000000 in
set_option maxRecDepth 100000 in
theorem awake_calls (w : World) : Calls Try.prog 12 #[] w fun e w' => e = .returned (.bool true) ∧ Below w.heap.size w w' := by
  have W0 := Aside0.mk (WrAt.new w)
  have F0 := Aside0.mk (Fr.of_below (below_alloc (Below.refl _ _) (.cells #[.slice none 0 0] 36)) (Own w) : Fr w (w.alloc (.cells #[.slice none 0 0] 36)) (Own w))
  go_enter Try.func12, Try.ntmps12
  go_wp2_with (first
    | (go_at_call 47; go_loud (refine (Writer_Byte _ w.heap.size (Own w) [] 7 W0.out (by decide)).mono ?_); rintro e w1 ⟨rfl, h1, h2⟩; have F1 := Aside0.mk (F0.out.own h2 (fun _ h => h)); have W1 := Aside0.mk (h1.own F0.out.1.size); clear h1 h2)
    | (go_at_call 30; go_loud (refine (Writer_Uint 9 w1 w.heap.size (Own w) [7] 300 _ W1.out u1).mono ?_); rintro e w2 ⟨rfl, h1, h2⟩; have F2 := Aside0.mk (F1.out.own h2 (fun _ h => h)); have W2 := Aside0.mk (h1.own F1.out.1.size); clear h1 h2)
    | (go_at_call 32; go_loud (refine (Writer_Int 9 w2 w.heap.size (Own w) [7, 172, 2] (-1) _ W2.out u2).mono ?_); rintro e w3 ⟨rfl, h1, h2⟩; have F3 := Aside0.mk (F2.out.own h2 (fun _ h => h)); have W3 := Aside0.mk (h1.own F2.out.1.size); clear h1 h2)
    | (go_at_call 48; go_loud (refine (Writer_Text 9 w3 w.heap.size (Own w) [7, 172, 2, 1] ⟨#[97, 98]⟩ _ W3.out (by decide) u3 (by decide)).mono ?_); rintro e w4 ⟨rfl, h1, h2⟩; have F4 := Aside0.mk (F3.out.own h2 (fun _ h => h)); have W4 := Aside0.mk (h1.own F3.out.1.size : WrAt w4 w.heap.size (Own w) [7, 172, 2, 1, 2, 97, 98]); clear h1 h2)
    | (go_at_call 23; go_loud (refine (Writer_Bytes w4 w.heap.size (Own w) [7, 172, 2, 1, 2, 97, 98] W4.out (by decide)).mono ?_); rintro e w5 ⟨v, rfl, h1, h2⟩; (obtain ⟨A, c, rfl⟩ := Kd.R_slice h1); have F5 := Aside0.mk (F4.out.own (Fr.of_below h2 (fun _ => False)) (fun _ h => h.elim)); have R5 := Aside0.mk (Kd.R_reads' h1).2.2; clear h1 h2)
    | (go_at_call 29; go_loud (refine (Reader_Read w5 A [7, 172, 2, 1, 2, 97, 98] c R5.out (by decide)).mono ?_); rintro e w6 ⟨g, rfl, h1, h2, h3⟩; have F6 := Aside0.mk (F5.out.own (Fr.of_below h3 (fun _ => False)) (fun _ h => h.elim)); have R6 := Aside0.mk (Kd.C_below R5.out h3); have D6 := Aside0.mk h2; have G6 := Aside0.mk (Nat.le_trans F5.out.1.size h1); (obtain ⟨ad, hA, hx⟩ := Kd.at_int R6.out 1 (by omega) (by decide)); (have hx' : w6.cell? { block := ad.block, off := ad.off + 1 } = some (.int .u8 172) := hx); subst hA; clear h1 h2 h3 hx)
    | (go_at_call 41; go_loud (refine (Reader_Byte_ok w6 g 7 [172, 2, 1, 2, 97, 98] D6.out).mono ?_); rintro e w7 ⟨rfl, h1, h2⟩; have F7 := Aside0.mk (F6.out.own h2 (fun _ h => h ▸ G6.out)); have D7 := Aside0.mk h1; clear h1 h2 hx')
    | (go_at_call 31; go_loud (refine (Reader_Uint_ok 20 w7 g [172, 2, 1, 2, 97, 98] 300 2 0 D7.out s1 (by decide) (by decide)).mono ?_); rintro e w8 ⟨rfl, h1, h2⟩; have F8 := Aside0.mk (F7.out.own h2 (fun _ h => h ▸ G6.out)); have D8 := Aside0.mk (show RdAt w8 g _ [1, 2, 97, 98] 0 from h1); clear h1 h2)
    | (go_at_call 33; go_loud (refine (Reader_Int_ok 20 w8 g [1, 2, 97, 98] 1 1 0 D8.out s2 (by decide) (by decide)).mono ?_); rintro e w9 ⟨rfl, h1, h2⟩; have F9 := Aside0.mk (F8.out.own h2 (fun _ h => h ▸ G6.out)); have D9 := Aside0.mk (show RdAt w9 g _ [2, 97, 98] 0 from h1); rw [b1]; clear h1 h2)
    | (go_at_call 42; go_loud (refine (Reader_Text_ok 20 w9 g [2, 97, 98] 2 2 1 D9.out (by decide) s3 (by decide) (by decide) (by decide) (by decide) (by decide)).mono ?_); rintro e w10 ⟨rfl, h1, h2⟩; have F10 := Aside0.mk (F9.out.own h2 (fun _ h => h ▸ G6.out)); have D10 := Aside0.mk (show RdAt w10 g _ [] 0 from h1); rw [t1]; clear h1 h2)
    | (go_at_call 39; go_loud (refine (Reader_End_ok w10 g D10.out).mono ?_); rintro e w11 ⟨rfl, rfl⟩)
    | (go_at_call 13; go_loud (refine (octets_Sum.calls 20 (some ⟨w11.heap.size, 0, none⟩) 1 [97] _ _ (C_new1 w11 [97] (by decide)) (by decide) sum1).mono ?_); rintro e w12 ⟨rfl, ⟨m12, rfl⟩⟩; have F11 := Aside0.mk (F10.out.own ((Fr.of_below (below_alloc (Below.refl _ _) (.cells (nums .u8 [97]).toArray 5)) (fun _ => False)).then_ (Fr.drewN _ m12 (fun _ => False)) (fun _ h => h.elim)) (fun _ h => h.elim)))
    | (go_at_call 24; (have hz : ((w11.alloc (.cells (nums .u8 [97]).toArray 5)).drewN m12).heap.size = w11.heap.size + 1 := by show (w11.heap.push _).size = _; simp); (have hC := C_new1 ((w11.alloc (.cells (nums .u8 [97]).toArray 5)).drewN m12) [255] (by decide)); rw [hz] at hC; go_loud (refine (octets_Armor.calls 20 (some ⟨w11.heap.size + 1, 0, none⟩) 1 [255] _ _ hC (by decide) (by decide) arm1).mono ?_); rintro e w13 ⟨rfl, h1⟩; have F12 := Aside0.mk (F11.out.own ((Fr.of_below (below_alloc (Below.refl _ _) (.cells (nums .u8 [255]).toArray 5)) (fun _ => False)).then_ (Fr.of_below h1 (fun _ => False)) (fun _ h => h.elim)) (fun _ h => h.elim)); clear h1 hC))
  go_ret
  exact ⟨rfl, F12.out.low⟩
end Go.Proofs.Ytkjkmaopifmghaa.Oct
