/- The walk of OctetsSums, by the contracts of what it calls. -/
import Derived.Test.YtkjkmaopifmghaaOctAwake
import Derived.Test.YtkjkmaopifmghaaOctLentx1
import Derived.Test.YtkjkmaopifmghaaOctKeptx2
import Derived.Test.YtkjkmaopifmghaaOctRefsx1
import Derived.Test.YtkjkmaopifmghaaOctRefsx2
namespace Go.Proofs.Ytkjkmaopifmghaa.Oct
open Go.RowKit Go.Proofs.YtkjkmaopifmghaaW.PrintWords Go.Proofs.YtkjkmaopifmghaaW.PrintLast Go.Proofs.YtkjkmaopifmghaaW.PrintMore
set_option linter.unusedVariables false
set_option linter.unusedSimpArgs false
theorem C_take {w : World} {A : Option Addr} {F l : List Int} (h : U8.C w A F.length F) (hl : F.take l.length = l) (hle : l.length ≤ F.length) : U8.C w A l.length l := by
  have := ReadsInt.take_ (k := .u8) (Kd.reads_of_C (d := (0 : Int)) h) l.length hle
  rw [hl] at this
  exact Kd.C_of_reads (enc := Value.int .u8) (d := (0 : Int)) this
theorem below_drewN_ (w : World) (m : Nat) : Below w.heap.size w (w.drewN m) := ⟨rfl, rfl, rfl, Nat.le_refl _, fun _ _ => rfl⟩
theorem bl_then {w W w2 : World} (h : Below w.heap.size w W) (k : Below W.heap.size W w2) : Below w.heap.size w w2 := below_step h k
set_option maxHeartbeats 1000000 in
set_option maxRecDepth 100000 in
theorem sums_walk (k : Nat) (A : Option Addr) (c : Nat) (l F d : List Int) (s t : ByteArray) (x e : Int) (w : World) (hr : U8.C w A l.length l) (hc : l.length ≤ c) (hl : l.length ≤ 140737488351232)
    (h1 : OctLent.latchkeykit_LentBytes.f k l = some F) (h1' : F.take l.length = l ∧ l.length ≤ F.length) (h2 : OctSum.octets_Sum.f k l = some x) (h3 : OctArmor.octets_Armor.f k l = some t) (h4 : OctRefs.octets_Unarmor.f k s = some (d, e)) (h5 : OctRefs.latchkeyref02_Unarmor.f k s = some (d, e)) (h6 : OctRefs.latchkeyref02_Sum.f k l = some x) (h7 : OctRefs.latchkeyref02_Armor.f k l = some t) (h8 : OctRefs.latchkeyref00_SameBytes.f k d d = some true) (h9 : OctKept.latchkeykit_KeptBytes.f k F l = some true) :
    Calls Try.prog 5 #[.slice A l.length c, .string s] w fun e w' => e = .returned (.bool true) ∧ Below w.heap.size w w' := by
  have HR := Aside0.mk hr
  have HC := Aside0.mk hc
  have HL := Aside0.mk hl
  have H1 := Aside0.mk h1
  have H1' := Aside0.mk h1'
  have H2 := Aside0.mk h2
  have H3 := Aside0.mk h3
  have H4 := Aside0.mk h4
  have H5 := Aside0.mk h5
  have H6 := Aside0.mk h6
  have H7 := Aside0.mk h7
  have H8 := Aside0.mk h8
  have H9 := Aside0.mk h9
  clear hr hc hl h1 h1' h2 h3 h4 h5 h6 h7 h8 h9
  go_enter Try.func5, Try.ntmps5
  go_wp2_with (first
    | (go_at_call 17; go_loud (refine (OctLent.latchkeykit_LentBytes.calls k A c l F w HR.out HC.out H1.out).mono ?_); rintro e1 w1 ⟨A1, c1, rfl, q1, b1⟩; have R1 := Aside0.mk (Kd.R_reads' q1).2; have B1 := Aside0.mk b1; clear q1 b1)
    | (go_at_call 13; go_loud (refine (OctSum.octets_Sum.calls k A1 c1 l x w1 (C_take R1.out.2 H1'.out.1 H1'.out.2) (Nat.le_trans H1'.out.2 R1.out.1) H2.out).mono ?_); rintro e2 w2 ⟨rfl, ⟨m2, rfl⟩⟩)
    | (go_at_call 24; go_loud (refine (OctArmor.octets_Armor.calls k A1 c1 l t (w1.drewN m2) (C_take R1.out.2 H1'.out.1 H1'.out.2) (Nat.le_trans H1'.out.2 R1.out.1) HL.out H3.out).mono ?_); rintro e3 w3 ⟨rfl, b3⟩; have B3 := Aside0.mk (bl_then (bl_then B1.out (below_drewN_ w1 m2)) b3); have R3 := Aside0.mk (Kd.C_below (w := w1.drewN m2) R1.out.2 b3); clear b3)
    | (go_at_call 25; go_loud (refine (OctRefs.octets_Unarmor.calls k s d e w3 H4.out).mono ?_); rintro e4 w4 ⟨v4, rfl, q4, b4⟩; (obtain ⟨A4, c4, rfl⟩ := Kd.R_slice q4); have R4 := Aside0.mk (Kd.R_reads' q4).2; have B4 := Aside0.mk (bl_then B3.out b4); have S4 := Aside0.mk (Kd.C_below R3.out b4); clear b4 q4)
    | (go_at_call 26; go_loud (refine (OctRefs.latchkeyref02_Unarmor.calls k s d e w4 H5.out).mono ?_); rintro e5 w5 ⟨v5, rfl, q5, b5⟩; (obtain ⟨A5, c5, rfl⟩ := Kd.R_slice q5); have R5 := Aside0.mk (Kd.R_reads' q5).2; have B5 := Aside0.mk (bl_then B4.out b5); have S5 := Aside0.mk (Kd.C_below S4.out b5); have T5 := Aside0.mk (Kd.C_below R4.out.2 b5); clear b5 q5)
    | (go_at_call 27; go_loud (refine (OctRefs.latchkeyref02_Sum.calls k A c l x w5 (Kd.C_below HR.out B5.out) HC.out H6.out).mono ?_); rintro e6 w6 ⟨rfl, ⟨m6, rfl⟩⟩)
    | (go_at_call 28; go_loud (refine (OctRefs.latchkeyref02_Armor.calls k A c l t (w5.drewN m6) (Kd.C_below HR.out (bl_then B5.out (below_drewN_ w5 m6))) HC.out H7.out).mono ?_); rintro e7 w7 ⟨rfl, b7⟩; have B7 := Aside0.mk (bl_then (bl_then B5.out (below_drewN_ w5 m6)) b7); have S7 := Aside0.mk (Kd.C_below (w := w5.drewN m6) S5.out b7); have T7 := Aside0.mk (Kd.C_below (w := w5.drewN m6) T5.out b7); have U7 := Aside0.mk (Kd.C_below (w := w5.drewN m6) R5.out.2 b7); clear b7)
    | (go_at_call 22; go_loud (refine (OctRefs.latchkeyref00_SameBytes.calls k A4 c4 d A5 c5 d true w7 T7.out R4.out.1 U7.out R5.out.1 H8.out).mono ?_); rintro e8 w8 ⟨rfl, ⟨m8, rfl⟩⟩)
    | (go_at_call 19; go_loud (refine (OctKept.latchkeykit_KeptBytes.calls k A1 c1 F A c l true (w7.drewN m8) S7.out R1.out.1 (Kd.C_below HR.out (bl_then B7.out (below_drewN_ w7 m8))) HC.out H9.out).mono ?_); rintro e9 w9 ⟨rfl, b9⟩; have B9 := Aside0.mk (bl_then (bl_then B7.out (below_drewN_ w7 m8)) b9); clear b9)
    | (go_at_call 12; go_loud (refine (awake_calls w9).mono ?_); rintro e10 w10 ⟨rfl, b10⟩; have B10 := Aside0.mk (bl_then B9.out b10); clear b10))
  go_ret
  exact ⟨rfl, B10.out⟩
end Go.Proofs.Ytkjkmaopifmghaa.Oct
