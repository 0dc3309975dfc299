/- The walk of OctetsNone, by the contracts of what it calls. -/
import Derived.Test.YtkjkmaopifmghaaOctN
import Derived.Test.YtkjkmaopifmghaaOctAwake
namespace Go.Proofs.Ytkjkmaopifmghaa.Oct
open Go.RowKit Go.Proofs.YtkjkmaopifmghaaW.PrintWords Go.Proofs.YtkjkmaopifmghaaW.PrintLast Go.Proofs.YtkjkmaopifmghaaW.PrintMore Go.Proofs.Ytkjkmaopifmghaa.OctShort
set_option linter.unusedVariables false
set_option linter.unusedSimpArgs false
set_option maxRecDepth 100000
theorem s0 : octets_short.f 20 [] = some (0, 0, 20) := by kernel_rfl
set_option maxHeartbeats 4000000 in
theorem none_walk (n : Int) (w : World) : Calls Try.prog 9 #[.int .i64 n] w fun e w' => e = .returned (.bool true) ∧ Below w.heap.size w w' := by
  have hf : (FloatKind.f32.format.order 0 0 != some .eq) = false := by decide
  go_enter Try.func9, Try.ntmps9
  go_wp2_with (first
    | (go_at_call 41; ((with_reducible refine (nil_Byte _).mono ?_); rintro e w1 ⟨rfl, rfl⟩))
    | (go_at_call 31; ((with_reducible refine (nil_Uint _).mono ?_); rintro e w1 ⟨rfl, rfl⟩))
    | (go_at_call 33; ((with_reducible refine (nil_Int _).mono ?_); rintro e w1 ⟨rfl, rfl⟩))
    | (go_at_call 35; ((with_reducible refine (nil_Real _).mono ?_); rintro e w1 ⟨rfl, rfl⟩))
    | (go_at_call 42; ((with_reducible refine (nil_Text _ n).mono ?_); rintro e w1 ⟨rfl, rfl⟩))
    | (go_at_call 43; ((with_reducible refine (nil_Raw _ n).mono ?_); rintro e w1 ⟨rfl, rfl⟩))
    | (go_at_call 37; ((with_reducible refine (nil_Left _).mono ?_); rintro e w1 ⟨rfl, rfl⟩))
    | (go_at_call 36; ((with_reducible refine (nil_Err _).mono ?_); rintro e w1 ⟨rfl, rfl⟩))
    | (go_at_call 39; ((with_reducible refine (nil_End _).mono ?_); rintro e w1 ⟨rfl, rfl⟩))
    | (go_at_call 29; go_loud (refine (Reader_Read w1 none [] 0 (Kd.R_reads' (Kd.R_nil U8 5 w1 0 (fun _ => True))).2.2 (by decide)).mono ?_); rintro e w2 ⟨g, rfl, h1, h2, h3⟩; have F2 := Aside0.mk (Fr.of_below h3 (Own w1)); have D2 := Aside0.mk h2; have G2 := Aside0.mk h1; clear h1 h2 h3)
    | (go_at_call 37; ((with_reducible refine (Reader_Left _ g [] 0 D2.out).mono ?_); rintro e w3 ⟨rfl, rfl⟩))
    | (go_at_call 36; ((with_reducible refine (Reader_Err _ g [] 20 D4.out).mono ?_); rintro e w5 ⟨rfl, rfl⟩))
    | (go_at_call 36; ((with_reducible refine (Reader_Err _ g [] 0 D3.out).mono ?_); rintro e w4 ⟨rfl, rfl⟩))
    | (go_at_call 36; ((with_reducible refine (Reader_Err _ g [] 0 D2.out).mono ?_); rintro e w4 ⟨rfl, rfl⟩))
    | (go_at_call 39; ((with_reducible refine (Reader_End _ g [] 0 D2.out).mono ?_); rintro e w5 ⟨rfl, rfl⟩))
    | (go_at_call 43; go_loud (refine (Reader_Raw _ g [] 0 0 D2.out (by decide)).mono ?_); rintro e w3 ⟨⟨v, rfl, hv⟩, h1, h2⟩; (obtain ⟨A, c, rfl⟩ := Kd.R_slice hv); have F3 := Aside0.mk (F2.out.own h2 (fun _ h => h ▸ G2.out)); have D3 := Aside0.mk (show RdAt w3 g [] 0 from h1); clear h1 h2 hv)
    | (go_at_call 31; go_loud (refine (Reader_Uint 20 _ g [] 0 (0, 0, 20) D3.out s0 (by decide) (by decide)).mono ?_); rintro e w6 ⟨rfl, h1, h2⟩; have F4 := Aside0.mk (F3.out.own h2 (fun _ h => h ▸ G2.out)); have D4 := Aside0.mk (show RdAt w6 g [] 20 from h1); clear h1 h2)
    | (go_at_call 12; go_loud (refine (awake_calls _).mono ?_); rintro e w7 ⟨rfl, b7⟩; have F5 := Aside0.mk (F4.out.own (Fr.of_below b7 (fun _ => False)) (fun _ h => h.elim)); clear b7))
  go_ret
  exact ⟨rfl, F5.out.low⟩
end Go.Proofs.Ytkjkmaopifmghaa.Oct
