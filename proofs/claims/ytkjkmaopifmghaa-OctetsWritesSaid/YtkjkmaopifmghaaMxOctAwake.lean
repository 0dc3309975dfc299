/- awake says true, of itself: the contract. -/
import Derived.Test.YtkjkmaopifmghaaOctR
import Derived.Test.YtkjkmaopifmghaaMxOctArmorx1
import Derived.Test.YtkjkmaopifmghaaM2
namespace Go.Proofs.Ytkjkmaopifmghaa.Oct
open Go.RowKit Go.Proofs.YtkjkmaopifmghaaW.PrintWords Go.Proofs.YtkjkmaopifmghaaW.PrintLast Go.Proofs.YtkjkmaopifmghaaW.PrintMore Go.Proofs.Ytkjkmaopifmghaa.OctShort Go.Proofs.Ytkjkmaopifmghaa.OctArmor Go.Proofs.Ytkjkmaopifmghaa.OctSum
set_option linter.unusedVariables false
set_option linter.unusedSimpArgs false
theorem Fr.low {w W : World} (h : Fr w W (fun k => w.heap.size ≤ k)) : Below w.heap.size w W := ⟨h.1.os, h.1.tape, h.1.output, h.1.size, fun k hk => h.2.2 k hk (by omega)⟩
theorem u1 : uintL 9 [7] 300 = some [7, 172, 2] := by kernel_rfl
theorem u2 : uintL 9 [7, 172, 2] (turned (-1)) = some [7, 172, 2, 1] := by kernel_rfl
theorem u3 : uintL 9 [7, 172, 2, 1] (((⟨#[97, 98]⟩ : ByteArray).size : Nat) : Int) = some [7, 172, 2, 1, 2] := by kernel_rfl
theorem s1 : octets_short.f 20 [172, 2, 1, 2, 97, 98] = some (300, 2, 0) := by kernel_rfl
theorem s2 : octets_short.f 20 [1, 2, 97, 98] = some (1, 1, 0) := by kernel_rfl
theorem s3 : octets_short.f 20 [2, 97, 98] = some (2, 1, 0) := by kernel_rfl
theorem b1 : back 1 = -1 := by kernel_rfl
theorem sum1 : octets_Sum.f 20 [97] = some 12638187200555641996 := by kernel_rfl
theorem arm1 : octets_Armor.f 20 [255] = some ⟨#[55, 52]⟩ := by kernel_rfl
theorem t1 : strOfNums (([2, 97, 98].drop (1 : Int).toNat).take (2 : Int).toNat) = ⟨#[97, 98]⟩ := by kernel_rfl
abbrev Own (w : World) : Nat → Prop := fun k => w.heap.size ≤ k
theorem WrAt.new (w : World) : WrAt (w.alloc (.cells #[.slice none 0 0] 36)) w.heap.size (Own w) [] := ⟨Nat.le_refl _, _, heap_alloc_new w _, Kd.R_nil _ _ _ _ _⟩
theorem WrAt.own {w W W' : World} {g : Nat} {l : List Int} (h : WrAt W' g (fun k => Own w k ∨ W.heap.size ≤ k) l) (hw : w.heap.size ≤ W.heap.size) : WrAt W' g (Own w) l := h.mono (fun k hk => hk.elim id (fun h => Nat.le_trans hw h))
theorem Fr.own {w W W' : World} (h : Fr w W (Own w)) {S : Nat → Prop} (k : Fr W W' S) (hS : ∀ k, S k → Own w k) : Fr w W' (Own w) := h.then_ k (fun k hk => .inl (hS k hk))
set_option maxHeartbeats 4000000 in
set_option maxRecDepth 100000 in
theorem awake_calls (w : World) : Calls Try.prog 12 #[] w fun e w' => e = .returned (.bool true) ∧ Below w.heap.size w w' := by
  have W0 := Aside0.mk (WrAt.new w)
  have F0 := Aside0.mk (Fr.of_below (below_alloc (Below.refl _ _) (.cells #[.slice none 0 0] 36)) (Own w) : Fr w (w.alloc (.cells #[.slice none 0 0] 36)) (Own w))
  go_enter Try.func12, Try.ntmps12
  go_wp2_with (first
    | (go_at_call 47; go_loud (refine (Writer_Byte _ w.heap.size (Own w) [] 7 W0.out (by decide)).mono ?_); rintro e w1 ⟨rfl, h1, h2⟩; have F1 := Aside0.mk (F0.out.own h2 (fun _ h => h)); have W1 := Aside0.mk (h1.own F0.out.1.size); clear h1 h2)
    | (go_at_call 30; go_loud (refine (Writer_Uint 9 w1 w.heap.size (Own w) [7] 300 _ W1.out u1).mono ?_); rintro e w2 ⟨rfl, h1, h2⟩; have F2 := Aside0.mk (F1.out.own h2 (fun _ h => h)); have W2 := Aside0.mk (h1.own F1.out.1.size); clear h1 h2)
    | (go_at_call 32; go_loud (refine (Writer_Int 9 w2 w.heap.size (Own w) [7, 172, 2] (-1) _ W2.out u2).mono ?_); rintro e w3 ⟨rfl, h1, h2⟩; have F3 := Aside0.mk (F2.out.own h2 (fun _ h => h)); have W3 := Aside0.mk (h1.own F2.out.1.size); clear h1 h2)
    | (go_at_call 48; go_loud (refine (Writer_Text 9 w3 w.heap.size (Own w) [7, 172, 2, 1] ⟨#[97, 98]⟩ _ W3.out (by decide) u3 (by decide)).mono ?_); rintro e w4 ⟨rfl, h1, h2⟩; have F4 := Aside0.mk (F3.out.own h2 (fun _ h => h)); have W4 := Aside0.mk (h1.own F3.out.1.size : WrAt w4 w.heap.size (Own w) [7, 172, 2, 1, 2, 97, 98]); clear h1 h2)
    | (go_at_call 23; go_loud (refine (Writer_Bytes w4 w.heap.size (Own w) [7, 172, 2, 1, 2, 97, 98] W4.out (by decide)).mono ?_); rintro e w5 ⟨v, rfl, h1, h2⟩; (obtain ⟨A, c, rfl⟩ := Kd.R_slice h1); have F5 := Aside0.mk (F4.out.own (Fr.of_below h2 (fun _ => False)) (fun _ h => h.elim)); have R5 := Aside0.mk (Kd.R_reads' h1).2.2; clear h1 h2)
    | (go_at_call 29; go_loud (refine (Reader_Read w5 A [7, 172, 2, 1, 2, 97, 98] c R5.out (by decide)).mono ?_); rintro e w6 ⟨g, rfl, h1, h2, h3⟩; have F6 := Aside0.mk (F5.out.own (Fr.of_below h3 (fun _ => False)) (fun _ h => h.elim)); have R6 := Aside0.mk (Kd.C_below R5.out h3); have D6 := Aside0.mk h2; have G6 := Aside0.mk (Nat.le_trans F5.out.1.size h1); (obtain ⟨ad, hA, hx⟩ := Kd.at_int R6.out 1 (by omega) (by decide)); (have hx' : w6.cell? { block := ad.block, off := ad.off + 1 } = some (.int .u8 172) := hx); subst hA; clear h1 h2 h3 hx)
    | (go_at_call 41; go_loud (refine (Reader_Byte_ok w6 g 7 [172, 2, 1, 2, 97, 98] D6.out).mono ?_); rintro e w7 ⟨rfl, h1, h2⟩; have F7 := Aside0.mk (F6.out.own h2 (fun _ h => h ▸ G6.out)); have D7 := Aside0.mk h1; clear h1 h2 hx')
    | (go_at_call 31; go_loud (refine (Reader_Uint_ok 20 w7 g [172, 2, 1, 2, 97, 98] 300 2 0 D7.out s1 (by decide) (by decide)).mono ?_); rintro e w8 ⟨rfl, h1, h2⟩; have F8 := Aside0.mk (F7.out.own h2 (fun _ h => h ▸ G6.out)); have D8 := Aside0.mk (show RdAt w8 g _ [1, 2, 97, 98] 0 from h1); clear h1 h2)
    | (go_at_call 33; go_loud (refine (Reader_Int_ok 20 w8 g [1, 2, 97, 98] 1 1 0 D8.out s2 (by decide) (by decide)).mono ?_); rintro e w9 ⟨rfl, h1, h2⟩; have F9 := Aside0.mk (F8.out.own h2 (fun _ h => h ▸ G6.out)); have D9 := Aside0.mk (show RdAt w9 g _ [2, 97, 98] 0 from h1); rw [b1]; clear h1 h2)
    | (go_at_call 42; go_loud (refine (Reader_Text_ok 20 w9 g [2, 97, 98] 2 2 1 D9.out (by decide) s3 (by decide) (by decide) (by decide) (by decide) (by decide)).mono ?_); rintro e w10 ⟨rfl, h1, h2⟩; have F10 := Aside0.mk (F9.out.own h2 (fun _ h => h ▸ G6.out)); have D10 := Aside0.mk (show RdAt w10 g _ [] 0 from h1); rw [t1]; clear h1 h2)
    | (go_at_call 39; go_loud (refine (Reader_End_ok w10 g D10.out).mono ?_); rintro e w11 ⟨rfl, rfl⟩)
    | (go_at_call 13; go_loud (refine (octets_Sum.calls 20 (some ⟨w11.heap.size, 0, none⟩) 1 [97] _ _ (C_new1 w11 [97] (by decide)) (by decide) sum1).mono ?_); rintro e w12 ⟨rfl, ⟨m12, rfl⟩⟩; have F11 := Aside0.mk (F10.out.own ((Fr.of_below (below_alloc (Below.refl _ _) (.cells (nums .u8 [97]).toArray 5)) (fun _ => False)).then_ (Fr.drewN _ m12 (fun _ => False)) (fun _ h => h.elim)) (fun _ h => h.elim)))
    | (go_at_call 24; (have hz : ((w11.alloc (.cells (nums .u8 [97]).toArray 5)).drewN m12).heap.size = w11.heap.size + 1 := by show (w11.heap.push _).size = _; simp); (have hC := C_new1 ((w11.alloc (.cells (nums .u8 [97]).toArray 5)).drewN m12) [255] (by decide)); rw [hz] at hC; go_loud (refine (octets_Armor.calls 20 (some ⟨w11.heap.size + 1, 0, none⟩) 1 [255] _ _ hC (by decide) (by decide) arm1).mono ?_); rintro e w13 ⟨rfl, h1⟩; have F12 := Aside0.mk (F11.out.own ((Fr.of_below (below_alloc (Below.refl _ _) (.cells (nums .u8 [255]).toArray 5)) (fun _ => False)).then_ (Fr.of_below h1 (fun _ => False)) (fun _ h => h.elim)) (fun _ h => h.elim)); clear h1 hC))
  go_ret
  exact ⟨rfl, F12.out.low⟩
end Go.Proofs.Ytkjkmaopifmghaa.Oct
