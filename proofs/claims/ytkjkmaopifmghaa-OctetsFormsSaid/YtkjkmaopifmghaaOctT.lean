/- The contract of Writer.Text and .Bytes. -/
import Derived.Test.YtkjkmaopifmghaaOctW
namespace Go.Proofs.Ytkjkmaopifmghaa.Oct
open Go.RowKit Go.Proofs.YtkjkmaopifmghaaW.PrintWords Go.Proofs.YtkjkmaopifmghaaW.PrintLast Go.Proofs.YtkjkmaopifmghaaW.PrintMore
set_option linter.unusedVariables false
set_option linter.unusedSimpArgs false
theorem put_bytes (w : World) (g : Nat) (S : Nat → Prop) (l : List Int) (x : ByteArray) (c : Nat) (h : WrAt w g S l) (hx : x.size ≤ 9223372036854775807) (hm : l.length + x.size ≤ 140737488355328) :
    Calls Try.prog 56 #[.pointer (some ⟨g, 0, none⟩), .slice (some ⟨w.heap.size, 0, none⟩) x.size c] (Lib.bytesWorld w 5 x) fun e w' => e = .returned (.tuple #[]) ∧ WrAt w' g (fun k => S k ∨ w.heap.size ≤ k) (l ++ bytesOf x) ∧ Fr w w' S := by
  have hb : Below w.heap.size w (Lib.bytesWorld w 5 x) := bytes_below (Below.refl _ _) (Nat.le_refl _) _ _
  refine (put_any _ g S l (bytesOf x) _ x.size c (h.below hb) (Kd.C_of_reads (enc := Value.int .u8) (d := (0:Int)) (bytes_reads w 5 x hx)) hm).mono ?_
  rintro e w' ⟨rfl, h1, h2⟩
  refine ⟨rfl, h1.mono ?_, (Fr.of_below hb S).then_ h2 (fun k hk => .inl hk)⟩
  intro k hk
  rcases hk with hk | hk
  · exact .inl hk
  · exact .inr (Nat.le_trans hb.size hk)
set_option maxHeartbeats 400000 in
set_option maxRecDepth 100000 in
theorem Writer_Text (k : Nat) (w : World) (g : Nat) (S : Nat → Prop) (l : List Int) (x : ByteArray) (r : List Int) (h : WrAt w g S l) (hx : x.size < 9223372036854775808) (hr : uintL k l (x.size : Int) = some r) (hm : r.length + x.size ≤ 140737488355328) :
    Calls Try.prog 48 #[.pointer (some ⟨g, 0, none⟩), .string x] w fun e w' => e = .returned (.tuple #[]) ∧ WrAt w' g (fun k => S k ∨ w.heap.size ≤ k) (r ++ bytesOf x) ∧ Fr w w' S := by
  have H := Aside0.mk h
  have HU := Aside0.mk hr
  have HM := Aside0.mk hm
  have HX := Aside0.mk hx
  clear h hr hm hx
  have hw : IntKind.u64.wrap (x.size : Int) = (x.size : Int) := by
    have := HX.out
    show (x.size : Int) % 18446744073709551616 = _
    omega
  have kb := fun W => print_bytes (P := Try.prog) 9 22 5 Try.underlying9 Try.underlying22 Try.underlying5 x W
  go_enter Try.func48, Try.ntmps48
  go_wp2_with (first | (go_at_call 30; go_loud (refine (Writer_Uint k w g S l (x.size : Int) r H.out HU.out).mono ?_); rintro e w1 ⟨rfl, h1, h2⟩; have H1 := Aside0.mk h1; have H2 := Aside0.mk h2; clear h1 h2) | (go_at_call 56; go_loud (refine (put_bytes w1 g _ r x _ H1.out (by have := HX.out; omega) HM.out).mono ?_); rintro e w2 ⟨rfl, h1, h2⟩; have H3 := Aside0.mk h1; have H4 := Aside0.mk h2; clear h1 h2))
  (try simp only [Exit.inBlock, Exit.then])
  refine ⟨rfl, _, res0 rfl _ _ _, ?_⟩
  exact ⟨rfl, H3.out.mono (fun k hk => hk.elim id (fun h => .inr (Nat.le_trans H2.out.1.size h))), H2.out.then_ H4.out (fun k hk => hk)⟩
set_option maxHeartbeats 4000000 in
theorem Writer_Bytes (w : World) (g : Nat) (S : Nat → Prop) (l : List Int) (h : WrAt w g S l) (hm : l.length ≤ 140737488355328) :
    Calls Try.prog 23 #[.pointer (some ⟨g, 0, none⟩)] w fun e w' => ∃ v, e = .returned v ∧ U8.R 5 w' w.heap.size (fun _ => True) v l ∧ Below w.heap.size w w' := by
  obtain ⟨hg, v, hb, hr⟩ := h
  obtain ⟨A0, c0, rfl⟩ := Kd.R_slice hr
  obtain ⟨hc, hf⟩ := blk_one hb
  have HX := Aside0.mk (Kd.reads_of_C (d := (0 : Int)) (Kd.R_reads' hr).2.2)
  have HM := Aside0.mk hm
  clear hr hb hm hg
  go_enter Try.func23, Try.ntmps23
  go_wp2_with (first | ((with_reducible refine gate_builtin (b := .append) (xs := #[.const (.slice none 0 0), .tmp 9]) rfl ?_); at_builtin; go_loud (refine print_append_row_of (Value.int .u8) (0 : Int) (w0 := w) w.heap.size rfl (.const (.slice none 0 0)) (.tmp 9) 22 5 (.int .u8 0) 1 rfl Try.underlying22 info5 rfl (by decide) (fun _ => rfl) (.slice none 0 0) [] l A0 l.length c0 rfl rfl ?aO ?aX ?aB ?aH ?aL ?_); (case aO => exact World.ownsRow_nil _ _ _ _); (case aX => exact HX.out); (case aB => exact Below.refl _ _); (case aH => exact Nat.le_refl _); (case aL => have := HM.out; simp only [List.length_nil]; omega); intro v1 w1 ho hb hg hat; have HO1 := Aside0.mk ho; have HBB := Aside0.mk hb; clear hat ho hb hg))
  go_ret
  exact ⟨_, rfl, Kd.R_of_own (enc := Value.int .u8) HO1.out (fun _ _ => trivial), HBB.out⟩
end Go.Proofs.Ytkjkmaopifmghaa.Oct
