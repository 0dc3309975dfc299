/- Writers and Readers: contracts of their methods (plain walks). -/
import Derived.Test.YtkjkmaopifmghaaK1
namespace Go.Proofs.Ytkjkmaopifmghaa.Oct
open Go.RowKit Go.Proofs.YtkjkmaopifmghaaW.PrintWords Go.Proofs.YtkjkmaopifmghaaW.PrintLast Go.Proofs.YtkjkmaopifmghaaW.PrintMore
set_option linter.unusedVariables false
set_option linter.unusedSimpArgs false
theorem WrAt.fr {w w' : World} {g : Nat} {S T : Nat → Prop} {l : List Int} (h : WrAt w g S l) (hk : Kept w w' T) (hn : ∀ k, S k → ¬ T k) : WrAt w' g S l := by
  obtain ⟨hg, v, hb, hr⟩ := h
  exact ⟨hg, v, blk_kept hb hk (hn g hg), Kd.R_kept hr hk (fun k hk => hn k hk.1)⟩
theorem WrAt.mono {w : World} {g : Nat} {S T : Nat → Prop} {l : List Int} (h : WrAt w g S l) (hs : ∀ k, S k → T k) : WrAt w g T l := by
  obtain ⟨hg, v, hb, hr⟩ := h
  exact ⟨hs g hg, v, hb, Kd.R_mono hr (fun k hk => ⟨hs k hk.1, hk.2⟩)⟩
theorem WrAt.lt {w : World} {g : Nat} {S : Nat → Prop} {l : List Int} (h : WrAt w g S l) : WrAt w g (fun k => S k ∧ k < w.heap.size) l := by
  obtain ⟨hg, v, hb, hr⟩ := h
  exact ⟨⟨hg, blk_lt hb⟩, v, hb, Kd.R_mono (Kd.R_bound hr) (fun k hk => ⟨⟨hk.1.1, hk.2.2.1⟩, hk.1.2⟩)⟩
/-- A step that makes blocks alone. -/
theorem WrAt.below {w w' : World} {g : Nat} {S : Nat → Prop} {l : List Int} (h : WrAt w g S l) (hb : Below w.heap.size w w') : WrAt w' g S l := h.fr (Kept.of_below hb (fun _ => False)) (fun _ _ hf => hf)
theorem Fr.refl (w : World) (S : Nat → Prop) : Fr w w S := ⟨Below.refl _ _, Kept.refl _ _⟩
theorem Fr.of_below {w w' : World} (h : Below w.heap.size w w') (S : Nat → Prop) : Fr w w' S := ⟨⟨h.os, h.tape, h.output, h.size, fun k hk => absurd hk (by omega)⟩, Kept.of_below h S⟩
theorem Fr.then_ {w W W2 : World} {S T : Nat → Prop} (h : Fr w W S) (k : Fr W W2 T) (hs : ∀ k, T k → S k ∨ w.heap.size ≤ k) : Fr w W2 S := ⟨⟨k.1.os.trans h.1.os, k.1.tape.trans h.1.tape, k.1.output.trans h.1.output, Nat.le_trans h.1.size k.1.size, fun k hk => absurd hk (by omega)⟩, h.2.then_ k.2 hs⟩
theorem C_new1 (w : World) (l : List Int) (hl : l.length ≤ 9223372036854775807) : U8.C (w.alloc (.cells (nums .u8 l).toArray 5)) (some ⟨w.heap.size, 0, none⟩) l.length l := by
  refine Kd.C_of_reads (enc := Value.int .u8) (d := (0:Int)) ⟨rfl, hl, fun _ => ⟨_, rfl, fun j hj => ?_⟩⟩
  have hn := heap_alloc_new w (.cells (nums .u8 l).toArray 5)
  have e : (⟨w.heap.size, 0, none⟩ : Addr).add j = ⟨w.heap.size, j, none⟩ := by
    unfold Addr.add
    split
    · next h => rw [h]
    · simp
  rw [e]
  unfold World.cell?
  dsimp only
  rw [hn]
  simp [nums, hj, List.getD_eq_getElem?_getD]
theorem put_new (w : World) (g : Nat) (S : Nat → Prop) (l ys : List Int) (h : WrAt w g S l) (hm : l.length + ys.length ≤ 140737488355328) :
    Calls Try.prog 56 #[.pointer (some ⟨g, 0, none⟩), .slice (some ⟨w.heap.size, 0, none⟩) ys.length ys.length] (w.alloc (.cells (nums .u8 ys).toArray 5)) fun e w' => e = .returned (.tuple #[]) ∧ WrAt w' g (fun k => S k ∨ w.heap.size ≤ k) (l ++ ys) ∧ Fr w w' S := by
  have hb : Below w.heap.size w (w.alloc (.cells (nums .u8 ys).toArray 5)) := below_alloc (Below.refl _ _) _
  refine (put_any _ g S l ys _ ys.length ys.length (h.below hb) (C_new1 w ys (by omega)) hm).mono ?_
  rintro e w' ⟨rfl, h1, h2⟩
  refine ⟨rfl, h1.mono ?_, (Fr.of_below hb S).then_ h2 (fun k hk => .inl hk)⟩
  intro k hk
  rcases hk with hk | hk
  · exact .inl hk
  · exact .inr (Nat.le_trans hb.size hk)
set_option maxHeartbeats 4000000 in
set_option maxRecDepth 100000 in
theorem Writer_Byte (w : World) (g : Nat) (S : Nat → Prop) (l : List Int) (x : Int) (h : WrAt w g S l) (hm : l.length < 140737488355328) :
    Calls Try.prog 47 #[.pointer (some ⟨g, 0, none⟩), .int .u8 x] w fun e w' => e = .returned (.tuple #[]) ∧ WrAt w' g (fun k => S k ∨ w.heap.size ≤ k) (l ++ [x]) ∧ Fr w w' S := by
  have H := Lib.hid h
  have HM := Lib.hid hm
  clear h hm
  go_enter Try.func47, Try.ntmps47
  go_wp2_with (go_at_call 56; go_loud (refine (put_new w g S l [x] H.out (by have := HM.out; simp only [List.length_singleton]; omega)).mono ?_); rintro e w' ⟨rfl, h1, h2⟩; have H1 := Lib.hid h1; have H2 := Lib.hid h2; clear h1 h2)
  (try simp only [Exit.inBlock, Exit.then])
  refine ⟨rfl, _, res0 rfl _ _ _, ?_⟩
  exact ⟨rfl, H1.out, H2.out⟩
def uintL : Nat → List Int → Int → Option (List Int)
  | 0, _, _ => none
  | k + 1, l, x => if x > 127 then (if l.length < 140737488355328 then uintL k (l ++ [Go.bits .or .u8 (x % 256) 128]) (x / 128) else none) else (if l.length < 140737488355328 then some (l ++ [x % 256]) else none)
set_option maxHeartbeats 4000000 in
set_option maxRecDepth 100000 in
theorem Writer_Uint (k : Nat) (w : World) (g : Nat) (S : Nat → Prop) (l : List Int) (x : Int) (r : List Int) (h : WrAt w g S l) (hr : uintL k l x = some r) :
    Calls Try.prog 30 #[.pointer (some ⟨g, 0, none⟩), .int .u64 x] w fun e w' => e = .returned (.tuple #[]) ∧ WrAt w' g (fun k => S k ∨ w.heap.size ≤ k) r ∧ Fr w w' S := by
  have H := Aside0.mk h
  have HU := Aside0.mk hr
  clear h hr
  go_enter Try.func30, Try.ntmps30
  go_wp2
  go_loopg [1] k (fun kq v1 w' => ∃ (x1 : Int) (l1 : List Int), v1 = .int .u64 x1 ∧ Aside0 (uintL kq l1 x1 = some r) ∧ Aside0 (kq ≤ k) ∧ Aside0 (WrAt w' g (fun k => S k ∨ w.heap.size ≤ k) l1) ∧ Aside0 (Fr w w' S))
  case atStart => exact ⟨x, l, rfl, HU, ⟨Nat.le_refl _⟩, ⟨H.out.mono (fun _ => .inl)⟩, ⟨Fr.refl _ _⟩⟩
  case round =>
    obtain ⟨x1, l1, rfl, HA, HK, HW, HF⟩ := hrel
    cases gk with
    | zero => exact absurd HA.out (by simp [uintL])
    | succ k1 =>
      have HA := HA.out
      simp only [uintL] at HA
      by_cases c2 : x1 > 127
      · rw [if_pos c2] at HA
        by_cases c3 : l1.length < 140737488355328
        · rw [if_pos c3] at HA
          have HA' := Aside0.mk HA
          have C3 := Aside0.mk c3
          clear HA c3
          have c2b : decide (127 < x1) = true := decide_eq_true c2
          clear c2
          go_wp2_with (go_at_call 56; go_loud (refine (put_new _ g _ l1 [Go.bits .or .u8 (x1 % 256) 128] HW.out (by have := C3.out; simp only [List.length_singleton]; omega)).mono ?_); rintro e w' ⟨rfl, h1, h2⟩; have H1 := Aside0.mk h1; have H2 := Aside0.mk h2; clear h1 h2)
          go_roundg k1
          case measure => have := HK.out; omega
          case rel => exact ⟨_, _, rfl, HA', ⟨by have := HK.out; omega⟩, ⟨H1.out.mono (fun k hk => hk.elim id (fun h => .inr (Nat.le_trans HF.out.1.size h)))⟩, ⟨HF.out.then_ H2.out (fun k hk => hk)⟩⟩
        · rw [if_neg c3] at HA
          cases HA
      · rw [if_neg c2] at HA
        by_cases c3 : l1.length < 140737488355328
        · rw [if_pos c3] at HA
          obtain rfl := Option.some.inj HA
          have C3 := Aside0.mk c3
          clear HA c3
          have c2b : decide (127 < x1) = false := decide_eq_false c2
          clear c2
          go_wp2_with (go_at_call 56; go_loud (refine (put_new _ g _ l1 [x1 % 256] HW.out (by have := C3.out; simp only [List.length_singleton]; omega)).mono ?_); rintro e w' ⟨rfl, h1, h2⟩; have H1 := Aside0.mk h1; have H2 := Aside0.mk h2; clear h1 h2)
          (try simp only [Exit.inBlock, Exit.then])
          refine ⟨rfl, _, res0 rfl _ _ _, ?_⟩
          exact ⟨rfl, H1.out.mono (fun k hk => hk.elim id (fun h => .inr (Nat.le_trans HF.out.1.size h))), HF.out.then_ H2.out (fun k hk => hk)⟩
        · rw [if_neg c3] at HA
          cases HA
def turned (x : Int) : Int := Go.bits .xor .u64 (IntKind.u64.wrap (IntKind.u64.wrap x * 2)) (IntKind.u64.wrap (x / 9223372036854775808))
set_option maxHeartbeats 4000000 in
set_option maxRecDepth 100000 in
theorem Writer_Int (k : Nat) (w : World) (g : Nat) (S : Nat → Prop) (l : List Int) (x : Int) (r : List Int) (h : WrAt w g S l) (hr : uintL k l (turned x) = some r) :
    Calls Try.prog 32 #[.pointer (some ⟨g, 0, none⟩), .int .i64 x] w fun e w' => e = .returned (.tuple #[]) ∧ WrAt w' g (fun k => S k ∨ w.heap.size ≤ k) r ∧ Fr w w' S := by
  have H := Aside0.mk h
  have HU := Aside0.mk hr
  clear h hr
  go_enter Try.func32, Try.ntmps32
  go_wp2_with (go_at_call 30; go_loud (refine (Writer_Uint k w g S l (turned x) r H.out HU.out).mono ?_); rintro e w' ⟨rfl, h1, h2⟩; have H1 := Aside0.mk h1; have H2 := Aside0.mk h2; clear h1 h2)
  (try simp only [Exit.inBlock, Exit.then])
  refine ⟨rfl, _, res0 rfl _ _ _, ?_⟩
  exact ⟨rfl, H1.out, H2.out⟩
set_option maxHeartbeats 4000000 in
set_option maxRecDepth 100000 in
theorem Writer_Raw (w : World) (g : Nat) (S : Nat → Prop) (l ys : List Int) (A : Option Addr) (m c : Nat) (h : WrAt w g S l) (hx : U8.C w A m ys) (hm : l.length + m ≤ 140737488355328) :
    Calls Try.prog 45 #[.pointer (some ⟨g, 0, none⟩), .slice A m c] w fun e w' => e = .returned (.tuple #[]) ∧ WrAt w' g (fun k => S k ∨ w.heap.size ≤ k) (l ++ ys) ∧ Fr w w' S := by
  have H := Aside0.mk h
  have HX := Aside0.mk hx
  have HM := Aside0.mk hm
  clear h hx hm
  go_enter Try.func45, Try.ntmps45
  go_wp2_with (go_at_call 56; go_loud (refine (put_any w g S l ys A m c H.out HX.out HM.out).mono ?_); rintro e w' ⟨rfl, h1, h2⟩; have H1 := Aside0.mk h1; have H2 := Aside0.mk h2; clear h1 h2)
  (try simp only [Exit.inBlock, Exit.then])
  refine ⟨rfl, _, res0 rfl _ _ _, ?_⟩
  exact ⟨rfl, H1.out, H2.out⟩
end Go.Proofs.Ytkjkmaopifmghaa.Oct
namespace Go.Proofs.Ytkjkmaopifmghaa.Oct
open Go.RowKit Go.Proofs.YtkjkmaopifmghaaW.PrintWords Go.Proofs.YtkjkmaopifmghaaW.PrintLast Go.Proofs.YtkjkmaopifmghaaW.PrintMore
set_option linter.unusedVariables false
set_option linter.unusedSimpArgs false
theorem put_bytes (w : World) (g : Nat) (S : Nat → Prop) (l : List Int) (x : ByteArray) (c : Nat) (h : WrAt w g S l) (hx : x.size ≤ 9223372036854775807) (hm : l.length + x.size ≤ 140737488355328) :
    Calls Try.prog 56 #[.pointer (some ⟨g, 0, none⟩), .slice (some ⟨w.heap.size, 0, none⟩) x.size c] (Lib.bytesWorld w 5 x) fun e w' => e = .returned (.tuple #[]) ∧ WrAt w' g (fun k => S k ∨ w.heap.size ≤ k) (l ++ bytesOf x) ∧ Fr w w' S := by
  have hb : Below w.heap.size w (Lib.bytesWorld w 5 x) := bytes_below (Below.refl _ _) (Nat.le_refl _) _ _
  refine (put_any _ g S l (bytesOf x) _ x.size c (h.below hb) (Kd.C_of_reads (enc := Value.int .u8) (d := (0:Int)) (bytes_reads w 5 x hx)) hm).mono ?_
  rintro e w' ⟨rfl, h1, h2⟩
  refine ⟨rfl, h1.mono ?_, (Fr.of_below hb S).then_ h2 (fun k hk => .inl hk)⟩
  intro k hk
  rcases hk with hk | hk
  · exact .inl hk
  · exact .inr (Nat.le_trans hb.size hk)
set_option maxHeartbeats 400000 in
set_option maxRecDepth 100000 in
theorem Writer_Text (k : Nat) (w : World) (g : Nat) (S : Nat → Prop) (l : List Int) (x : ByteArray) (r : List Int) (h : WrAt w g S l) (hx : x.size < 9223372036854775808) (hr : uintL k l (x.size : Int) = some r) (hm : r.length + x.size ≤ 140737488355328) :
    Calls Try.prog 48 #[.pointer (some ⟨g, 0, none⟩), .string x] w fun e w' => e = .returned (.tuple #[]) ∧ WrAt w' g (fun k => S k ∨ w.heap.size ≤ k) (r ++ bytesOf x) ∧ Fr w w' S := by
  have H := Aside0.mk h
  have HU := Aside0.mk hr
  have HM := Aside0.mk hm
  have HX := Aside0.mk hx
  clear h hr hm hx
  have hw : IntKind.u64.wrap (x.size : Int) = (x.size : Int) := by
    have := HX.out
    show (x.size : Int) % 18446744073709551616 = _
    omega
  have kb := fun W => print_bytes (P := Try.prog) 9 22 5 Try.underlying9 Try.underlying22 Try.underlying5 x W
  go_enter Try.func48, Try.ntmps48
  go_wp2_with (first | (go_at_call 30; go_loud (refine (Writer_Uint k w g S l (x.size : Int) r H.out HU.out).mono ?_); rintro e w1 ⟨rfl, h1, h2⟩; have H1 := Aside0.mk h1; have H2 := Aside0.mk h2; clear h1 h2) | (go_at_call 56; go_loud (refine (put_bytes w1 g _ r x _ H1.out (by have := HX.out; omega) HM.out).mono ?_); rintro e w2 ⟨rfl, h1, h2⟩; have H3 := Aside0.mk h1; have H4 := Aside0.mk h2; clear h1 h2))
  (try simp only [Exit.inBlock, Exit.then])
  refine ⟨rfl, _, res0 rfl _ _ _, ?_⟩
  exact ⟨rfl, H3.out.mono (fun k hk => hk.elim id (fun h => .inr (Nat.le_trans H2.out.1.size h))), H2.out.then_ H4.out (fun k hk => hk)⟩
set_option maxHeartbeats 4000000 in
theorem Writer_Bytes (w : World) (g : Nat) (S : Nat → Prop) (l : List Int) (h : WrAt w g S l) (hm : l.length ≤ 140737488355328) :
    Calls Try.prog 23 #[.pointer (some ⟨g, 0, none⟩)] w fun e w' => ∃ v, e = .returned v ∧ U8.R 5 w' w.heap.size (fun _ => True) v l ∧ Below w.heap.size w w' := by
  obtain ⟨hg, v, hb, hr⟩ := h
  obtain ⟨A0, c0, rfl⟩ := Kd.R_slice hr
  obtain ⟨hc, hf⟩ := blk_one hb
  have HX := Aside0.mk (Kd.reads_of_C (d := (0 : Int)) (Kd.R_reads' hr).2.2)
  have HM := Aside0.mk hm
  clear hr hb hm hg
  go_enter Try.func23, Try.ntmps23
  go_wp2_with (first | ((with_reducible refine gate_builtin (b := .append) (xs := #[.const (.slice none 0 0), .tmp 9]) rfl ?_); at_builtin; go_loud (refine print_append_row_of (Value.int .u8) (0 : Int) (w0 := w) w.heap.size rfl (.const (.slice none 0 0)) (.tmp 9) 22 5 (.int .u8 0) 1 rfl Try.underlying22 info5 rfl (by decide) (fun _ => rfl) (.slice none 0 0) [] l A0 l.length c0 rfl rfl ?aO ?aX ?aB ?aH ?aL ?_); (case aO => exact World.ownsRow_nil _ _ _ _); (case aX => exact HX.out); (case aB => exact Below.refl _ _); (case aH => exact Nat.le_refl _); (case aL => have := HM.out; simp only [List.length_nil]; omega); intro v1 w1 ho hb hg hat; have HO1 := Aside0.mk ho; have HBB := Aside0.mk hb; clear hat ho hb hg))
  go_ret
  exact ⟨_, rfl, Kd.R_of_own (enc := Value.int .u8) HO1.out (fun _ _ => trivial), HBB.out⟩
end Go.Proofs.Ytkjkmaopifmghaa.Oct
