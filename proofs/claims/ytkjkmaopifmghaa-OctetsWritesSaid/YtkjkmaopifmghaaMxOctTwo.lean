/- The first and the second of two Writers in one array: contracts of their methods (plain walks), as those of a Writer by itself. -/
import Derived.Test.YtkjkmaopifmghaaMxOctWrite
namespace Go.Proofs.Ytkjkmaopifmghaa.Oct.WA
open Go.RowKit Go.Proofs.YtkjkmaopifmghaaW.PrintWords Go.Proofs.YtkjkmaopifmghaaW.PrintLast Go.Proofs.YtkjkmaopifmghaaW.PrintMore Go.Proofs.Ytkjkmaopifmghaa.OctShort Go.Proofs.Ytkjkmaopifmghaa.OctCopy Go.Proofs.Ytkjkmaopifmghaa.OctNum Go.Proofs.Ytkjkmaopifmghaa.PureShort
set_option linter.unusedVariables false
set_option linter.unusedSimpArgs false
set_option maxRecDepth 100000
variable {uo : Value}
/-- A Writer, number 0 of two at block g; its bytes lie in S, too; uo is what the other one is. -/
def WrAt (uo : Value) (w : World) (g : Nat) (S : Nat → Prop) (l : List Int) : Prop := S g ∧ ∃ v, w.heap[g]? = some (.cells #[v, uo] 37 (0, 0)) ∧ RowB w (fun k => S k ∧ k ≠ g) v l
theorem blk_one {w : World} {g : Nat} {v : Value} {T : Nat} (h : w.heap[g]? = some (.cells #[v, uo] T (0, 0))) : w.cell? ⟨g, 0, none⟩ = some v ∧ w.frozen? ⟨g, 0, none⟩ = false := by
  constructor
  · simp [World.cell?, h]
  · simp [World.frozen?, h]
theorem set_one {w : World} {g : Nat} {v u : Value} {T : Nat} (h : w.heap[g]? = some (.cells #[v, uo] T (0, 0))) : (w.setCell ⟨g, 0, none⟩ u).heap[g]? = some (.cells #[u, uo] T (0, 0)) := by
  have hlt := blk_lt h
  simp only [World.setCell, h]
  rw [Array.getElem?_modify]
  simp [h]
theorem WrAt.fr {w w' : World} {g : Nat} {S T : Nat → Prop} {l : List Int} (h : WrAt uo w g S l) (hk : Kept w w' T) (hn : ∀ k, S k → ¬ T k) : WrAt uo w' g S l := by
  obtain ⟨hg, v, hb, hr⟩ := h
  exact ⟨hg, v, blk_kept hb hk (hn g hg), Kd.R_kept hr hk (fun k hk => hn k hk.1)⟩
theorem WrAt.mono {w : World} {g : Nat} {S T : Nat → Prop} {l : List Int} (h : WrAt uo w g S l) (hs : ∀ k, S k → T k) : WrAt uo w g T l := by
  obtain ⟨hg, v, hb, hr⟩ := h
  exact ⟨hs g hg, v, hb, Kd.R_mono hr (fun k hk => ⟨hs k hk.1, hk.2⟩)⟩
theorem WrAt.lt {w : World} {g : Nat} {S : Nat → Prop} {l : List Int} (h : WrAt uo w g S l) : WrAt uo w g (fun k => S k ∧ k < w.heap.size) l := by
  obtain ⟨hg, v, hb, hr⟩ := h
  exact ⟨⟨hg, blk_lt hb⟩, v, hb, Kd.R_mono (Kd.R_bound hr) (fun k hk => ⟨⟨hk.1.1, hk.2.2.1⟩, hk.1.2⟩)⟩
/-- A step that makes blocks alone. -/
theorem WrAt.below {w w' : World} {g : Nat} {S : Nat → Prop} {l : List Int} (h : WrAt uo w g S l) (hb : Below w.heap.size w w') : WrAt uo w' g S l := h.fr (Kept.of_below hb (fun _ => False)) (fun _ _ hf => hf)
set_option maxHeartbeats 4000000 in
set_option maxRecDepth 100000 in
theorem put_any (w : World) (g : Nat) (S : Nat → Prop) (l ys : List Int) (A : Option Addr) (m c : Nat) (h : WrAt uo w g S l) (hx : U8.C w A m ys) (hm : l.length + m ≤ 140737488355328) :
    Calls Try.prog 56 #[.pointer (some ⟨g, 0, none⟩), .slice A m c] w fun e w' => e = .returned (.tuple #[]) ∧ WrAt uo w' g (fun k => S k ∨ w.heap.size ≤ k) (l ++ ys) ∧ Fr w w' S := by
  obtain ⟨hg, v, hb, hr⟩ := h
  obtain ⟨A0, c0, rfl⟩ := Kd.R_slice hr
  obtain ⟨hc, hf⟩ := blk_one hb
  obtain ⟨inner, ho, hin⟩ := hr.2
  have hne := hr.1
  have HR := Lib.hid hr
  have HB := Lib.hid hb
  have HX := Lib.hid (Kd.reads_of_C (d := (0 : Int)) hx)
  have HM := Lib.hid hm
  have HG := Lib.hid hg
  clear hr hb hx hm hg ho hin hne inner
  go_enter Try.func56, Try.ntmps56
  go_wp2_with (first | ((with_reducible refine gate_builtin (b := .append) (xs := #[.tmp 8, .tmp 9]) rfl ?_); at_builtin; go_loud (refine print_append_row_of (Value.int .u8) (0 : Int) (w0 := w) 0 rfl (.tmp 8) (.tmp 9) 22 5 (.int .u8 0) 1 rfl Try.underlying22 info5 rfl (by decide) (fun _ => rfl) (.slice A0 l.length c0) l ys A m c rfl rfl ?aO ?aX ?aB ?aH ?aL ?_); (case aO => exact Kd.own_of_R HR.out); (case aX => exact HX.out); (case aB => exact Below.refl _ _); (case aH => exact Nat.zero_le _); (case aL => have := HM.out; omega); intro v1 w1 ho hb hg hat; (obtain ⟨A1, c1, rfl⟩ := Kd.R_slice (Kd.R_of_own (h1 := fun _ => rfl) (ok := fun _ => True) ho (fun _ _ => trivial))); (have hne : some g ≠ (Value.slice A0 l.length c0).ownBlock := fun e => (HR.out.1 g e.symm).2 rfl); (have hc1 := World.grownBy.cell hg hc hne); (have hf1 := (World.frozen?_of_block (a := ⟨g, 0, none⟩) (hg.block g (blk_lt HB.out) hne)).trans hf); (have HAT := Lib.hid hat); (have HO1 := Lib.hid ho); (have HBB := Lib.hid hb); (have HGG := Lib.hid hg); clear hat ho hb hg))
  have hb1 := (HGG.out.block g (blk_lt HB.out) hne).trans HB.out
  have hlt := blk_lt HB.out
  (try simp only [Exit.inBlock, Exit.then])
  refine ⟨rfl, _, res0 rfl _ _ _, ?_⟩
  have ho := HO1.out
  rw [List.length_append] at ho
  have hR : RowB w1 (fun k => (S k ∨ w.heap.size ≤ k) ∧ k ≠ g) (.slice A1 (l.length + ys.length) c1) (l ++ ys) := by
    refine Kd.R_of_own (enc := Value.int .u8) (by rw [List.length_append]; exact ho) ?_
    intro k hk
    rcases HAT.out with h2 | ⟨b, h2, h3⟩
    · rw [List.length_append] at h2
      rw [h2] at hk
      exact ⟨.inl (HR.out.1 k hk).1, (HR.out.1 k hk).2⟩
    · rw [List.length_append] at h2
      rw [h2] at hk
      obtain rfl := Option.some.inj hk
      exact ⟨.inr h3, by omega⟩
  refine ⟨rfl, ⟨.inl HG.out, _, set_one hb1, Kd.R_far (p := (⟨g, 0, none⟩ : Addr)) hR (fun k hk => hk.2) _⟩, below_setCell0 HBB.out, Kept.setCell (Kept.of_grown HGG.out (Kept.refl w S) (fun k hk => .inl (HR.out.1 k hk).1)) (p := (⟨g, 0, none⟩ : Addr)) (.inl HG.out) _⟩
theorem put_new (w : World) (g : Nat) (S : Nat → Prop) (l ys : List Int) (h : WrAt uo w g S l) (hm : l.length + ys.length ≤ 140737488355328) :
    Calls Try.prog 56 #[.pointer (some ⟨g, 0, none⟩), .slice (some ⟨w.heap.size, 0, none⟩) ys.length ys.length] (w.alloc (.cells (nums .u8 ys).toArray 5)) fun e w' => e = .returned (.tuple #[]) ∧ WrAt uo w' g (fun k => S k ∨ w.heap.size ≤ k) (l ++ ys) ∧ Fr w w' S := by
  have hb : Below w.heap.size w (w.alloc (.cells (nums .u8 ys).toArray 5)) := below_alloc (Below.refl _ _) _
  refine (put_any _ g S l ys _ ys.length ys.length (h.below hb) (C_new1 w ys (by omega)) hm).mono ?_
  rintro e w' ⟨rfl, h1, h2⟩
  refine ⟨rfl, h1.mono ?_, (Fr.of_below hb S).then_ h2 (fun k hk => .inl hk)⟩
  intro k hk
  rcases hk with hk | hk
  · exact .inl hk
  · exact .inr (Nat.le_trans hb.size hk)
set_option maxHeartbeats 4000000 in
set_option maxRecDepth 100000 in
theorem Writer_Byte (w : World) (g : Nat) (S : Nat → Prop) (l : List Int) (x : Int) (h : WrAt uo w g S l) (hm : l.length < 140737488355328) :
    Calls Try.prog 47 #[.pointer (some ⟨g, 0, none⟩), .int .u8 x] w fun e w' => e = .returned (.tuple #[]) ∧ WrAt uo w' g (fun k => S k ∨ w.heap.size ≤ k) (l ++ [x]) ∧ Fr w w' S := by
  have H := Lib.hid h
  have HM := Lib.hid hm
  clear h hm
  go_enter Try.func47, Try.ntmps47
  go_wp2_with (go_at_call 56; go_loud (refine (put_new w g S l [x] H.out (by have := HM.out; simp only [List.length_singleton]; omega)).mono ?_); rintro e w' ⟨rfl, h1, h2⟩; have H1 := Lib.hid h1; have H2 := Lib.hid h2; clear h1 h2)
  (try simp only [Exit.inBlock, Exit.then])
  refine ⟨rfl, _, res0 rfl _ _ _, ?_⟩
  exact ⟨rfl, H1.out, H2.out⟩
set_option maxHeartbeats 4000000 in
set_option maxRecDepth 100000 in
theorem Writer_Uint (k : Nat) (w : World) (g : Nat) (S : Nat → Prop) (l : List Int) (x : Int) (r : List Int) (h : WrAt uo w g S l) (hr : uintL k l x = some r) :
    Calls Try.prog 30 #[.pointer (some ⟨g, 0, none⟩), .int .u64 x] w fun e w' => e = .returned (.tuple #[]) ∧ WrAt uo w' g (fun k => S k ∨ w.heap.size ≤ k) r ∧ Fr w w' S := by
  have H := Aside0.mk h
  have HU := Aside0.mk hr
  clear h hr
  go_enter Try.func30, Try.ntmps30
  go_wp2
  go_loopg [1] k (fun kq v1 w' => ∃ (x1 : Int) (l1 : List Int), v1 = .int .u64 x1 ∧ Aside0 (uintL kq l1 x1 = some r) ∧ Aside0 (kq ≤ k) ∧ Aside0 (WrAt uo w' g (fun k => S k ∨ w.heap.size ≤ k) l1) ∧ Aside0 (Fr w w' S))
  case atStart => exact ⟨x, l, rfl, HU, ⟨Nat.le_refl _⟩, ⟨H.out.mono (fun _ => .inl)⟩, ⟨Fr.refl _ _⟩⟩
  case round =>
    obtain ⟨x1, l1, rfl, HA, HK, HW, HF⟩ := hrel
    cases gk with
    | zero => exact absurd HA.out (by simp [uintL])
    | succ k1 =>
      have HA := HA.out
      simp only [uintL] at HA
      by_cases c2 : x1 > 127
      · rw [if_pos c2] at HA
        by_cases c3 : l1.length < 140737488355328
        · rw [if_pos c3] at HA
          have HA' := Aside0.mk HA
          have C3 := Aside0.mk c3
          clear HA c3
          have c2b : decide (127 < x1) = true := decide_eq_true c2
          clear c2
          go_wp2_with (go_at_call 56; go_loud (refine (put_new _ g _ l1 [Go.bits .or .u8 (x1 % 256) 128] HW.out (by have := C3.out; simp only [List.length_singleton]; omega)).mono ?_); rintro e w' ⟨rfl, h1, h2⟩; have H1 := Aside0.mk h1; have H2 := Aside0.mk h2; clear h1 h2)
          go_roundg k1
          case measure => have := HK.out; omega
          case rel => exact ⟨_, _, rfl, HA', ⟨by have := HK.out; omega⟩, ⟨H1.out.mono (fun k hk => hk.elim id (fun h => .inr (Nat.le_trans HF.out.1.size h)))⟩, ⟨HF.out.then_ H2.out (fun k hk => hk)⟩⟩
        · rw [if_neg c3] at HA
          cases HA
      · rw [if_neg c2] at HA
        by_cases c3 : l1.length < 140737488355328
        · rw [if_pos c3] at HA
          obtain rfl := Option.some.inj HA
          have C3 := Aside0.mk c3
          clear HA c3
          have c2b : decide (127 < x1) = false := decide_eq_false c2
          clear c2
          go_wp2_with (go_at_call 56; go_loud (refine (put_new _ g _ l1 [x1 % 256] HW.out (by have := C3.out; simp only [List.length_singleton]; omega)).mono ?_); rintro e w' ⟨rfl, h1, h2⟩; have H1 := Aside0.mk h1; have H2 := Aside0.mk h2; clear h1 h2)
          (try simp only [Exit.inBlock, Exit.then])
          refine ⟨rfl, _, res0 rfl _ _ _, ?_⟩
          exact ⟨rfl, H1.out.mono (fun k hk => hk.elim id (fun h => .inr (Nat.le_trans HF.out.1.size h))), HF.out.then_ H2.out (fun k hk => hk)⟩
        · rw [if_neg c3] at HA
          cases HA
set_option maxHeartbeats 4000000 in
set_option maxRecDepth 100000 in
theorem Writer_Int (k : Nat) (w : World) (g : Nat) (S : Nat → Prop) (l : List Int) (x : Int) (r : List Int) (h : WrAt uo w g S l) (hr : uintL k l (turned x) = some r) :
    Calls Try.prog 32 #[.pointer (some ⟨g, 0, none⟩), .int .i64 x] w fun e w' => e = .returned (.tuple #[]) ∧ WrAt uo w' g (fun k => S k ∨ w.heap.size ≤ k) r ∧ Fr w w' S := by
  have H := Aside0.mk h
  have HU := Aside0.mk hr
  clear h hr
  go_enter Try.func32, Try.ntmps32
  go_wp2_with (go_at_call 30; go_loud (refine (Writer_Uint k w g S l (turned x) r H.out HU.out).mono ?_); rintro e w' ⟨rfl, h1, h2⟩; have H1 := Aside0.mk h1; have H2 := Aside0.mk h2; clear h1 h2)
  (try simp only [Exit.inBlock, Exit.then])
  refine ⟨rfl, _, res0 rfl _ _ _, ?_⟩
  exact ⟨rfl, H1.out, H2.out⟩
set_option maxHeartbeats 4000000 in
set_option maxRecDepth 100000 in
theorem Writer_Raw (w : World) (g : Nat) (S : Nat → Prop) (l ys : List Int) (A : Option Addr) (m c : Nat) (h : WrAt uo w g S l) (hx : U8.C w A m ys) (hm : l.length + m ≤ 140737488355328) :
    Calls Try.prog 45 #[.pointer (some ⟨g, 0, none⟩), .slice A m c] w fun e w' => e = .returned (.tuple #[]) ∧ WrAt uo w' g (fun k => S k ∨ w.heap.size ≤ k) (l ++ ys) ∧ Fr w w' S := by
  have H := Aside0.mk h
  have HX := Aside0.mk hx
  have HM := Aside0.mk hm
  clear h hx hm
  go_enter Try.func45, Try.ntmps45
  go_wp2_with (go_at_call 56; go_loud (refine (put_any w g S l ys A m c H.out HX.out HM.out).mono ?_); rintro e w' ⟨rfl, h1, h2⟩; have H1 := Aside0.mk h1; have H2 := Aside0.mk h2; clear h1 h2)
  (try simp only [Exit.inBlock, Exit.then])
  refine ⟨rfl, _, res0 rfl _ _ _, ?_⟩
  exact ⟨rfl, H1.out, H2.out⟩
theorem put_bytes (w : World) (g : Nat) (S : Nat → Prop) (l : List Int) (x : ByteArray) (c : Nat) (h : WrAt uo w g S l) (hx : x.size ≤ 9223372036854775807) (hm : l.length + x.size ≤ 140737488355328) :
    Calls Try.prog 56 #[.pointer (some ⟨g, 0, none⟩), .slice (some ⟨w.heap.size, 0, none⟩) x.size c] (Lib.bytesWorld w 5 x) fun e w' => e = .returned (.tuple #[]) ∧ WrAt uo w' g (fun k => S k ∨ w.heap.size ≤ k) (l ++ bytesOf x) ∧ Fr w w' S := by
  have hb : Below w.heap.size w (Lib.bytesWorld w 5 x) := bytes_below (Below.refl _ _) (Nat.le_refl _) _ _
  refine (put_any _ g S l (bytesOf x) _ x.size c (h.below hb) (Kd.C_of_reads (enc := Value.int .u8) (d := (0:Int)) (bytes_reads w 5 x hx)) hm).mono ?_
  rintro e w' ⟨rfl, h1, h2⟩
  refine ⟨rfl, h1.mono ?_, (Fr.of_below hb S).then_ h2 (fun k hk => .inl hk)⟩
  intro k hk
  rcases hk with hk | hk
  · exact .inl hk
  · exact .inr (Nat.le_trans hb.size hk)
set_option maxHeartbeats 400000 in
set_option maxRecDepth 100000 in
theorem Writer_Text (k : Nat) (w : World) (g : Nat) (S : Nat → Prop) (l : List Int) (x : ByteArray) (r : List Int) (h : WrAt uo w g S l) (hx : x.size < 9223372036854775808) (hr : uintL k l (x.size : Int) = some r) (hm : r.length + x.size ≤ 140737488355328) :
    Calls Try.prog 48 #[.pointer (some ⟨g, 0, none⟩), .string x] w fun e w' => e = .returned (.tuple #[]) ∧ WrAt uo w' g (fun k => S k ∨ w.heap.size ≤ k) (r ++ bytesOf x) ∧ Fr w w' S := by
  have H := Aside0.mk h
  have HU := Aside0.mk hr
  have HM := Aside0.mk hm
  have HX := Aside0.mk hx
  clear h hr hm hx
  have hw : IntKind.u64.wrap (x.size : Int) = (x.size : Int) := by
    have := HX.out
    show (x.size : Int) % 18446744073709551616 = _
    omega
  have kb := fun W => print_bytes (P := Try.prog) 9 22 5 Try.underlying9 Try.underlying22 Try.underlying5 x W
  go_enter Try.func48, Try.ntmps48
  go_wp2_with (first | (go_at_call 30; go_loud (refine (Writer_Uint k w g S l (x.size : Int) r H.out HU.out).mono ?_); rintro e w1 ⟨rfl, h1, h2⟩; have H1 := Aside0.mk h1; have H2 := Aside0.mk h2; clear h1 h2) | (go_at_call 56; go_loud (refine (put_bytes w1 g _ r x _ H1.out (by have := HX.out; omega) HM.out).mono ?_); rintro e w2 ⟨rfl, h1, h2⟩; have H3 := Aside0.mk h1; have H4 := Aside0.mk h2; clear h1 h2))
  (try simp only [Exit.inBlock, Exit.then])
  refine ⟨rfl, _, res0 rfl _ _ _, ?_⟩
  exact ⟨rfl, H3.out.mono (fun k hk => hk.elim id (fun h => .inr (Nat.le_trans H2.out.1.size h))), H2.out.then_ H4.out (fun k hk => hk)⟩
set_option maxHeartbeats 4000000 in
theorem Writer_Bytes (w : World) (g : Nat) (S : Nat → Prop) (l : List Int) (h : WrAt uo w g S l) (hm : l.length ≤ 140737488355328) :
    Calls Try.prog 23 #[.pointer (some ⟨g, 0, none⟩)] w fun e w' => ∃ v, e = .returned v ∧ U8.R 5 w' w.heap.size (fun _ => True) v l ∧ Below w.heap.size w w' := by
  obtain ⟨hg, v, hb, hr⟩ := h
  obtain ⟨A0, c0, rfl⟩ := Kd.R_slice hr
  obtain ⟨hc, hf⟩ := blk_one hb
  have HX := Aside0.mk (Kd.reads_of_C (d := (0 : Int)) (Kd.R_reads' hr).2.2)
  have HM := Aside0.mk hm
  clear hr hb hm hg
  go_enter Try.func23, Try.ntmps23
  go_wp2_with (first | ((with_reducible refine gate_builtin (b := .append) (xs := #[.const (.slice none 0 0), .tmp 9]) rfl ?_); at_builtin; go_loud (refine print_append_row_of (Value.int .u8) (0 : Int) (w0 := w) w.heap.size rfl (.const (.slice none 0 0)) (.tmp 9) 22 5 (.int .u8 0) 1 rfl Try.underlying22 info5 rfl (by decide) (fun _ => rfl) (.slice none 0 0) [] l A0 l.length c0 rfl rfl ?aO ?aX ?aB ?aH ?aL ?_); (case aO => exact World.ownsRow_nil _ _ _ _); (case aX => exact HX.out); (case aB => exact Below.refl _ _); (case aH => exact Nat.le_refl _); (case aL => have := HM.out; simp only [List.length_nil]; omega); intro v1 w1 ho hb hg hat; have HO1 := Aside0.mk ho; have HBB := Aside0.mk hb; clear hat ho hb hg))
  go_ret
  exact ⟨_, rfl, Kd.R_of_own (enc := Value.int .u8) HO1.out (fun _ _ => trivial), HBB.out⟩
set_option maxHeartbeats 4000000 in
theorem Writer_Real (w : World) (g : Nat) (S : Nat → Prop) (l : List Int) (b : Nat) (hb : b < 4294967296) (h : WrAt uo w g S l) (hm : l.length + 4 ≤ 140737488355328) :
    Calls Try.prog 34 #[.pointer (some ⟨g, 0, none⟩), .float .f32 b] w fun e w' => e = .returned (.tuple #[]) ∧ WrAt uo w' g (fun k => S k ∨ w.heap.size ≤ k) (l ++ quad (keyB b)) ∧ Fr w w' S := by
  have H := Aside0.mk h
  have HM := Aside0.mk hm
  have HB := Aside0.mk hb
  clear h hm hb
  go_enter Try.func34, Try.ntmps34
  go_wp2_with (first | (go_at_call 59; go_loud (refine (key_calls b _ HB.out).mono ?_); rintro e w1 ⟨rfl, rfl⟩) | (go_at_call 56; go_loud (refine (put_new w1 g S l (quad (keyB b)) H.out (by have := HM.out; simp only [quad, List.length_cons, List.length_nil]; omega)).mono ?_); rintro e w2 ⟨rfl, h1, h2⟩; have H1 := Aside0.mk h1; have H2 := Aside0.mk h2; clear h1 h2))
  (try simp only [Exit.inBlock, Exit.then])
  refine ⟨rfl, _, res0 rfl _ _ _, ?_⟩
  exact ⟨rfl, H1.out, H2.out⟩
def WritePost (uo : Value) (w : World) (g : Nat) (S : Nat → Prop) (l : List Int) (e : Ending) (w' : World) : Prop := e = .returned (.tuple #[]) ∧ WrAt uo w' g (fun k => S k ∨ w.heap.size ≤ k) l ∧ Fr w w' S
set_option maxHeartbeats 4000000 in
theorem write_0 (w : World) (g : Nat) (S : Nat → Prop) (l : List Int) (d : PutD) (A : Option Addr) (c : Nat) (h : WrAt uo w g S l) (hd : PutOk w.heap.size d) (hl : l.length + 16 + d.t.size + d.raw.length ≤ 140737488351232) (hA : U8.C w A d.raw.length d.raw) (hp : latchkeykit_Pick.f d.kind 6 = some 0) :
    Calls Try.prog 18 #[.pointer (some ⟨g, 0, none⟩), d.val, .slice A d.raw.length c] w (WritePost uo w g S (l ++ enc d 0)) := by
  have H := Aside0.mk h
  have HL := Aside0.mk hl
  have HA := Aside0.mk hA
  have HP := Aside0.mk hp
  obtain ⟨on, kind, u, i, r, t, Ar, cr, raw⟩ := d
  have hu0 := hd.hu.1
  have hu1 := hd.hu.2
  have HU := Aside0.mk hd.hu
  have HI := Aside0.mk hd.hi
  have HR := Aside0.mk hd.hr
  have HT := Aside0.mk hd.ht
  have hm1 : u % 256 % 256 = u % 256 := by omega
  simp only [] at hu0 hu1
  clear h hl hA hp hd
  go_enter Try.func18, Try.ntmps18
  go_wp2_with (first | (go_at_call 15; go_loud (refine (latchkeykit_Pick.calls kind 6 0 _ HP.out).mono ?_); rintro e4 w4 ⟨rfl, ⟨m0, rfl⟩⟩) | (go_at_call 47; go_loud (refine (Writer_Byte _ g S l (u % 256) (H.out.below (wx_below _ _ _)) (by have := HL.out; omega)).mono ?_); rintro e5 w5 ⟨rfl, h1, h2⟩; have H1 := Aside0.mk (h1.mono (T := fun k => S k ∨ w.heap.size ≤ k) (fun k hk => hk.elim .inl (fun h => .inr (Nat.le_trans (size_bx _ _ _) h)))); have H2 := Aside0.mk ((Fr.of_below (wx_below _ _ _) S).then_ h2 (fun k hk => .inl hk)); clear h1 h2))
  (try simp only [Exit.inBlock, Exit.then])
  refine ⟨rfl, _, res0 rfl _ _ _, ?_⟩
  exact ⟨rfl, H1.out, H2.out⟩
set_option maxHeartbeats 4000000 in
theorem write_1 (w : World) (g : Nat) (S : Nat → Prop) (l : List Int) (d : PutD) (A : Option Addr) (c : Nat) (h : WrAt uo w g S l) (hd : PutOk w.heap.size d) (hl : l.length + 16 + d.t.size + d.raw.length ≤ 140737488351232) (hA : U8.C w A d.raw.length d.raw) (hp : latchkeykit_Pick.f d.kind 6 = some 1) :
    Calls Try.prog 18 #[.pointer (some ⟨g, 0, none⟩), d.val, .slice A d.raw.length c] w (WritePost uo w g S (l ++ enc d 1)) := by
  have H := Aside0.mk h
  have HL := Aside0.mk hl
  have HA := Aside0.mk hA
  have HP := Aside0.mk hp
  obtain ⟨on, kind, u, i, r, t, Ar, cr, raw⟩ := d
  have hu0 := hd.hu.1
  have hu1 := hd.hu.2
  have HU := Aside0.mk hd.hu
  have HI := Aside0.mk hd.hi
  have HR := Aside0.mk hd.hr
  have HT := Aside0.mk hd.ht
  skip
  simp only [] at hu0 hu1
  clear h hl hA hp hd
  go_enter Try.func18, Try.ntmps18
  go_wp2_with (first | (go_at_call 15; go_loud (refine (latchkeykit_Pick.calls kind 6 1 _ HP.out).mono ?_); rintro e4 w4 ⟨rfl, ⟨m0, rfl⟩⟩) | (go_at_call 30; go_loud (refine (Writer_Uint 10 _ g S l u _ (H.out.below (wx_below _ _ _)) (uint_dg 10 u l HU.out.1 (pow10 u HU.out.2) (by omega) (by have := HL.out; omega))).mono ?_); rintro e5 w5 ⟨rfl, h1, h2⟩; have H1 := Aside0.mk (h1.mono (T := fun k => S k ∨ w.heap.size ≤ k) (fun k hk => hk.elim .inl (fun h => .inr (Nat.le_trans (size_bx _ _ _) h)))); have H2 := Aside0.mk ((Fr.of_below (wx_below _ _ _) S).then_ h2 (fun k hk => .inl hk)); clear h1 h2))
  (try simp only [Exit.inBlock, Exit.then])
  refine ⟨rfl, _, res0 rfl _ _ _, ?_⟩
  exact ⟨rfl, H1.out, H2.out⟩
set_option maxHeartbeats 4000000 in
theorem write_2 (w : World) (g : Nat) (S : Nat → Prop) (l : List Int) (d : PutD) (A : Option Addr) (c : Nat) (h : WrAt uo w g S l) (hd : PutOk w.heap.size d) (hl : l.length + 16 + d.t.size + d.raw.length ≤ 140737488351232) (hA : U8.C w A d.raw.length d.raw) (hp : latchkeykit_Pick.f d.kind 6 = some 2) :
    Calls Try.prog 18 #[.pointer (some ⟨g, 0, none⟩), d.val, .slice A d.raw.length c] w (WritePost uo w g S (l ++ enc d 2)) := by
  have H := Aside0.mk h
  have HL := Aside0.mk hl
  have HA := Aside0.mk hA
  have HP := Aside0.mk hp
  obtain ⟨on, kind, u, i, r, t, Ar, cr, raw⟩ := d
  have hu0 := hd.hu.1
  have hu1 := hd.hu.2
  have HU := Aside0.mk hd.hu
  have HI := Aside0.mk hd.hi
  have HR := Aside0.mk hd.hr
  have HT := Aside0.mk hd.ht
  skip
  simp only [] at hu0 hu1
  clear h hl hA hp hd
  go_enter Try.func18, Try.ntmps18
  go_wp2_with (first | (go_at_call 15; go_loud (refine (latchkeykit_Pick.calls kind 6 2 _ HP.out).mono ?_); rintro e4 w4 ⟨rfl, ⟨m0, rfl⟩⟩) | (go_at_call 32; go_loud (refine (Writer_Int 10 _ g S l i _ (H.out.below (wx_below _ _ _)) (uint_dg 10 (turned i) l (PureForms.back_turned i HI.out.1 HI.out.2).2.1 (pow10 _ (PureForms.back_turned i HI.out.1 HI.out.2).2.2) (by omega) (by have := HL.out; omega))).mono ?_); rintro e5 w5 ⟨rfl, h1, h2⟩; have H1 := Aside0.mk (h1.mono (T := fun k => S k ∨ w.heap.size ≤ k) (fun k hk => hk.elim .inl (fun h => .inr (Nat.le_trans (size_bx _ _ _) h)))); have H2 := Aside0.mk ((Fr.of_below (wx_below _ _ _) S).then_ h2 (fun k hk => .inl hk)); clear h1 h2))
  (try simp only [Exit.inBlock, Exit.then])
  refine ⟨rfl, _, res0 rfl _ _ _, ?_⟩
  exact ⟨rfl, H1.out, H2.out⟩
set_option maxHeartbeats 4000000 in
theorem write_3 (w : World) (g : Nat) (S : Nat → Prop) (l : List Int) (d : PutD) (A : Option Addr) (c : Nat) (h : WrAt uo w g S l) (hd : PutOk w.heap.size d) (hl : l.length + 16 + d.t.size + d.raw.length ≤ 140737488351232) (hA : U8.C w A d.raw.length d.raw) (hp : latchkeykit_Pick.f d.kind 6 = some 3) :
    Calls Try.prog 18 #[.pointer (some ⟨g, 0, none⟩), d.val, .slice A d.raw.length c] w (WritePost uo w g S (l ++ enc d 3)) := by
  have H := Aside0.mk h
  have HL := Aside0.mk hl
  have HA := Aside0.mk hA
  have HP := Aside0.mk hp
  obtain ⟨on, kind, u, i, r, t, Ar, cr, raw⟩ := d
  have hu0 := hd.hu.1
  have hu1 := hd.hu.2
  have HU := Aside0.mk hd.hu
  have HI := Aside0.mk hd.hi
  have HR := Aside0.mk hd.hr
  have HT := Aside0.mk hd.ht
  skip
  simp only [] at hu0 hu1
  clear h hl hA hp hd
  go_enter Try.func18, Try.ntmps18
  go_wp2_with (first | (go_at_call 15; go_loud (refine (latchkeykit_Pick.calls kind 6 3 _ HP.out).mono ?_); rintro e4 w4 ⟨rfl, ⟨m0, rfl⟩⟩) | (go_at_call 34; go_loud (refine (Writer_Real _ g S l r HR.out (H.out.below (wx_below _ _ _)) (by have := HL.out; omega)).mono ?_); rintro e5 w5 ⟨rfl, h1, h2⟩; have H1 := Aside0.mk (h1.mono (T := fun k => S k ∨ w.heap.size ≤ k) (fun k hk => hk.elim .inl (fun h => .inr (Nat.le_trans (size_bx _ _ _) h)))); have H2 := Aside0.mk ((Fr.of_below (wx_below _ _ _) S).then_ h2 (fun k hk => .inl hk)); clear h1 h2))
  (try simp only [Exit.inBlock, Exit.then])
  refine ⟨rfl, _, res0 rfl _ _ _, ?_⟩
  exact ⟨rfl, H1.out, H2.out⟩
set_option maxHeartbeats 4000000 in
theorem write_4 (w : World) (g : Nat) (S : Nat → Prop) (l : List Int) (d : PutD) (A : Option Addr) (c : Nat) (h : WrAt uo w g S l) (hd : PutOk w.heap.size d) (hl : l.length + 16 + d.t.size + d.raw.length ≤ 140737488351232) (hA : U8.C w A d.raw.length d.raw) (hp : latchkeykit_Pick.f d.kind 6 = some 4) :
    Calls Try.prog 18 #[.pointer (some ⟨g, 0, none⟩), d.val, .slice A d.raw.length c] w (WritePost uo w g S (l ++ enc d 4)) := by
  have H := Aside0.mk h
  have HL := Aside0.mk hl
  have HA := Aside0.mk hA
  have HP := Aside0.mk hp
  obtain ⟨on, kind, u, i, r, t, Ar, cr, raw⟩ := d
  have hu0 := hd.hu.1
  have hu1 := hd.hu.2
  have HU := Aside0.mk hd.hu
  have HI := Aside0.mk hd.hi
  have HR := Aside0.mk hd.hr
  have HT := Aside0.mk hd.ht
  skip
  simp only [] at hu0 hu1
  clear h hl hA hp hd
  go_enter Try.func18, Try.ntmps18
  go_wp2_with (first | (go_at_call 15; go_loud (refine (latchkeykit_Pick.calls kind 6 4 _ HP.out).mono ?_); rintro e4 w4 ⟨rfl, ⟨m0, rfl⟩⟩) | (go_at_call 48; go_loud (refine (Writer_Text 10 _ g S l t _ (H.out.below (wx_below _ _ _)) (by have := HT.out; omega) (uint_dg 10 (t.size : Int) l (by omega) (pow10 _ (by have := HT.out; omega)) (by omega) (by have := HL.out; omega)) (by have := HL.out; have := dg_len 10 (t.size : Int); simp only [List.length_append]; omega)).mono ?_); rintro e5 w5 ⟨rfl, h1, h2⟩; have H1 := Aside0.mk (h1.mono (T := fun k => S k ∨ w.heap.size ≤ k) (fun k hk => hk.elim .inl (fun h => .inr (Nat.le_trans (size_bx _ _ _) h)))); have H2 := Aside0.mk ((Fr.of_below (wx_below _ _ _) S).then_ h2 (fun k hk => .inl hk)); clear h1 h2))
  (try simp only [Exit.inBlock, Exit.then])
  refine ⟨rfl, _, res0 rfl _ _ _, ?_⟩
  exact ⟨rfl, by have := H1.out; rw [List.append_assoc] at this; exact this, H2.out⟩
set_option maxHeartbeats 4000000 in
theorem write_5 (w : World) (g : Nat) (S : Nat → Prop) (l : List Int) (d : PutD) (A : Option Addr) (c : Nat) (h : WrAt uo w g S l) (hd : PutOk w.heap.size d) (hl : l.length + 16 + d.t.size + d.raw.length ≤ 140737488351232) (hA : U8.C w A d.raw.length d.raw) (hp : latchkeykit_Pick.f d.kind 6 = some 5) :
    Calls Try.prog 18 #[.pointer (some ⟨g, 0, none⟩), d.val, .slice A d.raw.length c] w (WritePost uo w g S (l ++ enc d 5)) := by
  have H := Aside0.mk h
  have HL := Aside0.mk hl
  have HA := Aside0.mk hA
  have HP := Aside0.mk hp
  obtain ⟨on, kind, u, i, r, t, Ar, cr, raw⟩ := d
  have hu0 := hd.hu.1
  have hu1 := hd.hu.2
  have HU := Aside0.mk hd.hu
  have HI := Aside0.mk hd.hi
  have HR := Aside0.mk hd.hr
  have HT := Aside0.mk hd.ht
  skip
  simp only [] at hu0 hu1
  clear h hl hA hp hd
  go_enter Try.func18, Try.ntmps18
  go_wp2_with (first | (go_at_call 15; go_loud (refine (latchkeykit_Pick.calls kind 6 5 _ HP.out).mono ?_); rintro e4 w4 ⟨rfl, ⟨m0, rfl⟩⟩) | (go_at_call 45; go_loud (refine (Writer_Raw _ g S l raw A raw.length c (H.out.below (wx_below _ _ _)) (Kd.C_below HA.out (wx_below _ _ _)) (by have := HL.out; omega)).mono ?_); rintro e5 w5 ⟨rfl, h1, h2⟩; have H1 := Aside0.mk (h1.mono (T := fun k => S k ∨ w.heap.size ≤ k) (fun k hk => hk.elim .inl (fun h => .inr (Nat.le_trans (size_bx _ _ _) h)))); have H2 := Aside0.mk ((Fr.of_below (wx_below _ _ _) S).then_ h2 (fun k hk => .inl hk)); clear h1 h2))
  (try simp only [Exit.inBlock, Exit.then])
  refine ⟨rfl, _, res0 rfl _ _ _, ?_⟩
  exact ⟨rfl, H1.out, H2.out⟩
theorem write_any (w : World) (g : Nat) (S : Nat → Prop) (l : List Int) (d : PutD) (A : Option Addr) (c : Nat) (j : Nat) (hj : j < 6) (h : WrAt uo w g S l) (hd : PutOk w.heap.size d) (hl : l.length + 16 + d.t.size + d.raw.length ≤ 140737488351232) (hA : U8.C w A d.raw.length d.raw) (hp : latchkeykit_Pick.f d.kind 6 = some (j : Int)) :
    Calls Try.prog 18 #[.pointer (some ⟨g, 0, none⟩), d.val, .slice A d.raw.length c] w (WritePost uo w g S (l ++ enc d j)) := by
  rcases (by omega : j = 0 ∨ j = 1 ∨ j = 2 ∨ j = 3 ∨ j = 4 ∨ j = 5) with rfl | rfl | rfl | rfl | rfl | rfl
  · exact write_0 w g S l d A c h hd hl hA hp
  · exact write_1 w g S l d A c h hd hl hA hp
  · exact write_2 w g S l d A c h hd hl hA hp
  · exact write_3 w g S l d A c h hd hl hA hp
  · exact write_4 w g S l d A c h hd hl hA hp
  · exact write_5 w g S l d A c h hd hl hA hp
end Go.Proofs.Ytkjkmaopifmghaa.Oct.WA
namespace Go.Proofs.Ytkjkmaopifmghaa.Oct.WB
open Go.RowKit Go.Proofs.YtkjkmaopifmghaaW.PrintWords Go.Proofs.YtkjkmaopifmghaaW.PrintLast Go.Proofs.YtkjkmaopifmghaaW.PrintMore Go.Proofs.Ytkjkmaopifmghaa.OctShort Go.Proofs.Ytkjkmaopifmghaa.OctCopy Go.Proofs.Ytkjkmaopifmghaa.OctNum Go.Proofs.Ytkjkmaopifmghaa.PureShort
set_option linter.unusedVariables false
set_option linter.unusedSimpArgs false
set_option maxRecDepth 100000
variable {uo : Value}
/-- A Writer, number 1 of two at block g; its bytes lie in S, too; uo is what the other one is. -/
def WrAt (uo : Value) (w : World) (g : Nat) (S : Nat → Prop) (l : List Int) : Prop := S g ∧ ∃ v, w.heap[g]? = some (.cells #[uo, v] 37 (0, 0)) ∧ RowB w (fun k => S k ∧ k ≠ g) v l
theorem blk_one {w : World} {g : Nat} {v : Value} {T : Nat} (h : w.heap[g]? = some (.cells #[uo, v] T (0, 0))) : w.cell? ⟨g, 1, none⟩ = some v ∧ w.frozen? ⟨g, 1, none⟩ = false := by
  constructor
  · simp [World.cell?, h]
  · simp [World.frozen?, h]
theorem set_one {w : World} {g : Nat} {v u : Value} {T : Nat} (h : w.heap[g]? = some (.cells #[uo, v] T (0, 0))) : (w.setCell ⟨g, 1, none⟩ u).heap[g]? = some (.cells #[uo, u] T (0, 0)) := by
  have hlt := blk_lt h
  simp only [World.setCell, h]
  rw [Array.getElem?_modify]
  simp [h]
theorem WrAt.fr {w w' : World} {g : Nat} {S T : Nat → Prop} {l : List Int} (h : WrAt uo w g S l) (hk : Kept w w' T) (hn : ∀ k, S k → ¬ T k) : WrAt uo w' g S l := by
  obtain ⟨hg, v, hb, hr⟩ := h
  exact ⟨hg, v, blk_kept hb hk (hn g hg), Kd.R_kept hr hk (fun k hk => hn k hk.1)⟩
theorem WrAt.mono {w : World} {g : Nat} {S T : Nat → Prop} {l : List Int} (h : WrAt uo w g S l) (hs : ∀ k, S k → T k) : WrAt uo w g T l := by
  obtain ⟨hg, v, hb, hr⟩ := h
  exact ⟨hs g hg, v, hb, Kd.R_mono hr (fun k hk => ⟨hs k hk.1, hk.2⟩)⟩
theorem WrAt.lt {w : World} {g : Nat} {S : Nat → Prop} {l : List Int} (h : WrAt uo w g S l) : WrAt uo w g (fun k => S k ∧ k < w.heap.size) l := by
  obtain ⟨hg, v, hb, hr⟩ := h
  exact ⟨⟨hg, blk_lt hb⟩, v, hb, Kd.R_mono (Kd.R_bound hr) (fun k hk => ⟨⟨hk.1.1, hk.2.2.1⟩, hk.1.2⟩)⟩
/-- A step that makes blocks alone. -/
theorem WrAt.below {w w' : World} {g : Nat} {S : Nat → Prop} {l : List Int} (h : WrAt uo w g S l) (hb : Below w.heap.size w w') : WrAt uo w' g S l := h.fr (Kept.of_below hb (fun _ => False)) (fun _ _ hf => hf)
set_option maxHeartbeats 4000000 in
set_option maxRecDepth 100000 in
theorem put_any (w : World) (g : Nat) (S : Nat → Prop) (l ys : List Int) (A : Option Addr) (m c : Nat) (h : WrAt uo w g S l) (hx : U8.C w A m ys) (hm : l.length + m ≤ 140737488355328) :
    Calls Try.prog 56 #[.pointer (some ⟨g, 1, none⟩), .slice A m c] w fun e w' => e = .returned (.tuple #[]) ∧ WrAt uo w' g (fun k => S k ∨ w.heap.size ≤ k) (l ++ ys) ∧ Fr w w' S := by
  obtain ⟨hg, v, hb, hr⟩ := h
  obtain ⟨A0, c0, rfl⟩ := Kd.R_slice hr
  obtain ⟨hc, hf⟩ := blk_one hb
  obtain ⟨inner, ho, hin⟩ := hr.2
  have hne := hr.1
  have HR := Lib.hid hr
  have HB := Lib.hid hb
  have HX := Lib.hid (Kd.reads_of_C (d := (0 : Int)) hx)
  have HM := Lib.hid hm
  have HG := Lib.hid hg
  clear hr hb hx hm hg ho hin hne inner
  go_enter Try.func56, Try.ntmps56
  go_wp2_with (first | ((with_reducible refine gate_builtin (b := .append) (xs := #[.tmp 8, .tmp 9]) rfl ?_); at_builtin; go_loud (refine print_append_row_of (Value.int .u8) (0 : Int) (w0 := w) 0 rfl (.tmp 8) (.tmp 9) 22 5 (.int .u8 0) 1 rfl Try.underlying22 info5 rfl (by decide) (fun _ => rfl) (.slice A0 l.length c0) l ys A m c rfl rfl ?aO ?aX ?aB ?aH ?aL ?_); (case aO => exact Kd.own_of_R HR.out); (case aX => exact HX.out); (case aB => exact Below.refl _ _); (case aH => exact Nat.zero_le _); (case aL => have := HM.out; omega); intro v1 w1 ho hb hg hat; (obtain ⟨A1, c1, rfl⟩ := Kd.R_slice (Kd.R_of_own (h1 := fun _ => rfl) (ok := fun _ => True) ho (fun _ _ => trivial))); (have hne : some g ≠ (Value.slice A0 l.length c0).ownBlock := fun e => (HR.out.1 g e.symm).2 rfl); (have hc1 := World.grownBy.cell hg hc hne); (have hf1 := (World.frozen?_of_block (a := ⟨g, 1, none⟩) (hg.block g (blk_lt HB.out) hne)).trans hf); (have HAT := Lib.hid hat); (have HO1 := Lib.hid ho); (have HBB := Lib.hid hb); (have HGG := Lib.hid hg); clear hat ho hb hg))
  have hb1 := (HGG.out.block g (blk_lt HB.out) hne).trans HB.out
  have hlt := blk_lt HB.out
  (try simp only [Exit.inBlock, Exit.then])
  refine ⟨rfl, _, res0 rfl _ _ _, ?_⟩
  have ho := HO1.out
  rw [List.length_append] at ho
  have hR : RowB w1 (fun k => (S k ∨ w.heap.size ≤ k) ∧ k ≠ g) (.slice A1 (l.length + ys.length) c1) (l ++ ys) := by
    refine Kd.R_of_own (enc := Value.int .u8) (by rw [List.length_append]; exact ho) ?_
    intro k hk
    rcases HAT.out with h2 | ⟨b, h2, h3⟩
    · rw [List.length_append] at h2
      rw [h2] at hk
      exact ⟨.inl (HR.out.1 k hk).1, (HR.out.1 k hk).2⟩
    · rw [List.length_append] at h2
      rw [h2] at hk
      obtain rfl := Option.some.inj hk
      exact ⟨.inr h3, by omega⟩
  refine ⟨rfl, ⟨.inl HG.out, _, set_one hb1, Kd.R_far (p := (⟨g, 1, none⟩ : Addr)) hR (fun k hk => hk.2) _⟩, below_setCell0 HBB.out, Kept.setCell (Kept.of_grown HGG.out (Kept.refl w S) (fun k hk => .inl (HR.out.1 k hk).1)) (p := (⟨g, 1, none⟩ : Addr)) (.inl HG.out) _⟩
theorem put_new (w : World) (g : Nat) (S : Nat → Prop) (l ys : List Int) (h : WrAt uo w g S l) (hm : l.length + ys.length ≤ 140737488355328) :
    Calls Try.prog 56 #[.pointer (some ⟨g, 1, none⟩), .slice (some ⟨w.heap.size, 0, none⟩) ys.length ys.length] (w.alloc (.cells (nums .u8 ys).toArray 5)) fun e w' => e = .returned (.tuple #[]) ∧ WrAt uo w' g (fun k => S k ∨ w.heap.size ≤ k) (l ++ ys) ∧ Fr w w' S := by
  have hb : Below w.heap.size w (w.alloc (.cells (nums .u8 ys).toArray 5)) := below_alloc (Below.refl _ _) _
  refine (put_any _ g S l ys _ ys.length ys.length (h.below hb) (C_new1 w ys (by omega)) hm).mono ?_
  rintro e w' ⟨rfl, h1, h2⟩
  refine ⟨rfl, h1.mono ?_, (Fr.of_below hb S).then_ h2 (fun k hk => .inl hk)⟩
  intro k hk
  rcases hk with hk | hk
  · exact .inl hk
  · exact .inr (Nat.le_trans hb.size hk)
set_option maxHeartbeats 4000000 in
set_option maxRecDepth 100000 in
theorem Writer_Byte (w : World) (g : Nat) (S : Nat → Prop) (l : List Int) (x : Int) (h : WrAt uo w g S l) (hm : l.length < 140737488355328) :
    Calls Try.prog 47 #[.pointer (some ⟨g, 1, none⟩), .int .u8 x] w fun e w' => e = .returned (.tuple #[]) ∧ WrAt uo w' g (fun k => S k ∨ w.heap.size ≤ k) (l ++ [x]) ∧ Fr w w' S := by
  have H := Lib.hid h
  have HM := Lib.hid hm
  clear h hm
  go_enter Try.func47, Try.ntmps47
  go_wp2_with (go_at_call 56; go_loud (refine (put_new w g S l [x] H.out (by have := HM.out; simp only [List.length_singleton]; omega)).mono ?_); rintro e w' ⟨rfl, h1, h2⟩; have H1 := Lib.hid h1; have H2 := Lib.hid h2; clear h1 h2)
  (try simp only [Exit.inBlock, Exit.then])
  refine ⟨rfl, _, res0 rfl _ _ _, ?_⟩
  exact ⟨rfl, H1.out, H2.out⟩
set_option maxHeartbeats 4000000 in
set_option maxRecDepth 100000 in
theorem Writer_Uint (k : Nat) (w : World) (g : Nat) (S : Nat → Prop) (l : List Int) (x : Int) (r : List Int) (h : WrAt uo w g S l) (hr : uintL k l x = some r) :
    Calls Try.prog 30 #[.pointer (some ⟨g, 1, none⟩), .int .u64 x] w fun e w' => e = .returned (.tuple #[]) ∧ WrAt uo w' g (fun k => S k ∨ w.heap.size ≤ k) r ∧ Fr w w' S := by
  have H := Aside0.mk h
  have HU := Aside0.mk hr
  clear h hr
  go_enter Try.func30, Try.ntmps30
  go_wp2
  go_loopg [1] k (fun kq v1 w' => ∃ (x1 : Int) (l1 : List Int), v1 = .int .u64 x1 ∧ Aside0 (uintL kq l1 x1 = some r) ∧ Aside0 (kq ≤ k) ∧ Aside0 (WrAt uo w' g (fun k => S k ∨ w.heap.size ≤ k) l1) ∧ Aside0 (Fr w w' S))
  case atStart => exact ⟨x, l, rfl, HU, ⟨Nat.le_refl _⟩, ⟨H.out.mono (fun _ => .inl)⟩, ⟨Fr.refl _ _⟩⟩
  case round =>
    obtain ⟨x1, l1, rfl, HA, HK, HW, HF⟩ := hrel
    cases gk with
    | zero => exact absurd HA.out (by simp [uintL])
    | succ k1 =>
      have HA := HA.out
      simp only [uintL] at HA
      by_cases c2 : x1 > 127
      · rw [if_pos c2] at HA
        by_cases c3 : l1.length < 140737488355328
        · rw [if_pos c3] at HA
          have HA' := Aside0.mk HA
          have C3 := Aside0.mk c3
          clear HA c3
          have c2b : decide (127 < x1) = true := decide_eq_true c2
          clear c2
          go_wp2_with (go_at_call 56; go_loud (refine (put_new _ g _ l1 [Go.bits .or .u8 (x1 % 256) 128] HW.out (by have := C3.out; simp only [List.length_singleton]; omega)).mono ?_); rintro e w' ⟨rfl, h1, h2⟩; have H1 := Aside0.mk h1; have H2 := Aside0.mk h2; clear h1 h2)
          go_roundg k1
          case measure => have := HK.out; omega
          case rel => exact ⟨_, _, rfl, HA', ⟨by have := HK.out; omega⟩, ⟨H1.out.mono (fun k hk => hk.elim id (fun h => .inr (Nat.le_trans HF.out.1.size h)))⟩, ⟨HF.out.then_ H2.out (fun k hk => hk)⟩⟩
        · rw [if_neg c3] at HA
          cases HA
      · rw [if_neg c2] at HA
        by_cases c3 : l1.length < 140737488355328
        · rw [if_pos c3] at HA
          obtain rfl := Option.some.inj HA
          have C3 := Aside0.mk c3
          clear HA c3
          have c2b : decide (127 < x1) = false := decide_eq_false c2
          clear c2
          go_wp2_with (go_at_call 56; go_loud (refine (put_new _ g _ l1 [x1 % 256] HW.out (by have := C3.out; simp only [List.length_singleton]; omega)).mono ?_); rintro e w' ⟨rfl, h1, h2⟩; have H1 := Aside0.mk h1; have H2 := Aside0.mk h2; clear h1 h2)
          (try simp only [Exit.inBlock, Exit.then])
          refine ⟨rfl, _, res0 rfl _ _ _, ?_⟩
          exact ⟨rfl, H1.out.mono (fun k hk => hk.elim id (fun h => .inr (Nat.le_trans HF.out.1.size h))), HF.out.then_ H2.out (fun k hk => hk)⟩
        · rw [if_neg c3] at HA
          cases HA
set_option maxHeartbeats 4000000 in
set_option maxRecDepth 100000 in
theorem Writer_Int (k : Nat) (w : World) (g : Nat) (S : Nat → Prop) (l : List Int) (x : Int) (r : List Int) (h : WrAt uo w g S l) (hr : uintL k l (turned x) = some r) :
    Calls Try.prog 32 #[.pointer (some ⟨g, 1, none⟩), .int .i64 x] w fun e w' => e = .returned (.tuple #[]) ∧ WrAt uo w' g (fun k => S k ∨ w.heap.size ≤ k) r ∧ Fr w w' S := by
  have H := Aside0.mk h
  have HU := Aside0.mk hr
  clear h hr
  go_enter Try.func32, Try.ntmps32
  go_wp2_with (go_at_call 30; go_loud (refine (Writer_Uint k w g S l (turned x) r H.out HU.out).mono ?_); rintro e w' ⟨rfl, h1, h2⟩; have H1 := Aside0.mk h1; have H2 := Aside0.mk h2; clear h1 h2)
  (try simp only [Exit.inBlock, Exit.then])
  refine ⟨rfl, _, res0 rfl _ _ _, ?_⟩
  exact ⟨rfl, H1.out, H2.out⟩
set_option maxHeartbeats 4000000 in
set_option maxRecDepth 100000 in
theorem Writer_Raw (w : World) (g : Nat) (S : Nat → Prop) (l ys : List Int) (A : Option Addr) (m c : Nat) (h : WrAt uo w g S l) (hx : U8.C w A m ys) (hm : l.length + m ≤ 140737488355328) :
    Calls Try.prog 45 #[.pointer (some ⟨g, 1, none⟩), .slice A m c] w fun e w' => e = .returned (.tuple #[]) ∧ WrAt uo w' g (fun k => S k ∨ w.heap.size ≤ k) (l ++ ys) ∧ Fr w w' S := by
  have H := Aside0.mk h
  have HX := Aside0.mk hx
  have HM := Aside0.mk hm
  clear h hx hm
  go_enter Try.func45, Try.ntmps45
  go_wp2_with (go_at_call 56; go_loud (refine (put_any w g S l ys A m c H.out HX.out HM.out).mono ?_); rintro e w' ⟨rfl, h1, h2⟩; have H1 := Aside0.mk h1; have H2 := Aside0.mk h2; clear h1 h2)
  (try simp only [Exit.inBlock, Exit.then])
  refine ⟨rfl, _, res0 rfl _ _ _, ?_⟩
  exact ⟨rfl, H1.out, H2.out⟩
theorem put_bytes (w : World) (g : Nat) (S : Nat → Prop) (l : List Int) (x : ByteArray) (c : Nat) (h : WrAt uo w g S l) (hx : x.size ≤ 9223372036854775807) (hm : l.length + x.size ≤ 140737488355328) :
    Calls Try.prog 56 #[.pointer (some ⟨g, 1, none⟩), .slice (some ⟨w.heap.size, 0, none⟩) x.size c] (Lib.bytesWorld w 5 x) fun e w' => e = .returned (.tuple #[]) ∧ WrAt uo w' g (fun k => S k ∨ w.heap.size ≤ k) (l ++ bytesOf x) ∧ Fr w w' S := by
  have hb : Below w.heap.size w (Lib.bytesWorld w 5 x) := bytes_below (Below.refl _ _) (Nat.le_refl _) _ _
  refine (put_any _ g S l (bytesOf x) _ x.size c (h.below hb) (Kd.C_of_reads (enc := Value.int .u8) (d := (0:Int)) (bytes_reads w 5 x hx)) hm).mono ?_
  rintro e w' ⟨rfl, h1, h2⟩
  refine ⟨rfl, h1.mono ?_, (Fr.of_below hb S).then_ h2 (fun k hk => .inl hk)⟩
  intro k hk
  rcases hk with hk | hk
  · exact .inl hk
  · exact .inr (Nat.le_trans hb.size hk)
set_option maxHeartbeats 400000 in
set_option maxRecDepth 100000 in
theorem Writer_Text (k : Nat) (w : World) (g : Nat) (S : Nat → Prop) (l : List Int) (x : ByteArray) (r : List Int) (h : WrAt uo w g S l) (hx : x.size < 9223372036854775808) (hr : uintL k l (x.size : Int) = some r) (hm : r.length + x.size ≤ 140737488355328) :
    Calls Try.prog 48 #[.pointer (some ⟨g, 1, none⟩), .string x] w fun e w' => e = .returned (.tuple #[]) ∧ WrAt uo w' g (fun k => S k ∨ w.heap.size ≤ k) (r ++ bytesOf x) ∧ Fr w w' S := by
  have H := Aside0.mk h
  have HU := Aside0.mk hr
  have HM := Aside0.mk hm
  have HX := Aside0.mk hx
  clear h hr hm hx
  have hw : IntKind.u64.wrap (x.size : Int) = (x.size : Int) := by
    have := HX.out
    show (x.size : Int) % 18446744073709551616 = _
    omega
  have kb := fun W => print_bytes (P := Try.prog) 9 22 5 Try.underlying9 Try.underlying22 Try.underlying5 x W
  go_enter Try.func48, Try.ntmps48
  go_wp2_with (first | (go_at_call 30; go_loud (refine (Writer_Uint k w g S l (x.size : Int) r H.out HU.out).mono ?_); rintro e w1 ⟨rfl, h1, h2⟩; have H1 := Aside0.mk h1; have H2 := Aside0.mk h2; clear h1 h2) | (go_at_call 56; go_loud (refine (put_bytes w1 g _ r x _ H1.out (by have := HX.out; omega) HM.out).mono ?_); rintro e w2 ⟨rfl, h1, h2⟩; have H3 := Aside0.mk h1; have H4 := Aside0.mk h2; clear h1 h2))
  (try simp only [Exit.inBlock, Exit.then])
  refine ⟨rfl, _, res0 rfl _ _ _, ?_⟩
  exact ⟨rfl, H3.out.mono (fun k hk => hk.elim id (fun h => .inr (Nat.le_trans H2.out.1.size h))), H2.out.then_ H4.out (fun k hk => hk)⟩
set_option maxHeartbeats 4000000 in
theorem Writer_Bytes (w : World) (g : Nat) (S : Nat → Prop) (l : List Int) (h : WrAt uo w g S l) (hm : l.length ≤ 140737488355328) :
    Calls Try.prog 23 #[.pointer (some ⟨g, 1, none⟩)] w fun e w' => ∃ v, e = .returned v ∧ U8.R 5 w' w.heap.size (fun _ => True) v l ∧ Below w.heap.size w w' := by
  obtain ⟨hg, v, hb, hr⟩ := h
  obtain ⟨A0, c0, rfl⟩ := Kd.R_slice hr
  obtain ⟨hc, hf⟩ := blk_one hb
  have HX := Aside0.mk (Kd.reads_of_C (d := (0 : Int)) (Kd.R_reads' hr).2.2)
  have HM := Aside0.mk hm
  clear hr hb hm hg
  go_enter Try.func23, Try.ntmps23
  go_wp2_with (first | ((with_reducible refine gate_builtin (b := .append) (xs := #[.const (.slice none 0 0), .tmp 9]) rfl ?_); at_builtin; go_loud (refine print_append_row_of (Value.int .u8) (0 : Int) (w0 := w) w.heap.size rfl (.const (.slice none 0 0)) (.tmp 9) 22 5 (.int .u8 0) 1 rfl Try.underlying22 info5 rfl (by decide) (fun _ => rfl) (.slice none 0 0) [] l A0 l.length c0 rfl rfl ?aO ?aX ?aB ?aH ?aL ?_); (case aO => exact World.ownsRow_nil _ _ _ _); (case aX => exact HX.out); (case aB => exact Below.refl _ _); (case aH => exact Nat.le_refl _); (case aL => have := HM.out; simp only [List.length_nil]; omega); intro v1 w1 ho hb hg hat; have HO1 := Aside0.mk ho; have HBB := Aside0.mk hb; clear hat ho hb hg))
  go_ret
  exact ⟨_, rfl, Kd.R_of_own (enc := Value.int .u8) HO1.out (fun _ _ => trivial), HBB.out⟩
set_option maxHeartbeats 4000000 in
theorem Writer_Real (w : World) (g : Nat) (S : Nat → Prop) (l : List Int) (b : Nat) (hb : b < 4294967296) (h : WrAt uo w g S l) (hm : l.length + 4 ≤ 140737488355328) :
    Calls Try.prog 34 #[.pointer (some ⟨g, 1, none⟩), .float .f32 b] w fun e w' => e = .returned (.tuple #[]) ∧ WrAt uo w' g (fun k => S k ∨ w.heap.size ≤ k) (l ++ quad (keyB b)) ∧ Fr w w' S := by
  have H := Aside0.mk h
  have HM := Aside0.mk hm
  have HB := Aside0.mk hb
  clear h hm hb
  go_enter Try.func34, Try.ntmps34
  go_wp2_with (first | (go_at_call 59; go_loud (refine (key_calls b _ HB.out).mono ?_); rintro e w1 ⟨rfl, rfl⟩) | (go_at_call 56; go_loud (refine (put_new w1 g S l (quad (keyB b)) H.out (by have := HM.out; simp only [quad, List.length_cons, List.length_nil]; omega)).mono ?_); rintro e w2 ⟨rfl, h1, h2⟩; have H1 := Aside0.mk h1; have H2 := Aside0.mk h2; clear h1 h2))
  (try simp only [Exit.inBlock, Exit.then])
  refine ⟨rfl, _, res0 rfl _ _ _, ?_⟩
  exact ⟨rfl, H1.out, H2.out⟩
def WritePost (uo : Value) (w : World) (g : Nat) (S : Nat → Prop) (l : List Int) (e : Ending) (w' : World) : Prop := e = .returned (.tuple #[]) ∧ WrAt uo w' g (fun k => S k ∨ w.heap.size ≤ k) l ∧ Fr w w' S
set_option maxHeartbeats 4000000 in
theorem write_0 (w : World) (g : Nat) (S : Nat → Prop) (l : List Int) (d : PutD) (A : Option Addr) (c : Nat) (h : WrAt uo w g S l) (hd : PutOk w.heap.size d) (hl : l.length + 16 + d.t.size + d.raw.length ≤ 140737488351232) (hA : U8.C w A d.raw.length d.raw) (hp : latchkeykit_Pick.f d.kind 6 = some 0) :
    Calls Try.prog 18 #[.pointer (some ⟨g, 1, none⟩), d.val, .slice A d.raw.length c] w (WritePost uo w g S (l ++ enc d 0)) := by
  have H := Aside0.mk h
  have HL := Aside0.mk hl
  have HA := Aside0.mk hA
  have HP := Aside0.mk hp
  obtain ⟨on, kind, u, i, r, t, Ar, cr, raw⟩ := d
  have hu0 := hd.hu.1
  have hu1 := hd.hu.2
  have HU := Aside0.mk hd.hu
  have HI := Aside0.mk hd.hi
  have HR := Aside0.mk hd.hr
  have HT := Aside0.mk hd.ht
  have hm1 : u % 256 % 256 = u % 256 := by omega
  simp only [] at hu0 hu1
  clear h hl hA hp hd
  go_enter Try.func18, Try.ntmps18
  go_wp2_with (first | (go_at_call 15; go_loud (refine (latchkeykit_Pick.calls kind 6 0 _ HP.out).mono ?_); rintro e4 w4 ⟨rfl, ⟨m0, rfl⟩⟩) | (go_at_call 47; go_loud (refine (Writer_Byte _ g S l (u % 256) (H.out.below (wx_below _ _ _)) (by have := HL.out; omega)).mono ?_); rintro e5 w5 ⟨rfl, h1, h2⟩; have H1 := Aside0.mk (h1.mono (T := fun k => S k ∨ w.heap.size ≤ k) (fun k hk => hk.elim .inl (fun h => .inr (Nat.le_trans (size_bx _ _ _) h)))); have H2 := Aside0.mk ((Fr.of_below (wx_below _ _ _) S).then_ h2 (fun k hk => .inl hk)); clear h1 h2))
  (try simp only [Exit.inBlock, Exit.then])
  refine ⟨rfl, _, res0 rfl _ _ _, ?_⟩
  exact ⟨rfl, H1.out, H2.out⟩
set_option maxHeartbeats 4000000 in
theorem write_1 (w : World) (g : Nat) (S : Nat → Prop) (l : List Int) (d : PutD) (A : Option Addr) (c : Nat) (h : WrAt uo w g S l) (hd : PutOk w.heap.size d) (hl : l.length + 16 + d.t.size + d.raw.length ≤ 140737488351232) (hA : U8.C w A d.raw.length d.raw) (hp : latchkeykit_Pick.f d.kind 6 = some 1) :
    Calls Try.prog 18 #[.pointer (some ⟨g, 1, none⟩), d.val, .slice A d.raw.length c] w (WritePost uo w g S (l ++ enc d 1)) := by
  have H := Aside0.mk h
  have HL := Aside0.mk hl
  have HA := Aside0.mk hA
  have HP := Aside0.mk hp
  obtain ⟨on, kind, u, i, r, t, Ar, cr, raw⟩ := d
  have hu0 := hd.hu.1
  have hu1 := hd.hu.2
  have HU := Aside0.mk hd.hu
  have HI := Aside0.mk hd.hi
  have HR := Aside0.mk hd.hr
  have HT := Aside0.mk hd.ht
  skip
  simp only [] at hu0 hu1
  clear h hl hA hp hd
  go_enter Try.func18, Try.ntmps18
  go_wp2_with (first | (go_at_call 15; go_loud (refine (latchkeykit_Pick.calls kind 6 1 _ HP.out).mono ?_); rintro e4 w4 ⟨rfl, ⟨m0, rfl⟩⟩) | (go_at_call 30; go_loud (refine (Writer_Uint 10 _ g S l u _ (H.out.below (wx_below _ _ _)) (uint_dg 10 u l HU.out.1 (pow10 u HU.out.2) (by omega) (by have := HL.out; omega))).mono ?_); rintro e5 w5 ⟨rfl, h1, h2⟩; have H1 := Aside0.mk (h1.mono (T := fun k => S k ∨ w.heap.size ≤ k) (fun k hk => hk.elim .inl (fun h => .inr (Nat.le_trans (size_bx _ _ _) h)))); have H2 := Aside0.mk ((Fr.of_below (wx_below _ _ _) S).then_ h2 (fun k hk => .inl hk)); clear h1 h2))
  (try simp only [Exit.inBlock, Exit.then])
  refine ⟨rfl, _, res0 rfl _ _ _, ?_⟩
  exact ⟨rfl, H1.out, H2.out⟩
set_option maxHeartbeats 4000000 in
theorem write_2 (w : World) (g : Nat) (S : Nat → Prop) (l : List Int) (d : PutD) (A : Option Addr) (c : Nat) (h : WrAt uo w g S l) (hd : PutOk w.heap.size d) (hl : l.length + 16 + d.t.size + d.raw.length ≤ 140737488351232) (hA : U8.C w A d.raw.length d.raw) (hp : latchkeykit_Pick.f d.kind 6 = some 2) :
    Calls Try.prog 18 #[.pointer (some ⟨g, 1, none⟩), d.val, .slice A d.raw.length c] w (WritePost uo w g S (l ++ enc d 2)) := by
  have H := Aside0.mk h
  have HL := Aside0.mk hl
  have HA := Aside0.mk hA
  have HP := Aside0.mk hp
  obtain ⟨on, kind, u, i, r, t, Ar, cr, raw⟩ := d
  have hu0 := hd.hu.1
  have hu1 := hd.hu.2
  have HU := Aside0.mk hd.hu
  have HI := Aside0.mk hd.hi
  have HR := Aside0.mk hd.hr
  have HT := Aside0.mk hd.ht
  skip
  simp only [] at hu0 hu1
  clear h hl hA hp hd
  go_enter Try.func18, Try.ntmps18
  go_wp2_with (first | (go_at_call 15; go_loud (refine (latchkeykit_Pick.calls kind 6 2 _ HP.out).mono ?_); rintro e4 w4 ⟨rfl, ⟨m0, rfl⟩⟩) | (go_at_call 32; go_loud (refine (Writer_Int 10 _ g S l i _ (H.out.below (wx_below _ _ _)) (uint_dg 10 (turned i) l (PureForms.back_turned i HI.out.1 HI.out.2).2.1 (pow10 _ (PureForms.back_turned i HI.out.1 HI.out.2).2.2) (by omega) (by have := HL.out; omega))).mono ?_); rintro e5 w5 ⟨rfl, h1, h2⟩; have H1 := Aside0.mk (h1.mono (T := fun k => S k ∨ w.heap.size ≤ k) (fun k hk => hk.elim .inl (fun h => .inr (Nat.le_trans (size_bx _ _ _) h)))); have H2 := Aside0.mk ((Fr.of_below (wx_below _ _ _) S).then_ h2 (fun k hk => .inl hk)); clear h1 h2))
  (try simp only [Exit.inBlock, Exit.then])
  refine ⟨rfl, _, res0 rfl _ _ _, ?_⟩
  exact ⟨rfl, H1.out, H2.out⟩
set_option maxHeartbeats 4000000 in
theorem write_3 (w : World) (g : Nat) (S : Nat → Prop) (l : List Int) (d : PutD) (A : Option Addr) (c : Nat) (h : WrAt uo w g S l) (hd : PutOk w.heap.size d) (hl : l.length + 16 + d.t.size + d.raw.length ≤ 140737488351232) (hA : U8.C w A d.raw.length d.raw) (hp : latchkeykit_Pick.f d.kind 6 = some 3) :
    Calls Try.prog 18 #[.pointer (some ⟨g, 1, none⟩), d.val, .slice A d.raw.length c] w (WritePost uo w g S (l ++ enc d 3)) := by
  have H := Aside0.mk h
  have HL := Aside0.mk hl
  have HA := Aside0.mk hA
  have HP := Aside0.mk hp
  obtain ⟨on, kind, u, i, r, t, Ar, cr, raw⟩ := d
  have hu0 := hd.hu.1
  have hu1 := hd.hu.2
  have HU := Aside0.mk hd.hu
  have HI := Aside0.mk hd.hi
  have HR := Aside0.mk hd.hr
  have HT := Aside0.mk hd.ht
  skip
  simp only [] at hu0 hu1
  clear h hl hA hp hd
  go_enter Try.func18, Try.ntmps18
  go_wp2_with (first | (go_at_call 15; go_loud (refine (latchkeykit_Pick.calls kind 6 3 _ HP.out).mono ?_); rintro e4 w4 ⟨rfl, ⟨m0, rfl⟩⟩) | (go_at_call 34; go_loud (refine (Writer_Real _ g S l r HR.out (H.out.below (wx_below _ _ _)) (by have := HL.out; omega)).mono ?_); rintro e5 w5 ⟨rfl, h1, h2⟩; have H1 := Aside0.mk (h1.mono (T := fun k => S k ∨ w.heap.size ≤ k) (fun k hk => hk.elim .inl (fun h => .inr (Nat.le_trans (size_bx _ _ _) h)))); have H2 := Aside0.mk ((Fr.of_below (wx_below _ _ _) S).then_ h2 (fun k hk => .inl hk)); clear h1 h2))
  (try simp only [Exit.inBlock, Exit.then])
  refine ⟨rfl, _, res0 rfl _ _ _, ?_⟩
  exact ⟨rfl, H1.out, H2.out⟩
set_option maxHeartbeats 4000000 in
theorem write_4 (w : World) (g : Nat) (S : Nat → Prop) (l : List Int) (d : PutD) (A : Option Addr) (c : Nat) (h : WrAt uo w g S l) (hd : PutOk w.heap.size d) (hl : l.length + 16 + d.t.size + d.raw.length ≤ 140737488351232) (hA : U8.C w A d.raw.length d.raw) (hp : latchkeykit_Pick.f d.kind 6 = some 4) :
    Calls Try.prog 18 #[.pointer (some ⟨g, 1, none⟩), d.val, .slice A d.raw.length c] w (WritePost uo w g S (l ++ enc d 4)) := by
  have H := Aside0.mk h
  have HL := Aside0.mk hl
  have HA := Aside0.mk hA
  have HP := Aside0.mk hp
  obtain ⟨on, kind, u, i, r, t, Ar, cr, raw⟩ := d
  have hu0 := hd.hu.1
  have hu1 := hd.hu.2
  have HU := Aside0.mk hd.hu
  have HI := Aside0.mk hd.hi
  have HR := Aside0.mk hd.hr
  have HT := Aside0.mk hd.ht
  skip
  simp only [] at hu0 hu1
  clear h hl hA hp hd
  go_enter Try.func18, Try.ntmps18
  go_wp2_with (first | (go_at_call 15; go_loud (refine (latchkeykit_Pick.calls kind 6 4 _ HP.out).mono ?_); rintro e4 w4 ⟨rfl, ⟨m0, rfl⟩⟩) | (go_at_call 48; go_loud (refine (Writer_Text 10 _ g S l t _ (H.out.below (wx_below _ _ _)) (by have := HT.out; omega) (uint_dg 10 (t.size : Int) l (by omega) (pow10 _ (by have := HT.out; omega)) (by omega) (by have := HL.out; omega)) (by have := HL.out; have := dg_len 10 (t.size : Int); simp only [List.length_append]; omega)).mono ?_); rintro e5 w5 ⟨rfl, h1, h2⟩; have H1 := Aside0.mk (h1.mono (T := fun k => S k ∨ w.heap.size ≤ k) (fun k hk => hk.elim .inl (fun h => .inr (Nat.le_trans (size_bx _ _ _) h)))); have H2 := Aside0.mk ((Fr.of_below (wx_below _ _ _) S).then_ h2 (fun k hk => .inl hk)); clear h1 h2))
  (try simp only [Exit.inBlock, Exit.then])
  refine ⟨rfl, _, res0 rfl _ _ _, ?_⟩
  exact ⟨rfl, by have := H1.out; rw [List.append_assoc] at this; exact this, H2.out⟩
set_option maxHeartbeats 4000000 in
theorem write_5 (w : World) (g : Nat) (S : Nat → Prop) (l : List Int) (d : PutD) (A : Option Addr) (c : Nat) (h : WrAt uo w g S l) (hd : PutOk w.heap.size d) (hl : l.length + 16 + d.t.size + d.raw.length ≤ 140737488351232) (hA : U8.C w A d.raw.length d.raw) (hp : latchkeykit_Pick.f d.kind 6 = some 5) :
    Calls Try.prog 18 #[.pointer (some ⟨g, 1, none⟩), d.val, .slice A d.raw.length c] w (WritePost uo w g S (l ++ enc d 5)) := by
  have H := Aside0.mk h
  have HL := Aside0.mk hl
  have HA := Aside0.mk hA
  have HP := Aside0.mk hp
  obtain ⟨on, kind, u, i, r, t, Ar, cr, raw⟩ := d
  have hu0 := hd.hu.1
  have hu1 := hd.hu.2
  have HU := Aside0.mk hd.hu
  have HI := Aside0.mk hd.hi
  have HR := Aside0.mk hd.hr
  have HT := Aside0.mk hd.ht
  skip
  simp only [] at hu0 hu1
  clear h hl hA hp hd
  go_enter Try.func18, Try.ntmps18
  go_wp2_with (first | (go_at_call 15; go_loud (refine (latchkeykit_Pick.calls kind 6 5 _ HP.out).mono ?_); rintro e4 w4 ⟨rfl, ⟨m0, rfl⟩⟩) | (go_at_call 45; go_loud (refine (Writer_Raw _ g S l raw A raw.length c (H.out.below (wx_below _ _ _)) (Kd.C_below HA.out (wx_below _ _ _)) (by have := HL.out; omega)).mono ?_); rintro e5 w5 ⟨rfl, h1, h2⟩; have H1 := Aside0.mk (h1.mono (T := fun k => S k ∨ w.heap.size ≤ k) (fun k hk => hk.elim .inl (fun h => .inr (Nat.le_trans (size_bx _ _ _) h)))); have H2 := Aside0.mk ((Fr.of_below (wx_below _ _ _) S).then_ h2 (fun k hk => .inl hk)); clear h1 h2))
  (try simp only [Exit.inBlock, Exit.then])
  refine ⟨rfl, _, res0 rfl _ _ _, ?_⟩
  exact ⟨rfl, H1.out, H2.out⟩
theorem write_any (w : World) (g : Nat) (S : Nat → Prop) (l : List Int) (d : PutD) (A : Option Addr) (c : Nat) (j : Nat) (hj : j < 6) (h : WrAt uo w g S l) (hd : PutOk w.heap.size d) (hl : l.length + 16 + d.t.size + d.raw.length ≤ 140737488351232) (hA : U8.C w A d.raw.length d.raw) (hp : latchkeykit_Pick.f d.kind 6 = some (j : Int)) :
    Calls Try.prog 18 #[.pointer (some ⟨g, 1, none⟩), d.val, .slice A d.raw.length c] w (WritePost uo w g S (l ++ enc d j)) := by
  rcases (by omega : j = 0 ∨ j = 1 ∨ j = 2 ∨ j = 3 ∨ j = 4 ∨ j = 5) with rfl | rfl | rfl | rfl | rfl | rfl
  · exact write_0 w g S l d A c h hd hl hA hp
  · exact write_1 w g S l d A c h hd hl hA hp
  · exact write_2 w g S l d A c h hd hl hA hp
  · exact write_3 w g S l d A c h hd hl hA hp
  · exact write_4 w g S l d A c h hd hl hA hp
  · exact write_5 w g S l d A c h hd hl hA hp
end Go.Proofs.Ytkjkmaopifmghaa.Oct.WB
