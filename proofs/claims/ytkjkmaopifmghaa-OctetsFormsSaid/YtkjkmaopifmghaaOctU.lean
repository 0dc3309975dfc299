/- Reader.Uint, Int, Text, End on what is there (plain walks). -/
import Derived.Test.YtkjkmaopifmghaaOctR
import Derived.Test.YtkjkmaopifmghaaOctShortx1
namespace Go.Proofs.Ytkjkmaopifmghaa.Oct
open Go.RowKit Go.Proofs.YtkjkmaopifmghaaW.PrintWords Go.Proofs.YtkjkmaopifmghaaW.PrintLast Go.Proofs.YtkjkmaopifmghaaW.PrintMore Go.Proofs.Ytkjkmaopifmghaa.OctShort
set_option linter.unusedVariables false
set_option linter.unusedSimpArgs false
variable {S : Nat → Prop}
theorem Fr.drewN (w : World) (m : Nat) (S : Nat → Prop) : Fr w (w.drewN m) S := Fr.of_below (w := w) (w' := w.drewN m) ⟨rfl, rfl, rfl, Nat.le_refl _, fun _ _ => rfl⟩ S
set_option maxHeartbeats 400000 in
set_option maxRecDepth 100000 in
theorem Reader_Uint_ok (k : Nat) (w : World) (g : Nat) (l : List Int) (x n e : Int) (h : RdAt w g S l 0) (hs : octets_short.f k l = some (x, n, e)) (h0 : 0 ≤ n) (hn : n ≤ (l.length : Int)) :
    Calls Try.prog 31 #[.pointer (some ⟨g, 0, none⟩)] w fun r w' => r = .returned (.int .u64 x) ∧ RdAt w' g S (l.drop n.toNat) e ∧ Fr w w' (fun k => k = g) := by
  obtain ⟨A, c, h⟩ := h
  have H := Aside0.mk h
  obtain ⟨h1, h2, h3, h4⟩ := h
  obtain ⟨⟨hc0, hf0⟩, hc1, hf1⟩ := blk_two h1
  obtain ⟨B, d, hcut, hd⟩ := (H.out.set_err e).cut n h0 hn
  have HB := Aside0.mk hd
  have HS := Aside0.mk hs
  have h3' := Aside0.mk h3
  have h2' := Aside0.mk h2
  have HN := Aside0.mk (And.intro h0 hn)
  generalize hm : l.length = m at *
  have HM := Aside0.mk hm
  clear h1 h3 h4 hd hs hm h2 h0 hn
  go_enter Try.func31, Try.ntmps31
  go_wp2_with (first | (go_at_call 57; go_loud (refine (Reader_ask_ok w g A c l 0 H.out (by omega) (by omega)).mono ?_); rintro e w1 ⟨rfl, rfl⟩) | (go_at_call 58; (have hsc := octets_short.calls k A c l x n e w1 (by rw [HM.out]; exact h3'.out) (by rw [HM.out]; exact h2'.out) HS.out); rw [HM.out] at hsc; go_loud (refine hsc.mono ?_); (rintro e1 w2 ⟨rfl, ⟨m2, rfl⟩⟩); clear hsc))
  go_ret
  have hf := (RdV.set_err (w := w1.drewN m2) H.out e).set_row HB.out.1 HB.out.2.1 HB.out.2.2
  rw [List.length_drop] at hf
  exact ⟨rfl, ⟨B, d, hf⟩, ((Fr.drewN w1 m2 _).then_ (Fr.set 1 _) (fun _ => .inl)).then_ (Fr.set 0 _) (fun _ => .inl)⟩
def back (u : Int) : Int := Go.bits .xor .i64 (wrap64 (u / 2)) (wrap64 (-wrap64 (Go.bits .and .u64 u 1)))
set_option maxHeartbeats 400000 in
set_option maxRecDepth 100000 in
theorem Reader_Int_ok (k : Nat) (w : World) (g : Nat) (l : List Int) (x n e : Int) (h : RdAt w g S l 0) (hs : octets_short.f k l = some (x, n, e)) (h0 : 0 ≤ n) (hn : n ≤ (l.length : Int)) :
    Calls Try.prog 33 #[.pointer (some ⟨g, 0, none⟩)] w fun r w' => r = .returned (.int .i64 (back x)) ∧ RdAt w' g S (l.drop n.toNat) e ∧ Fr w w' (fun k => k = g) := by
  have H := Aside0.mk h
  have HS := Aside0.mk hs
  have HN := Aside0.mk (And.intro h0 hn)
  clear h hs h0 hn
  go_enter Try.func33, Try.ntmps33
  go_wp2_with (go_at_call 31; go_loud (refine (Reader_Uint_ok k w g l x n e H.out HS.out HN.out.1 HN.out.2).mono ?_); (rintro e1 w2 ⟨rfl, h1, h2⟩); have H1 := Aside0.mk h1; have H2 := Aside0.mk h2; clear h1 h2)
  go_ret
  exact ⟨rfl, H1.out, H2.out⟩
set_option maxHeartbeats 400000 in
set_option maxRecDepth 100000 in
theorem Reader_End_ok (w : World) (g : Nat) (h : RdAt w g S [] 0) :
    Calls Try.prog 39 #[.pointer (some ⟨g, 0, none⟩)] w fun r w' => r = .returned (.int .i64 0) ∧ w' = w := by
  obtain ⟨A, c, h⟩ := h
  obtain ⟨h1, h2, h3, h4⟩ := h
  obtain ⟨⟨hc0, hf0⟩, hc1, hf1⟩ := blk_two h1
  clear h1 h2 h3 h4
  go_enter Try.func39, Try.ntmps39
  go_wp2
  all_goals go_ret
  all_goals exact ⟨rfl, rfl⟩
set_option maxHeartbeats 400000 in
set_option maxRecDepth 100000 in
theorem Reader_Read (w : World) (A : Option Addr) (l : List Int) (c : Nat) (h : U8.C w A l.length l) (hl : l.length ≤ 140737488355328) :
    Calls Try.prog 29 #[.slice A l.length c] w fun r w' => ∃ g, r = .returned (.pointer (some ⟨g, 0, none⟩)) ∧ w.heap.size ≤ g ∧ RdAt w' g (fun k => w.heap.size ≤ k ∧ k < w'.heap.size) l 0 ∧ Below w.heap.size w w' := by
  have HX := Aside0.mk (Kd.reads_of_C (d := (0 : Int)) h)
  have HM := Aside0.mk hl
  clear h hl
  go_enter Try.func29, Try.ntmps29
  go_wp2_with (first | ((with_reducible refine gate_builtin (b := .append) (xs := #[.const (.slice none 0 0), .tmp 3]) rfl ?_); at_builtin; go_loud (refine print_append_row_of (Value.int .u8) (0 : Int) (w0 := w) w.heap.size rfl (.const (.slice none 0 0)) (.tmp 3) 22 5 (.int .u8 0) 1 rfl Try.underlying22 info5 rfl (by decide) (fun _ => rfl) (.slice none 0 0) [] l A l.length c rfl rfl ?aO ?aX ?aB ?aH ?aL ?_); (case aO => exact World.ownsRow_nil _ _ _ _); (case aX => exact HX.out); (case aB => exact Below.refl _ _); (case aH => exact Nat.le_refl _); (case aL => have := HM.out; simp only [List.length_nil]; omega); intro v1 w1 ho hb hg hat; (have hr1 := Kd.R_of_own (enc := Value.int .u8) (h1 := fun _ => rfl) (ok := fun _ => True) ho (fun _ _ => trivial)); (obtain ⟨A1, c1, rfl⟩ := Kd.R_slice hr1); have HO1 := Aside0.mk hr1; have HBB := Aside0.mk hb; clear hat ho hb hg hr1))
  go_ret
  have hb2 : Below w1.heap.size w1 (w1.alloc (.cells #[.slice A1 ([] ++ l).length c1, .int .i64 0] 94)) := below_alloc (Below.refl _ _) _
  have hr2 := Kd.R_reads' HO1.out
  have hlt := Kd.R_lt HO1.out
  refine ⟨w1.heap.size, rfl, HBB.out.size, ⟨A1, c1, heap_alloc_new w1 _, hr2.2.1, Kd.C_below hr2.2.2 hb2, ⟨HBB.out.size, by show w1.heap.size < (Array.push _ _).size; rw [Array.size_push]; omega⟩, ?_⟩, HBB.out.trans ⟨hb2.os, hb2.tape, hb2.output, hb2.size, fun k hk => hb2.block k (Nat.lt_of_lt_of_le hk HBB.out.size)⟩⟩
  intro ad he
  subst he
  have := hlt ad.block rfl
  exact ⟨by omega, own_base (Kd.own_of_R HO1.out) ad.block rfl, by show ad.block < (Array.push _ _).size; rw [Array.size_push]; omega⟩
end Go.Proofs.Ytkjkmaopifmghaa.Oct
