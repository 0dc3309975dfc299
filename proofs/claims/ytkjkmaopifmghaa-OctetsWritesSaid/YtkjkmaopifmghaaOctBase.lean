/- Writers and Readers of package octets in memory, and the contracts of their methods (plain walks). -/
import Derived.Test.YtkjkmaopifmghaaProg
import Derived.Test.YtkjkmaopifmghaaWKept
import Derived.Test.YtkjkmaopifmghaaWMore
import Derived.Test.YtkjkmaopifmghaaWLast
import Derived.WalkKit
import Derived.WalkLawsBesides
import Derived.WalkSpells
import Derived.Lib.Hide
import Derived.Outline
import Derived.Lib.ConvBytes
namespace Go.Proofs.Ytkjkmaopifmghaa.Oct
open Go.RowKit Go.Proofs.YtkjkmaopifmghaaW.PrintWords Go.Proofs.YtkjkmaopifmghaaW.PrintLast Go.Proofs.YtkjkmaopifmghaaW.PrintMore
set_option linter.unusedVariables false
set_option linter.unusedSimpArgs false
abbrev U8 : Kd Int := Kd.int .u8
theorem info5 : (Try.prog.info? 5).map (fun i => (i.zero, i.size, i.bytes)) = some (some (.int .u8 0), 1, 1) := by kernel_rfl
/-- A row of bytes of one's own, in the blocks of S. -/
def RowB (w : World) (S : Nat → Prop) (v : Value) (l : List Int) : Prop := U8.R 5 w 0 S v l
/-- A Writer at block g; its bytes lie in S, too. -/
def WrAt (w : World) (g : Nat) (S : Nat → Prop) (l : List Int) : Prop := S g ∧ ∃ v, w.heap[g]? = some (.cells #[v] 36 (0, 0)) ∧ RowB w (fun k => S k ∧ k ≠ g) v l
theorem blk_one {w : World} {g : Nat} {v : Value} {T : Nat} (h : w.heap[g]? = some (.cells #[v] T (0, 0))) : w.cell? ⟨g, 0, none⟩ = some v ∧ w.frozen? ⟨g, 0, none⟩ = false := by
  constructor
  · simp [World.cell?, h]
  · simp [World.frozen?, h]
theorem set_one {w : World} {g : Nat} {v u : Value} {T : Nat} (h : w.heap[g]? = some (.cells #[v] T (0, 0))) : (w.setCell ⟨g, 0, none⟩ u).heap[g]? = some (.cells #[u] T (0, 0)) := by
  have hlt := blk_lt h
  simp only [World.setCell, h]
  rw [Array.getElem?_modify]
  simp [h]
theorem res0 {fn : Func} (h : fn.results = #[]) (tmps : Array Value) (P : Program) (w : World) : (results fn tmps).run P w = .ok (.tuple #[]) w := by simp [results, h]
theorem below_setCell0 {w w1 : World} (h : Below 0 w w1) {p : Addr} {u : Value} : Below 0 w (w1.setCell p u) := ⟨h.os, h.tape, h.output, by simpa [World.setCell] using h.size, fun k hk => absurd hk (by omega)⟩
abbrev Fr (w w' : World) (S : Nat → Prop) : Prop := Below 0 w w' ∧ Kept w w' S
set_option maxHeartbeats 4000000 in
set_option maxRecDepth 100000 in
theorem put_any (w : World) (g : Nat) (S : Nat → Prop) (l ys : List Int) (A : Option Addr) (m c : Nat) (h : WrAt w g S l) (hx : U8.C w A m ys) (hm : l.length + m ≤ 140737488355328) :
    Calls Try.prog 56 #[.pointer (some ⟨g, 0, none⟩), .slice A m c] w fun e w' => e = .returned (.tuple #[]) ∧ WrAt w' g (fun k => S k ∨ w.heap.size ≤ k) (l ++ ys) ∧ Fr w w' S := by
  obtain ⟨hg, v, hb, hr⟩ := h
  obtain ⟨A0, c0, rfl⟩ := Kd.R_slice hr
  obtain ⟨hc, hf⟩ := blk_one hb
  obtain ⟨inner, ho, hin⟩ := hr.2
  have hne := hr.1
  have HR := Lib.hid hr
  have HB := Lib.hid hb
  have HX := Lib.hid (Kd.reads_of_C (d := (0 : Int)) hx)
  have HM := Lib.hid hm
  have HG := Lib.hid hg
  clear hr hb hx hm hg ho hin hne inner
  go_enter Try.func56, Try.ntmps56
  go_wp2_with (first | ((with_reducible refine gate_builtin (b := .append) (xs := #[.tmp 8, .tmp 9]) rfl ?_); at_builtin; go_loud (refine print_append_row_of (Value.int .u8) (0 : Int) (w0 := w) 0 rfl (.tmp 8) (.tmp 9) 22 5 (.int .u8 0) 1 rfl Try.underlying22 info5 rfl (by decide) (fun _ => rfl) (.slice A0 l.length c0) l ys A m c rfl rfl ?aO ?aX ?aB ?aH ?aL ?_); (case aO => exact Kd.own_of_R HR.out); (case aX => exact HX.out); (case aB => exact Below.refl _ _); (case aH => exact Nat.zero_le _); (case aL => have := HM.out; omega); intro v1 w1 ho hb hg hat; (obtain ⟨A1, c1, rfl⟩ := Kd.R_slice (Kd.R_of_own (h1 := fun _ => rfl) (ok := fun _ => True) ho (fun _ _ => trivial))); (have hne : some g ≠ (Value.slice A0 l.length c0).ownBlock := fun e => (HR.out.1 g e.symm).2 rfl); (have hc1 := World.grownBy.cell hg hc hne); (have hf1 := (World.frozen?_of_block (a := ⟨g, 0, none⟩) (hg.block g (blk_lt HB.out) hne)).trans hf); (have HAT := Lib.hid hat); (have HO1 := Lib.hid ho); (have HBB := Lib.hid hb); (have HGG := Lib.hid hg); clear hat ho hb hg))
  have hb1 := (HGG.out.block g (blk_lt HB.out) hne).trans HB.out
  have hlt := blk_lt HB.out
  (try simp only [Exit.inBlock, Exit.then])
  refine ⟨rfl, _, res0 rfl _ _ _, ?_⟩
  have ho := HO1.out
  rw [List.length_append] at ho
  have hR : RowB w1 (fun k => (S k ∨ w.heap.size ≤ k) ∧ k ≠ g) (.slice A1 (l.length + ys.length) c1) (l ++ ys) := by
    refine Kd.R_of_own (enc := Value.int .u8) (by rw [List.length_append]; exact ho) ?_
    intro k hk
    rcases HAT.out with h2 | ⟨b, h2, h3⟩
    · rw [List.length_append] at h2
      rw [h2] at hk
      exact ⟨.inl (HR.out.1 k hk).1, (HR.out.1 k hk).2⟩
    · rw [List.length_append] at h2
      rw [h2] at hk
      obtain rfl := Option.some.inj hk
      exact ⟨.inr h3, by omega⟩
  refine ⟨rfl, ⟨.inl HG.out, _, set_one hb1, Kd.R_far (p := (⟨g, 0, none⟩ : Addr)) hR (fun k hk => hk.2) _⟩, below_setCell0 HBB.out, Kept.setCell (Kept.of_grown HGG.out (Kept.refl w S) (fun k hk => .inl (HR.out.1 k hk).1)) (p := (⟨g, 0, none⟩ : Addr)) (.inl HG.out) _⟩
end Go.Proofs.Ytkjkmaopifmghaa.Oct
