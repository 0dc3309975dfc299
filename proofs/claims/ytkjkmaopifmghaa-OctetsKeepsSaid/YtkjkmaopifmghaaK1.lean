/- Writers and Readers of package octets in memory, and the contracts of their methods (plain walks). -/
import Derived.Test.YtkjkmaopifmghaaProg
import Derived.Test.YtkjkmaopifmghaaWKept
import Derived.Test.YtkjkmaopifmghaaWMore
import Derived.Test.YtkjkmaopifmghaaWLast
import Derived.WalkKit
import Derived.WalkLawsBesides
import Derived.WalkSpells
import Derived.Lib.Hide
import Derived.Outline
import Derived.Lib.ConvBytes
namespace Go.Proofs.Ytkjkmaopifmghaa.Oct
open Go.RowKit Go.Proofs.YtkjkmaopifmghaaW.PrintWords Go.Proofs.YtkjkmaopifmghaaW.PrintLast Go.Proofs.YtkjkmaopifmghaaW.PrintMore
set_option linter.unusedVariables false
set_option linter.unusedSimpArgs false
abbrev U8 : Kd Int := Kd.int .u8
theorem info5 : (Try.prog.info? 5).map (fun i => (i.zero, i.size, i.bytes)) = some (some (.int .u8 0), 1, 1) := by kernel_rfl
/-- A row of bytes of one's own, in the blocks of S. -/
def RowB (w : World) (S : Nat → Prop) (v : Value) (l : List Int) : Prop := U8.R 5 w 0 S v l
/-- A Writer at block g; its bytes lie in S, too. -/
def WrAt (w : World) (g : Nat) (S : Nat → Prop) (l : List Int) : Prop := S g ∧ ∃ v, w.heap[g]? = some (.cells #[v] 36 (0, 0)) ∧ RowB w (fun k => S k ∧ k ≠ g) v l
theorem blk_one {w : World} {g : Nat} {v : Value} {T : Nat} (h : w.heap[g]? = some (.cells #[v] T (0, 0))) : w.cell? ⟨g, 0, none⟩ = some v ∧ w.frozen? ⟨g, 0, none⟩ = false := by
  constructor
  · simp [World.cell?, h]
  · simp [World.frozen?, h]
theorem set_one {w : World} {g : Nat} {v u : Value} {T : Nat} (h : w.heap[g]? = some (.cells #[v] T (0, 0))) : (w.setCell ⟨g, 0, none⟩ u).heap[g]? = some (.cells #[u] T (0, 0)) := by
  have hlt := blk_lt h
  simp only [World.setCell, h]
  rw [Array.getElem?_modify]
  simp [h]
theorem res0 {fn : Func} (h : fn.results = #[]) (tmps : Array Value) (P : Program) (w : World) : (results fn tmps).run P w = .ok (.tuple #[]) w := by simp [results, h]
theorem below_setCell0 {w w1 : World} (h : Below 0 w w1) {p : Addr} {u : Value} : Below 0 w (w1.setCell p u) := ⟨h.os, h.tape, h.output, by simpa [World.setCell] using h.size, fun k hk => absurd hk (by omega)⟩
abbrev Fr (w w' : World) (S : Nat → Prop) : Prop := Below 0 w w' ∧ Kept w w' S
set_option maxHeartbeats 4000000 in
set_option maxRecDepth 100000 in
theorem put_any (w : World) (g : Nat) (S : Nat → Prop) (l ys : List Int) (A : Option Addr) (m c : Nat) (h : WrAt w g S l) (hx : U8.C w A m ys) (hm : l.length + m ≤ 140737488355328) :
    Calls Try.prog 56 #[.pointer (some ⟨g, 0, none⟩), .slice A m c] w fun e w' => e = .returned (.tuple #[]) ∧ WrAt w' g (fun k => S k ∨ w.heap.size ≤ k) (l ++ ys) ∧ Fr w w' S := by
  obtain ⟨hg, v, hb, hr⟩ := h
  obtain ⟨A0, c0, rfl⟩ := Kd.R_slice hr
  obtain ⟨hc, hf⟩ := blk_one hb
  obtain ⟨inner, ho, hin⟩ := hr.2
  have hne := hr.1
  have HR := Lib.hid hr
  have HB := Lib.hid hb
  have HX := Lib.hid (Kd.reads_of_C (d := (0 : Int)) hx)
  have HM := Lib.hid hm
  have HG := Lib.hid hg
  clear hr hb hx hm hg ho hin hne inner
  go_enter Try.func56, Try.ntmps56
  go_wp2_with (first | ((with_reducible refine gate_builtin (b := .append) (xs := #[.tmp 8, .tmp 9]) rfl ?_); at_builtin; go_loud (refine print_append_row_of (Value.int .u8) (0 : Int) (w0 := w) 0 rfl (.tmp 8) (.tmp 9) 22 5 (.int .u8 0) 1 rfl Try.underlying22 info5 rfl (by decide) (fun _ => rfl) (.slice A0 l.length c0) l ys A m c rfl rfl ?aO ?aX ?aB ?aH ?aL ?_); (case aO => exact Kd.own_of_R HR.out); (case aX => exact HX.out); (case aB => exact Below.refl _ _); (case aH => exact Nat.zero_le _); (case aL => have := HM.out; omega); intro v1 w1 ho hb hg hat; (obtain ⟨A1, c1, rfl⟩ := Kd.R_slice (Kd.R_of_own (h1 := fun _ => rfl) (ok := fun _ => True) ho (fun _ _ => trivial))); (have hne : some g ≠ (Value.slice A0 l.length c0).ownBlock := fun e => (HR.out.1 g e.symm).2 rfl); (have hc1 := World.grownBy.cell hg hc hne); (have hf1 := (World.frozen?_of_block (a := ⟨g, 0, none⟩) (hg.block g (blk_lt HB.out) hne)).trans hf); (have HAT := Lib.hid hat); (have HO1 := Lib.hid ho); (have HBB := Lib.hid hb); (have HGG := Lib.hid hg); clear hat ho hb hg))
  have hb1 := (HGG.out.block g (blk_lt HB.out) hne).trans HB.out
  have hlt := blk_lt HB.out
  (try simp only [Exit.inBlock, Exit.then])
  refine ⟨rfl, _, res0 rfl _ _ _, ?_⟩
  have ho := HO1.out
  rw [List.length_append] at ho
  have hR : RowB w1 (fun k => (S k ∨ w.heap.size ≤ k) ∧ k ≠ g) (.slice A1 (l.length + ys.length) c1) (l ++ ys) := by
    refine Kd.R_of_own (enc := Value.int .u8) (by rw [List.length_append]; exact ho) ?_
    intro k hk
    rcases HAT.out with h2 | ⟨b, h2, h3⟩
    · rw [List.length_append] at h2
      rw [h2] at hk
      exact ⟨.inl (HR.out.1 k hk).1, (HR.out.1 k hk).2⟩
    · rw [List.length_append] at h2
      rw [h2] at hk
      obtain rfl := Option.some.inj hk
      exact ⟨.inr h3, by omega⟩
  refine ⟨rfl, ⟨.inl HG.out, _, set_one hb1, Kd.R_far (p := (⟨g, 0, none⟩ : Addr)) hR (fun k hk => hk.2) _⟩, below_setCell0 HBB.out, Kept.setCell (Kept.of_grown HGG.out (Kept.refl w S) (fun k hk => .inl (HR.out.1 k hk).1)) (p := (⟨g, 0, none⟩ : Addr)) (.inl HG.out) _⟩
end Go.Proofs.Ytkjkmaopifmghaa.Oct

namespace Go.Proofs.Ytkjkmaopifmghaa.Oct
open Go.RowKit Go.Proofs.YtkjkmaopifmghaaW.PrintWords Go.Proofs.YtkjkmaopifmghaaW.PrintLast Go.Proofs.YtkjkmaopifmghaaW.PrintMore
set_option linter.unusedVariables false
set_option linter.unusedSimpArgs false
theorem next_big {old : Nat} (h : old < 225179981368000) : Builtin.nextslicecap (old + 1) old * 1 ≤ 281474976710656 := by
  unfold Builtin.nextslicecap
  split
  · omega
  · split
    · omega
    · rw [growBy_four]
      repeat' split
      all_goals omega
theorem lit_cell (W : World) (p : Value) (T : Nat) (j : Nat) (u : Value) (hu : ([p] : List Value)[j]? = some u) : (W.alloc (.cells #[p] T)).cell? ((⟨W.heap.size, 0, none⟩ : Addr).add j) = some u := by
  have hj : j = 0 := by
    rcases j with _ | j
    · rfl
    · simp at hu
  subst hj
  have hn := heap_alloc_new W (.cells #[p] T)
  show (W.alloc (.cells #[p] T)).cell? ⟨W.heap.size, 0, none⟩ = some u
  unfold World.cell?
  dsimp only
  rw [hn]
  simpa using hu
section
variable {P : Program} {ops : Array Oper} {rest : List Oper} {o : Oper} {a : Act} {Q : Exit → Act → World → Prop}
theorem R_append_big (_d : Kd Int) {w0 W : World} (base : Nat) (hgd : o.guard = none) (s x : Operand) (t e : TypeId) (z : Value) (bytes : Nat)
    (ho : o.op = .call { callee := .builtin .append, args := #[s, x], argTypes := #[t, t] })
    (ht : P.underlying t = some (.slice e)) (hinfo : (P.info? e).map (fun i => (i.zero, i.size, i.bytes)) = some (some z, 1, bytes)) (hz : z.cells.size = 1) (hs0 : (0 : Nat) < 1) (hb0 : 0 < bytes)
    (v : Value) (xs : List Int) (p : Int) (cs : List Value) (ok okp : Nat → Prop) (hs : a.eval s = v) (hx : a.eval x = .slice (some ⟨W.heap.size, 0, none⟩) 1 1) (hp : cs = [.int .u8 p]) (hokp : ∀ k, okp k → ok k ∧ some k ≠ v.ownBlock) (hfresh : ∀ k, W.heap.size ≤ k → ok k)
    (HO : U8.R e W base ok v xs) (HB : Below base w0 W) (hbase : base ≤ W.heap.size) (hl : bytes = 1 ∧ xs.length < 225179981368000)
    (h : ∀ v1 w1, U8.R e w1 base ok v1 (xs ++ [p]) → Below base w0 w1 → W.grownBy w1 v.ownBlock → (v1.ownBlock = v.ownBlock ∨ ∃ b, v1.ownBlock = some b ∧ W.heap.size ≤ b) → wpList P ops Q rest (a.put o.dst v1) w1) :
    wpList P ops Q (o :: rest) a (W.alloc (.cells cs.toArray e)) := by
  obtain ⟨rfl, hl⟩ := hl
  by_cases hsm : xs.length + 1 ≤ 140737488355328
  · exact Kd.R_append U8 base hgd s x t e z 1 ho ht hinfo hz hs0 hb0 v xs p cs ok okp hs hx hp hokp hfresh HO HB hbase (by omega) h
  · subst hp
    obtain ⟨i0, hi, hzz⟩ := Option.map_eq_some_iff.1 hinfo
    simp only [Prod.mk.injEq] at hzz
    obtain ⟨hz0, hz1, hz2⟩ := hzz
    obtain ⟨h0, inner, hown, hr⟩ := HO
    have hown1 := own_alloc hown (.cells #[.int .u8 p] e)
    have hgA : W.grownBy (W.alloc (.cells #[.int .u8 p] e)) v.ownBlock := World.grownBy_alloc W _ _
    have key : ∃ v1 w1, (Builtin.append_ #[t, t] o.type #[v, .slice (some ⟨W.heap.size, 0, none⟩) 1 1]).run P (W.alloc (.cells #[.int .u8 p] e)) = .ok v1 w1 ∧ w1.ownsRow base e 1 v1 (xs.length + 1) (inner ++ [.int .u8 p]) ∧ (W.alloc (.cells #[.int .u8 p] e)).grownBy w1 v.ownBlock ∧ (v1.ownBlock = v.ownBlock ∨ ∃ b, v1.ownBlock = some b ∧ W.heap.size ≤ b) := by
      have hown2 := hown1
      rcases hown1.2 with ⟨rfl, hn⟩ | ⟨g, cap, cur, rfl, hbg, hg, hnc, hcm, hcs, htake⟩
      · omega
      · by_cases hroom : xs.length + 1 ≤ cap
        · obtain ⟨w1, hrun, ho1, hg1⟩ := run_append_fits (P := P) (W.alloc (.cells #[.int .u8 p] e)) base t o.type e i0 1 ht hi hz1 g xs.length cap inner hown2 ⟨W.heap.size, 0, none⟩ 1 1 [.int .u8 p] rfl (lit_cell W _ e) (fun u hu => by rw [List.mem_singleton.1 hu]; rfl) hroom
          exact ⟨_, w1, hrun, ho1, hg1, .inl rfl⟩
        · have holds : ∀ j u, inner[j]? = some u → (W.alloc (.cells #[.int .u8 p] e)).cell? ((⟨g, 0, none⟩ : Addr).add j) = some u := hown2.cells (g := g) rfl
          have hcap : cap = xs.length := by omega
          subst hcap
          have hrun := run_append_grow (P := P) (W.alloc (.cells #[.int .u8 p] e)) t o.type e i0 z ht hi hz0 ⟨g, 0, none⟩ xs.length xs.length inner (by rw [hz1]; exact hown2.1) holds ⟨W.heap.size, 0, none⟩ 1 1 [.int .u8 p] (by rw [hz1]; rfl) (lit_cell W _ e) (by omega) (by omega) (by rw [hz2]; exact next_big hl)
          have hge := grownCap_ge (W.alloc (.cells #[.int .u8 p] e)) (xs.length + 1) xs.length e
          have hle := grownCap_le_maxLen (W.alloc (.cells #[.int .u8 p] e)) (xs.length + 1) xs.length e (by simp only [maxLen]; omega)
          have hil : inner.length = xs.length := by have h1 : inner.length = xs.length * 1 := hown2.1; omega
          refine ⟨_, _, hrun, ⟨by simp [hil], .inr ⟨(W.alloc (.cells #[.int .u8 p] e)).heap.size, _, _, rfl, Nat.le_trans hbase hgA.size, heap_alloc_new ((W.alloc (.cells #[.int .u8 p] e)).drew) _, hge, hle, ?_, ?_⟩⟩, ⟨rfl, rfl, rfl, by simp, fun k hk hne => (World.grownBy_alloc ((W.alloc (.cells #[.int .u8 p] e)).drew) _ (some g)).block k hk hne⟩, .inr ⟨_, rfl, hgA.size⟩⟩
          · simp only [Array.size_append, List.size_toArray, size_zeroCells, hz, hil, List.length_singleton]
            omega
          · simp only [Array.toList_append, List.append_assoc]
            rw [← List.append_assoc]
            rw [List.take_left' (by simp [hil])]
    obtain ⟨v1, w1, hrun, hown3, hg3, hat⟩ := key
    refine wpList_plain hgd fun K hK => ?_
    unfold Oper.wp execOp
    simp only [ho, resolve, invoke, builtin, Sem.run_bind, Sem.run_pure, Result.andThen_ok, List.map_toArray, List.map_cons, List.map_nil, hs, hx, hrun]
    have hgW : W.grownBy w1 v.ownBlock := ⟨hg3.os.trans hgA.os, hg3.tape.trans hgA.tape, hg3.output.trans hgA.output, Nat.le_trans hgA.size hg3.size, fun k hk hne => (hg3.block k (Nat.lt_of_lt_of_le hk hgA.size) hne).trans (hgA.block k hk hne)⟩
    exact hK _ _ (h v1 w1 (Kd.R_appended (d := U8) h0 hr (okp := fun _ => False) rfl (fun _ hk => hk.elim) hfresh hown3 hgW hat) (HB.grown hgW hbase (own_base hown)) hgW hat)
end
end Go.Proofs.Ytkjkmaopifmghaa.Oct
