/- A byte behind a row of bytes of one's own, up to the length at which the row still grows within 2^48 bytes. -/
import Derived.Test.YtkjkmaopifmghaaOctBase
import Derived.Test.YtkjkmaopifmghaaProg
import Derived.Below
import Derived.Deep.Draws
import Derived.Deep.AppendLies
import Derived.Maps.AppendAt
import Derived.OwnWalk
import Derived.Laws.BytesArg
import Derived.Laws.MakeOwn
import Derived.Laws.OwnMore
import Derived.Deep.OwnRows
import Derived.Tactics
import Derived.Lib.ConvBytes
import Derived.Laws.Slices
import Derived.WalkKit
import Derived.KernelRfl
import Derived.RowKit3
import Derived.Deep.LoopGhost
import Derived.Deep.QuietTactic
import Derived.BigQuiet
import Derived.WideLaws
import Derived.Deep.DeepCutAuto
import Derived.Deep.CutBlock
import Derived.Deep.RegionHeld3
import Derived.Laws.Rows
import Derived.Lib.AppendStr
import Derived.ArgAppend
import Derived.Laws.IdiomCopy
import Derived.OrdersHeld
import Derived.Laws.BitsLemmas
import Derived.RowKit
import Derived.Test.YtkjkmaopifmghaaWWords
import Derived.Test.YtkjkmaopifmghaaWLast
import Derived.Test.YtkjkmaopifmghaaWTab
import Derived.Test.YtkjkmaopifmghaaWFour
import Derived.Test.YtkjkmaopifmghaaWQPut
import Derived.Test.YtkjkmaopifmghaaWApart
import Derived.Test.YtkjkmaopifmghaaWArr
import Derived.Test.YtkjkmaopifmghaaWZeros
import Derived.Test.YtkjkmaopifmghaaWFoot
import Derived.Test.YtkjkmaopifmghaaWKept
import Derived.Test.YtkjkmaopifmghaaWShare
import Derived.Test.YtkjkmaopifmghaaWN
import Derived.Test.YtkjkmaopifmghaaWFootNe
import Derived.Test.YtkjkmaopifmghaaWAt
import Derived.Test.YtkjkmaopifmghaaWEqStruct
import Derived.Test.YtkjkmaopifmghaaWRepsOne
import Derived.Test.YtkjkmaopifmghaaWInv
import Derived.Test.YtkjkmaopifmghaaWInvWords
import Derived.Test.YtkjkmaopifmghaaWGuard
import Derived.Test.YtkjkmaopifmghaaWNEv
import Derived.Test.YtkjkmaopifmghaaWMore
namespace Go.Proofs.Ytkjkmaopifmghaa.Oct
open Go.RowKit Go.Proofs.YtkjkmaopifmghaaW.PrintWords Go.Proofs.YtkjkmaopifmghaaW.PrintLast Go.Proofs.YtkjkmaopifmghaaW.PrintMore
set_option linter.unusedVariables false
set_option linter.unusedSimpArgs false
theorem next_big {old : Nat} (h : old < 225179981368000) : Builtin.nextslicecap (old + 1) old * 1 ≤ 281474976710656 := by
  unfold Builtin.nextslicecap
  split
  · omega
  · split
    · omega
    · rw [growBy_four]
      repeat' split
      all_goals omega
theorem lit_cell (W : World) (p : Value) (T : Nat) (j : Nat) (u : Value) (hu : ([p] : List Value)[j]? = some u) : (W.alloc (.cells #[p] T)).cell? ((⟨W.heap.size, 0, none⟩ : Addr).add j) = some u := by
  have hj : j = 0 := by
    rcases j with _ | j
    · rfl
    · simp at hu
  subst hj
  have hn := heap_alloc_new W (.cells #[p] T)
  show (W.alloc (.cells #[p] T)).cell? ⟨W.heap.size, 0, none⟩ = some u
  unfold World.cell?
  dsimp only
  rw [hn]
  simpa using hu
section
variable {P : Program} {ops : Array Oper} {rest : List Oper} {o : Oper} {a : Act} {Q : Exit → Act → World → Prop}
theorem R_append_big (_d : Kd Int) {w0 W : World} (base : Nat) (hgd : o.guard = none) (s x : Operand) (t e : TypeId) (z : Value) (bytes : Nat)
    (ho : o.op = .call { callee := .builtin .append, args := #[s, x], argTypes := #[t, t] })
    (ht : P.underlying t = some (.slice e)) (hinfo : (P.info? e).map (fun i => (i.zero, i.size, i.bytes)) = some (some z, 1, bytes)) (hz : z.cells.size = 1) (hs0 : (0 : Nat) < 1) (hb0 : 0 < bytes)
    (v : Value) (xs : List Int) (p : Int) (cs : List Value) (ok okp : Nat → Prop) (hs : a.eval s = v) (hx : a.eval x = .slice (some ⟨W.heap.size, 0, none⟩) 1 1) (hp : cs = [.int .u8 p]) (hokp : ∀ k, okp k → ok k ∧ some k ≠ v.ownBlock) (hfresh : ∀ k, W.heap.size ≤ k → ok k)
    (HO : U8.R e W base ok v xs) (HB : Below base w0 W) (hbase : base ≤ W.heap.size) (hl : bytes = 1 ∧ xs.length < 225179981368000)
    (h : ∀ v1 w1, U8.R e w1 base ok v1 (xs ++ [p]) → Below base w0 w1 → W.grownBy w1 v.ownBlock → (v1.ownBlock = v.ownBlock ∨ ∃ b, v1.ownBlock = some b ∧ W.heap.size ≤ b) → wpList P ops Q rest (a.put o.dst v1) w1) :
    wpList P ops Q (o :: rest) a (W.alloc (.cells cs.toArray e)) := by
  obtain ⟨rfl, hl⟩ := hl
  by_cases hsm : xs.length + 1 ≤ 140737488355328
  · exact Kd.R_append U8 base hgd s x t e z 1 ho ht hinfo hz hs0 hb0 v xs p cs ok okp hs hx hp hokp hfresh HO HB hbase (by omega) h
  · subst hp
    obtain ⟨i0, hi, hzz⟩ := Option.map_eq_some_iff.1 hinfo
    simp only [Prod.mk.injEq] at hzz
    obtain ⟨hz0, hz1, hz2⟩ := hzz
    obtain ⟨h0, inner, hown, hr⟩ := HO
    have hown1 := own_alloc hown (.cells #[.int .u8 p] e)
    have hgA : W.grownBy (W.alloc (.cells #[.int .u8 p] e)) v.ownBlock := World.grownBy_alloc W _ _
    have key : ∃ v1 w1, (Builtin.append_ #[t, t] o.type #[v, .slice (some ⟨W.heap.size, 0, none⟩) 1 1]).run P (W.alloc (.cells #[.int .u8 p] e)) = .ok v1 w1 ∧ w1.ownsRow base e 1 v1 (xs.length + 1) (inner ++ [.int .u8 p]) ∧ (W.alloc (.cells #[.int .u8 p] e)).grownBy w1 v.ownBlock ∧ (v1.ownBlock = v.ownBlock ∨ ∃ b, v1.ownBlock = some b ∧ W.heap.size ≤ b) := by
      have hown2 := hown1
      rcases hown1.2 with ⟨rfl, hn⟩ | ⟨g, cap, cur, rfl, hbg, hg, hnc, hcm, hcs, htake⟩
      · omega
      · by_cases hroom : xs.length + 1 ≤ cap
        · obtain ⟨w1, hrun, ho1, hg1⟩ := run_append_fits (P := P) (W.alloc (.cells #[.int .u8 p] e)) base t o.type e i0 1 ht hi hz1 g xs.length cap inner hown2 ⟨W.heap.size, 0, none⟩ 1 1 [.int .u8 p] rfl (lit_cell W _ e) (fun u hu => by rw [List.mem_singleton.1 hu]; rfl) hroom
          exact ⟨_, w1, hrun, ho1, hg1, .inl rfl⟩
        · have holds : ∀ j u, inner[j]? = some u → (W.alloc (.cells #[.int .u8 p] e)).cell? ((⟨g, 0, none⟩ : Addr).add j) = some u := hown2.cells (g := g) rfl
          have hcap : cap = xs.length := by omega
          subst hcap
          have hrun := run_append_grow (P := P) (W.alloc (.cells #[.int .u8 p] e)) t o.type e i0 z ht hi hz0 ⟨g, 0, none⟩ xs.length xs.length inner (by rw [hz1]; exact hown2.1) holds ⟨W.heap.size, 0, none⟩ 1 1 [.int .u8 p] (by rw [hz1]; rfl) (lit_cell W _ e) (by omega) (by omega) (by rw [hz2]; exact next_big hl)
          have hge := grownCap_ge (W.alloc (.cells #[.int .u8 p] e)) (xs.length + 1) xs.length e
          have hle := grownCap_le_maxLen (W.alloc (.cells #[.int .u8 p] e)) (xs.length + 1) xs.length e (by simp only [maxLen]; omega)
          have hil : inner.length = xs.length := by have h1 : inner.length = xs.length * 1 := hown2.1; omega
          refine ⟨_, _, hrun, ⟨by simp [hil], .inr ⟨(W.alloc (.cells #[.int .u8 p] e)).heap.size, _, _, rfl, Nat.le_trans hbase hgA.size, heap_alloc_new ((W.alloc (.cells #[.int .u8 p] e)).drew) _, hge, hle, ?_, ?_⟩⟩, ⟨rfl, rfl, rfl, by simp, fun k hk hne => (World.grownBy_alloc ((W.alloc (.cells #[.int .u8 p] e)).drew) _ (some g)).block k hk hne⟩, .inr ⟨_, rfl, hgA.size⟩⟩
          · simp only [Array.size_append, List.size_toArray, size_zeroCells, hz, hil, List.length_singleton]
            omega
          · simp only [Array.toList_append, List.append_assoc]
            rw [← List.append_assoc]
            rw [List.take_left' (by simp [hil])]
    obtain ⟨v1, w1, hrun, hown3, hg3, hat⟩ := key
    refine wpList_plain hgd fun K hK => ?_
    unfold Oper.wp execOp
    simp only [ho, resolve, invoke, builtin, Sem.run_bind, Sem.run_pure, Result.andThen_ok, List.map_toArray, List.map_cons, List.map_nil, hs, hx, hrun]
    have hgW : W.grownBy w1 v.ownBlock := ⟨hg3.os.trans hgA.os, hg3.tape.trans hgA.tape, hg3.output.trans hgA.output, Nat.le_trans hgA.size hg3.size, fun k hk hne => (hg3.block k (Nat.lt_of_lt_of_le hk hgA.size) hne).trans (hgA.block k hk hne)⟩
    exact hK _ _ (h v1 w1 (Kd.R_appended (d := U8) h0 hr (okp := fun _ => False) rfl (fun _ hk => hk.elim) hfresh hown3 hgW hat) (HB.grown hgW hbase (own_base hown)) hgW hat)
end
end Go.Proofs.Ytkjkmaopifmghaa.Oct

namespace Go.Proofs.Ytkjkmaopifmghaa.OctArmor
open Go.RowKit Go.Proofs.YtkjkmaopifmghaaW.PrintWords Go.Proofs.YtkjkmaopifmghaaW.PrintLast Go.Proofs.YtkjkmaopifmghaaW.PrintMore
attribute [local go_sem] max2_int min2_int max_two min_two max_three min_three max_four min_four   -- for this text's walks alone
set_option linter.unusedVariables false
set_option linter.unusedSimpArgs false



def errW : Option Int → Value
  | none => .nilIface
  | some c => .iface 0 (.int .i64 c)
theorem errW_none : errW none = .nilIface := rfl
theorem errW_some (c : Int) : errW (some c) = .iface 0 (.int .i64 c) := rfl

theorem info5 : (Try.prog.info? 5).map (fun i => (i.zero, i.size, i.bytes)) = some (some (.int .u8 0), 1, 1) := by kernel_rfl
-- the values' own types

end Go.Proofs.Ytkjkmaopifmghaa.OctArmor
