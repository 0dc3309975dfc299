-- PRINTED by print.py (a twelfth state) out of the translation. Not trusted: Lean checks it.
import Derived.Test.YtkjkmaopifmghaaProg
import Derived.Below
import Derived.Deep.Draws
import Derived.Deep.AppendLies
import Derived.Maps.AppendAt
import Derived.OwnWalk
import Derived.Laws.BytesArg
import Derived.Laws.MakeOwn
import Derived.Laws.OwnMore
import Derived.Deep.OwnRows
import Derived.Tactics
import Derived.Lib.ConvBytes
import Derived.Laws.Slices
import Derived.WalkKit
import Derived.KernelRfl
import Derived.RowKit3
import Derived.Deep.LoopGhost
import Derived.Deep.QuietTactic
import Derived.BigQuiet
import Derived.WideLaws
import Derived.Deep.DeepCutAuto
import Derived.Deep.CutBlock
import Derived.Deep.RegionHeld3
import Derived.Laws.Rows
import Derived.Lib.AppendStr
import Derived.ArgAppend
import Derived.Laws.IdiomCopy
import Derived.OrdersHeld
import Derived.Laws.BitsLemmas
import Derived.RowKit
import Derived.Test.YtkjkmaopifmghaaWWords
import Derived.Test.YtkjkmaopifmghaaWLast
import Derived.Test.YtkjkmaopifmghaaWTab
import Derived.Test.YtkjkmaopifmghaaWFour
import Derived.Test.YtkjkmaopifmghaaWQPut
import Derived.Test.YtkjkmaopifmghaaWApart
import Derived.Test.YtkjkmaopifmghaaWArr
import Derived.Test.YtkjkmaopifmghaaWZeros
import Derived.Test.YtkjkmaopifmghaaWFoot
import Derived.Test.YtkjkmaopifmghaaWKept
import Derived.Test.YtkjkmaopifmghaaWShare
import Derived.Test.YtkjkmaopifmghaaWN
import Derived.Test.YtkjkmaopifmghaaWFootNe
import Derived.Test.YtkjkmaopifmghaaWAt
import Derived.Test.YtkjkmaopifmghaaWEqStruct
import Derived.Test.YtkjkmaopifmghaaWRepsOne
import Derived.Test.YtkjkmaopifmghaaWInv
import Derived.Test.YtkjkmaopifmghaaWInvWords
import Derived.Test.YtkjkmaopifmghaaWGuard
import Derived.Test.YtkjkmaopifmghaaWNEv
import Derived.Test.YtkjkmaopifmghaaWMore
import Derived.Test.YtkjkmaopifmghaaKxOctApp
import Derived.Test.YtkjkmaopifmghaaKxOctR
namespace Go.Proofs.Ytkjkmaopifmghaa.OctKept
open Go.RowKit Go.Proofs.YtkjkmaopifmghaaW.PrintWords Go.Proofs.YtkjkmaopifmghaaW.PrintLast Go.Proofs.YtkjkmaopifmghaaW.PrintMore
attribute [local go_sem] max2_int min2_int max_two min_two max_three min_three max_four min_four   -- for this text's walks alone
set_option linter.unusedVariables false
set_option linter.unusedSimpArgs false



def errW : Option Int → Value
  | none => .nilIface
  | some c => .iface 0 (.int .i64 c)
theorem errW_none : errW none = .nilIface := rfl
theorem errW_some (c : Int) : errW (some c) = .iface 0 (.int .i64 c) := rfl

theorem info5 : (Try.prog.info? 5).map (fun i => (i.zero, i.size, i.bytes)) = some (some (.int .u8 0), 1, 1) := by kernel_rfl
-- the values' own types

end Go.Proofs.Ytkjkmaopifmghaa.OctKept

namespace Go.Proofs.Ytkjkmaopifmghaa.OctKept
open Go.RowKit Go.Proofs.YtkjkmaopifmghaaW.PrintWords Go.Proofs.YtkjkmaopifmghaaW.PrintLast Go.Proofs.YtkjkmaopifmghaaW.PrintMore
attribute [local go_sem] max2_int min2_int max_two min_two max_three min_three max_four min_four   -- for this text's walks alone
set_option linter.unusedVariables false
set_option linter.unusedSimpArgs false

/-! ### latchkeykit_mark: function 68 -/
def latchkeykit_mark.f (a0 : Int) (a1 : Int) : Option (Int) := some (wrap64 ((wrap64 (1000003 * (wrap64 (a0 + 7)))) + a1))
set_option maxHeartbeats 8000000 in
set_option maxRecDepth 100000 in
theorem latchkeykit_mark.calls (a0 : Int) (a1 : Int) (r : Int) (w : World) (h : latchkeykit_mark.f a0 a1 = some r) :
    Calls Try.prog 68 #[.int .i64 a0, .int .i64 a1] w fun e w' => e = .returned (.int .i64 r) ∧ Drawn0 w w' := by
  have H : (some (wrap64 ((wrap64 (1000003 * (wrap64 (a0 + 7)))) + a1))) = some r := h
  clear h
  obtain rfl := Option.some.inj H
  go_enter Try.func68, Try.ntmps68
  go_wp2
  go_ret
  exact ⟨by first | rfl | (simp; done) | (simp [*]; done), by repeat (first | exact Drawn0.refl _ | apply Drawn0.step)⟩

/-! ### latchkeykit_markByte: function 49 -/
def latchkeykit_markByte.f (a0 : Int) (a1 : Int) : Option (Int) := (latchkeykit_mark.f a0 a1).bind fun t101 => (some (((IntKind.u64.wrap ((IntKind.u64.wrap (t101)) * 11400714819323198485)) / 72057594037927936) % 256))
set_option maxHeartbeats 8000000 in
set_option maxRecDepth 100000 in
theorem latchkeykit_markByte.calls (a0 : Int) (a1 : Int) (r : Int) (w : World) (h : latchkeykit_markByte.f a0 a1 = some r) :
    Calls Try.prog 49 #[.int .i64 a0, .int .i64 a1] w fun e w' => e = .returned (.int .u8 r) ∧ Drawn0 w w' := by
  have H : ((latchkeykit_mark.f a0 a1).bind fun t101 => (some (((IntKind.u64.wrap ((IntKind.u64.wrap (t101)) * 11400714819323198485)) / 72057594037927936) % 256))) = some r := h
  clear h
  replace H := Option.bind_eq_some_iff.mp H
  obtain ⟨t101, A30, H⟩ := H
  replace H : (some (((IntKind.u64.wrap ((IntKind.u64.wrap (t101)) * 11400714819323198485)) / 72057594037927936) % 256)) = some r := H
  have A3 := Aside0.mk A30
  clear A30
  obtain rfl := Option.some.inj H
  go_enter Try.func49, Try.ntmps49
  go_wp2_with (first | ((with_reducible refine gate_callee (f := 68) rfl ?_); refine goesL_ (some 7) rfl rfl Try.func68 (by kernel_rfl) rfl #[.int .i64 a0, .int .i64 a1] rfl (by (try simp only [List.map_toArray, List.map_cons, List.map_nil]); first | done | rfl | (simp only [List.length_drop, List.length_take]; rfl)) ?_; (with_reducible refine (latchkeykit_mark.calls a0 a1 t101 _ A3.out).mono ?_); rintro e w' ⟨rfl, ⟨nd, rfl⟩⟩; refine ⟨_, rfl, ?_⟩))
  go_ret
  exact ⟨by first | rfl | (simp; done) | (simp [*]; done), by repeat (first | exact Drawn0.refl _ | apply Drawn0.step)⟩

end Go.Proofs.Ytkjkmaopifmghaa.OctKept

namespace Go.Proofs.Ytkjkmaopifmghaa.Oct
open Go.RowKit Go.Proofs.YtkjkmaopifmghaaW.PrintWords Go.Proofs.YtkjkmaopifmghaaW.PrintLast Go.Proofs.YtkjkmaopifmghaaW.PrintMore
set_option linter.unusedVariables false
set_option linter.unusedSimpArgs false
theorem mark_f (k i : Int) : ∃ v, OctKept.latchkeykit_markByte.f k i = some v := by
  unfold OctKept.latchkeykit_markByte.f OctKept.latchkeykit_mark.f
  generalize (11400714819323198485 : Int) = c
  exact ⟨_, rfl⟩
/-- The mark of a place. -/
def Mk (k i : Nat) : Int := (OctKept.latchkeykit_markByte.f (k : Int) (i : Int)).getD 0
theorem Mk_f (k i : Nat) : OctKept.latchkeykit_markByte.f (k : Int) (i : Int) = some (Mk k i) := by
  obtain ⟨v, hv⟩ := mark_f k i
  simp [Mk, hv]
theorem range_len (f : Nat → Int) (n : Nat) : ((List.range n).map f).length = n := by simp
theorem range_succ_ (f : Nat → Int) (n : Nat) : (List.range (n + 1)).map f = (List.range n).map f ++ [f n] := by simp [List.range_succ]
theorem range_take (f : Nat → Int) {m n : Nat} (h : m ≤ n) : ((List.range n).map f).take m = (List.range m).map f := by
  simp [List.take_range, ← List.map_take, Nat.min_eq_left h]
def mks (k n : Nat) : List Int := (List.range n).map (Mk k)
theorem mks_len (k n : Nat) : (mks k n).length = n := range_len (Mk k) n
theorem mks_succ (k n : Nat) : mks k (n + 1) = mks k n ++ [Mk k n] := range_succ_ (Mk k) n
theorem mks_take (k : Nat) {m n : Nat} (h : m ≤ n) : (mks k n).take m = mks k m := range_take (Mk k) h
theorem rd_range (f : Nat → Int) {i n : Nat} (h : i < n) : rdOf (0 : Int) ((List.range n).map f) (i : Int) = f i := by
  simp [rdOf, h, List.getD_eq_getElem?_getD]
theorem mks_rd (k : Nat) {i n : Nat} (h : i < n) : rdOf (0 : Int) (mks k n) (i : Int) = Mk k i := rd_range (Mk k) h
/-- A slice's three words. -/
abbrev Sl := Option Addr × Nat × Nat
abbrev sv (x : Sl) : Value := .slice x.1 x.2.1 x.2.2
abbrev SL : Kd Sl := Kd.scalar sv (fun _ => rfl)
theorem tight {α : Type} {enc : α → Value} {h1 : ∀ x, (enc x).oneCell' = true} {e base : Nat} {w : World} {ok : Nat → Prop} {v : Value} {xs : List α} (h : (Kd.scalar enc h1).R e w base ok v xs) : (Kd.scalar enc h1).R e w base (fun k => some k = v.ownBlock) v xs := Kd.R_tight rfl h
theorem loose {α : Type} {enc : α → Value} {h1 : ∀ x, (enc x).oneCell' = true} {e base : Nat} {w : World} {ok : Nat → Prop} {v : Value} {xs : List α} (h : (Kd.scalar enc h1).R e w base ok v xs) : (Kd.scalar enc h1).R e w base (fun _ => True) v xs := Kd.R_mono h fun _ _ => trivial
/-- Where another block alone turned. -/
theorem other {α : Type} {enc : α → Value} {h1 : ∀ x, (enc x).oneCell' = true} {e base : Nat} {w w' : World} {S : Nat → Prop} {v : Value} {xs : List α} (h : (Kd.scalar enc h1).R e w base (fun _ => True) v xs) (hk : Kept w w' S) (hn : ∀ b, v.ownBlock = some b → ¬ S b) : (Kd.scalar enc h1).R e w' base (fun _ => True) v xs :=
  loose (Kd.R_kept (tight h) hk fun b hb => hn b hb.symm)
theorem own_lt' {α : Type} {enc : α → Value} {h1 : ∀ x, (enc x).oneCell' = true} {e base : Nat} {w : World} {ok : Nat → Prop} {v : Value} {xs : List α} (h : (Kd.scalar enc h1).R e w base ok v xs) : ∀ b, v.ownBlock = some b → b < w.heap.size := own_lt (Kd.own_of_R h)
theorem own_ge {α : Type} {enc : α → Value} {h1 : ∀ x, (enc x).oneCell' = true} {e base : Nat} {w : World} {ok : Nat → Prop} {v : Value} {xs : List α} (h : (Kd.scalar enc h1).R e w base ok v xs) : ∀ b, v.ownBlock = some b → base ≤ b := own_base (Kd.own_of_R h)
theorem own_ne {α β : Type} {enc : α → Value} {h1 : ∀ x, (enc x).oneCell' = true} {enc' : β → Value} {h1' : ∀ x, (enc' x).oneCell' = true} {e e' b b' : Nat} {w : World} {ok ok' : Nat → Prop} {v v' : Value} {xs : List α} {xs' : List β} (h : (Kd.scalar enc h1).R e w b ok v xs) (h' : (Kd.scalar enc' h1').R e' w b' ok' v' xs') (hne : e ≠ e') : ∀ k, v.ownBlock = some k → v'.ownBlock ≠ some k := by
  intro k hk hk'
  rcases own_type_ne (Kd.own_of_R h) (Kd.own_of_R h') hne with h | h
  · rw [h] at hk
    cases hk
  · exact h (hk.trans hk'.symm)
theorem fr_grown {w w' : World} {b : Option Nat} (h : w.grownBy w' b) : Fr w w' (fun k => b = some k) :=
  ⟨⟨h.os, h.tape, h.output, h.size, fun k hk => absurd hk (by omega)⟩, Kept.of_grown h (Kept.refl w _) (fun k hk => .inl hk)⟩
section
variable (K gl : Nat) (A : Nat → Option Addr) (N C : Nat → Nat)
abbrev rowV (k : Nat) : Value := .slice (A k) (N k) (C k)
/-- K rows of bytes that lie apart (L k in row k), their headers in block gl; of w0's blocks they alone may have turned. -/
structure St (w0 w : World) (L : Nat → List Int) : Prop where
  hd : ∀ k, k < K → w.cell? ⟨gl, k, none⟩ = some (rowV A N C k)
  hg : gl < w0.heap.size
  row : ∀ k, k < K → U8.R 5 w 0 (fun _ => True) (rowV A N C k) (L k)
  fr : Fr w0 w (fun b => ∃ k, k < K ∧ (rowV A N C k).ownBlock = some b)
  sep : ∀ i, i < K → ∀ j, j < K → i ≠ j → ∀ b, (rowV A N C i).ownBlock = some b → (rowV A N C j).ownBlock ≠ some b
  gsep : ∀ i, i < K → (rowV A N C i).ownBlock ≠ some gl
  lt : ∀ i, i < K → ∀ b, (rowV A N C i).ownBlock = some b → b < w0.heap.size
end
section
variable {K gl : Nat} {A : Nat → Option Addr} {N C : Nat → Nat} {w0 w w' : World} {L : Nat → List Int}
theorem St.len (h : St K gl A N C w0 w L) {k : Nat} (hk : k < K) : (L k).length = N k := (Kd.R_reads' (h.row k hk)).1.symm
theorem St.away (h : St K gl A N C w0 w L) {S : Nat → Prop} (hf : Fr w w' S) (hS : ∀ b, S b → w0.heap.size ≤ b) : St K gl A N C w0 w' L where
  hd k hk := cell_kept (h.hd k hk) hf.2 (fun hs => by have := hS _ hs; have := h.hg; simp only at *; omega)
  hg := h.hg
  row k hk := other (h.row k hk) hf.2 (fun b hb hs => by have := hS _ hs; have := h.lt k hk b hb; omega)
  fr := h.fr.then_ hf (fun b hb => .inr (hS b hb))
  sep := h.sep
  gsep := h.gsep
  lt := h.lt
theorem St.below (h : St K gl A N C w0 w L) (hb : Below w.heap.size w w') : St K gl A N C w0 w' L := h.away (Fr.of_below hb (fun _ => False)) (fun _ h => h.elim)
/-- Row k alone turned (its header stays, its block is told anew). -/
theorem St.turn (h : St K gl A N C w0 w L) {k : Nat} (hk : k < K) {l : List Int} {S : Nat → Prop} (hf : Fr w w' S) (hS : ∀ b, S b → (rowV A N C k).ownBlock = some b) (hr : U8.R 5 w' 0 (fun _ => True) (rowV A N C k) l) : St K gl A N C w0 w' (fun j => if j = k then l else L j) where
  hd j hj := cell_kept (h.hd j hj) hf.2 (fun hs => h.gsep k hk (hS _ hs))
  hg := h.hg
  row j hj := by
    by_cases e : j = k
    · subst e; simpa using hr
    · simp only [e, if_false]
      exact other (h.row j hj) hf.2 (fun b hb hs => h.sep j hj k hk e b hb (hS b hs))
  fr := h.fr.then_ hf (fun b hb => .inl ⟨k, hk, hS b hb⟩)
  sep := h.sep
  gsep := h.gsep
  lt := h.lt
theorem St.same (h : St K gl A N C w0 w L) {L' : Nat → List Int} (he : ∀ j, j < K → L' j = L j) : St K gl A N C w0 w L' where
  hd := h.hd
  hg := h.hg
  row j hj := by rw [he j hj]; exact h.row j hj
  fr := h.fr
  sep := h.sep
  gsep := h.gsep
  lt := h.lt
theorem St.at_ (h : St K gl A N C w0 w L) {k : Nat} (hk : k < K) (hn : 0 < N k) : ∃ b, A k = some ⟨b, 0, none⟩ := by
  rcases (Kd.own_of_R (h.row k hk)).2 with ⟨_, h0⟩ | ⟨b, cap, cur, hv, _⟩
  · have := h.len hk; omega
  · exact ⟨b, (Value.slice.inj hv).1⟩
theorem St.cell (h : St K gl A N C w0 w L) {k i b : Nat} (hk : k < K) (hi : i < N k) (hA : A k = some ⟨b, 0, none⟩) : w.cell? ⟨b, i, none⟩ = some (.int .u8 (rdOf (0 : Int) (L k) i)) ∧ w.frozen? ⟨b, i, none⟩ = false := by
  have hr := h.row k hk
  have hl := h.len hk
  unfold rowV at hr
  rw [hA, ← hl] at hr
  have := Kd.R_cell (0 : Int) hr (i : Int) (by omega) (by omega)
  simpa using this
theorem St.put (h : St K gl A N C w0 w L) {k i b : Nat} (hk : k < K) (hi : i < N k) (hA : A k = some ⟨b, 0, none⟩) (x : Int) : St K gl A N C w0 (w.setCell ⟨b, i, none⟩ (.int .u8 x)) (fun j => if j = k then (L k).set i x else L j) := by
  have hr := h.row k hk
  have hl := h.len hk
  refine h.turn hk (S := fun j => j = b) (Fr.set i _) (fun j hj => by subst hj; simp [rowV, hA, Value.ownBlock]) ?_
  unfold rowV at hr ⊢
  rw [hA] at hr ⊢
  exact (Kd.R_putg hr (i : Int) x).1
theorem set_take (l : List Int) (i : Nat) (x : Int) (hi : i < l.length) : (l.set i x).take (i + 1) = l.take i ++ [x] := by
  rw [List.take_succ_eq_append_getElem (by simpa using hi)]
  simp [List.take_set_of_le]
end
end Go.Proofs.Ytkjkmaopifmghaa.Oct
