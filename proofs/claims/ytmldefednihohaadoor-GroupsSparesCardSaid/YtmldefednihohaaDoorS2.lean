-- PRINTED by print.py (a twelfth state) out of the translation. Not trusted: Lean checks it.
import Derived.Test.YtmldefednihohaaDoorProg
import Derived.Below
import Derived.Deep.Draws
import Derived.Deep.AppendLies
import Derived.Maps.AppendAt
import Derived.OwnWalk
import Derived.Laws.BytesArg
import Derived.Laws.MakeOwn
import Derived.Laws.OwnMore
import Derived.Deep.OwnRows
import Derived.Tactics
import Derived.Lib.ConvBytes
import Derived.Laws.Slices
import Derived.WalkKit
import Derived.KernelRfl
import Derived.RowKit3
import Derived.Deep.LoopGhost
import Derived.Deep.QuietTactic
import Derived.BigQuiet
import Derived.WideLaws
import Derived.Deep.DeepCutAuto
import Derived.Deep.CutBlock
import Derived.Deep.RegionHeld3
import Derived.Laws.Rows
import Derived.Lib.AppendStr
import Derived.ArgAppend
import Derived.Laws.IdiomCopy
import Derived.OrdersHeld
import Derived.Laws.BitsLemmas
import Derived.RowKit
import Derived.Test.YtmldefednihohaaDoorWWords
import Derived.Test.YtmldefednihohaaDoorWLast
import Derived.Test.YtmldefednihohaaDoorWTab
import Derived.Test.YtmldefednihohaaDoorWFour
import Derived.Test.YtmldefednihohaaDoorWQPut
import Derived.Test.YtmldefednihohaaDoorWApart
import Derived.Test.YtmldefednihohaaDoorWArr
import Derived.Test.YtmldefednihohaaDoorWZeros
import Derived.Test.YtmldefednihohaaDoorWFoot
import Derived.Test.YtmldefednihohaaDoorWKept
import Derived.Test.YtmldefednihohaaDoorWShare
import Derived.Test.YtmldefednihohaaDoorWN
import Derived.Test.YtmldefednihohaaDoorWFootNe
import Derived.Test.YtmldefednihohaaDoorWAt
import Derived.Test.YtmldefednihohaaDoorWEqStruct
import Derived.Test.YtmldefednihohaaDoorWRepsOne
import Derived.Test.YtmldefednihohaaDoorWInv
import Derived.Test.YtmldefednihohaaDoorWInvWords
import Derived.Test.YtmldefednihohaaDoorWGuard
import Derived.Test.YtmldefednihohaaDoorWNEv
import Derived.Test.YtmldefednihohaaDoorWMore
import Derived.Test.YtmldefednihohaaDoorGrpBase
import Derived.Test.YtmldefednihohaaDoorS1
namespace Go.Proofs.YtmldefednihohaaDoor.GrpMk
open Go.RowKit Go.Proofs.YtmldefednihohaaDoorW.PrintWords Go.Proofs.YtmldefednihohaaDoorW.PrintLast Go.Proofs.YtmldefednihohaaDoorW.PrintMore
attribute [local go_sem] max2_int min2_int max_two min_two max_three min_three max_four min_four   -- for this text's walks alone
set_option linter.unusedVariables false
set_option linter.unusedSimpArgs false



def errW : Option Int → Value
  | none => .nilIface
  | some c => .iface 0 (.int .i64 c)
theorem errW_none : errW none = .nilIface := rfl
theorem errW_some (c : Int) : errW (some c) = .iface 0 (.int .i64 c) := rfl

-- the values' own types

end Go.Proofs.YtmldefednihohaaDoor.GrpMk

namespace Go.Proofs.YtmldefednihohaaDoor.GrpMk
open Go.RowKit Go.Proofs.YtmldefednihohaaDoorW.PrintWords Go.Proofs.YtmldefednihohaaDoorW.PrintLast Go.Proofs.YtmldefednihohaaDoorW.PrintMore
attribute [local go_sem] max2_int min2_int max_two min_two max_three min_three max_four min_four   -- for this text's walks alone
set_option linter.unusedVariables false
set_option linter.unusedSimpArgs false

/-! ### latchkeykit_mark: function 46 -/
def latchkeykit_mark.f (a0 : Int) (a1 : Int) : Option (Int) := some (wrap64 ((wrap64 (1000003 * (wrap64 (a0 + 7)))) + a1))
set_option maxHeartbeats 8000000 in
set_option maxRecDepth 100000 in
theorem latchkeykit_mark.calls (a0 : Int) (a1 : Int) (r : Int) (w : World) (h : latchkeykit_mark.f a0 a1 = some r) :
    Calls Tryd.prog 46 #[.int .i64 a0, .int .i64 a1] w fun e w' => e = .returned (.int .i64 r) ∧ Drawn0 w w' := by
  have H : (some (wrap64 ((wrap64 (1000003 * (wrap64 (a0 + 7)))) + a1))) = some r := h
  clear h
  obtain rfl := Option.some.inj H
  go_enter Tryd.func46, Tryd.ntmps46
  go_wp2
  go_ret
  exact ⟨by first | rfl | (simp; done) | (simp [*]; done), by repeat (first | exact Drawn0.refl _ | apply Drawn0.step)⟩

end Go.Proofs.YtmldefednihohaaDoor.GrpMk

namespace Go.Proofs.YtmldefednihohaaDoor.GrpAp
open Go.Proofs.YtmldefednihohaaDoor.Grp
open Go.RowKit Go.Proofs.YtmldefednihohaaDoorW.PrintWords Go.Proofs.YtmldefednihohaaDoorW.PrintLast Go.Proofs.YtmldefednihohaaDoorW.PrintMore
set_option linter.unusedVariables false
set_option linter.unusedSimpArgs false
theorem mark_f (k i : Int) : ∃ v, GrpMk.latchkeykit_mark.f k i = some v := by
  unfold GrpMk.latchkeykit_mark.f
  exact ⟨_, rfl⟩
/-- The mark of a place. -/
def Mk (k i : Nat) : Int := (GrpMk.latchkeykit_mark.f (k : Int) (i : Int)).getD 0
theorem Mk_f (k i : Nat) : GrpMk.latchkeykit_mark.f (k : Int) (i : Int) = some (Mk k i) := by
  obtain ⟨v, hv⟩ := mark_f k i
  simp [Mk, hv]
def mks (k n : Nat) : List Int := (List.range n).map (Mk k)
theorem mks_len (k n : Nat) : (mks k n).length = n := range_len (Mk k) n
theorem mks_succ (k n : Nat) : mks k (n + 1) = mks k n ++ [Mk k n] := range_succ_ (Mk k) n
theorem mks_take (k : Nat) {m n : Nat} (h : m ≤ n) : (mks k n).take m = mks k m := range_take (Mk k) h
theorem mks_rd (k : Nat) {i n : Nat} (h : i < n) : rdOf (0 : Int) (mks k n) (i : Int) = Mk k i := rd_range (Mk k) h
section
variable (K gl : Nat) (A : Nat → Option Addr) (N C : Nat → Nat)
abbrev rowV (k : Nat) : Value := .slice (A k) (N k) (C k)
/-- K rows of ints that lie apart (L k in row k), their headers in block gl; of w0's blocks they alone may have turned. -/
structure St (w0 w : World) (L : Nat → List Int) : Prop where
  hd : ∀ k, k < K → w.cell? ⟨gl, k, none⟩ = some (rowV A N C k)
  hg : gl < w0.heap.size
  row : ∀ k, k < K → I64.R 3 w 0 (fun _ => True) (rowV A N C k) (L k)
  fr : Fr w0 w (fun b => ∃ k, k < K ∧ (rowV A N C k).ownBlock = some b)
  sep : ∀ i, i < K → ∀ j, j < K → i ≠ j → ∀ b, (rowV A N C i).ownBlock = some b → (rowV A N C j).ownBlock ≠ some b
  gsep : ∀ i, i < K → (rowV A N C i).ownBlock ≠ some gl
  lt : ∀ i, i < K → ∀ b, (rowV A N C i).ownBlock = some b → b < w0.heap.size
end
section
variable {K gl : Nat} {A : Nat → Option Addr} {N C : Nat → Nat} {w0 w w' : World} {L : Nat → List Int}
theorem St.len (h : St K gl A N C w0 w L) {k : Nat} (hk : k < K) : (L k).length = N k := (Kd.R_reads' (h.row k hk)).1.symm
theorem St.away (h : St K gl A N C w0 w L) {S : Nat → Prop} (hf : Fr w w' S) (hS : ∀ b, S b → w0.heap.size ≤ b) : St K gl A N C w0 w' L where
  hd k hk := cell_kept (h.hd k hk) hf.2 (fun hs => by have := hS _ hs; have := h.hg; simp only at *; omega)
  hg := h.hg
  row k hk := other (h.row k hk) hf.2 (fun b hb hs => by have := hS _ hs; have := h.lt k hk b hb; omega)
  fr := h.fr.then_ hf (fun b hb => .inr (hS b hb))
  sep := h.sep
  gsep := h.gsep
  lt := h.lt
theorem St.below (h : St K gl A N C w0 w L) (hb : Below w.heap.size w w') : St K gl A N C w0 w' L := h.away (Fr.of_below hb (fun _ => False)) (fun _ h => h.elim)
/-- Row k alone turned (its header stays, its block is told anew). -/
theorem St.turn (h : St K gl A N C w0 w L) {k : Nat} (hk : k < K) {l : List Int} {S : Nat → Prop} (hf : Fr w w' S) (hS : ∀ b, S b → (rowV A N C k).ownBlock = some b) (hr : I64.R 3 w' 0 (fun _ => True) (rowV A N C k) l) : St K gl A N C w0 w' (fun j => if j = k then l else L j) where
  hd j hj := cell_kept (h.hd j hj) hf.2 (fun hs => h.gsep k hk (hS _ hs))
  hg := h.hg
  row j hj := by
    by_cases e : j = k
    · subst e; simpa using hr
    · simp only [e, if_false]
      exact other (h.row j hj) hf.2 (fun b hb hs => h.sep j hj k hk e b hb (hS b hs))
  fr := h.fr.then_ hf (fun b hb => .inl ⟨k, hk, hS b hb⟩)
  sep := h.sep
  gsep := h.gsep
  lt := h.lt
theorem St.same (h : St K gl A N C w0 w L) {L' : Nat → List Int} (he : ∀ j, j < K → L' j = L j) : St K gl A N C w0 w L' where
  hd := h.hd
  hg := h.hg
  row j hj := by rw [he j hj]; exact h.row j hj
  fr := h.fr
  sep := h.sep
  gsep := h.gsep
  lt := h.lt
theorem St.at_ (h : St K gl A N C w0 w L) {k : Nat} (hk : k < K) (hn : 0 < N k) : ∃ b, A k = some ⟨b, 0, none⟩ := by
  rcases (Kd.own_of_R (h.row k hk)).2 with ⟨_, h0⟩ | ⟨b, cap, cur, hv, _⟩
  · have := h.len hk; omega
  · exact ⟨b, (Value.slice.inj hv).1⟩
theorem St.cell (h : St K gl A N C w0 w L) {k i b : Nat} (hk : k < K) (hi : i < N k) (hA : A k = some ⟨b, 0, none⟩) : w.cell? ⟨b, i, none⟩ = some (.int .i64 (rdOf (0 : Int) (L k) i)) ∧ w.frozen? ⟨b, i, none⟩ = false := by
  have hr := h.row k hk
  have hl := h.len hk
  unfold rowV at hr
  rw [hA, ← hl] at hr
  have := Kd.R_cell (0 : Int) hr (i : Int) (by omega) (by omega)
  simpa using this
theorem St.put (h : St K gl A N C w0 w L) {k i b : Nat} (hk : k < K) (hi : i < N k) (hA : A k = some ⟨b, 0, none⟩) (x : Int) : St K gl A N C w0 (w.setCell ⟨b, i, none⟩ (.int .i64 x)) (fun j => if j = k then (L k).set i x else L j) := by
  have hr := h.row k hk
  have hl := h.len hk
  refine h.turn hk (S := fun j => j = b) (Fr.set i _) (fun j hj => by subst hj; simp [rowV, hA, Value.ownBlock]) ?_
  unfold rowV at hr ⊢
  rw [hA] at hr ⊢
  exact (Kd.R_putg hr (i : Int) x).1
theorem set_take (l : List Int) (i : Nat) (x : Int) (hi : i < l.length) : (l.set i x).take (i + 1) = l.take i ++ [x] := by
  rw [List.take_succ_eq_append_getElem (by simpa using hi)]
  simp [List.take_set_of_le]
end
end Go.Proofs.YtmldefednihohaaDoor.GrpAp
