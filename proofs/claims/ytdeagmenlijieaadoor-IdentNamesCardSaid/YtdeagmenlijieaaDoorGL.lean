/- What the package variable latchkeyref01.words holds, as a fact on a world (GL), and that it lasts. -/
import Derived.Test.YtdeagmenlijieaaDoorWWords
namespace Go.Proofs.YtdeagmenlijieaaDoor
open Go.RowKit Go.Proofs.YtdeagmenlijieaaDoorW.PrintWords
def wordsL : List (List UInt8) := [[116, 121, 112, 101], [114, 101, 108, 97, 116, 105, 111, 110], [99, 111, 110, 100], [111, 114], [97, 110, 100], [110, 111, 116], [102, 114, 111, 109], [119, 105, 116, 104], [105, 110], [116, 114, 117, 101], [102, 97, 108, 115, 101], [110, 97, 110], [105, 110, 102]]
def words_at.f (i : Int) : Option ByteArray := if 0 ≤ i ∧ i < 13 then some ⟨(wordsL.getD i.toNat []).toArray⟩ else none
structure GL (w : World) : Prop where mk :: (out : ∀ j, j < 13 → w.cell? ⟨0, j, none⟩ = some (.string ⟨(wordsL.getD j []).toArray⟩))
theorem GL.below {w W : World} (h : GL w) (hb : Below w.heap.size w W) : GL W := ⟨fun j hj => pw_cell_below hb (h.out j hj)⟩
theorem GL.drawn {w W : World} (h : GL w) (hd : Drawn0 w W) : GL W := h.below hd.below
theorem words_cell {w : World} (h : GL w) {i : Int} {t : ByteArray} (e : words_at.f i = some t) : 0 ≤ i ∧ i < 13 ∧ w.cell? ⟨0, i.toNat, none⟩ = some (.string t) := by
  unfold words_at.f at e
  by_cases c : 0 ≤ i ∧ i < 13
  · rw [if_pos c] at e
    obtain rfl := Option.some.inj e
    exact ⟨c.1, c.2, h.out i.toNat (by omega)⟩
  · rw [if_neg c] at e; cases e
theorem drewN_cell (w : World) (m : Nat) (a : Addr) (v : Value) (h : w.cell? a = some v) : (w.drewN m).cell? a = some v := by
  have hb : Below w.heap.size w (w.drewN m) := pw_below_drewN (Below.refl _ _) m
  exact pw_cell_below hb h
end Go.Proofs.YtdeagmenlijieaaDoor
