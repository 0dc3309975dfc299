/- What the package variable bits.deBruijn64tab holds, as a fact on a world (GL), and that it lasts. -/
import Derived.Test.YtmldefednihohaaDoorWWords
namespace Go.Proofs.YtmldefednihohaaDoor
open Go.RowKit Go.Proofs.YtmldefednihohaaDoorW.PrintWords
def tabL : List Int := [0, 1, 56, 2, 57, 49, 28, 3, 61, 58, 42, 50, 38, 29, 17, 4, 62, 47, 59, 36, 45, 43, 51, 22, 53, 39, 33, 30, 24, 18, 12, 5, 63, 55, 48, 27, 60, 41, 37, 16, 46, 35, 44, 21, 52, 32, 23, 11, 54, 26, 40, 15, 34, 20, 31, 10, 25, 14, 19, 9, 13, 8, 7, 6]
structure GL (w : World) : Prop where mk :: (out : ∀ j, j < 64 → w.cell? ⟨0, j, none⟩ = some (.int .u8 (tabL.getD j 0)))
theorem GL.below {w W : World} (h : GL w) (hb : Below w.heap.size w W) : GL W := ⟨fun j hj => pw_cell_below hb (h.out j hj)⟩
theorem GL.drawn {w W : World} (h : GL w) (hd : Drawn0 w W) : GL W := h.below hd.below
end Go.Proofs.YtmldefednihohaaDoor
