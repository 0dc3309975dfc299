/- The listed table ('laid'): its cells hold just these numbers; a world for the witness. -/
import Derived.Test.YtmldefednihohaaDoorGrpGL
import Derived.Test.YtmldefednihohaaDoorRows
import Derived.Lib.LaidTab
namespace Go.Proofs.YtmldefednihohaaDoor
open Go.Lib
theorem gW : Tryd.prog.globalNamed "math/bits.deBruijn64tab" = some 0 := by kernel_rfl
theorem gWType : (Tryd.prog.globals[0]?).map (·.type) = some 82 := by kernel_rfl
theorem cellsT : Tryd.prog.cellsOf 82 = 64 := by kernel_rfl
theorem cellsE : Tryd.prog.cellsOf 5 = 1 := by kernel_rfl
theorem gl_of {W : World} (h : laidMetH Tryd.prog [("math/bits.deBruijn64tab", Rows.laid_math_bits_deBruijn64tab)] W) : GL W := by
  have h' : laidMet Tryd.prog [("math/bits.deBruijn64tab", (tabData .u8 tabL : DataW Unit))] W := h
  obtain ⟨ps, ⟨g', t', cs, fuel, p, q, hg', ht', hvar, hd, _, _⟩, _⟩ := h'
  obtain rfl := Option.some.inj (gW.symm.trans hg')
  obtain rfl := Option.some.inj (gWType.symm.trans ht')
  have hcs := cells_of_tab Tryd.underlying82 Tryd.underlying5 cellsE cellsT hd
  refine ⟨fun j hj => ?_⟩
  have := World.var?_cell gW hvar j
  rw [this]
  have hl : j < tabL.length := hj
  have hcs' : cs[j]? = some (Value.int .u8 tabL[j]) := by rw [← Array.getElem?_toList, hcs]; simp [hl]
  simpa [List.getD_eq_getElem?_getD, hl] using hcs'
/-- a world for the witness: the settled one, the table (block 0) holding what its initialiser lays -/
noncomputable def laidWorld (os : Os) : World :=
  { World.holding Tryd.prog os ⟨#[], #[], []⟩ with heap := (World.holding Tryd.prog os ⟨#[], #[], []⟩).heap.modify 0 fun
      | .cells _ t frozen => .cells (tabL.map fun z => Value.int .u8 z).toArray t frozen
      | o => o }
end Go.Proofs.YtmldefednihohaaDoor
