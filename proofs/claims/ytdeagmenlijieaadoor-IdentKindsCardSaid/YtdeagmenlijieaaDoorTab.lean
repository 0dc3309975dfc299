/- An array of texts that is listed as known ('laid'): its cells hold just these texts. -/
import Derived.Test.YtdeagmenlijieaaDoorGL
import Derived.Test.YtdeagmenlijieaaDoorRows
import Derived.Lib.LaidTab
namespace Go.Proofs.YtdeagmenlijieaaDoor
open Go.Lib
theorem cells_of_strs {H : Type} {enc : TypeId × Value → H} {P : Program} {w : World} {base : Nat} {sp : Nat → Bool} {held : Bool} {fuel : Nat} {t e : TypeId} {n : Nat} {cs : List Value} {ss : List (List UInt8)} {p : List MemPlace}
    (ht : P.underlying t = some (.array n e)) (he : P.underlying e = some .string) (hce : P.cellsOf e = 1) (hct : P.cellsOf t = n)
    (h : DataW.trod enc P w base sp held fuel t cs = some (.agg (ss.map fun s => .lit (.string s)), p)) : cs = ss.map fun s => Value.string ⟨s.toArray⟩ := by
  cases fuel with
  | zero => simp [DataW.trod] at h
  | succ fuel =>
    simp only [DataW.trod, ht, hce, hct, Nat.mul_one] at h
    split at h
    · rename_i hl
      obtain ⟨xs, hm, hx⟩ := Option.map_eq_some_iff.1 h
      have hxs : xs.map (·.1) = ss.map fun s => (DataW.lit (.string s) : DataW H) := by
        have := congrArg Prod.fst hx
        simpa using this
      have hxl : xs.length = n := by simpa using mapM_length hm
      have hzl : ss.length = n := by
        have := congrArg List.length hxs
        simp at this
        omega
      apply List.ext_getElem?
      intro i
      by_cases hi : i < n
      · obtain ⟨b, hb, hf⟩ := mapM_at hm i i (by simp [hi])
        obtain ⟨z, hc, rfl, _⟩ := DataW.trod_string he hf
        have h1 : cs[i]? = some (.string z) := by
          have := congrArg (·[0]?) hc
          simpa [List.getElem?_take, List.getElem?_drop] using this
        have h2 : (xs.map (·.1))[i]? = some (DataW.lit (.string z.data.toList) : DataW H) := by simp [hb]
        rw [hxs] at h2
        simp only [List.getElem?_map, Option.map_eq_some_iff, DataW.lit.injEq, Lit.string.injEq] at h2
        obtain ⟨z', hz', e⟩ := h2
        simp [h1, hz', e]
      · rw [List.getElem?_eq_none (by omega), List.getElem?_eq_none (by simp; omega)]
    · cases h
theorem gW : Tryd.prog.globalNamed "latchkey/latchkeyref01.words" = some 0 := by kernel_rfl
theorem gWType : (Tryd.prog.globals[0]?).map (·.type) = some 39 := by kernel_rfl
theorem cells39 : Tryd.prog.cellsOf 39 = 13 := by kernel_rfl
theorem cells9 : Tryd.prog.cellsOf 9 = 1 := by kernel_rfl
theorem gl_of {W : World} (h : laidMetH Tryd.prog [("latchkey/latchkeyref01.words", Rows.laid_latchkey_latchkeyref01_words)] W) : GL W := by
  have h' : laidMet Tryd.prog [("latchkey/latchkeyref01.words", (.agg (wordsL.map fun s => .lit (.string s)) : DataW Unit))] W := h
  obtain ⟨ps, ⟨g', t', cs, fuel, p, q, hg', ht', hvar, hd, _, _⟩, _⟩ := h'
  obtain rfl := Option.some.inj (gW.symm.trans hg')
  obtain rfl := Option.some.inj (gWType.symm.trans ht')
  have hcs := cells_of_strs Tryd.underlying39 Tryd.underlying9 cells9 cells39 hd
  refine ⟨fun j hj => ?_⟩
  have := World.var?_cell gW hvar j
  rw [this]
  have hl : j < wordsL.length := hj
  have hcs' : cs[j]? = some (Value.string ⟨(wordsL[j]).toArray⟩) := by rw [← Array.getElem?_toList, hcs]; simp [hl]
  simpa [List.getD_eq_getElem?_getD, hl] using hcs'
/-- a world for the witness: the settled one, the table (block 0) holding what its initialiser lays -/
noncomputable def laidWorld (os : Os) : World :=
  { World.holding Tryd.prog os ⟨#[], #[], []⟩ with heap := (World.holding Tryd.prog os ⟨#[], #[], []⟩).heap.modify 0 fun
      | .cells _ t frozen => .cells (wordsL.map fun s => Value.string ⟨s.toArray⟩).toArray t frozen
      | o => o }
end Go.Proofs.YtdeagmenlijieaaDoor
