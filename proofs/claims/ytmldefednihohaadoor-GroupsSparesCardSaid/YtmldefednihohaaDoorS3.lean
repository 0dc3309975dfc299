/- The reading of a script out of memory. -/
import Derived.Test.YtmldefednihohaaDoorSxGrpMade
import Derived.WalkKit
import Derived.ProofKit
import Derived.OpenShut
import Derived.ChangeArms
import Derived.SizedLaws
import Derived.Deep.Slices
import Derived.Lib.SmallJoins
import Derived.Test.YtmldefednihohaaDoorS1
import Derived.Test.YtmldefednihohaaDoorRows
import Derived.Lib.LaidTab
namespace Go.Proofs.YtmldefednihohaaDoor.GrpOps
open Go.ChangeShapes Go.WideShapes Go.ChangeAt Go.RowKit Go.Joins
open Go.Proofs.YtmldefednihohaaDoorW.PrintWords Go.Proofs.YtmldefednihohaaDoor.Grp
set_option linter.unusedVariables false
set_option maxRecDepth 100000
set_option linter.unusedSimpArgs false
theorem elem_c {H : Type} {enc : TypeId × Value → H} {P : Program} {W : World} {base : Nat} {spare : Nat → Bool} {held : Bool} {t e : TypeId} {C : Nat} {a : Option Addr} {len cap : Nat} {d : DataW H} {ps : List MemPlace} (ht : P.underlying t = some (.slice e)) (hC : P.cellsOf e = C)
    (h : DataW.Trod enc P W base spare held t (.slice a len cap) d ps) : len ≤ cap ∧ cap ≤ maxLen ∧ ∀ i, i < len → ∃ x cs y n, a = some x ∧ cs.length = C ∧ (∀ j, j < C → W.cell? ((x.add (i * C)).add j) = cs[j]?) ∧ DataW.trod enc P W base spare held n e cs = some y := by
  obtain ⟨fuel, hf⟩ := h
  rcases Go.Deep.open_slice ht hf with ⟨hcs, _⟩ | ⟨x, l, c, m, n, D, Pl, hcs, _, hl, hcm, hm, _, hi⟩
  · simp [Value.cells] at hcs
    obtain ⟨rfl, rfl, rfl⟩ := hcs
    exact ⟨Nat.le_refl _, Nat.zero_le _, fun i h => absurd h (by omega)⟩
  · simp [Value.cells] at hcs
    obtain ⟨rfl, rfl, rfl⟩ := hcs
    refine ⟨hl, hcm, fun i hil => ?_⟩
    have him : i < m := by
      rw [hm]
      split
      · omega
      · exact hil
    obtain ⟨cs, h1, h2⟩ := hi i him
    rw [hC] at h1
    obtain ⟨_, hlen, hat⟩ := World.cells?_some h1
    exact ⟨x, cs, _, n, rfl, hlen, hat, h2⟩
theorem op_w {H : Type} {enc : TypeId × Value → H} {W : World} {held : Bool} {fuel : Nat} {cs : List Value} {D : DataW H × List MemPlace} (hlen : cs.length = 4) (h : DataW.trod enc Tryd.prog W 0 (fun _ => true) held fuel 40 cs = some D) :
    ∃ d : OpD, cs = [.int .i64 d.kind, .int .i64 d.which, .int .i64 d.a, .int .i64 d.b] ∧ (-9223372036854775808 ≤ d.kind ∧ d.kind < 9223372036854775808) ∧ (-9223372036854775808 ≤ d.which ∧ d.which < 9223372036854775808) := by
  match cs, hlen with
  | [c0, c1, c2, c3], _ =>
    obtain ⟨xs, m, _, hx, _, hxl, hf⟩ := DataW.trod_struct Tryd.underlying40 h
    match xs, hxl with
    | [y0, y1, y2, y3], _ =>
      obtain ⟨n0, e0, z0, w0⟩ := DataW.trod_int Tryd.underlying3 (hf 0 _ rfl)
      obtain ⟨n1, e1, z1, w1⟩ := DataW.trod_int Tryd.underlying3 (hf 1 _ rfl)
      obtain ⟨n2, e2, z2, w2⟩ := DataW.trod_int Tryd.underlying3 (hf 2 _ rfl)
      obtain ⟨n3, e3, z3, w3⟩ := DataW.trod_int Tryd.underlying3 (hf 3 _ rfl)
      have e0' : c0 = .int .i64 n0 := by
        have h : [c0] = [Value.int .i64 n0] := e0
        simpa using h
      have e1' : c1 = .int .i64 n1 := by
        have h : [c1] = [Value.int .i64 n1] := e1
        simpa using h
      have e2' : c2 = .int .i64 n2 := by
        have h : [c2] = [Value.int .i64 n2] := e2
        simpa using h
      have e3' : c3 = .int .i64 n3 := by
        have h : [c3] = [Value.int .i64 n3] := e3
        simpa using h
      subst e0' e1' e2' e3'
      refine ⟨⟨n0, n1, n2, n3⟩, rfl, ?_, ?_⟩
      · simp [Lit.wf, IntKind.min, IntKind.max, IntKind.signed, IntKind.bits] at w0
        show _ ≤ n0 ∧ n0 < _
        omega
      · simp [Lit.wf, IntKind.min, IntKind.max, IntKind.signed, IntKind.bits] at w1
        show _ ≤ n1 ∧ n1 < _
        omega
theorem ops_w {H : Type} {enc : TypeId × Value → H} {W : World} {held : Bool} {a : Option Addr} {len cap : Nat} {d : DataW H} {ps : List MemPlace} (h : DataW.Trod enc Tryd.prog W 0 (fun _ => true) held 32 (.slice a len cap) d ps) :
    ∃ G : Nat → OpD, OpsAt W a len G ∧ len ≤ cap ∧ cap ≤ maxLen := by
  obtain ⟨hc, hmax, hel⟩ := elem_c (C := 4) Tryd.underlying32 (by kernel_rfl) h
  have hp : ∀ i, ∃ d : OpD, i < len → ∃ x, a = some x ∧ OpAt W (x.add (i * 4)) d := by
    intro i
    by_cases hi : i < len
    · obtain ⟨x, cs, y, n, rfl, hlen, hat, ht⟩ := hel i hi
      obtain ⟨d, rfl, hk, hw⟩ := op_w hlen ht
      exact ⟨d, fun _ => ⟨x, rfl, hat 0 (by omega), hat 1 (by omega), hat 2 (by omega), hat 3 (by omega), hk, hw⟩⟩
    · exact ⟨⟨0, 0, 0, 0⟩, fun h => absurd h hi⟩
  obtain ⟨G, hG⟩ := Classical.axiomOfChoice hp
  exact ⟨G, hG, hc, hmax⟩
end Go.Proofs.YtmldefednihohaaDoor.GrpOps

namespace Go.Proofs.YtmldefednihohaaDoor
open Go.Lib
theorem gW : Tryd.prog.globalNamed "math/bits.deBruijn64tab" = some 0 := by kernel_rfl
theorem gWType : (Tryd.prog.globals[0]?).map (·.type) = some 82 := by kernel_rfl
theorem cellsT : Tryd.prog.cellsOf 82 = 64 := by kernel_rfl
theorem cellsE : Tryd.prog.cellsOf 5 = 1 := by kernel_rfl
theorem gl_of {W : World} (h : laidMetH Tryd.prog [("math/bits.deBruijn64tab", Rows.laid_math_bits_deBruijn64tab)] W) : GL W := by
  have h' : laidMet Tryd.prog [("math/bits.deBruijn64tab", (tabData .u8 tabL : DataW Unit))] W := h
  obtain ⟨ps, ⟨g', t', cs, fuel, p, q, hg', ht', hvar, hd, _, _⟩, _⟩ := h'
  obtain rfl := Option.some.inj (gW.symm.trans hg')
  obtain rfl := Option.some.inj (gWType.symm.trans ht')
  have hcs := cells_of_tab Tryd.underlying82 Tryd.underlying5 cellsE cellsT hd
  refine ⟨fun j hj => ?_⟩
  have := World.var?_cell gW hvar j
  rw [this]
  have hl : j < tabL.length := hj
  have hcs' : cs[j]? = some (Value.int .u8 tabL[j]) := by rw [← Array.getElem?_toList, hcs]; simp [hl]
  simpa [List.getD_eq_getElem?_getD, hl] using hcs'
/-- a world for the witness: the settled one, the table (block 0) holding what its initialiser lays -/
noncomputable def laidWorld (os : Os) : World :=
  { World.holding Tryd.prog os ⟨#[], #[], []⟩ with heap := (World.holding Tryd.prog os ⟨#[], #[], []⟩).heap.modify 0 fun
      | .cells _ t frozen => .cells (tabL.map fun z => Value.int .u8 z).toArray t frozen
      | o => o }
end Go.Proofs.YtmldefednihohaaDoor
