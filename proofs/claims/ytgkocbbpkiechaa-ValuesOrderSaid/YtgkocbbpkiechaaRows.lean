/-
  No cell of these rows narrows 'for every input' (looked for: loops, veiled, ifaces, maps, wideKeys, modest, calm, conditions, laid).
  DERIVED. THE GIVEN ROWS OF THIS SEAT. 4 by the template 'for every input the law returns true; each argument reads behind the call as it read before'; 0 by the template 'total and deterministic' (their statements: YtgkocbbpkiechaaTotals.lean).
  GIVEN WITH THE SEED: the statements are not yours to turn. If you find one false, say at which input.
  Laid BY PROGRAM, IN A SANDBOX (cutbox-rows.mjs): the forced cells as the released guide's own fill.sh prints them over the translation f740f84e636b9d53… (all of the seat's roots in one cut). By AI agents, Wed Nov 11 2026. No macro, syntax, notation, axiom, sorry.
-/
import Derived.Test.YtgkocbbpkiechaaChecked
import GoSem.Claim
import GoSem.ClaimJoined
import GoSem.ClaimMapViews
import Derived.JoinedTies
import Derived.KernelRfl
namespace Go.Proofs.Ytgkocbbpkiechaa
/- THE CELL 'sum', in the pinned program and in every row, IS THE sha256 OF THE DUMP (.gsa) THAT YtgkocbbpkiechaaProg.lean LOADS. Nothing in Lean hashes anything: it is a label: what it is worth is what the hold of that sum in a sandbox is worth. -/
noncomputable def Try.pinned : Pinned := { name := "ytgkocbbpkiechaa", sum := "f740f84e636b9d5313c51aafe599127e26873462eb4f19d0676f2e28ffc6356a", checked := Try.checked }
namespace Rows
def none {H : Type} : Left H := { results := [], args := [] }

/-- 'latchkeylaw04.ValuesOrder': WHATEVER THE INPUT: true; the input reads as it did. -/
def valuesOrderSpec : ChangeSpec := { name := "valuesOrder", fn := fun _ => fun
  | [d1, d2, d3] => { results := [.lit (.bool true)], args := [d1, d2, d3] }
  | _ => none }
def valuesOrderRow : OpenClaim := { program := "ytgkocbbpkiechaa", sum := "f740f84e636b9d5313c51aafe599127e26873462eb4f19d0676f2e28ffc6356a", func := "latchkey/latchkeylaw04.ValuesOrder", spec := "valuesOrder", inPlace := ["internal/bytealg.abigen_runtime_cmpstring", "math.Float32bits"], apart := false }
def ValuesOrderSaid : Prop := valuesOrderRow.holds Try.pinned (OpenSpec.ofChange valuesOrderSpec)

/-- ITS FALSE NEIGHBOUR: 'it returns false'. Refute it at one input. -/
def valuesOrderWrong : ChangeSpec := { name := "valuesOrder", fn := fun _ => fun
  | [d1, d2, d3] => { results := [.lit (.bool false)], args := [d1, d2, d3] }
  | _ => none }
def ValuesOrderWrongFalsely : Prop := valuesOrderRow.holds Try.pinned (OpenSpec.ofChange valuesOrderWrong)

/-- 'latchkeylaw04.ValuesCompares': WHATEVER THE INPUT: true; the input reads as it did. -/
def valuesComparesSpec : ChangeSpec := { name := "valuesCompares", fn := fun _ => fun
  | [d1, d2] => { results := [.lit (.bool true)], args := [d1, d2] }
  | _ => none }
def valuesComparesRow : OpenClaim := { program := "ytgkocbbpkiechaa", sum := "f740f84e636b9d5313c51aafe599127e26873462eb4f19d0676f2e28ffc6356a", func := "latchkey/latchkeylaw04.ValuesCompares", spec := "valuesCompares", inPlace := ["math.Float32bits", "internal/bytealg.abigen_runtime_cmpstring"], apart := false }
def ValuesComparesSaid : Prop := valuesComparesRow.holds Try.pinned (OpenSpec.ofChange valuesComparesSpec)

/-- ITS FALSE NEIGHBOUR: 'it returns false'. Refute it at one input. -/
def valuesComparesWrong : ChangeSpec := { name := "valuesCompares", fn := fun _ => fun
  | [d1, d2] => { results := [.lit (.bool false)], args := [d1, d2] }
  | _ => none }
def ValuesComparesWrongFalsely : Prop := valuesComparesRow.holds Try.pinned (OpenSpec.ofChange valuesComparesWrong)

/-- 'latchkeylaw04.ValuesDecodes': WHATEVER THE INPUT: true; the input reads as it did. -/
def valuesDecodesSpec : ChangeSpec := { name := "valuesDecodes", fn := fun _ => fun
  | [d] => { results := [.lit (.bool true)], args := [d] }
  | _ => none }
def valuesDecodesRow : OpenClaim := { program := "ytgkocbbpkiechaa", sum := "f740f84e636b9d5313c51aafe599127e26873462eb4f19d0676f2e28ffc6356a", func := "latchkey/latchkeylaw04.ValuesDecodes", spec := "valuesDecodes", inPlace := ["math.Float32frombits", "math.Float32bits"], apart := false }
def ValuesDecodesSaid : Prop := valuesDecodesRow.holds Try.pinned (OpenSpec.ofChange valuesDecodesSpec)

/-- ITS FALSE NEIGHBOUR: 'it returns false'. Refute it at one input. -/
def valuesDecodesWrong : ChangeSpec := { name := "valuesDecodes", fn := fun _ => fun
  | [d] => { results := [.lit (.bool false)], args := [d] }
  | _ => none }
def ValuesDecodesWrongFalsely : Prop := valuesDecodesRow.holds Try.pinned (OpenSpec.ofChange valuesDecodesWrong)

/-- 'latchkeylaw04.ValuesNumbers': WHATEVER THE INPUT: true; the input reads as it did. -/
def valuesNumbersSpec : ChangeSpec := { name := "valuesNumbers", fn := fun _ => fun
  | [] => { results := [.lit (.bool true)], args := [] }
  | _ => none }
def valuesNumbersRow : OpenClaim := { program := "ytgkocbbpkiechaa", sum := "f740f84e636b9d5313c51aafe599127e26873462eb4f19d0676f2e28ffc6356a", func := "latchkey/latchkeylaw04.ValuesNumbers", spec := "valuesNumbers", inPlace := ["math.Float32frombits", "math.Float32bits"], apart := false }
def ValuesNumbersSaid : Prop := valuesNumbersRow.holds Try.pinned (OpenSpec.ofChange valuesNumbersSpec)

/-- ITS FALSE NEIGHBOUR: 'it returns false'. Refute it at one input. -/
def valuesNumbersWrong : ChangeSpec := { name := "valuesNumbers", fn := fun _ => fun
  | [] => { results := [.lit (.bool false)], args := [] }
  | _ => none }
def ValuesNumbersWrongFalsely : Prop := valuesNumbersRow.holds Try.pinned (OpenSpec.ofChange valuesNumbersWrong)

/- THE SECOND FORM. 'bulk': how many values and letters a reading holds, each counted each time it is reached (what is shared counts as often as it is met; a slice's spare places count too). A statement '..UptoSaid' is the law's where the arguments, and the package variables that the reading takes, are together of bulk at most 1048576: NARROWER than '..Said'. Prove '..Said' where nothing that the law and all that it calls make is longer than what came in: it says more and counts as full. Else prove '..UptoSaid'. A law counts once. -/
mutual
def uptoBulk {H : Type} : DataW H → Nat
  | .lit (.string bytes) => bytes.length + 1
  | .lit _ => 1
  | .nil => 1
  | .ptr d => uptoBulk d + 1
  | .slice elems spare => uptoBulkAll elems + uptoBulkAll spare + 1
  | .agg parts => uptoBulkAll parts + 1
  | .iface _ d => uptoBulk d + 1
  | .map entries => uptoBulkEntries entries + 1
  | .held _ => 1
def uptoBulkAll {H : Type} : List (DataW H) → Nat
  | [] => 0
  | d :: r => uptoBulk d + uptoBulkAll r
def uptoBulkEntries {H : Type} : List (Lit × DataW H) → Nat
  | [] => 0
  | x :: r => uptoBulkEntry x + uptoBulkEntries r
def uptoBulkEntry {H : Type} : Lit × DataW H → Nat
  | (.string bytes, d) => bytes.length + uptoBulk d + 1
  | (_, d) => uptoBulk d + 1
 end
def uptoSmall : (H : Type) → List (DataW H) → Bool := fun _ ds => decide (uptoBulkAll ds ≤ 1048576)
def OpenSpec.upto (s : _root_.Go.ChangeSpec) : _root_.Go.OpenSpec := { _root_.Go.OpenSpec.ofChange s with cond := some uptoSmall }

/-- 'latchkeylaw04.ValuesOrder', WHERE WHAT IT READS IS OF BULK AT MOST 1048576: true; the input reads as it did. -/
def valuesOrderUptoRow : OpenClaim := { program := "ytgkocbbpkiechaa", sum := "f740f84e636b9d5313c51aafe599127e26873462eb4f19d0676f2e28ffc6356a", func := "latchkey/latchkeylaw04.ValuesOrder", spec := "valuesOrder", inPlace := ["internal/bytealg.abigen_runtime_cmpstring", "math.Float32bits"], apart := false, narrowed := true }
def ValuesOrderUptoSaid : Prop := valuesOrderUptoRow.holds Try.pinned (OpenSpec.upto valuesOrderSpec)

/-- 'latchkeylaw04.ValuesCompares', WHERE WHAT IT READS IS OF BULK AT MOST 1048576: true; the input reads as it did. -/
def valuesComparesUptoRow : OpenClaim := { program := "ytgkocbbpkiechaa", sum := "f740f84e636b9d5313c51aafe599127e26873462eb4f19d0676f2e28ffc6356a", func := "latchkey/latchkeylaw04.ValuesCompares", spec := "valuesCompares", inPlace := ["math.Float32bits", "internal/bytealg.abigen_runtime_cmpstring"], apart := false, narrowed := true }
def ValuesComparesUptoSaid : Prop := valuesComparesUptoRow.holds Try.pinned (OpenSpec.upto valuesComparesSpec)

/-- 'latchkeylaw04.ValuesDecodes', WHERE WHAT IT READS IS OF BULK AT MOST 1048576: true; the input reads as it did. -/
def valuesDecodesUptoRow : OpenClaim := { program := "ytgkocbbpkiechaa", sum := "f740f84e636b9d5313c51aafe599127e26873462eb4f19d0676f2e28ffc6356a", func := "latchkey/latchkeylaw04.ValuesDecodes", spec := "valuesDecodes", inPlace := ["math.Float32frombits", "math.Float32bits"], apart := false, narrowed := true }
def ValuesDecodesUptoSaid : Prop := valuesDecodesUptoRow.holds Try.pinned (OpenSpec.upto valuesDecodesSpec)

/-- 'latchkeylaw04.ValuesNumbers', WHERE WHAT IT READS IS OF BULK AT MOST 1048576: true; the input reads as it did. -/
def valuesNumbersUptoRow : OpenClaim := { program := "ytgkocbbpkiechaa", sum := "f740f84e636b9d5313c51aafe599127e26873462eb4f19d0676f2e28ffc6356a", func := "latchkey/latchkeylaw04.ValuesNumbers", spec := "valuesNumbers", inPlace := ["math.Float32frombits", "math.Float32bits"], apart := false, narrowed := true }
def ValuesNumbersUptoSaid : Prop := valuesNumbersUptoRow.holds Try.pinned (OpenSpec.upto valuesNumbersSpec)

end Rows
end Go.Proofs.Ytgkocbbpkiechaa
