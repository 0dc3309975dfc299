/-
  No cell of these rows narrows 'for every input' (looked for: loops, veiled, ifaces, maps, wideKeys, modest, calm, conditions, laid).
  DERIVED. THE GIVEN ROWS OF THIS SEAT. 7 by the template 'for every input the law returns true; each argument reads behind the call as it read before'; 0 by the template 'total and deterministic' (their statements: YtdeagmenlijieaaTotals.lean).
  GIVEN WITH THE SEED: the statements are not yours to turn. If you find one false, say at which input.
  Laid BY PROGRAM, IN A SANDBOX (cutbox-rows.mjs): the forced cells as the released guide's own fill.sh prints them over the translation 11c0d1aa98decdba… (all of the seat's roots in one cut). By AI agents, Wed Nov 11 2026. No macro, syntax, notation, axiom, sorry.
-/
import Derived.Test.YtdeagmenlijieaaChecked
import GoSem.Claim
import GoSem.ClaimJoined
import GoSem.ClaimMapViews
import Derived.JoinedTies
import Derived.KernelRfl
namespace Go.Proofs.Ytdeagmenlijieaa
/- THE CELL 'sum', in the pinned program and in every row, IS THE sha256 OF THE DUMP (.gsa) THAT YtdeagmenlijieaaProg.lean LOADS. Nothing in Lean hashes anything: it is a label: what it is worth is what the hold of that sum in a sandbox is worth. -/
noncomputable def Try.pinned : Pinned := { name := "ytdeagmenlijieaa", sum := "11c0d1aa98decdbace962da59cdafc9d409eba16dd8a10696afd69db06e5c36d", checked := Try.checked }
namespace Rows
def none {H : Type} : Left H := { results := [], args := [] }

/-- 'latchkeylaw01.IdentNumbers': WHATEVER THE INPUT: true; the input reads as it did. -/
def identNumbersSpec : ChangeSpec := { name := "identNumbers", fn := fun _ => fun
  | [] => { results := [.lit (.bool true)], args := [] }
  | _ => none }
def identNumbersRow : OpenClaim := { program := "ytdeagmenlijieaa", sum := "11c0d1aa98decdbace962da59cdafc9d409eba16dd8a10696afd69db06e5c36d", func := "latchkey/latchkeylaw01.IdentNumbers", spec := "identNumbers", apart := false }
def IdentNumbersSaid : Prop := identNumbersRow.holds Try.pinned (OpenSpec.ofChange identNumbersSpec)

/-- ITS FALSE NEIGHBOUR: 'it returns false'. Refute it at one input. -/
def identNumbersWrong : ChangeSpec := { name := "identNumbers", fn := fun _ => fun
  | [] => { results := [.lit (.bool false)], args := [] }
  | _ => none }
def IdentNumbersWrongFalsely : Prop := identNumbersRow.holds Try.pinned (OpenSpec.ofChange identNumbersWrong)

/-- 'latchkeylaw01.IdentSpells': WHATEVER THE INPUT: true; the input reads as it did. -/
def identSpellsSpec : ChangeSpec := { name := "identSpells", fn := fun _ => fun
  | [d] => { results := [.lit (.bool true)], args := [d] }
  | _ => none }
def identSpellsRow : OpenClaim := { program := "ytdeagmenlijieaa", sum := "11c0d1aa98decdbace962da59cdafc9d409eba16dd8a10696afd69db06e5c36d", func := "latchkey/latchkeylaw01.IdentSpells", spec := "identSpells", apart := false }
def IdentSpellsSaid : Prop := identSpellsRow.holds Try.pinned (OpenSpec.ofChange identSpellsSpec)

/-- ITS FALSE NEIGHBOUR: 'it returns false'. Refute it at one input. -/
def identSpellsWrong : ChangeSpec := { name := "identSpells", fn := fun _ => fun
  | [d] => { results := [.lit (.bool false)], args := [d] }
  | _ => none }
def IdentSpellsWrongFalsely : Prop := identSpellsRow.holds Try.pinned (OpenSpec.ofChange identSpellsWrong)

/-- 'latchkeylaw01.IdentCompares': WHATEVER THE INPUT: true; the input reads as it did. -/
def identComparesSpec : ChangeSpec := { name := "identCompares", fn := fun _ => fun
  | [d1, d2, d3, d4] => { results := [.lit (.bool true)], args := [d1, d2, d3, d4] }
  | _ => none }
def identComparesRow : OpenClaim := { program := "ytdeagmenlijieaa", sum := "11c0d1aa98decdbace962da59cdafc9d409eba16dd8a10696afd69db06e5c36d", func := "latchkey/latchkeylaw01.IdentCompares", spec := "identCompares", apart := false }
def IdentComparesSaid : Prop := identComparesRow.holds Try.pinned (OpenSpec.ofChange identComparesSpec)

/-- ITS FALSE NEIGHBOUR: 'it returns false'. Refute it at one input. -/
def identComparesWrong : ChangeSpec := { name := "identCompares", fn := fun _ => fun
  | [d1, d2, d3, d4] => { results := [.lit (.bool false)], args := [d1, d2, d3, d4] }
  | _ => none }
def IdentComparesWrongFalsely : Prop := identComparesRow.holds Try.pinned (OpenSpec.ofChange identComparesWrong)

/-- 'latchkeylaw01.IdentOrder': WHATEVER THE INPUT: true; the input reads as it did. -/
def identOrderSpec : ChangeSpec := { name := "identOrder", fn := fun _ => fun
  | [d1, d2, d3] => { results := [.lit (.bool true)], args := [d1, d2, d3] }
  | _ => none }
def identOrderRow : OpenClaim := { program := "ytdeagmenlijieaa", sum := "11c0d1aa98decdbace962da59cdafc9d409eba16dd8a10696afd69db06e5c36d", func := "latchkey/latchkeylaw01.IdentOrder", spec := "identOrder", apart := false }
def IdentOrderSaid : Prop := identOrderRow.holds Try.pinned (OpenSpec.ofChange identOrderSpec)

/-- ITS FALSE NEIGHBOUR: 'it returns false'. Refute it at one input. -/
def identOrderWrong : ChangeSpec := { name := "identOrder", fn := fun _ => fun
  | [d1, d2, d3] => { results := [.lit (.bool false)], args := [d1, d2, d3] }
  | _ => none }
def IdentOrderWrongFalsely : Prop := identOrderRow.holds Try.pinned (OpenSpec.ofChange identOrderWrong)

/-- 'latchkeylaw01.IdentGrows': WHATEVER THE INPUT: true; the input reads as it did. -/
def identGrowsSpec : ChangeSpec := { name := "identGrows", fn := fun _ => fun
  | [d1, d2] => { results := [.lit (.bool true)], args := [d1, d2] }
  | _ => none }
def identGrowsRow : OpenClaim := { program := "ytdeagmenlijieaa", sum := "11c0d1aa98decdbace962da59cdafc9d409eba16dd8a10696afd69db06e5c36d", func := "latchkey/latchkeylaw01.IdentGrows", spec := "identGrows", inPlace := ["internal/bytealg.IndexByteString", "internal/bytealg.IndexString"], named := ["internal/bytealg.MaxLen"], apart := false }
def IdentGrowsSaid : Prop := identGrowsRow.holds Try.pinned (OpenSpec.ofChange identGrowsSpec)

/-- ITS FALSE NEIGHBOUR: 'it returns false'. Refute it at one input. -/
def identGrowsWrong : ChangeSpec := { name := "identGrows", fn := fun _ => fun
  | [d1, d2] => { results := [.lit (.bool false)], args := [d1, d2] }
  | _ => none }
def IdentGrowsWrongFalsely : Prop := identGrowsRow.holds Try.pinned (OpenSpec.ofChange identGrowsWrong)

/-- 'latchkeylaw01.IdentParts': WHATEVER THE INPUT: true; the input reads as it did. -/
def identPartsSpec : ChangeSpec := { name := "identParts", fn := fun _ => fun
  | [d1, d2, d3] => { results := [.lit (.bool true)], args := [d1, d2, d3] }
  | _ => none }
def identPartsRow : OpenClaim := { program := "ytdeagmenlijieaa", sum := "11c0d1aa98decdbace962da59cdafc9d409eba16dd8a10696afd69db06e5c36d", func := "latchkey/latchkeylaw01.IdentParts", spec := "identParts", inPlace := ["internal/bytealg.IndexByteString", "internal/bytealg.IndexString"], named := ["internal/bytealg.MaxLen"], apart := false }
def IdentPartsSaid : Prop := identPartsRow.holds Try.pinned (OpenSpec.ofChange identPartsSpec)

/-- ITS FALSE NEIGHBOUR: 'it returns false'. Refute it at one input. -/
def identPartsWrong : ChangeSpec := { name := "identParts", fn := fun _ => fun
  | [d1, d2, d3] => { results := [.lit (.bool false)], args := [d1, d2, d3] }
  | _ => none }
def IdentPartsWrongFalsely : Prop := identPartsRow.holds Try.pinned (OpenSpec.ofChange identPartsWrong)

/-- 'latchkeylaw01.IdentThere': WHATEVER THE INPUT: true; the input reads as it did. -/
def identThereSpec : ChangeSpec := { name := "identThere", fn := fun _ => fun
  | [d1, d2, d3] => { results := [.lit (.bool true)], args := [d1, d2, d3] }
  | _ => none }
def identThereRow : OpenClaim := { program := "ytdeagmenlijieaa", sum := "11c0d1aa98decdbace962da59cdafc9d409eba16dd8a10696afd69db06e5c36d", func := "latchkey/latchkeylaw01.IdentThere", spec := "identThere", inPlace := ["internal/bytealg.IndexByteString", "internal/bytealg.IndexString"], named := ["internal/bytealg.MaxLen"], apart := false }
def IdentThereSaid : Prop := identThereRow.holds Try.pinned (OpenSpec.ofChange identThereSpec)

/-- ITS FALSE NEIGHBOUR: 'it returns false'. Refute it at one input. -/
def identThereWrong : ChangeSpec := { name := "identThere", fn := fun _ => fun
  | [d1, d2, d3] => { results := [.lit (.bool false)], args := [d1, d2, d3] }
  | _ => none }
def IdentThereWrongFalsely : Prop := identThereRow.holds Try.pinned (OpenSpec.ofChange identThereWrong)

/- THE SECOND FORM. 'bulk': how many values and letters a reading holds, each counted each time it is reached (what is shared counts as often as it is met; a slice's spare places count too). A statement '..UptoSaid' is the law's where the arguments, and the package variables that the reading takes, are together of bulk at most 1048576: NARROWER than '..Said'. Prove '..Said' where nothing that the law and all that it calls make is longer than what came in: it says more and counts as full. Else prove '..UptoSaid'. A law counts once. -/
mutual
def uptoBulk {H : Type} : DataW H → Nat
  | .lit (.string bytes) => bytes.length + 1
  | .lit _ => 1
  | .nil => 1
  | .ptr d => uptoBulk d + 1
  | .slice elems spare => uptoBulkAll elems + uptoBulkAll spare + 1
  | .agg parts => uptoBulkAll parts + 1
  | .iface _ d => uptoBulk d + 1
  | .map entries => uptoBulkEntries entries + 1
  | .held _ => 1
def uptoBulkAll {H : Type} : List (DataW H) → Nat
  | [] => 0
  | d :: r => uptoBulk d + uptoBulkAll r
def uptoBulkEntries {H : Type} : List (Lit × DataW H) → Nat
  | [] => 0
  | x :: r => uptoBulkEntry x + uptoBulkEntries r
def uptoBulkEntry {H : Type} : Lit × DataW H → Nat
  | (.string bytes, d) => bytes.length + uptoBulk d + 1
  | (_, d) => uptoBulk d + 1
 end
def uptoSmall : (H : Type) → List (DataW H) → Bool := fun _ ds => decide (uptoBulkAll ds ≤ 1048576)
def OpenSpec.upto (s : _root_.Go.ChangeSpec) : _root_.Go.OpenSpec := { _root_.Go.OpenSpec.ofChange s with cond := some uptoSmall }

/-- 'latchkeylaw01.IdentNumbers', WHERE WHAT IT READS IS OF BULK AT MOST 1048576: true; the input reads as it did. -/
def identNumbersUptoRow : OpenClaim := { program := "ytdeagmenlijieaa", sum := "11c0d1aa98decdbace962da59cdafc9d409eba16dd8a10696afd69db06e5c36d", func := "latchkey/latchkeylaw01.IdentNumbers", spec := "identNumbers", apart := false, narrowed := true }
def IdentNumbersUptoSaid : Prop := identNumbersUptoRow.holds Try.pinned (OpenSpec.upto identNumbersSpec)

/-- 'latchkeylaw01.IdentSpells', WHERE WHAT IT READS IS OF BULK AT MOST 1048576: true; the input reads as it did. -/
def identSpellsUptoRow : OpenClaim := { program := "ytdeagmenlijieaa", sum := "11c0d1aa98decdbace962da59cdafc9d409eba16dd8a10696afd69db06e5c36d", func := "latchkey/latchkeylaw01.IdentSpells", spec := "identSpells", apart := false, narrowed := true }
def IdentSpellsUptoSaid : Prop := identSpellsUptoRow.holds Try.pinned (OpenSpec.upto identSpellsSpec)

/-- 'latchkeylaw01.IdentCompares', WHERE WHAT IT READS IS OF BULK AT MOST 1048576: true; the input reads as it did. -/
def identComparesUptoRow : OpenClaim := { program := "ytdeagmenlijieaa", sum := "11c0d1aa98decdbace962da59cdafc9d409eba16dd8a10696afd69db06e5c36d", func := "latchkey/latchkeylaw01.IdentCompares", spec := "identCompares", apart := false, narrowed := true }
def IdentComparesUptoSaid : Prop := identComparesUptoRow.holds Try.pinned (OpenSpec.upto identComparesSpec)

/-- 'latchkeylaw01.IdentOrder', WHERE WHAT IT READS IS OF BULK AT MOST 1048576: true; the input reads as it did. -/
def identOrderUptoRow : OpenClaim := { program := "ytdeagmenlijieaa", sum := "11c0d1aa98decdbace962da59cdafc9d409eba16dd8a10696afd69db06e5c36d", func := "latchkey/latchkeylaw01.IdentOrder", spec := "identOrder", apart := false, narrowed := true }
def IdentOrderUptoSaid : Prop := identOrderUptoRow.holds Try.pinned (OpenSpec.upto identOrderSpec)

/-- 'latchkeylaw01.IdentGrows', WHERE WHAT IT READS IS OF BULK AT MOST 1048576: true; the input reads as it did. -/
def identGrowsUptoRow : OpenClaim := { program := "ytdeagmenlijieaa", sum := "11c0d1aa98decdbace962da59cdafc9d409eba16dd8a10696afd69db06e5c36d", func := "latchkey/latchkeylaw01.IdentGrows", spec := "identGrows", inPlace := ["internal/bytealg.IndexByteString", "internal/bytealg.IndexString"], named := ["internal/bytealg.MaxLen"], apart := false, narrowed := true }
def IdentGrowsUptoSaid : Prop := identGrowsUptoRow.holds Try.pinned (OpenSpec.upto identGrowsSpec)

/-- 'latchkeylaw01.IdentParts', WHERE WHAT IT READS IS OF BULK AT MOST 1048576: true; the input reads as it did. -/
def identPartsUptoRow : OpenClaim := { program := "ytdeagmenlijieaa", sum := "11c0d1aa98decdbace962da59cdafc9d409eba16dd8a10696afd69db06e5c36d", func := "latchkey/latchkeylaw01.IdentParts", spec := "identParts", inPlace := ["internal/bytealg.IndexByteString", "internal/bytealg.IndexString"], named := ["internal/bytealg.MaxLen"], apart := false, narrowed := true }
def IdentPartsUptoSaid : Prop := identPartsUptoRow.holds Try.pinned (OpenSpec.upto identPartsSpec)

/-- 'latchkeylaw01.IdentThere', WHERE WHAT IT READS IS OF BULK AT MOST 1048576: true; the input reads as it did. -/
def identThereUptoRow : OpenClaim := { program := "ytdeagmenlijieaa", sum := "11c0d1aa98decdbace962da59cdafc9d409eba16dd8a10696afd69db06e5c36d", func := "latchkey/latchkeylaw01.IdentThere", spec := "identThere", inPlace := ["internal/bytealg.IndexByteString", "internal/bytealg.IndexString"], named := ["internal/bytealg.MaxLen"], apart := false, narrowed := true }
def IdentThereUptoSaid : Prop := identThereUptoRow.holds Try.pinned (OpenSpec.upto identThereSpec)

end Rows
end Go.Proofs.Ytdeagmenlijieaa
