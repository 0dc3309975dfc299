/-
  No cell of these rows narrows 'for every input' (looked for: loops, veiled, ifaces, maps, wideKeys, modest, calm, conditions, laid).
  DERIVED. THE GIVEN ROWS OF THIS SEAT. 9 by the template 'for every input the law returns true; each argument reads behind the call as it read before'; 0 by the template 'total and deterministic' (their statements: YtkjkmaopifmghaaTotals.lean).
  GIVEN WITH THE SEED: the statements are not yours to turn. If you find one false, say at which input.
  Laid BY PROGRAM, IN A SANDBOX (cutbox-rows.mjs): the forced cells as the released guide's own fill.sh prints them over the translation efe33601a656cfb2… (all of the seat's roots in one cut). By AI agents, Wed Nov 11 2026. No macro, syntax, notation, axiom, sorry.
-/
import Derived.Test.YtkjkmaopifmghaaChecked
import GoSem.Claim
import GoSem.ClaimJoined
import GoSem.ClaimMapViews
import Derived.JoinedTies
import Derived.KernelRfl
namespace Go.Proofs.Ytkjkmaopifmghaa
/- THE CELL 'sum', in the pinned program and in every row, IS THE sha256 OF THE DUMP (.gsa) THAT YtkjkmaopifmghaaProg.lean LOADS. Nothing in Lean hashes anything: it is a label: what it is worth is what the hold of that sum in a sandbox is worth. -/
noncomputable def Try.pinned : Pinned := { name := "ytkjkmaopifmghaa", sum := "efe33601a656cfb2200968f0e997bb2394ffa3a242c4dd656e4a086bc3a0b939", checked := Try.checked }
namespace Rows
def none {H : Type} : Left H := { results := [], args := [] }

/-- 'latchkeylaw02.OctetsSteps': WHATEVER THE INPUT: true; the input reads as it did. -/
def octetsStepsSpec : ChangeSpec := { name := "octetsSteps", fn := fun _ => fun
  | [d1, d2] => { results := [.lit (.bool true)], args := [d1, d2] }
  | _ => none }
def octetsStepsRow : OpenClaim := { program := "ytkjkmaopifmghaa", sum := "efe33601a656cfb2200968f0e997bb2394ffa3a242c4dd656e4a086bc3a0b939", func := "latchkey/latchkeylaw02.OctetsSteps", spec := "octetsSteps", apart := false }
def OctetsStepsSaid : Prop := octetsStepsRow.holds Try.pinned (OpenSpec.ofChange octetsStepsSpec)

/-- ITS FALSE NEIGHBOUR: 'it returns false'. Refute it at one input. -/
def octetsStepsWrong : ChangeSpec := { name := "octetsSteps", fn := fun _ => fun
  | [d1, d2] => { results := [.lit (.bool false)], args := [d1, d2] }
  | _ => none }
def OctetsStepsWrongFalsely : Prop := octetsStepsRow.holds Try.pinned (OpenSpec.ofChange octetsStepsWrong)

/-- 'latchkeylaw02.OctetsWrites': WHATEVER THE INPUT: true; the input reads as it did. -/
def octetsWritesSpec : ChangeSpec := { name := "octetsWrites", fn := fun _ => fun
  | [d] => { results := [.lit (.bool true)], args := [d] }
  | _ => none }
def octetsWritesRow : OpenClaim := { program := "ytkjkmaopifmghaa", sum := "efe33601a656cfb2200968f0e997bb2394ffa3a242c4dd656e4a086bc3a0b939", func := "latchkey/latchkeylaw02.OctetsWrites", spec := "octetsWrites", inPlace := ["math.Float32bits"], apart := false }
def OctetsWritesSaid : Prop := octetsWritesRow.holds Try.pinned (OpenSpec.ofChange octetsWritesSpec)

/-- ITS FALSE NEIGHBOUR: 'it returns false'. Refute it at one input. -/
def octetsWritesWrong : ChangeSpec := { name := "octetsWrites", fn := fun _ => fun
  | [d] => { results := [.lit (.bool false)], args := [d] }
  | _ => none }
def OctetsWritesWrongFalsely : Prop := octetsWritesRow.holds Try.pinned (OpenSpec.ofChange octetsWritesWrong)

/-- 'latchkeylaw02.OctetsSums': WHATEVER THE INPUT: true; the input reads as it did. -/
def octetsSumsSpec : ChangeSpec := { name := "octetsSums", fn := fun _ => fun
  | [d1, d2] => { results := [.lit (.bool true)], args := [d1, d2] }
  | _ => none }
def octetsSumsRow : OpenClaim := { program := "ytkjkmaopifmghaa", sum := "efe33601a656cfb2200968f0e997bb2394ffa3a242c4dd656e4a086bc3a0b939", func := "latchkey/latchkeylaw02.OctetsSums", spec := "octetsSums", apart := false }
def OctetsSumsSaid : Prop := octetsSumsRow.holds Try.pinned (OpenSpec.ofChange octetsSumsSpec)

/-- ITS FALSE NEIGHBOUR: 'it returns false'. Refute it at one input. -/
def octetsSumsWrong : ChangeSpec := { name := "octetsSums", fn := fun _ => fun
  | [d1, d2] => { results := [.lit (.bool false)], args := [d1, d2] }
  | _ => none }
def OctetsSumsWrongFalsely : Prop := octetsSumsRow.holds Try.pinned (OpenSpec.ofChange octetsSumsWrong)

/-- 'latchkeylaw02.OctetsArmored': WHATEVER THE INPUT: true; the input reads as it did. -/
def octetsArmoredSpec : ChangeSpec := { name := "octetsArmored", fn := fun _ => fun
  | [d1, d2, d3] => { results := [.lit (.bool true)], args := [d1, d2, d3] }
  | _ => none }
def octetsArmoredRow : OpenClaim := { program := "ytkjkmaopifmghaa", sum := "efe33601a656cfb2200968f0e997bb2394ffa3a242c4dd656e4a086bc3a0b939", func := "latchkey/latchkeylaw02.OctetsArmored", spec := "octetsArmored", apart := false }
def OctetsArmoredSaid : Prop := octetsArmoredRow.holds Try.pinned (OpenSpec.ofChange octetsArmoredSpec)

/-- ITS FALSE NEIGHBOUR: 'it returns false'. Refute it at one input. -/
def octetsArmoredWrong : ChangeSpec := { name := "octetsArmored", fn := fun _ => fun
  | [d1, d2, d3] => { results := [.lit (.bool false)], args := [d1, d2, d3] }
  | _ => none }
def OctetsArmoredWrongFalsely : Prop := octetsArmoredRow.holds Try.pinned (OpenSpec.ofChange octetsArmoredWrong)

/-- 'latchkeylaw02.OctetsForms': WHATEVER THE INPUT: true; the input reads as it did. -/
def octetsFormsSpec : ChangeSpec := { name := "octetsForms", fn := fun _ => fun
  | [d1, d2] => { results := [.lit (.bool true)], args := [d1, d2] }
  | _ => none }
def octetsFormsRow : OpenClaim := { program := "ytkjkmaopifmghaa", sum := "efe33601a656cfb2200968f0e997bb2394ffa3a242c4dd656e4a086bc3a0b939", func := "latchkey/latchkeylaw02.OctetsForms", spec := "octetsForms", inPlace := ["math.Float32frombits", "math.Float32bits"], apart := false }
def OctetsFormsSaid : Prop := octetsFormsRow.holds Try.pinned (OpenSpec.ofChange octetsFormsSpec)

/-- ITS FALSE NEIGHBOUR: 'it returns false'. Refute it at one input. -/
def octetsFormsWrong : ChangeSpec := { name := "octetsForms", fn := fun _ => fun
  | [d1, d2] => { results := [.lit (.bool false)], args := [d1, d2] }
  | _ => none }
def OctetsFormsWrongFalsely : Prop := octetsFormsRow.holds Try.pinned (OpenSpec.ofChange octetsFormsWrong)

/-- 'latchkeylaw02.OctetsReads': WHATEVER THE INPUT: true; the input reads as it did. -/
def octetsReadsSpec : ChangeSpec := { name := "octetsReads", fn := fun _ => fun
  | [d1, d2, d3] => { results := [.lit (.bool true)], args := [d1, d2, d3] }
  | _ => none }
def octetsReadsRow : OpenClaim := { program := "ytkjkmaopifmghaa", sum := "efe33601a656cfb2200968f0e997bb2394ffa3a242c4dd656e4a086bc3a0b939", func := "latchkey/latchkeylaw02.OctetsReads", spec := "octetsReads", inPlace := ["math.Float32frombits", "math.Float32bits"], apart := false }
def OctetsReadsSaid : Prop := octetsReadsRow.holds Try.pinned (OpenSpec.ofChange octetsReadsSpec)

/-- ITS FALSE NEIGHBOUR: 'it returns false'. Refute it at one input. -/
def octetsReadsWrong : ChangeSpec := { name := "octetsReads", fn := fun _ => fun
  | [d1, d2, d3] => { results := [.lit (.bool false)], args := [d1, d2, d3] }
  | _ => none }
def OctetsReadsWrongFalsely : Prop := octetsReadsRow.holds Try.pinned (OpenSpec.ofChange octetsReadsWrong)

/-- 'latchkeylaw02.OctetsNone': WHATEVER THE INPUT: true; the input reads as it did. -/
def octetsNoneSpec : ChangeSpec := { name := "octetsNone", fn := fun _ => fun
  | [d] => { results := [.lit (.bool true)], args := [d] }
  | _ => none }
def octetsNoneRow : OpenClaim := { program := "ytkjkmaopifmghaa", sum := "efe33601a656cfb2200968f0e997bb2394ffa3a242c4dd656e4a086bc3a0b939", func := "latchkey/latchkeylaw02.OctetsNone", spec := "octetsNone", inPlace := ["math.Float32frombits", "math.Float32bits"], apart := false }
def OctetsNoneSaid : Prop := octetsNoneRow.holds Try.pinned (OpenSpec.ofChange octetsNoneSpec)

/-- ITS FALSE NEIGHBOUR: 'it returns false'. Refute it at one input. -/
def octetsNoneWrong : ChangeSpec := { name := "octetsNone", fn := fun _ => fun
  | [d] => { results := [.lit (.bool false)], args := [d] }
  | _ => none }
def OctetsNoneWrongFalsely : Prop := octetsNoneRow.holds Try.pinned (OpenSpec.ofChange octetsNoneWrong)

/-- 'latchkeylaw02.OctetsKeeps': WHATEVER THE INPUT: true; the input reads as it did. -/
def octetsKeepsSpec : ChangeSpec := { name := "octetsKeeps", fn := fun _ => fun
  | [d1, d2, d3] => { results := [.lit (.bool true)], args := [d1, d2, d3] }
  | _ => none }
def octetsKeepsRow : OpenClaim := { program := "ytkjkmaopifmghaa", sum := "efe33601a656cfb2200968f0e997bb2394ffa3a242c4dd656e4a086bc3a0b939", func := "latchkey/latchkeylaw02.OctetsKeeps", spec := "octetsKeeps", inPlace := ["math.Float32bits"], apart := false }
def OctetsKeepsSaid : Prop := octetsKeepsRow.holds Try.pinned (OpenSpec.ofChange octetsKeepsSpec)

/-- ITS FALSE NEIGHBOUR: 'it returns false'. Refute it at one input. -/
def octetsKeepsWrong : ChangeSpec := { name := "octetsKeeps", fn := fun _ => fun
  | [d1, d2, d3] => { results := [.lit (.bool false)], args := [d1, d2, d3] }
  | _ => none }
def OctetsKeepsWrongFalsely : Prop := octetsKeepsRow.holds Try.pinned (OpenSpec.ofChange octetsKeepsWrong)

/-- 'latchkeylaw02.OctetsThere': WHATEVER THE INPUT: true; the input reads as it did. -/
def octetsThereSpec : ChangeSpec := { name := "octetsThere", fn := fun _ => fun
  | [d1, d2, d3] => { results := [.lit (.bool true)], args := [d1, d2, d3] }
  | _ => none }
def octetsThereRow : OpenClaim := { program := "ytkjkmaopifmghaa", sum := "efe33601a656cfb2200968f0e997bb2394ffa3a242c4dd656e4a086bc3a0b939", func := "latchkey/latchkeylaw02.OctetsThere", spec := "octetsThere", inPlace := ["math.Float32bits", "math.Float32frombits"], apart := false }
def OctetsThereSaid : Prop := octetsThereRow.holds Try.pinned (OpenSpec.ofChange octetsThereSpec)

/-- ITS FALSE NEIGHBOUR: 'it returns false'. Refute it at one input. -/
def octetsThereWrong : ChangeSpec := { name := "octetsThere", fn := fun _ => fun
  | [d1, d2, d3] => { results := [.lit (.bool false)], args := [d1, d2, d3] }
  | _ => none }
def OctetsThereWrongFalsely : Prop := octetsThereRow.holds Try.pinned (OpenSpec.ofChange octetsThereWrong)

/- THE SECOND FORM. 'bulk': how many values and letters a reading holds, each counted each time it is reached (what is shared counts as often as it is met; a slice's spare places count too). A statement '..UptoSaid' is the law's where the arguments, and the package variables that the reading takes, are together of bulk at most 1048576: NARROWER than '..Said'. Prove '..Said' where nothing that the law and all that it calls make is longer than what came in: it says more and counts as full. Else prove '..UptoSaid'. A law counts once. -/
mutual
def uptoBulk {H : Type} : DataW H → Nat
  | .lit (.string bytes) => bytes.length + 1
  | .lit _ => 1
  | .nil => 1
  | .ptr d => uptoBulk d + 1
  | .slice elems spare => uptoBulkAll elems + uptoBulkAll spare + 1
  | .agg parts => uptoBulkAll parts + 1
  | .iface _ d => uptoBulk d + 1
  | .map entries => uptoBulkEntries entries + 1
  | .held _ => 1
def uptoBulkAll {H : Type} : List (DataW H) → Nat
  | [] => 0
  | d :: r => uptoBulk d + uptoBulkAll r
def uptoBulkEntries {H : Type} : List (Lit × DataW H) → Nat
  | [] => 0
  | x :: r => uptoBulkEntry x + uptoBulkEntries r
def uptoBulkEntry {H : Type} : Lit × DataW H → Nat
  | (.string bytes, d) => bytes.length + uptoBulk d + 1
  | (_, d) => uptoBulk d + 1
 end
def uptoSmall : (H : Type) → List (DataW H) → Bool := fun _ ds => decide (uptoBulkAll ds ≤ 1048576)
def OpenSpec.upto (s : _root_.Go.ChangeSpec) : _root_.Go.OpenSpec := { _root_.Go.OpenSpec.ofChange s with cond := some uptoSmall }

/-- 'latchkeylaw02.OctetsSteps', WHERE WHAT IT READS IS OF BULK AT MOST 1048576: true; the input reads as it did. -/
def octetsStepsUptoRow : OpenClaim := { program := "ytkjkmaopifmghaa", sum := "efe33601a656cfb2200968f0e997bb2394ffa3a242c4dd656e4a086bc3a0b939", func := "latchkey/latchkeylaw02.OctetsSteps", spec := "octetsSteps", apart := false, narrowed := true }
def OctetsStepsUptoSaid : Prop := octetsStepsUptoRow.holds Try.pinned (OpenSpec.upto octetsStepsSpec)

/-- 'latchkeylaw02.OctetsWrites', WHERE WHAT IT READS IS OF BULK AT MOST 1048576: true; the input reads as it did. -/
def octetsWritesUptoRow : OpenClaim := { program := "ytkjkmaopifmghaa", sum := "efe33601a656cfb2200968f0e997bb2394ffa3a242c4dd656e4a086bc3a0b939", func := "latchkey/latchkeylaw02.OctetsWrites", spec := "octetsWrites", inPlace := ["math.Float32bits"], apart := false, narrowed := true }
def OctetsWritesUptoSaid : Prop := octetsWritesUptoRow.holds Try.pinned (OpenSpec.upto octetsWritesSpec)

/-- 'latchkeylaw02.OctetsSums', WHERE WHAT IT READS IS OF BULK AT MOST 1048576: true; the input reads as it did. -/
def octetsSumsUptoRow : OpenClaim := { program := "ytkjkmaopifmghaa", sum := "efe33601a656cfb2200968f0e997bb2394ffa3a242c4dd656e4a086bc3a0b939", func := "latchkey/latchkeylaw02.OctetsSums", spec := "octetsSums", apart := false, narrowed := true }
def OctetsSumsUptoSaid : Prop := octetsSumsUptoRow.holds Try.pinned (OpenSpec.upto octetsSumsSpec)

/-- 'latchkeylaw02.OctetsArmored', WHERE WHAT IT READS IS OF BULK AT MOST 1048576: true; the input reads as it did. -/
def octetsArmoredUptoRow : OpenClaim := { program := "ytkjkmaopifmghaa", sum := "efe33601a656cfb2200968f0e997bb2394ffa3a242c4dd656e4a086bc3a0b939", func := "latchkey/latchkeylaw02.OctetsArmored", spec := "octetsArmored", apart := false, narrowed := true }
def OctetsArmoredUptoSaid : Prop := octetsArmoredUptoRow.holds Try.pinned (OpenSpec.upto octetsArmoredSpec)

/-- 'latchkeylaw02.OctetsForms', WHERE WHAT IT READS IS OF BULK AT MOST 1048576: true; the input reads as it did. -/
def octetsFormsUptoRow : OpenClaim := { program := "ytkjkmaopifmghaa", sum := "efe33601a656cfb2200968f0e997bb2394ffa3a242c4dd656e4a086bc3a0b939", func := "latchkey/latchkeylaw02.OctetsForms", spec := "octetsForms", inPlace := ["math.Float32frombits", "math.Float32bits"], apart := false, narrowed := true }
def OctetsFormsUptoSaid : Prop := octetsFormsUptoRow.holds Try.pinned (OpenSpec.upto octetsFormsSpec)

/-- 'latchkeylaw02.OctetsReads', WHERE WHAT IT READS IS OF BULK AT MOST 1048576: true; the input reads as it did. -/
def octetsReadsUptoRow : OpenClaim := { program := "ytkjkmaopifmghaa", sum := "efe33601a656cfb2200968f0e997bb2394ffa3a242c4dd656e4a086bc3a0b939", func := "latchkey/latchkeylaw02.OctetsReads", spec := "octetsReads", inPlace := ["math.Float32frombits", "math.Float32bits"], apart := false, narrowed := true }
def OctetsReadsUptoSaid : Prop := octetsReadsUptoRow.holds Try.pinned (OpenSpec.upto octetsReadsSpec)

/-- 'latchkeylaw02.OctetsNone', WHERE WHAT IT READS IS OF BULK AT MOST 1048576: true; the input reads as it did. -/
def octetsNoneUptoRow : OpenClaim := { program := "ytkjkmaopifmghaa", sum := "efe33601a656cfb2200968f0e997bb2394ffa3a242c4dd656e4a086bc3a0b939", func := "latchkey/latchkeylaw02.OctetsNone", spec := "octetsNone", inPlace := ["math.Float32frombits", "math.Float32bits"], apart := false, narrowed := true }
def OctetsNoneUptoSaid : Prop := octetsNoneUptoRow.holds Try.pinned (OpenSpec.upto octetsNoneSpec)

/-- 'latchkeylaw02.OctetsKeeps', WHERE WHAT IT READS IS OF BULK AT MOST 1048576: true; the input reads as it did. -/
def octetsKeepsUptoRow : OpenClaim := { program := "ytkjkmaopifmghaa", sum := "efe33601a656cfb2200968f0e997bb2394ffa3a242c4dd656e4a086bc3a0b939", func := "latchkey/latchkeylaw02.OctetsKeeps", spec := "octetsKeeps", inPlace := ["math.Float32bits"], apart := false, narrowed := true }
def OctetsKeepsUptoSaid : Prop := octetsKeepsUptoRow.holds Try.pinned (OpenSpec.upto octetsKeepsSpec)

/-- 'latchkeylaw02.OctetsThere', WHERE WHAT IT READS IS OF BULK AT MOST 1048576: true; the input reads as it did. -/
def octetsThereUptoRow : OpenClaim := { program := "ytkjkmaopifmghaa", sum := "efe33601a656cfb2200968f0e997bb2394ffa3a242c4dd656e4a086bc3a0b939", func := "latchkey/latchkeylaw02.OctetsThere", spec := "octetsThere", inPlace := ["math.Float32bits", "math.Float32frombits"], apart := false, narrowed := true }
def OctetsThereUptoSaid : Prop := octetsThereUptoRow.holds Try.pinned (OpenSpec.upto octetsThereSpec)

end Rows
end Go.Proofs.Ytkjkmaopifmghaa
