/-
  NARROWER THAN 'FOR EVERY INPUT', by the rows' own cells (each row's printed sentence says how): IdentNames: laid · IdentTexts: laid · IdentKinds: laid · IdentSubjects: laid · IdentObjects: laid.
  DERIVED. THE GIVEN ROWS OF THIS SEAT. 5 by the template 'for every input the law returns true; each argument reads behind the call as it read before'; 0 by the template 'total and deterministic' (their statements: YtdeagmenlijieaaDoorTotals.lean).
  GIVEN WITH THE SEED: the statements are not yours to turn. If you find one false, say at which input.
  Laid BY PROGRAM, IN A SANDBOX (cutbox-rows.mjs): the forced cells as the released guide's own fill.sh prints them over the translation 568aba169a2ae1ae… (all of the seat's roots in one cut). By AI agents, Wed Nov 11 2026. No macro, syntax, notation, axiom, sorry.
-/
import Derived.Test.YtdeagmenlijieaaDoorChecked
import GoSem.Claim
import GoSem.ClaimJoined
import GoSem.ClaimMapViews
import Derived.JoinedTies
import Derived.KernelRfl
namespace Go.Proofs.YtdeagmenlijieaaDoor
/- THE CELL 'sum', in the pinned program and in every row, IS THE sha256 OF THE DUMP (.gsa) THAT YtdeagmenlijieaaDoorProg.lean LOADS. Nothing in Lean hashes anything: it is a label: what it is worth is what the hold of that sum in a sandbox is worth. -/
noncomputable def Tryd.pinned : Pinned := { name := "ytdeagmenlijieaadoor", sum := "568aba169a2ae1ae7d9c15c7ce69595981276f23375cb4b06ed16efc59cb5c6e", checked := Tryd.checked }
namespace Rows
def none {H : Type} : Left H := { results := [], args := [] }

/- WHAT THE LISTED PACKAGE-LEVEL VARIABLES READ AS WHEN THE CALL BEGINS. Each datum BY PROGRAM (the guide's laid-datum.mjs) off the statement by which the dump's own 'gosem.cut.vars' lays the variable. In a bare row this is a premise. The card (YtdeagmenlijieaaDoorCards.lean) ties it to the program's text. -/
def laid_latchkey_latchkeyref01_words {H : Type} : DataW H := .agg [.lit (.string [116, 121, 112, 101]), .lit (.string [114, 101, 108, 97, 116, 105, 111, 110]), .lit (.string [99, 111, 110, 100]), .lit (.string [111, 114]), .lit (.string [97, 110, 100]), .lit (.string [110, 111, 116]), .lit (.string [102, 114, 111, 109]), .lit (.string [119, 105, 116, 104]), .lit (.string [105, 110]), .lit (.string [116, 114, 117, 101]), .lit (.string [102, 97, 108, 115, 101]), .lit (.string [110, 97, 110]), .lit (.string [105, 110, 102])]

/-- 'latchkeylaw01.IdentNames': WHATEVER THE INPUT: true; the input reads as it did. -/
def identNamesSpec : ChangeSpec := { name := "identNames", fn := fun _ => fun
  | [d] => { results := [.lit (.bool true)], args := [d] }
  | _ => none }
def identNamesRow : OpenClaim := { program := "ytdeagmenlijieaadoor", sum := "568aba169a2ae1ae7d9c15c7ce69595981276f23375cb4b06ed16efc59cb5c6e", func := "latchkey/latchkeylaw01.IdentNames", spec := "identNames", named := ["latchkey/latchkeyref01.words"], apart := false, laid := [("latchkey/latchkeyref01.words", laid_latchkey_latchkeyref01_words)] }
def IdentNamesSaid : Prop := identNamesRow.holds Tryd.pinned (OpenSpec.ofChange identNamesSpec)

/-- ITS FALSE NEIGHBOUR: 'it returns false'. Refute it at one input. -/
def identNamesWrong : ChangeSpec := { name := "identNames", fn := fun _ => fun
  | [d] => { results := [.lit (.bool false)], args := [d] }
  | _ => none }
def IdentNamesWrongFalsely : Prop := identNamesRow.holds Tryd.pinned (OpenSpec.ofChange identNamesWrong)

/-- 'latchkeylaw01.IdentTexts': WHATEVER THE INPUT: true; the input reads as it did. -/
def identTextsSpec : ChangeSpec := { name := "identTexts", fn := fun _ => fun
  | [d1, d2] => { results := [.lit (.bool true)], args := [d1, d2] }
  | _ => none }
def identTextsRow : OpenClaim := { program := "ytdeagmenlijieaadoor", sum := "568aba169a2ae1ae7d9c15c7ce69595981276f23375cb4b06ed16efc59cb5c6e", func := "latchkey/latchkeylaw01.IdentTexts", spec := "identTexts", named := ["latchkey/latchkeyref01.words"], apart := false, laid := [("latchkey/latchkeyref01.words", laid_latchkey_latchkeyref01_words)] }
def IdentTextsSaid : Prop := identTextsRow.holds Tryd.pinned (OpenSpec.ofChange identTextsSpec)

/-- ITS FALSE NEIGHBOUR: 'it returns false'. Refute it at one input. -/
def identTextsWrong : ChangeSpec := { name := "identTexts", fn := fun _ => fun
  | [d1, d2] => { results := [.lit (.bool false)], args := [d1, d2] }
  | _ => none }
def IdentTextsWrongFalsely : Prop := identTextsRow.holds Tryd.pinned (OpenSpec.ofChange identTextsWrong)

/-- 'latchkeylaw01.IdentKinds': WHATEVER THE INPUT: true; the input reads as it did. -/
def identKindsSpec : ChangeSpec := { name := "identKinds", fn := fun _ => fun
  | [d] => { results := [.lit (.bool true)], args := [d] }
  | _ => none }
def identKindsRow : OpenClaim := { program := "ytdeagmenlijieaadoor", sum := "568aba169a2ae1ae7d9c15c7ce69595981276f23375cb4b06ed16efc59cb5c6e", func := "latchkey/latchkeylaw01.IdentKinds", spec := "identKinds", named := ["latchkey/latchkeyref01.words"], apart := false, laid := [("latchkey/latchkeyref01.words", laid_latchkey_latchkeyref01_words)] }
def IdentKindsSaid : Prop := identKindsRow.holds Tryd.pinned (OpenSpec.ofChange identKindsSpec)

/-- ITS FALSE NEIGHBOUR: 'it returns false'. Refute it at one input. -/
def identKindsWrong : ChangeSpec := { name := "identKinds", fn := fun _ => fun
  | [d] => { results := [.lit (.bool false)], args := [d] }
  | _ => none }
def IdentKindsWrongFalsely : Prop := identKindsRow.holds Tryd.pinned (OpenSpec.ofChange identKindsWrong)

/-- 'latchkeylaw01.IdentSubjects': WHATEVER THE INPUT: true; the input reads as it did. -/
def identSubjectsSpec : ChangeSpec := { name := "identSubjects", fn := fun _ => fun
  | [d] => { results := [.lit (.bool true)], args := [d] }
  | _ => none }
def identSubjectsRow : OpenClaim := { program := "ytdeagmenlijieaadoor", sum := "568aba169a2ae1ae7d9c15c7ce69595981276f23375cb4b06ed16efc59cb5c6e", func := "latchkey/latchkeylaw01.IdentSubjects", spec := "identSubjects", inPlace := ["internal/bytealg.IndexByteString", "internal/bytealg.IndexString"], named := ["internal/bytealg.MaxLen", "latchkey/latchkeyref01.words"], apart := false, laid := [("latchkey/latchkeyref01.words", laid_latchkey_latchkeyref01_words)] }
def IdentSubjectsSaid : Prop := identSubjectsRow.holds Tryd.pinned (OpenSpec.ofChange identSubjectsSpec)

/-- ITS FALSE NEIGHBOUR: 'it returns false'. Refute it at one input. -/
def identSubjectsWrong : ChangeSpec := { name := "identSubjects", fn := fun _ => fun
  | [d] => { results := [.lit (.bool false)], args := [d] }
  | _ => none }
def IdentSubjectsWrongFalsely : Prop := identSubjectsRow.holds Tryd.pinned (OpenSpec.ofChange identSubjectsWrong)

/-- 'latchkeylaw01.IdentObjects': WHATEVER THE INPUT: true; the input reads as it did. -/
def identObjectsSpec : ChangeSpec := { name := "identObjects", fn := fun _ => fun
  | [d] => { results := [.lit (.bool true)], args := [d] }
  | _ => none }
def identObjectsRow : OpenClaim := { program := "ytdeagmenlijieaadoor", sum := "568aba169a2ae1ae7d9c15c7ce69595981276f23375cb4b06ed16efc59cb5c6e", func := "latchkey/latchkeylaw01.IdentObjects", spec := "identObjects", inPlace := ["internal/bytealg.IndexByteString", "internal/bytealg.IndexString"], named := ["internal/bytealg.MaxLen", "latchkey/latchkeyref01.words"], apart := false, laid := [("latchkey/latchkeyref01.words", laid_latchkey_latchkeyref01_words)] }
def IdentObjectsSaid : Prop := identObjectsRow.holds Tryd.pinned (OpenSpec.ofChange identObjectsSpec)

/-- ITS FALSE NEIGHBOUR: 'it returns false'. Refute it at one input. -/
def identObjectsWrong : ChangeSpec := { name := "identObjects", fn := fun _ => fun
  | [d] => { results := [.lit (.bool false)], args := [d] }
  | _ => none }
def IdentObjectsWrongFalsely : Prop := identObjectsRow.holds Tryd.pinned (OpenSpec.ofChange identObjectsWrong)

/- THE SECOND FORM. 'bulk': how many values and letters a reading holds, each counted each time it is reached (what is shared counts as often as it is met; a slice's spare places count too). A statement '..UptoSaid' is the law's where the arguments, and the package variables that the reading takes, are together of bulk at most 1048576: NARROWER than '..Said'. Prove '..Said' where nothing that the law and all that it calls make is longer than what came in: it says more and counts as full. Else prove '..UptoSaid'. A law counts once. -/
mutual
def uptoBulk {H : Type} : DataW H → Nat
  | .lit (.string bytes) => bytes.length + 1
  | .lit _ => 1
  | .nil => 1
  | .ptr d => uptoBulk d + 1
  | .slice elems spare => uptoBulkAll elems + uptoBulkAll spare + 1
  | .agg parts => uptoBulkAll parts + 1
  | .iface _ d => uptoBulk d + 1
  | .map entries => uptoBulkEntries entries + 1
  | .held _ => 1
def uptoBulkAll {H : Type} : List (DataW H) → Nat
  | [] => 0
  | d :: r => uptoBulk d + uptoBulkAll r
def uptoBulkEntries {H : Type} : List (Lit × DataW H) → Nat
  | [] => 0
  | x :: r => uptoBulkEntry x + uptoBulkEntries r
def uptoBulkEntry {H : Type} : Lit × DataW H → Nat
  | (.string bytes, d) => bytes.length + uptoBulk d + 1
  | (_, d) => uptoBulk d + 1
 end
def uptoSmall : (H : Type) → List (DataW H) → Bool := fun _ ds => decide (uptoBulkAll ds ≤ 1048576)
def OpenSpec.upto (s : _root_.Go.ChangeSpec) : _root_.Go.OpenSpec := { _root_.Go.OpenSpec.ofChange s with cond := some uptoSmall }

/-- 'latchkeylaw01.IdentNames', WHERE WHAT IT READS IS OF BULK AT MOST 1048576: true; the input reads as it did. -/
def identNamesUptoRow : OpenClaim := { program := "ytdeagmenlijieaadoor", sum := "568aba169a2ae1ae7d9c15c7ce69595981276f23375cb4b06ed16efc59cb5c6e", func := "latchkey/latchkeylaw01.IdentNames", spec := "identNames", named := ["latchkey/latchkeyref01.words"], apart := false, laid := [("latchkey/latchkeyref01.words", laid_latchkey_latchkeyref01_words)], narrowed := true }
def IdentNamesUptoSaid : Prop := identNamesUptoRow.holds Tryd.pinned (OpenSpec.upto identNamesSpec)

/-- 'latchkeylaw01.IdentTexts', WHERE WHAT IT READS IS OF BULK AT MOST 1048576: true; the input reads as it did. -/
def identTextsUptoRow : OpenClaim := { program := "ytdeagmenlijieaadoor", sum := "568aba169a2ae1ae7d9c15c7ce69595981276f23375cb4b06ed16efc59cb5c6e", func := "latchkey/latchkeylaw01.IdentTexts", spec := "identTexts", named := ["latchkey/latchkeyref01.words"], apart := false, laid := [("latchkey/latchkeyref01.words", laid_latchkey_latchkeyref01_words)], narrowed := true }
def IdentTextsUptoSaid : Prop := identTextsUptoRow.holds Tryd.pinned (OpenSpec.upto identTextsSpec)

/-- 'latchkeylaw01.IdentKinds', WHERE WHAT IT READS IS OF BULK AT MOST 1048576: true; the input reads as it did. -/
def identKindsUptoRow : OpenClaim := { program := "ytdeagmenlijieaadoor", sum := "568aba169a2ae1ae7d9c15c7ce69595981276f23375cb4b06ed16efc59cb5c6e", func := "latchkey/latchkeylaw01.IdentKinds", spec := "identKinds", named := ["latchkey/latchkeyref01.words"], apart := false, laid := [("latchkey/latchkeyref01.words", laid_latchkey_latchkeyref01_words)], narrowed := true }
def IdentKindsUptoSaid : Prop := identKindsUptoRow.holds Tryd.pinned (OpenSpec.upto identKindsSpec)

/-- 'latchkeylaw01.IdentSubjects', WHERE WHAT IT READS IS OF BULK AT MOST 1048576: true; the input reads as it did. -/
def identSubjectsUptoRow : OpenClaim := { program := "ytdeagmenlijieaadoor", sum := "568aba169a2ae1ae7d9c15c7ce69595981276f23375cb4b06ed16efc59cb5c6e", func := "latchkey/latchkeylaw01.IdentSubjects", spec := "identSubjects", inPlace := ["internal/bytealg.IndexByteString", "internal/bytealg.IndexString"], named := ["internal/bytealg.MaxLen", "latchkey/latchkeyref01.words"], apart := false, laid := [("latchkey/latchkeyref01.words", laid_latchkey_latchkeyref01_words)], narrowed := true }
def IdentSubjectsUptoSaid : Prop := identSubjectsUptoRow.holds Tryd.pinned (OpenSpec.upto identSubjectsSpec)

/-- 'latchkeylaw01.IdentObjects', WHERE WHAT IT READS IS OF BULK AT MOST 1048576: true; the input reads as it did. -/
def identObjectsUptoRow : OpenClaim := { program := "ytdeagmenlijieaadoor", sum := "568aba169a2ae1ae7d9c15c7ce69595981276f23375cb4b06ed16efc59cb5c6e", func := "latchkey/latchkeylaw01.IdentObjects", spec := "identObjects", inPlace := ["internal/bytealg.IndexByteString", "internal/bytealg.IndexString"], named := ["internal/bytealg.MaxLen", "latchkey/latchkeyref01.words"], apart := false, laid := [("latchkey/latchkeyref01.words", laid_latchkey_latchkeyref01_words)], narrowed := true }
def IdentObjectsUptoSaid : Prop := identObjectsUptoRow.holds Tryd.pinned (OpenSpec.upto identObjectsSpec)

end Rows
end Go.Proofs.YtdeagmenlijieaaDoor
