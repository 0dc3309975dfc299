/-
  NARROWER THAN 'FOR EVERY INPUT', by the rows' own cells (each row's printed sentence says how): GroupsNumbers: laid · GroupsPlays: laid · GroupsTells: laid · GroupsCloses: laid · GroupsTurns: laid · GroupsSpares: laid.
  DERIVED. THE GIVEN ROWS OF THIS SEAT. 6 by the template 'for every input the law returns true; each argument reads behind the call as it read before'; 0 by the template 'total and deterministic' (their statements: YtmldefednihohaaDoorTotals.lean).
  GIVEN WITH THE SEED: the statements are not yours to turn. If you find one false, say at which input.
  Laid BY PROGRAM, IN A SANDBOX (cutbox-rows.mjs): the forced cells as the released guide's own fill.sh prints them over the translation ce8db85c95409b46… (all of the seat's roots in one cut). By AI agents, Wed Nov 11 2026. No macro, syntax, notation, axiom, sorry.
-/
import Derived.Test.YtmldefednihohaaDoorChecked
import GoSem.Claim
import GoSem.ClaimJoined
import GoSem.ClaimMapViews
import Derived.JoinedTies
import Derived.KernelRfl
namespace Go.Proofs.YtmldefednihohaaDoor
/- THE CELL 'sum', in the pinned program and in every row, IS THE sha256 OF THE DUMP (.gsa) THAT YtmldefednihohaaDoorProg.lean LOADS. Nothing in Lean hashes anything: it is a label: what it is worth is what the hold of that sum in a sandbox is worth. -/
noncomputable def Tryd.pinned : Pinned := { name := "ytmldefednihohaadoor", sum := "ce8db85c95409b468abcd5dc0f6e4b01782dd5eb1e96b76f4269e502e866717c", checked := Tryd.checked }
namespace Rows
def none {H : Type} : Left H := { results := [], args := [] }

/- WHAT THE LISTED PACKAGE-LEVEL VARIABLES READ AS WHEN THE CALL BEGINS. Each datum BY PROGRAM (the guide's laid-datum.mjs) off the statement by which the dump's own 'gosem.cut.vars' lays the variable. In a bare row this is a premise. The card (YtmldefednihohaaDoorCards.lean) ties it to the program's text. -/
def laid_math_bits_deBruijn64tab {H : Type} : DataW H := .agg [.lit (.int .u8 0), .lit (.int .u8 1), .lit (.int .u8 56), .lit (.int .u8 2), .lit (.int .u8 57), .lit (.int .u8 49), .lit (.int .u8 28), .lit (.int .u8 3), .lit (.int .u8 61), .lit (.int .u8 58), .lit (.int .u8 42), .lit (.int .u8 50), .lit (.int .u8 38), .lit (.int .u8 29), .lit (.int .u8 17), .lit (.int .u8 4), .lit (.int .u8 62), .lit (.int .u8 47), .lit (.int .u8 59), .lit (.int .u8 36), .lit (.int .u8 45), .lit (.int .u8 43), .lit (.int .u8 51), .lit (.int .u8 22), .lit (.int .u8 53), .lit (.int .u8 39), .lit (.int .u8 33), .lit (.int .u8 30), .lit (.int .u8 24), .lit (.int .u8 18), .lit (.int .u8 12), .lit (.int .u8 5), .lit (.int .u8 63), .lit (.int .u8 55), .lit (.int .u8 48), .lit (.int .u8 27), .lit (.int .u8 60), .lit (.int .u8 41), .lit (.int .u8 37), .lit (.int .u8 16), .lit (.int .u8 46), .lit (.int .u8 35), .lit (.int .u8 44), .lit (.int .u8 21), .lit (.int .u8 52), .lit (.int .u8 32), .lit (.int .u8 23), .lit (.int .u8 11), .lit (.int .u8 54), .lit (.int .u8 26), .lit (.int .u8 40), .lit (.int .u8 15), .lit (.int .u8 34), .lit (.int .u8 20), .lit (.int .u8 31), .lit (.int .u8 10), .lit (.int .u8 25), .lit (.int .u8 14), .lit (.int .u8 19), .lit (.int .u8 9), .lit (.int .u8 13), .lit (.int .u8 8), .lit (.int .u8 7), .lit (.int .u8 6)]

/-- 'latchkeylaw22.GroupsNumbers': WHATEVER THE INPUT: true; the input reads as it did. -/
def groupsNumbersSpec : ChangeSpec := { name := "groupsNumbers", fn := fun _ => fun
  | [] => { results := [.lit (.bool true)], args := [] }
  | _ => none }
def groupsNumbersRow : OpenClaim := { program := "ytmldefednihohaadoor", sum := "ce8db85c95409b468abcd5dc0f6e4b01782dd5eb1e96b76f4269e502e866717c", func := "latchkey/latchkeylaw22.GroupsNumbers", spec := "groupsNumbers", named := ["math/bits.deBruijn64tab"], apart := false, laid := [("math/bits.deBruijn64tab", laid_math_bits_deBruijn64tab)] }
def GroupsNumbersSaid : Prop := groupsNumbersRow.holds Tryd.pinned (OpenSpec.ofChange groupsNumbersSpec)

/-- ITS FALSE NEIGHBOUR: 'it returns false'. Refute it at one input. -/
def groupsNumbersWrong : ChangeSpec := { name := "groupsNumbers", fn := fun _ => fun
  | [] => { results := [.lit (.bool false)], args := [] }
  | _ => none }
def GroupsNumbersWrongFalsely : Prop := groupsNumbersRow.holds Tryd.pinned (OpenSpec.ofChange groupsNumbersWrong)

/-- 'latchkeylaw22.GroupsPlays': WHATEVER THE INPUT: true; the input reads as it did. -/
def groupsPlaysSpec : ChangeSpec := { name := "groupsPlays", fn := fun _ => fun
  | [d1, d2, d3] => { results := [.lit (.bool true)], args := [d1, d2, d3] }
  | _ => none }
def groupsPlaysRow : OpenClaim := { program := "ytmldefednihohaadoor", sum := "ce8db85c95409b468abcd5dc0f6e4b01782dd5eb1e96b76f4269e502e866717c", func := "latchkey/latchkeylaw22.GroupsPlays", spec := "groupsPlays", named := ["math/bits.deBruijn64tab"], apart := false, laid := [("math/bits.deBruijn64tab", laid_math_bits_deBruijn64tab)] }
def GroupsPlaysSaid : Prop := groupsPlaysRow.holds Tryd.pinned (OpenSpec.ofChange groupsPlaysSpec)

/-- ITS FALSE NEIGHBOUR: 'it returns false'. Refute it at one input. -/
def groupsPlaysWrong : ChangeSpec := { name := "groupsPlays", fn := fun _ => fun
  | [d1, d2, d3] => { results := [.lit (.bool false)], args := [d1, d2, d3] }
  | _ => none }
def GroupsPlaysWrongFalsely : Prop := groupsPlaysRow.holds Tryd.pinned (OpenSpec.ofChange groupsPlaysWrong)

/-- 'latchkeylaw22.GroupsTells': WHATEVER THE INPUT: true; the input reads as it did. -/
def groupsTellsSpec : ChangeSpec := { name := "groupsTells", fn := fun _ => fun
  | [d1, d2] => { results := [.lit (.bool true)], args := [d1, d2] }
  | _ => none }
def groupsTellsRow : OpenClaim := { program := "ytmldefednihohaadoor", sum := "ce8db85c95409b468abcd5dc0f6e4b01782dd5eb1e96b76f4269e502e866717c", func := "latchkey/latchkeylaw22.GroupsTells", spec := "groupsTells", named := ["math/bits.deBruijn64tab"], apart := false, laid := [("math/bits.deBruijn64tab", laid_math_bits_deBruijn64tab)] }
def GroupsTellsSaid : Prop := groupsTellsRow.holds Tryd.pinned (OpenSpec.ofChange groupsTellsSpec)

/-- ITS FALSE NEIGHBOUR: 'it returns false'. Refute it at one input. -/
def groupsTellsWrong : ChangeSpec := { name := "groupsTells", fn := fun _ => fun
  | [d1, d2] => { results := [.lit (.bool false)], args := [d1, d2] }
  | _ => none }
def GroupsTellsWrongFalsely : Prop := groupsTellsRow.holds Tryd.pinned (OpenSpec.ofChange groupsTellsWrong)

/-- 'latchkeylaw22.GroupsCloses': WHATEVER THE INPUT: true; the input reads as it did. -/
def groupsClosesSpec : ChangeSpec := { name := "groupsCloses", fn := fun _ => fun
  | [d1, d2] => { results := [.lit (.bool true)], args := [d1, d2] }
  | _ => none }
def groupsClosesRow : OpenClaim := { program := "ytmldefednihohaadoor", sum := "ce8db85c95409b468abcd5dc0f6e4b01782dd5eb1e96b76f4269e502e866717c", func := "latchkey/latchkeylaw22.GroupsCloses", spec := "groupsCloses", named := ["math/bits.deBruijn64tab"], apart := false, laid := [("math/bits.deBruijn64tab", laid_math_bits_deBruijn64tab)] }
def GroupsClosesSaid : Prop := groupsClosesRow.holds Tryd.pinned (OpenSpec.ofChange groupsClosesSpec)

/-- ITS FALSE NEIGHBOUR: 'it returns false'. Refute it at one input. -/
def groupsClosesWrong : ChangeSpec := { name := "groupsCloses", fn := fun _ => fun
  | [d1, d2] => { results := [.lit (.bool false)], args := [d1, d2] }
  | _ => none }
def GroupsClosesWrongFalsely : Prop := groupsClosesRow.holds Tryd.pinned (OpenSpec.ofChange groupsClosesWrong)

/-- 'latchkeylaw22.GroupsTurns': WHATEVER THE INPUT: true; the input reads as it did. -/
def groupsTurnsSpec : ChangeSpec := { name := "groupsTurns", fn := fun _ => fun
  | [d1, d2, d3, d4, d5] => { results := [.lit (.bool true)], args := [d1, d2, d3, d4, d5] }
  | _ => none }
def groupsTurnsRow : OpenClaim := { program := "ytmldefednihohaadoor", sum := "ce8db85c95409b468abcd5dc0f6e4b01782dd5eb1e96b76f4269e502e866717c", func := "latchkey/latchkeylaw22.GroupsTurns", spec := "groupsTurns", named := ["math/bits.deBruijn64tab"], apart := false, laid := [("math/bits.deBruijn64tab", laid_math_bits_deBruijn64tab)] }
def GroupsTurnsSaid : Prop := groupsTurnsRow.holds Tryd.pinned (OpenSpec.ofChange groupsTurnsSpec)

/-- ITS FALSE NEIGHBOUR: 'it returns false'. Refute it at one input. -/
def groupsTurnsWrong : ChangeSpec := { name := "groupsTurns", fn := fun _ => fun
  | [d1, d2, d3, d4, d5] => { results := [.lit (.bool false)], args := [d1, d2, d3, d4, d5] }
  | _ => none }
def GroupsTurnsWrongFalsely : Prop := groupsTurnsRow.holds Tryd.pinned (OpenSpec.ofChange groupsTurnsWrong)

/-- 'latchkeylaw22.GroupsSpares': WHATEVER THE INPUT: true; the input reads as it did. -/
def groupsSparesSpec : ChangeSpec := { name := "groupsSpares", fn := fun _ => fun
  | [d1, d2, d3, d4] => { results := [.lit (.bool true)], args := [d1, d2, d3, d4] }
  | _ => none }
def groupsSparesRow : OpenClaim := { program := "ytmldefednihohaadoor", sum := "ce8db85c95409b468abcd5dc0f6e4b01782dd5eb1e96b76f4269e502e866717c", func := "latchkey/latchkeylaw22.GroupsSpares", spec := "groupsSpares", named := ["math/bits.deBruijn64tab"], apart := false, laid := [("math/bits.deBruijn64tab", laid_math_bits_deBruijn64tab)] }
def GroupsSparesSaid : Prop := groupsSparesRow.holds Tryd.pinned (OpenSpec.ofChange groupsSparesSpec)

/-- ITS FALSE NEIGHBOUR: 'it returns false'. Refute it at one input. -/
def groupsSparesWrong : ChangeSpec := { name := "groupsSpares", fn := fun _ => fun
  | [d1, d2, d3, d4] => { results := [.lit (.bool false)], args := [d1, d2, d3, d4] }
  | _ => none }
def GroupsSparesWrongFalsely : Prop := groupsSparesRow.holds Tryd.pinned (OpenSpec.ofChange groupsSparesWrong)

/- THE SECOND FORM. 'bulk': how many values and letters a reading holds, each counted each time it is reached (what is shared counts as often as it is met; a slice's spare places count too). A statement '..UptoSaid' is the law's where the arguments, and the package variables that the reading takes, are together of bulk at most 1048576: NARROWER than '..Said'. Prove '..Said' where nothing that the law and all that it calls make is longer than what came in: it says more and counts as full. Else prove '..UptoSaid'. A law counts once. -/
mutual
def uptoBulk {H : Type} : DataW H → Nat
  | .lit (.string bytes) => bytes.length + 1
  | .lit _ => 1
  | .nil => 1
  | .ptr d => uptoBulk d + 1
  | .slice elems spare => uptoBulkAll elems + uptoBulkAll spare + 1
  | .agg parts => uptoBulkAll parts + 1
  | .iface _ d => uptoBulk d + 1
  | .map entries => uptoBulkEntries entries + 1
  | .held _ => 1
def uptoBulkAll {H : Type} : List (DataW H) → Nat
  | [] => 0
  | d :: r => uptoBulk d + uptoBulkAll r
def uptoBulkEntries {H : Type} : List (Lit × DataW H) → Nat
  | [] => 0
  | x :: r => uptoBulkEntry x + uptoBulkEntries r
def uptoBulkEntry {H : Type} : Lit × DataW H → Nat
  | (.string bytes, d) => bytes.length + uptoBulk d + 1
  | (_, d) => uptoBulk d + 1
 end
def uptoSmall : (H : Type) → List (DataW H) → Bool := fun _ ds => decide (uptoBulkAll ds ≤ 1048576)
def OpenSpec.upto (s : _root_.Go.ChangeSpec) : _root_.Go.OpenSpec := { _root_.Go.OpenSpec.ofChange s with cond := some uptoSmall }

/-- 'latchkeylaw22.GroupsNumbers', WHERE WHAT IT READS IS OF BULK AT MOST 1048576: true; the input reads as it did. -/
def groupsNumbersUptoRow : OpenClaim := { program := "ytmldefednihohaadoor", sum := "ce8db85c95409b468abcd5dc0f6e4b01782dd5eb1e96b76f4269e502e866717c", func := "latchkey/latchkeylaw22.GroupsNumbers", spec := "groupsNumbers", named := ["math/bits.deBruijn64tab"], apart := false, laid := [("math/bits.deBruijn64tab", laid_math_bits_deBruijn64tab)], narrowed := true }
def GroupsNumbersUptoSaid : Prop := groupsNumbersUptoRow.holds Tryd.pinned (OpenSpec.upto groupsNumbersSpec)

/-- 'latchkeylaw22.GroupsPlays', WHERE WHAT IT READS IS OF BULK AT MOST 1048576: true; the input reads as it did. -/
def groupsPlaysUptoRow : OpenClaim := { program := "ytmldefednihohaadoor", sum := "ce8db85c95409b468abcd5dc0f6e4b01782dd5eb1e96b76f4269e502e866717c", func := "latchkey/latchkeylaw22.GroupsPlays", spec := "groupsPlays", named := ["math/bits.deBruijn64tab"], apart := false, laid := [("math/bits.deBruijn64tab", laid_math_bits_deBruijn64tab)], narrowed := true }
def GroupsPlaysUptoSaid : Prop := groupsPlaysUptoRow.holds Tryd.pinned (OpenSpec.upto groupsPlaysSpec)

/-- 'latchkeylaw22.GroupsTells', WHERE WHAT IT READS IS OF BULK AT MOST 1048576: true; the input reads as it did. -/
def groupsTellsUptoRow : OpenClaim := { program := "ytmldefednihohaadoor", sum := "ce8db85c95409b468abcd5dc0f6e4b01782dd5eb1e96b76f4269e502e866717c", func := "latchkey/latchkeylaw22.GroupsTells", spec := "groupsTells", named := ["math/bits.deBruijn64tab"], apart := false, laid := [("math/bits.deBruijn64tab", laid_math_bits_deBruijn64tab)], narrowed := true }
def GroupsTellsUptoSaid : Prop := groupsTellsUptoRow.holds Tryd.pinned (OpenSpec.upto groupsTellsSpec)

/-- 'latchkeylaw22.GroupsCloses', WHERE WHAT IT READS IS OF BULK AT MOST 1048576: true; the input reads as it did. -/
def groupsClosesUptoRow : OpenClaim := { program := "ytmldefednihohaadoor", sum := "ce8db85c95409b468abcd5dc0f6e4b01782dd5eb1e96b76f4269e502e866717c", func := "latchkey/latchkeylaw22.GroupsCloses", spec := "groupsCloses", named := ["math/bits.deBruijn64tab"], apart := false, laid := [("math/bits.deBruijn64tab", laid_math_bits_deBruijn64tab)], narrowed := true }
def GroupsClosesUptoSaid : Prop := groupsClosesUptoRow.holds Tryd.pinned (OpenSpec.upto groupsClosesSpec)

/-- 'latchkeylaw22.GroupsTurns', WHERE WHAT IT READS IS OF BULK AT MOST 1048576: true; the input reads as it did. -/
def groupsTurnsUptoRow : OpenClaim := { program := "ytmldefednihohaadoor", sum := "ce8db85c95409b468abcd5dc0f6e4b01782dd5eb1e96b76f4269e502e866717c", func := "latchkey/latchkeylaw22.GroupsTurns", spec := "groupsTurns", named := ["math/bits.deBruijn64tab"], apart := false, laid := [("math/bits.deBruijn64tab", laid_math_bits_deBruijn64tab)], narrowed := true }
def GroupsTurnsUptoSaid : Prop := groupsTurnsUptoRow.holds Tryd.pinned (OpenSpec.upto groupsTurnsSpec)

/-- 'latchkeylaw22.GroupsSpares', WHERE WHAT IT READS IS OF BULK AT MOST 1048576: true; the input reads as it did. -/
def groupsSparesUptoRow : OpenClaim := { program := "ytmldefednihohaadoor", sum := "ce8db85c95409b468abcd5dc0f6e4b01782dd5eb1e96b76f4269e502e866717c", func := "latchkey/latchkeylaw22.GroupsSpares", spec := "groupsSpares", named := ["math/bits.deBruijn64tab"], apart := false, laid := [("math/bits.deBruijn64tab", laid_math_bits_deBruijn64tab)], narrowed := true }
def GroupsSparesUptoSaid : Prop := groupsSparesUptoRow.holds Tryd.pinned (OpenSpec.upto groupsSparesSpec)

end Rows
end Go.Proofs.YtmldefednihohaaDoor
