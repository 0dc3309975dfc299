/-
  DERIVED. GIVEN WITH THE SEED: THE CARDS: each row of YtdeagmenlijieaaDoorRows.lean that lists a variable, with what it lists TIED to the program's text (the seventh form; the later family's looks); each row that meets fmt, with fmt's text TOLD by the authors' own Lean function (tested against real Go, not proved from fmt's source: count such statements apart). THE CARD IS WHAT COUNTS. Prove the row's statement (the work); the ties are given (YtdeagmenlijieaaDoorTie.lean); close each card by the builder's one call (the guide's Derived/Test/ToyasCard.lean, 'card_holds'). Laid BY PROGRAM, IN A SANDBOX (cutbox-door.mjs). By AI agents, Wed Nov 11 2026. No macro, syntax, notation, axiom, sorry.
-/
import Derived.Test.YtdeagmenlijieaaDoorRows
import GoSem.ClaimSeven
namespace Go.Proofs.YtdeagmenlijieaaDoor
namespace Rows

/-- THE TIED CARD OF 'latchkeylaw01.IdentNames'. -/
def identNamesCard : Claim7 := { stood := { row := identNamesRow, standIns := [], harness := (true, "df43a0ed44b19ea370cc1d4478db4db68cb04d04718d74c24166b5c08a8cef7a"), looks := false }, kinds := [], alts := [], laidByText := true, laidKinds := [.data], laidTests := true, laidLooks := .later }
def IdentNamesCardSaid : Prop := Claim7.holds Tryd.pinned (.plain (OpenSpec.ofChange identNamesSpec)) identNamesCard

/-- THE TIED CARD OF 'latchkeylaw01.IdentTexts'. -/
def identTextsCard : Claim7 := { stood := { row := identTextsRow, standIns := [], harness := (true, "df43a0ed44b19ea370cc1d4478db4db68cb04d04718d74c24166b5c08a8cef7a"), looks := false }, kinds := [], alts := [], laidByText := true, laidKinds := [.data], laidTests := true, laidLooks := .later }
def IdentTextsCardSaid : Prop := Claim7.holds Tryd.pinned (.plain (OpenSpec.ofChange identTextsSpec)) identTextsCard

/-- THE TIED CARD OF 'latchkeylaw01.IdentKinds'. -/
def identKindsCard : Claim7 := { stood := { row := identKindsRow, standIns := [], harness := (true, "df43a0ed44b19ea370cc1d4478db4db68cb04d04718d74c24166b5c08a8cef7a"), looks := false }, kinds := [], alts := [], laidByText := true, laidKinds := [.data], laidTests := true, laidLooks := .later }
def IdentKindsCardSaid : Prop := Claim7.holds Tryd.pinned (.plain (OpenSpec.ofChange identKindsSpec)) identKindsCard

/-- THE TIED CARD OF 'latchkeylaw01.IdentSubjects'. -/
def identSubjectsCard : Claim7 := { stood := { row := identSubjectsRow, standIns := [], harness := (true, "df43a0ed44b19ea370cc1d4478db4db68cb04d04718d74c24166b5c08a8cef7a"), looks := false }, kinds := [], alts := [], laidByText := true, laidKinds := [.data], laidTests := true, laidLooks := .later }
def IdentSubjectsCardSaid : Prop := Claim7.holds Tryd.pinned (.plain (OpenSpec.ofChange identSubjectsSpec)) identSubjectsCard

/-- THE TIED CARD OF 'latchkeylaw01.IdentObjects'. -/
def identObjectsCard : Claim7 := { stood := { row := identObjectsRow, standIns := [], harness := (true, "df43a0ed44b19ea370cc1d4478db4db68cb04d04718d74c24166b5c08a8cef7a"), looks := false }, kinds := [], alts := [], laidByText := true, laidKinds := [.data], laidTests := true, laidLooks := .later }
def IdentObjectsCardSaid : Prop := Claim7.holds Tryd.pinned (.plain (OpenSpec.ofChange identObjectsSpec)) identObjectsCard

/-- THE SECOND FORM's CARD OF 'latchkeylaw01.IdentNames'. -/
def identNamesUptoCard : Claim7 := { stood := { row := identNamesUptoRow, standIns := [], harness := (true, "df43a0ed44b19ea370cc1d4478db4db68cb04d04718d74c24166b5c08a8cef7a"), looks := false }, kinds := [], alts := [], laidByText := true, laidKinds := [.data], laidTests := true, laidLooks := .later }
def IdentNamesUptoCardSaid : Prop := Claim7.holds Tryd.pinned (.plain (OpenSpec.upto identNamesSpec)) identNamesUptoCard

/-- THE SECOND FORM's CARD OF 'latchkeylaw01.IdentTexts'. -/
def identTextsUptoCard : Claim7 := { stood := { row := identTextsUptoRow, standIns := [], harness := (true, "df43a0ed44b19ea370cc1d4478db4db68cb04d04718d74c24166b5c08a8cef7a"), looks := false }, kinds := [], alts := [], laidByText := true, laidKinds := [.data], laidTests := true, laidLooks := .later }
def IdentTextsUptoCardSaid : Prop := Claim7.holds Tryd.pinned (.plain (OpenSpec.upto identTextsSpec)) identTextsUptoCard

/-- THE SECOND FORM's CARD OF 'latchkeylaw01.IdentKinds'. -/
def identKindsUptoCard : Claim7 := { stood := { row := identKindsUptoRow, standIns := [], harness := (true, "df43a0ed44b19ea370cc1d4478db4db68cb04d04718d74c24166b5c08a8cef7a"), looks := false }, kinds := [], alts := [], laidByText := true, laidKinds := [.data], laidTests := true, laidLooks := .later }
def IdentKindsUptoCardSaid : Prop := Claim7.holds Tryd.pinned (.plain (OpenSpec.upto identKindsSpec)) identKindsUptoCard

/-- THE SECOND FORM's CARD OF 'latchkeylaw01.IdentSubjects'. -/
def identSubjectsUptoCard : Claim7 := { stood := { row := identSubjectsUptoRow, standIns := [], harness := (true, "df43a0ed44b19ea370cc1d4478db4db68cb04d04718d74c24166b5c08a8cef7a"), looks := false }, kinds := [], alts := [], laidByText := true, laidKinds := [.data], laidTests := true, laidLooks := .later }
def IdentSubjectsUptoCardSaid : Prop := Claim7.holds Tryd.pinned (.plain (OpenSpec.upto identSubjectsSpec)) identSubjectsUptoCard

/-- THE SECOND FORM's CARD OF 'latchkeylaw01.IdentObjects'. -/
def identObjectsUptoCard : Claim7 := { stood := { row := identObjectsUptoRow, standIns := [], harness := (true, "df43a0ed44b19ea370cc1d4478db4db68cb04d04718d74c24166b5c08a8cef7a"), looks := false }, kinds := [], alts := [], laidByText := true, laidKinds := [.data], laidTests := true, laidLooks := .later }
def IdentObjectsUptoCardSaid : Prop := Claim7.holds Tryd.pinned (.plain (OpenSpec.upto identObjectsSpec)) identObjectsUptoCard
end Rows
end Go.Proofs.YtdeagmenlijieaaDoor
