/-
  DERIVED. GIVEN WITH THE SEED: THE CARDS: each row of YtmldefednihohaaDoorRows.lean that lists a variable, with what it lists TIED to the program's text (the seventh form; the later family's looks); each row that meets fmt, with fmt's text TOLD by the authors' own Lean function (tested against real Go, not proved from fmt's source: count such statements apart). THE CARD IS WHAT COUNTS. Prove the row's statement (the work); the ties are given (YtmldefednihohaaDoorTie.lean); close each card by the builder's one call (the guide's Derived/Test/ToyasCard.lean, 'card_holds'). Laid BY PROGRAM, IN A SANDBOX (cutbox-door.mjs). By AI agents, Wed Nov 11 2026. No macro, syntax, notation, axiom, sorry.
-/
import Derived.Test.YtmldefednihohaaDoorRows
import GoSem.ClaimSeven
namespace Go.Proofs.YtmldefednihohaaDoor
namespace Rows

/-- THE TIED CARD OF 'latchkeylaw22.GroupsNumbers'. -/
def groupsNumbersCard : Claim7 := { stood := { row := groupsNumbersRow, standIns := [], harness := (true, "11e96c62a73db7c284a1bb6baa4637773fd2adba0def297132c1ad91995c6ee8"), looks := false }, kinds := [], alts := [], laidByText := true, laidKinds := [.data], laidTests := true, laidLooks := .later }
def GroupsNumbersCardSaid : Prop := Claim7.holds Tryd.pinned (.plain (OpenSpec.ofChange groupsNumbersSpec)) groupsNumbersCard

/-- THE TIED CARD OF 'latchkeylaw22.GroupsPlays'. -/
def groupsPlaysCard : Claim7 := { stood := { row := groupsPlaysRow, standIns := [], harness := (true, "11e96c62a73db7c284a1bb6baa4637773fd2adba0def297132c1ad91995c6ee8"), looks := false }, kinds := [], alts := [], laidByText := true, laidKinds := [.data], laidTests := true, laidLooks := .later }
def GroupsPlaysCardSaid : Prop := Claim7.holds Tryd.pinned (.plain (OpenSpec.ofChange groupsPlaysSpec)) groupsPlaysCard

/-- THE TIED CARD OF 'latchkeylaw22.GroupsTells'. -/
def groupsTellsCard : Claim7 := { stood := { row := groupsTellsRow, standIns := [], harness := (true, "11e96c62a73db7c284a1bb6baa4637773fd2adba0def297132c1ad91995c6ee8"), looks := false }, kinds := [], alts := [], laidByText := true, laidKinds := [.data], laidTests := true, laidLooks := .later }
def GroupsTellsCardSaid : Prop := Claim7.holds Tryd.pinned (.plain (OpenSpec.ofChange groupsTellsSpec)) groupsTellsCard

/-- THE TIED CARD OF 'latchkeylaw22.GroupsCloses'. -/
def groupsClosesCard : Claim7 := { stood := { row := groupsClosesRow, standIns := [], harness := (true, "11e96c62a73db7c284a1bb6baa4637773fd2adba0def297132c1ad91995c6ee8"), looks := false }, kinds := [], alts := [], laidByText := true, laidKinds := [.data], laidTests := true, laidLooks := .later }
def GroupsClosesCardSaid : Prop := Claim7.holds Tryd.pinned (.plain (OpenSpec.ofChange groupsClosesSpec)) groupsClosesCard

/-- THE TIED CARD OF 'latchkeylaw22.GroupsTurns'. -/
def groupsTurnsCard : Claim7 := { stood := { row := groupsTurnsRow, standIns := [], harness := (true, "11e96c62a73db7c284a1bb6baa4637773fd2adba0def297132c1ad91995c6ee8"), looks := false }, kinds := [], alts := [], laidByText := true, laidKinds := [.data], laidTests := true, laidLooks := .later }
def GroupsTurnsCardSaid : Prop := Claim7.holds Tryd.pinned (.plain (OpenSpec.ofChange groupsTurnsSpec)) groupsTurnsCard

/-- THE TIED CARD OF 'latchkeylaw22.GroupsSpares'. -/
def groupsSparesCard : Claim7 := { stood := { row := groupsSparesRow, standIns := [], harness := (true, "11e96c62a73db7c284a1bb6baa4637773fd2adba0def297132c1ad91995c6ee8"), looks := false }, kinds := [], alts := [], laidByText := true, laidKinds := [.data], laidTests := true, laidLooks := .later }
def GroupsSparesCardSaid : Prop := Claim7.holds Tryd.pinned (.plain (OpenSpec.ofChange groupsSparesSpec)) groupsSparesCard

/-- THE SECOND FORM's CARD OF 'latchkeylaw22.GroupsNumbers'. -/
def groupsNumbersUptoCard : Claim7 := { stood := { row := groupsNumbersUptoRow, standIns := [], harness := (true, "11e96c62a73db7c284a1bb6baa4637773fd2adba0def297132c1ad91995c6ee8"), looks := false }, kinds := [], alts := [], laidByText := true, laidKinds := [.data], laidTests := true, laidLooks := .later }
def GroupsNumbersUptoCardSaid : Prop := Claim7.holds Tryd.pinned (.plain (OpenSpec.upto groupsNumbersSpec)) groupsNumbersUptoCard

/-- THE SECOND FORM's CARD OF 'latchkeylaw22.GroupsPlays'. -/
def groupsPlaysUptoCard : Claim7 := { stood := { row := groupsPlaysUptoRow, standIns := [], harness := (true, "11e96c62a73db7c284a1bb6baa4637773fd2adba0def297132c1ad91995c6ee8"), looks := false }, kinds := [], alts := [], laidByText := true, laidKinds := [.data], laidTests := true, laidLooks := .later }
def GroupsPlaysUptoCardSaid : Prop := Claim7.holds Tryd.pinned (.plain (OpenSpec.upto groupsPlaysSpec)) groupsPlaysUptoCard

/-- THE SECOND FORM's CARD OF 'latchkeylaw22.GroupsTells'. -/
def groupsTellsUptoCard : Claim7 := { stood := { row := groupsTellsUptoRow, standIns := [], harness := (true, "11e96c62a73db7c284a1bb6baa4637773fd2adba0def297132c1ad91995c6ee8"), looks := false }, kinds := [], alts := [], laidByText := true, laidKinds := [.data], laidTests := true, laidLooks := .later }
def GroupsTellsUptoCardSaid : Prop := Claim7.holds Tryd.pinned (.plain (OpenSpec.upto groupsTellsSpec)) groupsTellsUptoCard

/-- THE SECOND FORM's CARD OF 'latchkeylaw22.GroupsCloses'. -/
def groupsClosesUptoCard : Claim7 := { stood := { row := groupsClosesUptoRow, standIns := [], harness := (true, "11e96c62a73db7c284a1bb6baa4637773fd2adba0def297132c1ad91995c6ee8"), looks := false }, kinds := [], alts := [], laidByText := true, laidKinds := [.data], laidTests := true, laidLooks := .later }
def GroupsClosesUptoCardSaid : Prop := Claim7.holds Tryd.pinned (.plain (OpenSpec.upto groupsClosesSpec)) groupsClosesUptoCard

/-- THE SECOND FORM's CARD OF 'latchkeylaw22.GroupsTurns'. -/
def groupsTurnsUptoCard : Claim7 := { stood := { row := groupsTurnsUptoRow, standIns := [], harness := (true, "11e96c62a73db7c284a1bb6baa4637773fd2adba0def297132c1ad91995c6ee8"), looks := false }, kinds := [], alts := [], laidByText := true, laidKinds := [.data], laidTests := true, laidLooks := .later }
def GroupsTurnsUptoCardSaid : Prop := Claim7.holds Tryd.pinned (.plain (OpenSpec.upto groupsTurnsSpec)) groupsTurnsUptoCard

/-- THE SECOND FORM's CARD OF 'latchkeylaw22.GroupsSpares'. -/
def groupsSparesUptoCard : Claim7 := { stood := { row := groupsSparesUptoRow, standIns := [], harness := (true, "11e96c62a73db7c284a1bb6baa4637773fd2adba0def297132c1ad91995c6ee8"), looks := false }, kinds := [], alts := [], laidByText := true, laidKinds := [.data], laidTests := true, laidLooks := .later }
def GroupsSparesUptoCardSaid : Prop := Claim7.holds Tryd.pinned (.plain (OpenSpec.upto groupsSparesSpec)) groupsSparesUptoCard
end Rows
end Go.Proofs.YtmldefednihohaaDoor
