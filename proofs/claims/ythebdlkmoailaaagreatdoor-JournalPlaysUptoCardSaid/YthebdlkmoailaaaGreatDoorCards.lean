/-
  DERIVED. GIVEN WITH THE SEED: THE CARDS: each row of YthebdlkmoailaaaGreatDoorRows.lean that lists a variable, with what it lists TIED to the program's text (the seventh form; the later family's looks); each row that meets fmt, with fmt's text TOLD by the authors' own Lean function (tested against real Go, not proved from fmt's source: count such statements apart). THE CARD IS WHAT COUNTS. Prove the row's statement (the work); the ties are given (YthebdlkmoailaaaGreatDoorTie.lean); close each card by the builder's one call (the guide's Derived/Test/ToyasCard.lean, 'card_holds'). Laid BY PROGRAM, IN A SANDBOX (cutbox-door.mjs). By AI agents, Wed Nov 11 2026. No macro, syntax, notation, axiom, sorry.
-/
import Derived.Test.YthebdlkmoailaaaGreatDoorRows
import GoSem.ClaimSeven
namespace Go.Proofs.YthebdlkmoailaaaGreatDoor
namespace Rows

/-- THE TIED CARD OF 'groynelaw05.JournalFull'. -/
def journalFullCard : Claim7 := { stood := { row := journalFullRow, standIns := [], harness := (true, "2fc3031f3a5284a2061f9cdb91d6a2b7d2be2009c59b60162e710ce78a94fe05"), looks := true }, kinds := [], alts := [], laidByText := true, laidKinds := [.data, .data, .data, .sentinel, .sentinel], laidTests := true, laidLooks := .later }
def JournalFullCardSaid : Prop := Claim7.holds Tryz.pinned (.plain (OpenSpec.ofChange journalFullSpec)) journalFullCard

/-- THE TIED CARD OF 'groynelaw05.JournalKeeps'. -/
def journalKeepsCard : Claim7 := { stood := { row := journalKeepsRow, standIns := [], harness := (true, "2fc3031f3a5284a2061f9cdb91d6a2b7d2be2009c59b60162e710ce78a94fe05"), looks := true }, kinds := [], alts := [], laidByText := true, laidKinds := [.data, .data, .data, .sentinel, .sentinel], laidTests := true, laidLooks := .later }
def JournalKeepsCardSaid : Prop := Claim7.holds Tryz.pinned (.plain (OpenSpec.ofChange journalKeepsSpec)) journalKeepsCard

/-- THE TIED CARD OF 'groynelaw05.JournalSpoilt'. -/
def journalSpoiltCard : Claim7 := { stood := { row := journalSpoiltRow, standIns := [], harness := (true, "2fc3031f3a5284a2061f9cdb91d6a2b7d2be2009c59b60162e710ce78a94fe05"), looks := true }, kinds := [], alts := [], laidByText := true, laidKinds := [.data, .data, .data, .sentinel, .sentinel], laidTests := true, laidLooks := .later }
def JournalSpoiltCardSaid : Prop := Claim7.holds Tryz.pinned (.plain (OpenSpec.ofChange journalSpoiltSpec)) journalSpoiltCard

/-- THE TIED CARD OF 'groynelaw05.JournalPlays'. -/
def journalPlaysCard : Claim7 := { stood := { row := journalPlaysRow, standIns := [], harness := (true, "2fc3031f3a5284a2061f9cdb91d6a2b7d2be2009c59b60162e710ce78a94fe05"), looks := true }, kinds := [], alts := [], laidByText := true, laidKinds := [.data, .data, .data, .sentinel, .sentinel], laidTests := true, laidLooks := .later }
def JournalPlaysCardSaid : Prop := Claim7.holds Tryz.pinned (.plain (OpenSpec.ofChange journalPlaysSpec)) journalPlaysCard

/-- THE TIED CARD OF 'groynelaw05.JournalSpans'. -/
def journalSpansCard : Claim7 := { stood := { row := journalSpansRow, standIns := [], harness := (true, "2fc3031f3a5284a2061f9cdb91d6a2b7d2be2009c59b60162e710ce78a94fe05"), looks := true }, kinds := [], alts := [], laidByText := true, laidKinds := [.data, .data, .data, .sentinel, .sentinel], laidTests := true, laidLooks := .later }
def JournalSpansCardSaid : Prop := Claim7.holds Tryz.pinned (.plain (OpenSpec.ofChange journalSpansSpec)) journalSpansCard

/-- THE TIED CARD OF 'groynelaw05.JournalBegins'. -/
def journalBeginsCard : Claim7 := { stood := { row := journalBeginsRow, standIns := [], harness := (true, "2fc3031f3a5284a2061f9cdb91d6a2b7d2be2009c59b60162e710ce78a94fe05"), looks := true }, kinds := [], alts := [], laidByText := true, laidKinds := [.data, .data, .data, .sentinel, .sentinel], laidTests := true, laidLooks := .later }
def JournalBeginsCardSaid : Prop := Claim7.holds Tryz.pinned (.plain (OpenSpec.ofChange journalBeginsSpec)) journalBeginsCard

/-- THE TIED CARD OF 'groynelaw05.JournalCrashes'. -/
def journalCrashesCard : Claim7 := { stood := { row := journalCrashesRow, standIns := [], harness := (true, "2fc3031f3a5284a2061f9cdb91d6a2b7d2be2009c59b60162e710ce78a94fe05"), looks := true }, kinds := [], alts := [], laidByText := true, laidKinds := [.data, .data, .data, .sentinel, .sentinel], laidTests := true, laidLooks := .later }
def JournalCrashesCardSaid : Prop := Claim7.holds Tryz.pinned (.plain (OpenSpec.ofChange journalCrashesSpec)) journalCrashesCard

/-- THE SECOND FORM's CARD OF 'groynelaw05.JournalFull'. -/
def journalFullUptoCard : Claim7 := { stood := { row := journalFullUptoRow, standIns := [], harness := (true, "2fc3031f3a5284a2061f9cdb91d6a2b7d2be2009c59b60162e710ce78a94fe05"), looks := true }, kinds := [], alts := [], laidByText := true, laidKinds := [.data, .data, .data, .sentinel, .sentinel], laidTests := true, laidLooks := .later }
def JournalFullUptoCardSaid : Prop := Claim7.holds Tryz.pinned (.plain (OpenSpec.upto journalFullSpec)) journalFullUptoCard

/-- THE SECOND FORM's CARD OF 'groynelaw05.JournalKeeps'. -/
def journalKeepsUptoCard : Claim7 := { stood := { row := journalKeepsUptoRow, standIns := [], harness := (true, "2fc3031f3a5284a2061f9cdb91d6a2b7d2be2009c59b60162e710ce78a94fe05"), looks := true }, kinds := [], alts := [], laidByText := true, laidKinds := [.data, .data, .data, .sentinel, .sentinel], laidTests := true, laidLooks := .later }
def JournalKeepsUptoCardSaid : Prop := Claim7.holds Tryz.pinned (.plain (OpenSpec.upto journalKeepsSpec)) journalKeepsUptoCard

/-- THE SECOND FORM's CARD OF 'groynelaw05.JournalSpoilt'. -/
def journalSpoiltUptoCard : Claim7 := { stood := { row := journalSpoiltUptoRow, standIns := [], harness := (true, "2fc3031f3a5284a2061f9cdb91d6a2b7d2be2009c59b60162e710ce78a94fe05"), looks := true }, kinds := [], alts := [], laidByText := true, laidKinds := [.data, .data, .data, .sentinel, .sentinel], laidTests := true, laidLooks := .later }
def JournalSpoiltUptoCardSaid : Prop := Claim7.holds Tryz.pinned (.plain (OpenSpec.upto journalSpoiltSpec)) journalSpoiltUptoCard

/-- THE SECOND FORM's CARD OF 'groynelaw05.JournalPlays'. -/
def journalPlaysUptoCard : Claim7 := { stood := { row := journalPlaysUptoRow, standIns := [], harness := (true, "2fc3031f3a5284a2061f9cdb91d6a2b7d2be2009c59b60162e710ce78a94fe05"), looks := true }, kinds := [], alts := [], laidByText := true, laidKinds := [.data, .data, .data, .sentinel, .sentinel], laidTests := true, laidLooks := .later }
def JournalPlaysUptoCardSaid : Prop := Claim7.holds Tryz.pinned (.plain (OpenSpec.upto journalPlaysSpec)) journalPlaysUptoCard

/-- THE SECOND FORM's CARD OF 'groynelaw05.JournalSpans'. -/
def journalSpansUptoCard : Claim7 := { stood := { row := journalSpansUptoRow, standIns := [], harness := (true, "2fc3031f3a5284a2061f9cdb91d6a2b7d2be2009c59b60162e710ce78a94fe05"), looks := true }, kinds := [], alts := [], laidByText := true, laidKinds := [.data, .data, .data, .sentinel, .sentinel], laidTests := true, laidLooks := .later }
def JournalSpansUptoCardSaid : Prop := Claim7.holds Tryz.pinned (.plain (OpenSpec.upto journalSpansSpec)) journalSpansUptoCard

/-- THE SECOND FORM's CARD OF 'groynelaw05.JournalBegins'. -/
def journalBeginsUptoCard : Claim7 := { stood := { row := journalBeginsUptoRow, standIns := [], harness := (true, "2fc3031f3a5284a2061f9cdb91d6a2b7d2be2009c59b60162e710ce78a94fe05"), looks := true }, kinds := [], alts := [], laidByText := true, laidKinds := [.data, .data, .data, .sentinel, .sentinel], laidTests := true, laidLooks := .later }
def JournalBeginsUptoCardSaid : Prop := Claim7.holds Tryz.pinned (.plain (OpenSpec.upto journalBeginsSpec)) journalBeginsUptoCard

/-- THE SECOND FORM's CARD OF 'groynelaw05.JournalCrashes'. -/
def journalCrashesUptoCard : Claim7 := { stood := { row := journalCrashesUptoRow, standIns := [], harness := (true, "2fc3031f3a5284a2061f9cdb91d6a2b7d2be2009c59b60162e710ce78a94fe05"), looks := true }, kinds := [], alts := [], laidByText := true, laidKinds := [.data, .data, .data, .sentinel, .sentinel], laidTests := true, laidLooks := .later }
def JournalCrashesUptoCardSaid : Prop := Claim7.holds Tryz.pinned (.plain (OpenSpec.upto journalCrashesSpec)) journalCrashesUptoCard
end Rows
end Go.Proofs.YthebdlkmoailaaaGreatDoor
