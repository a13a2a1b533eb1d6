/-
  DERIVED. GIVEN WITH THE SEED: THE CARDS: each row of YtdlahbagdkfgmaaDoorRows.lean that lists a variable, with what it lists TIED to the program's text (the seventh form; the later family's looks); each row that meets fmt, with fmt's text TOLD by the authors' own Lean function (tested against real Go, not proved from fmt's source: count such statements apart). THE CARD IS WHAT COUNTS. Prove the row's statement (the work); the ties are given (YtdlahbagdkfgmaaDoorTie.lean); close each card by the builder's one call (the guide's Derived/Test/ToyasCard.lean, 'card_holds'). Laid BY PROGRAM, IN A SANDBOX (cutbox-door.mjs). By AI agents, Wed Nov 11 2026. No macro, syntax, notation, axiom, sorry.
-/
import Derived.Test.YtdlahbagdkfgmaaDoorRows
import GoSem.ClaimSeven
namespace Go.Proofs.YtdlahbagdkfgmaaDoor
namespace Rows

/-- THE TIED CARD OF 'laws.FnExactIsJournal'. -/
def fnExactIsJournalCard : Claim7 := { stood := { row := fnExactIsJournalRow, standIns := [], harness := (true, "0e3b0ac93598ec3d4e2191aa400f4ea2301c94493f96bc504903837018f019df"), looks := false }, kinds := [], alts := [], laidByText := true, laidKinds := [.data, .data, .data, .data, .pinned], laidTests := true, laidLooks := .later }
def FnExactIsJournalCardSaid : Prop := Claim7.holds Tryd.pinned (.plain (OpenSpec.ofChange fnExactIsJournalSpec)) fnExactIsJournalCard

/-- THE TIED CARD OF 'laws.FnExactRecoverJournal'. -/
def fnExactRecoverJournalCard : Claim7 := { stood := { row := fnExactRecoverJournalRow, standIns := [], harness := (true, "0e3b0ac93598ec3d4e2191aa400f4ea2301c94493f96bc504903837018f019df"), looks := false }, kinds := [], alts := [], laidByText := true, laidKinds := [.data, .data, .data, .data, .pinned], laidTests := true, laidLooks := .later }
def FnExactRecoverJournalCardSaid : Prop := Claim7.holds Tryd.pinned (.plain (OpenSpec.ofChange fnExactRecoverJournalSpec)) fnExactRecoverJournalCard

/-- THE TIED CARD OF 'laws.FnExactCrashJournal'. -/
def fnExactCrashJournalCard : Claim7 := { stood := { row := fnExactCrashJournalRow, standIns := [], harness := (true, "0e3b0ac93598ec3d4e2191aa400f4ea2301c94493f96bc504903837018f019df"), looks := false }, kinds := [], alts := [], laidByText := true, laidKinds := [.data, .data, .data, .data, .pinned], laidTests := true, laidLooks := .later }
def FnExactCrashJournalCardSaid : Prop := Claim7.holds Tryd.pinned (.plain (OpenSpec.ofChange fnExactCrashJournalSpec)) fnExactCrashJournalCard

/-- THE TIED CARD OF 'laws.FnExactSyncJournal'. -/
def fnExactSyncJournalCard : Claim7 := { stood := { row := fnExactSyncJournalRow, standIns := [], harness := (true, "0e3b0ac93598ec3d4e2191aa400f4ea2301c94493f96bc504903837018f019df"), looks := false }, kinds := [], alts := [], laidByText := true, laidKinds := [.data, .data, .data, .data, .pinned], laidTests := true, laidLooks := .later }
def FnExactSyncJournalCardSaid : Prop := Claim7.holds Tryd.pinned (.plain (OpenSpec.ofChange fnExactSyncJournalSpec)) fnExactSyncJournalCard

/-- THE TIED CARD OF 'laws.FnExactLastMark'. -/
def fnExactLastMarkCard : Claim7 := { stood := { row := fnExactLastMarkRow, standIns := [], harness := (true, "0e3b0ac93598ec3d4e2191aa400f4ea2301c94493f96bc504903837018f019df"), looks := false }, kinds := [], alts := [], laidByText := true, laidKinds := [.data, .data, .data, .data, .pinned], laidTests := true, laidLooks := .later }
def FnExactLastMarkCardSaid : Prop := Claim7.holds Tryd.pinned (.plain (OpenSpec.ofChange fnExactLastMarkSpec)) fnExactLastMarkCard

/-- THE TIED CARD OF 'laws.FnExactAppendMark'. -/
def fnExactAppendMarkCard : Claim7 := { stood := { row := fnExactAppendMarkRow, standIns := [], harness := (true, "0e3b0ac93598ec3d4e2191aa400f4ea2301c94493f96bc504903837018f019df"), looks := false }, kinds := [], alts := [], laidByText := true, laidKinds := [.data, .data, .data, .data, .pinned], laidTests := true, laidLooks := .later }
def FnExactAppendMarkCardSaid : Prop := Claim7.holds Tryd.pinned (.plain (OpenSpec.ofChange fnExactAppendMarkSpec)) fnExactAppendMarkCard

/-- THE TIED CARD OF 'laws.FnExactMarksOf'. -/
def fnExactMarksOfCard : Claim7 := { stood := { row := fnExactMarksOfRow, standIns := [], harness := (true, "0e3b0ac93598ec3d4e2191aa400f4ea2301c94493f96bc504903837018f019df"), looks := false }, kinds := [], alts := [], laidByText := true, laidKinds := [.data, .data, .data, .data, .pinned], laidTests := true, laidLooks := .later }
def FnExactMarksOfCardSaid : Prop := Claim7.holds Tryd.pinned (.plain (OpenSpec.ofChange fnExactMarksOfSpec)) fnExactMarksOfCard

/-- THE TIED CARD OF 'laws.FnExactCompactJournal'. -/
def fnExactCompactJournalCard : Claim7 := { stood := { row := fnExactCompactJournalRow, standIns := [], harness := (true, "0e3b0ac93598ec3d4e2191aa400f4ea2301c94493f96bc504903837018f019df"), looks := false }, kinds := [], alts := [], laidByText := true, laidKinds := [.data, .data, .data, .data, .pinned], laidTests := true, laidLooks := .later }
def FnExactCompactJournalCardSaid : Prop := Claim7.holds Tryd.pinned (.plain (OpenSpec.ofChange fnExactCompactJournalSpec)) fnExactCompactJournalCard

/-- THE TIED CARD OF 'laws.FnExactContradictions'. -/
def fnExactContradictionsCard : Claim7 := { stood := { row := fnExactContradictionsRow, standIns := [], harness := (true, "0e3b0ac93598ec3d4e2191aa400f4ea2301c94493f96bc504903837018f019df"), looks := false }, kinds := [], alts := [], laidByText := true, laidKinds := [.data, .data, .data, .data, .pinned], laidTests := true, laidLooks := .later }
def FnExactContradictionsCardSaid : Prop := Claim7.holds Tryd.pinned (.plain (OpenSpec.ofChange fnExactContradictionsSpec)) fnExactContradictionsCard

/-- THE TIED CARD OF 'laws.FnCrashes'. -/
def fnCrashesCard : Claim7 := { stood := { row := fnCrashesRow, standIns := [], harness := (true, "0e3b0ac93598ec3d4e2191aa400f4ea2301c94493f96bc504903837018f019df"), looks := false }, kinds := [], alts := [], laidByText := true, laidKinds := [.data, .data, .data, .data, .pinned], laidTests := true, laidLooks := .later }
def FnCrashesCardSaid : Prop := Claim7.holds Tryd.pinned (.plain (OpenSpec.ofChange fnCrashesSpec)) fnCrashesCard

/-- THE SECOND FORM's CARD OF 'laws.FnExactIsJournal'. -/
def fnExactIsJournalUptoCard : Claim7 := { stood := { row := fnExactIsJournalUptoRow, standIns := [], harness := (true, "0e3b0ac93598ec3d4e2191aa400f4ea2301c94493f96bc504903837018f019df"), looks := false }, kinds := [], alts := [], laidByText := true, laidKinds := [.data, .data, .data, .data, .pinned], laidTests := true, laidLooks := .later }
def FnExactIsJournalUptoCardSaid : Prop := Claim7.holds Tryd.pinned (.plain (OpenSpec.upto fnExactIsJournalSpec)) fnExactIsJournalUptoCard

/-- THE SECOND FORM's CARD OF 'laws.FnExactRecoverJournal'. -/
def fnExactRecoverJournalUptoCard : Claim7 := { stood := { row := fnExactRecoverJournalUptoRow, standIns := [], harness := (true, "0e3b0ac93598ec3d4e2191aa400f4ea2301c94493f96bc504903837018f019df"), looks := false }, kinds := [], alts := [], laidByText := true, laidKinds := [.data, .data, .data, .data, .pinned], laidTests := true, laidLooks := .later }
def FnExactRecoverJournalUptoCardSaid : Prop := Claim7.holds Tryd.pinned (.plain (OpenSpec.upto fnExactRecoverJournalSpec)) fnExactRecoverJournalUptoCard

/-- THE SECOND FORM's CARD OF 'laws.FnExactCrashJournal'. -/
def fnExactCrashJournalUptoCard : Claim7 := { stood := { row := fnExactCrashJournalUptoRow, standIns := [], harness := (true, "0e3b0ac93598ec3d4e2191aa400f4ea2301c94493f96bc504903837018f019df"), looks := false }, kinds := [], alts := [], laidByText := true, laidKinds := [.data, .data, .data, .data, .pinned], laidTests := true, laidLooks := .later }
def FnExactCrashJournalUptoCardSaid : Prop := Claim7.holds Tryd.pinned (.plain (OpenSpec.upto fnExactCrashJournalSpec)) fnExactCrashJournalUptoCard

/-- THE SECOND FORM's CARD OF 'laws.FnExactSyncJournal'. -/
def fnExactSyncJournalUptoCard : Claim7 := { stood := { row := fnExactSyncJournalUptoRow, standIns := [], harness := (true, "0e3b0ac93598ec3d4e2191aa400f4ea2301c94493f96bc504903837018f019df"), looks := false }, kinds := [], alts := [], laidByText := true, laidKinds := [.data, .data, .data, .data, .pinned], laidTests := true, laidLooks := .later }
def FnExactSyncJournalUptoCardSaid : Prop := Claim7.holds Tryd.pinned (.plain (OpenSpec.upto fnExactSyncJournalSpec)) fnExactSyncJournalUptoCard

/-- THE SECOND FORM's CARD OF 'laws.FnExactLastMark'. -/
def fnExactLastMarkUptoCard : Claim7 := { stood := { row := fnExactLastMarkUptoRow, standIns := [], harness := (true, "0e3b0ac93598ec3d4e2191aa400f4ea2301c94493f96bc504903837018f019df"), looks := false }, kinds := [], alts := [], laidByText := true, laidKinds := [.data, .data, .data, .data, .pinned], laidTests := true, laidLooks := .later }
def FnExactLastMarkUptoCardSaid : Prop := Claim7.holds Tryd.pinned (.plain (OpenSpec.upto fnExactLastMarkSpec)) fnExactLastMarkUptoCard

/-- THE SECOND FORM's CARD OF 'laws.FnExactAppendMark'. -/
def fnExactAppendMarkUptoCard : Claim7 := { stood := { row := fnExactAppendMarkUptoRow, standIns := [], harness := (true, "0e3b0ac93598ec3d4e2191aa400f4ea2301c94493f96bc504903837018f019df"), looks := false }, kinds := [], alts := [], laidByText := true, laidKinds := [.data, .data, .data, .data, .pinned], laidTests := true, laidLooks := .later }
def FnExactAppendMarkUptoCardSaid : Prop := Claim7.holds Tryd.pinned (.plain (OpenSpec.upto fnExactAppendMarkSpec)) fnExactAppendMarkUptoCard

/-- THE SECOND FORM's CARD OF 'laws.FnExactMarksOf'. -/
def fnExactMarksOfUptoCard : Claim7 := { stood := { row := fnExactMarksOfUptoRow, standIns := [], harness := (true, "0e3b0ac93598ec3d4e2191aa400f4ea2301c94493f96bc504903837018f019df"), looks := false }, kinds := [], alts := [], laidByText := true, laidKinds := [.data, .data, .data, .data, .pinned], laidTests := true, laidLooks := .later }
def FnExactMarksOfUptoCardSaid : Prop := Claim7.holds Tryd.pinned (.plain (OpenSpec.upto fnExactMarksOfSpec)) fnExactMarksOfUptoCard

/-- THE SECOND FORM's CARD OF 'laws.FnExactCompactJournal'. -/
def fnExactCompactJournalUptoCard : Claim7 := { stood := { row := fnExactCompactJournalUptoRow, standIns := [], harness := (true, "0e3b0ac93598ec3d4e2191aa400f4ea2301c94493f96bc504903837018f019df"), looks := false }, kinds := [], alts := [], laidByText := true, laidKinds := [.data, .data, .data, .data, .pinned], laidTests := true, laidLooks := .later }
def FnExactCompactJournalUptoCardSaid : Prop := Claim7.holds Tryd.pinned (.plain (OpenSpec.upto fnExactCompactJournalSpec)) fnExactCompactJournalUptoCard

/-- THE SECOND FORM's CARD OF 'laws.FnExactContradictions'. -/
def fnExactContradictionsUptoCard : Claim7 := { stood := { row := fnExactContradictionsUptoRow, standIns := [], harness := (true, "0e3b0ac93598ec3d4e2191aa400f4ea2301c94493f96bc504903837018f019df"), looks := false }, kinds := [], alts := [], laidByText := true, laidKinds := [.data, .data, .data, .data, .pinned], laidTests := true, laidLooks := .later }
def FnExactContradictionsUptoCardSaid : Prop := Claim7.holds Tryd.pinned (.plain (OpenSpec.upto fnExactContradictionsSpec)) fnExactContradictionsUptoCard

/-- THE SECOND FORM's CARD OF 'laws.FnCrashes'. -/
def fnCrashesUptoCard : Claim7 := { stood := { row := fnCrashesUptoRow, standIns := [], harness := (true, "0e3b0ac93598ec3d4e2191aa400f4ea2301c94493f96bc504903837018f019df"), looks := false }, kinds := [], alts := [], laidByText := true, laidKinds := [.data, .data, .data, .data, .pinned], laidTests := true, laidLooks := .later }
def FnCrashesUptoCardSaid : Prop := Claim7.holds Tryd.pinned (.plain (OpenSpec.upto fnCrashesSpec)) fnCrashesUptoCard
end Rows
end Go.Proofs.YtdlahbagdkfgmaaDoor
