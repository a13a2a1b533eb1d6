/-
  DERIVED. GIVEN WITH THE SEED: THE CARDS: each row of YtdlahbagdkfgmaaGreatDoorRows.lean that lists a variable, with what it lists TIED to the program's text (the seventh form; the later family's looks); each row that meets fmt, with fmt's text TOLD by the authors' own Lean function (tested against real Go, not proved from fmt's source: count such statements apart). THE CARD IS WHAT COUNTS. Prove the row's statement (the work); the ties are given (YtdlahbagdkfgmaaGreatDoorTie.lean); close each card by the builder's one call (the guide's Derived/Test/ToyasCard.lean, 'card_holds'). Laid BY PROGRAM, IN A SANDBOX (cutbox-door.mjs). By AI agents, Wed Nov 11 2026. No macro, syntax, notation, axiom, sorry.
-/
import Derived.Test.YtdlahbagdkfgmaaGreatDoorRows
import GoSem.ClaimSeven
namespace Go.Proofs.YtdlahbagdkfgmaaGreatDoor
namespace Rows

/-- THE TIED CARD OF 'laws.FnExactOpenPaths'. -/
def fnExactOpenPathsCard : Claim7 := { stood := { row := fnExactOpenPathsRow, standIns := [], harness := (true, "7650147051ce044844cd53295b63306838a53b07a42d4906e725ef1f462cdce0"), looks := false }, kinds := [], alts := [], laidByText := true, laidKinds := [.data, .data, .data, .data, .pinned], laidTests := true, laidLooks := .later }
def FnExactOpenPathsCardSaid : Prop := Claim7.holds Tryz.pinned (.plain (OpenSpec.ofChange fnExactOpenPathsSpec)) fnExactOpenPathsCard

/-- THE TIED CARD OF 'laws.FnJournals'. -/
def fnJournalsCard : Claim7 := { stood := { row := fnJournalsRow, standIns := [], harness := (true, "7650147051ce044844cd53295b63306838a53b07a42d4906e725ef1f462cdce0"), looks := false }, kinds := [], alts := [], laidByText := true, laidKinds := [.data, .data, .data, .data, .pinned], laidTests := true, laidLooks := .later }
def FnJournalsCardSaid : Prop := Claim7.holds Tryz.pinned (.plain (OpenSpec.ofChange fnJournalsSpec)) fnJournalsCard

/-- THE SECOND FORM's CARD OF 'laws.FnExactOpenPaths'. -/
def fnExactOpenPathsUptoCard : Claim7 := { stood := { row := fnExactOpenPathsUptoRow, standIns := [], harness := (true, "7650147051ce044844cd53295b63306838a53b07a42d4906e725ef1f462cdce0"), looks := false }, kinds := [], alts := [], laidByText := true, laidKinds := [.data, .data, .data, .data, .pinned], laidTests := true, laidLooks := .later }
def FnExactOpenPathsUptoCardSaid : Prop := Claim7.holds Tryz.pinned (.plain (OpenSpec.upto fnExactOpenPathsSpec)) fnExactOpenPathsUptoCard

/-- THE SECOND FORM's CARD OF 'laws.FnJournals'. -/
def fnJournalsUptoCard : Claim7 := { stood := { row := fnJournalsUptoRow, standIns := [], harness := (true, "7650147051ce044844cd53295b63306838a53b07a42d4906e725ef1f462cdce0"), looks := false }, kinds := [], alts := [], laidByText := true, laidKinds := [.data, .data, .data, .data, .pinned], laidTests := true, laidLooks := .later }
def FnJournalsUptoCardSaid : Prop := Claim7.holds Tryz.pinned (.plain (OpenSpec.upto fnJournalsSpec)) fnJournalsUptoCard
end Rows
end Go.Proofs.YtdlahbagdkfgmaaGreatDoor
