/-
  DERIVED. GIVEN WITH THE SEED: THE CARDS: each row of YtiiolloielppeaaGreatDoorRows.lean that lists a variable, with what it lists TIED to the program's text (the seventh form; the later family's looks); each row that meets fmt, with fmt's text TOLD by the authors' own Lean function (tested against real Go, not proved from fmt's source: count such statements apart). THE CARD IS WHAT COUNTS. Prove the row's statement (the work); the ties are given (YtiiolloielppeaaGreatDoorTie.lean); close each card by the builder's one call (the guide's Derived/Test/ToyasCard.lean, 'card_holds'). Laid BY PROGRAM, IN A SANDBOX (cutbox-door.mjs). By AI agents, Wed Nov 11 2026. No macro, syntax, notation, axiom, sorry.
-/
import Derived.Test.YtiiolloielppeaaGreatDoorRows
import GoSem.ClaimSeven
namespace Go.Proofs.YtiiolloielppeaaGreatDoor
namespace Rows

/-- THE TIED CARD OF 'laws.FnExactRestore'. -/
def fnExactRestoreCard : Claim7 := { stood := { row := fnExactRestoreRow, standIns := [], harness := (true, "90f1f8141b5f6700e0e036a21f908fcafdef534dcfdcf3414e95f2b12bcdbf9f"), looks := true }, kinds := [], alts := [], laidByText := true, laidKinds := [.data, .data, .data, .data, .sentinel, .sentinel, .pinned], laidTests := true, laidLooks := .later }
def FnExactRestoreCardSaid : Prop := Claim7.holds Tryz.pinned (.plain (OpenSpec.ofChange fnExactRestoreSpec)) fnExactRestoreCard

/-- THE SECOND FORM's CARD OF 'laws.FnExactRestore'. -/
def fnExactRestoreUptoCard : Claim7 := { stood := { row := fnExactRestoreUptoRow, standIns := [], harness := (true, "90f1f8141b5f6700e0e036a21f908fcafdef534dcfdcf3414e95f2b12bcdbf9f"), looks := true }, kinds := [], alts := [], laidByText := true, laidKinds := [.data, .data, .data, .data, .sentinel, .sentinel, .pinned], laidTests := true, laidLooks := .later }
def FnExactRestoreUptoCardSaid : Prop := Claim7.holds Tryz.pinned (.plain (OpenSpec.upto fnExactRestoreSpec)) fnExactRestoreUptoCard
end Rows
end Go.Proofs.YtiiolloielppeaaGreatDoor
