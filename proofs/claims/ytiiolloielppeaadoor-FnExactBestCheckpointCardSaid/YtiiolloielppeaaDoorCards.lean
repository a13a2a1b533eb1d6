/-
  DERIVED. GIVEN WITH THE SEED: THE CARDS: each row of YtiiolloielppeaaDoorRows.lean that lists a variable, with what it lists TIED to the program's text (the seventh form; the later family's looks); each row that meets fmt, with fmt's text TOLD by the authors' own Lean function (tested against real Go, not proved from fmt's source: count such statements apart). THE CARD IS WHAT COUNTS. Prove the row's statement (the work); the ties are given (YtiiolloielppeaaDoorTie.lean); close each card by the builder's one call (the guide's Derived/Test/ToyasCard.lean, 'card_holds'). Laid BY PROGRAM, IN A SANDBOX (cutbox-door.mjs). By AI agents, Wed Nov 11 2026. No macro, syntax, notation, axiom, sorry.
-/
import Derived.Test.YtiiolloielppeaaDoorRows
import GoSem.ClaimSeven
namespace Go.Proofs.YtiiolloielppeaaDoor
namespace Rows

/-- THE TIED CARD OF 'laws.FnExactCheckpoint'. -/
def fnExactCheckpointCard : Claim7 := { stood := { row := fnExactCheckpointRow, standIns := [], harness := (true, "5f38779ac0dff45cd18cc70fb31f58bf90b130ebfe9e287dce77affa46f5ff06"), looks := true }, kinds := [], alts := [], laidByText := true, laidKinds := [.data, .data, .data], laidTests := true, laidLooks := .later }
def FnExactCheckpointCardSaid : Prop := Claim7.holds Tryd.pinned (.plain (OpenSpec.ofChange fnExactCheckpointSpec)) fnExactCheckpointCard

/-- THE TIED CARD OF 'laws.FnExactStepsBetween'. -/
def fnExactStepsBetweenCard : Claim7 := { stood := { row := fnExactStepsBetweenRow, standIns := [], harness := (true, "5f38779ac0dff45cd18cc70fb31f58bf90b130ebfe9e287dce77affa46f5ff06"), looks := true }, kinds := [], alts := [], laidByText := true, laidKinds := [.data, .data, .data, .data, .sentinel, .sentinel, .pinned], laidTests := true, laidLooks := .later }
def FnExactStepsBetweenCardSaid : Prop := Claim7.holds Tryd.pinned (.plain (OpenSpec.ofChange fnExactStepsBetweenSpec)) fnExactStepsBetweenCard

/-- THE TIED CARD OF 'laws.FnExactParseWork'. -/
def fnExactParseWorkCard : Claim7 := { stood := { row := fnExactParseWorkRow, standIns := [], harness := (true, "5f38779ac0dff45cd18cc70fb31f58bf90b130ebfe9e287dce77affa46f5ff06"), looks := true }, kinds := [], alts := [], laidByText := true, laidKinds := [.data, .data, .data, .data, .sentinel, .sentinel, .pinned], laidTests := true, laidLooks := .later }
def FnExactParseWorkCardSaid : Prop := Claim7.holds Tryd.pinned (.plain (OpenSpec.ofChange fnExactParseWorkSpec)) fnExactParseWorkCard

/-- THE TIED CARD OF 'laws.FnExactBestCheckpoint'. -/
def fnExactBestCheckpointCard : Claim7 := { stood := { row := fnExactBestCheckpointRow, standIns := [], harness := (true, "5f38779ac0dff45cd18cc70fb31f58bf90b130ebfe9e287dce77affa46f5ff06"), looks := true }, kinds := [], alts := [], laidByText := true, laidKinds := [.data, .data, .data, .data, .sentinel, .sentinel, .pinned], laidTests := true, laidLooks := .later }
def FnExactBestCheckpointCardSaid : Prop := Claim7.holds Tryd.pinned (.plain (OpenSpec.ofChange fnExactBestCheckpointSpec)) fnExactBestCheckpointCard

/-- THE SECOND FORM's CARD OF 'laws.FnExactCheckpoint'. -/
def fnExactCheckpointUptoCard : Claim7 := { stood := { row := fnExactCheckpointUptoRow, standIns := [], harness := (true, "5f38779ac0dff45cd18cc70fb31f58bf90b130ebfe9e287dce77affa46f5ff06"), looks := true }, kinds := [], alts := [], laidByText := true, laidKinds := [.data, .data, .data], laidTests := true, laidLooks := .later }
def FnExactCheckpointUptoCardSaid : Prop := Claim7.holds Tryd.pinned (.plain (OpenSpec.upto fnExactCheckpointSpec)) fnExactCheckpointUptoCard

/-- THE SECOND FORM's CARD OF 'laws.FnExactStepsBetween'. -/
def fnExactStepsBetweenUptoCard : Claim7 := { stood := { row := fnExactStepsBetweenUptoRow, standIns := [], harness := (true, "5f38779ac0dff45cd18cc70fb31f58bf90b130ebfe9e287dce77affa46f5ff06"), looks := true }, kinds := [], alts := [], laidByText := true, laidKinds := [.data, .data, .data, .data, .sentinel, .sentinel, .pinned], laidTests := true, laidLooks := .later }
def FnExactStepsBetweenUptoCardSaid : Prop := Claim7.holds Tryd.pinned (.plain (OpenSpec.upto fnExactStepsBetweenSpec)) fnExactStepsBetweenUptoCard

/-- THE SECOND FORM's CARD OF 'laws.FnExactParseWork'. -/
def fnExactParseWorkUptoCard : Claim7 := { stood := { row := fnExactParseWorkUptoRow, standIns := [], harness := (true, "5f38779ac0dff45cd18cc70fb31f58bf90b130ebfe9e287dce77affa46f5ff06"), looks := true }, kinds := [], alts := [], laidByText := true, laidKinds := [.data, .data, .data, .data, .sentinel, .sentinel, .pinned], laidTests := true, laidLooks := .later }
def FnExactParseWorkUptoCardSaid : Prop := Claim7.holds Tryd.pinned (.plain (OpenSpec.upto fnExactParseWorkSpec)) fnExactParseWorkUptoCard

/-- THE SECOND FORM's CARD OF 'laws.FnExactBestCheckpoint'. -/
def fnExactBestCheckpointUptoCard : Claim7 := { stood := { row := fnExactBestCheckpointUptoRow, standIns := [], harness := (true, "5f38779ac0dff45cd18cc70fb31f58bf90b130ebfe9e287dce77affa46f5ff06"), looks := true }, kinds := [], alts := [], laidByText := true, laidKinds := [.data, .data, .data, .data, .sentinel, .sentinel, .pinned], laidTests := true, laidLooks := .later }
def FnExactBestCheckpointUptoCardSaid : Prop := Claim7.holds Tryd.pinned (.plain (OpenSpec.upto fnExactBestCheckpointSpec)) fnExactBestCheckpointUptoCard
end Rows
end Go.Proofs.YtiiolloielppeaaDoor
