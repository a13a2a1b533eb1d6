/-
  DERIVED. GIVEN WITH THE SEED: THE CARDS: each row of YtcmkfkgcbllijaaDoorRows.lean that lists a variable, with what it lists TIED to the program's text (the seventh form; the later family's looks); each row that meets fmt, with fmt's text TOLD by the authors' own Lean function (tested against real Go, not proved from fmt's source: count such statements apart). THE CARD IS WHAT COUNTS. Prove the row's statement (the work); the ties are given (YtcmkfkgcbllijaaDoorTie.lean); close each card by the builder's one call (the guide's Derived/Test/ToyasCard.lean, 'card_holds'). Laid BY PROGRAM, IN A SANDBOX (cutbox-door.mjs). By AI agents, Wed Nov 11 2026. No macro, syntax, notation, axiom, sorry.
-/
import Derived.Test.YtcmkfkgcbllijaaDoorRows
import GoSem.ClaimSeven
namespace Go.Proofs.YtcmkfkgcbllijaaDoor
namespace Rows

/-- THE TIED CARD OF 'laws.FnExactSealText'. -/
def fnExactSealTextCard : Claim7 := { stood := { row := fnExactSealTextRow, standIns := [], harness := (true, "61e5f8813651ee1b462a575600fd661ee40d013f6bd4470ae3f164328e42e925"), looks := false }, kinds := [], alts := [], laidByText := true, laidKinds := [.data, .data, .data], laidTests := true, laidLooks := .later }
def FnExactSealTextCardSaid : Prop := Claim7.holds Tryd.pinned (.plain (OpenSpec.ofChange fnExactSealTextSpec)) fnExactSealTextCard

/-- THE TIED CARD OF 'laws.FnExactOpenText'. -/
def fnExactOpenTextCard : Claim7 := { stood := { row := fnExactOpenTextRow, standIns := [], harness := (true, "61e5f8813651ee1b462a575600fd661ee40d013f6bd4470ae3f164328e42e925"), looks := false }, kinds := [], alts := [], laidByText := true, laidKinds := [.data, .data, .data], laidTests := true, laidLooks := .later }
def FnExactOpenTextCardSaid : Prop := Claim7.holds Tryd.pinned (.plain (OpenSpec.ofChange fnExactOpenTextSpec)) fnExactOpenTextCard

/-- THE TIED CARD OF 'laws.FnExactIsMark'. -/
def fnExactIsMarkCard : Claim7 := { stood := { row := fnExactIsMarkRow, standIns := [], harness := (true, "61e5f8813651ee1b462a575600fd661ee40d013f6bd4470ae3f164328e42e925"), looks := false }, kinds := [], alts := [], laidByText := true, laidKinds := [.data, .pinned], laidTests := true, laidLooks := .later }
def FnExactIsMarkCardSaid : Prop := Claim7.holds Tryd.pinned (.plain (OpenSpec.ofChange fnExactIsMarkSpec)) fnExactIsMarkCard

/-- THE SECOND FORM's CARD OF 'laws.FnExactSealText'. -/
def fnExactSealTextUptoCard : Claim7 := { stood := { row := fnExactSealTextUptoRow, standIns := [], harness := (true, "61e5f8813651ee1b462a575600fd661ee40d013f6bd4470ae3f164328e42e925"), looks := false }, kinds := [], alts := [], laidByText := true, laidKinds := [.data, .data, .data], laidTests := true, laidLooks := .later }
def FnExactSealTextUptoCardSaid : Prop := Claim7.holds Tryd.pinned (.plain (OpenSpec.upto fnExactSealTextSpec)) fnExactSealTextUptoCard

/-- THE SECOND FORM's CARD OF 'laws.FnExactOpenText'. -/
def fnExactOpenTextUptoCard : Claim7 := { stood := { row := fnExactOpenTextUptoRow, standIns := [], harness := (true, "61e5f8813651ee1b462a575600fd661ee40d013f6bd4470ae3f164328e42e925"), looks := false }, kinds := [], alts := [], laidByText := true, laidKinds := [.data, .data, .data], laidTests := true, laidLooks := .later }
def FnExactOpenTextUptoCardSaid : Prop := Claim7.holds Tryd.pinned (.plain (OpenSpec.upto fnExactOpenTextSpec)) fnExactOpenTextUptoCard

/-- THE SECOND FORM's CARD OF 'laws.FnExactIsMark'. -/
def fnExactIsMarkUptoCard : Claim7 := { stood := { row := fnExactIsMarkUptoRow, standIns := [], harness := (true, "61e5f8813651ee1b462a575600fd661ee40d013f6bd4470ae3f164328e42e925"), looks := false }, kinds := [], alts := [], laidByText := true, laidKinds := [.data, .pinned], laidTests := true, laidLooks := .later }
def FnExactIsMarkUptoCardSaid : Prop := Claim7.holds Tryd.pinned (.plain (OpenSpec.upto fnExactIsMarkSpec)) fnExactIsMarkUptoCard
end Rows
end Go.Proofs.YtcmkfkgcbllijaaDoor
