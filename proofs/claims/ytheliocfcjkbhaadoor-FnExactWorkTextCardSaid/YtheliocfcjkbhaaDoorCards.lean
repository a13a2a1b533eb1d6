/-
  DERIVED. GIVEN WITH THE SEED: THE CARDS: each row of YtheliocfcjkbhaaDoorRows.lean that lists a variable, with what it lists TIED to the program's text (the seventh form; the later family's looks); each row that meets fmt, with fmt's text TOLD by the authors' own Lean function (tested against real Go, not proved from fmt's source: count such statements apart). THE CARD IS WHAT COUNTS. Prove the row's statement (the work); the ties are given (YtheliocfcjkbhaaDoorTie.lean); close each card by the builder's one call (the guide's Derived/Test/ToyasCard.lean, 'card_holds'). Laid BY PROGRAM, IN A SANDBOX (cutbox-door.mjs). By AI agents, Wed Nov 11 2026. No macro, syntax, notation, axiom, sorry.
-/
import Derived.Test.YtheliocfcjkbhaaDoorRows
import GoSem.ClaimSeven
namespace Go.Proofs.YtheliocfcjkbhaaDoor
namespace Rows

/-- THE TIED CARD OF 'laws.FnExactWorkText'. -/
def fnExactWorkTextCard : Claim7 := { stood := { row := fnExactWorkTextRow, standIns := [], harness := (true, "789dee9112326fd44e1d8984ecf245a444ab888e9adacfc89a03d8299ee3868d"), looks := false }, kinds := [], alts := [], laidByText := true, laidKinds := [.data, .data, .data], laidTests := true, laidLooks := .later }
def FnExactWorkTextCardSaid : Prop := Claim7.holds Tryd.pinned (.plain (OpenSpec.ofChange fnExactWorkTextSpec)) fnExactWorkTextCard

/-- THE TIED CARD OF 'laws.FnExactLineOfMark'. -/
def fnExactLineOfMarkCard : Claim7 := { stood := { row := fnExactLineOfMarkRow, standIns := [], harness := (true, "789dee9112326fd44e1d8984ecf245a444ab888e9adacfc89a03d8299ee3868d"), looks := false }, kinds := [], alts := [], laidByText := true, laidKinds := [.data, .data, .data, .data, .pinned], laidTests := true, laidLooks := .later }
def FnExactLineOfMarkCardSaid : Prop := Claim7.holds Tryd.pinned (.plain (OpenSpec.ofChange fnExactLineOfMarkSpec)) fnExactLineOfMarkCard

/-- THE SECOND FORM's CARD OF 'laws.FnExactWorkText'. -/
def fnExactWorkTextUptoCard : Claim7 := { stood := { row := fnExactWorkTextUptoRow, standIns := [], harness := (true, "789dee9112326fd44e1d8984ecf245a444ab888e9adacfc89a03d8299ee3868d"), looks := false }, kinds := [], alts := [], laidByText := true, laidKinds := [.data, .data, .data], laidTests := true, laidLooks := .later }
def FnExactWorkTextUptoCardSaid : Prop := Claim7.holds Tryd.pinned (.plain (OpenSpec.upto fnExactWorkTextSpec)) fnExactWorkTextUptoCard

/-- THE SECOND FORM's CARD OF 'laws.FnExactLineOfMark'. -/
def fnExactLineOfMarkUptoCard : Claim7 := { stood := { row := fnExactLineOfMarkUptoRow, standIns := [], harness := (true, "789dee9112326fd44e1d8984ecf245a444ab888e9adacfc89a03d8299ee3868d"), looks := false }, kinds := [], alts := [], laidByText := true, laidKinds := [.data, .data, .data, .data, .pinned], laidTests := true, laidLooks := .later }
def FnExactLineOfMarkUptoCardSaid : Prop := Claim7.holds Tryd.pinned (.plain (OpenSpec.upto fnExactLineOfMarkSpec)) fnExactLineOfMarkUptoCard
end Rows
end Go.Proofs.YtheliocfcjkbhaaDoor
