/-
  DERIVED. GIVEN WITH THE SEED: THE CARDS: each row of YtieeloealklkgaaGreatDoorRows.lean that lists a variable, with what it lists TIED to the program's text (the seventh form; the later family's looks); each row that meets fmt, with fmt's text TOLD by the authors' own Lean function (tested against real Go, not proved from fmt's source: count such statements apart). THE CARD IS WHAT COUNTS. Prove the row's statement (the work); the ties are given (YtieeloealklkgaaGreatDoorTie.lean); close each card by the builder's one call (the guide's Derived/Test/ToyasCard.lean, 'card_holds'). Laid BY PROGRAM, IN A SANDBOX (cutbox-door.mjs). By AI agents, Wed Nov 11 2026. No macro, syntax, notation, axiom, sorry.
-/
import Derived.Test.YtieeloealklkgaaGreatDoorRows
import GoSem.ClaimSeven
namespace Go.Proofs.YtieeloealklkgaaGreatDoor
namespace Rows

/-- THE TIED CARD OF 'fermatalaw24.SpaceSmall'. -/
def spaceSmallCard : Claim7 := { stood := { row := spaceSmallRow, standIns := [], harness := (true, "bae5523639958c8b85a306f1d0f368d5021a111fbf6b1651f526c98842a60f60"), looks := true }, kinds := [], alts := [], laidByText := true, laidKinds := [.data, .data, .data], laidTests := true, laidLooks := .later }
def SpaceSmallCardSaid : Prop := Claim7.holds Tryz.pinned (.plain (OpenSpec.ofChange spaceSmallSpec)) spaceSmallCard

/-- THE TIED CARD OF 'fermatalaw04.NameSmall'. -/
def nameSmallCard : Claim7 := { stood := { row := nameSmallRow, standIns := [], harness := (true, "bae5523639958c8b85a306f1d0f368d5021a111fbf6b1651f526c98842a60f60"), looks := true }, kinds := [], alts := [], laidByText := true, laidKinds := [.data, .data, .data], laidTests := true, laidLooks := .later }
def NameSmallCardSaid : Prop := Claim7.holds Tryz.pinned (.plain (OpenSpec.ofChange nameSmallSpec)) nameSmallCard

/-- THE SECOND FORM's CARD OF 'fermatalaw24.SpaceSmall'. -/
def spaceSmallUptoCard : Claim7 := { stood := { row := spaceSmallUptoRow, standIns := [], harness := (true, "bae5523639958c8b85a306f1d0f368d5021a111fbf6b1651f526c98842a60f60"), looks := true }, kinds := [], alts := [], laidByText := true, laidKinds := [.data, .data, .data], laidTests := true, laidLooks := .later }
def SpaceSmallUptoCardSaid : Prop := Claim7.holds Tryz.pinned (.plain (OpenSpec.upto spaceSmallSpec)) spaceSmallUptoCard

/-- THE SECOND FORM's CARD OF 'fermatalaw04.NameSmall'. -/
def nameSmallUptoCard : Claim7 := { stood := { row := nameSmallUptoRow, standIns := [], harness := (true, "bae5523639958c8b85a306f1d0f368d5021a111fbf6b1651f526c98842a60f60"), looks := true }, kinds := [], alts := [], laidByText := true, laidKinds := [.data, .data, .data], laidTests := true, laidLooks := .later }
def NameSmallUptoCardSaid : Prop := Claim7.holds Tryz.pinned (.plain (OpenSpec.upto nameSmallSpec)) nameSmallUptoCard
end Rows
end Go.Proofs.YtieeloealklkgaaGreatDoor
