/-
  DERIVED. GIVEN WITH THE SEED: THE CARDS: each row of YtpklgpdlkdlbbaaGreatDoorRows.lean that lists a variable, with what it lists TIED to the program's text (the seventh form; the later family's looks); each row that meets fmt, with fmt's text TOLD by the authors' own Lean function (tested against real Go, not proved from fmt's source: count such statements apart). THE CARD IS WHAT COUNTS. Prove the row's statement (the work); the ties are given (YtpklgpdlkdlbbaaGreatDoorTie.lean); close each card by the builder's one call (the guide's Derived/Test/ToyasCard.lean, 'card_holds'). Laid BY PROGRAM, IN A SANDBOX (cutbox-door.mjs). By AI agents, Wed Nov 11 2026. No macro, syntax, notation, axiom, sorry.
-/
import Derived.Test.YtpklgpdlkdlbbaaGreatDoorRows
import GoSem.ClaimSeven
namespace Go.Proofs.YtpklgpdlkdlbbaaGreatDoor
namespace Rows

/-- THE TIED CARD OF 'fermatalaw07.KeyWrong'. -/
def keyWrongCard : Claim7 := { stood := { row := keyWrongRow, standIns := [], harness := (true, "3f3303532c793e4e78ac49e4ef0a71667918e18e42dfe4169e1ef3fab6a07a1e"), looks := true }, kinds := [], alts := [], laidByText := true, laidKinds := [.data, .data, .data, .data, .sentinel, .sentinel, .pinned], laidTests := true, laidLooks := .later }
def KeyWrongCardSaid : Prop := Claim7.holds Tryz.pinned (.plain (OpenSpec.ofChange keyWrongSpec)) keyWrongCard

/-- THE TIED CARD OF 'fermatalaw07.KeySmall'. -/
def keySmallCard : Claim7 := { stood := { row := keySmallRow, standIns := [], harness := (true, "3f3303532c793e4e78ac49e4ef0a71667918e18e42dfe4169e1ef3fab6a07a1e"), looks := true }, kinds := [], alts := [], laidByText := true, laidKinds := [.data, .data, .data, .sentinel, .sentinel], laidTests := true, laidLooks := .later }
def KeySmallCardSaid : Prop := Claim7.holds Tryz.pinned (.plain (OpenSpec.ofChange keySmallSpec)) keySmallCard

/-- THE SECOND FORM's CARD OF 'fermatalaw07.KeyWrong'. -/
def keyWrongUptoCard : Claim7 := { stood := { row := keyWrongUptoRow, standIns := [], harness := (true, "3f3303532c793e4e78ac49e4ef0a71667918e18e42dfe4169e1ef3fab6a07a1e"), looks := true }, kinds := [], alts := [], laidByText := true, laidKinds := [.data, .data, .data, .data, .sentinel, .sentinel, .pinned], laidTests := true, laidLooks := .later }
def KeyWrongUptoCardSaid : Prop := Claim7.holds Tryz.pinned (.plain (OpenSpec.upto keyWrongSpec)) keyWrongUptoCard

/-- THE SECOND FORM's CARD OF 'fermatalaw07.KeySmall'. -/
def keySmallUptoCard : Claim7 := { stood := { row := keySmallUptoRow, standIns := [], harness := (true, "3f3303532c793e4e78ac49e4ef0a71667918e18e42dfe4169e1ef3fab6a07a1e"), looks := true }, kinds := [], alts := [], laidByText := true, laidKinds := [.data, .data, .data, .sentinel, .sentinel], laidTests := true, laidLooks := .later }
def KeySmallUptoCardSaid : Prop := Claim7.holds Tryz.pinned (.plain (OpenSpec.upto keySmallSpec)) keySmallUptoCard
end Rows
end Go.Proofs.YtpklgpdlkdlbbaaGreatDoor
