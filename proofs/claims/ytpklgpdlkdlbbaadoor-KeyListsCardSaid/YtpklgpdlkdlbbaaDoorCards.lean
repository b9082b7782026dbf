/-
  DERIVED. GIVEN WITH THE SEED: THE CARDS: each row of YtpklgpdlkdlbbaaDoorRows.lean that lists a variable, with what it lists TIED to the program's text (the seventh form; the later family's looks); each row that meets fmt, with fmt's text TOLD by the authors' own Lean function (tested against real Go, not proved from fmt's source: count such statements apart). THE CARD IS WHAT COUNTS. Prove the row's statement (the work); the ties are given (YtpklgpdlkdlbbaaDoorTie.lean); close each card by the builder's one call (the guide's Derived/Test/ToyasCard.lean, 'card_holds'). Laid BY PROGRAM, IN A SANDBOX (cutbox-door.mjs). By AI agents, Wed Nov 11 2026. No macro, syntax, notation, axiom, sorry.
-/
import Derived.Test.YtpklgpdlkdlbbaaDoorRows
import GoSem.ClaimSeven
namespace Go.Proofs.YtpklgpdlkdlbbaaDoor
namespace Rows

/-- THE TIED CARD OF 'fermatalaw07.KeyLists'. -/
def keyListsCard : Claim7 := { stood := { row := keyListsRow, standIns := [], harness := (true, "d948ed85f9101cb301ff125e766f475e59b273476a158bb0ef8453c8c3a9f892"), looks := true }, kinds := [], alts := [], laidByText := true, laidKinds := [.data, .data, .data, .sentinel, .sentinel], laidTests := true, laidLooks := .later }
def KeyListsCardSaid : Prop := Claim7.holds Tryd.pinned (.plain (OpenSpec.ofChange keyListsSpec)) keyListsCard

/-- THE SECOND FORM's CARD OF 'fermatalaw07.KeyLists'. -/
def keyListsUptoCard : Claim7 := { stood := { row := keyListsUptoRow, standIns := [], harness := (true, "d948ed85f9101cb301ff125e766f475e59b273476a158bb0ef8453c8c3a9f892"), looks := true }, kinds := [], alts := [], laidByText := true, laidKinds := [.data, .data, .data, .sentinel, .sentinel], laidTests := true, laidLooks := .later }
def KeyListsUptoCardSaid : Prop := Claim7.holds Tryd.pinned (.plain (OpenSpec.upto keyListsSpec)) keyListsUptoCard
end Rows
end Go.Proofs.YtpklgpdlkdlbbaaDoor
