/-
  DERIVED. GIVEN WITH THE SEED: THE CARDS: each row of YtkohmodnjcoapaaGreatDoorRows.lean that lists a variable, with what it lists TIED to the program's text (the seventh form; the later family's looks); each row that meets fmt, with fmt's text TOLD by the authors' own Lean function (tested against real Go, not proved from fmt's source: count such statements apart). THE CARD IS WHAT COUNTS. Prove the row's statement (the work); the ties are given (YtkohmodnjcoapaaGreatDoorTie.lean); close each card by the builder's one call (the guide's Derived/Test/ToyasCard.lean, 'card_holds'). Laid BY PROGRAM, IN A SANDBOX (cutbox-door.mjs). By AI agents, Wed Nov 11 2026. No macro, syntax, notation, axiom, sorry.
-/
import Derived.Test.YtkohmodnjcoapaaGreatDoorRows
import GoSem.ClaimSeven
namespace Go.Proofs.YtkohmodnjcoapaaGreatDoor
namespace Rows

/-- THE TIED CARD OF 'fermatalaw07.KeyWrong'. -/
def keyWrongCard : Claim7 := { stood := { row := keyWrongRow, standIns := [], harness := (true, "1851d762dd032999b8bdf3117fc8f76b43d5434424702ce91ffab37262022015"), looks := true }, kinds := [], alts := [], laidByText := true, laidKinds := [.data, .data, .data, .data, .sentinel, .sentinel, .pinned], laidTests := true, laidLooks := .later }
def KeyWrongCardSaid : Prop := Claim7.holds Tryz.pinned (.plain (OpenSpec.ofChange keyWrongSpec)) keyWrongCard

/-- THE TIED CARD OF 'fermatalaw07.KeyTells'. -/
def keyTellsCard : Claim7 := { stood := { row := keyTellsRow, standIns := [], harness := (true, "1851d762dd032999b8bdf3117fc8f76b43d5434424702ce91ffab37262022015"), looks := true }, kinds := [], alts := [], laidByText := true, laidKinds := [.data, .data, .data, .sentinel, .sentinel], laidTests := true, laidLooks := .later }
def KeyTellsCardSaid : Prop := Claim7.holds Tryz.pinned (.plain (OpenSpec.ofChange keyTellsSpec)) keyTellsCard

/-- THE TIED CARD OF 'fermatalaw07.KeyReads'. -/
def keyReadsCard : Claim7 := { stood := { row := keyReadsRow, standIns := [], harness := (true, "1851d762dd032999b8bdf3117fc8f76b43d5434424702ce91ffab37262022015"), looks := true }, kinds := [], alts := [], laidByText := true, laidKinds := [.data, .data, .data, .sentinel, .sentinel], laidTests := true, laidLooks := .later }
def KeyReadsCardSaid : Prop := Claim7.holds Tryz.pinned (.plain (OpenSpec.ofChange keyReadsSpec)) keyReadsCard

/-- THE TIED CARD OF 'fermatalaw07.KeyFinds'. -/
def keyFindsCard : Claim7 := { stood := { row := keyFindsRow, standIns := [], harness := (true, "1851d762dd032999b8bdf3117fc8f76b43d5434424702ce91ffab37262022015"), looks := true }, kinds := [], alts := [], laidByText := true, laidKinds := [.data, .data, .data, .sentinel, .sentinel], laidTests := true, laidLooks := .later }
def KeyFindsCardSaid : Prop := Claim7.holds Tryz.pinned (.plain (OpenSpec.ofChange keyFindsSpec)) keyFindsCard

/-- THE TIED CARD OF 'fermatalaw07.KeySmall'. -/
def keySmallCard : Claim7 := { stood := { row := keySmallRow, standIns := [], harness := (true, "1851d762dd032999b8bdf3117fc8f76b43d5434424702ce91ffab37262022015"), looks := true }, kinds := [], alts := [], laidByText := true, laidKinds := [.data, .data, .data, .sentinel, .sentinel], laidTests := true, laidLooks := .later }
def KeySmallCardSaid : Prop := Claim7.holds Tryz.pinned (.plain (OpenSpec.ofChange keySmallSpec)) keySmallCard

/-- THE SECOND FORM's CARD OF 'fermatalaw07.KeyWrong'. -/
def keyWrongUptoCard : Claim7 := { stood := { row := keyWrongUptoRow, standIns := [], harness := (true, "1851d762dd032999b8bdf3117fc8f76b43d5434424702ce91ffab37262022015"), looks := true }, kinds := [], alts := [], laidByText := true, laidKinds := [.data, .data, .data, .data, .sentinel, .sentinel, .pinned], laidTests := true, laidLooks := .later }
def KeyWrongUptoCardSaid : Prop := Claim7.holds Tryz.pinned (.plain (OpenSpec.upto keyWrongSpec)) keyWrongUptoCard

/-- THE SECOND FORM's CARD OF 'fermatalaw07.KeyTells'. -/
def keyTellsUptoCard : Claim7 := { stood := { row := keyTellsUptoRow, standIns := [], harness := (true, "1851d762dd032999b8bdf3117fc8f76b43d5434424702ce91ffab37262022015"), looks := true }, kinds := [], alts := [], laidByText := true, laidKinds := [.data, .data, .data, .sentinel, .sentinel], laidTests := true, laidLooks := .later }
def KeyTellsUptoCardSaid : Prop := Claim7.holds Tryz.pinned (.plain (OpenSpec.upto keyTellsSpec)) keyTellsUptoCard

/-- THE SECOND FORM's CARD OF 'fermatalaw07.KeyReads'. -/
def keyReadsUptoCard : Claim7 := { stood := { row := keyReadsUptoRow, standIns := [], harness := (true, "1851d762dd032999b8bdf3117fc8f76b43d5434424702ce91ffab37262022015"), looks := true }, kinds := [], alts := [], laidByText := true, laidKinds := [.data, .data, .data, .sentinel, .sentinel], laidTests := true, laidLooks := .later }
def KeyReadsUptoCardSaid : Prop := Claim7.holds Tryz.pinned (.plain (OpenSpec.upto keyReadsSpec)) keyReadsUptoCard

/-- THE SECOND FORM's CARD OF 'fermatalaw07.KeyFinds'. -/
def keyFindsUptoCard : Claim7 := { stood := { row := keyFindsUptoRow, standIns := [], harness := (true, "1851d762dd032999b8bdf3117fc8f76b43d5434424702ce91ffab37262022015"), looks := true }, kinds := [], alts := [], laidByText := true, laidKinds := [.data, .data, .data, .sentinel, .sentinel], laidTests := true, laidLooks := .later }
def KeyFindsUptoCardSaid : Prop := Claim7.holds Tryz.pinned (.plain (OpenSpec.upto keyFindsSpec)) keyFindsUptoCard

/-- THE SECOND FORM's CARD OF 'fermatalaw07.KeySmall'. -/
def keySmallUptoCard : Claim7 := { stood := { row := keySmallUptoRow, standIns := [], harness := (true, "1851d762dd032999b8bdf3117fc8f76b43d5434424702ce91ffab37262022015"), looks := true }, kinds := [], alts := [], laidByText := true, laidKinds := [.data, .data, .data, .sentinel, .sentinel], laidTests := true, laidLooks := .later }
def KeySmallUptoCardSaid : Prop := Claim7.holds Tryz.pinned (.plain (OpenSpec.upto keySmallSpec)) keySmallUptoCard
end Rows
end Go.Proofs.YtkohmodnjcoapaaGreatDoor
