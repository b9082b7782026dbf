/-
  No cell of these rows narrows 'for every input' (looked for: loops, veiled, ifaces, maps, wideKeys, modest, calm, conditions, laid).
  DERIVED. THE GIVEN ROWS OF THIS SEAT. 5 by the template 'for every input the law returns true; each argument reads behind the call as it read before'; 0 by the template 'total and deterministic' (their statements: YtkchpngkmchamaaTotals.lean).
  GIVEN WITH THE SEED: the statements are not yours to turn. If you find one false, say at which input.
  Laid BY PROGRAM, IN A SANDBOX (cutbox-rows.mjs): the forced cells as the released guide's own fill.sh prints them over the translation b93b79480cb7f6ae… (all of the seat's roots in one cut). By AI agents, Wed Nov 11 2026. No macro, syntax, notation, axiom, sorry.
-/
import Derived.Test.YtkchpngkmchamaaChecked
import GoSem.Claim
import GoSem.ClaimJoined
import GoSem.ClaimMapViews
import Derived.JoinedTies
import Derived.KernelRfl
namespace Go.Proofs.Ytkchpngkmchamaa
/- THE CELL 'sum', in the pinned program and in every row, IS THE sha256 OF THE DUMP (.gsa) THAT YtkchpngkmchamaaProg.lean LOADS. Nothing in Lean hashes anything: it is a label: what it is worth is what the hold of that sum in a sandbox is worth. -/
noncomputable def Try.pinned : Pinned := { name := "ytkchpngkmchamaa", sum := "b93b79480cb7f6ae924eecbb3df9924bbb83c74ce0957645906ee7c02585973d", checked := Try.checked }
namespace Rows
def none {H : Type} : Left H := { results := [], args := [] }

/-- 'fermatalaw24.SpaceWrong': WHATEVER THE INPUT: true; the input reads as it did. -/
def spaceWrongSpec : ChangeSpec := { name := "spaceWrong", fn := fun _ => fun
  | [d1, d2, d3] => { results := [.lit (.bool true)], args := [d1, d2, d3] }
  | _ => none }
def spaceWrongRow : OpenClaim := { program := "ytkchpngkmchamaa", sum := "b93b79480cb7f6ae924eecbb3df9924bbb83c74ce0957645906ee7c02585973d", func := "fermata/fermatalaw24.SpaceWrong", spec := "spaceWrong", inPlace := ["internal/bytealg.IndexByteString", "internal/bytealg.IndexString", "slices.overlaps[string]"], unfollowed := true, recurses := true, named := ["internal/bytealg.MaxLen"], apart := false }
def SpaceWrongSaid : Prop := spaceWrongRow.holds Try.pinned (OpenSpec.ofChange spaceWrongSpec)

/-- ITS FALSE NEIGHBOUR: 'it returns false'. Refute it at one input. -/
def spaceWrongWrong : ChangeSpec := { name := "spaceWrong", fn := fun _ => fun
  | [d1, d2, d3] => { results := [.lit (.bool false)], args := [d1, d2, d3] }
  | _ => none }
def SpaceWrongWrongFalsely : Prop := spaceWrongRow.holds Try.pinned (OpenSpec.ofChange spaceWrongWrong)

/-- 'fermatalaw24.SpaceCloses': WHATEVER THE INPUT: true; the input reads as it did. -/
def spaceClosesSpec : ChangeSpec := { name := "spaceCloses", fn := fun _ => fun
  | [d1, d2] => { results := [.lit (.bool true)], args := [d1, d2] }
  | _ => none }
def spaceClosesRow : OpenClaim := { program := "ytkchpngkmchamaa", sum := "b93b79480cb7f6ae924eecbb3df9924bbb83c74ce0957645906ee7c02585973d", func := "fermata/fermatalaw24.SpaceCloses", spec := "spaceCloses", inPlace := ["internal/bytealg.IndexByteString", "internal/bytealg.IndexString", "slices.overlaps[string]"], unfollowed := true, recurses := true, named := ["internal/bytealg.MaxLen"], apart := false }
def SpaceClosesSaid : Prop := spaceClosesRow.holds Try.pinned (OpenSpec.ofChange spaceClosesSpec)

/-- ITS FALSE NEIGHBOUR: 'it returns false'. Refute it at one input. -/
def spaceClosesWrong : ChangeSpec := { name := "spaceCloses", fn := fun _ => fun
  | [d1, d2] => { results := [.lit (.bool false)], args := [d1, d2] }
  | _ => none }
def SpaceClosesWrongFalsely : Prop := spaceClosesRow.holds Try.pinned (OpenSpec.ofChange spaceClosesWrong)

/-- 'fermatalaw24.SpaceUnder': WHATEVER THE INPUT: true; the input reads as it did. -/
def spaceUnderSpec : ChangeSpec := { name := "spaceUnder", fn := fun _ => fun
  | [d1, d2] => { results := [.lit (.bool true)], args := [d1, d2] }
  | _ => none }
def spaceUnderRow : OpenClaim := { program := "ytkchpngkmchamaa", sum := "b93b79480cb7f6ae924eecbb3df9924bbb83c74ce0957645906ee7c02585973d", func := "fermata/fermatalaw24.SpaceUnder", spec := "spaceUnder", inPlace := ["internal/bytealg.IndexByteString", "internal/bytealg.IndexString", "slices.overlaps[string]"], unfollowed := true, recurses := true, named := ["internal/bytealg.MaxLen"], apart := false }
def SpaceUnderSaid : Prop := spaceUnderRow.holds Try.pinned (OpenSpec.ofChange spaceUnderSpec)

/-- ITS FALSE NEIGHBOUR: 'it returns false'. Refute it at one input. -/
def spaceUnderWrong : ChangeSpec := { name := "spaceUnder", fn := fun _ => fun
  | [d1, d2] => { results := [.lit (.bool false)], args := [d1, d2] }
  | _ => none }
def SpaceUnderWrongFalsely : Prop := spaceUnderRow.holds Try.pinned (OpenSpec.ofChange spaceUnderWrong)

/-- 'fermatalaw24.SpaceRenames': WHATEVER THE INPUT: true; the input reads as it did. -/
def spaceRenamesSpec : ChangeSpec := { name := "spaceRenames", fn := fun _ => fun
  | [d1, d2, d3, d4] => { results := [.lit (.bool true)], args := [d1, d2, d3, d4] }
  | _ => none }
def spaceRenamesRow : OpenClaim := { program := "ytkchpngkmchamaa", sum := "b93b79480cb7f6ae924eecbb3df9924bbb83c74ce0957645906ee7c02585973d", func := "fermata/fermatalaw24.SpaceRenames", spec := "spaceRenames", inPlace := ["internal/bytealg.IndexByteString", "internal/bytealg.IndexString", "slices.overlaps[string]"], unfollowed := true, recurses := true, named := ["internal/bytealg.MaxLen"], apart := false }
def SpaceRenamesSaid : Prop := spaceRenamesRow.holds Try.pinned (OpenSpec.ofChange spaceRenamesSpec)

/-- ITS FALSE NEIGHBOUR: 'it returns false'. Refute it at one input. -/
def spaceRenamesWrong : ChangeSpec := { name := "spaceRenames", fn := fun _ => fun
  | [d1, d2, d3, d4] => { results := [.lit (.bool false)], args := [d1, d2, d3, d4] }
  | _ => none }
def SpaceRenamesWrongFalsely : Prop := spaceRenamesRow.holds Try.pinned (OpenSpec.ofChange spaceRenamesWrong)

/-- 'fermatalaw24.SpaceCopies': WHATEVER THE INPUT: true; the input reads as it did. -/
def spaceCopiesSpec : ChangeSpec := { name := "spaceCopies", fn := fun _ => fun
  | [d1, d2] => { results := [.lit (.bool true)], args := [d1, d2] }
  | _ => none }
def spaceCopiesRow : OpenClaim := { program := "ytkchpngkmchamaa", sum := "b93b79480cb7f6ae924eecbb3df9924bbb83c74ce0957645906ee7c02585973d", func := "fermata/fermatalaw24.SpaceCopies", spec := "spaceCopies", inPlace := ["internal/bytealg.IndexByteString", "internal/bytealg.IndexString", "slices.overlaps[string]", "maps.clone"], unfollowed := true, recurses := true, named := ["internal/bytealg.MaxLen"], apart := false }
def SpaceCopiesSaid : Prop := spaceCopiesRow.holds Try.pinned (OpenSpec.ofChange spaceCopiesSpec)

/-- ITS FALSE NEIGHBOUR: 'it returns false'. Refute it at one input. -/
def spaceCopiesWrong : ChangeSpec := { name := "spaceCopies", fn := fun _ => fun
  | [d1, d2] => { results := [.lit (.bool false)], args := [d1, d2] }
  | _ => none }
def SpaceCopiesWrongFalsely : Prop := spaceCopiesRow.holds Try.pinned (OpenSpec.ofChange spaceCopiesWrong)

/- THE SECOND FORM. 'bulk': how many values and letters a reading holds, each counted each time it is reached (what is shared counts as often as it is met; a slice's spare places count too). A statement '..UptoSaid' is the law's where the arguments, and the package variables that the reading takes, are together of bulk at most 1048576: NARROWER than '..Said'. Prove '..Said' where nothing that the law and all that it calls make is longer than what came in: it says more and counts as full. Else prove '..UptoSaid'. A law counts once. -/
mutual
def uptoBulk {H : Type} : DataW H → Nat
  | .lit (.string bytes) => bytes.length + 1
  | .lit _ => 1
  | .nil => 1
  | .ptr d => uptoBulk d + 1
  | .slice elems spare => uptoBulkAll elems + uptoBulkAll spare + 1
  | .agg parts => uptoBulkAll parts + 1
  | .iface _ d => uptoBulk d + 1
  | .map entries => uptoBulkEntries entries + 1
  | .held _ => 1
def uptoBulkAll {H : Type} : List (DataW H) → Nat
  | [] => 0
  | d :: r => uptoBulk d + uptoBulkAll r
def uptoBulkEntries {H : Type} : List (Lit × DataW H) → Nat
  | [] => 0
  | x :: r => uptoBulkEntry x + uptoBulkEntries r
def uptoBulkEntry {H : Type} : Lit × DataW H → Nat
  | (.string bytes, d) => bytes.length + uptoBulk d + 1
  | (_, d) => uptoBulk d + 1
 end
def uptoSmall : (H : Type) → List (DataW H) → Bool := fun _ ds => decide (uptoBulkAll ds ≤ 1048576)
def OpenSpec.upto (s : _root_.Go.ChangeSpec) : _root_.Go.OpenSpec := { _root_.Go.OpenSpec.ofChange s with cond := some uptoSmall }

/-- 'fermatalaw24.SpaceWrong', WHERE WHAT IT READS IS OF BULK AT MOST 1048576: true; the input reads as it did. -/
def spaceWrongUptoRow : OpenClaim := { program := "ytkchpngkmchamaa", sum := "b93b79480cb7f6ae924eecbb3df9924bbb83c74ce0957645906ee7c02585973d", func := "fermata/fermatalaw24.SpaceWrong", spec := "spaceWrong", inPlace := ["internal/bytealg.IndexByteString", "internal/bytealg.IndexString", "slices.overlaps[string]"], unfollowed := true, recurses := true, named := ["internal/bytealg.MaxLen"], apart := false, narrowed := true }
def SpaceWrongUptoSaid : Prop := spaceWrongUptoRow.holds Try.pinned (OpenSpec.upto spaceWrongSpec)

/-- 'fermatalaw24.SpaceCloses', WHERE WHAT IT READS IS OF BULK AT MOST 1048576: true; the input reads as it did. -/
def spaceClosesUptoRow : OpenClaim := { program := "ytkchpngkmchamaa", sum := "b93b79480cb7f6ae924eecbb3df9924bbb83c74ce0957645906ee7c02585973d", func := "fermata/fermatalaw24.SpaceCloses", spec := "spaceCloses", inPlace := ["internal/bytealg.IndexByteString", "internal/bytealg.IndexString", "slices.overlaps[string]"], unfollowed := true, recurses := true, named := ["internal/bytealg.MaxLen"], apart := false, narrowed := true }
def SpaceClosesUptoSaid : Prop := spaceClosesUptoRow.holds Try.pinned (OpenSpec.upto spaceClosesSpec)

/-- 'fermatalaw24.SpaceUnder', WHERE WHAT IT READS IS OF BULK AT MOST 1048576: true; the input reads as it did. -/
def spaceUnderUptoRow : OpenClaim := { program := "ytkchpngkmchamaa", sum := "b93b79480cb7f6ae924eecbb3df9924bbb83c74ce0957645906ee7c02585973d", func := "fermata/fermatalaw24.SpaceUnder", spec := "spaceUnder", inPlace := ["internal/bytealg.IndexByteString", "internal/bytealg.IndexString", "slices.overlaps[string]"], unfollowed := true, recurses := true, named := ["internal/bytealg.MaxLen"], apart := false, narrowed := true }
def SpaceUnderUptoSaid : Prop := spaceUnderUptoRow.holds Try.pinned (OpenSpec.upto spaceUnderSpec)

/-- 'fermatalaw24.SpaceRenames', WHERE WHAT IT READS IS OF BULK AT MOST 1048576: true; the input reads as it did. -/
def spaceRenamesUptoRow : OpenClaim := { program := "ytkchpngkmchamaa", sum := "b93b79480cb7f6ae924eecbb3df9924bbb83c74ce0957645906ee7c02585973d", func := "fermata/fermatalaw24.SpaceRenames", spec := "spaceRenames", inPlace := ["internal/bytealg.IndexByteString", "internal/bytealg.IndexString", "slices.overlaps[string]"], unfollowed := true, recurses := true, named := ["internal/bytealg.MaxLen"], apart := false, narrowed := true }
def SpaceRenamesUptoSaid : Prop := spaceRenamesUptoRow.holds Try.pinned (OpenSpec.upto spaceRenamesSpec)

/-- 'fermatalaw24.SpaceCopies', WHERE WHAT IT READS IS OF BULK AT MOST 1048576: true; the input reads as it did. -/
def spaceCopiesUptoRow : OpenClaim := { program := "ytkchpngkmchamaa", sum := "b93b79480cb7f6ae924eecbb3df9924bbb83c74ce0957645906ee7c02585973d", func := "fermata/fermatalaw24.SpaceCopies", spec := "spaceCopies", inPlace := ["internal/bytealg.IndexByteString", "internal/bytealg.IndexString", "slices.overlaps[string]", "maps.clone"], unfollowed := true, recurses := true, named := ["internal/bytealg.MaxLen"], apart := false, narrowed := true }
def SpaceCopiesUptoSaid : Prop := spaceCopiesUptoRow.holds Try.pinned (OpenSpec.upto spaceCopiesSpec)

end Rows
end Go.Proofs.Ytkchpngkmchamaa
