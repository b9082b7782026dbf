/-
  No cell of these rows narrows 'for every input' (looked for: loops, veiled, ifaces, maps, wideKeys, modest, calm, conditions, laid).
  DERIVED. THE GIVEN ROWS OF THIS SEAT. 6 by the template 'for every input the law returns true; each argument reads behind the call as it read before'; 0 by the template 'total and deterministic' (their statements: YtmcgipilopfgoaaTotals.lean).
  GIVEN WITH THE SEED: the statements are not yours to turn. If you find one false, say at which input.
  Laid BY PROGRAM, IN A SANDBOX (cutbox-rows.mjs): the forced cells as the released guide's own fill.sh prints them over the translation 3e9be822258ca253… (all of the seat's roots in one cut). By AI agents, Wed Nov 11 2026. No macro, syntax, notation, axiom, sorry.
-/
import Derived.Test.YtmcgipilopfgoaaChecked
import GoSem.Claim
import GoSem.ClaimJoined
import GoSem.ClaimMapViews
import Derived.JoinedTies
import Derived.KernelRfl
namespace Go.Proofs.Ytmcgipilopfgoaa
/- THE CELL 'sum', in the pinned program and in every row, IS THE sha256 OF THE DUMP (.gsa) THAT YtmcgipilopfgoaaProg.lean LOADS. Nothing in Lean hashes anything: it is a label: what it is worth is what the hold of that sum in a sandbox is worth. -/
noncomputable def Try.pinned : Pinned := { name := "ytmcgipilopfgoaa", sum := "3e9be822258ca253beac9a1653657bc756b6cad864321566214dcbf84cf4e284", checked := Try.checked }
namespace Rows
def none {H : Type} : Left H := { results := [], args := [] }

/-- 'fermatalaw10.EvqRoom': WHATEVER THE INPUT: true; the input reads as it did. -/
def evqRoomSpec : ChangeSpec := { name := "evqRoom", fn := fun _ => fun
  | [d1, d2] => { results := [.lit (.bool true)], args := [d1, d2] }
  | _ => none }
def evqRoomRow : OpenClaim := { program := "ytmcgipilopfgoaa", sum := "3e9be822258ca253beac9a1653657bc756b6cad864321566214dcbf84cf4e284", func := "fermata/fermatalaw10.EvqRoom", spec := "evqRoom", inPlace := ["slices.overlaps[fermata/api.Event]"], unfollowed := true, recurses := true, plainKeys := false, apart := false }
def EvqRoomSaid : Prop := evqRoomRow.holds Try.pinned (OpenSpec.ofChange evqRoomSpec)

/-- ITS FALSE NEIGHBOUR: 'it returns false'. Refute it at one input. -/
def evqRoomWrong : ChangeSpec := { name := "evqRoom", fn := fun _ => fun
  | [d1, d2] => { results := [.lit (.bool false)], args := [d1, d2] }
  | _ => none }
def EvqRoomWrongFalsely : Prop := evqRoomRow.holds Try.pinned (OpenSpec.ofChange evqRoomWrong)

/-- 'fermatalaw10.EvqWrong': WHATEVER THE INPUT: true; the input reads as it did. -/
def evqWrongSpec : ChangeSpec := { name := "evqWrong", fn := fun _ => fun
  | [d1, d2, d3, d4] => { results := [.lit (.bool true)], args := [d1, d2, d3, d4] }
  | _ => none }
def evqWrongRow : OpenClaim := { program := "ytmcgipilopfgoaa", sum := "3e9be822258ca253beac9a1653657bc756b6cad864321566214dcbf84cf4e284", func := "fermata/fermatalaw10.EvqWrong", spec := "evqWrong", inPlace := ["slices.overlaps[fermata/api.Event]"], unfollowed := true, recurses := true, plainKeys := false, apart := false }
def EvqWrongSaid : Prop := evqWrongRow.holds Try.pinned (OpenSpec.ofChange evqWrongSpec)

/-- ITS FALSE NEIGHBOUR: 'it returns false'. Refute it at one input. -/
def evqWrongWrong : ChangeSpec := { name := "evqWrong", fn := fun _ => fun
  | [d1, d2, d3, d4] => { results := [.lit (.bool false)], args := [d1, d2, d3, d4] }
  | _ => none }
def EvqWrongWrongFalsely : Prop := evqWrongRow.holds Try.pinned (OpenSpec.ofChange evqWrongWrong)

/-- 'fermatalaw10.EvqCuts': WHATEVER THE INPUT: true; the input reads as it did. -/
def evqCutsSpec : ChangeSpec := { name := "evqCuts", fn := fun _ => fun
  | [d1, d2, d3] => { results := [.lit (.bool true)], args := [d1, d2, d3] }
  | _ => none }
def evqCutsRow : OpenClaim := { program := "ytmcgipilopfgoaa", sum := "3e9be822258ca253beac9a1653657bc756b6cad864321566214dcbf84cf4e284", func := "fermata/fermatalaw10.EvqCuts", spec := "evqCuts", inPlace := ["slices.overlaps[fermata/api.Event]"], unfollowed := true, recurses := true, plainKeys := false, apart := false }
def EvqCutsSaid : Prop := evqCutsRow.holds Try.pinned (OpenSpec.ofChange evqCutsSpec)

/-- ITS FALSE NEIGHBOUR: 'it returns false'. Refute it at one input. -/
def evqCutsWrong : ChangeSpec := { name := "evqCuts", fn := fun _ => fun
  | [d1, d2, d3] => { results := [.lit (.bool false)], args := [d1, d2, d3] }
  | _ => none }
def EvqCutsWrongFalsely : Prop := evqCutsRow.holds Try.pinned (OpenSpec.ofChange evqCutsWrong)

/-- 'fermatalaw10.EvqCancels': WHATEVER THE INPUT: true; the input reads as it did. -/
def evqCancelsSpec : ChangeSpec := { name := "evqCancels", fn := fun _ => fun
  | [d1, d2] => { results := [.lit (.bool true)], args := [d1, d2] }
  | _ => none }
def evqCancelsRow : OpenClaim := { program := "ytmcgipilopfgoaa", sum := "3e9be822258ca253beac9a1653657bc756b6cad864321566214dcbf84cf4e284", func := "fermata/fermatalaw10.EvqCancels", spec := "evqCancels", inPlace := ["slices.overlaps[fermata/api.Event]"], unfollowed := true, recurses := true, plainKeys := false, apart := false }
def EvqCancelsSaid : Prop := evqCancelsRow.holds Try.pinned (OpenSpec.ofChange evqCancelsSpec)

/-- ITS FALSE NEIGHBOUR: 'it returns false'. Refute it at one input. -/
def evqCancelsWrong : ChangeSpec := { name := "evqCancels", fn := fun _ => fun
  | [d1, d2] => { results := [.lit (.bool false)], args := [d1, d2] }
  | _ => none }
def EvqCancelsWrongFalsely : Prop := evqCancelsRow.holds Try.pinned (OpenSpec.ofChange evqCancelsWrong)

/-- 'fermatalaw10.EvqApart': WHATEVER THE INPUT: true; the input reads as it did. -/
def evqApartSpec : ChangeSpec := { name := "evqApart", fn := fun _ => fun
  | [d1, d2, d3] => { results := [.lit (.bool true)], args := [d1, d2, d3] }
  | _ => none }
def evqApartRow : OpenClaim := { program := "ytmcgipilopfgoaa", sum := "3e9be822258ca253beac9a1653657bc756b6cad864321566214dcbf84cf4e284", func := "fermata/fermatalaw10.EvqApart", spec := "evqApart", inPlace := ["slices.overlaps[fermata/api.Event]"], unfollowed := true, recurses := true, plainKeys := false, apart := false }
def EvqApartSaid : Prop := evqApartRow.holds Try.pinned (OpenSpec.ofChange evqApartSpec)

/-- ITS FALSE NEIGHBOUR: 'it returns false'. Refute it at one input. -/
def evqApartWrong : ChangeSpec := { name := "evqApart", fn := fun _ => fun
  | [d1, d2, d3] => { results := [.lit (.bool false)], args := [d1, d2, d3] }
  | _ => none }
def EvqApartWrongFalsely : Prop := evqApartRow.holds Try.pinned (OpenSpec.ofChange evqApartWrong)

/-- 'fermatalaw10.EvqOrder': WHATEVER THE INPUT: true; the input reads as it did. -/
def evqOrderSpec : ChangeSpec := { name := "evqOrder", fn := fun _ => fun
  | [d1, d2] => { results := [.lit (.bool true)], args := [d1, d2] }
  | _ => none }
def evqOrderRow : OpenClaim := { program := "ytmcgipilopfgoaa", sum := "3e9be822258ca253beac9a1653657bc756b6cad864321566214dcbf84cf4e284", func := "fermata/fermatalaw10.EvqOrder", spec := "evqOrder", inPlace := ["slices.overlaps[fermata/api.Event]"], unfollowed := true, recurses := true, plainKeys := false, apart := false }
def EvqOrderSaid : Prop := evqOrderRow.holds Try.pinned (OpenSpec.ofChange evqOrderSpec)

/-- ITS FALSE NEIGHBOUR: 'it returns false'. Refute it at one input. -/
def evqOrderWrong : ChangeSpec := { name := "evqOrder", fn := fun _ => fun
  | [d1, d2] => { results := [.lit (.bool false)], args := [d1, d2] }
  | _ => none }
def EvqOrderWrongFalsely : Prop := evqOrderRow.holds Try.pinned (OpenSpec.ofChange evqOrderWrong)

/- THE SECOND FORM. 'bulk': how many values and letters a reading holds, each counted each time it is reached (what is shared counts as often as it is met; a slice's spare places count too). A statement '..UptoSaid' is the law's where the arguments, and the package variables that the reading takes, are together of bulk at most 1048576: NARROWER than '..Said'. Prove '..Said' where nothing that the law and all that it calls make is longer than what came in: it says more and counts as full. Else prove '..UptoSaid'. A law counts once. -/
mutual
def uptoBulk {H : Type} : DataW H → Nat
  | .lit (.string bytes) => bytes.length + 1
  | .lit _ => 1
  | .nil => 1
  | .ptr d => uptoBulk d + 1
  | .slice elems spare => uptoBulkAll elems + uptoBulkAll spare + 1
  | .agg parts => uptoBulkAll parts + 1
  | .iface _ d => uptoBulk d + 1
  | .map entries => uptoBulkEntries entries + 1
  | .held _ => 1
def uptoBulkAll {H : Type} : List (DataW H) → Nat
  | [] => 0
  | d :: r => uptoBulk d + uptoBulkAll r
def uptoBulkEntries {H : Type} : List (Lit × DataW H) → Nat
  | [] => 0
  | x :: r => uptoBulkEntry x + uptoBulkEntries r
def uptoBulkEntry {H : Type} : Lit × DataW H → Nat
  | (.string bytes, d) => bytes.length + uptoBulk d + 1
  | (_, d) => uptoBulk d + 1
 end
def uptoSmall : (H : Type) → List (DataW H) → Bool := fun _ ds => decide (uptoBulkAll ds ≤ 1048576)
def OpenSpec.upto (s : _root_.Go.ChangeSpec) : _root_.Go.OpenSpec := { _root_.Go.OpenSpec.ofChange s with cond := some uptoSmall }

/-- 'fermatalaw10.EvqRoom', WHERE WHAT IT READS IS OF BULK AT MOST 1048576: true; the input reads as it did. -/
def evqRoomUptoRow : OpenClaim := { program := "ytmcgipilopfgoaa", sum := "3e9be822258ca253beac9a1653657bc756b6cad864321566214dcbf84cf4e284", func := "fermata/fermatalaw10.EvqRoom", spec := "evqRoom", inPlace := ["slices.overlaps[fermata/api.Event]"], unfollowed := true, recurses := true, plainKeys := false, apart := false, narrowed := true }
def EvqRoomUptoSaid : Prop := evqRoomUptoRow.holds Try.pinned (OpenSpec.upto evqRoomSpec)

/-- 'fermatalaw10.EvqWrong', WHERE WHAT IT READS IS OF BULK AT MOST 1048576: true; the input reads as it did. -/
def evqWrongUptoRow : OpenClaim := { program := "ytmcgipilopfgoaa", sum := "3e9be822258ca253beac9a1653657bc756b6cad864321566214dcbf84cf4e284", func := "fermata/fermatalaw10.EvqWrong", spec := "evqWrong", inPlace := ["slices.overlaps[fermata/api.Event]"], unfollowed := true, recurses := true, plainKeys := false, apart := false, narrowed := true }
def EvqWrongUptoSaid : Prop := evqWrongUptoRow.holds Try.pinned (OpenSpec.upto evqWrongSpec)

/-- 'fermatalaw10.EvqCuts', WHERE WHAT IT READS IS OF BULK AT MOST 1048576: true; the input reads as it did. -/
def evqCutsUptoRow : OpenClaim := { program := "ytmcgipilopfgoaa", sum := "3e9be822258ca253beac9a1653657bc756b6cad864321566214dcbf84cf4e284", func := "fermata/fermatalaw10.EvqCuts", spec := "evqCuts", inPlace := ["slices.overlaps[fermata/api.Event]"], unfollowed := true, recurses := true, plainKeys := false, apart := false, narrowed := true }
def EvqCutsUptoSaid : Prop := evqCutsUptoRow.holds Try.pinned (OpenSpec.upto evqCutsSpec)

/-- 'fermatalaw10.EvqCancels', WHERE WHAT IT READS IS OF BULK AT MOST 1048576: true; the input reads as it did. -/
def evqCancelsUptoRow : OpenClaim := { program := "ytmcgipilopfgoaa", sum := "3e9be822258ca253beac9a1653657bc756b6cad864321566214dcbf84cf4e284", func := "fermata/fermatalaw10.EvqCancels", spec := "evqCancels", inPlace := ["slices.overlaps[fermata/api.Event]"], unfollowed := true, recurses := true, plainKeys := false, apart := false, narrowed := true }
def EvqCancelsUptoSaid : Prop := evqCancelsUptoRow.holds Try.pinned (OpenSpec.upto evqCancelsSpec)

/-- 'fermatalaw10.EvqApart', WHERE WHAT IT READS IS OF BULK AT MOST 1048576: true; the input reads as it did. -/
def evqApartUptoRow : OpenClaim := { program := "ytmcgipilopfgoaa", sum := "3e9be822258ca253beac9a1653657bc756b6cad864321566214dcbf84cf4e284", func := "fermata/fermatalaw10.EvqApart", spec := "evqApart", inPlace := ["slices.overlaps[fermata/api.Event]"], unfollowed := true, recurses := true, plainKeys := false, apart := false, narrowed := true }
def EvqApartUptoSaid : Prop := evqApartUptoRow.holds Try.pinned (OpenSpec.upto evqApartSpec)

/-- 'fermatalaw10.EvqOrder', WHERE WHAT IT READS IS OF BULK AT MOST 1048576: true; the input reads as it did. -/
def evqOrderUptoRow : OpenClaim := { program := "ytmcgipilopfgoaa", sum := "3e9be822258ca253beac9a1653657bc756b6cad864321566214dcbf84cf4e284", func := "fermata/fermatalaw10.EvqOrder", spec := "evqOrder", inPlace := ["slices.overlaps[fermata/api.Event]"], unfollowed := true, recurses := true, plainKeys := false, apart := false, narrowed := true }
def EvqOrderUptoSaid : Prop := evqOrderUptoRow.holds Try.pinned (OpenSpec.upto evqOrderSpec)

end Rows
end Go.Proofs.Ytmcgipilopfgoaa
