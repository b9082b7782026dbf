/-
  No cell of these rows narrows 'for every input' (looked for: loops, veiled, ifaces, maps, wideKeys, modest, calm, conditions, laid).
  DERIVED. THE GIVEN ROWS OF THIS SEAT. 3 by the template 'for every input the law returns true; each argument reads behind the call as it read before'; 0 by the template 'total and deterministic' (their statements: YtmcgipilopfgoaaGreatTotals.lean).
  GIVEN WITH THE SEED: the statements are not yours to turn. If you find one false, say at which input.
  Laid BY PROGRAM, IN A SANDBOX (cutbox-rows.mjs): the forced cells as the released guide's own fill.sh prints them over the translation 2ea5ce4da4b3b11a… (all of the seat's roots in one cut). By AI agents, Wed Nov 11 2026. No macro, syntax, notation, axiom, sorry.
-/
import Derived.Test.YtmcgipilopfgoaaGreatChecked
import GoSem.Claim
import GoSem.ClaimJoined
import GoSem.ClaimMapViews
import Derived.JoinedTies
import Derived.KernelRfl
namespace Go.Proofs.YtmcgipilopfgoaaGreat
/- THE CELL 'sum', in the pinned program and in every row, IS THE sha256 OF THE DUMP (.gsa) THAT YtmcgipilopfgoaaGreatProg.lean LOADS. Nothing in Lean hashes anything: it is a label: what it is worth is what the hold of that sum in a sandbox is worth. -/
noncomputable def Tryz.pinned : Pinned := { name := "ytmcgipilopfgoaagreat", sum := "2ea5ce4da4b3b11acc8d240ea3f56bd95d4277bbf78fd3f814668d35fff02418", checked := Tryz.checked }
namespace Rows
def none {H : Type} : Left H := { results := [], args := [] }

/-- 'fermatalaw10.EvqTells': WHATEVER THE INPUT: true; the input reads as it did. -/
def evqTellsSpec : ChangeSpec := { name := "evqTells", fn := fun _ => fun
  | [d1, d2] => { results := [.lit (.bool true)], args := [d1, d2] }
  | _ => none }
def evqTellsRow : OpenClaim := { program := "ytmcgipilopfgoaagreat", sum := "2ea5ce4da4b3b11acc8d240ea3f56bd95d4277bbf78fd3f814668d35fff02418", func := "fermata/fermatalaw10.EvqTells", spec := "evqTells", unfollowed := true, recurses := true, plainKeys := false, apart := false }
def EvqTellsSaid : Prop := evqTellsRow.holds Tryz.pinned (OpenSpec.ofChange evqTellsSpec)

/-- ITS FALSE NEIGHBOUR: 'it returns false'. Refute it at one input. -/
def evqTellsWrong : ChangeSpec := { name := "evqTells", fn := fun _ => fun
  | [d1, d2] => { results := [.lit (.bool false)], args := [d1, d2] }
  | _ => none }
def EvqTellsWrongFalsely : Prop := evqTellsRow.holds Tryz.pinned (OpenSpec.ofChange evqTellsWrong)

/-- 'fermatalaw10.EvqSmall': WHATEVER THE INPUT: true; the input reads as it did. -/
def evqSmallSpec : ChangeSpec := { name := "evqSmall", fn := fun _ => fun
  | [] => { results := [.lit (.bool true)], args := [] }
  | _ => none }
def evqSmallRow : OpenClaim := { program := "ytmcgipilopfgoaagreat", sum := "2ea5ce4da4b3b11acc8d240ea3f56bd95d4277bbf78fd3f814668d35fff02418", func := "fermata/fermatalaw10.EvqSmall", spec := "evqSmall", unfollowed := true, recurses := true, plainKeys := false, apart := false }
def EvqSmallSaid : Prop := evqSmallRow.holds Tryz.pinned (OpenSpec.ofChange evqSmallSpec)

/-- ITS FALSE NEIGHBOUR: 'it returns false'. Refute it at one input. -/
def evqSmallWrong : ChangeSpec := { name := "evqSmall", fn := fun _ => fun
  | [] => { results := [.lit (.bool false)], args := [] }
  | _ => none }
def EvqSmallWrongFalsely : Prop := evqSmallRow.holds Tryz.pinned (OpenSpec.ofChange evqSmallWrong)

/-- 'fermatalaw10.EvqReady': WHATEVER THE INPUT: true; the input reads as it did. -/
def evqReadySpec : ChangeSpec := { name := "evqReady", fn := fun _ => fun
  | [d1, d2, d3] => { results := [.lit (.bool true)], args := [d1, d2, d3] }
  | _ => none }
def evqReadyRow : OpenClaim := { program := "ytmcgipilopfgoaagreat", sum := "2ea5ce4da4b3b11acc8d240ea3f56bd95d4277bbf78fd3f814668d35fff02418", func := "fermata/fermatalaw10.EvqReady", spec := "evqReady", inPlace := ["slices.overlaps[fermata/api.Event]"], unfollowed := true, recurses := true, plainKeys := false, apart := false }
def EvqReadySaid : Prop := evqReadyRow.holds Tryz.pinned (OpenSpec.ofChange evqReadySpec)

/-- ITS FALSE NEIGHBOUR: 'it returns false'. Refute it at one input. -/
def evqReadyWrong : ChangeSpec := { name := "evqReady", fn := fun _ => fun
  | [d1, d2, d3] => { results := [.lit (.bool false)], args := [d1, d2, d3] }
  | _ => none }
def EvqReadyWrongFalsely : Prop := evqReadyRow.holds Tryz.pinned (OpenSpec.ofChange evqReadyWrong)

/- THE SECOND FORM. 'bulk': how many values and letters a reading holds, each counted each time it is reached (what is shared counts as often as it is met; a slice's spare places count too). A statement '..UptoSaid' is the law's where the arguments, and the package variables that the reading takes, are together of bulk at most 1048576: NARROWER than '..Said'. Prove '..Said' where nothing that the law and all that it calls make is longer than what came in: it says more and counts as full. Else prove '..UptoSaid'. A law counts once. -/
mutual
def uptoBulk {H : Type} : DataW H → Nat
  | .lit (.string bytes) => bytes.length + 1
  | .lit _ => 1
  | .nil => 1
  | .ptr d => uptoBulk d + 1
  | .slice elems spare => uptoBulkAll elems + uptoBulkAll spare + 1
  | .agg parts => uptoBulkAll parts + 1
  | .iface _ d => uptoBulk d + 1
  | .map entries => uptoBulkEntries entries + 1
  | .held _ => 1
def uptoBulkAll {H : Type} : List (DataW H) → Nat
  | [] => 0
  | d :: r => uptoBulk d + uptoBulkAll r
def uptoBulkEntries {H : Type} : List (Lit × DataW H) → Nat
  | [] => 0
  | x :: r => uptoBulkEntry x + uptoBulkEntries r
def uptoBulkEntry {H : Type} : Lit × DataW H → Nat
  | (.string bytes, d) => bytes.length + uptoBulk d + 1
  | (_, d) => uptoBulk d + 1
 end
def uptoSmall : (H : Type) → List (DataW H) → Bool := fun _ ds => decide (uptoBulkAll ds ≤ 1048576)
def OpenSpec.upto (s : _root_.Go.ChangeSpec) : _root_.Go.OpenSpec := { _root_.Go.OpenSpec.ofChange s with cond := some uptoSmall }

/-- 'fermatalaw10.EvqTells', WHERE WHAT IT READS IS OF BULK AT MOST 1048576: true; the input reads as it did. -/
def evqTellsUptoRow : OpenClaim := { program := "ytmcgipilopfgoaagreat", sum := "2ea5ce4da4b3b11acc8d240ea3f56bd95d4277bbf78fd3f814668d35fff02418", func := "fermata/fermatalaw10.EvqTells", spec := "evqTells", unfollowed := true, recurses := true, plainKeys := false, apart := false, narrowed := true }
def EvqTellsUptoSaid : Prop := evqTellsUptoRow.holds Tryz.pinned (OpenSpec.upto evqTellsSpec)

/-- 'fermatalaw10.EvqSmall', WHERE WHAT IT READS IS OF BULK AT MOST 1048576: true; the input reads as it did. -/
def evqSmallUptoRow : OpenClaim := { program := "ytmcgipilopfgoaagreat", sum := "2ea5ce4da4b3b11acc8d240ea3f56bd95d4277bbf78fd3f814668d35fff02418", func := "fermata/fermatalaw10.EvqSmall", spec := "evqSmall", unfollowed := true, recurses := true, plainKeys := false, apart := false, narrowed := true }
def EvqSmallUptoSaid : Prop := evqSmallUptoRow.holds Tryz.pinned (OpenSpec.upto evqSmallSpec)

/-- 'fermatalaw10.EvqReady', WHERE WHAT IT READS IS OF BULK AT MOST 1048576: true; the input reads as it did. -/
def evqReadyUptoRow : OpenClaim := { program := "ytmcgipilopfgoaagreat", sum := "2ea5ce4da4b3b11acc8d240ea3f56bd95d4277bbf78fd3f814668d35fff02418", func := "fermata/fermatalaw10.EvqReady", spec := "evqReady", inPlace := ["slices.overlaps[fermata/api.Event]"], unfollowed := true, recurses := true, plainKeys := false, apart := false, narrowed := true }
def EvqReadyUptoSaid : Prop := evqReadyUptoRow.holds Tryz.pinned (OpenSpec.upto evqReadySpec)

end Rows
end Go.Proofs.YtmcgipilopfgoaaGreat
