/-
  No cell of these rows narrows 'for every input' (looked for: loops, veiled, ifaces, maps, wideKeys, modest, calm, conditions, laid).
  DERIVED. THE GIVEN ROWS OF THIS SEAT. 4 by the template 'for every input the law returns true; each argument reads behind the call as it read before'; 0 by the template 'total and deterministic' (their statements: YtieeloealklkgaaGreatTotals.lean).
  GIVEN WITH THE SEED: the statements are not yours to turn. If you find one false, say at which input.
  Laid BY PROGRAM, IN A SANDBOX (cutbox-rows.mjs): the forced cells as the released guide's own fill.sh prints them over the translation e8179cd862820686… (all of the seat's roots in one cut). By AI agents, Wed Nov 11 2026. No macro, syntax, notation, axiom, sorry.
-/
import Derived.Test.YtieeloealklkgaaGreatChecked
import GoSem.Claim
import GoSem.ClaimJoined
import GoSem.ClaimMapViews
import Derived.JoinedTies
import Derived.KernelRfl
namespace Go.Proofs.YtieeloealklkgaaGreat
/- THE CELL 'sum', in the pinned program and in every row, IS THE sha256 OF THE DUMP (.gsa) THAT YtieeloealklkgaaGreatProg.lean LOADS. Nothing in Lean hashes anything: it is a label: what it is worth is what the hold of that sum in a sandbox is worth. -/
noncomputable def Tryz.pinned : Pinned := { name := "ytieeloealklkgaagreat", sum := "e8179cd8628206867d124da2d966a8a72f928c08dab837ed7f7f9d2095d6cc37", checked := Tryz.checked }
namespace Rows
def none {H : Type} : Left H := { results := [], args := [] }

/-- 'fermatalaw12.CalendarPlays': WHATEVER THE INPUT: true; the input reads as it did. -/
def calendarPlaysSpec : ChangeSpec := { name := "calendarPlays", fn := fun _ => fun
  | [d1, d2, d3] => { results := [.lit (.bool true)], args := [d1, d2, d3] }
  | _ => none }
def calendarPlaysRow : OpenClaim := { program := "ytieeloealklkgaagreat", sum := "e8179cd8628206867d124da2d966a8a72f928c08dab837ed7f7f9d2095d6cc37", func := "fermata/fermatalaw12.CalendarPlays", spec := "calendarPlays", unfollowed := true, recurses := true, plainKeys := false, apart := false }
def CalendarPlaysSaid : Prop := calendarPlaysRow.holds Tryz.pinned (OpenSpec.ofChange calendarPlaysSpec)

/-- ITS FALSE NEIGHBOUR: 'it returns false'. Refute it at one input. -/
def calendarPlaysWrong : ChangeSpec := { name := "calendarPlays", fn := fun _ => fun
  | [d1, d2, d3] => { results := [.lit (.bool false)], args := [d1, d2, d3] }
  | _ => none }
def CalendarPlaysWrongFalsely : Prop := calendarPlaysRow.holds Tryz.pinned (OpenSpec.ofChange calendarPlaysWrong)

/-- 'fermatalaw12.CalendarSmall': WHATEVER THE INPUT: true; the input reads as it did. -/
def calendarSmallSpec : ChangeSpec := { name := "calendarSmall", fn := fun _ => fun
  | [] => { results := [.lit (.bool true)], args := [] }
  | _ => none }
def calendarSmallRow : OpenClaim := { program := "ytieeloealklkgaagreat", sum := "e8179cd8628206867d124da2d966a8a72f928c08dab837ed7f7f9d2095d6cc37", func := "fermata/fermatalaw12.CalendarSmall", spec := "calendarSmall", unfollowed := true, recurses := true, plainKeys := false, apart := false }
def CalendarSmallSaid : Prop := calendarSmallRow.holds Tryz.pinned (OpenSpec.ofChange calendarSmallSpec)

/-- ITS FALSE NEIGHBOUR: 'it returns false'. Refute it at one input. -/
def calendarSmallWrong : ChangeSpec := { name := "calendarSmall", fn := fun _ => fun
  | [] => { results := [.lit (.bool false)], args := [] }
  | _ => none }
def CalendarSmallWrongFalsely : Prop := calendarSmallRow.holds Tryz.pinned (OpenSpec.ofChange calendarSmallWrong)

/-- 'fermatalaw12.CalendarQueue': WHATEVER THE INPUT: true; the input reads as it did. -/
def calendarQueueSpec : ChangeSpec := { name := "calendarQueue", fn := fun _ => fun
  | [d1, d2] => { results := [.lit (.bool true)], args := [d1, d2] }
  | _ => none }
def calendarQueueRow : OpenClaim := { program := "ytieeloealklkgaagreat", sum := "e8179cd8628206867d124da2d966a8a72f928c08dab837ed7f7f9d2095d6cc37", func := "fermata/fermatalaw12.CalendarQueue", spec := "calendarQueue", unfollowed := true, recurses := true, plainKeys := false, apart := false }
def CalendarQueueSaid : Prop := calendarQueueRow.holds Tryz.pinned (OpenSpec.ofChange calendarQueueSpec)

/-- ITS FALSE NEIGHBOUR: 'it returns false'. Refute it at one input. -/
def calendarQueueWrong : ChangeSpec := { name := "calendarQueue", fn := fun _ => fun
  | [d1, d2] => { results := [.lit (.bool false)], args := [d1, d2] }
  | _ => none }
def CalendarQueueWrongFalsely : Prop := calendarQueueRow.holds Tryz.pinned (OpenSpec.ofChange calendarQueueWrong)

/-- 'fermatalaw12.CalendarWrong': WHATEVER THE INPUT: true; the input reads as it did. -/
def calendarWrongSpec : ChangeSpec := { name := "calendarWrong", fn := fun _ => fun
  | [d1, d2, d3, d4, d5] => { results := [.lit (.bool true)], args := [d1, d2, d3, d4, d5] }
  | _ => none }
def calendarWrongRow : OpenClaim := { program := "ytieeloealklkgaagreat", sum := "e8179cd8628206867d124da2d966a8a72f928c08dab837ed7f7f9d2095d6cc37", func := "fermata/fermatalaw12.CalendarWrong", spec := "calendarWrong", inPlace := ["slices.overlaps[fermata/calendar.Act]"], unfollowed := true, recurses := true, plainKeys := false, apart := false }
def CalendarWrongSaid : Prop := calendarWrongRow.holds Tryz.pinned (OpenSpec.ofChange calendarWrongSpec)

/-- ITS FALSE NEIGHBOUR: 'it returns false'. Refute it at one input. -/
def calendarWrongWrong : ChangeSpec := { name := "calendarWrong", fn := fun _ => fun
  | [d1, d2, d3, d4, d5] => { results := [.lit (.bool false)], args := [d1, d2, d3, d4, d5] }
  | _ => none }
def CalendarWrongWrongFalsely : Prop := calendarWrongRow.holds Tryz.pinned (OpenSpec.ofChange calendarWrongWrong)

/- THE SECOND FORM. 'bulk': how many values and letters a reading holds, each counted each time it is reached (what is shared counts as often as it is met; a slice's spare places count too). A statement '..UptoSaid' is the law's where the arguments, and the package variables that the reading takes, are together of bulk at most 1048576: NARROWER than '..Said'. Prove '..Said' where nothing that the law and all that it calls make is longer than what came in: it says more and counts as full. Else prove '..UptoSaid'. A law counts once. -/
mutual
def uptoBulk {H : Type} : DataW H → Nat
  | .lit (.string bytes) => bytes.length + 1
  | .lit _ => 1
  | .nil => 1
  | .ptr d => uptoBulk d + 1
  | .slice elems spare => uptoBulkAll elems + uptoBulkAll spare + 1
  | .agg parts => uptoBulkAll parts + 1
  | .iface _ d => uptoBulk d + 1
  | .map entries => uptoBulkEntries entries + 1
  | .held _ => 1
def uptoBulkAll {H : Type} : List (DataW H) → Nat
  | [] => 0
  | d :: r => uptoBulk d + uptoBulkAll r
def uptoBulkEntries {H : Type} : List (Lit × DataW H) → Nat
  | [] => 0
  | x :: r => uptoBulkEntry x + uptoBulkEntries r
def uptoBulkEntry {H : Type} : Lit × DataW H → Nat
  | (.string bytes, d) => bytes.length + uptoBulk d + 1
  | (_, d) => uptoBulk d + 1
 end
def uptoSmall : (H : Type) → List (DataW H) → Bool := fun _ ds => decide (uptoBulkAll ds ≤ 1048576)
def OpenSpec.upto (s : _root_.Go.ChangeSpec) : _root_.Go.OpenSpec := { _root_.Go.OpenSpec.ofChange s with cond := some uptoSmall }

/-- 'fermatalaw12.CalendarPlays', WHERE WHAT IT READS IS OF BULK AT MOST 1048576: true; the input reads as it did. -/
def calendarPlaysUptoRow : OpenClaim := { program := "ytieeloealklkgaagreat", sum := "e8179cd8628206867d124da2d966a8a72f928c08dab837ed7f7f9d2095d6cc37", func := "fermata/fermatalaw12.CalendarPlays", spec := "calendarPlays", unfollowed := true, recurses := true, plainKeys := false, apart := false, narrowed := true }
def CalendarPlaysUptoSaid : Prop := calendarPlaysUptoRow.holds Tryz.pinned (OpenSpec.upto calendarPlaysSpec)

/-- 'fermatalaw12.CalendarSmall', WHERE WHAT IT READS IS OF BULK AT MOST 1048576: true; the input reads as it did. -/
def calendarSmallUptoRow : OpenClaim := { program := "ytieeloealklkgaagreat", sum := "e8179cd8628206867d124da2d966a8a72f928c08dab837ed7f7f9d2095d6cc37", func := "fermata/fermatalaw12.CalendarSmall", spec := "calendarSmall", unfollowed := true, recurses := true, plainKeys := false, apart := false, narrowed := true }
def CalendarSmallUptoSaid : Prop := calendarSmallUptoRow.holds Tryz.pinned (OpenSpec.upto calendarSmallSpec)

/-- 'fermatalaw12.CalendarQueue', WHERE WHAT IT READS IS OF BULK AT MOST 1048576: true; the input reads as it did. -/
def calendarQueueUptoRow : OpenClaim := { program := "ytieeloealklkgaagreat", sum := "e8179cd8628206867d124da2d966a8a72f928c08dab837ed7f7f9d2095d6cc37", func := "fermata/fermatalaw12.CalendarQueue", spec := "calendarQueue", unfollowed := true, recurses := true, plainKeys := false, apart := false, narrowed := true }
def CalendarQueueUptoSaid : Prop := calendarQueueUptoRow.holds Tryz.pinned (OpenSpec.upto calendarQueueSpec)

/-- 'fermatalaw12.CalendarWrong', WHERE WHAT IT READS IS OF BULK AT MOST 1048576: true; the input reads as it did. -/
def calendarWrongUptoRow : OpenClaim := { program := "ytieeloealklkgaagreat", sum := "e8179cd8628206867d124da2d966a8a72f928c08dab837ed7f7f9d2095d6cc37", func := "fermata/fermatalaw12.CalendarWrong", spec := "calendarWrong", inPlace := ["slices.overlaps[fermata/calendar.Act]"], unfollowed := true, recurses := true, plainKeys := false, apart := false, narrowed := true }
def CalendarWrongUptoSaid : Prop := calendarWrongUptoRow.holds Tryz.pinned (OpenSpec.upto calendarWrongSpec)

end Rows
end Go.Proofs.YtieeloealklkgaaGreat
