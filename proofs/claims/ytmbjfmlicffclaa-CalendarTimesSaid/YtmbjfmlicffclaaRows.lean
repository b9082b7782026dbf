/-
  No cell of these rows narrows 'for every input' (looked for: loops, veiled, ifaces, maps, wideKeys, modest, calm, conditions, laid).
  DERIVED. THE GIVEN ROWS OF THIS SEAT. 6 by the template 'for every input the law returns true; each argument reads behind the call as it read before'; 0 by the template 'total and deterministic' (their statements: YtmbjfmlicffclaaTotals.lean).
  GIVEN WITH THE SEED: the statements are not yours to turn. If you find one false, say at which input.
  Laid BY PROGRAM, IN A SANDBOX (cutbox-rows.mjs): the forced cells as the released guide's own fill.sh prints them over the translation 39890db38bafe811… (all of the seat's roots in one cut). By AI agents, Wed Nov 11 2026. No macro, syntax, notation, axiom, sorry.
-/
import Derived.Test.YtmbjfmlicffclaaChecked
import GoSem.Claim
import GoSem.ClaimJoined
import GoSem.ClaimMapViews
import Derived.JoinedTies
import Derived.KernelRfl
namespace Go.Proofs.Ytmbjfmlicffclaa
/- THE CELL 'sum', in the pinned program and in every row, IS THE sha256 OF THE DUMP (.gsa) THAT YtmbjfmlicffclaaProg.lean LOADS. Nothing in Lean hashes anything: it is a label: what it is worth is what the hold of that sum in a sandbox is worth. -/
noncomputable def Try.pinned : Pinned := { name := "ytmbjfmlicffclaa", sum := "39890db38bafe8111ce8a2228f912569ffd938efce8fddf17b3a8b025d00eeba", checked := Try.checked }
namespace Rows
def none {H : Type} : Left H := { results := [], args := [] }

/-- 'fermatalaw12.CalendarTimes': WHATEVER THE INPUT: true; the input reads as it did. -/
def calendarTimesSpec : ChangeSpec := { name := "calendarTimes", fn := fun _ => fun
  | [d1, d2, d3, d4] => { results := [.lit (.bool true)], args := [d1, d2, d3, d4] }
  | _ => none }
def calendarTimesRow : OpenClaim := { program := "ytmbjfmlicffclaa", sum := "39890db38bafe8111ce8a2228f912569ffd938efce8fddf17b3a8b025d00eeba", func := "fermata/fermatalaw12.CalendarTimes", spec := "calendarTimes", unfollowed := true, recurses := true, plainKeys := false, apart := false }
def CalendarTimesSaid : Prop := calendarTimesRow.holds Try.pinned (OpenSpec.ofChange calendarTimesSpec)

/-- ITS FALSE NEIGHBOUR: 'it returns false'. Refute it at one input. -/
def calendarTimesWrong : ChangeSpec := { name := "calendarTimes", fn := fun _ => fun
  | [d1, d2, d3, d4] => { results := [.lit (.bool false)], args := [d1, d2, d3, d4] }
  | _ => none }
def CalendarTimesWrongFalsely : Prop := calendarTimesRow.holds Try.pinned (OpenSpec.ofChange calendarTimesWrong)

/-- 'fermatalaw12.CalendarCounts': WHATEVER THE INPUT: true; the input reads as it did. -/
def calendarCountsSpec : ChangeSpec := { name := "calendarCounts", fn := fun _ => fun
  | [d1, d2, d3] => { results := [.lit (.bool true)], args := [d1, d2, d3] }
  | _ => none }
def calendarCountsRow : OpenClaim := { program := "ytmbjfmlicffclaa", sum := "39890db38bafe8111ce8a2228f912569ffd938efce8fddf17b3a8b025d00eeba", func := "fermata/fermatalaw12.CalendarCounts", spec := "calendarCounts", unfollowed := true, recurses := true, plainKeys := false, apart := false }
def CalendarCountsSaid : Prop := calendarCountsRow.holds Try.pinned (OpenSpec.ofChange calendarCountsSpec)

/-- ITS FALSE NEIGHBOUR: 'it returns false'. Refute it at one input. -/
def calendarCountsWrong : ChangeSpec := { name := "calendarCounts", fn := fun _ => fun
  | [d1, d2, d3] => { results := [.lit (.bool false)], args := [d1, d2, d3] }
  | _ => none }
def CalendarCountsWrongFalsely : Prop := calendarCountsRow.holds Try.pinned (OpenSpec.ofChange calendarCountsWrong)

/-- 'fermatalaw12.CalendarKeeps': WHATEVER THE INPUT: true; the input reads as it did. -/
def calendarKeepsSpec : ChangeSpec := { name := "calendarKeeps", fn := fun _ => fun
  | [d1, d2] => { results := [.lit (.bool true)], args := [d1, d2] }
  | _ => none }
def calendarKeepsRow : OpenClaim := { program := "ytmbjfmlicffclaa", sum := "39890db38bafe8111ce8a2228f912569ffd938efce8fddf17b3a8b025d00eeba", func := "fermata/fermatalaw12.CalendarKeeps", spec := "calendarKeeps", unfollowed := true, recurses := true, plainKeys := false, apart := false }
def CalendarKeepsSaid : Prop := calendarKeepsRow.holds Try.pinned (OpenSpec.ofChange calendarKeepsSpec)

/-- ITS FALSE NEIGHBOUR: 'it returns false'. Refute it at one input. -/
def calendarKeepsWrong : ChangeSpec := { name := "calendarKeeps", fn := fun _ => fun
  | [d1, d2] => { results := [.lit (.bool false)], args := [d1, d2] }
  | _ => none }
def CalendarKeepsWrongFalsely : Prop := calendarKeepsRow.holds Try.pinned (OpenSpec.ofChange calendarKeepsWrong)

/-- 'fermatalaw12.CalendarTells': WHATEVER THE INPUT: true; the input reads as it did. -/
def calendarTellsSpec : ChangeSpec := { name := "calendarTells", fn := fun _ => fun
  | [d1, d2, d3] => { results := [.lit (.bool true)], args := [d1, d2, d3] }
  | _ => none }
def calendarTellsRow : OpenClaim := { program := "ytmbjfmlicffclaa", sum := "39890db38bafe8111ce8a2228f912569ffd938efce8fddf17b3a8b025d00eeba", func := "fermata/fermatalaw12.CalendarTells", spec := "calendarTells", unfollowed := true, recurses := true, plainKeys := false, apart := false }
def CalendarTellsSaid : Prop := calendarTellsRow.holds Try.pinned (OpenSpec.ofChange calendarTellsSpec)

/-- ITS FALSE NEIGHBOUR: 'it returns false'. Refute it at one input. -/
def calendarTellsWrong : ChangeSpec := { name := "calendarTells", fn := fun _ => fun
  | [d1, d2, d3] => { results := [.lit (.bool false)], args := [d1, d2, d3] }
  | _ => none }
def CalendarTellsWrongFalsely : Prop := calendarTellsRow.holds Try.pinned (OpenSpec.ofChange calendarTellsWrong)

/-- 'fermatalaw12.CalendarAlone': WHATEVER THE INPUT: true; the input reads as it did. -/
def calendarAloneSpec : ChangeSpec := { name := "calendarAlone", fn := fun _ => fun
  | [d1, d2, d3] => { results := [.lit (.bool true)], args := [d1, d2, d3] }
  | _ => none }
def calendarAloneRow : OpenClaim := { program := "ytmbjfmlicffclaa", sum := "39890db38bafe8111ce8a2228f912569ffd938efce8fddf17b3a8b025d00eeba", func := "fermata/fermatalaw12.CalendarAlone", spec := "calendarAlone", unfollowed := true, recurses := true, plainKeys := false, apart := false }
def CalendarAloneSaid : Prop := calendarAloneRow.holds Try.pinned (OpenSpec.ofChange calendarAloneSpec)

/-- ITS FALSE NEIGHBOUR: 'it returns false'. Refute it at one input. -/
def calendarAloneWrong : ChangeSpec := { name := "calendarAlone", fn := fun _ => fun
  | [d1, d2, d3] => { results := [.lit (.bool false)], args := [d1, d2, d3] }
  | _ => none }
def CalendarAloneWrongFalsely : Prop := calendarAloneRow.holds Try.pinned (OpenSpec.ofChange calendarAloneWrong)

/-- 'fermatalaw12.CalendarParts': WHATEVER THE INPUT: true; the input reads as it did. -/
def calendarPartsSpec : ChangeSpec := { name := "calendarParts", fn := fun _ => fun
  | [d1, d2, d3] => { results := [.lit (.bool true)], args := [d1, d2, d3] }
  | _ => none }
def calendarPartsRow : OpenClaim := { program := "ytmbjfmlicffclaa", sum := "39890db38bafe8111ce8a2228f912569ffd938efce8fddf17b3a8b025d00eeba", func := "fermata/fermatalaw12.CalendarParts", spec := "calendarParts", unfollowed := true, recurses := true, plainKeys := false, apart := false }
def CalendarPartsSaid : Prop := calendarPartsRow.holds Try.pinned (OpenSpec.ofChange calendarPartsSpec)

/-- ITS FALSE NEIGHBOUR: 'it returns false'. Refute it at one input. -/
def calendarPartsWrong : ChangeSpec := { name := "calendarParts", fn := fun _ => fun
  | [d1, d2, d3] => { results := [.lit (.bool false)], args := [d1, d2, d3] }
  | _ => none }
def CalendarPartsWrongFalsely : Prop := calendarPartsRow.holds Try.pinned (OpenSpec.ofChange calendarPartsWrong)

/- THE SECOND FORM. 'bulk': how many values and letters a reading holds, each counted each time it is reached (what is shared counts as often as it is met; a slice's spare places count too). A statement '..UptoSaid' is the law's where the arguments, and the package variables that the reading takes, are together of bulk at most 1048576: NARROWER than '..Said'. Prove '..Said' where nothing that the law and all that it calls make is longer than what came in: it says more and counts as full. Else prove '..UptoSaid'. A law counts once. -/
mutual
def uptoBulk {H : Type} : DataW H → Nat
  | .lit (.string bytes) => bytes.length + 1
  | .lit _ => 1
  | .nil => 1
  | .ptr d => uptoBulk d + 1
  | .slice elems spare => uptoBulkAll elems + uptoBulkAll spare + 1
  | .agg parts => uptoBulkAll parts + 1
  | .iface _ d => uptoBulk d + 1
  | .map entries => uptoBulkEntries entries + 1
  | .held _ => 1
def uptoBulkAll {H : Type} : List (DataW H) → Nat
  | [] => 0
  | d :: r => uptoBulk d + uptoBulkAll r
def uptoBulkEntries {H : Type} : List (Lit × DataW H) → Nat
  | [] => 0
  | x :: r => uptoBulkEntry x + uptoBulkEntries r
def uptoBulkEntry {H : Type} : Lit × DataW H → Nat
  | (.string bytes, d) => bytes.length + uptoBulk d + 1
  | (_, d) => uptoBulk d + 1
 end
def uptoSmall : (H : Type) → List (DataW H) → Bool := fun _ ds => decide (uptoBulkAll ds ≤ 1048576)
def OpenSpec.upto (s : _root_.Go.ChangeSpec) : _root_.Go.OpenSpec := { _root_.Go.OpenSpec.ofChange s with cond := some uptoSmall }

/-- 'fermatalaw12.CalendarTimes', WHERE WHAT IT READS IS OF BULK AT MOST 1048576: true; the input reads as it did. -/
def calendarTimesUptoRow : OpenClaim := { program := "ytmbjfmlicffclaa", sum := "39890db38bafe8111ce8a2228f912569ffd938efce8fddf17b3a8b025d00eeba", func := "fermata/fermatalaw12.CalendarTimes", spec := "calendarTimes", unfollowed := true, recurses := true, plainKeys := false, apart := false, narrowed := true }
def CalendarTimesUptoSaid : Prop := calendarTimesUptoRow.holds Try.pinned (OpenSpec.upto calendarTimesSpec)

/-- 'fermatalaw12.CalendarCounts', WHERE WHAT IT READS IS OF BULK AT MOST 1048576: true; the input reads as it did. -/
def calendarCountsUptoRow : OpenClaim := { program := "ytmbjfmlicffclaa", sum := "39890db38bafe8111ce8a2228f912569ffd938efce8fddf17b3a8b025d00eeba", func := "fermata/fermatalaw12.CalendarCounts", spec := "calendarCounts", unfollowed := true, recurses := true, plainKeys := false, apart := false, narrowed := true }
def CalendarCountsUptoSaid : Prop := calendarCountsUptoRow.holds Try.pinned (OpenSpec.upto calendarCountsSpec)

/-- 'fermatalaw12.CalendarKeeps', WHERE WHAT IT READS IS OF BULK AT MOST 1048576: true; the input reads as it did. -/
def calendarKeepsUptoRow : OpenClaim := { program := "ytmbjfmlicffclaa", sum := "39890db38bafe8111ce8a2228f912569ffd938efce8fddf17b3a8b025d00eeba", func := "fermata/fermatalaw12.CalendarKeeps", spec := "calendarKeeps", unfollowed := true, recurses := true, plainKeys := false, apart := false, narrowed := true }
def CalendarKeepsUptoSaid : Prop := calendarKeepsUptoRow.holds Try.pinned (OpenSpec.upto calendarKeepsSpec)

/-- 'fermatalaw12.CalendarTells', WHERE WHAT IT READS IS OF BULK AT MOST 1048576: true; the input reads as it did. -/
def calendarTellsUptoRow : OpenClaim := { program := "ytmbjfmlicffclaa", sum := "39890db38bafe8111ce8a2228f912569ffd938efce8fddf17b3a8b025d00eeba", func := "fermata/fermatalaw12.CalendarTells", spec := "calendarTells", unfollowed := true, recurses := true, plainKeys := false, apart := false, narrowed := true }
def CalendarTellsUptoSaid : Prop := calendarTellsUptoRow.holds Try.pinned (OpenSpec.upto calendarTellsSpec)

/-- 'fermatalaw12.CalendarAlone', WHERE WHAT IT READS IS OF BULK AT MOST 1048576: true; the input reads as it did. -/
def calendarAloneUptoRow : OpenClaim := { program := "ytmbjfmlicffclaa", sum := "39890db38bafe8111ce8a2228f912569ffd938efce8fddf17b3a8b025d00eeba", func := "fermata/fermatalaw12.CalendarAlone", spec := "calendarAlone", unfollowed := true, recurses := true, plainKeys := false, apart := false, narrowed := true }
def CalendarAloneUptoSaid : Prop := calendarAloneUptoRow.holds Try.pinned (OpenSpec.upto calendarAloneSpec)

/-- 'fermatalaw12.CalendarParts', WHERE WHAT IT READS IS OF BULK AT MOST 1048576: true; the input reads as it did. -/
def calendarPartsUptoRow : OpenClaim := { program := "ytmbjfmlicffclaa", sum := "39890db38bafe8111ce8a2228f912569ffd938efce8fddf17b3a8b025d00eeba", func := "fermata/fermatalaw12.CalendarParts", spec := "calendarParts", unfollowed := true, recurses := true, plainKeys := false, apart := false, narrowed := true }
def CalendarPartsUptoSaid : Prop := calendarPartsUptoRow.holds Try.pinned (OpenSpec.upto calendarPartsSpec)

end Rows
end Go.Proofs.Ytmbjfmlicffclaa
