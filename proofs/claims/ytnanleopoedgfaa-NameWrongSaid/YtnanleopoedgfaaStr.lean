/-
  The library's functions on strings at one byte, and the splitting of a string at points.
-/
import Derived.Test.YtnanleopoedgfaaProg
import Derived.Test.YtnanleopoedgfaaIter
import Derived.WalkSpells
import Derived.WalkLawsBesides
import Derived.Lib.Bytealg
import Derived.Lib.Strings
set_option linter.unusedSimpArgs false
set_option linter.unusedVariables false
namespace Go.Proofs.Ytnanleopoedgfaa
open Go.RowKit

/-- A string of bytes. -/
def bs (l : List UInt8) : ByteArray := ⟨l.toArray⟩
theorem bs_toList (s : ByteArray) : bs s.data.toList = s := rfl
theorem toList_bs (l : List UInt8) : (bs l).data.toList = l := rfl
theorem bs_inj {a b : List UInt8} (h : bs a = bs b) : a = b := by have := congrArg (fun s : ByteArray => s.data.toList) h; exact this
theorem size_bs (l : List UInt8) : (bs l).size = l.length := rfl

set_option maxRecDepth 100000 in
set_option maxHeartbeats 1000000 in
theorem IndexByte_any (s : ByteArray) (c : UInt8) (w : World) :
    Calls Try.prog 93 #[.string s, .int .u8 c.toNat] w fun e w' => e = .returned (.int .i64 (Lib.indexByte s.data.toList c)) ∧ w = w' := by
  go_enter Try.func93, Try.ntmps93
  go_wp2
  rw [run_callFunc_extern Try.func105 (by kernel_rfl) (by kernel_rfl) (by kernel_rfl) (e := Extern.BytealgIndexByte.indexByte) (by kernel_rfl), Lib.run_indexByteString]
  simp only [Result.andThen]
  rw [Oper.upon_value]
  go_wp2
  go_ret
  exact ⟨by simp, rfl⟩

set_option maxRecDepth 100000 in
set_option maxHeartbeats 2000000 in
theorem IndexLite_one (s : ByteArray) (c : UInt8) (w : World) :
    Calls Try.prog 78 #[.string s, .string ⟨#[c]⟩] w fun e w' => e = .returned (.int .i64 (Lib.indexByte s.data.toList c)) ∧ w = w' := by
  go_enter Try.func78, Try.ntmps78
  go_wp2_with (go_at_call 93; refine (IndexByte_any _ _ _).mono ?_; rintro e w' ⟨rfl, rfl⟩)
  · have h : ([c] == s.toList) = true := by assumption
    go_ret
    refine ⟨?_, rfl⟩
    have e : s.data.toList = [c] := by rw [← Lib.toList_data]; exact (beq_iff_eq.1 h).symm
    rw [e]
    simp [Lib.indexByte]
  · go_ret
    exact ⟨rfl, rfl⟩

/-- strings.Cut at one byte. -/
def cut1 (l : List UInt8) (c : UInt8) : List UInt8 × List UInt8 × Bool :=
  match l with
  | [] => ([], [], false)
  | x :: r => if x = c then ([], r, true) else ((x :: (cut1 r c).1), (cut1 r c).2.1, (cut1 r c).2.2)

theorem indexByte_cut1 (l : List UInt8) (c : UInt8) :
    ((cut1 l c).2.2 = false ∧ Lib.indexByte l c = -1 ∧ cut1 l c = (l, [], false)) ∨
    ((cut1 l c).2.2 = true ∧ ∃ i : Nat, i < l.length ∧ Lib.indexByte l c = i ∧ cut1 l c = (l.take i, l.drop (i + 1), true)) := by
  induction l with
  | nil => left; simp [cut1, Lib.indexByte]
  | cons x r ih =>
    by_cases h : x = c
    · right; subst h; exact ⟨by simp [cut1], 0, by simp, by simp [Lib.indexByte], by simp [cut1]⟩
    · rcases ih with ⟨h1, h2, h3⟩ | ⟨h1, i, h2, h3, h4⟩
      · left; refine ⟨by simp [cut1, h, h1], by simp [Lib.indexByte, h, h2], by simp [cut1, h, h3]⟩
      · right; refine ⟨by simp [cut1, h, h1], i + 1, by simpa using h2, by simp [Lib.indexByte, h, h3], by simp [cut1, h, h4]⟩


set_option maxRecDepth 100000 in
set_option maxHeartbeats 2000000 in
theorem CutLite_one (s : ByteArray) (c : UInt8) (w : World) (hs : s.size ≤ maxLen) :
    Calls Try.prog 77 #[.string s, .string ⟨#[c]⟩] w fun e w' => e = .returned (.tuple #[.string (bs (cut1 s.data.toList c).1), .string (bs (cut1 s.data.toList c).2.1), .bool (cut1 s.data.toList c).2.2]) ∧ Below w.heap.size w w' ∧ w.drawn ≤ w'.drawn := by
  unfold maxLen at hs
  rcases indexByte_cut1 s.data.toList c with ⟨_, h2, h3⟩ | ⟨_, i, hi, h2, h3⟩
  · rw [h3]
    have H2 := Lib.hid h2
    go_enter Try.func77, Try.ntmps77
    go_wp2_with (go_at_call 78; refine (IndexLite_one _ _ _).mono ?_; rintro e w' ⟨rfl, rfl⟩; rw [H2.out])
    go_ret3
    exact ⟨rfl, Below.refl _ _, Nat.le_refl _⟩
  · rw [h3]
    have hi' : i < s.size := by simpa using hi
    have H2 := Lib.hid h2
    have c1 : (0 : Int) ≤ ↑i := by omega
    have c2 : (↑i : Int) ≤ ↑s.size := by omega
    have c3 : (0 : Int) ≤ ↑i + 1 := by omega
    have c4 : (↑i + 1 : Int) ≤ ↑s.size := by omega
    clear h2 h3
    go_enter Try.func77, Try.ntmps77
    go_wp2_with (go_at_call 78; refine (IndexLite_one _ _ _).mono ?_; rintro e w' ⟨rfl, rfl⟩; rw [H2.out])
    go_region
    go_wp2
    go_ret3
    refine ⟨?_, (Below.refl _ _).drew, Nat.le_succ _⟩
    have e1 : s.extract 0 i = bs (List.take i s.data.toList) := by
      apply ByteArray.ext; apply Array.ext'; simp [bs]
    have e2 : s.extract (i + 1) s.size = bs (List.drop (i + 1) s.data.toList) := by
      apply ByteArray.ext; apply Array.ext'; simp [bs]; exact List.take_of_length_le (by simp)
    rw [← e1, ← e2]
    rfl

theorem Below.draws {B : Nat} {w w' : World} (h : Below B w w') : Below B w w'.drew := h.drew

set_option maxRecDepth 100000 in
set_option maxHeartbeats 2000000 in
/-- strings.Cut at one byte. -/
theorem Cut_one (s : ByteArray) (c : UInt8) (w : World) (hs : s.size ≤ maxLen) :
    Calls Try.prog 62 #[.string s, .string ⟨#[c]⟩] w fun e w' => e = .returned (.tuple #[.string (bs (cut1 s.data.toList c).1), .string (bs (cut1 s.data.toList c).2.1), .bool (cut1 s.data.toList c).2.2]) ∧ Below w.heap.size w w' ∧ w.drawn ≤ w'.drawn := by
  obtain ⟨a, ha⟩ : ∃ a, (cut1 s.data.toList c).1 = a := ⟨_, rfl⟩
  obtain ⟨b, hb⟩ : ∃ b, (cut1 s.data.toList c).2.1 = b := ⟨_, rfl⟩
  obtain ⟨d, hd⟩ : ∃ d, (cut1 s.data.toList c).2.2 = d := ⟨_, rfl⟩
  have H := CutLite_one s c w hs
  rw [ha, hb, hd] at H ⊢
  have H' := Lib.hid H
  clear ha hb hd H
  go_enter Try.func62, Try.ntmps62
  go_wp2_with (go_at_call 77; refine H'.out.mono ?_; rintro e w' ⟨rfl, hb, hd⟩)
  go_ret3
  exact ⟨rfl, hb, hd⟩
end Go.Proofs.Ytnanleopoedgfaa
