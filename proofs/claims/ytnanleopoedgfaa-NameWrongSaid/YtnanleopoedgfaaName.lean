/-
  name.Parts, Compare, Under.
-/
import Derived.Test.YtnanleopoedgfaaKit
import Derived.Test.YtnanleopoedgfaaRight
import Derived.Test.YtnanleopoedgfaaShelf
set_option linter.unusedSimpArgs false
set_option linter.unusedVariables false
namespace Go.Proofs.Ytnanleopoedgfaa
open Go.RowKit
attribute [local go_sem] Oper.semAt_some wide_fn wide_depth wide_fnR wide_depthR

theorem rightB_len {l : Bs} (h : rightB l = true) : l.length ≤ 32 := by
  unfold rightB at h
  simp at h
  exact h.1.1

set_option maxRecDepth 100000 in
set_option maxHeartbeats 2000000 in
theorem Compare_any (s t : ByteArray) (w : World) (hs : s.size ≤ 100000) (ht : t.size ≤ 100000) :
    Calls Try.prog 13 #[.string s, .string t] w fun e w' =>
      e = .returned (if rightB s.data.toList && rightB t.data.toList then .tuple #[.int .i64 (ordN s.data.toList t.data.toList), .int .i64 0] else .tuple #[.int .i64 0, .int .i64 40]) ∧ Below w.heap.size w w' := by
  have R1 := Right_any s
  have R2 := Right_any t
  obtain ⟨r1, h1⟩ : ∃ r, rightB s.data.toList = r := ⟨_, rfl⟩
  obtain ⟨r2, h2⟩ : ∃ r, rightB t.data.toList = r := ⟨_, rfl⟩
  rw [h1] at R1 ⊢
  rw [h2] at R2 ⊢
  have H1 := Lib.hid R1
  have H2 := Lib.hid R2
  have HO := Lib.hid (order_any s t)
  clear R1 R2 h1 h2
  have b1 : s.size ≤ maxLen := by unfold maxLen; omega
  have b2 : t.size ≤ maxLen := by unfold maxLen; omega
  cases r1 with
  | false =>
    go_enter Try.func13, Try.ntmps13
    go_wp2_with fail
    refine (H1.out w b1).mono ?_
    rintro e w' ⟨rfl, rfl⟩
    go_wp2
    go_ret2
    exact ⟨rfl, Below.refl _ _⟩
  | true =>
    cases r2 with
    | false =>
      go_enter Try.func13, Try.ntmps13
      go_wp2_with fail
      refine (H1.out w b1).mono ?_
      rintro e w' ⟨rfl, rfl⟩
      go_wp2_with fail
      refine (H2.out w b2).mono ?_
      rintro e w' ⟨rfl, rfl⟩
      go_wp2
      go_ret2
      exact ⟨rfl, Below.refl _ _⟩
    | true =>
      go_enter Try.func13, Try.ntmps13
      go_wp2_with fail
      refine (H1.out w b1).mono ?_
      rintro e w' ⟨rfl, rfl⟩
      go_wp2_with fail
      refine (H2.out w b2).mono ?_
      rintro e w' ⟨rfl, rfl⟩
      go_wp2_with fail
      refine (HO.out w hs ht).mono ?_
      rintro e w' ⟨rfl, hb⟩
      go_wp2
      go_ret2
      exact ⟨rfl, hb⟩

/-- Whether a name is under another one. -/
def underB (s t : Bs) : Bool := rightB s && rightB t && (decide (s = t) || Lib.hasPrefix s (t ++ [46]))

theorem bs_append (a b : Bs) : bs a ++ bs b = bs (a ++ b) := by
  apply ByteArray.ext; simp [bs]

set_option maxRecDepth 100000 in
set_option maxHeartbeats 2000000 in
theorem Under_any (s t : ByteArray) (w : World) (hs : s.size ≤ 100000) (ht : t.size ≤ 100000) :
    Calls Try.prog 16 #[.string s, .string t] w fun e w' => e = .returned (.bool (underB s.data.toList t.data.toList)) ∧ Below w.heap.size w w' := by
  have R1 := Right_any s
  have R2 := Right_any t
  have HP := Try.strings_HasPrefix s (t ++ { data := #[46] })
  have hpp : (t ++ { data := #[46] } : ByteArray).data.toList = t.data.toList ++ [46] := by simp
  rw [hpp] at HP
  unfold underB
  obtain ⟨r1, h1⟩ : ∃ r, rightB s.data.toList = r := ⟨_, rfl⟩
  obtain ⟨r2, h2⟩ : ∃ r, rightB t.data.toList = r := ⟨_, rfl⟩
  obtain ⟨r3, h3⟩ : ∃ r, Lib.hasPrefix s.data.toList (t.data.toList ++ [46]) = r := ⟨_, rfl⟩
  have d0 : (s.toList == t.toList) = decide (s.data.toList = t.data.toList) := by rw [toList_eq, toList_eq, Bool.eq_iff_iff]; simp
  obtain ⟨r4, h4⟩ : ∃ r, decide (s.data.toList = t.data.toList) = r := ⟨_, rfl⟩
  rw [h1] at R1 ⊢
  rw [h2] at R2 ⊢
  rw [h3] at HP ⊢
  rw [h4] at d0 ⊢
  have H1 := Lib.hid R1
  have H2 := Lib.hid R2
  have H3 := Lib.hid HP
  clear R1 R2 HP h1 h2 h3 h4 hpp
  have b1 : s.size ≤ maxLen := by unfold maxLen; omega
  have b2 : t.size ≤ maxLen := by unfold maxLen; omega
  cases r1 with
  | false =>
    go_enter Try.func16, Try.ntmps16
    go_wp2_with fail
    refine (H1.out w b1).mono ?_
    rintro e w' ⟨rfl, rfl⟩
    go_wp2
    go_ret
    exact ⟨rfl, Below.refl _ _⟩
  | true =>
    cases r2 with
    | false =>
      go_enter Try.func16, Try.ntmps16
      go_wp2_with fail
      refine (H1.out w b1).mono ?_
      rintro e w' ⟨rfl, rfl⟩
      go_wp2_with fail
      refine (H2.out w b2).mono ?_
      rintro e w' ⟨rfl, rfl⟩
      go_wp2
      go_ret
      exact ⟨rfl, Below.refl _ _⟩
    | true =>
      cases r4 with
      | true =>
        go_enter Try.func16, Try.ntmps16
        go_wp2_with fail
        refine (H1.out w b1).mono ?_
        rintro e w' ⟨rfl, rfl⟩
        go_wp2_with fail
        refine (H2.out w b2).mono ?_
        rintro e w' ⟨rfl, rfl⟩
        go_wp2
        go_ret
        exact ⟨rfl, Below.refl _ _⟩
      | false =>
        go_enter Try.func16, Try.ntmps16
        go_wp2_with fail
        refine (H1.out w b1).mono ?_
        rintro e w' ⟨rfl, rfl⟩
        go_wp2_with fail
        refine (H2.out w b2).mono ?_
        rintro e w' ⟨rfl, rfl⟩
        go_wp2_with fail
        refine (H3.out w).mono ?_
        rintro e w' ⟨rfl, rfl⟩
        go_wp2
        go_ret
        exact ⟨rfl, Below.refl _ _⟩
end Go.Proofs.Ytnanleopoedgfaa
