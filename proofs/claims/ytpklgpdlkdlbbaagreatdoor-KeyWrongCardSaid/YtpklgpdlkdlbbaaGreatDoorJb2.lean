/-
  Keys: what each function of the package does, and what the laws make of it.
-/
import Derived.Test.YtpklgpdlkdlbbaaGreatDoorJb1
import Derived.Laws.RangeAny
import Derived.Lib.OthersKept
import Derived.Scope
import Derived.Test.YtpklgpdlkdlbbaaGreatDoorScopeIn
import Derived.Lib.UnsafeStr
import Derived.Shelf.Bytes.SlSmallAll
import Derived.Lib.SmallJoins
import Derived.Test.YtpklgpdlkdlbbaaGreatDoorRows
import Derived.WalkKit
import Derived.ProofKit
import Derived.OpenShut
import Derived.SizedLaws
import Derived.ChangeSame
import Derived.ChangeVars
import Derived.ChangeMaps5
import Derived.Carry
import Derived.Deep.Slices
import Derived.Deep.Fields
import Derived.JoinedOf
import Derived.JoinedAt
import Derived.RowKit
import Derived.RowKit3
import Derived.RowKitTokens
import Derived.LaidLaws
import Derived.Lib.LaidTab
import Derived.Stop.LaidErr
set_option linter.unusedSimpArgs false
set_option linter.unusedVariables false

/-
  strings.IndexRune and strings.IndexAny of the marks of a text.
-/
namespace Go.Proofs.YtpklgpdlkdlbbaaGreatDoor
open Go Go.RowKit
attribute [local go_sem ↓] Go.wp_at_zero Go.wp_at_succ

def marksS : ByteArray := ⟨#[64, 35]⟩
set_option maxRecDepth 100000 in
set_option maxHeartbeats 4000000 in
theorem rune_err (w : World) : Calls Tryz.prog 80 #[.string ⟨#[64, 35]⟩, .int .i32 65533] w fun e w' => e = .returned (.int .i64 (-1)) ∧ Fr0 none' w w' := by
  go_enter Tryz.func80, Tryz.ntmps80
  go_wp2_with fail
  have n0 := fun ty => run_next_ascii (P := Tryz.prog) w ⟨#[64, 35]⟩ 0 ty (by decide) (by decide)
  have n1 := fun ty => run_next_ascii (P := Tryz.prog) w ⟨#[64, 35]⟩ 1 ty (by decide) (by decide)
  have n2 := run_next_end (P := Tryz.prog) w ⟨#[64, 35]⟩ 2
  refine wp_loop_rounds 3 ?_
  rw [rounds_succ]
  go_wp2
  rw [rounds_succ]
  go_wp2
  rw [rounds_succ]
  go_wp2
  go_ret
  exact ⟨rfl, (Fr0.refl none' w).alloc _⟩
set_option maxRecDepth 100000 in
set_option maxHeartbeats 4000000 in
theorem rune_two (r : Int) (b0 b1 : UInt8) (h0 : 128 ≤ r) (h1 : r ≤ 1114111) (hv : Lib.validRune r = true) (he : r ≠ 65533) (hrs : Utf8.encode r = ⟨#[b0, b1]⟩) (hb : 128 ≤ b1.toNat) (w : World) : Calls Tryz.prog 80 #[.string ⟨#[64, 35]⟩, .int .i32 r] w fun e w' => e = .returned (.int .i64 (-1)) ∧ Fr0 none' w w' := by
  have HV := Lib.hid (Tryz.utf8_ValidRune r)
  rw [hv] at HV
  have d1 : decide (0 ≤ r) = true := decide_eq_true (by omega)
  have d2 : decide (r < 128) = false := decide_eq_false (by omega)
  have d3 : (r == 65533) = false := by simpa using he
  have w2 : IntKind.i64.wrap 2 = 2 := by decide
  have hne : (((⟨#[64, 35]⟩ : ByteArray)[1].toNat : Int) != (((⟨#[b0, b1]⟩ : ByteArray)[1]'(by show 1 < 2; omega)).toNat : Int)) = true := by
    show (((35 : Nat) : Int) != (b1.toNat : Int)) = true
    simp; omega
  clear he
  go_enter Tryz.func80, Tryz.ntmps80
  go_wp2_with (first | (go_at_call 101; refine (HV.out _).mono ?_; rintro e w1 ⟨rfl, rfl⟩) | (go_at_call 16; fail))
  apply wp_scope_straight
  go_wp2
  refine wp_loop_rounds 1 ?_
  rw [rounds_succ]
  go_wp2
  apply wp_scope_straight
  go_wp2
  go_quiet (fail)
  go_wp2
  have FW := Lib.hid ((Fr.refl none' w1).drewN nq).to0
  obtain ⟨W9, hW9⟩ : ∃ W9, w1.drewN nq = W9 := ⟨_, rfl⟩
  rw [hW9] at FW ⊢
  clear hW9
  go_quiet (refine Calls.quiet_of_same (Tryz.strings_IndexByte _ _ _))
  rw [show Lib.indexByte ByteArray.empty.data.toList _ = -1 from rfl]
  go_wp2
  simp only [Exit.noGoto, Exit.inBlock, Exit.then]
  go_ret
  exact ⟨rfl, FW.out.trans ((Fr.refl none' W9).drewN nq).to0⟩
set_option maxRecDepth 100000 in
set_option maxHeartbeats 4000000 in
theorem rune_more (r : Int) (rs : ByteArray) (h0 : 128 ≤ r) (h1 : r ≤ 1114111) (hv : Lib.validRune r = true) (he : r ≠ 65533) (hrs : Utf8.encode r = rs) (hs : 3 ≤ rs.size ∧ rs.size ≤ 4) (w : World) : Calls Tryz.prog 80 #[.string ⟨#[64, 35]⟩, .int .i32 r] w fun e w' => e = .returned (.int .i64 (-1)) ∧ Fr0 none' w w' := by
  have HV := Lib.hid (Tryz.utf8_ValidRune r)
  rw [hv] at HV
  have d1 : decide (0 ≤ r) = true := decide_eq_true (by omega)
  have d2 : decide (r < 128) = false := decide_eq_false (by omega)
  have d3 : (r == 65533) = false := by simpa using he
  have z1 : IntKind.i64.wrap ((rs.size : Int) - 1) = (rs.size : Int) - 1 := IntWalk.i64_in _ (by omega)
  have d4 : decide ((rs.size : Int) - 1 < 2) = false := decide_eq_false (by omega)
  clear he
  go_enter Tryz.func80, Tryz.ntmps80
  go_wp2_with (first | (go_at_call 101; refine (HV.out _).mono ?_; rintro e w1 ⟨rfl, rfl⟩) | (go_at_call 16; fail))
  apply wp_scope_straight
  go_wp2
  refine wp_loop_rounds 1 ?_
  rw [rounds_succ]
  go_wp2
  simp only [Exit.noGoto, Exit.inBlock]
  go_ret
  exact ⟨rfl, Fr0.refl _ _⟩
theorem enc_high (r : Int) (h0 : 128 ≤ r) (h1 : r ≤ 1114111) (hv : Lib.validRune r = true) : (∃ b0 b1, Utf8.encode r = ⟨#[b0, b1]⟩ ∧ 128 ≤ b1.toNat) ∨ (3 ≤ (Utf8.encode r).size ∧ (Utf8.encode r).size ≤ 4) := by
  have hv' : Utf8.valid r = true := by
    unfold Lib.validRune at hv
    have := of_decide_eq_true hv
    unfold Utf8.valid
    simp only [Bool.or_eq_true, Bool.and_eq_true, decide_eq_true_eq]
    omega
  obtain ⟨c, rfl⟩ : ∃ c : Nat, r = c := ⟨r.toNat, by omega⟩
  unfold Utf8.encode
  simp only [hv', if_true, Int.toNat_natCast]
  rw [if_neg (by omega)]
  by_cases h2 : c < 2048
  · left
    rw [if_pos h2]
    refine ⟨_, _, rfl, ?_⟩
    simp; omega
  · right
    rw [if_neg h2]
    by_cases h3 : c < 65536
    · rw [if_pos h3]; exact ⟨by show 3 ≤ 3; omega, by show 3 ≤ 4; omega⟩
    · rw [if_neg h3]; exact ⟨by show 3 ≤ 4; omega, by show 4 ≤ 4; omega⟩
theorem rune_high (r : Int) (h0 : 128 ≤ r) (h1 : r ≤ 1114111) (hv : Lib.validRune r = true) (w : World) : Calls Tryz.prog 80 #[.string ⟨#[64, 35]⟩, .int .i32 r] w fun e w' => e = .returned (.int .i64 (-1)) ∧ Fr0 none' w w' := by
  by_cases he : r = 65533
  · subst he; exact rune_err w
  · rcases enc_high r h0 h1 hv with ⟨b0, b1, h2, h3⟩ | h2
    · exact rune_two r b0 b1 h0 h1 hv he h2 h3 w
    · exact rune_more r _ h0 h1 hv he rfl h2 w
set_option maxHeartbeats 2000000 in
/-- What is decoded at a byte from 128 on: no mark is passed over. -/
theorem decode_more (s : ByteArray) (pos : Nat) (h : pos < s.size) (ha : 128 ≤ (s[pos]'h).toNat) :
    Lib.validRune ((Utf8.decode s pos).1 : Int) = true ∧ pos + (Utf8.decode s pos).2 ≤ s.size ∧ ∀ j, pos < j → j < pos + (Utf8.decode s pos).2 → 128 ≤ (s.get! j).toNat := by
  have hn : ¬ (s[pos]'h).toNat < 128 := by omega
  have hb : ∀ k, (s.get! k).toNat < 256 := fun k => (s.get! k).toNat_lt
  simp only [Utf8.decode, get_at s pos h, hn, if_false]
  have hb1 := hb (pos + 1)
  have hb2 := hb (pos + 2)
  have hb3 := hb (pos + 3)
  generalize (s[pos]'h).toNat = x at *
  have key : ∀ (P : Nat → Prop) (n : Nat), (∀ i, 0 < i → i < n → P (pos + i)) → ∀ j, pos < j → j < pos + n → P j := fun P n hP j h1 h2 => by
    have := hP (j - pos) (by omega) (by omega)
    rwa [show pos + (j - pos) = j by omega] at this
  repeat' split
  all_goals (refine ⟨?_, ?_, key _ _ (fun i h1 h2 => ?_)⟩)
  all_goals (simp only [Bool.and_eq_true, beq_iff_eq, decide_eq_true_eq, Utf8.valid, Bool.or_eq_true, ge_iff_le, Utf8.runeError] at *)
  all_goals (try (unfold Lib.validRune; refine decide_eq_true ?_; omega))
  all_goals (try omega)
  all_goals (have h3 : i = 1 ∨ i = 2 ∨ i = 3 := by omega)
  all_goals (rcases h3 with rfl | rfl | rfl <;> omega)
end Go.Proofs.YtpklgpdlkdlbbaaGreatDoor

/-
  strings.IndexAny of the marks of a text, at every string.
-/
namespace Go.Proofs.YtpklgpdlkdlbbaaGreatDoor
open Go Go.RowKit
attribute [local go_sem ↓] Go.wp_at_zero Go.wp_at_succ

theorem iterPosK {w : World} {k : Nat} {s : ByteArray} {p : Nat} (h : w.heap[k]? = some (.stringIter s p)) : w.iterPos k = p := by simp [World.iterPos, h]
theorem iterAt_fr0 {S : Nat → Prop} {a w : World} {k : Nat} {s : ByteArray} {pos : Nat} (h : Fr0 S a w) (hk : k < a.heap.size → S k) : Fr0 S a (w.iterAt k s pos) := by
  exact h.putObj hk _
theorem noAny_skip {l : List UInt8} {i n : Nat} (h : Lib.NoAny l marks i) (h1 : ∀ j b, i ≤ j → j < i + n → l[j]? = some b → 128 ≤ b.toNat) : Lib.NoAny l marks (i + n) := fun j b hj hb => by
  by_cases e : j < i
  · exact h j b e hb
  · have := h1 j b (by omega) hj hb
    simp only [marks, List.contains_cons, List.contains_nil, Bool.or_false, Bool.or_eq_false_iff, beq_eq_false_iff_ne]
    exact ⟨fun e => by subst e; simp at this, fun e => by subst e; simp at this⟩
theorem get_data (s : ByteArray) (j : Nat) (b : UInt8) (h : s.data.toList[j]? = some b) : s.get! j = b := by
  have hl := (List.getElem?_eq_some_iff.1 h).1
  have he := (List.getElem?_eq_some_iff.1 h).2
  rw [Array.length_toList] at hl
  have := get_at s j hl
  rw [Nat.add_zero] at this
  rw [this, ← he]
  simp [Array.getElem_toList]
  rfl
set_option maxRecDepth 100000 in
set_option maxHeartbeats 4000000 in
theorem indexAny_short (s : ByteArray) (w : World) (h8 : s.size ≤ 8) :
    Calls Tryz.prog 43 #[.string s, .string ⟨#[64, 35]⟩] w fun e w' => e = .returned (.int .i64 (Lib.indexAny s.data.toList marks)) ∧ Fr0 none' w w' := by
  obtain ⟨R, hR⟩ : ∃ R, Lib.indexAny s.data.toList marks = R := ⟨_, rfl⟩
  rw [hR]
  have HR := Lib.hid hR
  clear hR
  have h8z : decide ((8 : Int) < (s.size : Int)) = false := decide_eq_false (by omega)
  go_enter Tryz.func43, Tryz.ntmps43
  go_wp2_with (go_at_call 81; refine (Tryz.strings_shouldUseASCIISet _ _).mono ?_; rintro e w' ⟨rfl, rfl⟩; rw [h8z])
  obtain ⟨B, hB⟩ : ∃ B, w'.heap.size = B := ⟨_, rfl⟩
  have hI0 : (w'.iter s 0).heap[B]? = some (.stringIter s 0) := by rw [← hB]; exact World.iter_heap w' s 0
  have HI0 := Lib.hid hI0
  have HF0 := Lib.hid (show Fr0 none' w' (w'.iter s 0) from (Fr0.refl none' w').alloc _)
  have HB := Lib.hid hB
  obtain ⟨W0, hW0⟩ : ∃ W0, w'.iter s 0 = W0 := ⟨_, rfl⟩
  rw [hW0] at HI0 HF0 ⊢
  rw [hB]
  clear hI0 hB hW0 h8z
  go_loopw [9, 10] (fun _ _ wr => ∃ i : Nat, i ≤ s.size ∧ Hid (Lib.NoAny s.data.toList marks i) ∧ Hid (wr.heap[B]? = some (.stringIter s i)) ∧ Hid (Fr0 none' w' wr)) (fun _ _ wr => s.size - wr.iterPos B)
  case atStart => exact ⟨0, Nat.zero_le _, Lib.NoAny.zero _ _, HI0.out, HF0.out⟩
  case round =>
    obtain ⟨i, hi, hno, hit, hf⟩ := hrel
    by_cases hlt : i < s.size
    · obtain ⟨x, hx⟩ : ∃ x : UInt8, s[i]'hlt = x := ⟨_, rfl⟩
      have hxl : s.data.toList[i]? = some x := by rw [← hx]; exact Lib.data_getElem? s i hlt
      have Hx := Lib.hid hxl
      have hpos := iterPosK hit.out
      by_cases hx128 : x.toNat < 128
      · have hnx := fun ty => Lib.run_next_ascii_at (P := Tryz.prog) wr B s i ty hit.out hlt (by rw [hx]; exact hx128)
        rw [hx] at hnx
        obtain ⟨V, hV⟩ : ∃ V, wr.iterAt B s (i + 1) = V := ⟨_, rfl⟩
        have HI := Lib.hid (show V.heap[B]? = some (.stringIter s (i + 1)) by rw [← hV]; exact Lib.iterAt_heap wr B s i (i + 1) hit.out)
        have HFV := Lib.hid (show Fr0 none' w' V by rw [← hV]; exact iterAt_fr0 hf.out (fun h => by have := HB.out; omega))
        rw [hV] at hnx
        have hcon := Lib.contains_iff_indexByte marks x
        have hback : ((x.toNat : Int)).toNat.toUInt8 = x := by simp
        obtain ⟨y, hy⟩ : ∃ y : Int, (x.toNat : Int) = y := ⟨_, rfl⟩
        rw [hy] at hnx hback
        have Hy := Lib.hid (show 0 ≤ y ∧ y < 128 by omega)
        have HC := Lib.hid (fun W => Tryz.strings_IndexRune_ascii ⟨#[64, 35]⟩ y W Hy.out.1 Hy.out.2)
        rw [hback] at HC
        obtain ⟨z, hz⟩ : ∃ z : Int, Lib.indexByte marks x = z := ⟨_, rfl⟩
        rw [show (⟨#[64, 35]⟩ : ByteArray).data.toList = marks from rfl, hz] at HC
        rw [hz] at hcon
        have Hcon := Lib.hid hcon
        clear hV hx hxl hx128 hy hz hback hcon
        by_cases hz0 : 0 ≤ z
        · have d0 : decide (0 ≤ z) = true := decide_eq_true hz0
          obtain rfl : (i : Int) = R := by rw [← HR.out]; exact (Lib.indexAny_hit hno.out Hx.out (by rw [Hcon.out]; exact d0)).symm
          go_wp2_with (go_at_call 80; refine (HC.out _).mono ?_; rintro e w2 ⟨rfl, rfl⟩)
          go_ret
          exact ⟨rfl, HFV.out⟩
        · have d0 : decide (0 ≤ z) = false := decide_eq_false hz0
          have Hn := Lib.hid (hno.out.succ Hx.out (by rw [Hcon.out]; exact d0))
          go_wp2_with (go_at_call 80; refine (HC.out _).mono ?_; rintro e w2 ⟨rfl, rfl⟩)
          refine ⟨⟨i + 1, by omega, Hn.out, HI.out, HFV.out⟩, ?_⟩
          rw [iterPosK HI.out, hpos]; omega
      · have hhi : 128 ≤ (s[i]'hlt).toNat := by rw [hx]; omega
        have hnx := fun ty => Lib.run_next_any_at (P := Tryz.prog) wr B s i ty hit.out hlt
        have h1 := decode_high s i hlt hhi
        obtain ⟨h2, h3, h4⟩ := decode_more s i hlt hhi
        generalize (Utf8.decode s i).1 = c at hnx h1 h2
        generalize (Utf8.decode s i).2 = n at hnx h1 h3 h4
        obtain ⟨y, hy⟩ : ∃ y : Int, (c : Int) = y := ⟨_, rfl⟩
        rw [hy] at hnx h2
        have hb : y ≤ 1114111 := by
          unfold Lib.validRune at h2
          have := of_decide_eq_true h2
          omega
        have HC := Lib.hid (fun W => rune_high y (by omega) hb h2 W)
        have Hn := Lib.hid (noAny_skip (n := n) hno.out (fun j b hj1 hj2 hj3 => by
          by_cases e : j = i
          · subst e; rw [Hx.out] at hj3; injection hj3 with hj3; rw [← hj3]; omega
          · have := h4 j (by omega) hj2; rw [get_data s j b hj3] at this; exact this))
        obtain ⟨V, hV⟩ : ∃ V, wr.iterAt B s (i + n) = V := ⟨_, rfl⟩
        have HI := Lib.hid (show V.heap[B]? = some (.stringIter s (i + n)) by rw [← hV]; exact Lib.iterAt_heap wr B s i (i + n) hit.out)
        have HFV := Lib.hid (show Fr0 none' w' V by rw [← hV]; exact iterAt_fr0 hf.out (fun h => by have := HB.out; omega))
        rw [hV] at hnx
        have H3 := Lib.hid (show i + n ≤ s.size ∧ 1 ≤ n from ⟨h3, h1.2⟩)
        clear hV hx hxl hx128 hy hhi h1 h2 h3 h4 hb
        go_wp2_with (go_at_call 80; refine (HC.out _).mono ?_; rintro e w2 ⟨rfl, hf2⟩)
        have hBl : B < V.heap.size := (Array.getElem?_eq_some_iff.1 HI.out).1
        have HI2 := (hf2.block B hBl id).trans HI.out
        refine ⟨⟨i + n, H3.out.1, Hn.out, HI2, HFV.out.trans hf2⟩, ?_⟩
        rw [iterPosK HI2, hpos]; have := H3.out; omega
    · obtain rfl : i = s.size := by omega
      have hnx := fun ty => Lib.run_next_end_at (P := Tryz.prog) wr B s s.size ty hit.out (by omega)
      obtain rfl : -1 = R := by rw [← HR.out]; exact (Lib.indexAny_none (by rw [← Lib.size_eq]; exact hno.out)).symm
      go_wp2
      go_ret
      exact ⟨rfl, hf.out⟩
theorem indexAny_any (s : ByteArray) (w : World) (hs : s.size ≤ 100000) :
    Calls Tryz.prog 43 #[.string s, .string ⟨#[64, 35]⟩] w fun e w' => e = .returned (.int .i64 (Lib.indexAny s.data.toList marks)) ∧ Fr0 none' w w' := by
  by_cases h8 : s.size ≤ 8
  · exact indexAny_short s w h8
  · refine (Tryz.strings_IndexAny_long (zero_of_info (n := 256) (by kernel_rfl)).1 s ⟨#[64, 35]⟩ w (by decide) (by omega) (by omega) (by decide) ?_).mono ?_
    · intro j b hb
      match j, hb with
      | 0, hb => simp at hb; rw [← hb]; decide
      | 1, hb => simp at hb; rw [← hb]; decide
      | j + 2, hb => simp at hb
    · rintro e w' ⟨rfl, rfl⟩
      exact ⟨rfl, ((Fr0.refl none' w).alloc _).alloc _⟩
end Go.Proofs.YtpklgpdlkdlbbaaGreatDoor

/-
  Parsing, piece by piece.
-/
namespace Go.Proofs.YtpklgpdlkdlbbaaGreatDoor
open Go Go.RowKit

def stepP (i : Nat) (st : Key3 × List UInt8) : Option (Key3 × List UInt8) := (pieceOf (fMark i).data.toList st.2).map fun p => (setF st.1 i p.1, p.2)
def runP (s : List UInt8) : Nat → Option (Key3 × List UInt8)
  | 0 => some (zeroK, s)
  | i + 1 => (runP s i).bind (stepP i)
theorem parseK_run (s : List UInt8) : parseK s = (match runP s 3 with | some (k, r) => if r = [] ∧ RightK k then some k else none | none => none) := by
  unfold parseK
  simp only [runP, Option.bind_some]
  unfold stepP
  rw [show (fMark 0).data.toList = [] from rfl, show (fMark 1).data.toList = [64] from rfl, show (fMark 2).data.toList = [35] from rfl]
  cases h1 : pieceOf [] s with
  | none => rfl
  | some p1 =>
    obtain ⟨t, s1⟩ := p1
    simp only [Option.map_some, Option.bind_some]
    cases h2 : pieceOf [64] s1 with
    | none => rfl
    | some p2 =>
      obtain ⟨c, s2⟩ := p2
      simp only [Option.map_some, Option.bind_some]
      cases h3 : pieceOf [35] s2 with
      | none => rfl
      | some p3 =>
        obtain ⟨q, s3⟩ := p3
        simp only [Option.map_some, setF, zeroK]
        rfl
theorem runP_none {s : List UInt8} {i j : Nat} (h : runP s i = none) (hij : i ≤ j) : runP s j = none := by
  obtain ⟨d, rfl⟩ := Nat.exists_eq_add_of_le hij
  induction d with
  | zero => exact h
  | succ d ih =>
    have := ih (by omega)
    show (runP s (i + d)).bind _ = none
    rw [this]; rfl
theorem pieceOf_len {mark s : List UInt8} {n : Int} {r : List UInt8} (h : pieceOf mark s = some (n, r)) : r.length ≤ s.length := by
  rw [pieceOf_some h]; simp; omega
def parseV (s : List UInt8) : Value := if (parseK s).isSome then .tuple #[keyV ((parseK s).getD zeroK), .int .i64 0] else .tuple #[keyV zeroK, .int .i64 72]
/-- strconv.Atoi where it succeeds. -/
theorem atoi_ok (s : ByteArray) (hs : s.size ≤ 100000) (v : Int) (h : Lib.atoiAll s.data.toList = .ok v) (w : World) :
    Calls Tryz.prog 44 #[.string s] w fun e w' => e = .returned (.tuple #[.int .i64 v, .nilIface]) ∧ Fr0 none' w w' := by
  refine (Tryz.strconv_Atoi_ok s (by omega) v h w).mono ?_
  rintro e w' ⟨rfl, hw⟩
  refine ⟨rfl, ?_⟩
  rcases hw with rfl | ⟨t, rfl⟩
  · exact Fr0.refl _ _
  · exact below_to0 (Lib.bytesWorld_below _ _ _)
theorem atoi_bad (s : ByteArray) (hs : s.size ≤ 100000) (h : ∀ v, Lib.atoiAll s.data.toList ≠ .ok v) (w : World) (hL : Laid7 w) :
    Calls Tryz.prog 44 #[.string s] w fun e w' => (∃ x tp p, e = .returned (.tuple #[.int .i64 x, .iface tp (.pointer (some p))])) ∧ Fr0 none' w w' := by
  obtain ⟨_, ⟨a, b, h2⟩, ⟨c, d, h3⟩⟩ := hL
  rcases hc : Lib.atoiAll s.data.toList with v | _ | _
  · exact absurd hc (h _)
  · refine (Tryz.strconv_Atoi_syn s (by omega) hc a b w h2).mono ?_
    rintro e w' ⟨N, rfl, _, _, hb⟩
    exact ⟨⟨_, _, _, rfl⟩, below_to0 hb⟩
  · refine (Tryz.strconv_Atoi_range_var s (by omega) hc c d w h3).mono ?_
    rintro e w' ⟨N, rfl, _, _, hb⟩
    exact ⟨⟨_, _, _, rfl⟩, below_to0 hb⟩
end Go.Proofs.YtpklgpdlkdlbbaaGreatDoor

/-
  key.Parse.
-/
namespace Go.Proofs.YtpklgpdlkdlbbaaGreatDoor
open Go Go.RowKit
attribute [local go_sem ↓] Go.wp_at_zero Go.wp_at_succ
attribute [local go_sem] Oper.semAt_some wide_fn wide_depth wide_fnR wide_depthR

def start4 (w : World) (s : ByteArray) : World := (((w.alloc (.cells #[.string s] 9)).alloc (.cells #[.int .i64 0, .int .i64 0, .int .i64 0] 28)).alloc (.cells #[.int .i64 0, .int .i64 0, .int .i64 0] 28)).alloc (.cells #[.bool true] 4)
theorem start4_facts (w : World) (s : ByteArray) : Box (start4 w s) w.heap.size (.string s) ∧ KeyAt (start4 w s) (w.heap.size + 1) zeroK ∧ KeyAt (start4 w s) (w.heap.size + 1 + 1) zeroK ∧ Box (start4 w s) (w.heap.size + 1 + 1 + 1) (.bool true) ∧ (start4 w s).heap.size = w.heap.size + 4 ∧ Fr0 none' w (start4 w s) := by
  unfold start4
  refine ⟨(((Box.new _ _ _).alloc _).alloc _).alloc _, ?_, ?_, ?_, by simp, ((((Fr0.refl _ _).alloc _).alloc _).alloc _).alloc _⟩
  · have := World.alloc_heap_new (w.alloc (.cells #[.string s] 9)) (.cells #[.int .i64 0, .int .i64 0, .int .i64 0] 28)
    rw [World.size_alloc] at this
    exact KeyAt.alloc (KeyAt.alloc (k := zeroK) this _) _
  · have := World.alloc_heap_new ((w.alloc (.cells #[.string s] 9)).alloc (.cells #[.int .i64 0, .int .i64 0, .int .i64 0] 28)) (.cells #[.int .i64 0, .int .i64 0, .int .i64 0] 28)
    rw [World.size_alloc, World.size_alloc] at this
    exact KeyAt.alloc (k := zeroK) this _
  · have := Box.new (((w.alloc (.cells #[.string s] 9)).alloc (.cells #[.int .i64 0, .int .i64 0, .int .i64 0] 28)).alloc (.cells #[.int .i64 0, .int .i64 0, .int .i64 0] 28)) (.bool true) 4
    rwa [World.size_alloc, World.size_alloc, World.size_alloc] at this
structure PInv (s : List UInt8) (Bb : Nat) (w : World) (i : Nat) (st : Key3 × List UInt8) (W : World) : Prop where
  run : Hid (runP s i = some st ∧ st.2.length ≤ s.length)
  box : Box W Bb (.string ⟨st.2.toArray⟩)
  res : KeyAt W (Bb + 1) zeroK
  key : KeyAt W (Bb + 1 + 1) st.1
  ok : Box W (Bb + 1 + 1 + 1) (.bool true)
  fr : Fr0 none' w W
structure PBad (s : List UInt8) (Bb : Nat) (w : World) (W : World) : Prop where
  run : Hid (runP s 3 = none)
  res : KeyAt W (Bb + 1) zeroK
  key : ∃ k, KeyAt W (Bb + 1 + 1) k
  ok : Box W (Bb + 1 + 1 + 1) (.bool false)
  fr : Fr0 none' w W

theorem extract_take (s : ByteArray) (q : Nat) : (s.extract 0 q).data.toList = s.data.toList.take q := by
  rw [ByteArray.data_extract, Array.toList_extract]
  simp
theorem extract_drop (s : ByteArray) (q : Nat) : (s.extract q s.size).data.toList = s.data.toList.drop q := by
  rw [ByteArray.data_extract, Array.toList_extract, List.extract_eq_take_drop]
  rw [List.take_of_length_le (by rw [List.length_drop, Array.length_toList]; exact Nat.le_refl _)]
/-- What a round keeps while it reads. -/
structure PB (Bb B x : Nat) (K0 : Key3) (rs : ByteArray) (w : World) (W : World) : Prop where
  f : W.heap[B]? = some (.cells (fC (Bb + 1 + 1) x).toArray 74 (0, 0))
  box : Box W Bb (.string rs)
  res : KeyAt W (Bb + 1) zeroK
  key : KeyAt W (Bb + 1 + 1) K0
  ok : Box W (Bb + 1 + 1 + 1) (.bool true)
  fr : Fr0 none' w W
theorem PB.later {Bb B x : Nat} {K0 : Key3} {rs : ByteArray} {w W W' : World} (h : PB Bb B x K0 rs w W) (hf : Fr0 none' W W') : PB Bb B x K0 rs w W' := by
  obtain ⟨h1, h2, h3, h4, h5, h6⟩ := h
  exact ⟨(hf.block _ (Array.getElem?_eq_some_iff.1 h1).1 id).trans h1, h2.fr0 hf id, h3.fr0 hf id, h4.fr0 hf id, h5.fr0 hf id, h6.trans hf⟩
theorem piece_no {mark s : List UInt8} (h : Lib.hasPrefix s mark = false) : pieceOf mark s = none := by unfold pieceOf; rw [if_pos h]
theorem piece_bad {mark s RL : List UInt8} (hR : Lib.trimPrefix s mark = RL) (h : ∀ v, Lib.atoiAll (RL.take (cutAt RL)) ≠ .ok v) : pieceOf mark s = none := by
  unfold pieceOf
  rw [hR]
  split
  · rfl
  · split
    · next v hv => exact absurd hv (h v)
    · rfl
theorem piece_odd {mark s RL : List UInt8} {v : Int} (hR : Lib.trimPrefix s mark = RL) (h : Lib.atoiAll (RL.take (cutAt RL)) = .ok v) (hne : Lib.itoa v ≠ RL.take (cutAt RL)) : pieceOf mark s = none := by
  unfold pieceOf
  rw [hR, h]
  split
  · rfl
  · simp only; rw [if_neg hne]
theorem piece_ok {mark s RL : List UInt8} {v : Int} (hp : Lib.hasPrefix s mark = true) (hR : Lib.trimPrefix s mark = RL) (h : Lib.atoiAll (RL.take (cutAt RL)) = .ok v) (he : Lib.itoa v = RL.take (cutAt RL)) : pieceOf mark s = some (v, RL.drop (cutAt RL)) := by
  unfold pieceOf
  rw [hR, h, if_neg (by rw [hp]; simp)]
  simp only; rw [if_pos he]
theorem run_fail {s : List UInt8} {x : Nat} {K0 : Key3} {r : List UInt8} {m : ByteArray} (hx : x < 3) (h : runP s x = some (K0, r)) (hm : fMark x = m) (hp : pieceOf m.data.toList r = none) : runP s 3 = none := by
  refine runP_none (i := x + 1) ?_ (by omega)
  show (runP s x).bind _ = none
  rw [h, Option.bind_some]
  unfold stepP
  rw [hm, hp]; rfl
theorem run_go {s : List UInt8} {x : Nat} {K0 : Key3} {r t : List UInt8} {v : Int} {m : ByteArray} (h : runP s x = some (K0, r)) (hm : fMark x = m) (hp : pieceOf m.data.toList r = some (v, t)) : runP s (x + 1) = some (setF K0 x v, t) := by
  show (runP s x).bind _ = _
  rw [h, Option.bind_some]
  unfold stepP
  rw [hm, hp]; rfl
theorem itoa_all (x : Int) (h0 : -9223372036854775808 ≤ x) (h1 : x ≤ 9223372036854775807) (w : World) (hL : Laid7 w) :
    Calls Tryz.prog 32 #[.int .i64 x] w fun e w' => e = .returned (.string ⟨(Lib.itoa x).toArray⟩) ∧ Fr0 none' w w' := by
  refine (Tryz.strconv_Itoa x h0 h1 w hL.tab).mono ?_
  rintro e w' ⟨rfl, k, os, rfl⟩
  exact ⟨rfl, grow0 w k os⟩
set_option maxRecDepth 100000 in
set_option maxHeartbeats 4000000 in
theorem Parse_in (s : ByteArray) (hs : s.size ≤ 1000) (w : World) (hL : Laid7 w) :
    CallsIn Fence.wide 0 Tryz.prog 17 #[.string s] w fun e w' => e = .returned (parseV s.data.toList) ∧ Fr0 none' w w' := by
  obtain ⟨R, hR⟩ : ∃ R, parseV s.data.toList = R := ⟨_, rfl⟩
  rw [hR]
  have HRV := Lib.hid hR
  have HL := Lib.hid hL
  have HS := Lib.hid (show s.data.toList.length ≤ 1000 from by rw [Array.length_toList]; exact hs)
  clear hR hL hs
  refine callsIn_of_wp_marks Tryz.func17 rfl trivial ?_ rfl
  simp only [Tryz.ntmps17, List.size_toArray, List.length_cons, List.length_nil, Nat.reduceAdd, Nat.reduceSub, Array.replicate_succ, Array.replicate_zero, List.push_toArray, List.append_toArray, List.nil_append, List.cons_append]
  gi_wp2_with fail
  apply wpIn_scope_straight
  gi_wp2_with fail
  obtain ⟨W0, hW0⟩ : ∃ W0, start4 w s = W0 := ⟨_, rfl⟩
  have hst := start4_facts w s
  unfold start4 at hW0
  rw [show start4 w s = W0 from hW0] at hst
  obtain ⟨Bb, hBb⟩ : ∃ Bw, w.heap.size = Bw := ⟨_, rfl⟩
  rw [hBb] at hst
  rw [hW0, hBb]
  have Hst := Lib.hid hst
  have HBb := Lib.hid hBb
  clear hW0 hBb hst
  apply wpIn_label
  gi_wp2_with fail
  refine (callsIn_wide.2 (fields_any _ _)).mono ?_
  rintro e w3 ⟨rfl, rfl⟩
  gi_wp2_with fail
  obtain ⟨W3, hW3⟩ : ∃ W3, W0.alloc (.cells #[.pointer (some ⟨Bb + 1 + 1, 0, none⟩)] 71) = W3 := ⟨_, rfl⟩
  have it := (fields_iter (Bb + 1 + 1) W0.heap.size _ (Box.new W0 _ _ : Box (W0.alloc (.cells #[.pointer (some ⟨Bb + 1 + 1, 0, none⟩)] 71)) _ _)).to0
  have F3 := Lib.hid (show Fr0 none' W0 W3 by rw [← hW3]; exact (Fr0.refl _ _).alloc _)
  have Hsz3 := Lib.hid (show W3.heap.size = Bb + 5 by rw [← hW3, World.size_alloc, Hst.out.2.2.2.2.1])
  rw [hW3, Hst.out.2.2.2.2.1] at it
  rw [hW3, Hst.out.2.2.2.2.1]
  clear hW3
  refine wpIn_iterS0 (σ := Key3 × List UInt8) (gf := 68) (lb := #[.pointer (some ⟨Bb + 4, 0, none⟩)]) rfl (by intro args w; rfl) it (Keep.refl _ _) (fun _ => rfl) (fun k hk => hk.elim) (fun k hk => by subst hk; rw [Hsz3.out]; omega)
    (PInv s.data.toList Bb w) (fun _ b => b = Bb ∨ b = Bb + 1 + 1 ∨ b = Bb + 1 + 1 + 1) (fun c W => c = .exit 0 ∧ PBad s.data.toList Bb w W) ?hInv ?hlt ?hIx (zeroK, s.data.toList) ?h0 ?hf0
    (fun x W a' => ∃ B, a' = { tmps := #[.string s, .pointer (some ⟨Bb, 0, none⟩), .pointer (some ⟨Bb + 1, 0, none⟩), .int .i64 0, .pointer (some ⟨Bb + 1 + 1, 0, none⟩), .pointer (some ⟨Bb + 1 + 1 + 1, 0, none⟩), .pointer (some ⟨B, 0, none⟩), undef, undef, undef, undef, undef, .func (.func 68) #[] #[.pointer (some ⟨Bb + 4, 0, none⟩)], fV (Bb + 1 + 1) x, undef, undef, undef, undef, undef, undef, undef, undef, undef, undef, undef, undef, undef, undef, undef, undef, undef, undef, undef, undef, undef, undef, undef, undef, undef, undef, undef, undef, undef, undef, undef, undef, undef, undef, undef, undef, undef, undef, undef, undef, undef, undef, undef, undef, undef, undef, undef, undef, undef, undef, undef, undef, undef, undef], defers := [] } ∧ Bb + 6 < B ∧ W.heap[B]? = some (.cells (fC (Bb + 1 + 1) x).toArray 74 (0, 0)))
    ?assign ?keep ?body ?done ?stop
  case hInv =>
    rintro i v W4 W5 ⟨h0, h1, h2, h3, h4, h5⟩ hf
    have e1 := HBb.out
    rw [Hsz3.out] at hf
    refine ⟨h0, h1.fr0 hf (fun h => h.2 (.inl rfl)), h2.fr0 hf (fun h => ?_), h3.fr0 hf (fun h => h.2 (.inr (.inl rfl))), h4.fr0 hf (fun h => h.2 (.inr (.inr rfl))), h5.trans' hf (fun k hk h => ?_)⟩
    all_goals
      rcases h.1 with h | h
      · exact h
      · omega
  case hlt =>
    rintro i v W4 b ⟨h0, h1, h2, h3, h4, h5⟩ (rfl | rfl | rfl)
    · exact h1.lt
    · exact h3.lt
    · exact h4.lt
  case hIx =>
    rintro c W4 W5 ⟨rfl, h0, h1, ⟨k, h2⟩, h3, h4⟩ hf
    have e1 := HBb.out
    rw [Hsz3.out] at hf
    have hlt : ∀ k, k < Bb + 5 → ¬ (none' k ∨ k = Bb + 5 ∨ k = Bb + 5 + 1) := fun k hk h => by
      rcases h with h | h | h
      · exact h
      · omega
      · omega
    exact ⟨rfl, h0, h1.fr0 hf (hlt _ (by omega)), ⟨k, h2.fr0 hf (hlt _ (by omega))⟩, h3.fr0 hf (hlt _ (by omega)), h4.trans' hf (fun k hk h => hlt k (by omega) h)⟩
  case h0 =>
    obtain ⟨h1, h2, h3, h4, h5, h6⟩ := Hst.out
    exact ⟨⟨rfl, Nat.le_refl _⟩, h1.fr0 F3.out id, h2.fr0 F3.out id, h3.fr0 F3.out id, h4.fr0 F3.out id, h6.trans F3.out⟩
  case hf0 =>
    rintro b (rfl | rfl | rfl)
    · exact ⟨id, fun h => by omega⟩
    · exact ⟨id, fun h => by omega⟩
    · exact ⟨id, fun h => by omega⟩
  case keep =>
    rintro x W4 W5 a' ⟨B, rfl, hB, hc⟩ hf
    refine ⟨B, rfl, hB, (hf.block B (Array.getElem?_eq_some_iff.1 hc).1 (by rw [Hsz3.out]; omega)).trans hc⟩
  case assign =>
    intro l x W K hlt hK
    rw [Hsz3.out] at hlt
    simp only [fV]
    gi_wp2
    exact hK _ _ ⟨W.heap.size, by simp [fV], by omega, World.alloc_heap_new W _⟩ ((Fr0.refl _ _).alloc _)
  case body =>
    rintro l i x st W a' hxi ⟨h0, h1, h2, h3, h4, h5⟩ hfoot hsz ⟨B, rfl, hB, hcB⟩
    have hi : i < 3 ∧ x = i := by
      have : i < 3 := (List.getElem?_eq_some_iff.1 hxi).1
      have h3 : i = 0 ∨ i = 1 ∨ i = 2 := by omega
      rcases h3 with rfl | rfl | rfl <;> simp at hxi <;> omega
    obtain ⟨hi, rfl⟩ := hi
    obtain ⟨K0, r⟩ := st
    have hcb := cells_of hcB 0
    have hcm := cells_of hcB 3
    simp [fC] at hcb hcm
    have c0 := h1.cell
    obtain ⟨m, hm⟩ : ∃ m, fMark x = m := ⟨_, rfl⟩
    rw [hm] at hcm
    have HcB := Lib.hid hcB
    have Hm := Lib.hid hm
    have Hi := Lib.hid hi
    have H0 := Lib.hid h0.out
    have H1 := Lib.hid h1
    have H2 := Lib.hid h2
    have H3 := Lib.hid h3
    have H4 := Lib.hid h4
    have H5 := Lib.hid h5
    have Hsz := Lib.hid hsz
    obtain ⟨rs, hrs⟩ : ∃ t : ByteArray, ⟨r.toArray⟩ = t := ⟨_, rfl⟩
    rw [show (⟨(K0, r).2.toArray⟩ : ByteArray) = rs from hrs] at c0
    have HRS := Lib.hid (show rs.data.toList = r by rw [← hrs])
    clear hxi hm hi h0 h1 h2 h3 h4 h5 hfoot hcB hsz hrs
    gi_wp2_with fail
    refine (callsIn_round (Tryz.strings_CutPrefix rs m _)).mono ?_
    rintro e w1 ⟨rfl, rfl⟩
    obtain ⟨rest, hrest⟩ : ∃ t : ByteArray, ⟨(Lib.trimPrefix rs.data.toList m.data.toList).toArray⟩ = t := ⟨_, rfl⟩
    obtain ⟨is, his⟩ : ∃ b, Lib.hasPrefix rs.data.toList m.data.toList = b := ⟨_, rfl⟩
    rw [hrest, his]
    have hRL : Lib.trimPrefix r m.data.toList = rest.data.toList := by rw [← hrest, HRS.out]
    have HP1 := Lib.hid (show PB Bb B x K0 rs w w1 from ⟨HcB.out, by have := H1.out; rw [← HRS.out] at this; exact this, H2.out, H3.out, H4.out, H5.out⟩)
    rw [HRS.out] at his
    have HRL := Lib.hid hRL
    have His := Lib.hid his
    have hrl : rest.size ≤ 1000 := by
      have h1 : rest.data.toList.length ≤ r.length := by
        rw [← hRL]
        unfold Lib.trimPrefix
        split <;> simp
      rw [Array.length_toList] at h1
      have := H0.out.2
      have := HS.out
      exact Nat.le_trans h1 (by omega)
    obtain ⟨q, hq⟩ : ∃ q, cutAt rest.data.toList = q := ⟨_, rfl⟩
    have hqn : q ≤ rest.size := by rw [← hq]; have := cutAt_le rest.data.toList; rw [Array.length_toList] at this; exact this
    have Hq := Lib.hid hq
    have hany := cutAt_any rest.data.toList
    rw [hq, Array.length_toList, show rest.data.size = rest.size from rfl] at hany
    clear hrest his hcb hcm c0 hq H1 H2 H3 H4 H5 HcB hRL
    gi_wp2_with fail
    refine (callsIn_round (indexAny_any rest _ (by omega))).mono ?_
    rintro e w2 ⟨rfl, hf2⟩
    rw [hany]
    have HP2 := Lib.hid (HP1.out.later hf2)
    have F2 := Lib.hid hf2
    clear hf2 hany
    by_cases hql : q < rest.size
    · rw [if_pos hql]
      have z0 : (0 : Int) ≤ (q : Int) := by omega
      have z1 : (q : Int) ≤ (rest.size : Int) := by omega
      have z2 : decide ((q : Int) < 0) = false := decide_eq_false (by omega)
      gi_wp2_with fail
      obtain ⟨T, hT⟩ : ∃ T, rest.extract 0 q = T := ⟨_, rfl⟩
      have hTl : T.data.toList = rest.data.toList.take q := by rw [← hT]; exact extract_take rest q
      have hTs : T.size ≤ 1000 := by
        have : T.data.toList.length ≤ q := by rw [hTl, List.length_take]; omega
        rw [Array.length_toList] at this
        exact Nat.le_trans this (by omega)
      rw [hT]
      by_cases hat : ∃ v, Lib.atoiAll T.data.toList = .ok v
      · obtain ⟨v, hv⟩ := hat
        have hvb := Lib.atoiAll_bounds hv
        refine (callsIn_round (atoi_ok T (by omega) v hv _)).mono ?_
        rintro e w4 ⟨rfl, hf4⟩
        have HP4 := Lib.hid (HP2.out.later hf4)
        have L4 := Lib.hid (HL.out.later HP4.out.fr)
        have HT := Lib.hid hT
        have HTl := Lib.hid hTl
        have F4 := Lib.hid (F2.out.trans hf4)
        have Hv := Lib.hid hv
        have Hvb := Lib.hid hvb
        clear hf4 hT hTl hTs hv hvb
        gi_wp2_with fail
        by_cases his : is = true
        · subst his
          refine wpIn_round_held (S := fun W' => Fr0 none' w4 W') (by kernel_rfl) (by kernel_rfl) (by intro a w h; exact h) (Fr.refl none' w4).drew.to0 (fun hHeld => ?_)
          refine take_on (i := 0) (v := .bool true) rfl (by kernel_rfl) (by kernel_rfl) (by kernel_rfl) (fun _ _ _ h => h) (by kernel_rfl) (fun W' hSW => ?_) (by assumption) ?_
          · (try dsimp only at hSW); (try subst hSW)
            first | (go_simp; done) | exact rfl | (go_simp; rfl) | (go_simp; omega)
          try simp only [Act.put, List.setIfInBounds_toArray, List.set_cons_zero, List.set_cons_succ]
          refine take_on (i := 1) (v := .bool false) rfl (by kernel_rfl) (by kernel_rfl) (by kernel_rfl) (fun _ _ _ h => h) (by kernel_rfl) (fun W' hSW => ?_) (by assumption) ?_
          · (try dsimp only at hSW); (try subst hSW)
            first | (go_simp; done) | exact rfl | (go_simp; rfl) | (go_simp; omega)
          try simp only [Act.put, List.setIfInBounds_toArray, List.set_cons_zero, List.set_cons_succ]
          refine take_on (i := 2) (v := .bool false) rfl (by kernel_rfl) (by kernel_rfl) (by kernel_rfl) (fun _ _ _ h => h) (by kernel_rfl) (fun W' hSW => ?_) (by assumption) ?_
          · (try dsimp only at hSW); (try subst hSW)
            first | (go_simp; done) | exact rfl | (go_simp; rfl) | (go_simp; omega)
          try simp only [Act.put, List.setIfInBounds_toArray, List.set_cons_zero, List.set_cons_succ]
          refine take_on (i := 3) (v := .nilIface) rfl (by kernel_rfl) (by kernel_rfl) (by kernel_rfl) (fun _ _ _ h => h) (by kernel_rfl) (fun W' hSW => ?_) (by assumption) ?_
          · (try dsimp only at hSW); (try subst hSW)
            first | (go_simp; done) | exact rfl | (go_simp; rfl) | (go_simp; omega)
          try simp only [Act.put, List.setIfInBounds_toArray, List.set_cons_zero, List.set_cons_succ]
          refine take_on (i := 4) (v := .bool false) rfl (by kernel_rfl) (by kernel_rfl) (by kernel_rfl) (fun _ _ _ h => h) (by kernel_rfl) (fun W' hSW => ?_) (by assumption) ?_
          · (try dsimp only at hSW); (try subst hSW)
            first | (go_simp; done) | exact rfl | (go_simp; rfl) | (go_simp; omega)
          try simp only [Act.put, List.setIfInBounds_toArray, List.set_cons_zero, List.set_cons_succ]
          refine take_on (i := 5) (v := .bool false) rfl (by kernel_rfl) (by kernel_rfl) (by kernel_rfl) (fun _ _ _ h => h) (by kernel_rfl) (fun W' hSW => ?_) (by assumption) ?_
          · (try dsimp only at hSW); (try subst hSW)
            first | (go_simp; done) | exact rfl | (go_simp; rfl) | (go_simp; omega)
          try simp only [Act.put, List.setIfInBounds_toArray, List.set_cons_zero, List.set_cons_succ]
          refine take_on (i := 6) (v := .bool false) rfl (by kernel_rfl) (by kernel_rfl) (by kernel_rfl) (fun _ _ _ h => h) (by kernel_rfl) (fun W' hSW => ?_) (by assumption) ?_
          · (try dsimp only at hSW); (try subst hSW)
            first | (go_simp; done) | exact rfl | (go_simp; rfl) | (go_simp; omega)
          try simp only [Act.put, List.setIfInBounds_toArray, List.set_cons_zero, List.set_cons_succ]
          refine take_on (i := 7) (v := .int .i64 v) rfl (by kernel_rfl) (by kernel_rfl) (by kernel_rfl) (fun _ _ _ h => h) (by kernel_rfl) (fun W' hSW => ?_) (by assumption) ?_
          · (try dsimp only at hSW); (try subst hSW)
            first | (go_simp; done) | exact rfl | (go_simp; rfl) | (go_simp; omega)
          try simp only [Act.put, List.setIfInBounds_toArray, List.set_cons_zero, List.set_cons_succ]
          refine take_on (i := 9) (v := .string rest) rfl (by kernel_rfl) (by kernel_rfl) (by kernel_rfl) (fun _ _ _ h => h) (by kernel_rfl) (fun W' hSW => ?_) (by assumption) ?_
          · (try dsimp only at hSW); (try subst hSW)
            first | (go_simp; done) | exact rfl | (go_simp; rfl) | (go_simp; omega)
          try simp only [Act.put, List.setIfInBounds_toArray, List.set_cons_zero, List.set_cons_succ]
          refine take_on (i := 10) (v := .int .i64 q) rfl (by kernel_rfl) (by kernel_rfl) (by kernel_rfl) (fun _ _ _ h => h) (by kernel_rfl) (fun W' hSW => ?_) (by assumption) ?_
          · (try dsimp only at hSW); (try subst hSW)
            first | (go_simp; done) | exact rfl | (go_simp; rfl) | (go_simp; omega)
          try simp only [Act.put, List.setIfInBounds_toArray, List.set_cons_zero, List.set_cons_succ]
          refine take_on (i := 11) (v := .string T) rfl (by kernel_rfl) (by kernel_rfl) (by kernel_rfl) (fun _ _ _ h => h) (by kernel_rfl) (fun W' hSW => ?_) (by assumption) ?_
          · (try dsimp only at hSW)
            have hT := HT.out
            first | (go_simp; done) | exact rfl | (go_simp; rfl) | (go_simp; omega)
          try simp only [Act.put, List.setIfInBounds_toArray, List.set_cons_zero, List.set_cons_succ]
          refine take_call (i := 8) rfl (by kernel_rfl) (by kernel_rfl) (fun K hK => ?_)
          go_simp
          refine (itoa_all v Hvb.out.1 Hvb.out.2 _ (L4.out.later hHeld)).mono ?_
          rintro e w5 ⟨rfl, hf5⟩
          have hS5 := hHeld.trans hf5
          obtain ⟨I, hI⟩ : ∃ I : ByteArray, ⟨(Lib.itoa v).toArray⟩ = I := ⟨_, rfl⟩
          rw [hI]
          have HI := Lib.hid (show I.data.toList = Lib.itoa v by rw [← hI])
          clear hf5 hI hHeld
          go_wp2_with fail
          refine hK.out _ _ hS5 (fun hHeld => ?_)
          clear hK K
          try simp only [Act.put, List.setIfInBounds_toArray, List.set_cons_zero, List.set_cons_succ]
          by_cases heq : I = T
          · have e1 : (I.toList == T.toList) = true := by rw [heq]; simp
            refine take_on (i := 12) (v := .bool false) rfl (by kernel_rfl) (by kernel_rfl) (by kernel_rfl) (fun _ _ _ h => h) (by kernel_rfl) (fun W' hSW => ?_) (by assumption) ?_
            · (try dsimp only at hSW); (try subst hSW)
              first | (go_simp; done) | exact rfl | (go_simp; rfl) | (go_simp; omega)
            try simp only [Act.put, List.setIfInBounds_toArray, List.set_cons_zero, List.set_cons_succ]
            refine take_on (i := 13) (v := .bool false) rfl (by kernel_rfl) (by kernel_rfl) (by kernel_rfl) (fun _ _ _ h => h) (by kernel_rfl) (fun W' hSW => ?_) (by assumption) ?_
            · (try dsimp only at hSW); (try subst hSW)
              first | (go_simp; done) | exact rfl | (go_simp; rfl) | (go_simp; omega)
            try simp only [Act.put, List.setIfInBounds_toArray, List.set_cons_zero, List.set_cons_succ]
            refine wpAnyH_done (by kernel_rfl) ?_ _
            clear e1 hHeld
            have HP5 := Lib.hid (HP4.out.later hS5)
            have F5 := Lib.hid (F4.out.trans hS5)
            have Heq := Lib.hid heq
            clear hS5 heq
            gi_wp2_with fail
            obtain ⟨WD, hWD⟩ : ∃ W', w5.drew = W' := ⟨_, rfl⟩
            have HPD := Lib.hid (show PB Bb B x K0 rs w WD by rw [← hWD]; exact HP5.out.later (Fr.refl none' w5).drew.to0)
            have FD := Lib.hid (show Fr0 none' w1 WD by rw [← hWD]; exact F5.out.trans (Fr.refl none' w5).drew.to0)
            have hcb := cells_of HPD.out.f 0
            simp [fC] at hcb
            have kc := HPD.out.key.cell Hi.out
            have kf := HPD.out.key.frozen x
            have bc := HPD.out.box.cell
            have bf := HPD.out.box.frozen
            refine wpIn_round_Z (z := 8) (S := fun W' => W'.cell? ⟨B, 0, none⟩ = some (.pointer (some ⟨Bb + 1 + 1, x, none⟩))) (by kernel_rfl) (by kernel_rfl) (by intro a w h; exact h) ?_
            rw [hWD]
            clear hWD
            have hd : rest.data.toList.drop q = (rest.extract q rest.size).data.toList := (extract_drop rest q).symm
            obtain ⟨U, hU⟩ : ∃ U, rest.extract q rest.size = U := ⟨_, rfl⟩
            rw [hU] at hd
            have HU := Lib.hid hd
            clear hd
            refine takeZ_on (i := 0) (v := .pointer (some ⟨B, 0, none⟩)) rfl (by kernel_rfl) (by kernel_rfl) (by kernel_rfl) (by kernel_rfl) (fun _ _ _ h => h) (by kernel_rfl) (fun W' hSW => ?_) (by assumption) ?_
            · (try dsimp only at hSW)
              first | (go_simp; done) | exact rfl | (go_simp; rfl) | (go_simp; omega)
            try simp only [Act.put, List.setIfInBounds_toArray, List.set_cons_zero, List.set_cons_succ]
            refine takeZ_on (i := 1) (v := .pointer (some ⟨Bb + 1 + 1, x, none⟩)) rfl (by kernel_rfl) (by kernel_rfl) (by kernel_rfl) (by kernel_rfl) (fun _ _ _ h => h) (by kernel_rfl) (fun W' hSW => ?_) (by assumption) ?_
            · (try dsimp only at hSW)
              first | (go_simp; done) | exact rfl | (go_simp; rfl) | (go_simp; omega)
            try simp only [Act.put, List.setIfInBounds_toArray, List.set_cons_zero, List.set_cons_succ]
            refine takeZ_on (i := 2) (v := .int .i64 v) rfl (by kernel_rfl) (by kernel_rfl) (by kernel_rfl) (by kernel_rfl) (fun _ _ _ h => h) (by kernel_rfl) (fun W' hSW => ?_) (by assumption) ?_
            · (try dsimp only at hSW)
              first | (go_simp; done) | exact rfl | (go_simp; rfl) | (go_simp; omega)
            try simp only [Act.put, List.setIfInBounds_toArray, List.set_cons_zero, List.set_cons_succ]
            refine takeZ_on (i := 3) (v := .string rest) rfl (by kernel_rfl) (by kernel_rfl) (by kernel_rfl) (by kernel_rfl) (fun _ _ _ h => h) (by kernel_rfl) (fun W' hSW => ?_) (by assumption) ?_
            · (try dsimp only at hSW)
              first | (go_simp; done) | exact rfl | (go_simp; rfl) | (go_simp; omega)
            try simp only [Act.put, List.setIfInBounds_toArray, List.set_cons_zero, List.set_cons_succ]
            refine takeZ_on (i := 4) (v := .int .i64 q) rfl (by kernel_rfl) (by kernel_rfl) (by kernel_rfl) (by kernel_rfl) (fun _ _ _ h => h) (by kernel_rfl) (fun W' hSW => ?_) (by assumption) ?_
            · (try dsimp only at hSW)
              first | (go_simp; done) | exact rfl | (go_simp; rfl) | (go_simp; omega)
            try simp only [Act.put, List.setIfInBounds_toArray, List.set_cons_zero, List.set_cons_succ]
            refine takeZ_on (i := 5) (v := .string U) rfl (by kernel_rfl) (by kernel_rfl) (by kernel_rfl) (by kernel_rfl) (fun _ _ _ h => h) (by kernel_rfl) (fun W' hSW => ?_) (by assumption) ?_
            · (try dsimp only at hSW)
              first | (go_simp; done) | exact rfl | (go_simp; rfl) | (go_simp; omega)
            try simp only [Act.put, List.setIfInBounds_toArray, List.set_cons_zero, List.set_cons_succ]
            refine takeZ_on (i := 6) (v := .pointer (some ⟨Bb + 1 + 1, x, none⟩)) rfl (by kernel_rfl) (by kernel_rfl) (by kernel_rfl) (by kernel_rfl) (fun _ _ _ h => h) (by kernel_rfl) (fun W' hSW => ?_) (by assumption) ?_
            · (try dsimp only at hSW)
              first | (go_simp; done) | exact rfl | (go_simp; rfl) | (go_simp; omega)
            try simp only [Act.put, List.setIfInBounds_toArray, List.set_cons_zero, List.set_cons_succ]
            refine takeZ_call (i := 7) rfl (by kernel_rfl) (by kernel_rfl) (fun K hK => ?_)
            go_simp
            have hcb2 := (World.cell?_setCell_far WD ⟨Bb + 1 + 1, x, none⟩ ⟨B, 0, none⟩ (.int .i64 v) (by simp; omega)).trans hcb
            have bx2 : Box (WD.setCell ⟨Bb + 1 + 1, x, none⟩ (.int .i64 v)) Bb (.string rs) := HPD.out.box.setOther (by simp <;> omega) _
            have bc2 := bx2.cell
            have bf2 := bx2.frozen
            refine hK.out _ _ (.inr hcb2) ?_
            clear hK K
            try simp only [Act.put, List.setIfInBounds_toArray, List.set_cons_zero, List.set_cons_succ]
            clear hcb kc kf bc bf
            refine takeZ_call (i := 8) rfl (by kernel_rfl) (by kernel_rfl) (fun K hK => ?_)
            go_simp
            refine hK.out _ _ (.inl rfl) ?_
            clear hK K
            try simp only [Act.put, List.setIfInBounds_toArray, List.set_cons_zero, List.set_cons_succ]
            refine wpAnyZ_done (by kernel_rfl) ?_ _
            clear hcb2 bc2 bf2 hU
            have HBX := Lib.hid bx2
            clear bx2
            gi_wp2_with fail
            have hpc : pieceOf m.data.toList r = some (v, U.data.toList) := by
              have := piece_ok His.out HRL.out (v := v) (by rw [Hq.out, ← HTl.out]; exact Hv.out) (by rw [Hq.out, ← HTl.out, ← HI.out, Heq.out])
              rw [Hq.out, HU.out] at this
              exact this
            have hn0 := HBb.out
            refine ⟨(setF K0 x v, U.data.toList), ⟨⟨run_go H0.out.1 Hm.out hpc, ?_⟩, ?_, ?_, ?_, ?_, ?_⟩, ?_, fun k h => .inl h⟩
            · exact Nat.le_trans (pieceOf_len hpc) H0.out.2
            · have := HBX.out.set (.string U)
              exact this
            · exact (HPD.out.res.setOther (by simp <;> omega) _).setOther (by simp <;> omega) _
            · exact (HPD.out.key.setF Hi.out v).setOther (by simp <;> omega) _
            · exact (HPD.out.ok.setOther (by simp <;> omega) _).setOther (by simp <;> omega) _
            · exact (HPD.out.fr.setCell (fun h => by omega) _).setCell (fun h => by omega) _
            · exact ((FD.out.mono (fun _ _ h => h.elim)).setCell (fun _ => .inr (.inl rfl)) _).setCell (fun _ => .inl rfl) _
          · have e1 : (I.toList == T.toList) = false := by
              simp only [beq_eq_false_iff_ne, ne_eq, Lib.toList_data]
              exact fun h => heq (ByteArray.ext (Array.toList_inj.1 h))
            refine take_on (i := 12) (v := .bool true) rfl (by kernel_rfl) (by kernel_rfl) (by kernel_rfl) (fun _ _ _ h => h) (by kernel_rfl) (fun W' hSW => ?_) (by assumption) ?_
            · (try dsimp only at hSW); (try subst hSW)
              first | (go_simp; done) | exact rfl | (go_simp; rfl) | (go_simp; omega)
            try simp only [Act.put, List.setIfInBounds_toArray, List.set_cons_zero, List.set_cons_succ]
            refine take_on (i := 13) (v := .bool true) rfl (by kernel_rfl) (by kernel_rfl) (by kernel_rfl) (fun _ _ _ h => h) (by kernel_rfl) (fun W' hSW => ?_) (by assumption) ?_
            · (try dsimp only at hSW); (try subst hSW)
              first | (go_simp; done) | exact rfl | (go_simp; rfl) | (go_simp; omega)
            try simp only [Act.put, List.setIfInBounds_toArray, List.set_cons_zero, List.set_cons_succ]
            refine wpAnyH_done (by kernel_rfl) ?_ _
            have HN := Lib.hid (show pieceOf m.data.toList r = none from piece_odd HRL.out (v := v) (by rw [Hq.out, ← HTl.out]; exact Hv.out) (by
              rw [Hq.out, ← HTl.out, ← HI.out]
              exact fun h => heq (ByteArray.ext (Array.toList_inj.1 h))))
            clear e1 hHeld heq
            have HP5 := Lib.hid (show PB Bb B x K0 rs w w5 from HP4.out.later hS5)
            have F5 := Lib.hid (show Fr0 none' w1 w5 from F4.out.trans hS5)
            clear hS5
            obtain ⟨V, hV⟩ : ∃ V, w5 = V := ⟨_, rfl⟩
            rw [hV] at HP5 F5
            (try rw [hV])
            clear hV
            have c0 := HP5.out.ok.cell
            have cf := HP5.out.ok.frozen
            gi_wp2_with fail
            exact ⟨(F5.out.mono (fun _ _ h => h.elim)).setCell (fun _ => .inr (.inr rfl)) _, rfl, run_fail Hi.out H0.out.1 Hm.out HN.out, HP5.out.res.setOther (by simp <;> omega) _, ⟨_, HP5.out.key.setOther (by simp <;> omega) _⟩, HP5.out.ok.set _, HP5.out.fr.setCell (fun h => by have := HBb.out; omega) _⟩
        · have his : is = false := by simpa using his
          subst his
          have HN := Lib.hid (show pieceOf m.data.toList r = none from piece_no His.out)
          refine wpIn_round_held (S := fun W' => Fr0 none' w4 W') (by kernel_rfl) (by kernel_rfl) (by intro a w h; exact h) (Fr.refl none' w4).drew.to0 (fun hHeld => ?_)
          refine take_on (i := 0) (v := .bool false) rfl (by kernel_rfl) (by kernel_rfl) (by kernel_rfl) (fun _ _ _ h => h) (by kernel_rfl) (fun W' hSW => ?_) (by assumption) ?_
          · (try dsimp only at hSW); (try subst hSW)
            first | (go_simp; done) | exact rfl | (go_simp; rfl) | (go_simp; omega)
          try simp only [Act.put, List.setIfInBounds_toArray, List.set_cons_zero, List.set_cons_succ]
          refine take_on (i := 1) (v := .bool true) rfl (by kernel_rfl) (by kernel_rfl) (by kernel_rfl) (fun _ _ _ h => h) (by kernel_rfl) (fun W' hSW => ?_) (by assumption) ?_
          · (try dsimp only at hSW); (try subst hSW)
            first | (go_simp; done) | exact rfl | (go_simp; rfl) | (go_simp; omega)
          try simp only [Act.put, List.setIfInBounds_toArray, List.set_cons_zero, List.set_cons_succ]
          refine take_on (i := 2) (v := .bool true) rfl (by kernel_rfl) (by kernel_rfl) (by kernel_rfl) (fun _ _ _ h => h) (by kernel_rfl) (fun W' hSW => ?_) (by assumption) ?_
          · (try dsimp only at hSW); (try subst hSW)
            first | (go_simp; done) | exact rfl | (go_simp; rfl) | (go_simp; omega)
          try simp only [Act.put, List.setIfInBounds_toArray, List.set_cons_zero, List.set_cons_succ]
          refine take_off (i := 3) rfl (by kernel_rfl) (by kernel_rfl) (by kernel_rfl) (fun _ _ _ h => h) (by kernel_rfl) (by assumption) ?_
          try simp only [Act.put, List.setIfInBounds_toArray, List.set_cons_zero, List.set_cons_succ]
          refine take_off (i := 4) rfl (by kernel_rfl) (by kernel_rfl) (by kernel_rfl) (fun _ _ _ h => h) (by kernel_rfl) (by assumption) ?_
          try simp only [Act.put, List.setIfInBounds_toArray, List.set_cons_zero, List.set_cons_succ]
          refine take_on (i := 5) (v := .bool true) rfl (by kernel_rfl) (by kernel_rfl) (by kernel_rfl) (fun _ _ _ h => h) (by kernel_rfl) (fun W' hSW => ?_) (by assumption) ?_
          · (try dsimp only at hSW); (try subst hSW)
            first | (go_simp; done) | exact rfl | (go_simp; rfl) | (go_simp; omega)
          try simp only [Act.put, List.setIfInBounds_toArray, List.set_cons_zero, List.set_cons_succ]
          refine take_on (i := 6) (v := .bool true) rfl (by kernel_rfl) (by kernel_rfl) (by kernel_rfl) (fun _ _ _ h => h) (by kernel_rfl) (fun W' hSW => ?_) (by assumption) ?_
          · (try dsimp only at hSW); (try subst hSW)
            first | (go_simp; done) | exact rfl | (go_simp; rfl) | (go_simp; omega)
          try simp only [Act.put, List.setIfInBounds_toArray, List.set_cons_zero, List.set_cons_succ]
          refine take_off (i := 7) rfl (by kernel_rfl) (by kernel_rfl) (by kernel_rfl) (fun _ _ _ h => h) (by kernel_rfl) (by assumption) ?_
          try simp only [Act.put, List.setIfInBounds_toArray, List.set_cons_zero, List.set_cons_succ]
          refine take_off (i := 8) rfl (by kernel_rfl) (by kernel_rfl) (by kernel_rfl) (fun _ _ _ h => h) (by kernel_rfl) (by assumption) ?_
          try simp only [Act.put, List.setIfInBounds_toArray, List.set_cons_zero, List.set_cons_succ]
          refine take_off (i := 9) rfl (by kernel_rfl) (by kernel_rfl) (by kernel_rfl) (fun _ _ _ h => h) (by kernel_rfl) (by assumption) ?_
          try simp only [Act.put, List.setIfInBounds_toArray, List.set_cons_zero, List.set_cons_succ]
          refine take_off (i := 10) rfl (by kernel_rfl) (by kernel_rfl) (by kernel_rfl) (fun _ _ _ h => h) (by kernel_rfl) (by assumption) ?_
          try simp only [Act.put, List.setIfInBounds_toArray, List.set_cons_zero, List.set_cons_succ]
          refine take_off (i := 11) rfl (by kernel_rfl) (by kernel_rfl) (by kernel_rfl) (fun _ _ _ h => h) (by kernel_rfl) (by assumption) ?_
          try simp only [Act.put, List.setIfInBounds_toArray, List.set_cons_zero, List.set_cons_succ]
          refine take_off (i := 12) rfl (by kernel_rfl) (by kernel_rfl) (by kernel_rfl) (fun _ _ _ h => h) (by kernel_rfl) (by assumption) ?_
          try simp only [Act.put, List.setIfInBounds_toArray, List.set_cons_zero, List.set_cons_succ]
          refine take_on (i := 13) (v := .bool true) rfl (by kernel_rfl) (by kernel_rfl) (by kernel_rfl) (fun _ _ _ h => h) (by kernel_rfl) (fun W' hSW => ?_) (by assumption) ?_
          · (try dsimp only at hSW); (try subst hSW)
            first | (go_simp; done) | exact rfl | (go_simp; rfl) | (go_simp; omega)
          try simp only [Act.put, List.setIfInBounds_toArray, List.set_cons_zero, List.set_cons_succ]
          refine wpAnyH_done (by kernel_rfl) ?_ _
          have hS5 := hHeld
          clear hHeld
          have HP5 := Lib.hid (show PB Bb B x K0 rs w w4.drew from HP4.out.later hS5)
          have F5 := Lib.hid (show Fr0 none' w1 w4.drew from F4.out.trans hS5)
          clear hS5
          obtain ⟨V, hV⟩ : ∃ V, w4.drew = V := ⟨_, rfl⟩
          rw [hV] at HP5 F5
          (try rw [hV])
          clear hV
          have c0 := HP5.out.ok.cell
          have cf := HP5.out.ok.frozen
          gi_wp2_with fail
          exact ⟨(F5.out.mono (fun _ _ h => h.elim)).setCell (fun _ => .inr (.inr rfl)) _, rfl, run_fail Hi.out H0.out.1 Hm.out HN.out, HP5.out.res.setOther (by simp <;> omega) _, ⟨_, HP5.out.key.setOther (by simp <;> omega) _⟩, HP5.out.ok.set _, HP5.out.fr.setCell (fun h => by have := HBb.out; omega) _⟩
      · refine (callsIn_round (atoi_bad T (by omega) (fun v hv => hat ⟨v, hv⟩) _ (HL.out.later HP2.out.fr))).mono ?_
        rintro e w4 ⟨⟨v, tp, p, rfl⟩, hf4⟩
        have HP4 := Lib.hid (HP2.out.later hf4)
        have HT := Lib.hid hT
        have HTl := Lib.hid hTl
        have F4 := Lib.hid (F2.out.trans hf4)
        have Hat := Lib.hid hat
        clear hf4 hT hTl hTs hat
        gi_wp2_with fail
        by_cases his : is = true
        · subst his
          refine wpIn_round_held (S := fun W' => Fr0 none' w4 W') (by kernel_rfl) (by kernel_rfl) (by intro a w h; exact h) (Fr.refl none' w4).drew.to0 (fun hHeld => ?_)
          refine take_on (i := 0) (v := .bool true) rfl (by kernel_rfl) (by kernel_rfl) (by kernel_rfl) (fun _ _ _ h => h) (by kernel_rfl) (fun W' hSW => ?_) (by assumption) ?_
          · (try dsimp only at hSW); (try subst hSW)
            first | (go_simp; done) | exact rfl | (go_simp; rfl) | (go_simp; omega)
          try simp only [Act.put, List.setIfInBounds_toArray, List.set_cons_zero, List.set_cons_succ]
          refine take_on (i := 1) (v := .bool false) rfl (by kernel_rfl) (by kernel_rfl) (by kernel_rfl) (fun _ _ _ h => h) (by kernel_rfl) (fun W' hSW => ?_) (by assumption) ?_
          · (try dsimp only at hSW); (try subst hSW)
            first | (go_simp; done) | exact rfl | (go_simp; rfl) | (go_simp; omega)
          try simp only [Act.put, List.setIfInBounds_toArray, List.set_cons_zero, List.set_cons_succ]
          refine take_on (i := 2) (v := .bool false) rfl (by kernel_rfl) (by kernel_rfl) (by kernel_rfl) (fun _ _ _ h => h) (by kernel_rfl) (fun W' hSW => ?_) (by assumption) ?_
          · (try dsimp only at hSW); (try subst hSW)
            first | (go_simp; done) | exact rfl | (go_simp; rfl) | (go_simp; omega)
          try simp only [Act.put, List.setIfInBounds_toArray, List.set_cons_zero, List.set_cons_succ]
          refine take_on (i := 3) (v := .iface tp (.pointer (some p))) rfl (by kernel_rfl) (by kernel_rfl) (by kernel_rfl) (fun _ _ _ h => h) (by kernel_rfl) (fun W' hSW => ?_) (by assumption) ?_
          · (try dsimp only at hSW); (try subst hSW)
            first | (go_simp; done) | exact rfl | (go_simp; rfl) | (go_simp; omega)
          try simp only [Act.put, List.setIfInBounds_toArray, List.set_cons_zero, List.set_cons_succ]
          refine take_on (i := 4) (v := .bool true) rfl (by kernel_rfl) (by kernel_rfl) (by kernel_rfl) (fun _ _ _ h => h) (by kernel_rfl) (fun W' hSW => ?_) (by assumption) ?_
          · (try dsimp only at hSW); (try subst hSW)
            first | (go_simp; done) | exact rfl | (go_simp; rfl) | (go_simp; omega)
          try simp only [Act.put, List.setIfInBounds_toArray, List.set_cons_zero, List.set_cons_succ]
          refine take_on (i := 5) (v := .bool true) rfl (by kernel_rfl) (by kernel_rfl) (by kernel_rfl) (fun _ _ _ h => h) (by kernel_rfl) (fun W' hSW => ?_) (by assumption) ?_
          · (try dsimp only at hSW); (try subst hSW)
            first | (go_simp; done) | exact rfl | (go_simp; rfl) | (go_simp; omega)
          try simp only [Act.put, List.setIfInBounds_toArray, List.set_cons_zero, List.set_cons_succ]
          refine take_on (i := 6) (v := .bool true) rfl (by kernel_rfl) (by kernel_rfl) (by kernel_rfl) (fun _ _ _ h => h) (by kernel_rfl) (fun W' hSW => ?_) (by assumption) ?_
          · (try dsimp only at hSW); (try subst hSW)
            first | (go_simp; done) | exact rfl | (go_simp; rfl) | (go_simp; omega)
          try simp only [Act.put, List.setIfInBounds_toArray, List.set_cons_zero, List.set_cons_succ]
          refine take_off (i := 7) rfl (by kernel_rfl) (by kernel_rfl) (by kernel_rfl) (fun _ _ _ h => h) (by kernel_rfl) (by assumption) ?_
          try simp only [Act.put, List.setIfInBounds_toArray, List.set_cons_zero, List.set_cons_succ]
          refine take_off (i := 8) rfl (by kernel_rfl) (by kernel_rfl) (by kernel_rfl) (fun _ _ _ h => h) (by kernel_rfl) (by assumption) ?_
          try simp only [Act.put, List.setIfInBounds_toArray, List.set_cons_zero, List.set_cons_succ]
          refine take_off (i := 9) rfl (by kernel_rfl) (by kernel_rfl) (by kernel_rfl) (fun _ _ _ h => h) (by kernel_rfl) (by assumption) ?_
          try simp only [Act.put, List.setIfInBounds_toArray, List.set_cons_zero, List.set_cons_succ]
          refine take_off (i := 10) rfl (by kernel_rfl) (by kernel_rfl) (by kernel_rfl) (fun _ _ _ h => h) (by kernel_rfl) (by assumption) ?_
          try simp only [Act.put, List.setIfInBounds_toArray, List.set_cons_zero, List.set_cons_succ]
          refine take_off (i := 11) rfl (by kernel_rfl) (by kernel_rfl) (by kernel_rfl) (fun _ _ _ h => h) (by kernel_rfl) (by assumption) ?_
          try simp only [Act.put, List.setIfInBounds_toArray, List.set_cons_zero, List.set_cons_succ]
          refine take_off (i := 12) rfl (by kernel_rfl) (by kernel_rfl) (by kernel_rfl) (fun _ _ _ h => h) (by kernel_rfl) (by assumption) ?_
          try simp only [Act.put, List.setIfInBounds_toArray, List.set_cons_zero, List.set_cons_succ]
          refine take_on (i := 13) (v := .bool true) rfl (by kernel_rfl) (by kernel_rfl) (by kernel_rfl) (fun _ _ _ h => h) (by kernel_rfl) (fun W' hSW => ?_) (by assumption) ?_
          · (try dsimp only at hSW); (try subst hSW)
            first | (go_simp; done) | exact rfl | (go_simp; rfl) | (go_simp; omega)
          try simp only [Act.put, List.setIfInBounds_toArray, List.set_cons_zero, List.set_cons_succ]
          refine wpAnyH_done (by kernel_rfl) ?_ _
          have HN := Lib.hid (show pieceOf m.data.toList r = none from piece_bad HRL.out (fun v hv => Hat.out ⟨v, by rw [HTl.out, ← Hq.out]; exact hv⟩))
          have hS5 := hHeld
          clear hHeld
          have HP5 := Lib.hid (show PB Bb B x K0 rs w w4.drew from HP4.out.later hS5)
          have F5 := Lib.hid (show Fr0 none' w1 w4.drew from F4.out.trans hS5)
          clear hS5
          obtain ⟨V, hV⟩ : ∃ V, w4.drew = V := ⟨_, rfl⟩
          rw [hV] at HP5 F5
          (try rw [hV])
          clear hV
          have c0 := HP5.out.ok.cell
          have cf := HP5.out.ok.frozen
          gi_wp2_with fail
          exact ⟨(F5.out.mono (fun _ _ h => h.elim)).setCell (fun _ => .inr (.inr rfl)) _, rfl, run_fail Hi.out H0.out.1 Hm.out HN.out, HP5.out.res.setOther (by simp <;> omega) _, ⟨_, HP5.out.key.setOther (by simp <;> omega) _⟩, HP5.out.ok.set _, HP5.out.fr.setCell (fun h => by have := HBb.out; omega) _⟩
        · have his : is = false := by simpa using his
          subst his
          have HN := Lib.hid (show pieceOf m.data.toList r = none from piece_no His.out)
          refine wpIn_round_held (S := fun W' => Fr0 none' w4 W') (by kernel_rfl) (by kernel_rfl) (by intro a w h; exact h) (Fr.refl none' w4).drew.to0 (fun hHeld => ?_)
          refine take_on (i := 0) (v := .bool false) rfl (by kernel_rfl) (by kernel_rfl) (by kernel_rfl) (fun _ _ _ h => h) (by kernel_rfl) (fun W' hSW => ?_) (by assumption) ?_
          · (try dsimp only at hSW); (try subst hSW)
            first | (go_simp; done) | exact rfl | (go_simp; rfl) | (go_simp; omega)
          try simp only [Act.put, List.setIfInBounds_toArray, List.set_cons_zero, List.set_cons_succ]
          refine take_on (i := 1) (v := .bool true) rfl (by kernel_rfl) (by kernel_rfl) (by kernel_rfl) (fun _ _ _ h => h) (by kernel_rfl) (fun W' hSW => ?_) (by assumption) ?_
          · (try dsimp only at hSW); (try subst hSW)
            first | (go_simp; done) | exact rfl | (go_simp; rfl) | (go_simp; omega)
          try simp only [Act.put, List.setIfInBounds_toArray, List.set_cons_zero, List.set_cons_succ]
          refine take_on (i := 2) (v := .bool true) rfl (by kernel_rfl) (by kernel_rfl) (by kernel_rfl) (fun _ _ _ h => h) (by kernel_rfl) (fun W' hSW => ?_) (by assumption) ?_
          · (try dsimp only at hSW); (try subst hSW)
            first | (go_simp; done) | exact rfl | (go_simp; rfl) | (go_simp; omega)
          try simp only [Act.put, List.setIfInBounds_toArray, List.set_cons_zero, List.set_cons_succ]
          refine take_off (i := 3) rfl (by kernel_rfl) (by kernel_rfl) (by kernel_rfl) (fun _ _ _ h => h) (by kernel_rfl) (by assumption) ?_
          try simp only [Act.put, List.setIfInBounds_toArray, List.set_cons_zero, List.set_cons_succ]
          refine take_off (i := 4) rfl (by kernel_rfl) (by kernel_rfl) (by kernel_rfl) (fun _ _ _ h => h) (by kernel_rfl) (by assumption) ?_
          try simp only [Act.put, List.setIfInBounds_toArray, List.set_cons_zero, List.set_cons_succ]
          refine take_on (i := 5) (v := .bool true) rfl (by kernel_rfl) (by kernel_rfl) (by kernel_rfl) (fun _ _ _ h => h) (by kernel_rfl) (fun W' hSW => ?_) (by assumption) ?_
          · (try dsimp only at hSW); (try subst hSW)
            first | (go_simp; done) | exact rfl | (go_simp; rfl) | (go_simp; omega)
          try simp only [Act.put, List.setIfInBounds_toArray, List.set_cons_zero, List.set_cons_succ]
          refine take_on (i := 6) (v := .bool true) rfl (by kernel_rfl) (by kernel_rfl) (by kernel_rfl) (fun _ _ _ h => h) (by kernel_rfl) (fun W' hSW => ?_) (by assumption) ?_
          · (try dsimp only at hSW); (try subst hSW)
            first | (go_simp; done) | exact rfl | (go_simp; rfl) | (go_simp; omega)
          try simp only [Act.put, List.setIfInBounds_toArray, List.set_cons_zero, List.set_cons_succ]
          refine take_off (i := 7) rfl (by kernel_rfl) (by kernel_rfl) (by kernel_rfl) (fun _ _ _ h => h) (by kernel_rfl) (by assumption) ?_
          try simp only [Act.put, List.setIfInBounds_toArray, List.set_cons_zero, List.set_cons_succ]
          refine take_off (i := 8) rfl (by kernel_rfl) (by kernel_rfl) (by kernel_rfl) (fun _ _ _ h => h) (by kernel_rfl) (by assumption) ?_
          try simp only [Act.put, List.setIfInBounds_toArray, List.set_cons_zero, List.set_cons_succ]
          refine take_off (i := 9) rfl (by kernel_rfl) (by kernel_rfl) (by kernel_rfl) (fun _ _ _ h => h) (by kernel_rfl) (by assumption) ?_
          try simp only [Act.put, List.setIfInBounds_toArray, List.set_cons_zero, List.set_cons_succ]
          refine take_off (i := 10) rfl (by kernel_rfl) (by kernel_rfl) (by kernel_rfl) (fun _ _ _ h => h) (by kernel_rfl) (by assumption) ?_
          try simp only [Act.put, List.setIfInBounds_toArray, List.set_cons_zero, List.set_cons_succ]
          refine take_off (i := 11) rfl (by kernel_rfl) (by kernel_rfl) (by kernel_rfl) (fun _ _ _ h => h) (by kernel_rfl) (by assumption) ?_
          try simp only [Act.put, List.setIfInBounds_toArray, List.set_cons_zero, List.set_cons_succ]
          refine take_off (i := 12) rfl (by kernel_rfl) (by kernel_rfl) (by kernel_rfl) (fun _ _ _ h => h) (by kernel_rfl) (by assumption) ?_
          try simp only [Act.put, List.setIfInBounds_toArray, List.set_cons_zero, List.set_cons_succ]
          refine take_on (i := 13) (v := .bool true) rfl (by kernel_rfl) (by kernel_rfl) (by kernel_rfl) (fun _ _ _ h => h) (by kernel_rfl) (fun W' hSW => ?_) (by assumption) ?_
          · (try dsimp only at hSW); (try subst hSW)
            first | (go_simp; done) | exact rfl | (go_simp; rfl) | (go_simp; omega)
          try simp only [Act.put, List.setIfInBounds_toArray, List.set_cons_zero, List.set_cons_succ]
          refine wpAnyH_done (by kernel_rfl) ?_ _
          have hS5 := hHeld
          clear hHeld
          have HP5 := Lib.hid (show PB Bb B x K0 rs w w4.drew from HP4.out.later hS5)
          have F5 := Lib.hid (show Fr0 none' w1 w4.drew from F4.out.trans hS5)
          clear hS5
          obtain ⟨V, hV⟩ : ∃ V, w4.drew = V := ⟨_, rfl⟩
          rw [hV] at HP5 F5
          (try rw [hV])
          clear hV
          have c0 := HP5.out.ok.cell
          have cf := HP5.out.ok.frozen
          gi_wp2_with fail
          exact ⟨(F5.out.mono (fun _ _ h => h.elim)).setCell (fun _ => .inr (.inr rfl)) _, rfl, run_fail Hi.out H0.out.1 Hm.out HN.out, HP5.out.res.setOther (by simp <;> omega) _, ⟨_, HP5.out.key.setOther (by simp <;> omega) _⟩, HP5.out.ok.set _, HP5.out.fr.setCell (fun h => by have := HBb.out; omega) _⟩
    · rw [if_neg hql]
      have hqe : (rest.size : Int) = (q : Int) := by omega
      have z0 : (0 : Int) ≤ (q : Int) := by omega
      have z1 : (q : Int) ≤ (rest.size : Int) := by omega
      have z2 : decide ((q : Int) < 0) = false := decide_eq_false (by omega)
      gi_wp2_with fail
      obtain ⟨T, hT⟩ : ∃ T, rest.extract 0 q = T := ⟨_, rfl⟩
      have hTl : T.data.toList = rest.data.toList.take q := by rw [← hT]; exact extract_take rest q
      have hTs : T.size ≤ 1000 := by
        have : T.data.toList.length ≤ q := by rw [hTl, List.length_take]; omega
        rw [Array.length_toList] at this
        exact Nat.le_trans this (by omega)
      rw [hT]
      by_cases hat : ∃ v, Lib.atoiAll T.data.toList = .ok v
      · obtain ⟨v, hv⟩ := hat
        have hvb := Lib.atoiAll_bounds hv
        refine (callsIn_round (atoi_ok T (by omega) v hv _)).mono ?_
        rintro e w4 ⟨rfl, hf4⟩
        have HP4 := Lib.hid (HP2.out.later hf4)
        have L4 := Lib.hid (HL.out.later HP4.out.fr)
        have HT := Lib.hid hT
        have HTl := Lib.hid hTl
        have F4 := Lib.hid (F2.out.trans hf4)
        have Hv := Lib.hid hv
        have Hvb := Lib.hid hvb
        clear hf4 hT hTl hTs hv hvb
        gi_wp2_with fail
        by_cases his : is = true
        · subst his
          refine wpIn_round_held (S := fun W' => Fr0 none' w4 W') (by kernel_rfl) (by kernel_rfl) (by intro a w h; exact h) (Fr.refl none' w4).drew.to0 (fun hHeld => ?_)
          refine take_on (i := 0) (v := .bool true) rfl (by kernel_rfl) (by kernel_rfl) (by kernel_rfl) (fun _ _ _ h => h) (by kernel_rfl) (fun W' hSW => ?_) (by assumption) ?_
          · (try dsimp only at hSW); (try subst hSW)
            first | (go_simp; done) | exact rfl | (go_simp; rfl) | (go_simp; omega)
          try simp only [Act.put, List.setIfInBounds_toArray, List.set_cons_zero, List.set_cons_succ]
          refine take_on (i := 1) (v := .bool false) rfl (by kernel_rfl) (by kernel_rfl) (by kernel_rfl) (fun _ _ _ h => h) (by kernel_rfl) (fun W' hSW => ?_) (by assumption) ?_
          · (try dsimp only at hSW); (try subst hSW)
            first | (go_simp; done) | exact rfl | (go_simp; rfl) | (go_simp; omega)
          try simp only [Act.put, List.setIfInBounds_toArray, List.set_cons_zero, List.set_cons_succ]
          refine take_on (i := 2) (v := .bool false) rfl (by kernel_rfl) (by kernel_rfl) (by kernel_rfl) (fun _ _ _ h => h) (by kernel_rfl) (fun W' hSW => ?_) (by assumption) ?_
          · (try dsimp only at hSW); (try subst hSW)
            first | (go_simp; done) | exact rfl | (go_simp; rfl) | (go_simp; omega)
          try simp only [Act.put, List.setIfInBounds_toArray, List.set_cons_zero, List.set_cons_succ]
          refine take_on (i := 3) (v := .nilIface) rfl (by kernel_rfl) (by kernel_rfl) (by kernel_rfl) (fun _ _ _ h => h) (by kernel_rfl) (fun W' hSW => ?_) (by assumption) ?_
          · (try dsimp only at hSW); (try subst hSW)
            first | (go_simp; done) | exact rfl | (go_simp; rfl) | (go_simp; omega)
          try simp only [Act.put, List.setIfInBounds_toArray, List.set_cons_zero, List.set_cons_succ]
          refine take_on (i := 4) (v := .bool false) rfl (by kernel_rfl) (by kernel_rfl) (by kernel_rfl) (fun _ _ _ h => h) (by kernel_rfl) (fun W' hSW => ?_) (by assumption) ?_
          · (try dsimp only at hSW); (try subst hSW)
            first | (go_simp; done) | exact rfl | (go_simp; rfl) | (go_simp; omega)
          try simp only [Act.put, List.setIfInBounds_toArray, List.set_cons_zero, List.set_cons_succ]
          refine take_on (i := 5) (v := .bool false) rfl (by kernel_rfl) (by kernel_rfl) (by kernel_rfl) (fun _ _ _ h => h) (by kernel_rfl) (fun W' hSW => ?_) (by assumption) ?_
          · (try dsimp only at hSW); (try subst hSW)
            first | (go_simp; done) | exact rfl | (go_simp; rfl) | (go_simp; omega)
          try simp only [Act.put, List.setIfInBounds_toArray, List.set_cons_zero, List.set_cons_succ]
          refine take_on (i := 6) (v := .bool false) rfl (by kernel_rfl) (by kernel_rfl) (by kernel_rfl) (fun _ _ _ h => h) (by kernel_rfl) (fun W' hSW => ?_) (by assumption) ?_
          · (try dsimp only at hSW); (try subst hSW)
            first | (go_simp; done) | exact rfl | (go_simp; rfl) | (go_simp; omega)
          try simp only [Act.put, List.setIfInBounds_toArray, List.set_cons_zero, List.set_cons_succ]
          refine take_on (i := 7) (v := .int .i64 v) rfl (by kernel_rfl) (by kernel_rfl) (by kernel_rfl) (fun _ _ _ h => h) (by kernel_rfl) (fun W' hSW => ?_) (by assumption) ?_
          · (try dsimp only at hSW); (try subst hSW)
            first | (go_simp; done) | exact rfl | (go_simp; rfl) | (go_simp; omega)
          try simp only [Act.put, List.setIfInBounds_toArray, List.set_cons_zero, List.set_cons_succ]
          refine take_on (i := 9) (v := .string rest) rfl (by kernel_rfl) (by kernel_rfl) (by kernel_rfl) (fun _ _ _ h => h) (by kernel_rfl) (fun W' hSW => ?_) (by assumption) ?_
          · (try dsimp only at hSW); (try subst hSW)
            first | (go_simp; done) | exact rfl | (go_simp; rfl) | (go_simp; omega)
          try simp only [Act.put, List.setIfInBounds_toArray, List.set_cons_zero, List.set_cons_succ]
          refine take_on (i := 10) (v := .int .i64 q) rfl (by kernel_rfl) (by kernel_rfl) (by kernel_rfl) (fun _ _ _ h => h) (by kernel_rfl) (fun W' hSW => ?_) (by assumption) ?_
          · (try dsimp only at hSW); (try subst hSW)
            first | (go_simp; done) | exact rfl | (go_simp; rfl) | (go_simp; omega)
          try simp only [Act.put, List.setIfInBounds_toArray, List.set_cons_zero, List.set_cons_succ]
          refine take_on (i := 11) (v := .string T) rfl (by kernel_rfl) (by kernel_rfl) (by kernel_rfl) (fun _ _ _ h => h) (by kernel_rfl) (fun W' hSW => ?_) (by assumption) ?_
          · (try dsimp only at hSW)
            have hT := HT.out
            first | (go_simp; done) | exact rfl | (go_simp; rfl) | (go_simp; omega)
          try simp only [Act.put, List.setIfInBounds_toArray, List.set_cons_zero, List.set_cons_succ]
          refine take_call (i := 8) rfl (by kernel_rfl) (by kernel_rfl) (fun K hK => ?_)
          go_simp
          refine (itoa_all v Hvb.out.1 Hvb.out.2 _ (L4.out.later hHeld)).mono ?_
          rintro e w5 ⟨rfl, hf5⟩
          have hS5 := hHeld.trans hf5
          obtain ⟨I, hI⟩ : ∃ I : ByteArray, ⟨(Lib.itoa v).toArray⟩ = I := ⟨_, rfl⟩
          rw [hI]
          have HI := Lib.hid (show I.data.toList = Lib.itoa v by rw [← hI])
          clear hf5 hI hHeld
          go_wp2_with fail
          refine hK.out _ _ hS5 (fun hHeld => ?_)
          clear hK K
          try simp only [Act.put, List.setIfInBounds_toArray, List.set_cons_zero, List.set_cons_succ]
          by_cases heq : I = T
          · have e1 : (I.toList == T.toList) = true := by rw [heq]; simp
            refine take_on (i := 12) (v := .bool false) rfl (by kernel_rfl) (by kernel_rfl) (by kernel_rfl) (fun _ _ _ h => h) (by kernel_rfl) (fun W' hSW => ?_) (by assumption) ?_
            · (try dsimp only at hSW); (try subst hSW)
              first | (go_simp; done) | exact rfl | (go_simp; rfl) | (go_simp; omega)
            try simp only [Act.put, List.setIfInBounds_toArray, List.set_cons_zero, List.set_cons_succ]
            refine take_on (i := 13) (v := .bool false) rfl (by kernel_rfl) (by kernel_rfl) (by kernel_rfl) (fun _ _ _ h => h) (by kernel_rfl) (fun W' hSW => ?_) (by assumption) ?_
            · (try dsimp only at hSW); (try subst hSW)
              first | (go_simp; done) | exact rfl | (go_simp; rfl) | (go_simp; omega)
            try simp only [Act.put, List.setIfInBounds_toArray, List.set_cons_zero, List.set_cons_succ]
            refine wpAnyH_done (by kernel_rfl) ?_ _
            clear e1 hHeld
            have HP5 := Lib.hid (HP4.out.later hS5)
            have F5 := Lib.hid (F4.out.trans hS5)
            have Heq := Lib.hid heq
            clear hS5 heq
            gi_wp2_with fail
            obtain ⟨WD, hWD⟩ : ∃ W', w5.drew = W' := ⟨_, rfl⟩
            have HPD := Lib.hid (show PB Bb B x K0 rs w WD by rw [← hWD]; exact HP5.out.later (Fr.refl none' w5).drew.to0)
            have FD := Lib.hid (show Fr0 none' w1 WD by rw [← hWD]; exact F5.out.trans (Fr.refl none' w5).drew.to0)
            have hcb := cells_of HPD.out.f 0
            simp [fC] at hcb
            have kc := HPD.out.key.cell Hi.out
            have kf := HPD.out.key.frozen x
            have bc := HPD.out.box.cell
            have bf := HPD.out.box.frozen
            refine wpIn_round_Z (z := 8) (S := fun W' => W'.cell? ⟨B, 0, none⟩ = some (.pointer (some ⟨Bb + 1 + 1, x, none⟩))) (by kernel_rfl) (by kernel_rfl) (by intro a w h; exact h) ?_
            rw [hWD]
            clear hWD
            have hd : rest.data.toList.drop q = (rest.extract q rest.size).data.toList := (extract_drop rest q).symm
            obtain ⟨U, hU⟩ : ∃ U, rest.extract q rest.size = U := ⟨_, rfl⟩
            rw [hU] at hd
            have HU := Lib.hid hd
            clear hd
            refine takeZ_on (i := 0) (v := .pointer (some ⟨B, 0, none⟩)) rfl (by kernel_rfl) (by kernel_rfl) (by kernel_rfl) (by kernel_rfl) (fun _ _ _ h => h) (by kernel_rfl) (fun W' hSW => ?_) (by assumption) ?_
            · (try dsimp only at hSW)
              first | (go_simp; done) | exact rfl | (go_simp; rfl) | (go_simp; omega)
            try simp only [Act.put, List.setIfInBounds_toArray, List.set_cons_zero, List.set_cons_succ]
            refine takeZ_on (i := 1) (v := .pointer (some ⟨Bb + 1 + 1, x, none⟩)) rfl (by kernel_rfl) (by kernel_rfl) (by kernel_rfl) (by kernel_rfl) (fun _ _ _ h => h) (by kernel_rfl) (fun W' hSW => ?_) (by assumption) ?_
            · (try dsimp only at hSW)
              first | (go_simp; done) | exact rfl | (go_simp; rfl) | (go_simp; omega)
            try simp only [Act.put, List.setIfInBounds_toArray, List.set_cons_zero, List.set_cons_succ]
            refine takeZ_on (i := 2) (v := .int .i64 v) rfl (by kernel_rfl) (by kernel_rfl) (by kernel_rfl) (by kernel_rfl) (fun _ _ _ h => h) (by kernel_rfl) (fun W' hSW => ?_) (by assumption) ?_
            · (try dsimp only at hSW)
              first | (go_simp; done) | exact rfl | (go_simp; rfl) | (go_simp; omega)
            try simp only [Act.put, List.setIfInBounds_toArray, List.set_cons_zero, List.set_cons_succ]
            refine takeZ_on (i := 3) (v := .string rest) rfl (by kernel_rfl) (by kernel_rfl) (by kernel_rfl) (by kernel_rfl) (fun _ _ _ h => h) (by kernel_rfl) (fun W' hSW => ?_) (by assumption) ?_
            · (try dsimp only at hSW)
              first | (go_simp; done) | exact rfl | (go_simp; rfl) | (go_simp; omega)
            try simp only [Act.put, List.setIfInBounds_toArray, List.set_cons_zero, List.set_cons_succ]
            refine takeZ_on (i := 4) (v := .int .i64 q) rfl (by kernel_rfl) (by kernel_rfl) (by kernel_rfl) (by kernel_rfl) (fun _ _ _ h => h) (by kernel_rfl) (fun W' hSW => ?_) (by assumption) ?_
            · (try dsimp only at hSW)
              first | (go_simp; done) | exact rfl | (go_simp; rfl) | (go_simp; omega)
            try simp only [Act.put, List.setIfInBounds_toArray, List.set_cons_zero, List.set_cons_succ]
            refine takeZ_on (i := 5) (v := .string U) rfl (by kernel_rfl) (by kernel_rfl) (by kernel_rfl) (by kernel_rfl) (fun _ _ _ h => h) (by kernel_rfl) (fun W' hSW => ?_) (by assumption) ?_
            · (try dsimp only at hSW)
              first | (go_simp; done) | exact rfl | (go_simp; rfl) | (go_simp; omega)
            try simp only [Act.put, List.setIfInBounds_toArray, List.set_cons_zero, List.set_cons_succ]
            refine takeZ_on (i := 6) (v := .pointer (some ⟨Bb + 1 + 1, x, none⟩)) rfl (by kernel_rfl) (by kernel_rfl) (by kernel_rfl) (by kernel_rfl) (fun _ _ _ h => h) (by kernel_rfl) (fun W' hSW => ?_) (by assumption) ?_
            · (try dsimp only at hSW)
              first | (go_simp; done) | exact rfl | (go_simp; rfl) | (go_simp; omega)
            try simp only [Act.put, List.setIfInBounds_toArray, List.set_cons_zero, List.set_cons_succ]
            refine takeZ_call (i := 7) rfl (by kernel_rfl) (by kernel_rfl) (fun K hK => ?_)
            go_simp
            have hcb2 := (World.cell?_setCell_far WD ⟨Bb + 1 + 1, x, none⟩ ⟨B, 0, none⟩ (.int .i64 v) (by simp; omega)).trans hcb
            have bx2 : Box (WD.setCell ⟨Bb + 1 + 1, x, none⟩ (.int .i64 v)) Bb (.string rs) := HPD.out.box.setOther (by simp <;> omega) _
            have bc2 := bx2.cell
            have bf2 := bx2.frozen
            refine hK.out _ _ (.inr hcb2) ?_
            clear hK K
            try simp only [Act.put, List.setIfInBounds_toArray, List.set_cons_zero, List.set_cons_succ]
            clear hcb kc kf bc bf
            refine takeZ_call (i := 8) rfl (by kernel_rfl) (by kernel_rfl) (fun K hK => ?_)
            go_simp
            refine hK.out _ _ (.inl rfl) ?_
            clear hK K
            try simp only [Act.put, List.setIfInBounds_toArray, List.set_cons_zero, List.set_cons_succ]
            refine wpAnyZ_done (by kernel_rfl) ?_ _
            clear hcb2 bc2 bf2 hU
            have HBX := Lib.hid bx2
            clear bx2
            gi_wp2_with fail
            have hpc : pieceOf m.data.toList r = some (v, U.data.toList) := by
              have := piece_ok His.out HRL.out (v := v) (by rw [Hq.out, ← HTl.out]; exact Hv.out) (by rw [Hq.out, ← HTl.out, ← HI.out, Heq.out])
              rw [Hq.out, HU.out] at this
              exact this
            have hn0 := HBb.out
            refine ⟨(setF K0 x v, U.data.toList), ⟨⟨run_go H0.out.1 Hm.out hpc, ?_⟩, ?_, ?_, ?_, ?_, ?_⟩, ?_, fun k h => .inl h⟩
            · exact Nat.le_trans (pieceOf_len hpc) H0.out.2
            · have := HBX.out.set (.string U)
              exact this
            · exact (HPD.out.res.setOther (by simp <;> omega) _).setOther (by simp <;> omega) _
            · exact (HPD.out.key.setF Hi.out v).setOther (by simp <;> omega) _
            · exact (HPD.out.ok.setOther (by simp <;> omega) _).setOther (by simp <;> omega) _
            · exact (HPD.out.fr.setCell (fun h => by omega) _).setCell (fun h => by omega) _
            · exact ((FD.out.mono (fun _ _ h => h.elim)).setCell (fun _ => .inr (.inl rfl)) _).setCell (fun _ => .inl rfl) _
          · have e1 : (I.toList == T.toList) = false := by
              simp only [beq_eq_false_iff_ne, ne_eq, Lib.toList_data]
              exact fun h => heq (ByteArray.ext (Array.toList_inj.1 h))
            refine take_on (i := 12) (v := .bool true) rfl (by kernel_rfl) (by kernel_rfl) (by kernel_rfl) (fun _ _ _ h => h) (by kernel_rfl) (fun W' hSW => ?_) (by assumption) ?_
            · (try dsimp only at hSW); (try subst hSW)
              first | (go_simp; done) | exact rfl | (go_simp; rfl) | (go_simp; omega)
            try simp only [Act.put, List.setIfInBounds_toArray, List.set_cons_zero, List.set_cons_succ]
            refine take_on (i := 13) (v := .bool true) rfl (by kernel_rfl) (by kernel_rfl) (by kernel_rfl) (fun _ _ _ h => h) (by kernel_rfl) (fun W' hSW => ?_) (by assumption) ?_
            · (try dsimp only at hSW); (try subst hSW)
              first | (go_simp; done) | exact rfl | (go_simp; rfl) | (go_simp; omega)
            try simp only [Act.put, List.setIfInBounds_toArray, List.set_cons_zero, List.set_cons_succ]
            refine wpAnyH_done (by kernel_rfl) ?_ _
            have HN := Lib.hid (show pieceOf m.data.toList r = none from piece_odd HRL.out (v := v) (by rw [Hq.out, ← HTl.out]; exact Hv.out) (by
              rw [Hq.out, ← HTl.out, ← HI.out]
              exact fun h => heq (ByteArray.ext (Array.toList_inj.1 h))))
            clear e1 hHeld heq
            have HP5 := Lib.hid (show PB Bb B x K0 rs w w5 from HP4.out.later hS5)
            have F5 := Lib.hid (show Fr0 none' w1 w5 from F4.out.trans hS5)
            clear hS5
            obtain ⟨V, hV⟩ : ∃ V, w5 = V := ⟨_, rfl⟩
            rw [hV] at HP5 F5
            (try rw [hV])
            clear hV
            have c0 := HP5.out.ok.cell
            have cf := HP5.out.ok.frozen
            gi_wp2_with fail
            exact ⟨(F5.out.mono (fun _ _ h => h.elim)).setCell (fun _ => .inr (.inr rfl)) _, rfl, run_fail Hi.out H0.out.1 Hm.out HN.out, HP5.out.res.setOther (by simp <;> omega) _, ⟨_, HP5.out.key.setOther (by simp <;> omega) _⟩, HP5.out.ok.set _, HP5.out.fr.setCell (fun h => by have := HBb.out; omega) _⟩
        · have his : is = false := by simpa using his
          subst his
          have HN := Lib.hid (show pieceOf m.data.toList r = none from piece_no His.out)
          refine wpIn_round_held (S := fun W' => Fr0 none' w4 W') (by kernel_rfl) (by kernel_rfl) (by intro a w h; exact h) (Fr.refl none' w4).drew.to0 (fun hHeld => ?_)
          refine take_on (i := 0) (v := .bool false) rfl (by kernel_rfl) (by kernel_rfl) (by kernel_rfl) (fun _ _ _ h => h) (by kernel_rfl) (fun W' hSW => ?_) (by assumption) ?_
          · (try dsimp only at hSW); (try subst hSW)
            first | (go_simp; done) | exact rfl | (go_simp; rfl) | (go_simp; omega)
          try simp only [Act.put, List.setIfInBounds_toArray, List.set_cons_zero, List.set_cons_succ]
          refine take_on (i := 1) (v := .bool true) rfl (by kernel_rfl) (by kernel_rfl) (by kernel_rfl) (fun _ _ _ h => h) (by kernel_rfl) (fun W' hSW => ?_) (by assumption) ?_
          · (try dsimp only at hSW); (try subst hSW)
            first | (go_simp; done) | exact rfl | (go_simp; rfl) | (go_simp; omega)
          try simp only [Act.put, List.setIfInBounds_toArray, List.set_cons_zero, List.set_cons_succ]
          refine take_on (i := 2) (v := .bool true) rfl (by kernel_rfl) (by kernel_rfl) (by kernel_rfl) (fun _ _ _ h => h) (by kernel_rfl) (fun W' hSW => ?_) (by assumption) ?_
          · (try dsimp only at hSW); (try subst hSW)
            first | (go_simp; done) | exact rfl | (go_simp; rfl) | (go_simp; omega)
          try simp only [Act.put, List.setIfInBounds_toArray, List.set_cons_zero, List.set_cons_succ]
          refine take_off (i := 3) rfl (by kernel_rfl) (by kernel_rfl) (by kernel_rfl) (fun _ _ _ h => h) (by kernel_rfl) (by assumption) ?_
          try simp only [Act.put, List.setIfInBounds_toArray, List.set_cons_zero, List.set_cons_succ]
          refine take_off (i := 4) rfl (by kernel_rfl) (by kernel_rfl) (by kernel_rfl) (fun _ _ _ h => h) (by kernel_rfl) (by assumption) ?_
          try simp only [Act.put, List.setIfInBounds_toArray, List.set_cons_zero, List.set_cons_succ]
          refine take_on (i := 5) (v := .bool true) rfl (by kernel_rfl) (by kernel_rfl) (by kernel_rfl) (fun _ _ _ h => h) (by kernel_rfl) (fun W' hSW => ?_) (by assumption) ?_
          · (try dsimp only at hSW); (try subst hSW)
            first | (go_simp; done) | exact rfl | (go_simp; rfl) | (go_simp; omega)
          try simp only [Act.put, List.setIfInBounds_toArray, List.set_cons_zero, List.set_cons_succ]
          refine take_on (i := 6) (v := .bool true) rfl (by kernel_rfl) (by kernel_rfl) (by kernel_rfl) (fun _ _ _ h => h) (by kernel_rfl) (fun W' hSW => ?_) (by assumption) ?_
          · (try dsimp only at hSW); (try subst hSW)
            first | (go_simp; done) | exact rfl | (go_simp; rfl) | (go_simp; omega)
          try simp only [Act.put, List.setIfInBounds_toArray, List.set_cons_zero, List.set_cons_succ]
          refine take_off (i := 7) rfl (by kernel_rfl) (by kernel_rfl) (by kernel_rfl) (fun _ _ _ h => h) (by kernel_rfl) (by assumption) ?_
          try simp only [Act.put, List.setIfInBounds_toArray, List.set_cons_zero, List.set_cons_succ]
          refine take_off (i := 8) rfl (by kernel_rfl) (by kernel_rfl) (by kernel_rfl) (fun _ _ _ h => h) (by kernel_rfl) (by assumption) ?_
          try simp only [Act.put, List.setIfInBounds_toArray, List.set_cons_zero, List.set_cons_succ]
          refine take_off (i := 9) rfl (by kernel_rfl) (by kernel_rfl) (by kernel_rfl) (fun _ _ _ h => h) (by kernel_rfl) (by assumption) ?_
          try simp only [Act.put, List.setIfInBounds_toArray, List.set_cons_zero, List.set_cons_succ]
          refine take_off (i := 10) rfl (by kernel_rfl) (by kernel_rfl) (by kernel_rfl) (fun _ _ _ h => h) (by kernel_rfl) (by assumption) ?_
          try simp only [Act.put, List.setIfInBounds_toArray, List.set_cons_zero, List.set_cons_succ]
          refine take_off (i := 11) rfl (by kernel_rfl) (by kernel_rfl) (by kernel_rfl) (fun _ _ _ h => h) (by kernel_rfl) (by assumption) ?_
          try simp only [Act.put, List.setIfInBounds_toArray, List.set_cons_zero, List.set_cons_succ]
          refine take_off (i := 12) rfl (by kernel_rfl) (by kernel_rfl) (by kernel_rfl) (fun _ _ _ h => h) (by kernel_rfl) (by assumption) ?_
          try simp only [Act.put, List.setIfInBounds_toArray, List.set_cons_zero, List.set_cons_succ]
          refine take_on (i := 13) (v := .bool true) rfl (by kernel_rfl) (by kernel_rfl) (by kernel_rfl) (fun _ _ _ h => h) (by kernel_rfl) (fun W' hSW => ?_) (by assumption) ?_
          · (try dsimp only at hSW); (try subst hSW)
            first | (go_simp; done) | exact rfl | (go_simp; rfl) | (go_simp; omega)
          try simp only [Act.put, List.setIfInBounds_toArray, List.set_cons_zero, List.set_cons_succ]
          refine wpAnyH_done (by kernel_rfl) ?_ _
          have hS5 := hHeld
          clear hHeld
          have HP5 := Lib.hid (show PB Bb B x K0 rs w w4.drew from HP4.out.later hS5)
          have F5 := Lib.hid (show Fr0 none' w1 w4.drew from F4.out.trans hS5)
          clear hS5
          obtain ⟨V, hV⟩ : ∃ V, w4.drew = V := ⟨_, rfl⟩
          rw [hV] at HP5 F5
          (try rw [hV])
          clear hV
          have c0 := HP5.out.ok.cell
          have cf := HP5.out.ok.frozen
          gi_wp2_with fail
          exact ⟨(F5.out.mono (fun _ _ h => h.elim)).setCell (fun _ => .inr (.inr rfl)) _, rfl, run_fail Hi.out H0.out.1 Hm.out HN.out, HP5.out.res.setOther (by simp <;> omega) _, ⟨_, HP5.out.key.setOther (by simp <;> omega) _⟩, HP5.out.ok.set _, HP5.out.fr.setCell (fun h => by have := HBb.out; omega) _⟩
      · refine (callsIn_round (atoi_bad T (by omega) (fun v hv => hat ⟨v, hv⟩) _ (HL.out.later HP2.out.fr))).mono ?_
        rintro e w4 ⟨⟨v, tp, p, rfl⟩, hf4⟩
        have HP4 := Lib.hid (HP2.out.later hf4)
        have HT := Lib.hid hT
        have HTl := Lib.hid hTl
        have F4 := Lib.hid (F2.out.trans hf4)
        have Hat := Lib.hid hat
        clear hf4 hT hTl hTs hat
        gi_wp2_with fail
        by_cases his : is = true
        · subst his
          refine wpIn_round_held (S := fun W' => Fr0 none' w4 W') (by kernel_rfl) (by kernel_rfl) (by intro a w h; exact h) (Fr.refl none' w4).drew.to0 (fun hHeld => ?_)
          refine take_on (i := 0) (v := .bool true) rfl (by kernel_rfl) (by kernel_rfl) (by kernel_rfl) (fun _ _ _ h => h) (by kernel_rfl) (fun W' hSW => ?_) (by assumption) ?_
          · (try dsimp only at hSW); (try subst hSW)
            first | (go_simp; done) | exact rfl | (go_simp; rfl) | (go_simp; omega)
          try simp only [Act.put, List.setIfInBounds_toArray, List.set_cons_zero, List.set_cons_succ]
          refine take_on (i := 1) (v := .bool false) rfl (by kernel_rfl) (by kernel_rfl) (by kernel_rfl) (fun _ _ _ h => h) (by kernel_rfl) (fun W' hSW => ?_) (by assumption) ?_
          · (try dsimp only at hSW); (try subst hSW)
            first | (go_simp; done) | exact rfl | (go_simp; rfl) | (go_simp; omega)
          try simp only [Act.put, List.setIfInBounds_toArray, List.set_cons_zero, List.set_cons_succ]
          refine take_on (i := 2) (v := .bool false) rfl (by kernel_rfl) (by kernel_rfl) (by kernel_rfl) (fun _ _ _ h => h) (by kernel_rfl) (fun W' hSW => ?_) (by assumption) ?_
          · (try dsimp only at hSW); (try subst hSW)
            first | (go_simp; done) | exact rfl | (go_simp; rfl) | (go_simp; omega)
          try simp only [Act.put, List.setIfInBounds_toArray, List.set_cons_zero, List.set_cons_succ]
          refine take_on (i := 3) (v := .iface tp (.pointer (some p))) rfl (by kernel_rfl) (by kernel_rfl) (by kernel_rfl) (fun _ _ _ h => h) (by kernel_rfl) (fun W' hSW => ?_) (by assumption) ?_
          · (try dsimp only at hSW); (try subst hSW)
            first | (go_simp; done) | exact rfl | (go_simp; rfl) | (go_simp; omega)
          try simp only [Act.put, List.setIfInBounds_toArray, List.set_cons_zero, List.set_cons_succ]
          refine take_on (i := 4) (v := .bool true) rfl (by kernel_rfl) (by kernel_rfl) (by kernel_rfl) (fun _ _ _ h => h) (by kernel_rfl) (fun W' hSW => ?_) (by assumption) ?_
          · (try dsimp only at hSW); (try subst hSW)
            first | (go_simp; done) | exact rfl | (go_simp; rfl) | (go_simp; omega)
          try simp only [Act.put, List.setIfInBounds_toArray, List.set_cons_zero, List.set_cons_succ]
          refine take_on (i := 5) (v := .bool true) rfl (by kernel_rfl) (by kernel_rfl) (by kernel_rfl) (fun _ _ _ h => h) (by kernel_rfl) (fun W' hSW => ?_) (by assumption) ?_
          · (try dsimp only at hSW); (try subst hSW)
            first | (go_simp; done) | exact rfl | (go_simp; rfl) | (go_simp; omega)
          try simp only [Act.put, List.setIfInBounds_toArray, List.set_cons_zero, List.set_cons_succ]
          refine take_on (i := 6) (v := .bool true) rfl (by kernel_rfl) (by kernel_rfl) (by kernel_rfl) (fun _ _ _ h => h) (by kernel_rfl) (fun W' hSW => ?_) (by assumption) ?_
          · (try dsimp only at hSW); (try subst hSW)
            first | (go_simp; done) | exact rfl | (go_simp; rfl) | (go_simp; omega)
          try simp only [Act.put, List.setIfInBounds_toArray, List.set_cons_zero, List.set_cons_succ]
          refine take_off (i := 7) rfl (by kernel_rfl) (by kernel_rfl) (by kernel_rfl) (fun _ _ _ h => h) (by kernel_rfl) (by assumption) ?_
          try simp only [Act.put, List.setIfInBounds_toArray, List.set_cons_zero, List.set_cons_succ]
          refine take_off (i := 8) rfl (by kernel_rfl) (by kernel_rfl) (by kernel_rfl) (fun _ _ _ h => h) (by kernel_rfl) (by assumption) ?_
          try simp only [Act.put, List.setIfInBounds_toArray, List.set_cons_zero, List.set_cons_succ]
          refine take_off (i := 9) rfl (by kernel_rfl) (by kernel_rfl) (by kernel_rfl) (fun _ _ _ h => h) (by kernel_rfl) (by assumption) ?_
          try simp only [Act.put, List.setIfInBounds_toArray, List.set_cons_zero, List.set_cons_succ]
          refine take_off (i := 10) rfl (by kernel_rfl) (by kernel_rfl) (by kernel_rfl) (fun _ _ _ h => h) (by kernel_rfl) (by assumption) ?_
          try simp only [Act.put, List.setIfInBounds_toArray, List.set_cons_zero, List.set_cons_succ]
          refine take_off (i := 11) rfl (by kernel_rfl) (by kernel_rfl) (by kernel_rfl) (fun _ _ _ h => h) (by kernel_rfl) (by assumption) ?_
          try simp only [Act.put, List.setIfInBounds_toArray, List.set_cons_zero, List.set_cons_succ]
          refine take_off (i := 12) rfl (by kernel_rfl) (by kernel_rfl) (by kernel_rfl) (fun _ _ _ h => h) (by kernel_rfl) (by assumption) ?_
          try simp only [Act.put, List.setIfInBounds_toArray, List.set_cons_zero, List.set_cons_succ]
          refine take_on (i := 13) (v := .bool true) rfl (by kernel_rfl) (by kernel_rfl) (by kernel_rfl) (fun _ _ _ h => h) (by kernel_rfl) (fun W' hSW => ?_) (by assumption) ?_
          · (try dsimp only at hSW); (try subst hSW)
            first | (go_simp; done) | exact rfl | (go_simp; rfl) | (go_simp; omega)
          try simp only [Act.put, List.setIfInBounds_toArray, List.set_cons_zero, List.set_cons_succ]
          refine wpAnyH_done (by kernel_rfl) ?_ _
          have HN := Lib.hid (show pieceOf m.data.toList r = none from piece_bad HRL.out (fun v hv => Hat.out ⟨v, by rw [HTl.out, ← Hq.out]; exact hv⟩))
          have hS5 := hHeld
          clear hHeld
          have HP5 := Lib.hid (show PB Bb B x K0 rs w w4.drew from HP4.out.later hS5)
          have F5 := Lib.hid (show Fr0 none' w1 w4.drew from F4.out.trans hS5)
          clear hS5
          obtain ⟨V, hV⟩ : ∃ V, w4.drew = V := ⟨_, rfl⟩
          rw [hV] at HP5 F5
          (try rw [hV])
          clear hV
          have c0 := HP5.out.ok.cell
          have cf := HP5.out.ok.frozen
          gi_wp2_with fail
          exact ⟨(F5.out.mono (fun _ _ h => h.elim)).setCell (fun _ => .inr (.inr rfl)) _, rfl, run_fail Hi.out H0.out.1 Hm.out HN.out, HP5.out.res.setOther (by simp <;> omega) _, ⟨_, HP5.out.key.setOther (by simp <;> omega) _⟩, HP5.out.ok.set _, HP5.out.fr.setCell (fun h => by have := HBb.out; omega) _⟩
        · have his : is = false := by simpa using his
          subst his
          have HN := Lib.hid (show pieceOf m.data.toList r = none from piece_no His.out)
          refine wpIn_round_held (S := fun W' => Fr0 none' w4 W') (by kernel_rfl) (by kernel_rfl) (by intro a w h; exact h) (Fr.refl none' w4).drew.to0 (fun hHeld => ?_)
          refine take_on (i := 0) (v := .bool false) rfl (by kernel_rfl) (by kernel_rfl) (by kernel_rfl) (fun _ _ _ h => h) (by kernel_rfl) (fun W' hSW => ?_) (by assumption) ?_
          · (try dsimp only at hSW); (try subst hSW)
            first | (go_simp; done) | exact rfl | (go_simp; rfl) | (go_simp; omega)
          try simp only [Act.put, List.setIfInBounds_toArray, List.set_cons_zero, List.set_cons_succ]
          refine take_on (i := 1) (v := .bool true) rfl (by kernel_rfl) (by kernel_rfl) (by kernel_rfl) (fun _ _ _ h => h) (by kernel_rfl) (fun W' hSW => ?_) (by assumption) ?_
          · (try dsimp only at hSW); (try subst hSW)
            first | (go_simp; done) | exact rfl | (go_simp; rfl) | (go_simp; omega)
          try simp only [Act.put, List.setIfInBounds_toArray, List.set_cons_zero, List.set_cons_succ]
          refine take_on (i := 2) (v := .bool true) rfl (by kernel_rfl) (by kernel_rfl) (by kernel_rfl) (fun _ _ _ h => h) (by kernel_rfl) (fun W' hSW => ?_) (by assumption) ?_
          · (try dsimp only at hSW); (try subst hSW)
            first | (go_simp; done) | exact rfl | (go_simp; rfl) | (go_simp; omega)
          try simp only [Act.put, List.setIfInBounds_toArray, List.set_cons_zero, List.set_cons_succ]
          refine take_off (i := 3) rfl (by kernel_rfl) (by kernel_rfl) (by kernel_rfl) (fun _ _ _ h => h) (by kernel_rfl) (by assumption) ?_
          try simp only [Act.put, List.setIfInBounds_toArray, List.set_cons_zero, List.set_cons_succ]
          refine take_off (i := 4) rfl (by kernel_rfl) (by kernel_rfl) (by kernel_rfl) (fun _ _ _ h => h) (by kernel_rfl) (by assumption) ?_
          try simp only [Act.put, List.setIfInBounds_toArray, List.set_cons_zero, List.set_cons_succ]
          refine take_on (i := 5) (v := .bool true) rfl (by kernel_rfl) (by kernel_rfl) (by kernel_rfl) (fun _ _ _ h => h) (by kernel_rfl) (fun W' hSW => ?_) (by assumption) ?_
          · (try dsimp only at hSW); (try subst hSW)
            first | (go_simp; done) | exact rfl | (go_simp; rfl) | (go_simp; omega)
          try simp only [Act.put, List.setIfInBounds_toArray, List.set_cons_zero, List.set_cons_succ]
          refine take_on (i := 6) (v := .bool true) rfl (by kernel_rfl) (by kernel_rfl) (by kernel_rfl) (fun _ _ _ h => h) (by kernel_rfl) (fun W' hSW => ?_) (by assumption) ?_
          · (try dsimp only at hSW); (try subst hSW)
            first | (go_simp; done) | exact rfl | (go_simp; rfl) | (go_simp; omega)
          try simp only [Act.put, List.setIfInBounds_toArray, List.set_cons_zero, List.set_cons_succ]
          refine take_off (i := 7) rfl (by kernel_rfl) (by kernel_rfl) (by kernel_rfl) (fun _ _ _ h => h) (by kernel_rfl) (by assumption) ?_
          try simp only [Act.put, List.setIfInBounds_toArray, List.set_cons_zero, List.set_cons_succ]
          refine take_off (i := 8) rfl (by kernel_rfl) (by kernel_rfl) (by kernel_rfl) (fun _ _ _ h => h) (by kernel_rfl) (by assumption) ?_
          try simp only [Act.put, List.setIfInBounds_toArray, List.set_cons_zero, List.set_cons_succ]
          refine take_off (i := 9) rfl (by kernel_rfl) (by kernel_rfl) (by kernel_rfl) (fun _ _ _ h => h) (by kernel_rfl) (by assumption) ?_
          try simp only [Act.put, List.setIfInBounds_toArray, List.set_cons_zero, List.set_cons_succ]
          refine take_off (i := 10) rfl (by kernel_rfl) (by kernel_rfl) (by kernel_rfl) (fun _ _ _ h => h) (by kernel_rfl) (by assumption) ?_
          try simp only [Act.put, List.setIfInBounds_toArray, List.set_cons_zero, List.set_cons_succ]
          refine take_off (i := 11) rfl (by kernel_rfl) (by kernel_rfl) (by kernel_rfl) (fun _ _ _ h => h) (by kernel_rfl) (by assumption) ?_
          try simp only [Act.put, List.setIfInBounds_toArray, List.set_cons_zero, List.set_cons_succ]
          refine take_off (i := 12) rfl (by kernel_rfl) (by kernel_rfl) (by kernel_rfl) (fun _ _ _ h => h) (by kernel_rfl) (by assumption) ?_
          try simp only [Act.put, List.setIfInBounds_toArray, List.set_cons_zero, List.set_cons_succ]
          refine take_on (i := 13) (v := .bool true) rfl (by kernel_rfl) (by kernel_rfl) (by kernel_rfl) (fun _ _ _ h => h) (by kernel_rfl) (fun W' hSW => ?_) (by assumption) ?_
          · (try dsimp only at hSW); (try subst hSW)
            first | (go_simp; done) | exact rfl | (go_simp; rfl) | (go_simp; omega)
          try simp only [Act.put, List.setIfInBounds_toArray, List.set_cons_zero, List.set_cons_succ]
          refine wpAnyH_done (by kernel_rfl) ?_ _
          have hS5 := hHeld
          clear hHeld
          have HP5 := Lib.hid (show PB Bb B x K0 rs w w4.drew from HP4.out.later hS5)
          have F5 := Lib.hid (show Fr0 none' w1 w4.drew from F4.out.trans hS5)
          clear hS5
          obtain ⟨V, hV⟩ : ∃ V, w4.drew = V := ⟨_, rfl⟩
          rw [hV] at HP5 F5
          (try rw [hV])
          clear hV
          have c0 := HP5.out.ok.cell
          have cf := HP5.out.ok.frozen
          gi_wp2_with fail
          exact ⟨(F5.out.mono (fun _ _ h => h.elim)).setCell (fun _ => .inr (.inr rfl)) _, rfl, run_fail Hi.out H0.out.1 Hm.out HN.out, HP5.out.res.setOther (by simp <;> omega) _, ⟨_, HP5.out.key.setOther (by simp <;> omega) _⟩, HP5.out.ok.set _, HP5.out.fr.setCell (fun h => by have := HBb.out; omega) _⟩
  case done =>
    rintro D ⟨K3, r⟩ W hDe ⟨h0, h1, h2, h3, h4, h5⟩ hne hK
    rw [Hsz3.out] at hDe
    subst hDe
    have H0 := Lib.hid (show runP s.data.toList 3 = some (K3, r) from h0.out.1)
    have H1 := Lib.hid h1
    have H2 := Lib.hid h2
    have H3 := Lib.hid h3
    have H5 := Lib.hid h5
    have HM := Lib.hid hK
    obtain ⟨rs, hrs⟩ : ∃ t : ByteArray, ⟨r.toArray⟩ = t := ⟨_, rfl⟩
    have c0 := h1.cell
    rw [show (⟨(K3, r).2.toArray⟩ : ByteArray) = rs from hrs] at c0
    have co := h4.cell
    have HRS := Lib.hid (show rs.data.toList = r by rw [← hrs])
    obtain ⟨k0, k1, k2⟩ := K3
    have e0 := h3.cell (i := 0) (by omega)
    have e1 := h3.cell (i := 1) (by omega)
    have e2 := h3.cell (i := 2) (by omega)
    simp [nth3] at e0 e1 e2
    clear h0 h1 h2 h3 h4 h5 hne hK hrs
    by_cases hr : r = []
    · have hrs0 : rs = ⟨#[]⟩ := by
        apply ByteArray.ext
        apply Array.toList_inj.1
        rw [HRS.out, hr]
      rw [hrs0] at c0
      gi_wp2_with fail
      refine (callsIn_wide.2 (Right_any ⟨k0, k1, k2⟩ _)).mono ?_
      rintro e V ⟨rfl, hf5⟩
      have Z2 := Lib.hid (H2.out.fr0 hf5 id)
      have Z3 := Lib.hid (H3.out.fr0 hf5 id)
      have ZF := Lib.hid (H5.out.trans hf5)
      have ZM := Lib.hid ((hf5.block _ (Array.getElem?_eq_some_iff.1 HM.out).1 id).trans HM.out)
      clear hf5 c0 co e0 e1 e2 hrs0
      by_cases hR : RightK ⟨k0, k1, k2⟩
      · have hd : decide (RightK ⟨k0, k1, k2⟩) = true := decide_eq_true hR
        rw [hd]
        obtain rfl : .tuple #[.agg #[.int .i64 k0, .int .i64 k1, .int .i64 k2], .int .i64 0] = R := by
          rw [← HRV.out]
          have e : parseK s.data.toList = some ⟨k0, k1, k2⟩ := by rw [parseK_run, H0.out]; simp only; rw [if_pos ⟨hr, hR⟩]
          unfold parseV
          rw [e]; rfl
        have e0 := Z3.out.cell (i := 0) (by omega)
        have e1 := Z3.out.cell (i := 1) (by omega)
        have e2 := Z3.out.cell (i := 2) (by omega)
        simp [nth3] at e0 e1 e2
        clear hd hR hr
        have y0 := Z2.out.cell (i := 0) (by omega)
        have y1 := Z2.out.cell (i := 1) (by omega)
        have y2 := Z2.out.cell (i := 2) (by omega)
        have q0 := Z2.out.frozen 0
        have q1 := Z2.out.frozen 1
        have q2 := Z2.out.frozen 2
        simp [nth3, zeroK] at y0 y1 y2
        gi_wp2
        try rw [Exit.noGoto_ret]
        have z1 : KeyAt (((V.setCell ⟨Bb + 1, 0, none⟩ (.int .i64 k0)).setCell ⟨Bb + 1, 1, none⟩ (.int .i64 k1)).setCell ⟨Bb + 1, 2, none⟩ (.int .i64 k2)) (Bb + 1) ⟨k0, k1, k2⟩ := ((Z2.out.set0 k0).set1 k1).set2 k2
        have z3 : Fr0 none' w (((V.setCell ⟨Bb + 1, 0, none⟩ (.int .i64 k0)).setCell ⟨Bb + 1, 1, none⟩ (.int .i64 k1)).setCell ⟨Bb + 1, 2, none⟩ (.int .i64 k2)) := by
          have e := HBb.out
          exact ((ZF.out.setCell (fun h => by omega) _).setCell (fun h => by omega) _).setCell (fun h => by omega) _
        have z4 : (((V.setCell ⟨Bb + 1, 0, none⟩ (.int .i64 k0)).setCell ⟨Bb + 1, 1, none⟩ (.int .i64 k1)).setCell ⟨Bb + 1, 2, none⟩ (.int .i64 k2)).heap[Bb + 5]? = some (.deferred (some [])) := by
          rw [Below.heap_setCell _ _ _ _ (by simp), Below.heap_setCell _ _ _ _ (by simp), Below.heap_setCell _ _ _ _ (by simp)]
          exact ZM.out
        generalize (((V.setCell ⟨Bb + 1, 0, none⟩ (.int .i64 k0)).setCell ⟨Bb + 1, 1, none⟩ (.int .i64 k1)).setCell ⟨Bb + 1, 2, none⟩ (.int .i64 k2)) = V9 at z1 z3 z4 ⊢
        have kz : KeyAt (V9.putObj (Bb + 5) (.deferred none)) (Bb + 1) ⟨k0, k1, k2⟩ := (World.putObj_heap_other (by omega)).trans z1
        have d0 := kz.cell (i := 0) (by omega)
        have d1 := kz.cell (i := 1) (by omega)
        have d2 := kz.cell (i := 2) (by omega)
        simp [nth3, zeroK] at d0 d1 d2
        refine ⟨by simp, .inl ⟨_, _, rfl, run_takeDeferred z4, ?_⟩⟩
        refine ⟨.tuple #[.agg #[.int .i64 k0, .int .i64 k1, .int .i64 k2], .int .i64 0], by simp [results, Tryz.results17, go_sem, d0, d1, d2], rfl, ?_⟩
        have e := HBb.out
        exact z3.putObj (fun h => by omega) _
      · have hd : decide (RightK ⟨k0, k1, k2⟩) = false := decide_eq_false hR
        rw [hd]
        obtain rfl : .tuple #[.agg #[.int .i64 0, .int .i64 0, .int .i64 0], .int .i64 72] = R := by
          rw [← HRV.out]
          have e : parseK s.data.toList = none := by rw [parseK_run, H0.out]; simp only; rw [if_neg (fun h => hR h.2)]
          unfold parseV
          rw [e]; rfl
        clear hd hR hr
        have y0 := Z2.out.cell (i := 0) (by omega)
        have y1 := Z2.out.cell (i := 1) (by omega)
        have y2 := Z2.out.cell (i := 2) (by omega)
        have q0 := Z2.out.frozen 0
        have q1 := Z2.out.frozen 1
        have q2 := Z2.out.frozen 2
        simp [nth3, zeroK] at y0 y1 y2
        gi_wp2
        try rw [Exit.noGoto_ret]
        have z1 : KeyAt (((V.setCell ⟨Bb + 1, 0, none⟩ (.int .i64 0)).setCell ⟨Bb + 1, 1, none⟩ (.int .i64 0)).setCell ⟨Bb + 1, 2, none⟩ (.int .i64 0)) (Bb + 1) zeroK := ((Z2.out.set0 0).set1 0).set2 0
        have z3 : Fr0 none' w (((V.setCell ⟨Bb + 1, 0, none⟩ (.int .i64 0)).setCell ⟨Bb + 1, 1, none⟩ (.int .i64 0)).setCell ⟨Bb + 1, 2, none⟩ (.int .i64 0)) := by
          have e := HBb.out
          exact ((ZF.out.setCell (fun h => by omega) _).setCell (fun h => by omega) _).setCell (fun h => by omega) _
        have z4 : (((V.setCell ⟨Bb + 1, 0, none⟩ (.int .i64 0)).setCell ⟨Bb + 1, 1, none⟩ (.int .i64 0)).setCell ⟨Bb + 1, 2, none⟩ (.int .i64 0)).heap[Bb + 5]? = some (.deferred (some [])) := by
          rw [Below.heap_setCell _ _ _ _ (by simp), Below.heap_setCell _ _ _ _ (by simp), Below.heap_setCell _ _ _ _ (by simp)]
          exact ZM.out
        generalize (((V.setCell ⟨Bb + 1, 0, none⟩ (.int .i64 0)).setCell ⟨Bb + 1, 1, none⟩ (.int .i64 0)).setCell ⟨Bb + 1, 2, none⟩ (.int .i64 0)) = V9 at z1 z3 z4 ⊢
        have kz : KeyAt (V9.putObj (Bb + 5) (.deferred none)) (Bb + 1) zeroK := (World.putObj_heap_other (by omega)).trans z1
        have d0 := kz.cell (i := 0) (by omega)
        have d1 := kz.cell (i := 1) (by omega)
        have d2 := kz.cell (i := 2) (by omega)
        simp [nth3, zeroK] at d0 d1 d2
        refine ⟨by simp, .inl ⟨_, _, rfl, run_takeDeferred z4, ?_⟩⟩
        refine ⟨.tuple #[.agg #[.int .i64 0, .int .i64 0, .int .i64 0], .int .i64 72], by simp [results, Tryz.results17, go_sem, d0, d1, d2], rfl, ?_⟩
        have e := HBb.out
        exact z3.putObj (fun h => by omega) _
    · have hne : ¬ rs.toList = [] := by
        rw [Lib.toList_data, HRS.out]
        exact hr
      obtain rfl : .tuple #[.agg #[.int .i64 0, .int .i64 0, .int .i64 0], .int .i64 72] = R := by
        rw [← HRV.out]
        have e : parseK s.data.toList = none := by rw [parseK_run, H0.out]; simp only; rw [if_neg (fun h => hr h.1)]
        unfold parseV
        rw [e]; rfl
      obtain ⟨V, hV⟩ : ∃ V, W = V := ⟨_, rfl⟩
      subst hV
      have Z2 := H2
      have ZF := H5
      have ZM := HM
      clear hr
      obtain ⟨V, hV⟩ : ∃ V : World, V = W := ⟨_, rfl⟩
      rw [← hV] at Z2 ZF ZM c0 co e0 e1 e2 ⊢
      clear hV
      have y0 := Z2.out.cell (i := 0) (by omega)
      have y1 := Z2.out.cell (i := 1) (by omega)
      have y2 := Z2.out.cell (i := 2) (by omega)
      have q0 := Z2.out.frozen 0
      have q1 := Z2.out.frozen 1
      have q2 := Z2.out.frozen 2
      simp [nth3, zeroK] at y0 y1 y2
      gi_wp2
      try rw [Exit.noGoto_ret]
      have z1 : KeyAt (((V.setCell ⟨Bb + 1, 0, none⟩ (.int .i64 0)).setCell ⟨Bb + 1, 1, none⟩ (.int .i64 0)).setCell ⟨Bb + 1, 2, none⟩ (.int .i64 0)) (Bb + 1) zeroK := ((Z2.out.set0 0).set1 0).set2 0
      have z3 : Fr0 none' w (((V.setCell ⟨Bb + 1, 0, none⟩ (.int .i64 0)).setCell ⟨Bb + 1, 1, none⟩ (.int .i64 0)).setCell ⟨Bb + 1, 2, none⟩ (.int .i64 0)) := by
        have e := HBb.out
        exact ((ZF.out.setCell (fun h => by omega) _).setCell (fun h => by omega) _).setCell (fun h => by omega) _
      have z4 : (((V.setCell ⟨Bb + 1, 0, none⟩ (.int .i64 0)).setCell ⟨Bb + 1, 1, none⟩ (.int .i64 0)).setCell ⟨Bb + 1, 2, none⟩ (.int .i64 0)).heap[Bb + 5]? = some (.deferred (some [])) := by
        rw [Below.heap_setCell _ _ _ _ (by simp), Below.heap_setCell _ _ _ _ (by simp), Below.heap_setCell _ _ _ _ (by simp)]
        exact ZM.out
      generalize (((V.setCell ⟨Bb + 1, 0, none⟩ (.int .i64 0)).setCell ⟨Bb + 1, 1, none⟩ (.int .i64 0)).setCell ⟨Bb + 1, 2, none⟩ (.int .i64 0)) = V9 at z1 z3 z4 ⊢
      have kz : KeyAt (V9.putObj (Bb + 5) (.deferred none)) (Bb + 1) zeroK := (World.putObj_heap_other (by omega)).trans z1
      have d0 := kz.cell (i := 0) (by omega)
      have d1 := kz.cell (i := 1) (by omega)
      have d2 := kz.cell (i := 2) (by omega)
      simp [nth3, zeroK] at d0 d1 d2
      refine ⟨by simp, .inl ⟨_, _, rfl, run_takeDeferred z4, ?_⟩⟩
      refine ⟨.tuple #[.agg #[.int .i64 0, .int .i64 0, .int .i64 0], .int .i64 72], by simp [results, Tryz.results17, go_sem, d0, d1, d2], rfl, ?_⟩
      have e := HBb.out
      exact z3.putObj (fun h => by omega) _
  case stop =>
    rintro D c V hDe ⟨rfl, h0, h2, ⟨K3, h3⟩, h4, h5⟩ hK
    rw [Hsz3.out] at hDe
    subst hDe
    have Z2 := Lib.hid h2
    have ZF := Lib.hid h5
    have ZM := Lib.hid hK
    have co := h4.cell
    obtain rfl : .tuple #[.agg #[.int .i64 0, .int .i64 0, .int .i64 0], .int .i64 72] = R := by
      rw [← HRV.out]
      have e : parseK s.data.toList = none := by rw [parseK_run, h0.out]
      unfold parseV
      rw [e]; rfl
    clear h0 h2 h3 h4 h5 hK
    have y0 := Z2.out.cell (i := 0) (by omega)
    have y1 := Z2.out.cell (i := 1) (by omega)
    have y2 := Z2.out.cell (i := 2) (by omega)
    have q0 := Z2.out.frozen 0
    have q1 := Z2.out.frozen 1
    have q2 := Z2.out.frozen 2
    simp [nth3, zeroK] at y0 y1 y2
    gi_wp2
    try rw [Exit.noGoto_ret]
    have z1 : KeyAt (((V.setCell ⟨Bb + 1, 0, none⟩ (.int .i64 0)).setCell ⟨Bb + 1, 1, none⟩ (.int .i64 0)).setCell ⟨Bb + 1, 2, none⟩ (.int .i64 0)) (Bb + 1) zeroK := ((Z2.out.set0 0).set1 0).set2 0
    have z3 : Fr0 none' w (((V.setCell ⟨Bb + 1, 0, none⟩ (.int .i64 0)).setCell ⟨Bb + 1, 1, none⟩ (.int .i64 0)).setCell ⟨Bb + 1, 2, none⟩ (.int .i64 0)) := by
      have e := HBb.out
      exact ((ZF.out.setCell (fun h => by omega) _).setCell (fun h => by omega) _).setCell (fun h => by omega) _
    have z4 : (((V.setCell ⟨Bb + 1, 0, none⟩ (.int .i64 0)).setCell ⟨Bb + 1, 1, none⟩ (.int .i64 0)).setCell ⟨Bb + 1, 2, none⟩ (.int .i64 0)).heap[Bb + 5]? = some (.deferred (some [])) := by
      rw [Below.heap_setCell _ _ _ _ (by simp), Below.heap_setCell _ _ _ _ (by simp), Below.heap_setCell _ _ _ _ (by simp)]
      exact ZM.out
    generalize (((V.setCell ⟨Bb + 1, 0, none⟩ (.int .i64 0)).setCell ⟨Bb + 1, 1, none⟩ (.int .i64 0)).setCell ⟨Bb + 1, 2, none⟩ (.int .i64 0)) = V9 at z1 z3 z4 ⊢
    have kz : KeyAt (V9.putObj (Bb + 5) (.deferred none)) (Bb + 1) zeroK := (World.putObj_heap_other (by omega)).trans z1
    have d0 := kz.cell (i := 0) (by omega)
    have d1 := kz.cell (i := 1) (by omega)
    have d2 := kz.cell (i := 2) (by omega)
    simp [nth3, zeroK] at d0 d1 d2
    refine ⟨by simp, .inl ⟨_, _, rfl, run_takeDeferred z4, ?_⟩⟩
    refine ⟨.tuple #[.agg #[.int .i64 0, .int .i64 0, .int .i64 0], .int .i64 72], by simp [results, Tryz.results17, go_sem, d0, d1, d2], rfl, ?_⟩
    have e := HBb.out
    exact z3.putObj (fun h => by omega) _
theorem Parse_any (s : ByteArray) (hs : s.size ≤ 1000) (w : World) (hL : Laid7 w) :
    Calls Tryz.prog 17 #[.string s] w fun e w' => e = .returned (parseV s.data.toList) ∧ Fr0 none' w w' := callsIn_wide.1 (Parse_in s hs w hL)
end Go.Proofs.YtpklgpdlkdlbbaaGreatDoor

/-
  key.Bytes.
-/
namespace Go.Proofs.YtpklgpdlkdlbbaaGreatDoor
open Go Go.RowKit
attribute [local go_sem ↓] Go.wp_at_zero Go.wp_at_succ
attribute [local go_sem] Oper.semAt_some wide_fn wide_depth wide_fnR wide_depthR

/-- What stands in the row after some fields. -/
def preB (k : Key3) (i : Nat) : List UInt8 := if i = 0 then [] else if i = 1 then beB 7 k.time.toNat else if i = 2 then beB 7 k.time.toNat ++ beB 1 k.source.toNat else bytesK k
def fN (i : Nat) : Nat := if i = 0 then 7 else if i = 1 then 1 else 4
theorem preB_succ (k : Key3) {i : Nat} (hi : i < 3) : preB k (i + 1) = preB k i ++ beB (fN i) (nth3 k i).toNat := by
  have : i = 0 ∨ i = 1 ∨ i = 2 := by omega
  rcases this with rfl | rfl | rfl
  · simp [preB, fN, nth3]
  · simp [preB, fN, nth3]
  · simp [preB, fN, nth3, bytesK]
theorem fSize_N {i : Nat} (hi : i < 3) : fSize i = (fN i : Int) := by
  have : i = 0 ∨ i = 1 ∨ i = 2 := by omega
  rcases this with rfl | rfl | rfl <;> rfl
theorem preB_len (k : Key3) {i : Nat} (hi : i < 3) : (preB k i).length ≤ 8 := by
  have : i = 0 ∨ i = 1 ∨ i = 2 := by omega
  rcases this with rfl | rfl | rfl <;> simp [preB, beB_length]
theorem beB_take : ∀ (n x d : Nat), d < n → (beB n x).take (d + 1) = (beB n x).take d ++ [UInt8.ofNat (x / 256 ^ (n - 1 - d) % 256)]
  | 0, _, _, h => absurd h (Nat.not_lt_zero _)
  | n + 1, x, 0, _ => by simp [beB]
  | n + 1, x, d + 1, h => by
    have := beB_take n x d (by omega)
    rw [beB, List.take_succ_cons, this, List.take_succ_cons, List.cons_append]
    congr 4
    congr 2
    congr 1
    omega
theorem shr_nat (p m : Nat) : (p : Int) / 2 ^ (8 * m) = ((p / 256 ^ m : Nat) : Int) := by
  have h : (2 : Int) ^ (8 * m) = ((256 ^ m : Nat) : Int) := by
    rw [show (256 : Nat) = 2 ^ 8 from rfl, ← Nat.pow_mul]
    push_cast
    rfl
  rw [h, Int.natCast_ediv]
structure BInv (k : Key3) (Bw N0 : Nat) (w : World) (i : Nat) (v : Value) (W : World) : Prop where
  box : Box W N0 v
  row : W.ownsRow (N0 + 1) 5 1 v (preB k i).length (Lib.byteCells (preB k i))
  fr : Fr0 none' w W
  key : KeyAt W Bw k

set_option maxRecDepth 100000 in
set_option maxHeartbeats 2000000 in
theorem Bytes_in (k : Key3) (hk : RightK k) (w : World) :
    CallsIn Fence.wide 0 Tryz.prog 7 #[keyV k] w fun e w' => ∃ v, e = .returned (.tuple #[v, .int .i64 0]) ∧ w'.ownsRow w.heap.size 5 1 v 12 (Lib.byteCells (bytesK k)) ∧ Fr0 none' w w' := by
  obtain ⟨i0, hi0, hz0, hz1, hz2⟩ := info_parts info_byte
  have hd : decide (RightK k) = true := decide_eq_true hk
  have HR := fun W => Right_any k W
  rw [hd] at HR
  have HRR := Lib.hid HR
  have Hk := Lib.hid hk
  clear hd HR hk
  refine callsIn_of_wp_marks Tryz.func7 rfl trivial ?_ rfl
  simp only [keyV] at HRR
  simp only [keyV, Tryz.ntmps7, List.size_toArray, List.length_cons, List.length_nil, Nat.reduceAdd, Nat.reduceSub, Array.replicate_succ, Array.replicate_zero, List.push_toArray, List.append_toArray, List.nil_append, List.cons_append]
  gi_wp2_with fail
  obtain ⟨W0, hW0⟩ : ∃ W0, w.alloc (.cells #[.int .i64 k.time, .int .i64 k.source, .int .i64 k.seq] 28) = W0 := ⟨_, rfl⟩
  obtain ⟨Bw, hBw⟩ : ∃ Bw, w.heap.size = Bw := ⟨_, rfl⟩
  have ka : KeyAt W0 Bw k := by rw [← hW0, ← hBw]; exact World.alloc_heap_new w _
  have F0 := Lib.hid (show Fr0 none' w W0 by rw [← hW0]; exact (Fr0.refl _ _).alloc _)
  have Ka := Lib.hid ka
  rw [hW0, hBw]
  have HBw := Lib.hid hBw
  clear hW0 hBw ka
  refine (callsIn_wide.2 (HRR.out _)).mono ?_
  rintro e w1 ⟨rfl, hf1⟩
  obtain ⟨N0, hN0⟩ : ∃ N, w1.heap.size = N := ⟨_, rfl⟩
  have hBN : Bw < N0 := by rw [← hN0]; exact (Ka.out.fr0 hf1 id).lt
  have HF1 := Lib.hid (F0.out.trans hf1)
  have K1 := Lib.hid (Ka.out.fr0 hf1 id)
  clear hf1 F0 Ka
  gi_wp2_with fail
  obtain ⟨W2, hW2⟩ : ∃ W2, w1.alloc (.cells #[.slice none 0 0] 30) = W2 := ⟨_, rfl⟩
  have Bx := Lib.hid (show Box W2 N0 (.slice none 0 0) by rw [← hW2, ← hN0]; exact Box.new _ _ _)
  have Hsz2 := Lib.hid (show W2.heap.size = N0 + 1 by rw [← hW2, World.size_alloc, hN0])
  have F2 := Lib.hid (show Fr0 none' w1 W2 by rw [← hW2]; exact (Fr0.refl _ _).alloc _)
  rw [hW2]
  have HN0 := Lib.hid hN0
  clear hW2 hN0
  refine (callsIn_wide.2 (fields_any _ _)).mono ?_
  rintro e w3 ⟨rfl, rfl⟩
  gi_wp2_with fail
  obtain ⟨W3, hW3⟩ : ∃ W3, W2.alloc (.cells #[.pointer (some ⟨Bw, 0, none⟩)] 71) = W3 := ⟨_, rfl⟩
  have it := (fields_iter Bw W2.heap.size _ (Box.new W2 _ _ : Box (W2.alloc (.cells #[.pointer (some ⟨Bw, 0, none⟩)] 71)) _ _)).to0
  have F3 := Lib.hid (show Fr0 none' W2 W3 by rw [← hW3]; exact (Fr0.refl _ _).alloc _)
  have Hsz3 := Lib.hid (show W3.heap.size = N0 + 2 by rw [← hW3, World.size_alloc, Hsz2.out])
  rw [hW3, Hsz2.out] at it
  rw [hW3, Hsz2.out]
  clear hW3
  refine wpIn_iterS0 (σ := Value) (gf := 68) (lb := #[.pointer (some ⟨N0 + 1, 0, none⟩)]) rfl (by intro args w; rfl) it (Keep.refl _ _) (fun _ => rfl) (fun k hk => hk.elim) (fun k hk => by subst hk; rw [Hsz3.out]; omega)
    (BInv k Bw N0 w) (fun v b => b = N0 ∨ v.ownBlock = some b) (fun _ _ => False) ?hInv ?hlt (fun _ _ _ h _ => h.elim) (.slice none 0 0) ?h0 ?hf0
    (fun x W a' => ∃ B, a' = { tmps := #[.agg #[.int .i64 k.time, .int .i64 k.source, .int .i64 k.seq], .pointer (some ⟨Bw, 0, none⟩), .slice none 0 0, .int .i64 0, .pointer (some ⟨N0, 0, none⟩), .pointer (some ⟨B, 0, none⟩), undef, .agg #[.int .i64 k.time, .int .i64 k.source, .int .i64 k.seq], .bool true, .bool false, .func (.func 68) #[] #[.pointer (some ⟨N0 + 1, 0, none⟩)], fV Bw x, undef, undef, undef, undef, undef, undef, undef, undef, undef, undef, undef, undef, undef, undef, undef, undef, undef, undef, undef], defers := [] } ∧ N0 + 3 < B ∧ W.heap[B]? = some (.cells (fC Bw x).toArray 74 (0, 0)))
    ?assign ?keep ?body ?done (fun _ _ _ _ h _ => h.elim)
  case hInv =>
    rintro i v W4 W5 ⟨h1, h2, h3, h4⟩ hf
    have e1 := HBw.out
    rw [Hsz3.out] at hf
    refine ⟨h1.fr0 hf (fun h => h.2 (.inl rfl)), ownsRow_q_fr h2 hf (fun g hg h => h.2 (.inr hg)), h3.trans' hf (fun k hk h => ?_), h4.fr0 hf (fun h => ?_)⟩
    · rcases h.1 with h | h
      · exact h
      · omega
    · rcases h.1 with h | h
      · exact h
      · omega
  case hlt =>
    rintro i v W4 b ⟨h1, h2, h3, h4⟩ (rfl | h)
    · exact h1.lt
    · exact (h2.lt b h).2
  case h0 =>
    exact ⟨Bx.out.fr0 F3.out id, World.ownsRow_nil _ _ _ _, (HF1.out.trans F2.out).trans F3.out, (K1.out.fr0 F2.out id).fr0 F3.out id⟩
  case hf0 =>
    rintro b (rfl | h)
    · exact ⟨id, fun h => by omega⟩
    · cases h
  case keep =>
    rintro x W4 W5 a' ⟨B, rfl, hB, hc⟩ hf
    refine ⟨B, rfl, hB, (hf.block B (Array.getElem?_eq_some_iff.1 hc).1 (by rw [Hsz3.out]; omega)).trans hc⟩
  case assign =>
    intro l x W K hlt hK
    rw [Hsz3.out] at hlt
    simp only [fV]
    gi_wp2
    exact hK _ _ ⟨W.heap.size, by simp [fV], by omega, World.alloc_heap_new W _⟩ ((Fr0.refl _ _).alloc _)
  case body =>
    rintro l i x v W a' hxi ⟨h1, h2, h3, h4⟩ hfoot hsz ⟨B, rfl, hB, hcB⟩
    have hi : i < 3 ∧ x = i := by
      have : i < 3 := (List.getElem?_eq_some_iff.1 hxi).1
      have h3 : i = 0 ∨ i = 1 ∨ i = 2 := by omega
      rcases h3 with rfl | rfl | rfl <;> simp at hxi <;> omega
    obtain ⟨hi, rfl⟩ := hi
    have hcs := cells_of hcB 2
    simp [fC] at hcs
    rw [fSize_N hi] at hcs
    have hBl := (Array.getElem?_eq_some_iff.1 hcB).1
    have HcB := Lib.hid hcB
    obtain ⟨p, hp⟩ : ∃ p, nth3 k x = p := ⟨_, rfl⟩
    obtain ⟨n, hn⟩ : ∃ n, fN x = n := ⟨_, rfl⟩
    obtain ⟨P0, hP0⟩ : ∃ P, preB k x = P := ⟨_, rfl⟩
    rw [hn] at hcs
    have Hpos := Lib.hid (show 0 ≤ p ∧ p ≤ 281474976710656 by
      have := (okF_all k).1 Hk.out x hi
      unfold okF at this
      rw [hp] at this
      have h2 : fMost x ≤ 281474976710656 := by
        unfold fMost; split <;> (try split) <;> omega
      omega)
    have Hn7 := Lib.hid (show n ≤ 7 ∧ 0 < n by rw [← hn]; unfold fN; split <;> (try split) <;> omega)
    have HP8 := Lib.hid (show P0.length ≤ 8 by rw [← hP0]; exact preB_len k hi)
    have Hsucc := Lib.hid (show preB k (x + 1) = P0 ++ beB n p.toNat by rw [preB_succ k hi, hP0, hn, hp])
    rw [hP0] at h2
    have Hp := Lib.hid hp
    have Hi := Lib.hid hi
    have H1 := Lib.hid h1
    have H2 := Lib.hid h2
    have H3 := Lib.hid h3
    have H4 := Lib.hid h4
    have Hfoot := Lib.hid hfoot
    have Hsz := Lib.hid hsz
    have z1 : IntKind.i64.wrap ((n : Int) - 1) = (n : Int) - 1 := IntWalk.i64_in _ (by have := Hn7.out; omega)
    clear hxi hp hn hP0 hi h1 h2 h3 h4 hfoot hcB hsz
    gi_wp2
    have hBv : v.ownBlock ≠ some B := fun h => by
      rcases H2.out.2 with ⟨rfl, _⟩ | ⟨g, cap, cur, rfl, _, hh, _⟩
      · cases h
      · injection h with h
        subst h
        have := HcB.out
        rw [hh] at this
        injection this with this
        injection this with h1 h2
        exact absurd h2 (by decide)
    have HBv := Lib.hid hBv
    clear hBv
    refine wpIn_loop (fun a' w' => ∃ (u6 u15 u16 u17 u18 u19 u20 u21 u22 u23 u24 u25 u26 u27 u28 u29 : Value), (∃ (d : Nat) (s : Value), d ≤ n ∧ u6 = .int .i64 ((n : Int) - 1 - d) ∧ Hid (Box w' N0 s) ∧ Hid (w'.ownsRow (N0 + 1) 5 1 s (P0.length + d) (Lib.byteCells (P0 ++ (beB n p.toNat).take d))) ∧ Hid (Fr0 (fun b => b = N0 ∨ v.ownBlock = some b) W w') ∧ Hid (∀ b, s.ownBlock = some b → v.ownBlock = some b ∨ W.heap.size ≤ b)) ∧ a' = { tmps := #[.agg #[.int .i64 k.time, .int .i64 k.source, .int .i64 k.seq], .pointer (some ⟨Bw, 0, none⟩), .slice none 0 0, .int .i64 0, .pointer (some ⟨N0, 0, none⟩), .pointer (some ⟨B, 0, none⟩), u6, .agg #[.int .i64 k.time, .int .i64 k.source, .int .i64 k.seq], .bool true, .bool false, .func (.func 68) #[] #[.pointer (some ⟨N0 + 1, 0, none⟩)], fV Bw x, .pointer (some ⟨B, 2, none⟩), .int .i64 n, .int .i64 ((n : Int) - 1), u15, u16, u17, u18, u19, u20, u21, u22, u23, u24, u25, u26, u27, u28, u29, undef], defers := [] }) (fun a' _ => ((Go.RowKit.intOf (a'.tmps.getD 6 undef)) + 1).toNat) ?start ?round
    case start =>
      repeat (apply Exists.intro)
      refine ⟨⟨0, v, Nat.zero_le _, by simp, H1, by simpa using H2, Fr0.refl _ _, fun b hb => .inl hb⟩, rfl⟩
    case round =>
      rintro a' wr ⟨u6, u15, u16, u17, u18, u19, u20, u21, u22, u23, u24, u25, u26, u27, u28, u29, ⟨d, s, hd, rfl, hb, hr, hf, ho⟩, rfl⟩
      obtain ⟨j, hj⟩ : ∃ j : Int, (n : Int) - 1 - d = j := ⟨_, rfl⟩
      rw [hj]
      have Hj := Lib.hid hj
      clear hj
      by_cases hj0 : 0 ≤ j
      · have d0 : decide (0 ≤ j) = true := decide_eq_true hj0
        have hjn : j ≤ 6 ∧ d < n := by have := Hj.out; have := Hn7.out; omega
        have c0 := hb.out.cell
        have cf := hb.out.frozen
        have cB := (hf.out.block B hBl (by have := HBv.out; rintro (h | h)
                                           · omega
                                           · exact this h)).trans HcB.out
        have c1 := cells_of cB 0
        simp [fC] at c1
        have hBw0 : ¬ (Bw = N0 ∨ v.ownBlock = some Bw) := by
          rintro (h | h)
          · omega
          · have := (H2.out.lt Bw h).1; omega
        have cK := (hf.out.cell (p := ⟨Bw, x, none⟩) H4.out.lt hBw0).trans (H4.out.cell Hi.out)
        rw [Hp.out] at cK
        obtain ⟨y, hy⟩ : ∃ y : Int, 8 * j = y := ⟨_, rfl⟩
        obtain ⟨q, hq⟩ : ∃ q : Int, p / 2 ^ y.toNat = q := ⟨_, rfl⟩
        obtain ⟨b, hbv⟩ : ∃ b : Int, IntKind.u8.wrap q = b := ⟨_, rfl⟩
        have e1 : IntKind.i64.wrap (8 * j) = y := by rw [hy]; exact IntWalk.i64_in _ (by omega)
        have y0 : 0 ≤ y := by omega
        have y1 : y ≤ 64 := by omega
        have z2 : IntKind.i64.wrap (j - 1) = j - 1 := IntWalk.i64_in _ (by omega)
        have Hby := Lib.hid (show [Value.int .u8 b] = Lib.byteCells [UInt8.ofNat (p.toNat / 256 ^ (n - 1 - d) % 256)] by
          have h1 := Hpos.out
          have h2 := Hj.out
          have hp : p = ((p.toNat : Nat) : Int) := by omega
          have hyn : y.toNat = 8 * (n - 1 - d) := by omega
          have hq2 : q = ((p.toNat / 256 ^ (n - 1 - d) : Nat) : Int) := by
            rw [← hq, hyn, ← shr_nat, ← hp]
          rw [← hbv, hq2, IntKind.wrap_u8]
          simp [Lib.byteCells])
        have Hjn := Lib.hid hjn
        have Hy := Lib.hid hy
        clear hjn hy cB
        gi_wp2
        obtain ⟨WD, hWD⟩ : ∃ W, wr.drew = W := ⟨_, rfl⟩
        have hSW0 : WD.cell? ⟨N0, 0, none⟩ = some s ∧ WD.cell? ⟨B, 0, none⟩ = some (.pointer (some ⟨Bw, x, none⟩)) ∧ WD.cell? ⟨Bw, x, none⟩ = some (.int .i64 p) := by rw [← hWD]; exact ⟨c0, c1, cK⟩
        have hbD : Hid (Box WD N0 s) := by unfold Hid; rw [← hWD]; exact hb.out.of_block rfl
        have hrD := Lib.hid (ownsRow_q_fr (w' := WD) (S := none') hr.out (by rw [← hWD]; exact (Fr0.refl none' wr).drew) (fun _ _ h => h))
        have hfD := Lib.hid (show Fr0 (fun b => b = N0 ∨ v.ownBlock = some b) W WD by rw [← hWD]; exact hf.out.drew)
        have SKEY := Lib.hid (show ∀ W', Fr0 none' WD W' → W'.cell? ⟨N0, 0, none⟩ = some s ∧ W'.cell? ⟨B, 0, none⟩ = some (.pointer (some ⟨Bw, x, none⟩)) ∧ W'.cell? ⟨Bw, x, none⟩ = some (.int .i64 p) from fun W' h => ⟨h.later hSW0.1, h.later hSW0.2.1, h.later hSW0.2.2⟩)
        refine wpIn_round_Z (z := 11) (S := fun W' => W'.cell? ⟨N0, 0, none⟩ = some s ∧ W'.cell? ⟨B, 0, none⟩ = some (.pointer (some ⟨Bw, x, none⟩)) ∧ W'.cell? ⟨Bw, x, none⟩ = some (.int .i64 p)) (by kernel_rfl) (by kernel_rfl) (by intro a w h; exact h) ?_
        rw [hWD]
        clear hWD hb hr hf c0 cf c1 cK
        refine takeZ_on (i := 0) (v := s) rfl (by kernel_rfl) (by kernel_rfl) (by kernel_rfl) (by kernel_rfl) (fun _ _ _ h => h) (by kernel_rfl) (fun W' hSW => ?_) (by assumption) ?_
        · (try dsimp only at hSW)
          first | (go_simp; done) | exact rfl | (go_simp; rfl) | (go_simp; omega)
        try simp only [Act.put, List.setIfInBounds_toArray, List.set_cons_zero, List.set_cons_succ]
        refine takeZ_on (i := 1) (v := .pointer (some ⟨B, 0, none⟩)) rfl (by kernel_rfl) (by kernel_rfl) (by kernel_rfl) (by kernel_rfl) (fun _ _ _ h => h) (by kernel_rfl) (fun W' hSW => ?_) (by assumption) ?_
        · (try dsimp only at hSW)
          first | (go_simp; done) | exact rfl | (go_simp; rfl) | (go_simp; omega)
        try simp only [Act.put, List.setIfInBounds_toArray, List.set_cons_zero, List.set_cons_succ]
        refine takeZ_on (i := 2) (v := .pointer (some ⟨Bw, x, none⟩)) rfl (by kernel_rfl) (by kernel_rfl) (by kernel_rfl) (by kernel_rfl) (fun _ _ _ h => h) (by kernel_rfl) (fun W' hSW => ?_) (by assumption) ?_
        · (try dsimp only at hSW)
          first | (go_simp; done) | exact rfl | (go_simp; rfl) | (go_simp; omega)
        try simp only [Act.put, List.setIfInBounds_toArray, List.set_cons_zero, List.set_cons_succ]
        refine takeZ_on (i := 3) (v := .pointer (some ⟨Bw, x, none⟩)) rfl (by kernel_rfl) (by kernel_rfl) (by kernel_rfl) (by kernel_rfl) (fun _ _ _ h => h) (by kernel_rfl) (fun W' hSW => ?_) (by assumption) ?_
        · (try dsimp only at hSW)
          first | (go_simp; done) | exact rfl | (go_simp; rfl) | (go_simp; omega)
        try simp only [Act.put, List.setIfInBounds_toArray, List.set_cons_zero, List.set_cons_succ]
        refine takeZ_on (i := 4) (v := .int .i64 p) rfl (by kernel_rfl) (by kernel_rfl) (by kernel_rfl) (by kernel_rfl) (fun _ _ _ h => h) (by kernel_rfl) (fun W' hSW => ?_) (by assumption) ?_
        · (try dsimp only at hSW)
          first | (go_simp; done) | exact rfl | (go_simp; rfl) | (go_simp; omega)
        try simp only [Act.put, List.setIfInBounds_toArray, List.set_cons_zero, List.set_cons_succ]
        refine takeZ_on (i := 5) (v := .int .i64 j) rfl (by kernel_rfl) (by kernel_rfl) (by kernel_rfl) (by kernel_rfl) (fun _ _ _ h => h) (by kernel_rfl) (fun W' hSW => ?_) (by assumption) ?_
        · (try dsimp only at hSW)
          first | (go_simp; done) | exact rfl | (go_simp; rfl) | (go_simp; omega)
        try simp only [Act.put, List.setIfInBounds_toArray, List.set_cons_zero, List.set_cons_succ]
        refine takeZ_on (i := 6) (v := .int .i64 y) rfl (by kernel_rfl) (by kernel_rfl) (by kernel_rfl) (by kernel_rfl) (fun _ _ _ h => h) (by kernel_rfl) (fun W' hSW => ?_) (by assumption) ?_
        · (try dsimp only at hSW)
          first | (go_simp; done) | exact rfl | (go_simp; rfl) | (go_simp; omega)
        try simp only [Act.put, List.setIfInBounds_toArray, List.set_cons_zero, List.set_cons_succ]
        refine takeZ_on (i := 7) (v := .int .i64 q) rfl (by kernel_rfl) (by kernel_rfl) (by kernel_rfl) (by kernel_rfl) (fun _ _ _ h => h) (by kernel_rfl) (fun W' hSW => ?_) (by assumption) ?_
        · (try dsimp only at hSW)
          first | (go_simp; done) | exact rfl | (go_simp; rfl) | (go_simp; omega)
        try simp only [Act.put, List.setIfInBounds_toArray, List.set_cons_zero, List.set_cons_succ]
        refine takeZ_on (i := 8) (v := .int .u8 b) rfl (by kernel_rfl) (by kernel_rfl) (by kernel_rfl) (by kernel_rfl) (fun _ _ _ h => h) (by kernel_rfl) (fun W' hSW => ?_) (by assumption) ?_
        · (try dsimp only at hSW)
          first | (go_simp; done) | exact rfl | (go_simp; rfl) | (go_simp; omega)
        try simp only [Act.put, List.setIfInBounds_toArray, List.set_cons_zero, List.set_cons_succ]
        refine takeZ_call (i := 9) rfl (by kernel_rfl) (by kernel_rfl) (fun K hK => ?_)
        go_simp
        obtain ⟨V, hV⟩ : ∃ W, WD.alloc (.cells #[.int .u8 b] 5) = W := ⟨_, rfl⟩
        obtain ⟨G, hG⟩ : ∃ X, WD.heap.size = X := ⟨_, rfl⟩
        have hsrc := Src.newRow (P := Tryz.prog) (size := 1) (tx := 30) (ty := 5) WD Tryz.underlying30 1 1 [.int .u8 b] rfl (by simp [Value.oneCell'])
        have fV := Lib.hid (show Fr0 none' WD V by rw [← hV]; exact (Fr0.refl _ _).alloc _)
        rw [show ([Value.int .u8 b] : List Value).toArray = #[.int .u8 b] from rfl, hV, hG] at hsrc
        rw [hV, hG]
        have Hsrc := Lib.hid hsrc
        have HG := Lib.hid (show WD.heap.size = G from hG)
        have HVs := Lib.hid (show V.heap.size = G + 1 by rw [← hV, World.size_alloc, hG])
        clear hV hG hsrc
        refine hK.out _ _ (.inr (SKEY.out _ fV.out)) ?_
        clear hK K
        try simp only [Act.put, List.setIfInBounds_toArray, List.set_cons_zero, List.set_cons_succ]
        refine takeZ_call (i := 10) rfl (by kernel_rfl) (by kernel_rfl) (fun K hK => ?_)
        refine wp_app_q _ _ 30 30 rfl (N0 + 1) 5 i0 (.int .u8 0) 1 1 Tryz.underlying30 hi0 hz0 hz1 hz2 rfl (by decide) s (P0.length + d) _ rfl (ownsRow_q_fr hrD.out fV.out (fun _ _ h => h)) (.slice (some ⟨G, 0, none⟩) 1 1) 1 [.int .u8 b] rfl Hsrc.out (by have := HP8.out; have := Hn7.out; unfold maxLen; omega) (by have := HP8.out; have := Hn7.out; omega) (by have := HVs.out; have := hbD.out.lt; have := HG.out; omega) ?_
        intro s2 V2 hown hgr hdr hob
        obtain ⟨g2, cap2, rfl⟩ := ownsRow_k_succ hown
        have hso : ∀ g, s.ownBlock = some g → N0 + 1 ≤ g ∧ g ≠ B ∧ g < V.heap.size := fun g hg => by
          refine ⟨(hrD.out.lt g hg).1, fun h => ?_, by have := (hrD.out.lt g hg).2; have := HVs.out; have := HG.out; omega⟩
          rcases ho.out g hg with h1 | h1
          · exact HBv.out (h ▸ h1)
          · omega
        have fA := Lib.hid (show Fr0 (fun b => s.ownBlock = some b) V V2 from (Fr0.refl (fun b => s.ownBlock = some b) V).grown hgr (fun k hk _ => hk))
        have hS2 : V2.cell? ⟨N0, 0, none⟩ = some s ∧ V2.cell? ⟨B, 0, none⟩ = some (.pointer (some ⟨Bw, x, none⟩)) ∧ V2.cell? ⟨Bw, x, none⟩ = some (.int .i64 p) := by
          obtain ⟨t1, t2, t3⟩ := SKEY.out V fV.out
          refine ⟨(fA.out.cell (p := ⟨N0, 0, none⟩) (World.block_lt_of_cell? _ _ t1) (fun h => ?_)).trans t1, (fA.out.cell (p := ⟨B, 0, none⟩) (World.block_lt_of_cell? _ _ t2) (fun h => ?_)).trans t2, (fA.out.cell (p := ⟨Bw, x, none⟩) (World.block_lt_of_cell? _ _ t3) (fun h => ?_)).trans t3⟩
          · have := hso _ h; simp at this; omega
          · have := hso _ h; simp at this
          · have := hso _ h; simp at this; omega
        have bx2 : Box V2 N0 s := (hbD.out.fr0 fV.out id).fr0 fA.out (fun h => by have := hso _ h; omega)
        have Hown := Lib.hid hown
        have Bx2 := Lib.hid bx2
        have Hso := Lib.hid hso
        have Hob := Lib.hid hob
        have c0 := bx2.cell
        have cf := bx2.frozen
        clear hown hgr hdr hob hso bx2
        refine hK.out _ _ (.inr hS2) ?_
        clear hK K
        try simp only [Act.put, List.setIfInBounds_toArray, List.set_cons_zero, List.set_cons_succ]
        refine takeZ_call (i := 11) rfl (by kernel_rfl) (by kernel_rfl) (fun K hK => ?_)
        go_simp
        refine hK.out _ _ (.inl rfl) ?_
        clear hK K
        try simp only [Act.put, List.setIfInBounds_toArray, List.set_cons_zero, List.set_cons_succ]
        refine wpAnyZ_done (by kernel_rfl) ?_ _
        clear hS2 c0 cf hSW0
        gi_wp2
        refine ⟨?_, by simp [Go.RowKit.intOf]; omega⟩
        refine ⟨d + 1, .slice (some ⟨g2, 0, none⟩) (P0.length + d + 1) cap2, Hjn.out.2, by simp; have := Hj.out; omega, Bx2.out.set _, ?_, ?_, ?_⟩
        · unfold Hid
          have h1 := ownsRow_setCell_below Hown.out (a := ⟨N0, 0, none⟩) (by simp) (.slice (some ⟨g2, 0, none⟩) (P0.length + d + 1) cap2)
          rw [beB_take _ _ _ Hjn.out.2, ← List.append_assoc, show Lib.byteCells ((P0 ++ (beB n p.toNat).take d) ++ [UInt8.ofNat (p.toNat / 256 ^ (n - 1 - d) % 256)]) = Lib.byteCells (P0 ++ (beB n p.toNat).take d) ++ Lib.byteCells [UInt8.ofNat (p.toNat / 256 ^ (n - 1 - d) % 256)] from by simp [Lib.byteCells], ← Hby.out]
          exact h1
        · unfold Hid
          have h1 := (hfD.out.trans' fV.out (fun _ _ h => h.elim)).trans' fA.out (fun k hk h => by
            rcases ho.out k h with h1 | h1
            · exact .inr h1
            · omega)
          exact h1.setCell (fun _ => .inl rfl) _
        · unfold Hid; intro b hb
          rcases Hob.out with h | h
          · rw [h] at hb; exact ho.out b hb
          · rw [h] at hb; injection hb with hb
            have := HVs.out; have := HG.out; have := hfD.out.size; right; omega
      · have d0 : decide (0 ≤ j) = false := decide_eq_false hj0
        have hdn : d = n := by have := Hj.out; omega
        subst hdn
        gi_wp2
        refine ⟨s, ⟨hb.out, ?_, ?_, ?_⟩, hf.out, ?_⟩
        · have h1 := hr.out
          rw [List.take_of_length_le (by rw [beB_length]; exact Nat.le_refl _), ← Hsucc.out] at h1
          rw [show (preB k (x + 1)).length = P0.length + d from by rw [Hsucc.out, List.length_append, beB_length]]
          exact h1
        · refine H3.out.trans' hf.out (fun b hb h => ?_)
          have e1 := HBw.out
          rcases h with h | h
          · omega
          · have := (H2.out.lt b h).1; omega
        · refine H4.out.fr0 hf.out (fun h => ?_)
          rcases h with h | h
          · omega
          · have := (H2.out.lt Bw h).1; omega
        · intro b hb
          rcases hb with h | h
          · exact .inl (.inl h)
          · rcases ho.out b h with h1 | h1
            · exact .inl (.inr h1)
            · exact .inr h1
  case done =>
    rintro D v W hDe ⟨h1, h2, h3, h4⟩ hne hK
    rw [Hsz3.out] at hDe
    subst hDe
    have hlt : N0 + 2 < W.heap.size := (Array.getElem?_eq_some_iff.1 hK).1
    have c0 := h1.cell
    obtain ⟨g, cap, rfl⟩ := ownsRow_k_succ (n := 11) (by have := h2; rw [show (preB k [0, 1, 2].length).length = 12 from bytesK_length k] at this; exact this)
    have hrow : (W.putObj (N0 + 2) (.deferred none)).ownsRow w.heap.size 5 1 (.slice (some ⟨g, 0, none⟩) (11 + 1) cap) 12 (Lib.byteCells (bytesK k)) := by
      refine ownsRow_q_fr (ownsRow_k_mono h2 (by have := HBw.out; omega)) (Fr0.putNew (S := fun k => k = N0 + 2) _ _ rfl) (fun g hg h => ?_)
      exact hne g (.inr hg) h
    have hfr : Fr0 none' w (W.putObj (N0 + 2) (.deferred none)) := h3.putObj (fun h => by have := HBw.out; omega) _
    have hK' := hK
    clear hK h1 h2 h3 h4 hne
    gi_wp2
    refine ⟨by simp, .inl ⟨_, _, rfl, run_takeDeferred hK', ?_⟩⟩
    refine ⟨.tuple #[.slice (some ⟨g, 0, none⟩) (11 + 1) cap, .int .i64 0], by simp [results, Tryz.results7, go_sem], _, rfl, hrow, hfr⟩
theorem Bytes_any (k : Key3) (hk : RightK k) (w : World) :
    Calls Tryz.prog 7 #[keyV k] w fun e w' => ∃ v, e = .returned (.tuple #[v, .int .i64 0]) ∧ w'.ownsRow w.heap.size 5 1 v 12 (Lib.byteCells (bytesK k)) ∧ Fr0 none' w w' := callsIn_wide.1 (Bytes_in k hk w)
end Go.Proofs.YtpklgpdlkdlbbaaGreatDoor

/-
  key.Read.
-/
namespace Go.Proofs.YtpklgpdlkdlbbaaGreatDoor
open Go Go.RowKit
attribute [local go_sem ↓] Go.wp_at_zero Go.wp_at_succ
attribute [local go_sem] Oper.semAt_some wide_fn wide_depth wide_fnR wide_depthR

/-- The bytes behind an address. -/
def BsIn (w : World) (a : Option Addr) (l : List UInt8) : Prop := ∀ i x, l[i]? = some x → ∃ g o, a = some ⟨g, o, none⟩ ∧ w.cell? ⟨g, o + i, none⟩ = some (.int .u8 x.toNat)
theorem BsIn.fr0 {S : Nat → Prop} {w w' : World} {a : Option Addr} {L : List UInt8} (h : BsIn w a L) (hf : Fr0 S w w') (hS : ∀ g o s, a = some ⟨g, o, s⟩ → ¬ S g) : BsIn w' a L := fun i p hp => by
  obtain ⟨g, o, rfl, hc⟩ := h i p hp
  exact ⟨g, o, rfl, (hf.cell (p := ⟨g, o + i, none⟩) (World.block_lt_of_cell? _ _ hc) (hS g o none rfl)).trans hc⟩
theorem BsIn.later {w w' : World} {a : Option Addr} {L : List UInt8} (h : BsIn w a L) (hf : Fr0 none' w w') : BsIn w' a L := h.fr0 hf (fun _ _ _ _ h => h)
theorem ofInt_64 (a : Nat) (ha : a < 18446744073709551616) : (BitVec.ofInt 64 (a : Int)).toNat = a := by
  rw [BitVec.ofInt_natCast, BitVec.toNat_ofNat]; exact Nat.mod_eq_of_lt (by omega)
theorem or_low (a b : Nat) (hb : b < 256) : a * 256 ||| b = a * 256 + b := by
  have := Nat.two_pow_add_eq_or_of_lt (i := 8) (b := b) (by omega) a
  rw [Nat.mul_comm a 256]; exact this.symm
set_option maxRecDepth 10000 in
theorem or_i64 (a b : Nat) (hb : b < 256) (ha : a * 256 + b < 9223372036854775808) : Op.intBits .or .i64 ((a * 256 : Nat) : Int) (b : Int) = (pure (Value.int .i64 ((a * 256 + b : Nat) : Int)) : Sem Value) := by
  show (pure (Value.int .i64 (IntKind.i64.wrap ((BitVec.ofInt 64 ((a * 256 : Nat) : Int) ||| BitVec.ofInt 64 (b : Int)).toNat : Int))) : Sem Value) = _
  rw [BitVec.toNat_or, ofInt_64 (a * 256) (by omega), ofInt_64 b (by omega), or_low a b hb, IntWalk.i64_in _ (by omega)]
/-- The key after some fields are read. -/
def partK (l : List UInt8) (i : Nat) : Key3 := if i = 0 then ⟨0, 0, 0⟩ else if i = 1 then ⟨numB (l.take 7), 0, 0⟩ else if i = 2 then ⟨numB (l.take 7), numB ((l.drop 7).take 1), 0⟩ else keyB l
def offB (i : Nat) : Nat := if i = 0 then 0 else if i = 1 then 7 else 8
theorem partK_succ (l : List UInt8) {i : Nat} (hi : i < 3) : partK l (i + 1) = setF (partK l i) i (numB ((l.drop (offB i)).take (fN i))) := by
  have : i = 0 ∨ i = 1 ∨ i = 2 := by omega
  rcases this with rfl | rfl | rfl <;> simp [partK, setF, offB, fN, keyB]
theorem partK_nth (l : List UInt8) {i : Nat} (hi : i < 3) : nth3 (partK l i) i = 0 := by
  have : i = 0 ∨ i = 1 ∨ i = 2 := by omega
  rcases this with rfl | rfl | rfl <;> simp [partK, nth3]
theorem off_size {i : Nat} (hi : i < 3) : offB i + fN i ≤ 12 ∧ fN i ≤ 7 ∧ (i < 2 → offB (i + 1) = offB i + fN i ∧ offB i + fN i < 12) := by
  have : i = 0 ∨ i = 1 ∨ i = 2 := by omega
  rcases this with rfl | rfl | rfl <;> simp [offB, fN]
theorem setF_twice (k : Key3) {x : Nat} (hx : x < 3) (u v : Int) : setF (setF k x u) x v = setF k x v := by
  have : x = 0 ∨ x = 1 ∨ x = 2 := by omega
  rcases this with rfl | rfl | rfl <;> rfl
theorem setF_nth (k : Key3) {x : Nat} (hx : x < 3) (u : Int) : nth3 (setF k x u) x = u := by
  have : x = 0 ∨ x = 1 ∨ x = 2 := by omega
  rcases this with rfl | rfl | rfl <;> rfl
theorem setF_self (k : Key3) {x : Nat} (hx : x < 3) : setF k x (nth3 k x) = k := by
  have : x = 0 ∨ x = 1 ∨ x = 2 := by omega
  rcases this with rfl | rfl | rfl <;> rfl
theorem numB_snoc (l : List UInt8) (x : UInt8) : numB (l ++ [x]) = numB l * 256 + x.toNat := by simp [numB]
theorem numB_take_le (l : List UInt8) (d : Nat) (hd : d ≤ 6) : numB (l.take d) < 281474976710656 := by
  have h := numB_lt (l.take d)
  have h2 : (l.take d).length ≤ 6 := by rw [List.length_take]; omega
  have : 256 ^ (l.take d).length ≤ 256 ^ 6 := Nat.pow_le_pow_right (by decide) h2
  omega
structure RInv (l : List UInt8) (Bb Bw g o cap : Nat) (w : World) (i : Nat) (_ : Unit) (W : World) : Prop where
  key : KeyAt W Bw (partK l i)
  box : ∃ v, Box W Bb v ∧ (i < 3 → v = .slice (some ⟨g, o + offB i, none⟩) (12 - offB i) (cap - offB i))
  fr : Fr0 none' w W
  res : KeyAt W (Bb + 1) zeroK
def readV (l : List UInt8) : Value := if (readK l).isSome then .tuple #[keyV ((readK l).getD zeroK), .int .i64 0] else .tuple #[keyV zeroK, .int .i64 71]

set_option maxRecDepth 100000 in
set_option maxHeartbeats 2000000 in
theorem Read_in (g o cap : Nat) (l : List UInt8) (hl : l.length = 12) (hc : 12 ≤ cap) (hcm : cap ≤ maxLen) (w : World) (hb : BsIn w (some ⟨g, o, none⟩) l) :
    CallsIn Fence.wide 0 Tryz.prog 13 #[.slice (some ⟨g, o, none⟩) 12 cap] w fun e w' => e = .returned (readV l) ∧ Fr0 none' w w' := by
  obtain ⟨R, hR⟩ : ∃ R, readV l = R := ⟨_, rfl⟩
  rw [hR]
  have HRV := Lib.hid hR
  have Hl := Lib.hid hl
  have Hb := Lib.hid hb
  clear hR hl hb
  refine callsIn_of_wp_marks Tryz.func13 rfl trivial ?_ rfl
  simp only [Tryz.ntmps13, List.size_toArray, List.length_cons, List.length_nil, Nat.reduceAdd, Nat.reduceSub, Array.replicate_succ, Array.replicate_zero, List.push_toArray, List.append_toArray, List.nil_append, List.cons_append]
  gi_wp2_with fail
  obtain ⟨Bb, hBb⟩ : ∃ Bw, w.heap.size = Bw := ⟨_, rfl⟩
  obtain ⟨W0, hW0⟩ : ∃ W0, ((w.alloc (.cells #[.slice (some ⟨g, o, none⟩) 12 cap] 30)).alloc (.cells #[.int .i64 0, .int .i64 0, .int .i64 0] 28)).alloc (.cells #[.int .i64 0, .int .i64 0, .int .i64 0] 28) = W0 := ⟨_, rfl⟩
  have b0 : Box W0 Bb (.slice (some ⟨g, o, none⟩) 12 cap) := by rw [← hW0, ← hBb]; exact ((Box.new _ _ _).alloc _).alloc _
  have k0 : KeyAt W0 (Bb + 1) zeroK := by
    rw [← hW0, ← hBb]
    have := World.alloc_heap_new (w.alloc (.cells #[.slice (some ⟨g, o, none⟩) 12 cap] 30)) (.cells #[.int .i64 0, .int .i64 0, .int .i64 0] 28)
    rw [World.size_alloc] at this
    exact KeyAt.alloc (k := zeroK) this _
  have k1 : KeyAt W0 (Bb + 1 + 1) zeroK := by
    rw [← hW0, ← hBb]
    have := World.alloc_heap_new ((w.alloc (.cells #[.slice (some ⟨g, o, none⟩) 12 cap] 30)).alloc (.cells #[.int .i64 0, .int .i64 0, .int .i64 0] 28)) (.cells #[.int .i64 0, .int .i64 0, .int .i64 0] 28)
    rwa [World.size_alloc, World.size_alloc] at this
  have F0 := Lib.hid (show Fr0 none' w W0 by rw [← hW0]; exact (((Fr0.refl _ _).alloc _).alloc _).alloc _)
  have Hsz0 := Lib.hid (show W0.heap.size = Bb + 3 by rw [← hW0, ← hBb]; simp)
  rw [hW0, hBb]
  have B0 := Lib.hid b0
  have K0 := Lib.hid k0
  have K1 := Lib.hid k1
  have HBb := Lib.hid hBb
  clear hW0 hBb b0 k0 k1
  refine (callsIn_wide.2 (fields_any _ _)).mono ?_
  rintro e w3 ⟨rfl, rfl⟩
  gi_wp2_with fail
  obtain ⟨W3, hW3⟩ : ∃ W3, W0.alloc (.cells #[.pointer (some ⟨Bb + 1 + 1, 0, none⟩)] 71) = W3 := ⟨_, rfl⟩
  have it := (fields_iter (Bb + 1 + 1) W0.heap.size _ (Box.new W0 _ _ : Box (W0.alloc (.cells #[.pointer (some ⟨Bb + 1 + 1, 0, none⟩)] 71)) _ _)).to0
  have F3 := Lib.hid (show Fr0 none' W0 W3 by rw [← hW3]; exact (Fr0.refl _ _).alloc _)
  have Hsz3 := Lib.hid (show W3.heap.size = Bb + 4 by rw [← hW3, World.size_alloc, Hsz0.out])
  rw [hW3, Hsz0.out] at it
  rw [hW3, Hsz0.out]
  clear hW3
  refine wpIn_iterS0 (σ := Unit) (gf := 68) (lb := #[.pointer (some ⟨Bb + 3, 0, none⟩)]) rfl (by intro args w; rfl) it (Keep.refl _ _) (fun _ => rfl) (fun k hk => hk.elim) (fun k hk => by subst hk; rw [Hsz3.out]; omega)
    (RInv l Bb (Bb + 1 + 1) g o cap w) (fun _ b => b = Bb + 1 + 1 ∨ b = Bb) (fun _ _ => False) ?hInv ?hlt (fun _ _ _ h _ => h.elim) () ?h0 ?hf0
    (fun x W a' => ∃ B, a' = { tmps := #[.slice (some ⟨g, o, none⟩) 12 cap, .pointer (some ⟨Bb, 0, none⟩), .pointer (some ⟨Bb + 1, 0, none⟩), .int .i64 0, .pointer (some ⟨Bb + 1 + 1, 0, none⟩), .pointer (some ⟨B, 0, none⟩), undef, undef, .slice (some ⟨g, o, none⟩) 12 cap, .int .i64 12, .bool false, undef, .func (.func 68) #[] #[.pointer (some ⟨Bb + 3, 0, none⟩)], fV (Bb + 1 + 1) x, undef, undef, undef, undef, undef, undef, undef, undef, undef, undef, undef, undef, undef, undef, undef, undef, undef, undef, undef, undef, undef, undef, undef, undef, undef, undef, undef, undef, undef, undef], defers := [] } ∧ Bb + 5 < B ∧ W.heap[B]? = some (.cells (fC (Bb + 1 + 1) x).toArray 74 (0, 0)))
    ?assign ?keep ?body ?done (fun _ _ _ _ h _ => h.elim)
  case hInv =>
    rintro i v W4 W5 ⟨h1, ⟨v', h2, h2'⟩, h3, h5⟩ hf
    have e1 := HBb.out
    rw [Hsz3.out] at hf
    refine ⟨h1.fr0 hf (fun h => h.2 (.inl rfl)), ⟨v', h2.fr0 hf (fun h => h.2 (.inr rfl)), h2'⟩, h3.trans' hf (fun k hk h => ?_), h5.fr0 hf (fun h => ?_)⟩
    all_goals
      rcases h.1 with h | h
      · exact h
      · omega
  case hlt =>
    rintro i v W4 b ⟨h1, ⟨v', h2, h2'⟩, h3, h5⟩ (rfl | rfl)
    · exact h1.lt
    · exact h2.lt
  case h0 =>
    exact ⟨(K1.out.fr0 F3.out id), ⟨_, B0.out.fr0 F3.out id, fun _ => by simp [offB]⟩, F0.out.trans F3.out, K0.out.fr0 F3.out id⟩
  case hf0 =>
    rintro b (rfl | rfl)
    · exact ⟨id, fun h => by omega⟩
    · exact ⟨id, fun h => by omega⟩
  case keep =>
    rintro x W4 W5 a' ⟨B, rfl, hB, hc⟩ hf
    refine ⟨B, rfl, hB, (hf.block B (Array.getElem?_eq_some_iff.1 hc).1 (by rw [Hsz3.out]; omega)).trans hc⟩
  case assign =>
    intro l x W K hlt hK
    rw [Hsz3.out] at hlt
    simp only [fV]
    gi_wp2
    exact hK _ _ ⟨W.heap.size, by simp [fV], by omega, World.alloc_heap_new W _⟩ ((Fr0.refl _ _).alloc _)
  case body =>
    rintro ll i x v W a' hxi ⟨h1, ⟨v', h2, h2'⟩, h3, h5⟩ hfoot hsz ⟨B, rfl, hB, hcB⟩
    have hi : i < 3 ∧ x = i := by
      have : i < 3 := (List.getElem?_eq_some_iff.1 hxi).1
      have h3 : i = 0 ∨ i = 1 ∨ i = 2 := by omega
      rcases h3 with rfl | rfl | rfl <;> simp at hxi <;> omega
    obtain ⟨hi, rfl⟩ := hi
    obtain rfl := h2' hi
    have hcs := cells_of hcB 2
    simp [fC] at hcs
    rw [fSize_N hi] at hcs
    have hBl := (Array.getElem?_eq_some_iff.1 hcB).1
    have HcB := Lib.hid hcB
    obtain ⟨n, hn⟩ : ∃ n, fN x = n := ⟨_, rfl⟩
    obtain ⟨u, hu⟩ : ∃ u, offB x = u := ⟨_, rfl⟩
    have hun := off_size hi
    rw [hn, hu] at hun
    rw [hn] at hcs
    rw [hu] at h2
    have hbs : BsIn W (some ⟨g, o, none⟩) l := Hb.out.later h3
    have Hbs := Lib.hid hbs
    have Hn := Lib.hid hn
    have Hu := Lib.hid hu
    have Hun := Lib.hid hun
    have Hi := Lib.hid hi
    have H1 := Lib.hid h1
    have H2 := Lib.hid h2
    have H3 := Lib.hid h3
    have H5 := Lib.hid h5
    have Hsz := Lib.hid hsz
    have c0 := h2.cell
    have m1 : (0 : Int) ≤ (n : Int) := by omega
    have m2 : (n : Int) ≤ ((12 - u : Nat) : Int) := by omega
    have m3 : (n : Int) ≤ ((cap - u : Nat) : Int) := by omega
    clear hxi hn hu hi h1 h2 h3 h5 hfoot hcB hsz hbs hun h2'
    gi_wp2
    have Hm := Lib.hid (show n ≤ 12 - u ∧ n ≤ cap - u by omega)
    clear m1 m2 m3 c0
    refine wpIn_loop (fun a' w' => ∃ (u7 u19 u20 u21 u22 u23 u24 u25 u26 u27 u28 u29 u30 u31 u32 u33 u34 : Value), (∃ (d : Nat), d ≤ n ∧ u19 = .int .i64 d ∧ Hid (KeyAt w' (Bb + 1 + 1) (setF (partK l x) x (numB (((l.drop u).take n).take d)))) ∧ Hid (Fr0 (fun b => b = Bb + 1 + 1) W w')) ∧ a' = { tmps := #[.slice (some ⟨g, o, none⟩) 12 cap, .pointer (some ⟨Bb, 0, none⟩), .pointer (some ⟨Bb + 1, 0, none⟩), .int .i64 0, .pointer (some ⟨Bb + 1 + 1, 0, none⟩), .pointer (some ⟨B, 0, none⟩), undef, u7, .slice (some ⟨g, o, none⟩) 12 cap, .int .i64 12, .bool false, undef, .func (.func 68) #[] #[.pointer (some ⟨Bb + 3, 0, none⟩)], fV (Bb + 1 + 1) x, .slice (some ⟨g, o + u, none⟩) (12 - u) (cap - u), .pointer (some ⟨B, 2, none⟩), .int .i64 n, .slice (some ⟨g, o + u, none⟩) n (cap - u), .int .i64 n, u19, u20, u21, u22, u23, u24, u25, u26, u27, u28, u29, u30, u31, u32, u33, u34, undef, undef, undef, undef, undef, undef, undef, undef, undef], defers := [] }) (fun a' _ => n - (Go.RowKit.intOf (a'.tmps.getD 19 undef)).toNat) ?start ?round
    case start =>
      repeat (apply Exists.intro)
      refine ⟨⟨0, Nat.zero_le _, rfl, ?_, Fr0.refl _ _⟩, rfl⟩
      unfold Hid
      rw [List.take_zero, show ((numB [] : Nat) : Int) = nth3 (partK l x) x from by rw [partK_nth l Hi.out]; rfl, setF_self _ Hi.out]
      exact H1.out
    case round =>
      rintro a' wr ⟨u7, u19, u20, u21, u22, u23, u24, u25, u26, u27, u28, u29, u30, u31, u32, u33, u34, ⟨d, hd, rfl, hk, hf⟩, rfl⟩
      by_cases hdn : d < n
      · have hlen : u + d < l.length := by rw [Hl.out]; have := Hun.out; omega
        obtain ⟨xb, hxb⟩ : ∃ xb, l[u + d]? = some xb := ⟨_, List.getElem?_eq_getElem hlen⟩
        have cb : W.cell? ⟨g, o + u + d, none⟩ = some (.int .u8 xb.toNat) := by
          obtain ⟨g', o', e, hc⟩ := Hbs.out _ _ hxb
          injection e with e
          injection e with e1 e2
          subst e1; subst e2
          rw [Nat.add_assoc]; exact hc
        have hgB : g < Bb := by
          have h0 := hlen
          obtain ⟨g', o', e, hc⟩ := Hb.out _ _ hxb
          injection e with e
          injection e with e1 e2
          subst e1
          have := World.block_lt_of_cell? _ _ hc
          have := HBb.out
          simp at *; omega
        have cb := (hf.out.cell (p := ⟨g, o + u + d, none⟩) (World.block_lt_of_cell? _ _ cb) (by simp; omega)).trans cb
        have cB := (hf.out.block B hBl (by omega)).trans HcB.out
        have c1 := cells_of cB 0
        simp [fC] at c1
        have cK := hk.out.cell Hi.out
        rw [setF_nth _ Hi.out] at cK
        have kf := hk.out.frozen x
        obtain ⟨A, hA⟩ : ∃ A, numB (((l.drop u).take n).take d) = A := ⟨_, rfl⟩
        have hA7 : A < 281474976710656 := by rw [← hA]; exact numB_take_le _ _ (by have := Hun.out; omega)
        have hnext : numB (((l.drop u).take n).take (d + 1)) = A * 256 + xb.toNat := by
          have e : ((l.drop u).take n)[d]? = some xb := by rw [List.getElem?_take_of_lt hdn, List.getElem?_drop, hxb]
          rw [List.take_add_one, e, Option.toList_some, numB_snoc, hA]
        rw [hA] at cK hk
        have hxl : xb.toNat < 256 := xb.toNat_lt
        obtain ⟨acc, hacc⟩ : ∃ acc : Int, (A : Int) = acc := ⟨_, rfl⟩
        obtain ⟨t, ht⟩ : ∃ t : Int, ((A * 256 : Nat) : Int) = t := ⟨_, rfl⟩
        obtain ⟨y, hy⟩ : ∃ y : Int, ((xb.toNat : Nat) : Int) = y := ⟨_, rfl⟩
        obtain ⟨r, hr⟩ : ∃ r : Int, ((A * 256 + xb.toNat : Nat) : Int) = r := ⟨_, rfl⟩
        have e1 : IntKind.i64.wrap (acc * 256) = t := by
          rw [← ht, ← hacc, show ((A : Int) * 256) = ((A * 256 : Nat) : Int) from by push_cast; rfl]
          exact IntWalk.i64_in _ (by omega)
        have e2 : Op.intBits .or .i64 t y = (pure (Value.int .i64 r) : Sem Value) := by rw [← ht, ← hy, ← hr]; exact or_i64 A xb.toNat hxl (by omega)
        have e3 : IntKind.i64.wrap y = y := IntWalk.i64_in _ (by omega)
        rw [hacc] at cK
        rw [hy] at cb
        have Hr := Lib.hid (show numB (((l.drop u).take n).take (d + 1)) = A * 256 + xb.toNat ∧ ((A * 256 + xb.toNat : Nat) : Int) = r from ⟨hnext, hr⟩)
        have z1 : (0 : Int) ≤ (d : Int) := by omega
        have z2 : (d : Int) < (n : Int) := by omega
        have z3 : IntKind.i64.wrap ((d : Int) + 1) = (d : Int) + 1 := IntWalk.i64_in _ (by have := Hun.out; omega)
        have d0 : decide ((d : Int) < (n : Int)) = true := decide_eq_true z2
        clear hlen hxb hgB cB hA hA7 hnext hxl hacc ht hy hr
        gi_wp2
        obtain ⟨WD, hWD⟩ : ∃ W, wr.drew = W := ⟨_, rfl⟩
        have hSW0 : WD.cell? ⟨B, 0, none⟩ = some (.pointer (some ⟨Bb + 1 + 1, x, none⟩)) ∧ WD.cell? ⟨Bb + 1 + 1, x, none⟩ = some (.int .i64 acc) ∧ WD.frozen? ⟨Bb + 1 + 1, x, none⟩ = false := by rw [← hWD]; exact ⟨c1, cK, kf⟩
        have hkD := Lib.hid (show KeyAt WD (Bb + 1 + 1) (setF (partK l x) x A) by rw [← hWD]; exact hk.out)
        have hfD := Lib.hid (show Fr0 (fun b => b = Bb + 1 + 1) W WD by rw [← hWD]; exact hf.out.drew)
        refine wpIn_round_Z (z := 11) (S := fun W' => W'.cell? ⟨B, 0, none⟩ = some (.pointer (some ⟨Bb + 1 + 1, x, none⟩)) ∧ W'.cell? ⟨Bb + 1 + 1, x, none⟩ = some (.int .i64 acc) ∧ W'.frozen? ⟨Bb + 1 + 1, x, none⟩ = false) (by kernel_rfl) (by kernel_rfl) (by intro a w h; exact h) ?_
        rw [hWD]
        clear hWD hf c1 cK kf hk
        refine takeZ_on (i := 0) (v := .pointer (some ⟨B, 0, none⟩)) rfl (by kernel_rfl) (by kernel_rfl) (by kernel_rfl) (by kernel_rfl) (fun _ _ _ h => h) (by kernel_rfl) (fun W' hSW => ?_) (by assumption) ?_
        · (try dsimp only at hSW)
          first | (go_simp; done) | exact rfl | (go_simp; rfl) | (go_simp; omega)
        try simp only [Act.put, List.setIfInBounds_toArray, List.set_cons_zero, List.set_cons_succ]
        refine takeZ_on (i := 1) (v := .pointer (some ⟨Bb + 1 + 1, x, none⟩)) rfl (by kernel_rfl) (by kernel_rfl) (by kernel_rfl) (by kernel_rfl) (fun _ _ _ h => h) (by kernel_rfl) (fun W' hSW => ?_) (by assumption) ?_
        · (try dsimp only at hSW)
          first | (go_simp; done) | exact rfl | (go_simp; rfl) | (go_simp; omega)
        try simp only [Act.put, List.setIfInBounds_toArray, List.set_cons_zero, List.set_cons_succ]
        refine takeZ_on (i := 2) (v := .pointer (some ⟨B, 0, none⟩)) rfl (by kernel_rfl) (by kernel_rfl) (by kernel_rfl) (by kernel_rfl) (fun _ _ _ h => h) (by kernel_rfl) (fun W' hSW => ?_) (by assumption) ?_
        · (try dsimp only at hSW)
          first | (go_simp; done) | exact rfl | (go_simp; rfl) | (go_simp; omega)
        try simp only [Act.put, List.setIfInBounds_toArray, List.set_cons_zero, List.set_cons_succ]
        refine takeZ_on (i := 3) (v := .pointer (some ⟨Bb + 1 + 1, x, none⟩)) rfl (by kernel_rfl) (by kernel_rfl) (by kernel_rfl) (by kernel_rfl) (fun _ _ _ h => h) (by kernel_rfl) (fun W' hSW => ?_) (by assumption) ?_
        · (try dsimp only at hSW)
          first | (go_simp; done) | exact rfl | (go_simp; rfl) | (go_simp; omega)
        try simp only [Act.put, List.setIfInBounds_toArray, List.set_cons_zero, List.set_cons_succ]
        refine takeZ_on (i := 4) (v := .pointer (some ⟨Bb + 1 + 1, x, none⟩)) rfl (by kernel_rfl) (by kernel_rfl) (by kernel_rfl) (by kernel_rfl) (fun _ _ _ h => h) (by kernel_rfl) (fun W' hSW => ?_) (by assumption) ?_
        · (try dsimp only at hSW)
          first | (go_simp; done) | exact rfl | (go_simp; rfl) | (go_simp; omega)
        try simp only [Act.put, List.setIfInBounds_toArray, List.set_cons_zero, List.set_cons_succ]
        refine takeZ_on (i := 5) (v := .int .i64 acc) rfl (by kernel_rfl) (by kernel_rfl) (by kernel_rfl) (by kernel_rfl) (fun _ _ _ h => h) (by kernel_rfl) (fun W' hSW => ?_) (by assumption) ?_
        · (try dsimp only at hSW)
          first | (go_simp; done) | exact rfl | (go_simp; rfl) | (go_simp; omega)
        try simp only [Act.put, List.setIfInBounds_toArray, List.set_cons_zero, List.set_cons_succ]
        refine takeZ_on (i := 6) (v := .int .i64 t) rfl (by kernel_rfl) (by kernel_rfl) (by kernel_rfl) (by kernel_rfl) (fun _ _ _ h => h) (by kernel_rfl) (fun W' hSW => ?_) (by assumption) ?_
        · (try dsimp only at hSW)
          first | (go_simp; done) | exact rfl | (go_simp; rfl) | (go_simp; omega)
        try simp only [Act.put, List.setIfInBounds_toArray, List.set_cons_zero, List.set_cons_succ]
        refine takeZ_on (i := 7) (v := .int .u8 y) rfl (by kernel_rfl) (by kernel_rfl) (by kernel_rfl) (by kernel_rfl) (fun _ _ _ h => h) (by kernel_rfl) (fun W' hSW => ?_) (by assumption) ?_
        · (try dsimp only at hSW)
          first | (go_simp; done) | exact rfl | (go_simp; rfl) | (go_simp; omega)
        try simp only [Act.put, List.setIfInBounds_toArray, List.set_cons_zero, List.set_cons_succ]
        refine takeZ_on (i := 8) (v := .int .i64 y) rfl (by kernel_rfl) (by kernel_rfl) (by kernel_rfl) (by kernel_rfl) (fun _ _ _ h => h) (by kernel_rfl) (fun W' hSW => ?_) (by assumption) ?_
        · (try dsimp only at hSW)
          first | (go_simp; done) | exact rfl | (go_simp; rfl) | (go_simp; omega)
        try simp only [Act.put, List.setIfInBounds_toArray, List.set_cons_zero, List.set_cons_succ]
        refine takeZ_on (i := 9) (v := .int .i64 r) rfl (by kernel_rfl) (by kernel_rfl) (by kernel_rfl) (by kernel_rfl) (fun _ _ _ h => h) (by kernel_rfl) (fun W' hSW => ?_) (by assumption) ?_
        · (try dsimp only at hSW)
          first | (go_simp; done) | exact rfl | (go_simp; rfl) | (go_simp; omega)
        try simp only [Act.put, List.setIfInBounds_toArray, List.set_cons_zero, List.set_cons_succ]
        refine takeZ_on (i := 10) (v := .pointer (some ⟨Bb + 1 + 1, x, none⟩)) rfl (by kernel_rfl) (by kernel_rfl) (by kernel_rfl) (by kernel_rfl) (fun _ _ _ h => h) (by kernel_rfl) (fun W' hSW => ?_) (by assumption) ?_
        · (try dsimp only at hSW)
          first | (go_simp; done) | exact rfl | (go_simp; rfl) | (go_simp; omega)
        try simp only [Act.put, List.setIfInBounds_toArray, List.set_cons_zero, List.set_cons_succ]
        have c0 := hSW0.2.1
        have cf := hSW0.2.2
        refine takeZ_call (i := 11) rfl (by kernel_rfl) (by kernel_rfl) (fun K hK => ?_)
        go_simp
        refine hK.out _ _ (.inl rfl) ?_
        clear hK K
        try simp only [Act.put, List.setIfInBounds_toArray, List.set_cons_zero, List.set_cons_succ]
        refine wpAnyZ_done (by kernel_rfl) ?_ _
        clear hSW0 c0 cf e1 e2 e3
        gi_wp2
        refine ⟨⟨d + 1, by omega, by simp, ?_, hfD.out.setCell (fun _ => rfl) _⟩, by simp [Go.RowKit.intOf]; omega⟩
        unfold Hid
        have h1 := KeyAt.setF hkD.out Hi.out r
        rw [setF_twice _ Hi.out] at h1
        rw [Hr.out.1, Hr.out.2]
        exact h1
      · obtain rfl : d = n := by omega
        have d0 : decide ((d : Int) < (d : Int)) = false := decide_eq_false (by omega)
        have hm := Hm.out
        have cB := (hf.out.block B hBl (by omega)).trans HcB.out
        have cs2 := cells_of cB 2
        simp [fC] at cs2
        rw [fSize_N Hi.out, Hn.out] at cs2
        have hbx : Box wr Bb (.slice (some ⟨g, o + u, none⟩) (12 - u) (cap - u)) := H2.out.fr0 hf.out (by omega)
        have c0 := hbx.cell
        have cf := hbx.frozen
        have Hbx := Lib.hid hbx
        have m1 : (0 : Int) ≤ (d : Int) := by omega
        have m2 : (d : Int) ≤ ((12 - u : Nat) : Int) := by omega
        have m3 : (d : Int) ≤ ((cap - u : Nat) : Int) := by omega
        clear cB hbx hm
        have hkey : ∀ v, KeyAt (wr.setCell ⟨Bb, 0, none⟩ v) (Bb + 1 + 1) (partK l (x + 1)) := fun v => by
          have h1 := hk.out.setOther (a := ⟨Bb, 0, none⟩) (by simp <;> omega) v
          rw [List.take_of_length_le (by rw [List.length_take]; omega)] at h1
          rw [partK_succ l Hi.out, Hu.out, Hn.out]
          exact h1
        have HKEY := Lib.hid hkey
        clear hkey
        gi_wp2
        all_goals
          have hb0 := HBb.out
          have hun := Hun.out
          have hm := Hm.out
          have hi := Hi.out
          refine ⟨(), ⟨HKEY.out _, ⟨_, Hbx.out.set _, fun h => ?_⟩, ?_, (H5.out.fr0 hf.out (by omega)).setOther (by simp) _⟩, ?_, fun k h => .inl h⟩
          rotate_left
          · exact (H3.out.trans' hf.out (fun k hk h => by omega)).setCell (fun h => by omega) _
          · exact (hf.out.mono (fun k _ h => .inl h)).setCell (fun _ => .inr rfl) _
        · have := (hun.2.2 (by omega)).2; omega
        · have h2 := hun.2.2 (by omega)
          rw [h2.1]
          congr 1
          · rw [Nat.add_assoc]
          · omega
          · omega
  case done =>
    rintro D v W hDe ⟨h1, ⟨v', h2, h2'⟩, h3, k0⟩ hne hK
    rw [Hsz3.out] at hDe
    subst hDe
    have hlt : Bb + 4 < W.heap.size := (Array.getElem?_eq_some_iff.1 hK).1
    rw [show partK l [0, 1, 2].length = keyB l from rfl] at h1
    obtain ⟨K, hKK⟩ : ∃ K, keyB l = K := ⟨_, rfl⟩
    rw [hKK] at h1
    have HKK := Lib.hid hKK
    clear hKK h2' h2 hne
    have HM := Lib.hid hK
    have H1 := Lib.hid h1
    have HF3 := Lib.hid h3
    have HK0 := Lib.hid k0
    clear k0
    obtain ⟨r0, r1, r2⟩ := K
    have e0 := h1.cell (i := 0) (by omega)
    have e1 := h1.cell (i := 1) (by omega)
    have e2 := h1.cell (i := 2) (by omega)
    simp [nth3] at e0 e1 e2
    clear h1 hK h3
    gi_wp2_with fail
    refine (callsIn_wide.2 (Right_any ⟨r0, r1, r2⟩ _)).mono ?_
    rintro e w5 ⟨rfl, hf5⟩
    have HM5 := Lib.hid ((hf5.block _ hlt id).trans HM.out)
    have H15 := Lib.hid (H1.out.fr0 hf5 id)
    have HK5 := Lib.hid (HK0.out.fr0 hf5 id)
    have HF5 := Lib.hid (HF3.out.trans hf5)
    clear hf5 e0 e1 e2
    by_cases hr : RightK ⟨r0, r1, r2⟩
    · have hd : decide (RightK ⟨r0, r1, r2⟩) = true := decide_eq_true hr
      rw [hd]
      obtain rfl : .tuple #[.agg #[.int .i64 r0, .int .i64 r1, .int .i64 r2], .int .i64 0] = R := by
        rw [← HRV.out]
        have e : readK l = some ⟨r0, r1, r2⟩ := by unfold readK; rw [HKK.out, if_pos ⟨Hl.out, hr⟩]
        unfold readV
        rw [e]; rfl
      clear hr hd
      have y0 := HK5.out.cell (i := 0) (by omega)
      have y1 := HK5.out.cell (i := 1) (by omega)
      have y2 := HK5.out.cell (i := 2) (by omega)
      have q0 := HK5.out.frozen 0
      have q1 := HK5.out.frozen 1
      have q2 := HK5.out.frozen 2
      have e0 := H15.out.cell (i := 0) (by omega)
      have e1 := H15.out.cell (i := 1) (by omega)
      have e2 := H15.out.cell (i := 2) (by omega)
      simp [nth3, zeroK] at y0 y1 y2 e0 e1 e2
      gi_wp2
      have z1 : KeyAt (((w5.setCell ⟨Bb + 1, 0, none⟩ (.int .i64 r0)).setCell ⟨Bb + 1, 1, none⟩ (.int .i64 r1)).setCell ⟨Bb + 1, 2, none⟩ (.int .i64 r2)) (Bb + 1) ⟨r0, r1, r2⟩ := ((HK5.out.set0 r0).set1 r1).set2 r2
      have z3 : Fr0 none' w (((w5.setCell ⟨Bb + 1, 0, none⟩ (.int .i64 r0)).setCell ⟨Bb + 1, 1, none⟩ (.int .i64 r1)).setCell ⟨Bb + 1, 2, none⟩ (.int .i64 r2)) := by
        have e := HBb.out
        exact ((HF5.out.setCell (fun h => by omega) _).setCell (fun h => by omega) _).setCell (fun h => by omega) _
      have z4 : (((w5.setCell ⟨Bb + 1, 0, none⟩ (.int .i64 r0)).setCell ⟨Bb + 1, 1, none⟩ (.int .i64 r1)).setCell ⟨Bb + 1, 2, none⟩ (.int .i64 r2)).heap[Bb + 4]? = some (.deferred (some [])) := by
        rw [Below.heap_setCell _ _ _ _ (by simp), Below.heap_setCell _ _ _ _ (by simp), Below.heap_setCell _ _ _ _ (by simp)]
        exact HM5.out
      generalize (((w5.setCell ⟨Bb + 1, 0, none⟩ (.int .i64 r0)).setCell ⟨Bb + 1, 1, none⟩ (.int .i64 r1)).setCell ⟨Bb + 1, 2, none⟩ (.int .i64 r2)) = V at z1 z3 z4 ⊢
      have k1 : KeyAt (V.putObj (Bb + 4) (.deferred none)) (Bb + 1) ⟨r0, r1, r2⟩ := (World.putObj_heap_other (by omega)).trans z1
      have d0 := k1.cell (i := 0) (by omega)
      have d1 := k1.cell (i := 1) (by omega)
      have d2 := k1.cell (i := 2) (by omega)
      simp [nth3, zeroK] at d0 d1 d2
      refine ⟨by simp, .inl ⟨_, _, rfl, run_takeDeferred z4, ?_⟩⟩
      refine ⟨.tuple #[.agg #[.int .i64 r0, .int .i64 r1, .int .i64 r2], .int .i64 0], by simp [results, Tryz.results13, go_sem, d0, d1, d2], rfl, ?_⟩
      have e := HBb.out
      exact z3.putObj (fun h => by omega) _
    · have hd : decide (RightK ⟨r0, r1, r2⟩) = false := decide_eq_false hr
      rw [hd]
      obtain rfl : .tuple #[.agg #[.int .i64 0, .int .i64 0, .int .i64 0], .int .i64 71] = R := by
        rw [← HRV.out]
        have e : readK l = none := by unfold readK; rw [HKK.out, if_neg (fun h => hr h.2)]
        unfold readV
        rw [e]; rfl
      clear hr hd
      have y0 := HK5.out.cell (i := 0) (by omega)
      have y1 := HK5.out.cell (i := 1) (by omega)
      have y2 := HK5.out.cell (i := 2) (by omega)
      have q0 := HK5.out.frozen 0
      have q1 := HK5.out.frozen 1
      have q2 := HK5.out.frozen 2
      have e0 := H15.out.cell (i := 0) (by omega)
      have e1 := H15.out.cell (i := 1) (by omega)
      have e2 := H15.out.cell (i := 2) (by omega)
      simp [nth3, zeroK] at y0 y1 y2 e0 e1 e2
      gi_wp2
      have z1 : KeyAt (((w5.setCell ⟨Bb + 1, 0, none⟩ (.int .i64 0)).setCell ⟨Bb + 1, 1, none⟩ (.int .i64 0)).setCell ⟨Bb + 1, 2, none⟩ (.int .i64 0)) (Bb + 1) zeroK := ((HK5.out.set0 0).set1 0).set2 0
      have z3 : Fr0 none' w (((w5.setCell ⟨Bb + 1, 0, none⟩ (.int .i64 0)).setCell ⟨Bb + 1, 1, none⟩ (.int .i64 0)).setCell ⟨Bb + 1, 2, none⟩ (.int .i64 0)) := by
        have e := HBb.out
        exact ((HF5.out.setCell (fun h => by omega) _).setCell (fun h => by omega) _).setCell (fun h => by omega) _
      have z4 : (((w5.setCell ⟨Bb + 1, 0, none⟩ (.int .i64 0)).setCell ⟨Bb + 1, 1, none⟩ (.int .i64 0)).setCell ⟨Bb + 1, 2, none⟩ (.int .i64 0)).heap[Bb + 4]? = some (.deferred (some [])) := by
        rw [Below.heap_setCell _ _ _ _ (by simp), Below.heap_setCell _ _ _ _ (by simp), Below.heap_setCell _ _ _ _ (by simp)]
        exact HM5.out
      generalize (((w5.setCell ⟨Bb + 1, 0, none⟩ (.int .i64 0)).setCell ⟨Bb + 1, 1, none⟩ (.int .i64 0)).setCell ⟨Bb + 1, 2, none⟩ (.int .i64 0)) = V at z1 z3 z4 ⊢
      have k1 : KeyAt (V.putObj (Bb + 4) (.deferred none)) (Bb + 1) zeroK := (World.putObj_heap_other (by omega)).trans z1
      have d0 := k1.cell (i := 0) (by omega)
      have d1 := k1.cell (i := 1) (by omega)
      have d2 := k1.cell (i := 2) (by omega)
      simp [nth3, zeroK] at d0 d1 d2
      refine ⟨by simp, .inl ⟨_, _, rfl, run_takeDeferred z4, ?_⟩⟩
      refine ⟨.tuple #[.agg #[.int .i64 0, .int .i64 0, .int .i64 0], .int .i64 71], by simp [results, Tryz.results13, go_sem, d0, d1, d2], rfl, ?_⟩
      have e := HBb.out
      exact z3.putObj (fun h => by omega) _
set_option maxRecDepth 100000 in
set_option maxHeartbeats 1000000 in
theorem Read_short (a : Option Addr) (n cap : Nat) (hn : n ≠ 12) (w : World) :
    Calls Tryz.prog 13 #[.slice a n cap] w fun e w' => e = .returned (.tuple #[keyV zeroK, .int .i64 71]) ∧ Fr0 none' w w' := by
  have d0 : ((n : Int) != 12) = true := by simp; omega
  go_enter Tryz.func13, Tryz.ntmps13
  go_wp2
  have k1 : KeyAt (((w.alloc (.cells #[.slice a n cap] 30)).alloc (.cells #[.int .i64 0, .int .i64 0, .int .i64 0] 28)).alloc (.cells #[.int .i64 0, .int .i64 0, .int .i64 0] 28)) (w.heap.size + 1) zeroK := by
    have := World.alloc_heap_new (w.alloc (.cells #[.slice a n cap] 30)) (.cells #[.int .i64 0, .int .i64 0, .int .i64 0] 28)
    rw [World.size_alloc] at this
    exact KeyAt.alloc (k := zeroK) this _
  have F4 : Fr0 none' w (((w.alloc (.cells #[.slice a n cap] 30)).alloc (.cells #[.int .i64 0, .int .i64 0, .int .i64 0] 28)).alloc (.cells #[.int .i64 0, .int .i64 0, .int .i64 0] 28)) := (((Fr0.refl _ _).alloc _).alloc _).alloc _
  generalize (((w.alloc (.cells #[.slice a n cap] 30)).alloc (.cells #[.int .i64 0, .int .i64 0, .int .i64 0] 28)).alloc (.cells #[.int .i64 0, .int .i64 0, .int .i64 0] 28)) = W4 at k1 F4 ⊢
  have d0 := k1.cell (i := 0) (by omega)
  have d1 := k1.cell (i := 1) (by omega)
  have d2 := k1.cell (i := 2) (by omega)
  simp [nth3, zeroK] at d0 d1 d2
  refine bodyPost_ret (v := .tuple #[keyV zeroK, .int .i64 71]) (by simp [results, Tryz.results13, go_sem, d0, d1, d2, keyV, zeroK]) rfl ⟨rfl, F4⟩
theorem Read_any (a : Option Addr) (n cap : Nat) (l : List UInt8) (hl : l.length = n) (hc : n ≤ cap) (hcm : cap ≤ maxLen) (w : World) (hb : BsIn w a l) :
    Calls Tryz.prog 13 #[.slice a n cap] w fun e w' => e = .returned (readV l) ∧ Fr0 none' w w' := by
  by_cases h : n = 12
  · subst h
    obtain ⟨g, o, rfl, _⟩ := hb 0 l[0] (List.getElem?_eq_getElem _)
    exact callsIn_wide.1 (Read_in g o cap l hl hc hcm w hb)
  · have e : readK l = none := by unfold readK; rw [if_neg (fun h' => h (by omega))]
    unfold readV
    rw [e]
    exact Read_short a n cap h w
end Go.Proofs.YtpklgpdlkdlbbaaGreatDoor

/-
  string of bytes.
-/
namespace Go.Proofs.YtpklgpdlkdlbbaaGreatDoor
open Go Go.RowKit

theorem conv_bs {w : World} {a : Option Addr} {n cap : Nat} {l : List UInt8} (h : BsIn w a l) (hn : l.length = n) : (convert 30 9 (.slice a n cap)).run Tryz.prog w = .ok (.string ⟨l.toArray⟩) w := by
  subst hn
  cases l with
  | nil => exact run_convert_bytes_zero w _ _ Tryz.underlying30 Tryz.underlying5 a cap _ Tryz.underlying9
  | cons x r =>
    obtain ⟨g, o, rfl, _⟩ := h 0 x rfl
    refine run_convert_bytes_back w _ _ _ ⟨g, o, none⟩ cap (x :: r) Tryz.underlying30 Tryz.underlying5 Tryz.underlying9 (fun j hj => ?_)
    obtain ⟨g', o', e, hc⟩ := h j (x :: r)[j] (List.getElem?_eq_getElem hj)
    injection e with e
    injection e with e e'
    subst e; subst e'
    unfold Addr.add
    split
    · next h0 => subst h0; exact hc
    · exact hc
theorem BsIn.of_row {w : World} {base g n cap : Nat} {l : List UInt8} (h : w.ownsRow base 5 1 (.slice (some ⟨g, 0, none⟩) n cap) n (Lib.byteCells l)) : BsIn w (some ⟨g, 0, none⟩) l := fun i x hx => by
  refine ⟨g, 0, rfl, ?_⟩
  have hc := h.cells (g := g) rfl i (.int .u8 x.toNat) (by rw [Lib.byteCells, List.getElem?_map, hx]; rfl)
  unfold Addr.add at hc
  split at hc
  · next h0 => subst h0; exact hc
  · simpa using hc
theorem conv_row {w : World} {base n : Nat} {v : Value} {l : List UInt8} (h : w.ownsRow base 5 1 v n (Lib.byteCells l)) (hl : 0 < l.length) : (convert 30 9 v).run Tryz.prog w = .ok (.string ⟨l.toArray⟩) w := by
  have hn : l.length = n := by have := h.1; rw [Lib.byteCells_length] at this; omega
  obtain ⟨g, cap, rfl⟩ := Joins.ownsRow_form h (by omega)
  exact conv_bs (BsIn.of_row h) hn
end Go.Proofs.YtpklgpdlkdlbbaaGreatDoor

/-
  fermatalaw07.awake.
-/
namespace Go.Proofs.YtpklgpdlkdlbbaaGreatDoor
open Go Go.RowKit
attribute [local go_sem ↓] Go.wp_at_zero Go.wp_at_succ
attribute [local go_sem] Oper.semAt_some wide_fn wide_depth wide_fnR wide_depthR
attribute [local go_sem high] run_neq_k
/-- The boxes of keys of the walk, what is laid, and what is kept. -/
structure Aw (ks : List (Nat × Key3)) (w W : World) : Prop where
  keys : ∀ p ∈ ks, KeyAt W p.1 p.2
  laid : Laid7 W
  fr : Fr0 none' w W
theorem Aw.later {ks : List (Nat × Key3)} {w W W' : World} (h : Aw ks w W) (hf : Fr0 none' W W') : Aw ks w W' := ⟨fun p hp => (h.keys p hp).fr0 hf id, h.laid.later hf, h.fr.trans hf⟩
theorem Aw.cell {ks : List (Nat × Key3)} {w W : World} (h : Aw ks w W) {b : Nat} {k : Key3} (hm : (b, k) ∈ ks) : W.cell? ⟨b, 0, none⟩ = some (.int .i64 k.time) ∧ W.cell? ⟨b, 1, none⟩ = some (.int .i64 k.source) ∧ W.cell? ⟨b, 2, none⟩ = some (.int .i64 k.seq) :=
  ⟨(h.keys _ hm).cell (i := 0) (by omega), (h.keys _ hm).cell (i := 1) (by omega), (h.keys _ hm).cell (i := 2) (by omega)⟩
theorem Aw.new {ks : List (Nat × Key3)} {w W : World} (h : Aw ks w W) (k : Key3) : Aw ((W.heap.size, k) :: ks) w (W.alloc (.cells #[.int .i64 k.time, .int .i64 k.source, .int .i64 k.seq] 28)) :=
  ⟨fun p hp => by
    rcases List.mem_cons.1 hp with rfl | hp
    · exact World.alloc_heap_new W _
    · exact KeyAt.alloc (h.keys p hp) _, h.laid.later ((Fr0.refl _ _).alloc _), h.fr.alloc _⟩
theorem Aw.start {w : World} (h : Laid7 w) : Aw [] w w := ⟨fun _ hp => (by cases hp), h, Fr0.refl _ _⟩
theorem ss_lit : ss [⟨5, 1, 1⟩, ⟨3, 0, 0⟩, ⟨5, 1, 1⟩] = [⟨3, 0, 0⟩, ⟨5, 1, 1⟩] := inc_ext (ss_inc _) (by unfold Inc; decide) (fun x => by
  rw [ss_mem]
  simp only [List.mem_cons, List.not_mem_nil, or_false]
  constructor
  · rintro (h | h | h)
    · exact .inr h
    · exact .inl h
    · exact .inr h
  · rintro (h | h)
    · exact .inr (.inl h)
    · exact .inl h)
theorem bad4 {W wr : World} {q i : Nat} (h : W.heap[q]? = some (.cells #[.string ⟨#[48, 53, 64, 50, 35, 55]⟩, .string ⟨#[53, 64, 50]⟩, .string ⟨#[53, 64, 49, 55, 35, 48]⟩, .string ⟨#[53, 64, 50, 35, 43, 55]⟩] 9 (0, 0))) (hf : Fr0 none' W wr) (hi : i < 4) :
    ∃ s : ByteArray, wr.cell? ⟨q, i, none⟩ = some (.string s) ∧ parseV s.data.toList = .tuple #[.agg #[.int .i64 0, .int .i64 0, .int .i64 0], .int .i64 72] ∧ s.size ≤ 1000 := by
  have h' := (hf.block q (Array.getElem?_eq_some_iff.1 h).1 id).trans h
  have p1 : (parseK [48, 53, 64, 50, 35, 55]).isSome = false := by decide +kernel
  have p2 : (parseK [53, 64, 50]).isSome = false := by decide +kernel
  have p3 : (parseK [53, 64, 49, 55, 35, 48]).isSome = false := by decide +kernel
  have p4 : (parseK [53, 64, 50, 35, 43, 55]).isSome = false := by decide +kernel
  match i, hi with
  | 0, _ => exact ⟨_, by rw [cellsK_at h']; rfl, by unfold parseV; rw [p1]; rfl, by decide⟩
  | 1, _ => exact ⟨_, by rw [cellsK_at h']; rfl, by unfold parseV; rw [p2]; rfl, by decide⟩
  | 2, _ => exact ⟨_, by rw [cellsK_at h']; rfl, by unfold parseV; rw [p3]; rfl, by decide⟩
  | 3, _ => exact ⟨_, by rw [cellsK_at h']; rfl, by unfold parseV; rw [p4]; rfl, by decide⟩
/-- Integers of a block. -/
def IA (w : World) (b : Nat) (xs : List Int) : Prop := ∀ j, j < xs.length → w.cell? ⟨b, 0 + j, none⟩ = some (.int .i64 (xs.getD j 0))
theorem IA.later {w w' : World} {b : Nat} {xs : List Int} (h : IA w b xs) (hf : Fr0 none' w w') : IA w' b xs := fun j hj => hf.later (h j hj)
theorem IA.of_row {w : World} {base g cap : Nat} (h : w.ownsRow base 3 1 (.slice (some ⟨g, 0, none⟩) 3 cap) 3 (([1, 0, 2] : List (Fin 3)).map encI)) : IA w g [1, 0, 2] := fun j hj => by
  match j, hj with
  | 0, _ => exact h.cells (g := g) rfl 0 _ rfl
  | 1, _ => exact h.cells (g := g) rfl 1 _ rfl
  | 2, _ => exact h.cells (g := g) rfl 2 _ rfl
theorem IA.of_block {w : World} {b : Nat} (h : w.heap[b]? = some (.cells #[.int .i64 1, .int .i64 0, .int .i64 2] 3 (0, 0))) : IA w b [1, 0, 2] := fun j hj => by
  rw [cellsK_at h]
  match j, hj with
  | 0, _ => rfl
  | 1, _ => rfl
  | 2, _ => rfl
theorem next_lit (k n : Key3) (hk : RightK k) (hn : nextK k = some n) (w : World) : Calls Tryz.prog 9 #[keyV k] w fun e w' => e = .returned (.tuple #[keyV n, .int .i64 0]) ∧ Fr0 none' w w' := by
  have h := Next_any k w
  rw [if_pos hk, hn] at h
  exact h
theorem back_lit (k n : Key3) (hk : RightK k) (hn : backK k = some n) (w : World) : Calls Tryz.prog 10 #[keyV k] w fun e w' => e = .returned (.tuple #[keyV n, .int .i64 0]) ∧ Fr0 none' w w' := by
  have h := Back_any k w
  rw [if_pos hk, hn] at h
  exact h
set_option maxRecDepth 100000 in
set_option maxHeartbeats 8000000 in
theorem awake_any (w : World) (hL : Laid7 w) :
    Calls Tryz.prog 5 #[] w fun e w' => e = .returned (.bool true) ∧ Fr0 none' w w' := by
  have HT := Lib.hid (Text_any ⟨5, 2, 7⟩ (by decide))
  have HB := Lib.hid (Bytes_any ⟨5, 2, 7⟩ (by decide))
  have HN1 := Lib.hid (next_lit ⟨5, 2, 4294967295⟩ ⟨5, 3, 0⟩ (by decide) (by decide))
  have HN2 := Lib.hid (next_lit ⟨5, 16, 4294967295⟩ ⟨6, 0, 0⟩ (by decide) (by decide))
  have HK := Lib.hid (back_lit ⟨6, 0, 0⟩ ⟨5, 16, 4294967295⟩ (by decide) (by decide))
  have HC := Lib.hid (Compare_any ⟨5, 2, 7⟩ ⟨5, 3, 0⟩)
  simp only [keyV] at HT HB HN1 HN2 HK HC
  go_enter Tryz.func5, Tryz.ntmps5
  go_wp2_with fail
  have S := Lib.hid ((Aw.start hL).new ⟨5, 2, 7⟩)
  obtain ⟨a, ha⟩ : ∃ a, w.heap.size = a := ⟨_, rfl⟩
  obtain ⟨w1, hw1⟩ : ∃ w1, (w.alloc (.cells #[.int .i64 5, .int .i64 2, .int .i64 7] 28)) = w1 := ⟨_, rfl⟩
  have hb : w1.heap.size = a + 1 := by rw [← hw1, ← ha]; simp
  dsimp only at S
  rw [hw1, ha] at S
  rw [hw1, ha]
  have S := Lib.hid (S.out.new ⟨5, 3, 0⟩)
  dsimp only at S
  rw [hb] at S
  obtain ⟨w2, hw2⟩ : ∃ w2, (w1.alloc (.cells #[.int .i64 5, .int .i64 3, .int .i64 0] 28)) = w2 := ⟨_, rfl⟩
  rw [hw2] at S
  rw [hw2]
  clear hw2 hb hw1 ha
  refine (HT.out _ S.out.laid).mono ?_
  rintro e w3 ⟨rfl, hf⟩
  rw [show textK ⟨5, 2, 7⟩ = [53, 64, 50, 35, 55] from by decide +kernel]
  have S := Lib.hid (S.out.later hf)
  clear hf
  have ⟨c0, c1, c2⟩ := S.out.cell (b := a) (k := ⟨5, 2, 7⟩) (by simp)
  go_wp2_with fail
  refine (HB.out _).mono ?_
  rintro e w4 ⟨v, rfl, hr, hf⟩
  have S := Lib.hid (S.out.later hf)
  have R := Lib.hid hr
  clear hf hr c0 c1 c2
  have ⟨c0, c1, c2⟩ := S.out.cell (b := a) (k := ⟨5, 2, 7⟩) (by simp)
  have ⟨d0, d1, d2⟩ := S.out.cell (b := a + 1) (k := ⟨5, 3, 0⟩) (by simp)
  go_wp2_with fail
  refine (HC.out _).mono ?_
  rintro e w5 ⟨rfl, hf⟩
  rw [show cmpK ⟨5, 2, 7⟩ ⟨5, 3, 0⟩ = -1 from by decide, show fieldK ⟨5, 2, 7⟩ ⟨5, 3, 0⟩ = 2 from by decide]
  have S := Lib.hid (S.out.later hf.to0)
  have R := Lib.hid (ownsRow_fr0 R.out hf.to0 (fun _ _ => id))
  clear hf c0 c1 c2 d0 d1 d2
  go_wp2_with fail
  refine (HN1.out _).mono ?_
  rintro e w6 ⟨rfl, hf⟩
  have S := Lib.hid (S.out.later hf)
  have R := Lib.hid (ownsRow_fr0 R.out hf (fun _ _ => id))
  clear hf
  go_wp2_with fail
  have R := Lib.hid (ownsRow_fr0 R.out ((Fr0.refl none' w6).alloc (.cells #[.int .i64 (⟨5, 3, 0⟩ : Key3).time, .int .i64 (⟨5, 3, 0⟩ : Key3).source, .int .i64 (⟨5, 3, 0⟩ : Key3).seq] 28)) (fun _ _ => id))
  have S := Lib.hid (S.out.new ⟨5, 3, 0⟩)
  obtain ⟨n, hn⟩ : ∃ n, w6.heap.size = n := ⟨_, rfl⟩
  obtain ⟨w6n, hw6n⟩ : ∃ w6n, (w6.alloc (.cells #[.int .i64 (⟨5, 3, 0⟩ : Key3).time, .int .i64 (⟨5, 3, 0⟩ : Key3).source, .int .i64 (⟨5, 3, 0⟩ : Key3).seq] 28)) = w6n := ⟨_, rfl⟩
  dsimp only at S R hw6n
  rw [hw6n, hn] at S
  rw [hw6n] at R
  rw [hw6n, hn]
  have hs6 : w6n.heap.size = n + 1 := by rw [← hw6n, ← hn]; simp
  clear hw6n hn
  refine (HN2.out _).mono ?_
  rintro e w8 ⟨rfl, hf⟩
  have S := Lib.hid (S.out.later hf)
  have R := Lib.hid (ownsRow_fr0 R.out hf (fun _ _ => id))
  clear hf
  go_wp2_with fail
  have R := Lib.hid (ownsRow_fr0 R.out ((Fr0.refl none' w8).alloc (.cells #[.int .i64 (⟨6, 0, 0⟩ : Key3).time, .int .i64 (⟨6, 0, 0⟩ : Key3).source, .int .i64 (⟨6, 0, 0⟩ : Key3).seq] 28)) (fun _ _ => id))
  have S := Lib.hid (S.out.new ⟨6, 0, 0⟩)
  obtain ⟨m, hm⟩ : ∃ m, w8.heap.size = m := ⟨_, rfl⟩
  obtain ⟨w8n, hw8n⟩ : ∃ w8n, (w8.alloc (.cells #[.int .i64 (⟨6, 0, 0⟩ : Key3).time, .int .i64 (⟨6, 0, 0⟩ : Key3).source, .int .i64 (⟨6, 0, 0⟩ : Key3).seq] 28)) = w8n := ⟨_, rfl⟩
  dsimp only at S R hw8n
  rw [hw8n, hm] at S
  rw [hw8n] at R
  rw [hw8n, hm]
  have hs8 : w8n.heap.size = m + 1 := by rw [← hw8n, ← hm]; simp
  clear hw8n hm
  refine (HK.out _).mono ?_
  rintro e w10 ⟨rfl, hf⟩
  have S := Lib.hid (S.out.later hf)
  have R := Lib.hid (ownsRow_fr0 R.out hf (fun _ _ => id))
  clear hf
  go_wp2_with fail
  clear HT HB HN1 HN2 HK HC
  have R := Lib.hid (ownsRow_fr0 R.out ((Fr0.refl none' w10).alloc (.cells #[.int .i64 (⟨5, 16, 4294967295⟩ : Key3).time, .int .i64 (⟨5, 16, 4294967295⟩ : Key3).source, .int .i64 (⟨5, 16, 4294967295⟩ : Key3).seq] 28)) (fun _ _ => id))
  have S := Lib.hid (S.out.new ⟨5, 16, 4294967295⟩)
  obtain ⟨p, hp⟩ : ∃ p, w10.heap.size = p := ⟨_, rfl⟩
  obtain ⟨w10n, hw10n⟩ : ∃ w10n, (w10.alloc (.cells #[.int .i64 (⟨5, 16, 4294967295⟩ : Key3).time, .int .i64 (⟨5, 16, 4294967295⟩ : Key3).source, .int .i64 (⟨5, 16, 4294967295⟩ : Key3).seq] 28)) = w10n := ⟨_, rfl⟩
  dsimp only at S R hw10n
  rw [hw10n, hp] at S
  rw [hw10n] at R
  rw [hw10n, hp]
  have hs10 : w10n.heap.size = p + 1 := by rw [← hw10n, ← hp]; simp
  clear hw10n hp
  obtain ⟨w11, hw11⟩ : ∃ w11, (w10n.alloc (.cells #[.int .i64 5, .int .i64 1, .int .i64 1, .int .i64 3, .int .i64 0, .int .i64 0, .int .i64 5, .int .i64 1, .int .i64 1] 28)) = w11 := ⟨_, rfl⟩
  have P := Lib.hid (show KsIn w11 (some ⟨p + 1, 0, none⟩) [⟨5, 1, 1⟩, ⟨3, 0, 0⟩, ⟨5, 1, 1⟩] from by
    rw [← hw11, ← hs10]
    exact KsIn.of_cells (World.alloc_heap_new w10n _) rfl rfl)
  have F11 : Fr0 none' w10n w11 := by rw [← hw11]; exact (Fr0.refl _ _).alloc _
  have S := Lib.hid (S.out.later F11)
  have R := Lib.hid (ownsRow_fr0 R.out F11 (fun _ _ => id))
  rw [hw11]
  clear hw11 F11 hs6 hs8 hs10
  refine (Sort_some (cap := 3) _ P.out rfl (by simp)).mono ?_
  rintro e w12 ⟨u, rfl, hr, hf⟩
  rw [ss_lit] at hr
  have S := Lib.hid (S.out.later hf)
  have R := Lib.hid (ownsRow_fr0 R.out hf (fun _ _ => id))
  have P := Lib.hid (P.out.later hf)
  obtain ⟨g, cap, rfl⟩ := Joins.ownsRow_form hr (by simp)
  have U := Lib.hid (rowKs hr rfl)
  clear hr hf
  go_wp2_with fail
  refine (Search_any [⟨3, 0, 0⟩, ⟨5, 1, 1⟩] ⟨4, 0, 0⟩ U.out rfl (by simp)).mono ?_
  rintro e w13 ⟨rfl, hf⟩
  rw [show searchV [⟨3, 0, 0⟩, ⟨5, 1, 1⟩] ⟨4, 0, 0⟩ = .tuple #[.int .i64 1, .bool false, .int .i64 0] from by unfold searchV; rw [if_pos (by unfold Inc; decide)]; rfl]
  have S := Lib.hid (S.out.later hf)
  have R := Lib.hid (ownsRow_fr0 R.out hf (fun _ _ => id))
  have P := Lib.hid (P.out.later hf)
  have U := Lib.hid (U.out.later hf)
  clear hf
  have hcv := conv_row R.out (by simp [bytesK_length])
  rw [show bytesK ⟨5, 2, 7⟩ = [0, 0, 0, 0, 0, 0, 5, 2, 0, 0, 0, 7] from by decide +kernel] at hcv
  have ⟨c0, c1, c2⟩ := S.out.cell (b := n) (k := ⟨5, 3, 0⟩) (by simp)
  have ⟨d0, d1, d2⟩ := S.out.cell (b := a + 1) (k := ⟨5, 3, 0⟩) (by simp)
  have ⟨e0, e1, e2⟩ := S.out.cell (b := m) (k := ⟨6, 0, 0⟩) (by simp)
  have ⟨f0, f1, f2⟩ := S.out.cell (b := p) (k := ⟨5, 16, 4294967295⟩) (by simp)
  go_wp2_with fail
  clear c0 c1 c2 d0 d1 d2 e0 e1 e2 f0 f1 f2 hcv R
  obtain ⟨q, hq⟩ : ∃ q, w13.heap.size = q := ⟨_, rfl⟩
  obtain ⟨W, hW⟩ : ∃ W, w13.alloc (.cells #[.string ⟨#[48, 53, 64, 50, 35, 55]⟩, .string ⟨#[53, 64, 50]⟩, .string ⟨#[53, 64, 49, 55, 35, 48]⟩, .string ⟨#[53, 64, 50, 35, 43, 55]⟩] 9) = W := ⟨_, rfl⟩
  have F14 : Fr0 none' w13 W := by rw [← hW]; exact (Fr0.refl _ _).alloc _
  have Q := Lib.hid (show W.heap[q]? = some (.cells #[.string ⟨#[48, 53, 64, 50, 35, 55]⟩, .string ⟨#[53, 64, 50]⟩, .string ⟨#[53, 64, 49, 55, 35, 48]⟩, .string ⟨#[53, 64, 50, 35, 43, 55]⟩] 9 (0, 0)) by rw [← hW, ← hq]; exact World.alloc_heap_new w13 _)
  have S := Lib.hid (S.out.later F14)
  have P := Lib.hid (P.out.later F14)
  have U := Lib.hid (U.out.later F14)
  rw [hW]
  try rw [hq]
  clear hW hq F14
  go_loopw [21, 22, 23, 116] (fun _ _ _ c wr => ∃ i : Nat, i ≤ 4 ∧ c = .int .i64 i ∧ Hid (Fr0 none' W wr)) (fun _ _ _ c _ => 4 - (Go.RowKit.intOf c).toNat)
  case atStart => exact ⟨0, Nat.zero_le _, rfl, Fr0.refl _ _⟩
  case round =>
    obtain ⟨i, hi, rfl, hf⟩ := hrel
    by_cases hlt : i < 4
    · have d0 : decide ((i : Int) < 4) = true := decide_eq_true (by omega)
      have e5 : IntKind.i64.wrap ((i : Int) + 1) = (i : Int) + 1 := IntWalk.i64_in _ (by omega)
      have b1 : (0 : Int) ≤ (i : Int) := by omega
      have b2 : (i : Int) < 4 := by omega
      obtain ⟨s, hs, hp, hz⟩ := bad4 Q.out hf.out hlt
      have Hp := Lib.hid hp
      have Hz := Lib.hid hz
      clear hp hz
      go_wp2_with fail
      refine (Parse_any s Hz.out _ (S.out.laid.later hf.out)).mono ?_
      rintro e wq ⟨rfl, hf2⟩
      rw [Hp.out]
      have HF2 := Lib.hid (hf.out.trans hf2)
      clear hf2 hs
      go_wp2_with fail
      refine ⟨⟨i + 1, by omega, by simp, HF2.out.alloc _⟩, ?_⟩
      simp only [Go.RowKit.intOf]
      omega
    · have d0 : decide ((i : Int) < 4) = false := decide_eq_false (by omega)
      have S := Lib.hid (S.out.later hf.out)
      have P := Lib.hid (P.out.later hf.out)
      have U := Lib.hid (U.out.later hf.out)
      clear hf Q hi
      go_wp2_with fail
      clear d0 hlt
      obtain ⟨g1, o1, e, hx⟩ := P.out 1 ⟨3, 0, 0⟩ rfl
      cases e
      obtain ⟨g1, o1, e, hy⟩ := P.out 0 ⟨5, 1, 1⟩ rfl
      cases e
      refine wp_region_held_drew (S := fun W' => KAt W' (p + 1) 3 ⟨3, 0, 0⟩ ∧ KAt W' (p + 1) 0 ⟨5, 1, 1⟩) (by kernel_rfl) ⟨hx, hy⟩ (fun hHeld => ?_)
      clear hx hy
      refine take_on (i := 0) (v := .slice (some ⟨p + 1, 0, none⟩) 3 3) rfl (by kernel_rfl) (by kernel_rfl) (by kernel_rfl) (fun _ _ _ h => h) (by kernel_rfl) (fun W' hSW => ?_) (by assumption) ?_
      · obtain ⟨⟨x0, x1, x2⟩, ⟨y0, y1, y2⟩⟩ := hSW
        first | (go_simp; done) | exact rfl | (go_simp; rfl) | (go_simp; omega)
      try simp only [Act.put, List.setIfInBounds_toArray, List.set_cons_zero, List.set_cons_succ]
      refine wpAnyH_ready (rs := [1, 2]) (by kernel_rfl) (by simp) (AllReadyH.cons (op_at rfl) (fun K hK => ?_) (AllReadyH.cons (op_at rfl) (fun K hK => ?_) AllReadyH.nil))
      · rw [if_pos (by kernel_rfl)]
        go_simp
        obtain ⟨wd, hwd⟩ : ∃ W', (wr).drew = W' := ⟨_, rfl⟩
        have hfd : Fr0 none' wr wd := by rw [← hwd]; exact (Fr0.refl _ _).drew
        rw [hwd]
        have S := Lib.hid (S.out.later hfd)
        have U := Lib.hid (U.out.later hfd)
        have P := Lib.hid (P.out.later hfd)
        clear hwd
        clear hfd
        refine (Order_small [⟨5, 1, 1⟩, ⟨3, 0, 0⟩, ⟨5, 1, 1⟩] (p + 1) 0 3 3 wd P.out rfl (by omega) (by omega)).mono ?_
        rintro e wa ⟨R, rc, rfl, hr, hf⟩
        rw [show (ordS [⟨5, 1, 1⟩, ⟨3, 0, 0⟩, ⟨5, 1, 1⟩] 3).toList = [1, 0, 2] from by decide +kernel] at hr
        have S := Lib.hid (S.out.later hf)
        have P := Lib.hid (P.out.later hf)
        have U := Lib.hid (U.out.later hf)
        have I1 := Lib.hid (IA.of_row hr)
        clear hf hr
        go_wp2_with fail
        obtain ⟨g1, o1, e, hx⟩ := P.out 1 ⟨3, 0, 0⟩ rfl
        cases e
        obtain ⟨g1, o1, e, hy⟩ := P.out 0 ⟨5, 1, 1⟩ rfl
        cases e
        refine hK.out _ _ ⟨hx, hy⟩ (fun hHeld => ?_)
        clear hK K
        try simp only [Act.put, List.setIfInBounds_toArray, List.set_cons_zero, List.set_cons_succ]
        clear hx hy
        refine take_call (i := 2) rfl (by kernel_rfl) (by kernel_rfl) (fun K hK => ?_)
        go_simp
        obtain ⟨q, hq⟩ : ∃ q, wa.heap.size = q := ⟨_, rfl⟩
        obtain ⟨WZ, hWZ⟩ : ∃ W, wa.alloc (.cells #[.int .i64 1, .int .i64 0, .int .i64 2] 3) = W := ⟨_, rfl⟩
        have I2 := Lib.hid (IA.of_block (show WZ.heap[q]? = some (.cells #[.int .i64 1, .int .i64 0, .int .i64 2] 3 (0, 0)) by rw [← hWZ, ← hq]; exact World.alloc_heap_new wa _))
        have hfz : Fr0 none' wa WZ := by rw [← hWZ]; exact (Fr0.refl _ _).alloc _
        have S := Lib.hid (S.out.later hfz)
        have P := Lib.hid (P.out.later hfz)
        have U := Lib.hid (U.out.later hfz)
        have I1 := Lib.hid (I1.out.later hfz)
        rw [hWZ]
        try rw [hq]
        clear hq hWZ hfz
        obtain ⟨g1, o1, e, hx⟩ := P.out 1 ⟨3, 0, 0⟩ rfl
        cases e
        obtain ⟨g1, o1, e, hy⟩ := P.out 0 ⟨5, 1, 1⟩ rfl
        cases e
        refine hK.out _ _ ⟨hx, hy⟩ (fun hHeld => ?_)
        clear hK K
        try simp only [Act.put, List.setIfInBounds_toArray, List.set_cons_zero, List.set_cons_succ]
        clear hx hy
        refine take_call (i := 3) rfl (by kernel_rfl) (by kernel_rfl) (fun K hK => ?_)
        go_simp
        refine (Tryz.slices_Equal_int R 0 3 rc q 0 3 3 [1, 0, 2] [1, 0, 2] _ (by simp) (by simp) (by omega) (by omega) I1.out I2.out).mono ?_
        rintro e wE ⟨rfl, qn, hqn⟩
        have hfE : Fr0 none' WZ wE := by rw [hqn]; exact ((Fr.refl none' WZ).drewN qn).to0
        rw [show ((([1, 0, 2] : List Int).take 3) == (([1, 0, 2] : List Int).take 3)) = true from rfl]
        have S := Lib.hid (S.out.later hfE)
        have P := Lib.hid (P.out.later hfE)
        have U := Lib.hid (U.out.later hfE)
        clear hqn hfE I1 I2
        go_wp2_with fail
        obtain ⟨g1, o1, e, hx⟩ := P.out 1 ⟨3, 0, 0⟩ rfl
        cases e
        obtain ⟨g1, o1, e, hy⟩ := P.out 0 ⟨5, 1, 1⟩ rfl
        cases e
        refine hK.out _ _ ⟨hx, hy⟩ (fun hHeld => ?_)
        clear hK K
        try simp only [Act.put, List.setIfInBounds_toArray, List.set_cons_zero, List.set_cons_succ]
        clear hx hy
        refine take_on (i := 4) (v := .bool true) rfl (by kernel_rfl) (by kernel_rfl) (by kernel_rfl) (fun _ _ _ h => h) (by kernel_rfl) (fun W' hSW => ?_) (by assumption) ?_
        · obtain ⟨⟨x0, x1, x2⟩, ⟨y0, y1, y2⟩⟩ := hSW
          first | (go_simp; done) | exact rfl | (go_simp; rfl) | (go_simp; omega)
        try simp only [Act.put, List.setIfInBounds_toArray, List.set_cons_zero, List.set_cons_succ]
        refine take_on (i := 5) (v := .slice (some ⟨g, 0, none⟩) 2 cap) rfl (by kernel_rfl) (by kernel_rfl) (by kernel_rfl) (fun _ _ _ h => h) (by kernel_rfl) (fun W' hSW => ?_) (by assumption) ?_
        · obtain ⟨⟨x0, x1, x2⟩, ⟨y0, y1, y2⟩⟩ := hSW
          first | (go_simp; done) | exact rfl | (go_simp; rfl) | (go_simp; omega)
        try simp only [Act.put, List.setIfInBounds_toArray, List.set_cons_zero, List.set_cons_succ]
        refine take_on (i := 6) (v := .slice (some ⟨p + 1, 0, none⟩) 3 3) rfl (by kernel_rfl) (by kernel_rfl) (by kernel_rfl) (fun _ _ _ h => h) (by kernel_rfl) (fun W' hSW => ?_) (by assumption) ?_
        · obtain ⟨⟨x0, x1, x2⟩, ⟨y0, y1, y2⟩⟩ := hSW
          first | (go_simp; done) | exact rfl | (go_simp; rfl) | (go_simp; omega)
        try simp only [Act.put, List.setIfInBounds_toArray, List.set_cons_zero, List.set_cons_succ]
        refine take_on (i := 7) (v := .pointer (some ⟨p + 1, 3, none⟩)) rfl (by kernel_rfl) (by kernel_rfl) (by kernel_rfl) (fun _ _ _ h => h) (by kernel_rfl) (fun W' hSW => ?_) (by assumption) ?_
        · obtain ⟨⟨x0, x1, x2⟩, ⟨y0, y1, y2⟩⟩ := hSW
          first | (go_simp; done) | exact rfl | (go_simp; rfl) | (go_simp; omega)
        try simp only [Act.put, List.setIfInBounds_toArray, List.set_cons_zero, List.set_cons_succ]
        refine take_on (i := 8) (v := .agg #[.int .i64 3, .int .i64 0, .int .i64 0]) rfl (by kernel_rfl) (by kernel_rfl) (by kernel_rfl) (fun _ _ _ h => h) (by kernel_rfl) (fun W' hSW => ?_) (by assumption) ?_
        · obtain ⟨⟨x0, x1, x2⟩, ⟨y0, y1, y2⟩⟩ := hSW
          first | (go_simp; done) | exact rfl | (go_simp; rfl) | (go_simp; omega)
        try simp only [Act.put, List.setIfInBounds_toArray, List.set_cons_zero, List.set_cons_succ]
        refine take_on (i := 9) (v := .slice (some ⟨p + 1, 0, none⟩) 3 3) rfl (by kernel_rfl) (by kernel_rfl) (by kernel_rfl) (fun _ _ _ h => h) (by kernel_rfl) (fun W' hSW => ?_) (by assumption) ?_
        · obtain ⟨⟨x0, x1, x2⟩, ⟨y0, y1, y2⟩⟩ := hSW
          first | (go_simp; done) | exact rfl | (go_simp; rfl) | (go_simp; omega)
        try simp only [Act.put, List.setIfInBounds_toArray, List.set_cons_zero, List.set_cons_succ]
        refine take_on (i := 10) (v := .pointer (some ⟨p + 1, 0, none⟩)) rfl (by kernel_rfl) (by kernel_rfl) (by kernel_rfl) (fun _ _ _ h => h) (by kernel_rfl) (fun W' hSW => ?_) (by assumption) ?_
        · obtain ⟨⟨x0, x1, x2⟩, ⟨y0, y1, y2⟩⟩ := hSW
          first | (go_simp; done) | exact rfl | (go_simp; rfl) | (go_simp; omega)
        try simp only [Act.put, List.setIfInBounds_toArray, List.set_cons_zero, List.set_cons_succ]
        refine take_on (i := 11) (v := .agg #[.int .i64 5, .int .i64 1, .int .i64 1]) rfl (by kernel_rfl) (by kernel_rfl) (by kernel_rfl) (fun _ _ _ h => h) (by kernel_rfl) (fun W' hSW => ?_) (by assumption) ?_
        · obtain ⟨⟨x0, x1, x2⟩, ⟨y0, y1, y2⟩⟩ := hSW
          first | (go_simp; done) | exact rfl | (go_simp; rfl) | (go_simp; omega)
        try simp only [Act.put, List.setIfInBounds_toArray, List.set_cons_zero, List.set_cons_succ]
        refine take_call (i := 12) rfl (by kernel_rfl) (by kernel_rfl) (fun K hK => ?_)
        go_simp
        obtain ⟨r, hr⟩ : ∃ r, wE.heap.size = r := ⟨_, rfl⟩
        obtain ⟨wL, hwL⟩ : ∃ W, wE.alloc (.cells #[.int .i64 3, .int .i64 0, .int .i64 0, .int .i64 5, .int .i64 1, .int .i64 1] 28) = W := ⟨_, rfl⟩
        have V := Lib.hid (show KsIn wL (some ⟨r, 0, none⟩) [⟨3, 0, 0⟩, ⟨5, 1, 1⟩] from by
          rw [← hwL, ← hr]
          exact KsIn.of_cells (World.alloc_heap_new wE _) rfl rfl)
        have hfz : Fr0 none' wE wL := by rw [← hwL]; exact (Fr0.refl _ _).alloc _
        have S := Lib.hid (S.out.later hfz)
        have P := Lib.hid (P.out.later hfz)
        have U := Lib.hid (U.out.later hfz)
        rw [hwL]
        try rw [hr]
        clear hwL hr hfz
        obtain ⟨g1, o1, e, hx⟩ := P.out 1 ⟨3, 0, 0⟩ rfl
        cases e
        obtain ⟨g1, o1, e, hy⟩ := P.out 0 ⟨5, 1, 1⟩ rfl
        cases e
        refine hK.out _ _ ⟨hx, hy⟩ (fun hHeld => ?_)
        clear hK K
        try simp only [Act.put, List.setIfInBounds_toArray, List.set_cons_zero, List.set_cons_succ]
        clear hx hy
        refine take_call (i := 13) rfl (by kernel_rfl) (by kernel_rfl) (fun K hK => ?_)
        go_simp
        refine (sameKs_any _ _ 2 2 cap 2 _ _ wL rfl rfl (by omega) (by omega) U.out V.out).mono ?_
        rintro e wM ⟨rfl, hfM⟩
        rw [show decide (([⟨3, 0, 0⟩, ⟨5, 1, 1⟩] : List Key3) = [⟨3, 0, 0⟩, ⟨5, 1, 1⟩]) = true from by decide]
        have S := Lib.hid (S.out.later hfM)
        have P := Lib.hid (P.out.later hfM)
        clear hfM
        go_wp2_with fail
        obtain ⟨g1, o1, e, hx⟩ := P.out 1 ⟨3, 0, 0⟩ rfl
        cases e
        obtain ⟨g1, o1, e, hy⟩ := P.out 0 ⟨5, 1, 1⟩ rfl
        cases e
        refine hK.out _ _ ⟨hx, hy⟩ (fun hHeld => ?_)
        clear hK K
        try simp only [Act.put, List.setIfInBounds_toArray, List.set_cons_zero, List.set_cons_succ]
        clear hx hy
        refine take_on (i := 14) (v := .bool true) rfl (by kernel_rfl) (by kernel_rfl) (by kernel_rfl) (fun _ _ _ h => h) (by kernel_rfl) (fun W' hSW => ?_) (by assumption) ?_
        · obtain ⟨⟨x0, x1, x2⟩, ⟨y0, y1, y2⟩⟩ := hSW
          first | (go_simp; done) | exact rfl | (go_simp; rfl) | (go_simp; omega)
        try simp only [Act.put, List.setIfInBounds_toArray, List.set_cons_zero, List.set_cons_succ]
        refine take_on (i := 15) (v := .bool true) rfl (by kernel_rfl) (by kernel_rfl) (by kernel_rfl) (fun _ _ _ h => h) (by kernel_rfl) (fun W' hSW => ?_) (by assumption) ?_
        · obtain ⟨⟨x0, x1, x2⟩, ⟨y0, y1, y2⟩⟩ := hSW
          first | (go_simp; done) | exact rfl | (go_simp; rfl) | (go_simp; omega)
        try simp only [Act.put, List.setIfInBounds_toArray, List.set_cons_zero, List.set_cons_succ]
        refine take_on (i := 16) (v := .int .i64 1) rfl (by kernel_rfl) (by kernel_rfl) (by kernel_rfl) (fun _ _ _ h => h) (by kernel_rfl) (fun W' hSW => ?_) (by assumption) ?_
        · obtain ⟨⟨x0, x1, x2⟩, ⟨y0, y1, y2⟩⟩ := hSW
          first | (go_simp; done) | exact rfl | (go_simp; rfl) | (go_simp; omega)
        try simp only [Act.put, List.setIfInBounds_toArray, List.set_cons_zero, List.set_cons_succ]
        refine take_on (i := 17) (v := .bool true) rfl (by kernel_rfl) (by kernel_rfl) (by kernel_rfl) (fun _ _ _ h => h) (by kernel_rfl) (fun W' hSW => ?_) (by assumption) ?_
        · obtain ⟨⟨x0, x1, x2⟩, ⟨y0, y1, y2⟩⟩ := hSW
          first | (go_simp; done) | exact rfl | (go_simp; rfl) | (go_simp; omega)
        try simp only [Act.put, List.setIfInBounds_toArray, List.set_cons_zero, List.set_cons_succ]
        refine take_on (i := 18) (v := .bool true) rfl (by kernel_rfl) (by kernel_rfl) (by kernel_rfl) (fun _ _ _ h => h) (by kernel_rfl) (fun W' hSW => ?_) (by assumption) ?_
        · obtain ⟨⟨x0, x1, x2⟩, ⟨y0, y1, y2⟩⟩ := hSW
          first | (go_simp; done) | exact rfl | (go_simp; rfl) | (go_simp; omega)
        try simp only [Act.put, List.setIfInBounds_toArray, List.set_cons_zero, List.set_cons_succ]
        refine take_on (i := 19) (v := .bool true) rfl (by kernel_rfl) (by kernel_rfl) (by kernel_rfl) (fun _ _ _ h => h) (by kernel_rfl) (fun W' hSW => ?_) (by assumption) ?_
        · obtain ⟨⟨x0, x1, x2⟩, ⟨y0, y1, y2⟩⟩ := hSW
          first | (go_simp; done) | exact rfl | (go_simp; rfl) | (go_simp; omega)
        try simp only [Act.put, List.setIfInBounds_toArray, List.set_cons_zero, List.set_cons_succ]
        refine take_on (i := 20) (v := .bool false) rfl (by kernel_rfl) (by kernel_rfl) (by kernel_rfl) (fun _ _ _ h => h) (by kernel_rfl) (fun W' hSW => ?_) (by assumption) ?_
        · obtain ⟨⟨x0, x1, x2⟩, ⟨y0, y1, y2⟩⟩ := hSW
          first | (go_simp; done) | exact rfl | (go_simp; rfl) | (go_simp; omega)
        try simp only [Act.put, List.setIfInBounds_toArray, List.set_cons_zero, List.set_cons_succ]
        refine take_on (i := 21) (v := .bool true) rfl (by kernel_rfl) (by kernel_rfl) (by kernel_rfl) (fun _ _ _ h => h) (by kernel_rfl) (fun W' hSW => ?_) (by assumption) ?_
        · obtain ⟨⟨x0, x1, x2⟩, ⟨y0, y1, y2⟩⟩ := hSW
          first | (go_simp; done) | exact rfl | (go_simp; rfl) | (go_simp; omega)
        try simp only [Act.put, List.setIfInBounds_toArray, List.set_cons_zero, List.set_cons_succ]
        refine take_on (i := 22) (v := .bool true) rfl (by kernel_rfl) (by kernel_rfl) (by kernel_rfl) (fun _ _ _ h => h) (by kernel_rfl) (fun W' hSW => ?_) (by assumption) ?_
        · obtain ⟨⟨x0, x1, x2⟩, ⟨y0, y1, y2⟩⟩ := hSW
          first | (go_simp; done) | exact rfl | (go_simp; rfl) | (go_simp; omega)
        try simp only [Act.put, List.setIfInBounds_toArray, List.set_cons_zero, List.set_cons_succ]
        refine take_on (i := 23) (v := .bool true) rfl (by kernel_rfl) (by kernel_rfl) (by kernel_rfl) (fun _ _ _ h => h) (by kernel_rfl) (fun W' hSW => ?_) (by assumption) ?_
        · obtain ⟨⟨x0, x1, x2⟩, ⟨y0, y1, y2⟩⟩ := hSW
          first | (go_simp; done) | exact rfl | (go_simp; rfl) | (go_simp; omega)
        try simp only [Act.put, List.setIfInBounds_toArray, List.set_cons_zero, List.set_cons_succ]
        refine wpAnyH_done (by kernel_rfl) ?_ _
        go_wp2
        go_ret
        exact ⟨rfl, S.out.fr⟩
      · rw [if_pos (by kernel_rfl)]
        go_simp
        obtain ⟨q, hq⟩ : ∃ q, wr.heap.size = q := ⟨_, rfl⟩
        obtain ⟨wd, hWZ⟩ : ∃ W, (wr.alloc (.cells #[.int .i64 1, .int .i64 0, .int .i64 2] 3)).drew = W := ⟨_, rfl⟩
        have I2 := Lib.hid (IA.of_block (show wd.heap[q]? = some (.cells #[.int .i64 1, .int .i64 0, .int .i64 2] 3 (0, 0)) by rw [← hWZ, ← hq]; exact World.alloc_heap_new wr _))
        have hfz : Fr0 none' wr wd := by rw [← hWZ]; exact ((Fr0.refl _ _).alloc _).drew
        have S := Lib.hid (S.out.later hfz)
        have P := Lib.hid (P.out.later hfz)
        have U := Lib.hid (U.out.later hfz)
        rw [hWZ]
        try rw [hq]
        clear hq hWZ hfz
        obtain ⟨g1, o1, e, hx⟩ := P.out 1 ⟨3, 0, 0⟩ rfl
        cases e
        obtain ⟨g1, o1, e, hy⟩ := P.out 0 ⟨5, 1, 1⟩ rfl
        cases e
        refine hK.out _ _ ⟨hx, hy⟩ (fun hHeld => ?_)
        clear hK K
        try simp only [Act.put, List.setIfInBounds_toArray, List.set_cons_zero, List.set_cons_succ]
        clear hx hy
        refine take_call (i := 1) rfl (by kernel_rfl) (by kernel_rfl) (fun K hK => ?_)
        go_simp
        refine (Order_small [⟨5, 1, 1⟩, ⟨3, 0, 0⟩, ⟨5, 1, 1⟩] (p + 1) 0 3 3 wd P.out rfl (by omega) (by omega)).mono ?_
        rintro e wa ⟨R, rc, rfl, hr, hf⟩
        rw [show (ordS [⟨5, 1, 1⟩, ⟨3, 0, 0⟩, ⟨5, 1, 1⟩] 3).toList = [1, 0, 2] from by decide +kernel] at hr
        have S := Lib.hid (S.out.later hf)
        have P := Lib.hid (P.out.later hf)
        have U := Lib.hid (U.out.later hf)
        have I1 := Lib.hid (IA.of_row hr)
        have I2 := Lib.hid (I2.out.later hf)
        clear hf hr
        go_wp2_with fail
        obtain ⟨g1, o1, e, hx⟩ := P.out 1 ⟨3, 0, 0⟩ rfl
        cases e
        obtain ⟨g1, o1, e, hy⟩ := P.out 0 ⟨5, 1, 1⟩ rfl
        cases e
        refine hK.out _ _ ⟨hx, hy⟩ (fun hHeld => ?_)
        clear hK K
        try simp only [Act.put, List.setIfInBounds_toArray, List.set_cons_zero, List.set_cons_succ]
        clear hx hy
        obtain ⟨WZ, hWZ⟩ : ∃ W, wa = W := ⟨_, rfl⟩
        rw [hWZ] at S P U I1 I2 hHeld ⊢
        clear hWZ
        refine take_call (i := 3) rfl (by kernel_rfl) (by kernel_rfl) (fun K hK => ?_)
        go_simp
        refine (Tryz.slices_Equal_int R 0 3 rc q 0 3 3 [1, 0, 2] [1, 0, 2] _ (by simp) (by simp) (by omega) (by omega) I1.out I2.out).mono ?_
        rintro e wE ⟨rfl, qn, hqn⟩
        have hfE : Fr0 none' WZ wE := by rw [hqn]; exact ((Fr.refl none' WZ).drewN qn).to0
        rw [show ((([1, 0, 2] : List Int).take 3) == (([1, 0, 2] : List Int).take 3)) = true from rfl]
        have S := Lib.hid (S.out.later hfE)
        have P := Lib.hid (P.out.later hfE)
        have U := Lib.hid (U.out.later hfE)
        clear hqn hfE I1 I2
        go_wp2_with fail
        obtain ⟨g1, o1, e, hx⟩ := P.out 1 ⟨3, 0, 0⟩ rfl
        cases e
        obtain ⟨g1, o1, e, hy⟩ := P.out 0 ⟨5, 1, 1⟩ rfl
        cases e
        refine hK.out _ _ ⟨hx, hy⟩ (fun hHeld => ?_)
        clear hK K
        try simp only [Act.put, List.setIfInBounds_toArray, List.set_cons_zero, List.set_cons_succ]
        clear hx hy
        refine take_on (i := 4) (v := .bool true) rfl (by kernel_rfl) (by kernel_rfl) (by kernel_rfl) (fun _ _ _ h => h) (by kernel_rfl) (fun W' hSW => ?_) (by assumption) ?_
        · obtain ⟨⟨x0, x1, x2⟩, ⟨y0, y1, y2⟩⟩ := hSW
          first | (go_simp; done) | exact rfl | (go_simp; rfl) | (go_simp; omega)
        try simp only [Act.put, List.setIfInBounds_toArray, List.set_cons_zero, List.set_cons_succ]
        refine take_on (i := 5) (v := .slice (some ⟨g, 0, none⟩) 2 cap) rfl (by kernel_rfl) (by kernel_rfl) (by kernel_rfl) (fun _ _ _ h => h) (by kernel_rfl) (fun W' hSW => ?_) (by assumption) ?_
        · obtain ⟨⟨x0, x1, x2⟩, ⟨y0, y1, y2⟩⟩ := hSW
          first | (go_simp; done) | exact rfl | (go_simp; rfl) | (go_simp; omega)
        try simp only [Act.put, List.setIfInBounds_toArray, List.set_cons_zero, List.set_cons_succ]
        refine take_on (i := 6) (v := .slice (some ⟨p + 1, 0, none⟩) 3 3) rfl (by kernel_rfl) (by kernel_rfl) (by kernel_rfl) (fun _ _ _ h => h) (by kernel_rfl) (fun W' hSW => ?_) (by assumption) ?_
        · obtain ⟨⟨x0, x1, x2⟩, ⟨y0, y1, y2⟩⟩ := hSW
          first | (go_simp; done) | exact rfl | (go_simp; rfl) | (go_simp; omega)
        try simp only [Act.put, List.setIfInBounds_toArray, List.set_cons_zero, List.set_cons_succ]
        refine take_on (i := 7) (v := .pointer (some ⟨p + 1, 3, none⟩)) rfl (by kernel_rfl) (by kernel_rfl) (by kernel_rfl) (fun _ _ _ h => h) (by kernel_rfl) (fun W' hSW => ?_) (by assumption) ?_
        · obtain ⟨⟨x0, x1, x2⟩, ⟨y0, y1, y2⟩⟩ := hSW
          first | (go_simp; done) | exact rfl | (go_simp; rfl) | (go_simp; omega)
        try simp only [Act.put, List.setIfInBounds_toArray, List.set_cons_zero, List.set_cons_succ]
        refine take_on (i := 8) (v := .agg #[.int .i64 3, .int .i64 0, .int .i64 0]) rfl (by kernel_rfl) (by kernel_rfl) (by kernel_rfl) (fun _ _ _ h => h) (by kernel_rfl) (fun W' hSW => ?_) (by assumption) ?_
        · obtain ⟨⟨x0, x1, x2⟩, ⟨y0, y1, y2⟩⟩ := hSW
          first | (go_simp; done) | exact rfl | (go_simp; rfl) | (go_simp; omega)
        try simp only [Act.put, List.setIfInBounds_toArray, List.set_cons_zero, List.set_cons_succ]
        refine take_on (i := 9) (v := .slice (some ⟨p + 1, 0, none⟩) 3 3) rfl (by kernel_rfl) (by kernel_rfl) (by kernel_rfl) (fun _ _ _ h => h) (by kernel_rfl) (fun W' hSW => ?_) (by assumption) ?_
        · obtain ⟨⟨x0, x1, x2⟩, ⟨y0, y1, y2⟩⟩ := hSW
          first | (go_simp; done) | exact rfl | (go_simp; rfl) | (go_simp; omega)
        try simp only [Act.put, List.setIfInBounds_toArray, List.set_cons_zero, List.set_cons_succ]
        refine take_on (i := 10) (v := .pointer (some ⟨p + 1, 0, none⟩)) rfl (by kernel_rfl) (by kernel_rfl) (by kernel_rfl) (fun _ _ _ h => h) (by kernel_rfl) (fun W' hSW => ?_) (by assumption) ?_
        · obtain ⟨⟨x0, x1, x2⟩, ⟨y0, y1, y2⟩⟩ := hSW
          first | (go_simp; done) | exact rfl | (go_simp; rfl) | (go_simp; omega)
        try simp only [Act.put, List.setIfInBounds_toArray, List.set_cons_zero, List.set_cons_succ]
        refine take_on (i := 11) (v := .agg #[.int .i64 5, .int .i64 1, .int .i64 1]) rfl (by kernel_rfl) (by kernel_rfl) (by kernel_rfl) (fun _ _ _ h => h) (by kernel_rfl) (fun W' hSW => ?_) (by assumption) ?_
        · obtain ⟨⟨x0, x1, x2⟩, ⟨y0, y1, y2⟩⟩ := hSW
          first | (go_simp; done) | exact rfl | (go_simp; rfl) | (go_simp; omega)
        try simp only [Act.put, List.setIfInBounds_toArray, List.set_cons_zero, List.set_cons_succ]
        refine take_call (i := 12) rfl (by kernel_rfl) (by kernel_rfl) (fun K hK => ?_)
        go_simp
        obtain ⟨r, hr⟩ : ∃ r, wE.heap.size = r := ⟨_, rfl⟩
        obtain ⟨wL, hwL⟩ : ∃ W, wE.alloc (.cells #[.int .i64 3, .int .i64 0, .int .i64 0, .int .i64 5, .int .i64 1, .int .i64 1] 28) = W := ⟨_, rfl⟩
        have V := Lib.hid (show KsIn wL (some ⟨r, 0, none⟩) [⟨3, 0, 0⟩, ⟨5, 1, 1⟩] from by
          rw [← hwL, ← hr]
          exact KsIn.of_cells (World.alloc_heap_new wE _) rfl rfl)
        have hfz : Fr0 none' wE wL := by rw [← hwL]; exact (Fr0.refl _ _).alloc _
        have S := Lib.hid (S.out.later hfz)
        have P := Lib.hid (P.out.later hfz)
        have U := Lib.hid (U.out.later hfz)
        rw [hwL]
        try rw [hr]
        clear hwL hr hfz
        obtain ⟨g1, o1, e, hx⟩ := P.out 1 ⟨3, 0, 0⟩ rfl
        cases e
        obtain ⟨g1, o1, e, hy⟩ := P.out 0 ⟨5, 1, 1⟩ rfl
        cases e
        refine hK.out _ _ ⟨hx, hy⟩ (fun hHeld => ?_)
        clear hK K
        try simp only [Act.put, List.setIfInBounds_toArray, List.set_cons_zero, List.set_cons_succ]
        clear hx hy
        refine take_call (i := 13) rfl (by kernel_rfl) (by kernel_rfl) (fun K hK => ?_)
        go_simp
        refine (sameKs_any _ _ 2 2 cap 2 _ _ wL rfl rfl (by omega) (by omega) U.out V.out).mono ?_
        rintro e wM ⟨rfl, hfM⟩
        rw [show decide (([⟨3, 0, 0⟩, ⟨5, 1, 1⟩] : List Key3) = [⟨3, 0, 0⟩, ⟨5, 1, 1⟩]) = true from by decide]
        have S := Lib.hid (S.out.later hfM)
        have P := Lib.hid (P.out.later hfM)
        clear hfM
        go_wp2_with fail
        obtain ⟨g1, o1, e, hx⟩ := P.out 1 ⟨3, 0, 0⟩ rfl
        cases e
        obtain ⟨g1, o1, e, hy⟩ := P.out 0 ⟨5, 1, 1⟩ rfl
        cases e
        refine hK.out _ _ ⟨hx, hy⟩ (fun hHeld => ?_)
        clear hK K
        try simp only [Act.put, List.setIfInBounds_toArray, List.set_cons_zero, List.set_cons_succ]
        clear hx hy
        refine take_on (i := 14) (v := .bool true) rfl (by kernel_rfl) (by kernel_rfl) (by kernel_rfl) (fun _ _ _ h => h) (by kernel_rfl) (fun W' hSW => ?_) (by assumption) ?_
        · obtain ⟨⟨x0, x1, x2⟩, ⟨y0, y1, y2⟩⟩ := hSW
          first | (go_simp; done) | exact rfl | (go_simp; rfl) | (go_simp; omega)
        try simp only [Act.put, List.setIfInBounds_toArray, List.set_cons_zero, List.set_cons_succ]
        refine take_on (i := 15) (v := .bool true) rfl (by kernel_rfl) (by kernel_rfl) (by kernel_rfl) (fun _ _ _ h => h) (by kernel_rfl) (fun W' hSW => ?_) (by assumption) ?_
        · obtain ⟨⟨x0, x1, x2⟩, ⟨y0, y1, y2⟩⟩ := hSW
          first | (go_simp; done) | exact rfl | (go_simp; rfl) | (go_simp; omega)
        try simp only [Act.put, List.setIfInBounds_toArray, List.set_cons_zero, List.set_cons_succ]
        refine take_on (i := 16) (v := .int .i64 1) rfl (by kernel_rfl) (by kernel_rfl) (by kernel_rfl) (fun _ _ _ h => h) (by kernel_rfl) (fun W' hSW => ?_) (by assumption) ?_
        · obtain ⟨⟨x0, x1, x2⟩, ⟨y0, y1, y2⟩⟩ := hSW
          first | (go_simp; done) | exact rfl | (go_simp; rfl) | (go_simp; omega)
        try simp only [Act.put, List.setIfInBounds_toArray, List.set_cons_zero, List.set_cons_succ]
        refine take_on (i := 17) (v := .bool true) rfl (by kernel_rfl) (by kernel_rfl) (by kernel_rfl) (fun _ _ _ h => h) (by kernel_rfl) (fun W' hSW => ?_) (by assumption) ?_
        · obtain ⟨⟨x0, x1, x2⟩, ⟨y0, y1, y2⟩⟩ := hSW
          first | (go_simp; done) | exact rfl | (go_simp; rfl) | (go_simp; omega)
        try simp only [Act.put, List.setIfInBounds_toArray, List.set_cons_zero, List.set_cons_succ]
        refine take_on (i := 18) (v := .bool true) rfl (by kernel_rfl) (by kernel_rfl) (by kernel_rfl) (fun _ _ _ h => h) (by kernel_rfl) (fun W' hSW => ?_) (by assumption) ?_
        · obtain ⟨⟨x0, x1, x2⟩, ⟨y0, y1, y2⟩⟩ := hSW
          first | (go_simp; done) | exact rfl | (go_simp; rfl) | (go_simp; omega)
        try simp only [Act.put, List.setIfInBounds_toArray, List.set_cons_zero, List.set_cons_succ]
        refine take_on (i := 19) (v := .bool true) rfl (by kernel_rfl) (by kernel_rfl) (by kernel_rfl) (fun _ _ _ h => h) (by kernel_rfl) (fun W' hSW => ?_) (by assumption) ?_
        · obtain ⟨⟨x0, x1, x2⟩, ⟨y0, y1, y2⟩⟩ := hSW
          first | (go_simp; done) | exact rfl | (go_simp; rfl) | (go_simp; omega)
        try simp only [Act.put, List.setIfInBounds_toArray, List.set_cons_zero, List.set_cons_succ]
        refine take_on (i := 20) (v := .bool false) rfl (by kernel_rfl) (by kernel_rfl) (by kernel_rfl) (fun _ _ _ h => h) (by kernel_rfl) (fun W' hSW => ?_) (by assumption) ?_
        · obtain ⟨⟨x0, x1, x2⟩, ⟨y0, y1, y2⟩⟩ := hSW
          first | (go_simp; done) | exact rfl | (go_simp; rfl) | (go_simp; omega)
        try simp only [Act.put, List.setIfInBounds_toArray, List.set_cons_zero, List.set_cons_succ]
        refine take_on (i := 21) (v := .bool true) rfl (by kernel_rfl) (by kernel_rfl) (by kernel_rfl) (fun _ _ _ h => h) (by kernel_rfl) (fun W' hSW => ?_) (by assumption) ?_
        · obtain ⟨⟨x0, x1, x2⟩, ⟨y0, y1, y2⟩⟩ := hSW
          first | (go_simp; done) | exact rfl | (go_simp; rfl) | (go_simp; omega)
        try simp only [Act.put, List.setIfInBounds_toArray, List.set_cons_zero, List.set_cons_succ]
        refine take_on (i := 22) (v := .bool true) rfl (by kernel_rfl) (by kernel_rfl) (by kernel_rfl) (fun _ _ _ h => h) (by kernel_rfl) (fun W' hSW => ?_) (by assumption) ?_
        · obtain ⟨⟨x0, x1, x2⟩, ⟨y0, y1, y2⟩⟩ := hSW
          first | (go_simp; done) | exact rfl | (go_simp; rfl) | (go_simp; omega)
        try simp only [Act.put, List.setIfInBounds_toArray, List.set_cons_zero, List.set_cons_succ]
        refine take_on (i := 23) (v := .bool true) rfl (by kernel_rfl) (by kernel_rfl) (by kernel_rfl) (fun _ _ _ h => h) (by kernel_rfl) (fun W' hSW => ?_) (by assumption) ?_
        · obtain ⟨⟨x0, x1, x2⟩, ⟨y0, y1, y2⟩⟩ := hSW
          first | (go_simp; done) | exact rfl | (go_simp; rfl) | (go_simp; omega)
        try simp only [Act.put, List.setIfInBounds_toArray, List.set_cons_zero, List.set_cons_succ]
        refine wpAnyH_done (by kernel_rfl) ?_ _
        go_wp2
        go_ret
        exact ⟨rfl, S.out.fr⟩
end Go.Proofs.YtpklgpdlkdlbbaaGreatDoor

/-
  fermatalaw07.Made and order.
-/
namespace Go.Proofs.YtpklgpdlkdlbbaaGreatDoor
open Go Go.RowKit
attribute [local go_sem ↓] Go.wp_at_zero Go.wp_at_succ
attribute [local go_sem] Oper.semAt_some wide_fn wide_depth wide_fnR wide_depthR

/-- A key made of numbers. -/
structure Num3 where
  t : Nat
  s : Nat
  q : Nat
  ht : t < 18446744073709551616
  hs : s < 4294967296
  hq : q < 4294967296
def Num3.key (x : Num3) : Key3 := ⟨((x.t % 281474976710657 : Nat) : Int), ((x.s % 17 : Nat) : Int), (x.q : Int)⟩
def smallV (x : Num3) : Value := .agg #[.int .u64 x.t, .int .u32 x.s, .int .u32 x.q]
theorem Num3.right (x : Num3) : RightK x.key := by
  have := x.hq
  unfold RightK Num3.key
  dsimp only
  omega
theorem wrap64_small {n : Int} (h : 0 ≤ n) (h1 : n < 9223372036854775808) : wrap64 n = n := by
  unfold wrap64
  omega
set_option maxRecDepth 100000 in
set_option maxHeartbeats 2000000 in
theorem Made_any (x : Num3) (w : World) : Calls Tryz.prog 6 #[smallV x] w fun e w' => e = .returned (keyV x.key) ∧ Fr0 none' w w' := by
  have h0 := x.hq
  have e1 : wrap64 ((x.t : Int).tmod 281474976710657) = ((x.t % 281474976710657 : Nat) : Int) := by
    rw [Int.tmod_eq_emod_of_nonneg (by omega), wrap64_small (by omega) (by omega)]; omega
  have e2 : wrap64 ((x.s : Int).tmod 17) = ((x.s % 17 : Nat) : Int) := by
    rw [Int.tmod_eq_emod_of_nonneg (by omega), wrap64_small (by omega) (by omega)]; omega
  have e3 : wrap64 (x.q : Int) = (x.q : Int) := wrap64_small (by omega) (by omega)
  unfold smallV
  go_enter Tryz.func6, Tryz.ntmps6
  go_wp2_with fail
  refine bodyPost_ret (v := keyV x.key) (by simp [results, Tryz.results6, go_sem, keyV, Num3.key, e1, e2, e3]) rfl ⟨rfl, ((Fr0.refl _ _).alloc _).alloc _⟩
end Go.Proofs.YtpklgpdlkdlbbaaGreatDoor

/-
  The key laws' rows: what the listed variables give; a world that meets the condition; small numbers and keys among the arguments.
-/
namespace Go.Proofs.YtpklgpdlkdlbbaaGreatDoor
open Go Go.ChangeShapes Go.WideShapes Go.ChangeAt Go.RowKit Go.Deep Go.Joins

theorem post_belowK {H : Type} {enc : TypeId × Value → H} {P : Program} {f : Func} {s : ChangeSpec} {apart fresh handsOn : Bool} {W W' : World} {args : Array Value} {v : Value} {ds gs : List (DataW H)} {before pa pv : List MemPlace}
    (hW : DataW.Whole enc P f.params.toList s.vars apart W args.toList ds gs before)
    (hres : ∀ (b : Nat) (sp : Nat → Bool) (hd : Bool), DataW.TrodAll enc P W' b sp hd f.resultTypes.toList (v.resultList f.resultTypes.size) (s.fn H (ds ++ gs)).results [])
    (hargs : DataW.TrodAll enc P W' 0 (fun b => decide (b < W.heap.size)) true f.params.toList args.toList (s.fn H (ds ++ gs)).args pa)
    (hvars : ∀ sp : Nat → Bool, (∀ p ∈ before, sp p.block = true) → DataW.TrodVars enc P W' sp s.vars (s.fn H (ds ++ gs)).vars pv)
    (hb : Below W.heap.size W W') :
    s.post enc P f apart fresh handsOn false W args v W' := by
  have hold : ∀ p ∈ before, (fun b => decide (b < W.heap.size)) p.block = true := fun p hp => by simpa using hW.lt p hp
  exact ⟨ds, gs, before, [], pa, pv, hW, hres _ _ _, hargs, hvars _ hold, hb.frame _, fun h => by cases h⟩
theorem laid_own : laidOutB Tryz.prog = true := by kernel_rfl
theorem own_knob : ownKnob Tryz.prog.godebug = none := by kernel_rfl

abbrev laidK : List (String × DataW Unit) := [("math/bits.deBruijn32tab", Rows.laid_math_bits_deBruijn32tab), ("math/bits.deBruijn64tab", Rows.laid_math_bits_deBruijn64tab), ("internal/strconv.uint64pow10", Rows.laid_internal_strconv_uint64pow10), ("strconv.ErrRange", Rows.laid_strconv_ErrRange), ("strconv.ErrSyntax", Rows.laid_strconv_ErrSyntax)]
theorem Kg.pow : Tryz.prog.globalNamed "internal/strconv.uint64pow10" = some 5 := by kernel_rfl
theorem Kg.powT : (Tryz.prog.globals[5]?).map (·.type) = some 183 := by kernel_rfl
theorem Kg.syn : Tryz.prog.globalNamed "strconv.ErrSyntax" = some 3 := by kernel_rfl
theorem Kg.synT : (Tryz.prog.globals[3]?).map (·.type) = some 88 := by kernel_rfl
theorem Kg.rng : Tryz.prog.globalNamed "strconv.ErrRange" = some 4 := by kernel_rfl
theorem Kg.rngT : (Tryz.prog.globals[4]?).map (·.type) = some 88 := by kernel_rfl
theorem Kg.cellsT : Tryz.prog.cellsOf 183 = 20 := by kernel_rfl
theorem Kg.cellsU : Tryz.prog.cellsOf 22 = 1 := by kernel_rfl
theorem Kg.cellsE : Tryz.prog.cellsOf 188 = 1 := by kernel_rfl
theorem Kg.cellsS : Tryz.prog.cellsOf 9 = 1 := by kernel_rfl
theorem Kg.star : "*" ++ "errors.errorString" = "*errors.errorString" := by decide
theorem Kg.row (u : TypeId) (h : Tryz.prog.typeName? 3 u = some "*errors.errorString") : u = 186 :=
  typeName_ptr_named (nm := "errors.errorString") (by rw [Kg.star]; kernel_rfl) (by kernel_rfl) (by decide) u (by rw [Kg.star]; exact h)
/-- What the listed variables give a walk. -/
theorem laid7_of {W : World} (h : laidMet Tryz.prog laidK W) : Laid7 W := by
  have h3 := h.tail.tail
  refine ⟨Lib.tabIs_of_head (zs := Lib.pow10Tab) Kg.pow Kg.powT Tryz.underlying183 Tryz.underlying22 Kg.cellsU Kg.cellsT h3, ?_, ?_⟩
  · obtain ⟨a1, s1, hv1, -, -, -⟩ := laid_sentinel h3.tail.tail Kg.syn Kg.synT Tryz.underlying88 Kg.row Tryz.underlying186 Tryz.underlying188 rfl rfl Tryz.underlying9 Kg.cellsE Kg.cellsS
    exact ⟨_, _, hv1⟩
  · obtain ⟨a0, s0, hv0, -, -, -⟩ := laid_sentinel h3.tail Kg.rng Kg.rngT Tryz.underlying88 Kg.row Tryz.underlying186 Tryz.underlying188 rfl rfl Tryz.underlying9 Kg.cellsE Kg.cellsS
    exact ⟨_, _, hv0⟩

/-! ### One start that fits -/
abbrev synK : ByteArray := { data := #[105, 110, 118, 97, 108, 105, 100, 32, 115, 121, 110, 116, 97, 120] }
abbrev rngK : ByteArray := { data := #[118, 97, 108, 117, 101, 32, 111, 117, 116, 32, 111, 102, 32, 114, 97, 110, 103, 101] }
def valsK : DataW Unit → Array Value
  | .agg l => (l.filterMap fun | .lit (.int k z) => some (Value.int k z) | _ => none).toArray
  | _ => #[]
noncomputable def lowK : Nat := (World.holding Tryz.prog default ⟨#[], #[], []⟩).heap.size
def layK (h : Array Obj) (g : Nat) (cs : Array Value) : Array Obj := h.modify g fun
  | .cells _ t frozen => .cells cs t frozen
  | o => o
noncomputable def laidWorld (os : Os) : World :=
  let w0 := World.holding Tryz.prog os ⟨#[.cells #[.string synK] 188, .cells #[.string rngK] 188], #[], []⟩
  { w0 with heap := layK (layK (layK (layK (layK w0.heap 3 #[.iface 186 (.pointer (some ⟨lowK, 0, none⟩))]) 4 #[.iface 186 (.pointer (some ⟨lowK + 1, 0, none⟩))]) 5 (valsK Rows.laid_internal_strconv_uint64pow10)) 6 (valsK Rows.laid_math_bits_deBruijn32tab)) 7 (valsK Rows.laid_math_bits_deBruijn64tab) }
theorem laidWorld_met (os : Os) (args : Array Value) : laidMet Tryz.prog laidK ((laidWorld os).forCall (fun _ _ => 0) ⟨#[], args, []⟩).memory :=
  laidMet_of_run' 8 (by kernel_rfl) (by kernel_rfl)
set_option maxRecDepth 100000 in
/-- The numbers of a key by value, opened. -/
theorem num3_arg {base : Nat} {H : Type} {enc : TypeId × Value → H} {W : World} {v : Value} {d : DataW H} {ps : List MemPlace}
    (hval : Value.okWide Tryz.prog W .any base 25 v) (h : DataW.Trod enc Tryz.prog W 0 (fun _ => true) true 25 v d ps) : ∃ x : Num3, v = smallV x := by
  obtain ⟨v0, v1, v2, y0, y1, y2, n, rfl, _, _, t0, t1, t2⟩ := open_agg3 Tryz.underlying25 (by kernel_rfl) (by kernel_rfl) hval h
  obtain ⟨a0, e0, _, w0⟩ := DataW.trod_int Tryz.underlying22 t0
  obtain ⟨a1, e1, _, w1⟩ := DataW.trod_int Tryz.underlying23 t1
  obtain ⟨a2, e2, _, w2⟩ := DataW.trod_int Tryz.underlying23 t2
  injection e0 with e0 _
  injection e1 with e1 _
  injection e2 with e2 _
  subst e0; subst e1; subst e2
  have b0 := bounds_u64 w0
  have b1 := bounds_u32 w1
  have b2 := bounds_u32 w2
  obtain ⟨n0, rfl⟩ : ∃ n : Nat, a0 = n := ⟨a0.toNat, by omega⟩
  obtain ⟨n1, rfl⟩ : ∃ n : Nat, a1 = n := ⟨a1.toNat, by omega⟩
  obtain ⟨n2, rfl⟩ : ∃ n : Nat, a2 = n := ⟨a2.toNat, by omega⟩
  exact ⟨⟨n0, n1, n2, by omega, by omega, by omega⟩, rfl⟩
end Go.Proofs.YtpklgpdlkdlbbaaGreatDoor

/-
  key.Ends.
-/
namespace Go.Proofs.YtpklgpdlkdlbbaaGreatDoor
open Go Go.RowKit
attribute [local go_sem ↓] Go.wp_at_zero Go.wp_at_succ
attribute [local go_sem] Oper.semAt_some wide_fn wide_depth wide_fnR wide_depthR

/-- The first and the last key of a time. -/
def endsV (t : Int) : Key3 × Key3 × Int := if 0 ≤ t ∧ t ≤ 281474976710656 then (⟨t, 0, 0⟩, ⟨t, 16, 4294967295⟩, 0) else (zeroK, zeroK, 2)
def keyO (k : Key3) : Obj := .cells #[.int .i64 k.time, .int .i64 k.source, .int .i64 k.seq] 28
theorem ends_post {w W : World} {A C : Key3} {m : Int} (k1 : KeyAt W w.heap.size A) (k2 : KeyAt W (w.heap.size + 1) C) (F : Fr0 none' w W) {f : Act} (hd : f.defers = []) (h2 : f.tmps[2]? = some (.pointer (some ⟨w.heap.size, 0, none⟩))) (h3 : f.tmps[3]? = some (.pointer (some ⟨w.heap.size + 1, 0, none⟩))) (h4 : f.tmps[4]? = some (.int .i64 m)) :
    bodyPost Tryz.prog Tryz.f12 (fun e w' => e = Ending.returned (.tuple #[keyV A, keyV C, .int .i64 m]) ∧ Fr0 none' w w') Exit.ret f W := by
  have d0 := k1.cell (i := 0) (by omega)
  have d1 := k1.cell (i := 1) (by omega)
  have d2 := k1.cell (i := 2) (by omega)
  have e0 := k2.cell (i := 0) (by omega)
  have e1 := k2.cell (i := 1) (by omega)
  have e2 := k2.cell (i := 2) (by omega)
  simp [nth3] at d0 d1 d2 e0 e1 e2
  refine bodyPost_ret (v := .tuple #[keyV A, keyV C, .int .i64 m]) ?_ hd ⟨rfl, F⟩
  simp [results, Tryz.results12, go_sem, d0, d1, d2, e0, e1, e2, keyV, h2, h3, h4]
set_option maxRecDepth 100000 in
set_option maxHeartbeats 4000000 in
theorem Ends_any (t : Int) (w : World) : Calls Tryz.prog 12 #[.int .i64 t] w fun e w' => e = .returned (.tuple #[keyV (endsV t).1, keyV (endsV t).2.1, .int .i64 (endsV t).2.2]) ∧ Fr0 none' w w' := by
  unfold endsV
  by_cases h0 : t < 0
  · have d0 : decide (t < 0) = true := decide_eq_true h0
    rw [if_neg (by omega)]
    clear h0
    go_enter Tryz.func12, Tryz.ntmps12
    go_wp2_with fail
    refine ends_post (A := zeroK) (C := zeroK) ?_ ?_ ((((Fr0.refl _ w).alloc _).alloc _)) rfl ?_ ?_ ?_
    · exact KeyAt.alloc (k := zeroK) (World.alloc_heap_new w _) _
    · have := World.alloc_heap_new (w.alloc (keyO zeroK)) (keyO zeroK)
      rw [World.size_alloc] at this
      exact this
    · rfl
    · rfl
    · rfl
  · have d0 : decide (t < 0) = false := decide_eq_false h0
    by_cases h1 : 281474976710656 < t
    · have d1 : decide (281474976710656 < t) = true := decide_eq_true h1
      rw [if_neg (by omega)]
      clear h0 h1
      go_enter Tryz.func12, Tryz.ntmps12
      go_wp2_with fail
      refine ends_post (A := zeroK) (C := zeroK) ?_ ?_ ((((Fr0.refl _ w).alloc _).alloc _)) rfl ?_ ?_ ?_
      · exact KeyAt.alloc (k := zeroK) (World.alloc_heap_new w _) _
      · have := World.alloc_heap_new (w.alloc (keyO zeroK)) (keyO zeroK)
        rw [World.size_alloc] at this
        exact this
      · rfl
      · rfl
      · rfl
    · have d1 : decide (281474976710656 < t) = false := decide_eq_false h1
      rw [if_pos (by omega)]
      clear h0 h1
      go_enter Tryz.func12, Tryz.ntmps12
      go_wp2_with fail
      refine ends_post (A := (⟨t, 0, 0⟩ : Key3)) (C := (⟨t, 16, 4294967295⟩ : Key3)) ?_ ?_ ((((Fr0.refl _ w).alloc _).alloc _)) rfl ?_ ?_ ?_
      · exact KeyAt.alloc (k := (⟨t, 0, 0⟩ : Key3)) (World.alloc_heap_new w _) _
      · have := World.alloc_heap_new (w.alloc (keyO (⟨t, 0, 0⟩ : Key3))) (keyO (⟨t, 16, 4294967295⟩ : Key3))
        rw [World.size_alloc] at this
        exact this
      · rfl
      · rfl
      · rfl
end Go.Proofs.YtpklgpdlkdlbbaaGreatDoor

/-
  The order of keys, the next key and the one before: the plain laws.
-/
namespace Go.Proofs.YtpklgpdlkdlbbaaGreatDoor
open Go Go.RowKit

theorem cmpK_le (a b : Key3) : cmpK a b ≤ 0 ↔ ¬ (b.time < a.time ∨ (b.time = a.time ∧ (b.source < a.source ∨ (b.source = a.source ∧ b.seq < a.seq)))) := by
  rw [← cmpK_lt, cmpK_anti b a]; omega
theorem cmpK_gt (a b : Key3) : 0 < cmpK a b ↔ (b.time < a.time ∨ (b.time = a.time ∧ (b.source < a.source ∨ (b.source = a.source ∧ b.seq < a.seq)))) := by
  rw [← cmpK_lt, cmpK_anti b a]; omega
theorem cmpK_ge (a b : Key3) : 0 ≤ cmpK a b ↔ ¬ (a.time < b.time ∨ (a.time = b.time ∧ (a.source < b.source ∨ (a.source = b.source ∧ a.seq < b.seq)))) := by
  rw [← cmpK_lt]; omega
theorem cmpI_in (a b : Int) : cmpI a b = -1 ∨ cmpI a b = 0 ∨ cmpI a b = 1 := by
  unfold cmpI
  repeat' split
  all_goals omega
theorem cmpK_in (a b : Key3) : cmpK a b = -1 ∨ cmpK a b = 0 ∨ cmpK a b = 1 := by
  unfold cmpK
  repeat' split
  all_goals exact cmpI_in _ _
theorem cmpK_neg (a b : Key3) : cmpK a b = -1 ↔ (a.time < b.time ∨ (a.time = b.time ∧ (a.source < b.source ∨ (a.source = b.source ∧ a.seq < b.seq)))) := by
  rw [← cmpK_lt]
  have := cmpK_in a b
  omega
theorem nextK_some {x n : Key3} (hx : RightK x) (h : nextK x = some n) : RightK n ∧ backK n = some x ∧ cmpK x n = -1 ∧ ∀ y, RightK y → cmpK x y < 0 → cmpK n y ≤ 0 := by
  obtain ⟨t, s, q⟩ := x
  unfold nextK at h
  obtain ⟨h1, h2, h3, h4, h5, h6⟩ := hx
  dsimp only at *
  split at h
  · injection h with h; subst h
    refine ⟨by unfold RightK; dsimp only; omega, ?_, by rw [cmpK_neg]; dsimp only; omega, fun y hy hl => ?_⟩
    · unfold backK; dsimp only; rw [if_pos (by omega)]; simp
    · obtain ⟨y1, y2, y3, y4, y5, y6⟩ := hy
      rw [cmpK_lt] at hl; rw [cmpK_le]; dsimp only at *; omega
  · split at h
    · injection h with h; subst h
      refine ⟨by unfold RightK; dsimp only; omega, ?_, by rw [cmpK_neg]; dsimp only; omega, fun y hy hl => ?_⟩
      · unfold backK; dsimp only; rw [if_neg (by omega), if_pos (by omega)]; simp; omega
      · obtain ⟨y1, y2, y3, y4, y5, y6⟩ := hy
        rw [cmpK_lt] at hl; rw [cmpK_le]; dsimp only at *; omega
    · split at h
      · injection h with h; subst h
        refine ⟨by unfold RightK; dsimp only; omega, ?_, by rw [cmpK_neg]; dsimp only; omega, fun y hy hl => ?_⟩
        · unfold backK; dsimp only; rw [if_neg (by omega), if_neg (by omega), if_pos (by omega)]; simp; omega
        · obtain ⟨y1, y2, y3, y4, y5, y6⟩ := hy
          rw [cmpK_lt] at hl; rw [cmpK_le]; dsimp only at *; omega
      · cases h
theorem nextK_none {x : Key3} (hx : RightK x) (h : nextK x = none) (y : Key3) (hy : RightK y) : ¬ cmpK x y < 0 := by
  obtain ⟨t, s, q⟩ := x
  unfold nextK at h
  obtain ⟨h1, h2, h3, h4, h5, h6⟩ := hx
  obtain ⟨y1, y2, y3, y4, y5, y6⟩ := hy
  rw [cmpK_lt]
  dsimp only at *
  repeat' split at h
  all_goals first | (cases h; done) | omega
theorem backK_some {x n : Key3} (hx : RightK x) (h : backK x = some n) : RightK n ∧ nextK n = some x ∧ cmpK n x = -1 ∧ ∀ y, RightK y → 0 < cmpK x y → 0 ≤ cmpK n y := by
  obtain ⟨t, s, q⟩ := x
  unfold backK at h
  obtain ⟨h1, h2, h3, h4, h5, h6⟩ := hx
  dsimp only at *
  split at h
  · injection h with h; subst h
    refine ⟨by unfold RightK; dsimp only; omega, ?_, by rw [cmpK_neg]; dsimp only; omega, fun y hy hl => ?_⟩
    · unfold nextK; dsimp only; rw [if_pos (by omega)]; simp
    · obtain ⟨y1, y2, y3, y4, y5, y6⟩ := hy
      rw [cmpK_gt] at hl; rw [cmpK_ge]; dsimp only at *; omega
  · split at h
    · injection h with h; subst h
      refine ⟨by unfold RightK; dsimp only; omega, ?_, by rw [cmpK_neg]; dsimp only; omega, fun y hy hl => ?_⟩
      · unfold nextK; dsimp only; rw [if_neg (by omega), if_pos (by omega)]; simp; omega
      · obtain ⟨y1, y2, y3, y4, y5, y6⟩ := hy
        rw [cmpK_gt] at hl; rw [cmpK_ge]; dsimp only at *; omega
    · split at h
      · injection h with h; subst h
        refine ⟨by unfold RightK; dsimp only; omega, ?_, by rw [cmpK_neg]; dsimp only; omega, fun y hy hl => ?_⟩
        · unfold nextK; dsimp only; rw [if_neg (by omega), if_neg (by omega), if_pos (by omega)]; simp; omega
        · obtain ⟨y1, y2, y3, y4, y5, y6⟩ := hy
          rw [cmpK_gt] at hl; rw [cmpK_ge]; dsimp only at *; omega
      · cases h
theorem backK_none {x : Key3} (hx : RightK x) (h : backK x = none) (y : Key3) (hy : RightK y) : ¬ 0 < cmpK x y := by
  obtain ⟨t, s, q⟩ := x
  unfold backK at h
  obtain ⟨h1, h2, h3, h4, h5, h6⟩ := hx
  obtain ⟨y1, y2, y3, y4, y5, y6⟩ := hy
  rw [cmpK_gt]
  dsimp only at *
  repeat' split at h
  all_goals first | (cases h; done) | omega
theorem ends_time {x y : Key3} (hy : RightK y) : (cmpK ⟨x.time, 0, 0⟩ y ≤ 0 ∧ cmpK y ⟨x.time, 16, 4294967295⟩ ≤ 0) ↔ x.time = y.time := by
  obtain ⟨y1, y2, y3, y4, y5, y6⟩ := hy
  rw [cmpK_le, cmpK_le]
  dsimp only at *
  omega
end Go.Proofs.YtpklgpdlkdlbbaaGreatDoor

/-
  Two keys made: what is kept; the ground of the laws with two keys.
-/
namespace Go.Proofs.YtpklgpdlkdlbbaaGreatDoor
open Go Go.RowKit
attribute [local go_sem ↓] Go.wp_at_zero Go.wp_at_succ
attribute [local go_sem] Oper.semAt_some wide_fn wide_depth wide_fnR wide_depthR
attribute [local go_sem high] run_neq_k

theorem next_lit0 (k : Key3) (hk : RightK k) (hn : nextK k = none) (w : World) : Calls Tryz.prog 9 #[keyV k] w fun e w' => e = .returned (.tuple #[.agg #[.int .i64 0, .int .i64 0, .int .i64 0], .int .i64 6]) ∧ Fr0 none' w w' := by
  have h := Next_any k w
  rw [if_pos hk, hn] at h
  exact h
theorem back_lit0 (k : Key3) (hk : RightK k) (hn : backK k = none) (w : World) : Calls Tryz.prog 10 #[keyV k] w fun e w' => e = .returned (.tuple #[.agg #[.int .i64 0, .int .i64 0, .int .i64 0], .int .i64 6]) ∧ Fr0 none' w w' := by
  have h := Back_any k w
  rw [if_pos hk, hn] at h
  exact h
def C3 (W : World) (b : Nat) (k : Key3) : Prop := W.cell? ⟨b, 0, none⟩ = some (.int .i64 k.time) ∧ W.cell? ⟨b, 1, none⟩ = some (.int .i64 k.source) ∧ W.cell? ⟨b, 2, none⟩ = some (.int .i64 k.seq)
/-- The cells of a small key. -/
def SmAt (W : World) (b : Nat) (x : Num3) : Prop := W.cell? ⟨b, 0, none⟩ = some (.int .u64 x.t) ∧ W.cell? ⟨b, 1, none⟩ = some (.int .u32 x.s) ∧ W.cell? ⟨b, 2, none⟩ = some (.int .u32 x.q)
theorem SmAt.later {W W' : World} {b : Nat} {x : Num3} (h : SmAt W b x) (hf : Fr0 none' W W') : SmAt W' b x := ⟨hf.later h.1, hf.later h.2.1, hf.later h.2.2⟩
theorem SmAt.of_block {W : World} {b : Nat} {x : Num3} {ty : TypeId} (h : W.heap[b]? = some (.cells #[.int .u64 x.t, .int .u32 x.s, .int .u32 x.q] ty (0, 0))) : SmAt W b x := by
  refine ⟨?_, ?_, ?_⟩ <;> rw [cellsK_at h] <;> rfl
/-- What is kept while two keys are made. -/
structure St2 (x y : Num3) (b : Nat) (w W : World) : Prop where
  sx : SmAt W b x
  sy : SmAt W (b + 1) y
  fr : Fr0 none' w W
  sx0 : SmAt w b x
  sy0 : SmAt w (b + 1) y
theorem St2.later {x y : Num3} {b : Nat} {w W W' : World} (h : St2 x y b w W) (hf : Fr0 none' W W') : St2 x y b w W' := ⟨h.sx.later hf, h.sy.later hf, h.fr.trans hf, h.sx0, h.sy0⟩
theorem St2.both {x y : Num3} {b : Nat} {w W : World} (h : St2 x y b w W) : SmAt W b x ∧ SmAt W (b + 1) y := ⟨h.sx, h.sy⟩
structure NewK (w W : World) (b : Nat) (k : Key3) : Prop where
  key : KeyAt W b k
  ge : w.heap.size ≤ b
theorem NewK.lt {w W : World} {b : Nat} {k : Key3} (h : NewK w W b k) : b < W.heap.size := (Array.getElem?_eq_some_iff.1 h.key).1
theorem NewK.cells {w W : World} {b : Nat} {k : Key3} (h : NewK w W b k) : W.cell? ⟨b, 0, none⟩ = some (.int .i64 k.time) ∧ W.cell? ⟨b, 1, none⟩ = some (.int .i64 k.source) ∧ W.cell? ⟨b, 2, none⟩ = some (.int .i64 k.seq) :=
  ⟨h.key.cell (i := 0) (by omega), h.key.cell (i := 1) (by omega), h.key.cell (i := 2) (by omega)⟩
theorem NewK.frozen {w W : World} {b : Nat} {k : Key3} (h : NewK w W b k) : W.frozen? ⟨b, 0, none⟩ = false ∧ W.frozen? ⟨b, 1, none⟩ = false ∧ W.frozen? ⟨b, 2, none⟩ = false := ⟨h.key.frozen _, h.key.frozen _, h.key.frozen _⟩
theorem NewK.later {w W W' : World} {b : Nat} {k : Key3} (h : NewK w W b k) (hf : Fr0 none' W W') : NewK w W' b k := ⟨h.key.fr0 hf id, h.ge⟩
def put3 (W : World) (b : Nat) (k : Key3) : World := ((W.setCell ⟨b, 0, none⟩ (.int .i64 k.time)).setCell ⟨b, 1, none⟩ (.int .i64 k.source)).setCell ⟨b, 2, none⟩ (.int .i64 k.seq)
theorem NewK.put {w W : World} {b : Nat} {k : Key3} (h : NewK w W b k) (x : Key3) : NewK w (put3 W b x) b x := ⟨((h.key.set0 x.time).set1 x.source).set2 x.seq, h.ge⟩
theorem NewK.other {w W : World} {a b : Nat} {k : Key3} (h : NewK w W a k) (hne : a ≠ b) (x : Key3) : NewK w (put3 W b x) a k := ⟨((h.key.setOther hne _).setOther hne _).setOther hne _, h.ge⟩
theorem St2.put {x y : Num3} {b c : Nat} {w W : World} (h : St2 x y b w W) (hc : w.heap.size ≤ c) (k : Key3) : St2 x y b w (put3 W c k) := by
  have hf : Fr0 none' w (put3 W c k) := ((h.fr.setCell (fun h => absurd h (by omega)) _).setCell (fun h => absurd h (by omega)) _).setCell (fun h => absurd h (by omega)) _
  exact ⟨h.sx0.later hf, h.sy0.later hf, hf, h.sx0, h.sy0⟩
theorem via {P : Program} {c : Code} {K : Act → World → Prop} {Q : Exit → Act → World → Prop} {a : Act} {w : World} (F : Nat → Nat → World → Prop) (d1 d2 s1 s2 s3 s4 : Nat) (v1 v2 v3 v4 : Value)
    (t : ∀ pa pb W, F pa pb W → K ((((((a.put (some s1) v1).put (some s2) v2).put (some s3) v3).put (some s4) v4).put (some d1) (.pointer (some ⟨pa, 0, none⟩))).put (some d2) (.pointer (some ⟨pb, 0, none⟩))) W)
    (h : (∀ pa pb W, F pa pb W → K ((((((a.put (some s1) v1).put (some s2) v2).put (some s3) v3).put (some s4) v4).put (some d1) (.pointer (some ⟨pa, 0, none⟩))).put (some d2) (.pointer (some ⟨pb, 0, none⟩))) W) → c.wp P (Exit.then K Q) a w) : c.wp P (Exit.then K Q) a w := h t
end Go.Proofs.YtpklgpdlkdlbbaaGreatDoor
