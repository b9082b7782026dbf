/-
  name.parts: the iterator over the parts of a string.
-/
import Derived.Test.YtnanleopoedgfaaStr
import Derived.OwnWalkIn
import Derived.TacticsInMore
import Derived.LoopNIn
import Derived.LoopIn
import Derived.BigFrameIn
set_option linter.unusedSimpArgs false
set_option linter.unusedVariables false
namespace Go.Proofs.Ytnanleopoedgfaa
open Go.RowKit
attribute [local go_sem] Oper.semAt_some wide_fn wide_depth wide_fnR wide_depthR

abbrev Bs := List UInt8
/-- The parts of a string: what is between its points. -/
def cut : Bs → List Bs
  | [] => [[]]
  | c :: l => if c = 46 then [] :: cut l else ((c :: (cut l).headD []) :: (cut l).tail)
theorem cut_ne (l : Bs) : cut l ≠ [] := by cases l <;> simp [cut]; split <;> simp
theorem cut_cut1 (l : Bs) : cut l = if (cut1 l 46).2.2 then (cut1 l 46).1 :: cut (cut1 l 46).2.1 else [l] := by
  induction l with
  | nil => simp [cut, cut1]
  | cons x r ih =>
    by_cases h : x = 46
    · subst h; simp [cut, cut1]
    · simp only [cut, h, if_false, cut1]
      rw [ih]
      by_cases hb : (cut1 r 46).2.2 = true
      · simp [hb]
      · simp only [hb, if_false]
        rcases indexByte_cut1 r 46 with ⟨h1, _, h3⟩ | ⟨h1, _⟩
        · simp [h3]
        · exact absurd h1 hb
theorem cut1_lt (l : Bs) (h : (cut1 l 46).2.2 = true) : (cut1 l 46).2.1.length < l.length := by
  rcases indexByte_cut1 l 46 with ⟨h1, _⟩ | ⟨_, i, hi, _, h3⟩
  · simp [h1] at h
  · rw [h3]; simp; omega
theorem cut1_le (l : Bs) : (cut1 l 46).2.1.length ≤ l.length := by
  rcases indexByte_cut1 l 46 with ⟨h1, _, h3⟩ | ⟨_, i, hi, _, h3⟩
  · rw [h3]; simp
  · rw [h3]; simp

def boxLen (w : World) (b : Nat) : Nat := match w.cell? ⟨b, 0, none⟩ with
  | some (.string s) => s.size + 1
  | _ => 0
theorem boxLen_eq {w : World} {b : Nat} {s : ByteArray} (h : Box w b (.string s)) : boxLen w b = s.size + 1 := by simp [boxLen, h.cell]
def mB (m : Value) (n : Nat) : Nat := match m with
  | .bool true => n
  | _ => 0

set_option maxRecDepth 100000 in
set_option maxHeartbeats 2000000 in
theorem parts_iter (s : ByteArray) (b : Nat) (w : World) (hs : s.size ≤ maxLen) (hb : Box w b (.string s)) :
    Iter Try.prog 61 #[.pointer (some ⟨b, 0, none⟩)] (fun p : Bs => #[.string (bs p)]) (cut s.data.toList) (fun k => k = b) (fun k => k = b) w := by
  intro l J Jx W hK hJ hJx hY h0
  have hbW : Box W b (.string s) := hb.of_block (hK.2 b rfl)
  obtain ⟨xs, hxs⟩ : ∃ xs, cut s.data.toList = xs := ⟨_, rfl⟩
  rw [hxs] at hY ⊢
  refine callsIn_of_wp Try.func61 rfl trivial ?_ rfl
  simp only [Try.ntmps61, List.size_toArray, List.length_cons, List.length_nil, Nat.reduceAdd, Nat.reduceSub, Array.replicate_succ, Array.replicate_zero, List.push_toArray, List.append_toArray, List.nil_append, List.cons_append]
  gi_wp2
  gi_loopw [3] (fun m wr => ∃ (i : Nat) (t : ByteArray), t.size ≤ maxLen ∧ Box wr b (.string t) ∧ J i wr ∧ ((m = .bool true ∧ Hid (cut t.data.toList = xs.drop i)) ∨ (m = .bool false ∧ i = xs.length)))
    (fun m wr => mB m (boxLen wr b))
  case atStart =>
    exact ⟨0, s, hs, hbW, h0, .inl ⟨rfl, hxs⟩⟩
  case round =>
    obtain ⟨i, t, ht, hbx, hJi, hcase⟩ := hrel
    rcases hcase with ⟨rfl, hcut⟩ | ⟨rfl, hi⟩
    · have hm0 := Lib.hid (boxLen_eq hbx)
      have hc := hbx.cell
      have hf := hbx.frozen
      obtain ⟨p1, hp1⟩ : ∃ a, (cut1 t.data.toList 46).1 = a := ⟨_, rfl⟩
      obtain ⟨p2, hp2⟩ : ∃ a, (cut1 t.data.toList 46).2.1 = a := ⟨_, rfl⟩
      obtain ⟨d, hd⟩ : ∃ a, (cut1 t.data.toList 46).2.2 = a := ⟨_, rfl⟩
      have HC := Cut_one t 46 wr ht
      rw [hp1, hp2, hd] at HC
      have HC' := Lib.hid HC
      have hp1' := Lib.hid hp1
      have hp2' := Lib.hid hp2
      have hd' := Lib.hid hd
      clear HC hp1 hp2 hd
      have hsz := hbx.lt
      have hxi : xs[i]? = some p1 := by
        have h1 := cut_cut1 t.data.toList
        rw [hcut.out, hp1'.out, hp2'.out, hd'.out] at h1
        cases d with
        | true =>
          simp at h1
          have := congrArg (fun l => l[0]?) h1
          simpa using this
        | false =>
          simp at h1
          have h2 := hp1'.out
          rcases indexByte_cut1 t.data.toList 46 with ⟨_, _, h3⟩ | ⟨h3, _⟩
          · rw [h3] at h2
            have := congrArg (fun l => l[0]?) h1
            subst h2
            simpa using this
          · rw [hd'.out] at h3; cases h3
      have Hxi := Lib.hid hxi
      clear hxi
      gi_wp2_with fail
      refine (callsIn_wide.2 HC'.out).mono ?_
      rintro e w1 ⟨rfl, hb1, hd1⟩
      have hc1 := (hb1.cell (p := ⟨b, 0, none⟩) hsz).trans hc
      have hf1 := (hb1.frozen (p := ⟨b, 0, none⟩) hsz).trans hf
      have hj1 := hJ i wr (w1.setCell ⟨b, 0, none⟩ (.string (bs p2))) hJi (Fr.setCell (S := fun k => k = b) ((Fr.refl _ _).of_below hb1 hd1) (fun _ => rfl) _)
      obtain ⟨fn, tmps, assign, body, hy, hR⟩ := hY i p1 (w1.setCell ⟨b, 0, none⟩ (.string (bs p2))) Hxi.out hj1
      have hbx3 : ∀ W3, Keep (fun k => k = b) (w1.setCell ⟨b, 0, none⟩ (.string (bs p2))) W3 → Box W3 b (.string (bs p2)) := fun W3 hk =>
        Box.of_block ((hbx.fr ((Fr.refl none' _).of_below hb1 hd1) id).set _) (hk.2 b rfl)
      gi_wp2
      refine hR.mono ?_
      rintro e W3 (⟨rfl, hJ3, hk3⟩ | ⟨rfl, hJx3⟩)
      · gi_wp2
        have hb3 := hbx3 W3 hk3
        have hle : p2.length ≤ maxLen := by rw [← hp2'.out]; exact Nat.le_trans (cut1_le _) (by simpa using ht)
        have h1 := cut_cut1 t.data.toList
        rw [hcut.out, hp1'.out, hp2'.out, hd'.out] at h1
        go_roundw
        case rel =>
          refine ⟨i + 1, bs p2, hle, hb3, hJ3, ?_⟩
          cases d with
          | true =>
            left; refine ⟨rfl, ?_⟩
            have h2 := congrArg List.tail h1
            simp only [if_true, List.tail_cons, List.tail_drop] at h2
            exact h2.symm
          | false =>
            right; refine ⟨rfl, ?_⟩
            have h2 := congrArg List.length h1
            simp at h2; omega
        case measure =>
          rw [boxLen_eq hb3, hm0.out]
          cases d with
          | true =>
            have := cut1_lt t.data.toList hd'.out
            rw [hp2'.out] at this
            simp [mB, size_bs] at this ⊢; omega
          | false => simp [mB]
      · gi_wp2
        refine bodyPost_ret (results_none rfl _ _ _) rfl ?_
        exact ⟨⟨_, rfl⟩, .inr hJx3⟩
    · subst hi
      gi_wp2
      go_end0
      exact ⟨⟨_, rfl⟩, .inl hJi⟩
end Go.Proofs.Ytnanleopoedgfaa
