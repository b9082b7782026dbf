/-
  name.Right: which strings are names.
-/
import Derived.Test.YtnanleopoedgfaaCmp
import Derived.Deep.LoopGhost
set_option linter.unusedSimpArgs false
set_option linter.unusedVariables false
namespace Go.Proofs.Ytnanleopoedgfaa
open Go.RowKit

def okc (c : UInt8) : Bool := (97 ≤ c.toNat && c.toNat ≤ 122) || (48 ≤ c.toNat && c.toNat ≤ 57)
/-- One byte of a name, behind another one. -/
def stp (b c : UInt8) : Option UInt8 :=
  if okc c then some c else if c.toNat = 45 then (if b.toNat = 46 then none else some c) else if c.toNat = 46 then (if b.toNat = 46 ∨ b.toNat = 45 then none else some c) else none
def scan : UInt8 → Bs → Option UInt8
  | b, [] => some b
  | b, c :: l => match stp b c with
    | some d => scan d l
    | none => none
def endOk : Option UInt8 → Bool
  | some b => decide (b.toNat ≠ 46) && decide (b.toNat ≠ 45)
  | none => false
def headOk : Bs → Bool
  | [] => false
  | c :: _ => decide (97 ≤ c.toNat) && decide (c.toNat ≤ 122)
/-- Whether a string is a name. -/
def rightB (l : Bs) : Bool := decide (l.length ≤ 32) && headOk l && endOk (scan 46 l)

theorem scan_snoc (l : Bs) (b c : UInt8) : scan b (l ++ [c]) = (match scan b l with | some d => stp d c | none => none) := by
  induction l generalizing b with
  | nil => simp only [List.nil_append, scan]; cases stp b c <;> rfl
  | cons x r ih => simp only [List.cons_append, scan]; cases stp b x <;> simp [ih]
theorem scan_take {l : Bs} {k : Nat} {b d c : UInt8} (h : scan b (l.take k) = some d) (hk : l[k]? = some c) : scan b (l.take (k + 1)) = stp d c := by
  rw [List.take_add_one, hk]; simp [scan_snoc, h]
theorem scan_none_of {l : Bs} {k : Nat} {b : UInt8} (h : scan b (l.take k) = none) : scan b l = none := by
  have : ∀ (p q : Bs) (b : UInt8), scan b p = none → scan b (p ++ q) = none := by
    intro p
    induction p with
    | nil => intro q b h; simp [scan] at h
    | cons x r ih => intro q b h; simp only [List.cons_append, scan] at h ⊢; cases hs : stp b x with
      | none => rfl
      | some d => rw [hs] at h; exact ih _ _ h
  have h2 := this _ (l.drop k) _ h
  rwa [List.take_append_drop] at h2

theorem okc_iff (c : UInt8) : okc c = true ↔ (97 ≤ c.toNat ∧ c.toNat ≤ 122) ∨ (48 ≤ c.toNat ∧ c.toNat ≤ 57) := by simp [okc]
theorem stp_bad (b c : UInt8) (h : ¬ ((97 ≤ c.toNat ∧ c.toNat ≤ 122) ∨ (48 ≤ c.toNat ∧ c.toNat ≤ 57))) (h1 : c.toNat ≠ 45) (h2 : c.toNat ≠ 46) : stp b c = none := by
  unfold stp
  rw [if_neg (fun e => h ((okc_iff c).1 e)), if_neg h1, if_neg h2]

set_option maxRecDepth 100000 in
set_option maxHeartbeats 1000000 in
theorem Right_in (s : ByteArray) (w : World) (h1 : 1 ≤ s.size) (h2 : s.size ≤ 32) (h3 : 97 ≤ (s[0].toNat : Int)) (h4 : (s[0].toNat : Int) ≤ 122) (r : Bool) (hr : endOk (scan 46 s.data.toList) = r) :
    Calls Try.prog 27 #[.string s] w fun e w' => e = .returned (.bool r) ∧ w = w' := by
  have d1 : decide ((s.size : Int) < 1) = false := by simp; omega
  have d2 : decide (32 < (s.size : Int)) = false := by simp; omega
  have d3 : decide ((s[0].toNat : Int) < 97) = false := by simp; omega
  have d4 : decide (122 < (s[0].toNat : Int)) = false := by simp; omega
  have Hr := Lib.hid hr
  have hlen : s.data.toList.length = s.size := by simp
  have Hlen := Lib.hid hlen
  clear hr hlen
  go_enter Try.func27, Try.ntmps27
  go_wp2
  clear d1 d2 d3 d4
  go_step3
  go_wp2
  go_step3
  go_wp2
  go_loop [3,4,27] (fun r b i => ∃ (k : Nat) (c : UInt8), k ≤ s.size ∧ i = .int .i64 k ∧ r = .bool true ∧ b = .int .u8 c.toNat ∧ Hid (scan 46 (s.data.toList.take k) = some c)) (fun _ _ i => s.size - (intOf i).toNat)
  case atStart => exact ⟨0, 46, Nat.zero_le _, rfl, rfl, rfl, rfl⟩
  case round =>
    obtain ⟨k, c, hk, rfl, rfl, rfl, Hsc⟩ := hrel
    by_cases hlt : k < s.size
    · have hb := UInt8.toNat_lt s[k]
      have hgk : Hid (s.data.toList[k]? = some s[k]) := by
        unfold Hid; rw [List.getElem?_eq_getElem (by rw [Hlen.out]; exact hlt)]; rfl
      obtain ⟨x, hx⟩ : ∃ x, s[k] = x := ⟨_, rfl⟩
      have hno : Hid (stp c x = none → r = false) := fun h => by
        have h5 := scan_take Hsc.out hgk.out
        rw [hx, h] at h5
        have h6 := scan_none_of h5
        rw [← Hr.out, h6]; rfl
      have hyes : Hid (∀ d, stp c x = some d → scan 46 (s.data.toList.take (k + 1)) = some d) := fun d h => by
        have h5 := scan_take Hsc.out hgk.out
        rw [hx, h] at h5
        exact h5
      clear hgk Hsc
      have hx' := Lib.hid hx
      have hxn : s[k].toNat = x.toNat := by rw [hx'.out]
      have Hxn := Lib.hid hxn
      clear hxn hx
      have fin : ∀ {b : Bool} {w' : World}, b = r → w = w' → (Ending.returned (.bool b) = .returned (.bool r) ∧ w = w') := fun h h' => ⟨ret_bool h, h'⟩
      rcases Nat.lt_or_ge s[k].toNat 97 with g1 | g1
      · rcases Nat.lt_or_ge s[k].toNat 48 with g2 | g2
        · by_cases g3 : s[k].toNat = 45
          · have t1 : ((s[k].toNat : Int) == 45) = true := by simp [g3]
            by_cases g4 : c.toNat = 46
            · have t2 : ((c.toNat : Int) != 46) = false := by simp [g4]
              have hs : stp c x = none := by have := Hxn.out; simp [stp, okc, g4, ← this, g3]
              have hr0 := Lib.hid (hno.out hs)
              have G4 := Lib.hid g4
              clear g3 g4 hs
              go_wp2
              go_ret
              exact fin hr0.out.symm rfl
            · have t2 : ((c.toNat : Int) != 46) = true := by simp; omega
              have hs : stp c x = some x := by have := Hxn.out; simp [stp, okc, g4, ← this, g3]
              have Hs := Lib.hid (hyes.out _ hs)
              have G4 := Lib.hid g4
              clear g3 g4 hs
              go_wp2
              go_round
              case rel => exact ⟨k + 1, x, by omega, by go_num, rfl, by rw [Hxn.out], Hs.out⟩
              case measure => simp [intOf]; omega
          · have t1 : ((s[k].toNat : Int) == 45) = false := by simp; omega
            by_cases g5 : s[k].toNat = 46
            · have t3 : ((s[k].toNat : Int) == 46) = true := by simp [g5]
              by_cases g4 : c.toNat = 46
              · have t2 : ((c.toNat : Int) != 46) = false := by simp [g4]
                have hs : stp c x = none := by have := Hxn.out; simp [stp, okc, g4, ← this, g5]
                have hr0 := Lib.hid (hno.out hs)
                have G4 := Lib.hid g4
                clear g5 g3 g4 hs
                go_wp2
                go_ret
                exact fin hr0.out.symm rfl
              · have t2 : ((c.toNat : Int) != 46) = true := by simp; omega
                by_cases g6 : c.toNat = 45
                · have t4 : ((c.toNat : Int) != 45) = false := by simp [g6]
                  have hs : stp c x = none := by have := Hxn.out; simp [stp, okc, g6, ← this, g5]
                  have hr0 := Lib.hid (hno.out hs)
                  have G4 := Lib.hid g4
                  have G6 := Lib.hid g6
                  clear g5 g3 g4 g6 hs
                  go_wp2
                  go_ret
                  exact fin hr0.out.symm rfl
                · have t4 : ((c.toNat : Int) != 45) = true := by simp; omega
                  have hs : stp c x = some x := by have := Hxn.out; simp [stp, okc, g4, g6, ← this, g5]
                  have Hs := Lib.hid (hyes.out _ hs)
                  clear g5 g3 g4 g6 hs
                  go_wp2
                  go_round
                  case rel => exact ⟨k + 1, x, by omega, by go_num, rfl, by rw [Hxn.out], Hs.out⟩
                  case measure => simp [intOf]; omega
            · have t3 : ((s[k].toNat : Int) == 46) = false := by simp; omega
              have hs : stp c x = none := by have := Hxn.out; exact stp_bad _ _ (by omega) (by omega) (by omega)
              have hr0 := Lib.hid (hno.out hs)
              clear g3 g5 hs
              go_wp2
              go_ret
              exact fin hr0.out.symm rfl
        · rcases Nat.lt_or_ge 57 s[k].toNat with g3 | g3
          · have t1 : ((s[k].toNat : Int) == 45) = false := by simp; omega
            have t3 : ((s[k].toNat : Int) == 46) = false := by simp; omega
            have hs : stp c x = none := by have := Hxn.out; exact stp_bad _ _ (by omega) (by omega) (by omega)
            have hr0 := Lib.hid (hno.out hs)
            clear hs
            go_wp2
            go_ret
            exact fin hr0.out.symm rfl
          · have hs : stp c x = some x := by have := Hxn.out; simp [stp, okc, ← this]; omega
            have Hs := Lib.hid (hyes.out _ hs)
            clear hs
            go_wp2
            go_round
            case rel => exact ⟨k + 1, x, by omega, by go_num, rfl, by rw [Hxn.out], Hs.out⟩
            case measure => simp [intOf]; omega
      · rcases Nat.lt_or_ge 122 s[k].toNat with g3 | g3
        · have t1 : ((s[k].toNat : Int) == 45) = false := by simp; omega
          have t3 : ((s[k].toNat : Int) == 46) = false := by simp; omega
          have hs : stp c x = none := by have := Hxn.out; exact stp_bad _ _ (by omega) (by omega) (by omega)
          have hr0 := Lib.hid (hno.out hs)
          clear hs
          go_wp2
          go_ret
          exact fin hr0.out.symm rfl
        · have hs : stp c x = some x := by have := Hxn.out; simp [stp, okc, ← this]; omega
          have Hs := Lib.hid (hyes.out _ hs)
          clear hs
          go_wp2
          go_round
          case rel => exact ⟨k + 1, x, by omega, by go_num, rfl, by rw [Hxn.out], Hs.out⟩
          case measure => simp [intOf]; omega
    · have hkk : k = s.size := by omega
      have hres : Hid (endOk (some c) = r) := by
        unfold Hid; rw [← Hr.out, ← Hsc.out, List.take_of_length_le (by rw [Hlen.out]; omega)]
      clear Hsc Hr hkk
      go_wp2
      all_goals
        go_ret
        refine ⟨ret_bool ?_, rfl⟩
        rw [← hres.out]
        simp only [endOk]
        rw [Bool.eq_iff_iff]; simp; omega

set_option maxRecDepth 100000 in
set_option maxHeartbeats 1000000 in
theorem Right_any (s : ByteArray) (w : World) (hs : s.size ≤ maxLen) :
    Calls Try.prog 27 #[.string s] w fun e w' => e = .returned (.bool (rightB s.data.toList)) ∧ w = w' := by
  unfold maxLen at hs
  have hlen : s.data.toList.length = s.size := by simp
  obtain ⟨r, hr⟩ : ∃ r, rightB s.data.toList = r := ⟨_, rfl⟩
  rw [hr]
  by_cases h1 : 1 ≤ s.size
  · have hhead : headOk s.data.toList = (decide (97 ≤ s[0].toNat) && decide (s[0].toNat ≤ 122)) := by
      have : s.data.toList = s[0] :: s.data.toList.tail := by
        have h := List.cons_head_tail (l := s.data.toList) (by intro h; rw [h] at hlen; simp at hlen; omega)
        rw [← h]; simp only [List.tail_cons]; congr 1; simp [List.head_eq_getElem]; rfl
      rw [this]; rfl
    by_cases h2 : s.size ≤ 32
    · by_cases h3 : 97 ≤ s[0].toNat
      · by_cases h4 : s[0].toNat ≤ 122
        · refine Right_in s w h1 h2 (by omega) (by omega) r ?_
          rw [← hr]; unfold rightB; rw [hhead]; simp [h2, h3, h4]
        · have hr0 : r = false := by rw [← hr]; unfold rightB; rw [hhead]; simp [h4]
          subst hr0
          have d1 : decide ((s.size : Int) < 1) = false := by simp; omega
          have d2 : decide (32 < (s.size : Int)) = false := by simp; omega
          have d3 : decide ((s[0].toNat : Int) < 97) = false := by simp; omega
          have d4 : decide (122 < (s[0].toNat : Int)) = true := by simp; omega
          clear hr hhead hlen
          go_enter Try.func27, Try.ntmps27
          go_wp2
          go_step3
          go_wp2
          rw [Exit.noGoto_ret]
          go_ret
          exact ⟨rfl, rfl⟩
      · have hr0 : r = false := by rw [← hr]; unfold rightB; rw [hhead]; simp [h3]
        subst hr0
        have d1 : decide ((s.size : Int) < 1) = false := by simp; omega
        have d2 : decide (32 < (s.size : Int)) = false := by simp; omega
        have d3 : decide ((s[0].toNat : Int) < 97) = true := by simp; omega
        clear hr hhead hlen
        go_enter Try.func27, Try.ntmps27
        go_wp2
        go_step3
        go_wp2
        rw [Exit.noGoto_ret]
        go_ret
        exact ⟨rfl, rfl⟩
    · have hr0 : r = false := by rw [← hr]; unfold rightB; simp; omega
      subst hr0
      have d1 : decide ((s.size : Int) < 1) = false := by simp; omega
      have d2 : decide (32 < (s.size : Int)) = true := by simp; omega
      clear hr hhead hlen
      go_enter Try.func27, Try.ntmps27
      go_wp2
      go_step3
      go_wp2
      rw [Exit.noGoto_ret]
      go_ret
      exact ⟨rfl, rfl⟩
  · have hn : s.data.toList = [] := List.length_eq_zero_iff.1 (by omega)
    have hr0 : r = false := by rw [← hr, hn]; rfl
    subst hr0
    have d1 : decide ((s.size : Int) < 1) = true := by simp; omega
    clear hr hlen hn
    go_enter Try.func27, Try.ntmps27
    go_wp2
    go_step3
    go_wp2
    rw [Exit.noGoto_ret]
    go_ret
    exact ⟨rfl, rfl⟩
end Go.Proofs.Ytnanleopoedgfaa
