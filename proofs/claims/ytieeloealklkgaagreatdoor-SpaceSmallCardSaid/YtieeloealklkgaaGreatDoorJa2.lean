/-
  What the laws on spaces lean on and what knows no space: rows, names, sets of names.
-/
import Derived.Test.YtieeloealklkgaaGreatDoorJa1
import Derived.Laws.IdiomCopy
import Derived.Shelf.Spec.SlicesInsertGrow
set_option linter.unusedSimpArgs false
set_option linter.unusedVariables false

/-
  tells.
-/
namespace Go.Proofs.YtieeloealklkgaaGreatDoor
open Go.RowKit
attribute [local go_sem ↓] Go.wp_at_zero Go.wp_at_succ

def partsL (a : Bs) : List Bs := if rightB a then cut a else []
def errN (r : Bool) : Int := if r then 0 else 40
def joinL (xs : List Bs) : Bs := if joinOk xs then joinB xs else []
def cmpN (a b : Bs) : Int := if rightB a && rightB b then ordN a b else 0
theorem errN_bd (r : Bool) : 0 ≤ errN r ∧ errN r ≤ 40 := by cases r <;> decide
theorem cells_nil' (w : World) (A : Option Addr) : Cells w A (([] : List Bs).map strV) := fun j x h => by simp at h

def TwoPost (L : List Bs) (n : Nat) (E : Int) (w : World) (e : Ending) (w' : World) : Prop := ∃ A cap, e = .returned (.tuple #[.slice A n cap, .int .i64 E]) ∧ Cells w' A (L.map strV) ∧ Below w.heap.size w w'
def OnePost (J : Bs) (E : Int) (w : World) (e : Ending) (w' : World) : Prop := e = .returned (.tuple #[.string (bs J), .int .i64 E]) ∧ Below w.heap.size w w'
def NumPost (C E : Int) (w : World) (e : Ending) (w' : World) : Prop := e = .returned (.tuple #[.int .i64 C, .int .i64 E]) ∧ Below w.heap.size w w'

theorem Parts_two (a : Bs) (ha : a.length ≤ 1000) (W : World) : Calls Tryz.prog 48 #[.string (bs a)] W (TwoPost (partsL a) (partsL a).length (errN (rightB a)) W) := by
  cases h : rightB a with
  | true =>
    have hp := Parts_yes (bs a) W (by rw [size_bs]; omega) (by rw [toList_bs]; exact h)
    rw [toList_bs] at hp
    refine hp.mono ?_
    rintro e w' ⟨v, rfl, hrow, hb⟩
    obtain ⟨A, cap, rfl, _, _, _, hc, _, _⟩ := ownsRow_cells hrow
    rw [partsL, if_pos h]
    exact ⟨A, cap, rfl, hc, hb⟩
  | false =>
    refine (Parts_no (bs a) W (by rw [size_bs]; omega) (by rw [toList_bs]; exact h)).mono ?_
    rintro e w' ⟨rfl, rfl⟩
    rw [partsL, if_neg (by rw [h]; simp)]
    exact ⟨none, 0, rfl, cells_nil' _ _, Below.refl _ _⟩
theorem refParts_two (a : Bs) (ha : a.length ≤ 1000) (W : World) : Calls Tryz.prog 49 #[.string (bs a)] W (TwoPost (partsL a) (partsL a).length (errN (rightB a)) W) := by
  cases h : rightB a with
  | true =>
    refine (refParts_yes a W (by omega) h).mono ?_
    rintro e w' ⟨v, rfl, hrow, hb⟩
    obtain ⟨A, cap, rfl, _, _, _, hc, _, _⟩ := ownsRow_cells hrow
    rw [partsL, if_pos h]
    exact ⟨A, cap, rfl, hc, hb⟩
  | false =>
    refine (refParts_no a W (by omega) h).mono ?_
    rintro e w' ⟨rfl, hb⟩
    rw [partsL, if_neg (by rw [h]; simp)]
    exact ⟨none, 0, rfl, cells_nil' _ _, hb⟩
theorem one_of_join {xs : List Bs} {w w' : World} {e : Ending} (h : JoinPost (joinOk xs) (joinB xs) w e w') : OnePost (joinL xs) (errN (joinOk xs)) w e w' := by
  obtain ⟨rfl, hb⟩ := h
  unfold OnePost joinL errN
  cases joinOk xs <;> exact ⟨rfl, hb⟩
theorem Compare_two (a b : Bs) (ha : a.length ≤ 1000) (hb : b.length ≤ 1000) (W : World) : Calls Tryz.prog 53 #[.string (bs a), .string (bs b)] W (NumPost (cmpN a b) (errN (rightB a && rightB b)) W) := by
  have h := Compare_any (bs a) (bs b) W (by rw [size_bs]; omega) (by rw [size_bs]; omega)
  rw [toList_bs, toList_bs] at h
  refine h.mono ?_
  rintro e w' ⟨rfl, hb⟩
  unfold NumPost cmpN errN
  cases (rightB a && rightB b) <;> exact ⟨rfl, hb⟩
theorem refCompare_two (a b : Bs) (ha : a.length ≤ 1000) (hb : b.length ≤ 1000) (W : World) : Calls Tryz.prog 54 #[.string (bs a), .string (bs b)] W (NumPost (cmpN a b) (errN (rightB a && rightB b)) W) := by
  refine (refCompare_any a b W (by omega) (by omega)).mono ?_
  rintro e w' ⟨rfl, hb⟩
  unfold NumPost cmpN errN
  cases (rightB a && rightB b) <;> exact ⟨rfl, hb⟩
theorem Right_l (a : Bs) (ha : a.length ≤ 1000) (W : World) : Calls Tryz.prog 21 #[.string (bs a)] W fun e w' => e = .returned (.bool (rightB a)) ∧ W = w' := by
  have h := Right_any (bs a) W (by rw [size_bs]; unfold maxLen; omega)
  rw [toList_bs] at h; exact h
theorem Under_l (a b : Bs) (ha : a.length ≤ 1000) (hb : b.length ≤ 1000) (W : World) : Calls Tryz.prog 56 #[.string (bs a), .string (bs b)] W fun e w' => e = .returned (.bool (underB a b)) ∧ Below W.heap.size W w' := by
  have h := Under_any (bs a) (bs b) W (by rw [size_bs]; omega) (by rw [size_bs]; omega)
  rw [toList_bs, toList_bs] at h; exact h
theorem partsL_len (a : Bs) : (partsL a).length ≤ a.length + 1 := by
  unfold partsL; split
  · exact cut_length a
  · simp
theorem cmpN_bd (a b : Bs) : -1 ≤ cmpN a b ∧ cmpN a b ≤ 1 := by
  unfold cmpN; split
  · have := ordN_val a b; omega
  · decide
theorem same_l (A A' : Option Addr) (n c c' : Nat) (L : List Bs) (hn : L.length = n) (hm : n ≤ 10000) (W : World) (h : Cells W A (L.map strV)) (h' : Cells W A' (L.map strV)) :
    Calls Tryz.prog 46 #[.slice A n c, .slice A' n c'] W fun e w' => e = .returned (.bool true) ∧ Below W.heap.size W w' := by
  refine (SameTexts_any A A' n n c c' L L W hn hn (by omega) (by omega) h h').mono ?_
  rintro e w' ⟨rfl, hb⟩
  exact ⟨by simp, hb⟩

set_option maxRecDepth 100000 in
set_option maxHeartbeats 8000000 in
/-- Strings of at most 200 bytes, at most 40 of them. -/
theorem tells_in (a b : Bs) (A : Option Addr) (n cap : Nat) (xs : List Bs) (w : World) (ha : (bs a).size ≤ 200) (hb : (bs b).size ≤ 200) (hn : xs.length = n) (hm : n ≤ 40) (hp : ∀ p ∈ xs, p.length ≤ 200) (hc : Cells w A (xs.map strV)) :
    Calls Tryz.prog 23 #[.string (bs a), .string (bs b), .slice A n cap] w fun e w' => e = .returned (.bool true) ∧ Below w.heap.size w w' := by
  have ha' : a.length ≤ 1000 := by rw [size_bs] at ha; omega
  have hb' : b.length ≤ 1000 := by rw [size_bs] at hb; omega
  have hp' : ∀ p ∈ xs, p.length ≤ 1000 := fun p h => by have := hp p h; omega
  have HF : Calls Tryz.prog 47 #[.slice A n cap] w fun e w' => e = .returned (.bool true) ∧ w = w' := by
    refine (few_any A n cap (xs.map bs) w (by simpa using hn) (by unfold maxLen; omega) (fun x hx => by obtain ⟨p, h, rfl⟩ := List.mem_map.1 hx; have := hp p h; rw [size_bs]; unfold maxLen; omega) (by rw [List.map_map]; exact hc)).mono ?_
    rintro e w' ⟨rfl, rfl⟩
    refine ⟨?_, rfl⟩
    have : (decide ((xs.map bs).length ≤ 300) && (xs.map bs).all fun x => decide (x.size ≤ 200)) = true := by
      rw [Bool.and_eq_true, List.all_eq_true]
      refine ⟨by simp; omega, fun x hx => ?_⟩
      obtain ⟨p, h, rfl⟩ := List.mem_map.1 hx
      have := hp p h
      exact decide_eq_true (by rw [size_bs]; exact this)
    rw [this]
  have P1 := Parts_two a ha'
  have P2 := refParts_two a ha'
  have ln := partsL_len a
  have C1 := Compare_two a b ha' hb'
  have C2 := refCompare_two a b ha' hb'
  have lc := cmpN_bd a b
  have R1 := Right_l a ha'
  have R2 := fun W => refRight_r a (by omega) (r := rightB a) rfl W
  have U1 := Under_l a b ha' hb'
  have U2 := fun W => refUnder_any a b W (by omega) (by omega)
  have J1 := fun (B : Option Addr) (c : Nat) (W : World) (h1 : n ≤ c) (h2 : Cells W B (xs.map strV)) (h3 : ∀ b off s, B = some ⟨b, off, s⟩ → b < W.heap.size) => (Join_any B n c xs W hn (by omega) h1 hp' h2 h3).mono fun _ _ h => one_of_join h
  have J2 := fun (W : World) (h2 : Cells W A (xs.map strV)) => (refJoin_any A n cap xs W hn (by omega) hp' h2).mono fun _ _ h => one_of_join h
  have K1 := fun (W : World) (h2 : Cells W A (xs.map strV)) => CopyTexts_any A n cap xs W hn (by omega) h2
  have e1 := errN_bd (rightB a)
  have e2 := errN_bd (joinOk xs)
  have e3 := errN_bd (rightB a && rightB b)
  have S2 := fun (B : Option Addr) (c : Nat) (W : World) => same_l B A n c cap xs hn (by omega) W
  have S1 := fun (B B' : Option Addr) (c c' : Nat) (W : World) => same_l B B' (partsL a).length c c' (partsL a) rfl (by omega) W
  obtain ⟨E1, hE1⟩ : ∃ E, errN (rightB a) = E := ⟨_, rfl⟩
  obtain ⟨E2, hE2⟩ : ∃ E, errN (joinOk xs) = E := ⟨_, rfl⟩
  obtain ⟨E3, hE3⟩ : ∃ E, errN (rightB a && rightB b) = E := ⟨_, rfl⟩
  obtain ⟨L, hL⟩ : ∃ L, partsL a = L := ⟨_, rfl⟩
  obtain ⟨J, hJ⟩ : ∃ L, joinL xs = L := ⟨_, rfl⟩
  obtain ⟨C, hC⟩ : ∃ L, cmpN a b = L := ⟨_, rfl⟩
  rw [hE1] at P1 P2 e1
  rw [hE3] at C1 C2 e3
  rw [hE2] at e2
  rw [hL] at P1 P2 S1 ln
  rw [hC] at C1 C2 lc
  simp only [hE2, hJ] at J1 J2
  obtain ⟨r, hr⟩ : ∃ r, rightB a = r := ⟨_, rfl⟩
  obtain ⟨u, hu⟩ : ∃ r, underB a b = r := ⟨_, rfl⟩
  obtain ⟨m, hm'⟩ : ∃ m, L.length = m := ⟨_, rfl⟩
  simp only [hr] at R1 R2
  simp only [hu] at U1 U2
  rw [hm'] at P1 P2 S1 ln
  have P1 := Lib.hid P1
  have P2 := Lib.hid P2
  have C1 := Lib.hid C1
  have C2 := Lib.hid C2
  have R1 := Lib.hid R1
  have R2 := Lib.hid R2
  have U1 := Lib.hid U1
  have U2 := Lib.hid U2
  have J1 := Lib.hid J1
  have J2 := Lib.hid J2
  have K1 := Lib.hid K1
  have S1 := Lib.hid S1
  have S2 := Lib.hid S2
  have HF := Lib.hid HF
  have Hc := Lib.hid hc
  have k1 : IntKind.i64.wrap E1 = E1 := IntWalk.i64_in _ (by omega)
  have k2 : IntKind.i64.wrap E2 = E2 := IntWalk.i64_in _ (by omega)
  have k3 : IntKind.i64.wrap E3 = E3 := IntWalk.i64_in _ (by omega)
  have g1 : ¬ (200 : Int) < ((bs a).size : Int) := by omega
  have g2 : ¬ (200 : Int) < ((bs b).size : Int) := by omega
  have g3 : ¬ (40 : Int) < (n : Int) := by omega
  clear hE1 hE2 hE3 hL hJ hC hr hu hm' ha hb hp hp' hn hc ha' hb' ln lc e1 e2 e3
  go_enter Tryz.func23, Tryz.ntmps23
  go_wp2_with fail
  refine HF.out.mono ?_
  rintro e w0 ⟨rfl, rfl⟩
  go_wp2_with fail
  refine (P1.out _).mono ?_
  rintro e w1 ⟨B1, c1, rfl, hc1, hb1⟩
  have Hc1 := Lib.hid hc1
  clear hc1
  go_wp2_with fail
  refine (P2.out _).mono ?_
  rintro e w2 ⟨B2, c2, rfl, hc2, hb2⟩
  have Hc1' := Lib.hid (Hc1.out.below hb2)
  have Hc2 := Lib.hid hc2
  have hb02 := hb1.trans (hb2.mono hb1.size)
  clear Hc1 hc2 hb1 hb2
  go_wp2_with fail
  refine (K1.out _ (Hc.out.below hb02)).mono ?_
  rintro e w3 ⟨v, rfl, hrow, hb3⟩
  obtain ⟨B3, c3, rfl, hc31, _, _, hc3, _, hlt3⟩ := ownsRow_cells hrow
  have Hc3 := Lib.hid hc3
  have Hlt3 := Lib.hid hlt3
  have Hc1 := Lib.hid (Hc1'.out.below hb3)
  have Hc2' := Lib.hid (Hc2.out.below hb3)
  have hb03 := hb02.trans (hb3.mono hb02.size)
  clear hc3 hlt3 hrow Hc1' Hc2 hb02 hb3
  go_wp2_with fail
  refine (J1.out B3 c3 _ hc31 Hc3.out (fun b off s h => (Hlt3.out b off s h).2)).mono ?_
  rintro e w4 ⟨rfl, hb4⟩
  have Hc3' := Lib.hid (Hc3.out.below hb4)
  have Hc1' := Lib.hid (Hc1.out.below hb4)
  have Hc2 := Lib.hid (Hc2'.out.below hb4)
  have hb04 := hb03.trans (hb4.mono hb03.size)
  clear hb03 hb4 Hc3 Hc1 Hc2' Hlt3
  go_wp2_with fail
  refine (J2.out _ (Hc.out.below hb04)).mono ?_
  rintro e w5 ⟨rfl, hb5⟩
  have Hc3 := Lib.hid (Hc3'.out.below hb5)
  have Hc1 := Lib.hid (Hc1'.out.below hb5)
  have Hc2' := Lib.hid (Hc2.out.below hb5)
  have hb05 := hb04.trans (hb5.mono hb04.size)
  clear hb04 hb5 Hc3' Hc1' Hc2
  go_wp2_with fail
  refine (C1.out _).mono ?_
  rintro e w6 ⟨rfl, hb6⟩
  have Hc3' := Lib.hid (Hc3.out.below hb6)
  have Hc1' := Lib.hid (Hc1.out.below hb6)
  have Hc2 := Lib.hid (Hc2'.out.below hb6)
  have hb06 := hb05.trans (hb6.mono hb05.size)
  clear hb05 hb6 Hc3 Hc1 Hc2'
  go_wp2_with fail
  refine (C2.out _).mono ?_
  rintro e w7 ⟨rfl, hb7⟩
  have Hc3 := Lib.hid (Hc3'.out.below hb7)
  have Hc1 := Lib.hid (Hc1'.out.below hb7)
  have Hc2' := Lib.hid (Hc2.out.below hb7)
  have hb07 := hb06.trans (hb7.mono hb06.size)
  clear hb06 hb7 Hc3' Hc1' Hc2
  go_wp2_with fail
  refine (R1.out _).mono ?_
  rintro e w8 ⟨rfl, rfl⟩
  go_wp2_with fail
  refine (R2.out _).mono ?_
  rintro e w9 ⟨rfl, hb9⟩
  have Hc3' := Lib.hid (Hc3.out.below hb9)
  have Hc1' := Lib.hid (Hc1.out.below hb9)
  have Hc2 := Lib.hid (Hc2'.out.below hb9)
  have hb09 := hb07.trans (hb9.mono hb07.size)
  clear hb07 hb9 Hc3 Hc1 Hc2'
  have t0 : (r == r) = true := by simp
  have t1 : (E1 == E1) = true := by simp
  have t2 : (E2 == E2) = true := by simp
  have t3 : (E3 == E3) = true := by simp
  have t4 : (C == C) = true := by simp
  have t5 : ((bs J).toList == (bs J).toList) = true := by simp
  have t6 : (u == u) = true := by simp
  go_wp2_with fail
  refine (S1.out B1 B2 c1 c2 _ Hc1'.out Hc2.out).mono ?_
  rintro e w10 ⟨rfl, hb10⟩
  have Hc3 := Lib.hid (Hc3'.out.below hb10)
  have hb010 := hb09.trans (hb10.mono hb09.size)
  clear hb09 hb10 Hc3' Hc1' Hc2 S1
  go_wp2_with fail
  refine (U1.out _).mono ?_
  rintro e w11 ⟨rfl, hb11⟩
  have Hc3' := Lib.hid (Hc3.out.below hb11)
  have hb011 := hb010.trans (hb11.mono hb010.size)
  clear hb010 hb11 Hc3
  go_wp2_with fail
  refine (U2.out _).mono ?_
  rintro e w12 ⟨rfl, hb12⟩
  have Hc3 := Lib.hid (Hc3'.out.below hb12)
  have hb012 := hb011.trans (hb12.mono hb011.size)
  clear hb011 hb12 Hc3'
  go_wp2_with fail
  refine (S2.out B3 c3 _ Hc3.out (Hc.out.below hb012)).mono ?_
  rintro e w13 ⟨rfl, hb13⟩
  have hb013 := hb012.trans (hb13.mono hb012.size)
  clear hb012 hb13 Hc3 S2
  go_wp2_with fail
  go_ret
  exact ⟨by simp, hb013⟩
end Go.Proofs.YtieeloealklkgaaGreatDoor

/-
  name.Of.
-/
namespace Go.Proofs.YtieeloealklkgaaGreatDoor
open Go.RowKit Go.Sort
attribute [local go_sem ↓] Go.wp_at_zero Go.wp_at_succ

theorem Clone_any (a : Option Addr) (n cap : Nat) (xs : List Bs) (w : World) (hn : xs.length = n) (hm : n ≤ 1000000) (hc : Cells w a (xs.map strV)) :
    Calls Tryz.prog 39 #[.slice a n cap] w fun e w' => ∃ v, e = .returned v ∧ w'.ownsRow w.heap.size 9 1 v n (xs.map strV) ∧ (0 < n → v ≠ .slice none 0 0) ∧ Below w.heap.size w w' := by
  by_cases h0 : n = 0
  · subst h0
    obtain rfl := List.length_eq_zero_iff.1 hn
    cases a with
    | none =>
      refine (Tryz.slices_Clone_string_nil 0 cap w).mono ?_
      rintro e w' ⟨rfl, rfl⟩
      exact ⟨_, rfl, World.ownsRow_nil _ _ _ _, fun h => absurd h (by omega), Below.refl _ _⟩
    | some a =>
      refine (Tryz.slices_Clone_string_zero a cap w).mono ?_
      rintro e w' ⟨v, rfl, h1, h2, h3⟩
      exact ⟨v, rfl, h1, fun _ => h2, h3⟩
  · obtain ⟨x, hx⟩ : ∃ x, xs[0]? = some x := ⟨_, List.getElem?_eq_getElem (by omega)⟩
    obtain ⟨b, off, rfl, _⟩ := hc.at (k := 0) (x := strV x) (by simp [hx])
    have h := Tryz.slices_Clone_string b off n cap (xs.map bs) w (by rw [List.length_map, hn]; exact Nat.le_refl _) (by omega) (fun j hj => by
      have hj' : j < xs.length := by simpa using hj
      obtain ⟨b', off', hbo, hcell⟩ := hc.at (k := j) (x := strV xs[j]) (by simp [List.getElem?_eq_getElem hj'])
      cases hbo
      rw [hcell]
      simp [List.getD, List.getElem?_eq_getElem hj', strV])
    refine h.mono ?_
    rintro e w' ⟨v, rfl, h1, h2, h3⟩
    rw [List.take_of_length_le (by rw [List.length_map, hn]; exact Nat.le_refl _), List.map_map] at h1
    exact ⟨v, rfl, h1, fun _ => h2, h3⟩

def RowPost (L : List Bs) (n : Nat) (E : Int) (w : World) (e : Ending) (w' : World) : Prop := ∃ v, e = .returned (.tuple #[v, .int .i64 E]) ∧ w'.ownsRow w.heap.size 9 1 v n (L.map strV) ∧ Below w.heap.size w w'
theorem RowPost.nil {L : List Bs} {n : Nat} {E E' : Int} {w w' : World} (hL : [] = L) (hn : L.length = n) (hE : E' = E) (hb : Below w.heap.size w w') : RowPost L n E w (.returned (.tuple #[.slice none 0 0, .int .i64 E'])) w' := by
  subst hL hn hE
  exact ⟨_, rfl, World.ownsRow_nil _ _ _ _, hb⟩
theorem RowPost.row {L : List Bs} {n m : Nat} {E E' : Int} {v : Value} {M : List Bs} {w w' : World} (hM : M = L) (hm : m = n) (hE : E' = E) (hrow : w'.ownsRow w.heap.size 9 1 v m (M.map strV)) (hb : Below w.heap.size w w') : RowPost L n E w (.returned (.tuple #[v, .int .i64 E'])) w' := by
  subst hM hm hE
  exact ⟨_, rfl, hrow, hb⟩

end Go.Proofs.YtieeloealklkgaaGreatDoor

/-
  made: the names of numbers.
-/
namespace Go.Proofs.YtieeloealklkgaaGreatDoor
open Go.RowKit
attribute [local go_sem ↓] Go.wp_at_zero Go.wp_at_succ

end Go.Proofs.YtieeloealklkgaaGreatDoor

/-
  The set of names of numbers is right. Plain Lean.
-/
namespace Go.Proofs.YtieeloealklkgaaGreatDoor
open Go.RowKit

theorem setB_of {L : List Bs} (h : SortedL L) (hr : ∀ x ∈ L, rightB x = true) (hl : L.length ≤ 256) : setB L = true := by
  unfold setB
  rw [Bool.and_eq_true]
  refine ⟨List.all_eq_true.2 fun j hj => ?_, decide_eq_true hl⟩
  have hj := List.mem_range.1 hj
  have h1 : L.getD j [] = L[j] := getD_lt hj
  simp only [okAt, Bool.and_eq_true, Bool.or_eq_true, decide_eq_true_eq]
  rw [h1]
  refine ⟨hr _ (List.getElem_mem hj), ?_⟩
  by_cases h0 : j = 0
  · exact .inl h0
  · right
    rw [getD_lt (show j - 1 < L.length by omega)]
    exact List.pairwise_iff_getElem.1 h (j - 1) j (by omega) hj (by omega)
theorem sorted_of {L : List Bs} (h : setB L = true) : SortedL L :=
  List.pairwise_iff_getElem.2 fun i j hi hj hij => by
    have := setB_incr h i j hij hj
    rwa [getD_lt hi, getD_lt hj] at this
theorem setB_short {L : List Bs} (h : setB L = true) : ∀ p ∈ L, p.length ≤ 32 := fun p hp => by
  obtain ⟨i, hi, rfl⟩ := List.getElem_of_mem hp
  have := setB_right h i hi
  rw [getD_lt hi] at this
  exact rightB_len this
end Go.Proofs.YtieeloealklkgaaGreatDoor

/-
  A row of cells, some of them put anew.
-/
namespace Go.Proofs.YtieeloealklkgaaGreatDoor

/-- The cells of a row, some of them put anew. -/
def over (cur : Array Value) : Nat → List Value → Array Value
  | _, [] => cur
  | o, v :: r => over (cur.setIfInBounds o v) (o + 1) r
theorem over_size : ∀ (vs : List Value) (o : Nat) (cur : Array Value), (over cur o vs).size = cur.size
  | [], _, _ => rfl
  | v :: r, o, cur => by rw [over, over_size r]; simp
theorem over_get : ∀ (vs : List Value) (o : Nat) (cur : Array Value) (j : Nat), (over cur o vs)[j]? = if o ≤ j ∧ j < o + vs.length ∧ j < cur.size then vs[j - o]? else cur[j]?
  | [], o, cur, j => by rw [over, if_neg]; simp; omega
  | v :: r, o, cur, j => by
    rw [over, over_get r (o + 1) _ j]
    simp only [Array.size_setIfInBounds, List.length_cons]
    by_cases h1 : j = o
    · subst h1
      rw [if_neg (by omega)]
      by_cases h2 : j < cur.size
      · rw [if_pos (by omega), Array.getElem?_setIfInBounds, if_pos rfl, if_pos h2]; simp
      · rw [if_neg (by omega), Array.getElem?_setIfInBounds, if_pos rfl, if_neg h2, Array.getElem?_eq_none (by omega)]
    · by_cases h2 : o + 1 ≤ j ∧ j < o + 1 + r.length ∧ j < cur.size
      · rw [if_pos h2, if_pos (by omega), show j - o = (j - (o + 1)) + 1 by omega, List.getElem?_cons_succ]
      · rw [if_neg h2, if_neg (by omega), Array.getElem?_setIfInBounds, if_neg (by omega)]
theorem heap_setCells_at {b : Nat} {e : TypeId} {fz : Nat × Nat} : ∀ (vs : List Value) (o : Nat) (w : World) (cur : Array Value), w.heap[b]? = some (.cells cur e fz) → (w.setCells b o vs).heap[b]? = some (.cells (over cur o vs) e fz)
  | [], _, _, _, h => h
  | v :: r, o, w, cur, h => by
    rw [World.setCells, over]
    refine heap_setCells_at r (o + 1) _ _ ?_
    simp [World.setCell, Array.getElem?_modify, h]
end Go.Proofs.YtieeloealklkgaaGreatDoor

/-
  slices.Insert and slices.Delete at strings, on an own row; what they make. 
-/
namespace Go.Proofs.YtieeloealklkgaaGreatDoor
open Go.RowKit Go.Lib

theorem below_setCells {B b : Nat} {a : World} (hb : B ≤ b) : ∀ (vs : List Value) (o : Nat) (w : World), Below B a w → Below B a (w.setCells b o vs)
  | [], _, _, h => h
  | v :: r, o, w, h => below_setCells hb r (o + 1) _ (h.setCell (by exact hb) v)

theorem ins_get (cs : List Value) (s : Value) (i n j : Nat) (hn : cs.length = n) (hi : i ≤ n) : (cs.take i ++ s :: cs.drop i)[j]? = if j < i then cs[j]? else if j = i then some s else cs[j - 1]? := by
  have hl : (cs.take i).length = i := by rw [List.length_take]; omega
  by_cases h1 : j < i
  · rw [if_pos h1, List.getElem?_append_left (by omega), List.getElem?_take, if_pos h1]
  · rw [if_neg h1, List.getElem?_append_right (by omega), hl]
    by_cases h2 : j = i
    · subst h2; rw [if_pos rfl, Nat.sub_self]; rfl
    · rw [if_neg h2, show j - i = (j - 1 - i) + 1 by omega, List.getElem?_cons_succ, List.getElem?_drop]
      congr 1; omega
/-- Moved up first, or put in first: the row is the same. -/
theorem ins_over (cur : Array Value) (cs : List Value) (s : Value) (i n : Nat) (hn : cs.length = n) (hi : i ≤ n) (hs : n + 1 ≤ cur.size) (hp : ∀ j, j < i → cur[j]? = cs[j]?) :
    (over (over cur (i + 1) (cs.drop i)) i [s]).toList.take (n + 1) = cs.take i ++ s :: cs.drop i ∧ (over (over cur i [s]) (i + 1) (cs.drop i)).toList.take (n + 1) = cs.take i ++ s :: cs.drop i := by
  refine ⟨List.ext_getElem? fun j => ?_, List.ext_getElem? fun j => ?_⟩
  all_goals
    rw [ins_get cs s i n j hn hi, List.getElem?_take, Array.getElem?_toList]
    simp only [over_get, over_size, List.length_cons, List.length_nil, List.length_drop, hn]
    by_cases h0 : j < n + 1
    · rw [if_pos h0]
      by_cases h1 : j < i
      · rw [if_neg (by omega), if_neg (by omega), if_pos h1, hp j h1]
      · by_cases h2 : j = i
        · subst h2
          rw [if_neg h1, if_pos rfl]
          first
            | (rw [if_pos (by omega)]; simp)
            | (rw [if_neg (by omega), if_pos (by omega)]; simp)
        · rw [if_neg h1, if_neg h2]
          first
            | (rw [if_neg (by omega), if_pos (by omega), List.getElem?_drop]; congr 1; omega)
            | (rw [if_pos (by omega), List.getElem?_drop]; congr 1; omega)
    · rw [if_neg h0, if_neg (by omega), if_neg (by omega), List.getElem?_eq_none (by omega)]
theorem row_cells {w : World} {base : Nat} {e : TypeId} {g n cap : Nat} {xs : List Value} (h : w.ownsRow base e 1 (.slice (some ⟨g, 0, none⟩) n cap) n xs) :
    ∃ cur, base ≤ g ∧ w.heap[g]? = some (.cells cur e (0, 0)) ∧ n ≤ cap ∧ cap ≤ maxLen ∧ cur.size = cap ∧ xs.length = n ∧ ∀ j, j < n → cur[j]? = xs[j]? := by
  rcases h.2 with ⟨h0, _⟩ | ⟨g', cap', cur, h1, hb, hg, hn, hm, hs, ht⟩
  · cases h0
  · cases h1
    refine ⟨cur, hb, hg, hn, hm, by omega, by have := h.1; omega, fun j hj => ?_⟩
    rw [← ht, List.getElem?_take, if_pos (by omega), Array.getElem?_toList]
theorem one_strV (xs : List Bs) : ∀ v ∈ xs.map strV, v.oneCell' = true := fun v hv => by
  obtain ⟨x, _, rfl⟩ := List.mem_map.1 hv
  rfl
theorem cell_of_heap {w : World} {b j : Nat} {cur : Array Value} {e : TypeId} {fz : Nat × Nat} (h : w.heap[b]? = some (.cells cur e fz)) : w.cell? ⟨b, j, none⟩ = cur[j]? := by simp [World.cell?, h]
theorem frozen_of_heap {w : World} {b j : Nat} {cur : Array Value} {e : TypeId} (h : w.heap[b]? = some (.cells cur e (0, 0))) : w.frozen? ⟨b, j, none⟩ = false := by simp [World.frozen?, h]

theorem take_row (A : List Value) (Z : Array Value) (n : Nat) (h : A.length = n) : (A.toArray ++ Z).toList.take (n * 1) = A := by
  rw [Array.toList_append, Nat.mul_one, List.take_append_of_le_length (by simp [h]), List.take_of_length_le (by simp [h])]

def insL (xs : List Bs) (i : Nat) (s : Bs) : List Bs := xs.take i ++ s :: xs.drop i
theorem insL_len (xs : List Bs) (i : Nat) (s : Bs) : (insL xs i s).length = xs.length + 1 := by simp [insL]; omega
theorem insL_map (xs : List Bs) (i : Nat) (s : Bs) : (insL xs i s).map strV = (xs.map strV).take i ++ strV s :: (xs.map strV).drop i := by simp [insL, List.map_take, List.map_drop]

set_option maxRecDepth 100000 in
set_option maxHeartbeats 2000000 in
/-- slices.Insert of one string, on an own row. -/
theorem Insert_any (v : Value) (n base i vb vc : Nat) (xs : List Bs) (s : Bs) (w : World) (hm : n ≤ 100000) (hi : i ≤ n) (hrow : w.ownsRow base 9 1 v n (xs.map strV)) (hv : 0 < n → v ≠ .slice none 0 0) (hx : Box w vb (strV s)) (hne : v.ownBlock ≠ some vb) (hbase : base ≤ w.heap.size) :
    Calls Tryz.prog 83 #[v, .int .i64 i, .slice (some ⟨vb, 0, none⟩) 1 vc] w fun e w' => ∃ v', e = .returned v' ∧ w'.ownsRow base 9 1 v' (n + 1) ((insL xs i s).map strV) ∧ Below base w w' := by
  have hxl : xs.length = n := by have := hrow.1; simpa using this
  have hml : (xs.map strV).length = n := by simpa using hxl
  obtain ⟨tb, hxb⟩ := hx
  have hx : Box w vb (strV s) := ⟨tb, hxb⟩
  have hsh : w.shape? vb = some (tb, 1) := by simp [World.shape?, hxb]
  have hfz : ∀ j, w.frozen? ⟨vb, j, none⟩ = false := fun j => frozen_of_heap hxb
  have hsv : ∀ j u, ([strV s] : List Value)[j]? = some u → w.cell? ⟨vb, 0 + j, none⟩ = some u := fun j u h => by
    cases j with
    | zero => simp only [List.getElem?_cons_zero, Option.some.injEq] at h; subst h; exact hx.cell
    | succ j => simp at h
  have h1v : ∀ u ∈ ([strV s] : List Value), u.oneCell' = true := fun u hu => by rw [List.mem_singleton.1 hu]; rfl
  rcases hrow.2 with ⟨rfl, h0⟩ | ⟨g, cap, cur0, rfl, _⟩
  · subst h0
    have hx0 : xs = [] := List.length_eq_zero_iff.1 hxl
    subst hx0
    obtain rfl : i = 0 := by omega
    refine (Any2.slices_Insert_string_end_grow Tryz.laysInsert none 0 0 vb 0 1 vc [] [strV s] w (by omega) (by omega) (by omega) (by omega) rfl rfl (fun _ => rfl) (fun a h => by cases h) hsv h1v).mono ?_
    rintro e w' ⟨rfl, rfl⟩
    have hG := grownCap_ge w (0 + 1) 0 (Tryz.laysInsert_ren.t 9)
    have hGm := grownCap_le_maxLen w (0 + 1) 0 (Tryz.laysInsert_ren.t 9) (by unfold maxLen; omega)
    obtain ⟨G, hGe⟩ : ∃ G, grownCap w (0 + 1) 0 (Tryz.laysInsert_ren.t 9) = G := ⟨_, rfl⟩
    rw [hGe] at hG hGm ⊢
    refine ⟨_, rfl, ⟨by simp [insL], .inr ⟨w.heap.size, G, _, rfl, hbase, World.alloc_heap_new w.drew _, hG, hGm, ?_, ?_⟩⟩, (Below.refl base w).drew.alloc hbase _⟩
    · simp [Builtin.zeroCells, Value.cells]; omega
    · simp [insL]
  · obtain ⟨cur, hb, hg, hn, hcm, hs, _, hget⟩ := row_cells hrow
    have hcs : ∀ j u, (xs.map strV)[j]? = some u → w.cell? ⟨g, 0 + j, none⟩ = some u := fun j u h => by
      have hj : j < n := by
        rcases Nat.lt_or_ge j n with h' | h'
        · exact h'
        · rw [List.getElem?_eq_none (by omega)] at h; cases h
      rw [Nat.zero_add, cell_of_heap hg, hget j hj, h]
    have hshg : w.shape? g = some (9, cap) := by simp [World.shape?, hg, hs]
    have hgl : g < w.heap.size := (Array.getElem?_eq_some_iff.1 hg).1
    by_cases hroom : n + 1 ≤ cap
    · by_cases hin : i = n
      · subst hin
        refine (Any2.slices_Insert_string_end_room Tryz.laysInsert g 0 i cap vb 0 1 vc [strV s] w (by omega) hroom (by unfold maxLen at hcm; omega) rfl (fun j hj => by rw [cell_of_heap hg, Array.getElem?_eq_getElem (by omega)]; rfl) (fun j hj => frozen_of_heap hg) hsv h1v).mono ?_
        rintro e w' ⟨rfl, rfl⟩
        have hnew := heap_setCells_at [strV s] (0 + i) w cur hg
        refine ⟨_, rfl, ⟨by rw [List.length_map, insL_len, hxl]; omega, .inr ⟨g, cap, _, rfl, hb, hnew, hroom, hcm, by rw [over_size, hs]; omega, ?_⟩⟩, below_setCells hb _ _ _ (Below.refl base w)⟩
        have := (ins_over cur (xs.map strV) (strV s) i i hml (Nat.le_refl _) (by omega) hget).1
        rw [List.drop_of_length_le (by omega)] at this
        rw [insL_map, Nat.mul_one, Nat.zero_add, List.drop_of_length_le (by omega)]
        exact this
      · refine (Any2.slices_Insert_string_shift Tryz.laysInsert g 0 n cap i vb 0 1 vc (xs.map strV) [strV s] w (by omega) (by omega) hroom (by unfold maxLen at hcm; omega) (fun h => hne (by simp [Value.ownBlock, h])) hml rfl hcs
          (fun j hj => by rw [Nat.zero_add, cell_of_heap hg, Array.getElem?_eq_getElem (by omega)]; rfl) (fun j hj => frozen_of_heap hg) hsv (one_strV xs) h1v tb 9 1 cap
          hsh hshg (by omega) (hfz 0) (hfz 1)).mono ?_
        rintro e w' ⟨rfl, rfl⟩
        have h1 := heap_setCells_at ((xs.map strV).drop i) (0 + (i + 1)) w.drew cur hg
        have h2 := heap_setCells_at [strV s] (0 + i) _ _ h1
        refine ⟨_, rfl, ⟨by rw [List.length_map, insL_len, hxl]; omega, .inr ⟨g, cap, _, rfl, hb, h2, hroom, hcm, by rw [over_size, over_size, hs]; omega, ?_⟩⟩, below_setCells hb _ _ _ (below_setCells hb _ _ _ (Below.refl base w).drew)⟩
        rw [insL_map, Nat.mul_one, Nat.zero_add, Nat.zero_add]
        exact (ins_over cur (xs.map strV) (strV s) i n hml hi (by omega) (fun j hj => hget j (by omega))).1
    · have hcap : cap < n + 1 := by omega
      have hG := grownCap_ge w (n + 1) cap (Tryz.laysInsert_ren.t 9)
      have hGm := grownCap_le_maxLen w (n + 1) cap (Tryz.laysInsert_ren.t 9) (by unfold maxLen; omega)
      by_cases hin : i = n
      · subst hin
        refine (Any2.slices_Insert_string_end_grow Tryz.laysInsert (some ⟨g, 0, none⟩) i cap vb 0 1 vc (xs.map strV) [strV s] w (by omega) hn hcap (by omega) hml rfl (fun h => by cases h) (fun a h j u hj => by cases h; rw [Addr.add_lit]; exact hcs j u hj) hsv h1v).mono ?_
        rintro e w' ⟨rfl, rfl⟩
        obtain ⟨G, hGe⟩ : ∃ G, grownCap w (i + 1) cap (Tryz.laysInsert_ren.t 9) = G := ⟨_, rfl⟩
        rw [hGe] at hG hGm ⊢
        refine ⟨_, rfl, ⟨by rw [List.length_map, insL_len, hxl]; omega, .inr ⟨w.heap.size, G, _, rfl, hbase, World.alloc_heap_new w.drew _, hG, hGm, ?_, ?_⟩⟩, (Below.refl base w).drew.alloc hbase _⟩
        · simp [Builtin.zeroCells, Value.cells, hxl]; omega
        · rw [insL_map, List.take_of_length_le (l := xs.map strV) (by omega), List.drop_of_length_le (l := xs.map strV) (by omega)]
          exact take_row _ _ _ (by rw [List.length_append, hml]; rfl)
      · refine (Any2.slices_Insert_string_grow Tryz.laysInsert g 0 n cap i vb 0 1 vc (xs.map strV) [strV s] w (by omega) (by omega) hn hcap (by omega) hml rfl hcs hsv (one_strV xs) h1v).mono ?_
        rintro e w' ⟨rfl, rfl⟩
        obtain ⟨G, hGe⟩ : ∃ G, grownCap w (n + 1) cap (Tryz.laysInsert_ren.t 9) = G := ⟨_, rfl⟩
        rw [hGe] at hG hGm ⊢
        obtain ⟨ROW, hROW⟩ : ∃ ROW : Array Value, ROW = ((xs.map strV).take i).toArray ++ Builtin.zeroCells (Value.string ⟨#[]⟩).cells (n + 1 - i) ++ Builtin.zeroCells (Value.string ⟨#[]⟩).cells (G - (n + 1)) := ⟨_, rfl⟩
        rw [← hROW]
        have hRs : ROW.size = G := by rw [hROW]; simp [Builtin.zeroCells, Value.cells, hxl]; omega
        have hRp : ∀ j, j < i → ROW[j]? = (xs.map strV)[j]? := fun j hj => by
          rw [hROW, Array.append_assoc, Array.getElem?_append_left (by simp [hxl]; omega)]
          simp [hj]
        have h0 : (w.alloc (.cells ROW (Tryz.laysInsert_ren.t 9))).drew.heap[w.heap.size]? = some (.cells ROW (Tryz.laysInsert_ren.t 9) (0, 0)) := World.alloc_heap_new w _
        have h1 := heap_setCells_at [strV s] i _ _ h0
        have h2 := heap_setCells_at ((xs.map strV).drop i) (i + 1) (((w.alloc (.cells ROW (Tryz.laysInsert_ren.t 9))).drew.setCells w.heap.size i [strV s]).drew) _ h1
        refine ⟨_, rfl, ⟨by rw [List.length_map, insL_len, hxl]; omega, .inr ⟨w.heap.size, G, _, rfl, hbase, h2, hG, hGm, by rw [over_size, over_size, hRs]; omega, ?_⟩⟩, below_setCells hbase _ _ _ (below_setCells hbase _ _ _ ((Below.refl base w).alloc hbase _).drew).drew⟩
        rw [insL_map, Nat.mul_one]
        exact (ins_over ROW (xs.map strV) (strV s) i n hml hi (by omega) hRp).2

/-- slices.Delete of one string, on an own row. -/
theorem Delete_any (v : Value) (n base i : Nat) (xs : List Bs) (w : World) (hm : n ≤ 100000) (hi : i < n) (hrow : w.ownsRow base 9 1 v n (xs.map strV)) (hv : 0 < n → v ≠ .slice none 0 0) :
    Calls Tryz.prog 89 #[v, .int .i64 i, .int .i64 ((i : Int) + 1)] w fun e w' => ∃ v', e = .returned v' ∧ w'.ownsRow base 9 1 v' (n - 1) ((xs.take i ++ xs.drop (i + 1)).map strV) ∧ Below base w w' := by
  obtain ⟨g, cap, rfl, hbg, hgl, hncap, hcm, hlen, hH⟩ := Lib.holds_of_ownsRow (enc := Go.Proofs.encStr) hrow (hv (by omega))
  subst hlen
  refine (Tryz.slices_Delete_string g 0 cap i (i + 1) xs w hH hncap (by unfold maxLen at hcm; omega) (by omega) (by omega)).mono ?_
  rintro e w' ⟨rfl, q, rfl⟩
  have hc := Lib.ownsRow_putRow (enc := Go.Proofs.encStr) (q := q) (k := xs.length - 1) (ys := xs.take i ++ xs.drop (i + 1) ++ List.replicate (i + 1 - i) []) hrow (by simp; omega) (by omega)
  rw [List.take_append_of_le_length (l₁ := xs.take i ++ xs.drop (i + 1)) (by simp; omega), List.take_of_length_le (l := xs.take i ++ xs.drop (i + 1)) (by simp; omega)] at hc
  rw [show xs.length - (i + 1 - i) = xs.length - 1 by omega]
  exact ⟨_, rfl, hc, Lib.below_putRow (Below.refl base w) hbg⟩
end Go.Proofs.YtieeloealklkgaaGreatDoor

/-
  One name more, one name less: plain Lean.
-/
namespace Go.Proofs.YtieeloealklkgaaGreatDoor
open Go.RowKit

theorem lowN_cons (y : Bs) (r : List Bs) (s : Bs) : lowN (y :: r) s = if 0 ≤ ordN y s then 0 else lowN r s + 1 := by
  unfold lowN; rw [List.findIdx_cons]
  by_cases h : 0 ≤ ordN y s
  · simp [h]
  · simp [h]
/-- A name more. -/
theorem insB_there (s : Bs) (xs : List Bs) (h : isAt xs s (lowN xs s) = true) : insB s xs = xs := by
  induction xs with
  | nil => simp [isAt, lowN] at h
  | cons y r ih =>
    rw [lowN_cons] at h
    by_cases h0 : 0 ≤ ordN y s
    · rw [if_pos h0] at h
      have : y = s := by simpa [isAt] using h
      rw [insB, if_neg (by omega), if_pos this]
    · rw [if_neg h0] at h
      rw [insB, if_pos (by omega), ih (by simpa [isAt] using h)]
theorem insB_none (s : Bs) (xs : List Bs) (h : isAt xs s (lowN xs s) = false) : insB s xs = insL xs (lowN xs s) s := by
  induction xs with
  | nil => rfl
  | cons y r ih =>
    rw [lowN_cons] at h ⊢
    by_cases h0 : 0 ≤ ordN y s
    · rw [if_pos h0] at h ⊢
      have : y ≠ s := by simpa [isAt] using h
      rw [insB, if_neg (by omega), if_neg this]; rfl
    · rw [if_neg h0] at h ⊢
      rw [insB, if_pos (by omega), ih (by simpa [isAt] using h)]; rfl
theorem isAt_mem {s : Bs} {xs : List Bs} (hset : SortedL xs) : isAt xs s (lowN xs s) = true ↔ s ∈ xs := by
  induction xs with
  | nil => simp [isAt, lowN]
  | cons y r ih =>
    obtain ⟨h1, h2⟩ := List.pairwise_cons.1 hset
    rw [lowN_cons]
    by_cases h0 : 0 ≤ ordN y s
    · rw [if_pos h0, List.mem_cons]
      constructor
      · intro h
        have hy : y = s := by simpa [isAt] using h
        exact .inl hy.symm
      · rintro (h | h)
        · simp [isAt, h]
        · exact absurd (h1 s h) (by omega)
    · rw [if_neg h0, List.mem_cons]
      have h3 : isAt (y :: r) s (lowN r s + 1) = isAt r s (lowN r s) := by simp [isAt]
      rw [h3, ih h2]
      constructor
      · exact .inr
      · rintro (h | h)
        · subst h; exact absurd (ordN_cmp.eq s s |>.2 rfl) (by omega)
        · exact h
/-- A name less. -/
def delB (s : Bs) (xs : List Bs) : List Bs := xs.filter (fun x => decide (x ≠ s))
theorem delB_at (s : Bs) (xs : List Bs) (hset : SortedL xs) (h : isAt xs s (lowN xs s) = true) : delB s xs = xs.take (lowN xs s) ++ xs.drop (lowN xs s + 1) := by
  induction xs with
  | nil => simp [isAt, lowN] at h
  | cons y r ih =>
    obtain ⟨h1, h2⟩ := List.pairwise_cons.1 hset
    rw [lowN_cons] at h ⊢
    by_cases h0 : 0 ≤ ordN y s
    · rw [if_pos h0] at h ⊢
      have hy : y = s := by simpa [isAt] using h
      subst hy
      simp only [delB, List.take_zero, List.nil_append, Nat.zero_add, List.drop_succ_cons, List.drop_zero]
      rw [List.filter_cons_of_neg (by simp)]
      refine List.filter_eq_self.2 fun z hz => ?_
      have : z ≠ y := fun e => by subst e; exact ord_irrefl z (h1 z hz)
      simpa using this
    · rw [if_neg h0] at h ⊢
      have hy : y ≠ s := fun e => by subst e; exact absurd (ordN_cmp.eq y y |>.2 rfl) (by omega)
      have := ih h2 (by simpa [isAt] using h)
      simp only [delB] at this ⊢
      rw [List.filter_cons_of_pos (by simpa using hy), this]
      rfl
theorem delB_mem (s z : Bs) (xs : List Bs) : z ∈ delB s xs ↔ z ∈ xs ∧ z ≠ s := by simp [delB]
theorem delB_sorted (s : Bs) (xs : List Bs) (h : SortedL xs) : SortedL (delB s xs) := h.sublist List.filter_sublist

/-- What Add and Drop make, and their errors. -/
def addL (xs : List Bs) (s : Bs) : List Bs := if setB xs && rightB s && (decide (s ∈ xs) || decide (xs.length < 256)) then insB s xs else []
def addE (xs : List Bs) (s : Bs) : Int := if setB xs = false then 41 else if rightB s = false then 40 else if s ∈ xs then 0 else if xs.length < 256 then 0 else 5
def dropL (xs : List Bs) (s : Bs) : List Bs := if setB xs && rightB s && decide (s ∈ xs) then delB s xs else []
def dropE (xs : List Bs) (s : Bs) : Int := if setB xs = false then 41 else if rightB s = false then 40 else if s ∈ xs then 0 else 6
end Go.Proofs.YtieeloealklkgaaGreatDoor

/-
  NameRanges.
-/
namespace Go.Proofs.YtieeloealklkgaaGreatDoor
open Go.RowKit
attribute [local go_sem ↓] Go.wp_at_zero Go.wp_at_succ

theorem Find_set (a : Option Addr) (n cap lo : Nat) (b : Bool) (S : List Bs) (s : Bs) (hn : S.length = n) (hset : setB S = true) (hs : rightB s = true) (hlo : lowN S s = lo) (hb : isAt S s lo = b) (W : World) (hc : Cells W a (S.map strV)) :
    Calls Tryz.prog 62 #[.slice a n cap, .string (bs s)] W fun e w' => e = .returned (.tuple #[.int .i64 lo, .bool b]) ∧ Below W.heap.size W w' := by
  refine (Find_any a n cap S s W hn (by have := setB_len hset; omega) (fun p hp => by have := setB_short hset p hp; omega) (by have := rightB_len hs; omega) hc).mono ?_
  rintro e w' ⟨rfl, hb'⟩
  rw [if_pos (by rw [hset, hs]; rfl), hlo, hb]
  exact ⟨rfl, hb'⟩

end Go.Proofs.YtieeloealklkgaaGreatDoor

/-
  name.Add and name.Drop.
-/
namespace Go.Proofs.YtieeloealklkgaaGreatDoor
open Go.RowKit
attribute [local go_sem ↓] Go.wp_at_zero Go.wp_at_succ

theorem own_le {w : World} {base base' size n : Nat} {e : TypeId} {v : Value} {xs : List Value} (h : w.ownsRow base e size v n xs) (hb : base' ≤ base) : w.ownsRow base' e size v n xs :=
  ⟨h.1, h.2.imp id fun ⟨g, cap, cur, e, hg, r⟩ => ⟨g, cap, cur, e, Nat.le_trans hb hg, r⟩⟩
theorem lowN_len {n : Nat} {xs : List Bs} {s : Bs} (hn : xs.length = n) : lowN xs s ≤ n := hn ▸ lowN_le xs s

set_option maxRecDepth 100000 in
set_option maxHeartbeats 4000000 in
theorem Add_any (a : Option Addr) (n cap : Nat) (xs : List Bs) (s : Bs) (w : World) (hn : xs.length = n) (hm : n ≤ 10000) (hp : ∀ p ∈ xs, p.length ≤ 1000) (hs : s.length ≤ 1000) (hc : Cells w a (xs.map strV)) :
    Calls Tryz.prog 34 #[.slice a n cap, .string (bs s)] w (RowPost (addL xs s) (addL xs s).length (addE xs s) w) := by
  obtain ⟨L, hL⟩ : ∃ L, addL xs s = L := ⟨_, rfl⟩
  obtain ⟨E, hE⟩ : ∃ L, addE xs s = L := ⟨_, rfl⟩
  obtain ⟨m, hLm⟩ : ∃ m, L.length = m := ⟨_, rfl⟩
  rw [hL, hE, hLm]
  have HS := Set_any a n cap xs w hn (by omega) (fun p h => by have := hp p h; omega) hc
  have HR := Right_l s hs
  have HC := Lib.hid (fun W (hb : Below w.heap.size w W) => Clone_any a n cap xs W hn (by omega) (hc.below hb))
  have HF := Lib.hid (fun (hset : setB xs = true) (hr : rightB s = true) W (hb : Below w.heap.size w W) => Find_set a n cap (lowN xs s) (isAt xs s (lowN xs s)) xs s hn hset hr rfl rfl W (hc.below hb))
  have Hm := Lib.hid hLm
  have Hn := Lib.hid hn
  have HL := Lib.hid hL
  have HE := Lib.hid hE
  obtain ⟨r1, h1⟩ : ∃ r, setB xs = r := ⟨_, rfl⟩
  obtain ⟨r2, h2⟩ : ∃ r, rightB s = r := ⟨_, rfl⟩
  rw [h1] at HS
  rw [h2] at HR
  have HS := Lib.hid HS
  have HR := Lib.hid HR
  have H1 := Lib.hid h1
  have H2 := Lib.hid h2
  clear hn hp hs hc hL hE hLm h1 h2
  cases r1 with
  | false =>
    have hres : Hid ([] = L ∧ 41 = E) := by
      refine ⟨?_, ?_⟩
      · rw [← HL.out, addL, H1.out]; rfl
      · rw [← HE.out, addE, H1.out]; rfl
    go_enter Tryz.func34, Tryz.ntmps34
    go_wp2_with fail
    refine HS.out.mono ?_
    rintro e w1 ⟨rfl, hb1⟩
    go_wp2
    go_ret2
    exact RowPost.nil hres.out.1 Hm.out hres.out.2 hb1
  | true =>
    cases r2 with
    | false =>
      have hres : Hid ([] = L ∧ 40 = E) := by
        refine ⟨?_, ?_⟩
        · rw [← HL.out, addL, H1.out, H2.out]; rfl
        · rw [← HE.out, addE, H1.out, H2.out]; rfl
      go_enter Tryz.func34, Tryz.ntmps34
      go_wp2_with fail
      refine HS.out.mono ?_
      rintro e w1 ⟨rfl, hb1⟩
      go_wp2_with fail
      refine (HR.out _).mono ?_
      rintro e w2 ⟨rfl, rfl⟩
      go_wp2
      go_ret2
      exact RowPost.nil hres.out.1 Hm.out hres.out.2 hb1
    | true =>
      have HF := Lib.hid (HF.out H1.out H2.out)
      have hmem := @isAt_mem s xs (sorted_of H1.out)
      have hthere := insB_there s xs
      have hnone := insB_none s xs
      have hlo := lowN_len (s := s) Hn.out
      obtain ⟨lo, hlo'⟩ : ∃ lo, lowN xs s = lo := ⟨_, rfl⟩
      rw [hlo'] at HF hmem hthere hnone hlo
      obtain ⟨q, hq⟩ : ∃ q, isAt xs s lo = q := ⟨_, rfl⟩
      rw [hq] at HF hmem hthere hnone
      clear hlo' hq
      cases q with
      | true =>
        have hres : Hid (xs = L ∧ 0 = E) := by
          have hin := hmem.1 rfl
          refine ⟨?_, ?_⟩
          · rw [← HL.out, addL, H1.out, H2.out, decide_eq_true hin, hthere rfl]; rfl
          · rw [← HE.out, addE, H1.out, H2.out, if_pos hin]; rfl
        clear hmem hthere hnone hlo
        go_enter Tryz.func34, Tryz.ntmps34
        go_wp2_with fail
        refine HS.out.mono ?_
        rintro e w1 ⟨rfl, hb1⟩
        go_wp2_with fail
        refine (HR.out _).mono ?_
        rintro e w2 ⟨rfl, rfl⟩
        go_wp2_with fail
        refine (HF.out _ hb1).mono ?_
        rintro e w2 ⟨rfl, hb2⟩
        have hb02 := hb1.trans (hb2.mono hb1.size)
        go_wp2_with fail
        refine (HC.out _ hb02).mono ?_
        rintro e w3 ⟨v, rfl, hrow, hv, hb3⟩
        have Hrow := Lib.hid (own_le hrow hb02.size)
        have hb03 := hb02.trans (hb3.mono hb02.size)
        clear hrow hv hb3
        go_wp2
        go_ret2
        exact RowPost.row hres.out.1 (by rw [← Hm.out, ← hres.out.1]; exact Hn.out.symm) hres.out.2 Hrow.out hb03
      | false =>
        have hnin : ¬ s ∈ xs := fun h => by have := hmem.2 h; cases this
        by_cases hfull : n < 256
        · have hf : (n : Int) < 256 := by omega
          have hres : Hid (insL xs lo s = L ∧ 0 = E) := by
            refine ⟨?_, ?_⟩
            · rw [← HL.out, addL, H1.out, H2.out, Hn.out, decide_eq_true hfull, hnone rfl, Bool.or_true]; rfl
            · rw [← HE.out, addE, H1.out, H2.out, if_neg hnin, Hn.out, if_pos hfull]; rfl
          clear hmem hthere hnone hnin
          have HI := Lib.hid (fun v vb vc W => @Insert_any v n w.heap.size lo vb vc xs s W (by omega) hlo)
          go_enter Tryz.func34, Tryz.ntmps34
          go_wp2_with fail
          refine HS.out.mono ?_
          rintro e w1 ⟨rfl, hb1⟩
          go_wp2_with fail
          refine (HR.out _).mono ?_
          rintro e w2 ⟨rfl, rfl⟩
          go_wp2_with fail
          refine (HF.out _ hb1).mono ?_
          rintro e w2 ⟨rfl, hb2⟩
          have hb02 := hb1.trans (hb2.mono hb1.size)
          clear hb1 hb2
          go_wp2_with fail
          refine (HC.out _ hb02).mono ?_
          rintro e w3 ⟨v, rfl, hrow, hv, hb3⟩
          have Hrow := Lib.hid (own_le hrow hb02.size)
          have hlt := hrow.lt
          have Hv := Lib.hid hv
          have hb03 := hb02.trans (hb3.mono hb02.size)
          clear hrow hv hb3 hb02
          go_wp2_with fail
          refine (HI.out v w3.heap.size 1 _ (Hrow.out.alloc _) Hv.out (Box.new _ _ _) (fun h => absurd (hlt _ h).2 (Nat.lt_irrefl _)) (by have := hb03.size; simp; omega)).mono ?_
          rintro e w4 ⟨v', rfl, hrow', hb4⟩
          have hb04 := (hb03.alloc hb03.size (.cells #[.string (bs s)] 9)).trans hb4
          have Hrow' := Lib.hid hrow'
          have hlen : Hid (n + 1 = m) := by
            unfold Hid; rw [← Hm.out, ← hres.out.1, insL_len, Hn.out]
          clear hrow' hb4 hlt
          go_wp2
          go_ret2
          exact RowPost.row hres.out.1 hlen.out hres.out.2 Hrow'.out hb04
        · have hf : ¬ (n : Int) < 256 := by omega
          have hf' : (256 : Int) ≤ (n : Int) := by omega
          have hres : Hid ([] = L ∧ 5 = E) := by
            refine ⟨?_, ?_⟩
            · rw [← HL.out, addL, H1.out, H2.out, Hn.out, decide_eq_false hfull, decide_eq_false hnin]; rfl
            · rw [← HE.out, addE, H1.out, H2.out, if_neg hnin, Hn.out, if_neg hfull]; rfl
          clear hmem hthere hnone hlo hnin
          go_enter Tryz.func34, Tryz.ntmps34
          go_wp2_with fail
          refine HS.out.mono ?_
          rintro e w1 ⟨rfl, hb1⟩
          go_wp2_with fail
          refine (HR.out _).mono ?_
          rintro e w2 ⟨rfl, rfl⟩
          go_wp2_with fail
          refine (HF.out _ hb1).mono ?_
          rintro e w2 ⟨rfl, hb2⟩
          have hb02 := hb1.trans (hb2.mono hb1.size)
          go_wp2
          go_ret2
          exact RowPost.nil hres.out.1 Hm.out hres.out.2 hb02
set_option maxRecDepth 100000 in
set_option maxHeartbeats 4000000 in
theorem Drop_any (a : Option Addr) (n cap : Nat) (xs : List Bs) (s : Bs) (w : World) (hn : xs.length = n) (hm : n ≤ 10000) (hp : ∀ p ∈ xs, p.length ≤ 1000) (hs : s.length ≤ 1000) (hc : Cells w a (xs.map strV)) :
    Calls Tryz.prog 40 #[.slice a n cap, .string (bs s)] w (RowPost (dropL xs s) (dropL xs s).length (dropE xs s) w) := by
  obtain ⟨L, hL⟩ : ∃ L, dropL xs s = L := ⟨_, rfl⟩
  obtain ⟨E, hE⟩ : ∃ L, dropE xs s = L := ⟨_, rfl⟩
  obtain ⟨m, hLm⟩ : ∃ m, L.length = m := ⟨_, rfl⟩
  rw [hL, hE, hLm]
  have HS := Set_any a n cap xs w hn (by omega) (fun p h => by have := hp p h; omega) hc
  have HR := Right_l s hs
  have HC := Lib.hid (fun W (hb : Below w.heap.size w W) => Clone_any a n cap xs W hn (by omega) (hc.below hb))
  have HF := Lib.hid (fun (hset : setB xs = true) (hr : rightB s = true) W (hb : Below w.heap.size w W) => Find_set a n cap (lowN xs s) (isAt xs s (lowN xs s)) xs s hn hset hr rfl rfl W (hc.below hb))
  have Hm := Lib.hid hLm
  have Hn := Lib.hid hn
  have HL := Lib.hid hL
  have HE := Lib.hid hE
  obtain ⟨r1, h1⟩ : ∃ r, setB xs = r := ⟨_, rfl⟩
  obtain ⟨r2, h2⟩ : ∃ r, rightB s = r := ⟨_, rfl⟩
  rw [h1] at HS
  rw [h2] at HR
  have HS := Lib.hid HS
  have HR := Lib.hid HR
  have H1 := Lib.hid h1
  have H2 := Lib.hid h2
  clear hn hp hs hc hL hE hLm h1 h2
  cases r1 with
  | false =>
    have hres : Hid ([] = L ∧ 41 = E) := by
      refine ⟨?_, ?_⟩
      · rw [← HL.out, dropL, H1.out]; rfl
      · rw [← HE.out, dropE, H1.out]; rfl
    go_enter Tryz.func40, Tryz.ntmps40
    go_wp2_with fail
    refine HS.out.mono ?_
    rintro e w1 ⟨rfl, hb1⟩
    go_wp2
    go_ret2
    exact RowPost.nil hres.out.1 Hm.out hres.out.2 hb1
  | true =>
    cases r2 with
    | false =>
      have hres : Hid ([] = L ∧ 40 = E) := by
        refine ⟨?_, ?_⟩
        · rw [← HL.out, dropL, H1.out, H2.out]; rfl
        · rw [← HE.out, dropE, H1.out, H2.out]; rfl
      go_enter Tryz.func40, Tryz.ntmps40
      go_wp2_with fail
      refine HS.out.mono ?_
      rintro e w1 ⟨rfl, hb1⟩
      go_wp2_with fail
      refine (HR.out _).mono ?_
      rintro e w2 ⟨rfl, rfl⟩
      go_wp2
      go_ret2
      exact RowPost.nil hres.out.1 Hm.out hres.out.2 hb1
    | true =>
      have HF := Lib.hid (HF.out H1.out H2.out)
      have hmem := @isAt_mem s xs (sorted_of H1.out)
      have hdel := delB_at s xs (sorted_of H1.out)
      have hlo := lowN_len (s := s) Hn.out
      have hlt : isAt xs s (lowN xs s) = true → lowN xs s < n := fun h => by
        have := (List.getElem?_eq_some_iff.1 (of_decide_eq_true h)).1
        rw [← Hn.out]; exact this
      obtain ⟨lo, hlo'⟩ : ∃ lo, lowN xs s = lo := ⟨_, rfl⟩
      rw [hlo'] at HF hmem hdel hlo hlt
      obtain ⟨q, hq⟩ : ∃ q, isAt xs s lo = q := ⟨_, rfl⟩
      rw [hq] at HF hmem hdel hlt
      clear hlo' hq
      cases q with
      | false =>
        have hnin : ¬ s ∈ xs := fun h => by have := hmem.2 h; cases this
        have hres : Hid ([] = L ∧ 6 = E) := by
          refine ⟨?_, ?_⟩
          · rw [← HL.out, dropL, H1.out, H2.out, decide_eq_false hnin]; rfl
          · rw [← HE.out, dropE, H1.out, H2.out, if_neg hnin]; rfl
        clear hmem hdel hlo hlt hnin
        go_enter Tryz.func40, Tryz.ntmps40
        go_wp2_with fail
        refine HS.out.mono ?_
        rintro e w1 ⟨rfl, hb1⟩
        go_wp2_with fail
        refine (HR.out _).mono ?_
        rintro e w2 ⟨rfl, rfl⟩
        go_wp2_with fail
        refine (HF.out _ hb1).mono ?_
        rintro e w2 ⟨rfl, hb2⟩
        have hb02 := hb1.trans (hb2.mono hb1.size)
        go_wp2
        go_ret2
        exact RowPost.nil hres.out.1 Hm.out hres.out.2 hb02
      | true =>
        have hin := hmem.1 rfl
        have hlt := hlt rfl
        have hres : Hid (xs.take lo ++ xs.drop (lo + 1) = L ∧ 0 = E) := by
          refine ⟨?_, ?_⟩
          · rw [← HL.out, dropL, H1.out, H2.out, decide_eq_true hin, ← hdel rfl]; rfl
          · rw [← HE.out, dropE, H1.out, H2.out, if_pos hin]; rfl
        have hlen : Hid (n - 1 = m) := by
          unfold Hid; rw [← Hm.out, ← hres.out.1, List.length_append, List.length_take, List.length_drop, Hn.out]; omega
        clear hmem hdel hin
        have HD := Lib.hid (fun v W => @Delete_any v n w.heap.size lo xs W (by omega) hlt)
        have hwr : IntKind.i64.wrap ((lo : Int) + 1) = (lo : Int) + 1 := IntWalk.i64_in _ (by omega)
        go_enter Tryz.func40, Tryz.ntmps40
        go_wp2_with fail
        refine HS.out.mono ?_
        rintro e w1 ⟨rfl, hb1⟩
        go_wp2_with fail
        refine (HR.out _).mono ?_
        rintro e w2 ⟨rfl, rfl⟩
        go_wp2_with fail
        refine (HF.out _ hb1).mono ?_
        rintro e w2 ⟨rfl, hb2⟩
        have hb02 := hb1.trans (hb2.mono hb1.size)
        clear hb1 hb2
        go_wp2_with fail
        refine (HC.out _ hb02).mono ?_
        rintro e w3 ⟨v, rfl, hrow, hv, hb3⟩
        have HD := Lib.hid (HD.out v w3 (own_le hrow hb02.size) hv)
        have hb03 := hb02.trans (hb3.mono hb02.size)
        clear hrow hv hb3 hb02
        go_wp2_with fail
        refine HD.out.mono ?_
        rintro e w4 ⟨v', rfl, hrow, hb4⟩
        have Hrow := Lib.hid hrow
        have hb04 := hb03.trans hb4
        clear hrow
        go_wp2
        go_ret2
        exact RowPost.row hres.out.1 hlen.out hres.out.2 Hrow.out hb04
end Go.Proofs.YtieeloealklkgaaGreatDoor

/-
  Add, Drop, Find, Compare on sets of names; plain facts for NameSorted.
-/
namespace Go.Proofs.YtieeloealklkgaaGreatDoor
open Go.RowKit

theorem Find_mem (a : Option Addr) (n cap : Nat) (S : List Bs) (s : Bs) (hset : setB S = true) (hs : rightB s = true) (hn : S.length = n) (b : Bool) (hb : decide (s ∈ S) = b) (lo : Nat) (hlo : lowN S s = lo) (W : World) (hc : Cells W a (S.map strV)) :
    Calls Tryz.prog 62 #[.slice a n cap, .string (bs s)] W fun e w' => e = .returned (.tuple #[.int .i64 lo, .bool b]) ∧ Below W.heap.size W w' := by
  refine Find_set a n cap lo b S s hn hset hs hlo ?_ W hc
  rw [← hb, ← hlo, Bool.eq_iff_iff, isAt_mem (sorted_of hset)]
  exact decide_eq_true_iff.symm
end Go.Proofs.YtieeloealklkgaaGreatDoor

/-
  A region that draws, walked by hand, whose last operation waits for all others and may undo what the loads lean on.
-/
namespace Go.Proofs.YtieeloealklkgaaGreatDoor
open Go Go.RowKit
variable {P : Program} {ops : Array Oper} {Q : Exit → Act → World → Prop} {md : Region.Mode} {S : World → Prop} {z : Nat}

/-- Whatever order is picked from here on; S holds behind every operation but number z. -/
def wpAnyZ (P : Program) (md : Region.Mode) (ops : Array Oper) (Q : Exit → Act → World → Prop) (S : World → Prop) (z : Nat) : Nat → Array Bool → Act → World → Prop
  | 0, listed, a, w => Region.ready md ops listed = [] ∧ Q .normal a w
  | fuel + 1, listed, a, w =>
    (Region.ready md ops listed = [] → Q .normal a w) ∧
    ∀ i ∈ Region.ready md ops listed, wpOp P ops Q i (fun a' w' => (i = z ∨ S w') ∧ wpAnyZ P md ops Q S z fuel (listed.setIfInBounds i true) a' w') a w
theorem wpAny_of_Z : ∀ (fuel : Nat) (listed : Array Bool) (a : Act) (w : World), wpAnyZ P md ops Q S z fuel listed a w → wpAny P md ops Q fuel listed a w
  | 0, _, _, _, h => h
  | fuel + 1, _, _, _, h => ⟨h.1, fun i hi => wpOp_mono (fun a' w' h' => wpAny_of_Z fuel _ a' w' h'.2) (h.2 i hi)⟩

theorem wpAnyZ_first {i : Nat} {oi : Oper} {v : Value} (hi : ops[i]? = some oi) (hsel : ∀ (j : Nat) (o : Oper) cs b, ops[j]? = some o → o.op ≠ .select cs b)
    (hQ : ∀ c a w, Q (.panic c) (a.put oi.dst v) w → Q (.panic c) a w) (hz : ∀ listed : Array Bool, i ∈ Region.ready md ops listed → z ∈ Region.ready md ops listed → False) :
    ∀ (fuel : Nat) (listed : Array Bool) (a : Act) (w : World),
      (∀ j oj, ops[j]? = some oj → j ≠ i → listed.getD j true = false → (∀ e ∈ oj.after, Region.binds md e = true → e.on ≠ i) → oi.apart ops oj = true) →
      i ∈ Region.ready md ops listed → YieldsIf P ops S oi v a → S w →
      wpAnyZ P md ops Q S z fuel (listed.setIfInBounds i true) (a.put oi.dst v) w → wpAnyZ P md ops Q S z (fuel + 1) listed a w := by
  intro fuel
  induction fuel with
  | zero =>
    intro listed a w _ hr hy hS H
    refine ⟨fun h => (by rw [h] at hr; cases hr), fun j hj => ?_⟩
    by_cases hji : j = i
    · subst hji; exact hy.wpOp hi hS ⟨.inr hS, H⟩
    · have := ready_mono hj hji
      rw [H.1] at this
      cases this
  | succ fuel ih =>
    intro listed a w hfree hr hy hS H
    refine ⟨fun h => (by rw [h] at hr; cases hr), fun j hj => ?_⟩
    by_cases hji : j = i
    · subst hji; exact hy.wpOp hi hS ⟨.inr hS, H⟩
    · have h1 := H.2 j (ready_mono hj hji)
      obtain ⟨hjun, oj, hoj, hall⟩ := mem_ready.1 hj
      have hnot : ∀ e ∈ oj.after, Region.binds md e = true → e.on ≠ i := fun e he hb heq => by
        have h1 := hall e he hb
        have h0 := (mem_ready.1 hr).1
        rw [heq] at h1
        rcases Nat.lt_or_ge i listed.size with h' | h'
        · simp [h'] at h0 h1; rw [h0] at h1; cases h1
        · simp [Array.getElem?_eq_none h'] at h1
      have h2 := wpOp_putIf hoj (hfree j oj hoj hji hjun hnot) (fun cs b => hsel i oi cs b hi) (fun cs b => hsel j oj cs b hoj) hQ hy h1
      have hfree' : ∀ k ok, ops[k]? = some ok → k ≠ i → (listed.setIfInBounds j true).getD k true = false →
          (∀ e ∈ ok.after, Region.binds md e = true → e.on ≠ i) → oi.apart ops ok = true := fun k ok hk hki hun hno => by
        refine hfree k ok hk hki ?_ hno
        by_cases hjk : j = k
        · subst hjk; exact hjun
        · rw [getD_set_ne true hjk] at hun; exact hun
      have hjz : j ≠ z := fun h => hz listed hr (h ▸ hj)
      refine wpOp_mono (fun a' w' h3 => ?_) h2
      have hS' : S w' := h3.2.1.elim (fun h => absurd h hjz) id
      refine ⟨.inr hS', ih (listed.setIfInBounds j true) a' w' hfree' (ready_mono hr (Ne.symm hji)) h3.1 hS' ?_⟩
      rw [Array.setIfInBounds_comm _ _ hji]
      exact h3.2.2

/-- The last operation waits for number i. -/
def waits (md : Region.Mode) (ops : Array Oper) (z i : Nat) : Bool := match ops[z]? with
  | some o => o.after.toList.any (fun e => Region.binds md e && e.on == i)
  | none => false
theorem waits_not {i : Nat} (h : waits md ops z i = true) (listed : Array Bool) (hi : i ∈ Region.ready md ops listed) (hz : z ∈ Region.ready md ops listed) : False := by
  obtain ⟨_, oz, hoz, hall⟩ := mem_ready.1 hz
  unfold waits at h
  rw [hoz] at h
  obtain ⟨e, he, hb⟩ := List.any_eq_true.1 h
  replace he : e ∈ oz.after := by simpa using he
  simp only [Bool.and_eq_true, beq_iff_eq] at hb
  have h1 := hall e he hb.1
  have h0 := (mem_ready.1 hi).1
  rw [hb.2] at h1
  rcases Nat.lt_or_ge i listed.size with h' | h'
  · simp [h'] at h0 h1; rw [h0] at h1; cases h1
  · simp [Array.getElem?_eq_none h'] at h1
variable {i : Nat} {oi : Oper} {fuel : Nat} {listed : Array Bool} {a : Act} {w : World}
theorem takeZ_on {v : Value} (hi : ops.toList[i]? = some oi) (hz : waits md ops z i = true)
    (hs : Region.noSelect ops = true) (hf : Region.free md ops listed i = true) (hr : (Region.ready md ops listed).contains i = true)
    (hQ : ∀ c a w, Q (.panic c) (a.put oi.dst v) w → Q (.panic c) a w) (hw : Region.wanted oi (yielded ops a.tmps) = true) (hy : ∀ w, S w → (execOp a.eval oi).run P w = .ok (.value v) w) (hS : S w)
    (h : wpAnyZ P md ops Q S z fuel (listed.setIfInBounds i true) (a.put oi.dst v) w) : wpAnyZ P md ops Q S z (fuel + 1) listed a w :=
  wpAnyZ_first (op_at hi) (Region.noSelect_spec hs) hQ (fun l h1 h2 => waits_not hz l h1 h2) fuel listed a w (Region.free_spec (op_at hi) hf) (by simpa using hr) (.inl ⟨hw, hy⟩) hS h
theorem takeZ_call (hi : ops.toList[i]? = some oi) (hr : Region.ready md ops listed = [i]) (hw : Region.wanted oi (yielded ops a.tmps) = true)
    (h : ∀ K' : Act → World → Prop, Shut (∀ a w, (i = z ∨ S w) → wpAnyZ P md ops Q S z fuel (listed.setIfInBounds i true) a w → K' a w) → Oper.wp P oi a w K' Q) : wpAnyZ P md ops Q S z (fuel + 1) listed a w := by
  refine ⟨fun h0 => (by rw [hr] at h0; cases h0), fun j hj => ?_⟩
  rw [hr] at hj
  obtain rfl : j = i := by simpa using hj
  exact wpOp_step (op_at hi) (fun K' hK => by rw [if_pos hw]; exact h K' (fun a w h1 h2 => hK a w ⟨h1, h2⟩))
theorem wpAnyZ_done (hr : Region.ready md ops listed = []) (h : Q .normal a w) : ∀ fuel, wpAnyZ P md ops Q S z fuel listed a w
  | 0 => ⟨hr, h⟩
  | _ + 1 => ⟨fun _ => h, by rw [hr]; simp⟩
theorem wp_region_Z {id : Nat} (hm : P.follows .mixedOrders = true)
    (h : wpAnyZ P .any ops Q S z ops.size (Array.replicate ops.size false) a w.drew) : (Code.region id ops true).wp P Q a w := wp_region_any hm (wpAny_of_Z _ _ _ _ h)
end Go.Proofs.YtieeloealklkgaaGreatDoor

/-
  Two operations of a drawn region that may come in either order.
-/
namespace Go.Proofs.YtieeloealklkgaaGreatDoor
open Go Go.RowKit
variable {P : Program} {ops : Array Oper} {Q : Exit → Act → World → Prop} {md : Region.Mode} {S : World → Prop} {z : Nat} {i j : Nat} {oi oj : Oper} {fuel : Nat} {listed : Array Bool} {a : Act} {w : World}
theorem takeZ_two (hi : ops.toList[i]? = some oi) (hj : ops.toList[j]? = some oj) (hr : Region.ready md ops listed = [i, j]) (hwi : Region.wanted oi (yielded ops a.tmps) = true) (hwj : Region.wanted oj (yielded ops a.tmps) = true)
    (h1 : ∀ K' : Act → World → Prop, Shut (∀ a w, (i = z ∨ S w) → wpAnyZ P md ops Q S z fuel (listed.setIfInBounds i true) a w → K' a w) → Oper.wp P oi a w K' Q)
    (h2 : ∀ K' : Act → World → Prop, Shut (∀ a w, (j = z ∨ S w) → wpAnyZ P md ops Q S z fuel (listed.setIfInBounds j true) a w → K' a w) → Oper.wp P oj a w K' Q) : wpAnyZ P md ops Q S z (fuel + 1) listed a w := by
  refine ⟨fun h0 => (by rw [hr] at h0; cases h0), fun k hk => ?_⟩
  rw [hr] at hk
  rcases List.mem_cons.1 hk with rfl | hk
  · exact wpOp_step (op_at hi) (fun K' hK => by rw [if_pos hwi]; exact h1 K' (fun a w h1 h2 => hK a w ⟨h1, h2⟩))
  · obtain rfl : k = j := by simpa using hk
    exact wpOp_step (op_at hj) (fun K' hK => by rw [if_pos hwj]; exact h2 K' (fun a w h1 h2 => hK a w ⟨h1, h2⟩))
end Go.Proofs.YtieeloealklkgaaGreatDoor

/-
  The helpers on lent memory: markText, LentTexts, OverTexts.
-/
namespace Go.Proofs.YtieeloealklkgaaGreatDoor
open Go.RowKit Go.Lib
attribute [local go_sem ↓] Go.wp_at_zero Go.wp_at_succ

/-- The mark of an index. -/
def mkB (k i : Nat) : Bs := [35, k.toUInt8, (k / 256).toUInt8, (k / 65536).toUInt8, 47, i.toUInt8, (i / 256).toUInt8, (i / 65536).toUInt8]
theorem mk_vals (k i : Nat) (hk : k ≤ 2) (hi : i ≤ 1000) : (mkB k i).map (fun b => Value.int .u8 (b.toNat : Int)) = [.int .u8 35, .int .u8 (k : Int), .int .u8 ((k : Int) / 256), .int .u8 ((k : Int) / 65536), .int .u8 47, .int .u8 ((i : Int) % 256), .int .u8 ((i : Int) / 256), .int .u8 ((i : Int) / 65536)] := by
  have e1 : (k.toUInt8).toNat = k := by rw [Nat.toUInt8, UInt8.toNat_ofNat']; omega
  have e2 : ((k / 256).toUInt8).toNat = k / 256 := by rw [Nat.toUInt8, UInt8.toNat_ofNat']; omega
  have e3 : ((k / 65536).toUInt8).toNat = k / 65536 := by rw [Nat.toUInt8, UInt8.toNat_ofNat']; omega
  have e4 : (i.toUInt8).toNat = i % 256 := by rw [Nat.toUInt8, UInt8.toNat_ofNat']
  have e5 : ((i / 256).toUInt8).toNat = i / 256 := by rw [Nat.toUInt8, UInt8.toNat_ofNat']; omega
  have e6 : ((i / 65536).toUInt8).toNat = i / 65536 := by rw [Nat.toUInt8, UInt8.toNat_ofNat']; omega
  simp only [mkB, List.map_cons, List.map_nil, e1, e2, e3, e4, e5, e6]
  rfl

set_option maxRecDepth 100000 in
set_option maxHeartbeats 4000000 in
theorem mark_any (k i : Nat) (w : World) (hk : k ≤ 2) (hi : i ≤ 1000) :
    Calls Tryz.prog 101 #[.int .i64 k, .int .i64 i] w fun e w' => e = .returned (.string (bs (mkB k i))) ∧ Below w.heap.size w w' := by
  have hv := mk_vals k i hk hi
  obtain ⟨B, hB⟩ : ∃ B : Array Value, B = #[.int .u8 35, .int .u8 (k : Int), .int .u8 ((k : Int) / 256), .int .u8 ((k : Int) / 65536), .int .u8 47, .int .u8 ((i : Int) % 256), .int .u8 ((i : Int) / 256), .int .u8 ((i : Int) / 65536)] := ⟨_, rfl⟩
  have kc : (convert 58 9 (.slice (some ⟨w.heap.size, 0, none⟩) 8 8)).run Tryz.prog (w.alloc (.cells #[.int .u8 35, .int .u8 (k : Int), .int .u8 ((k : Int) / 256), .int .u8 ((k : Int) / 65536), .int .u8 47, .int .u8 ((i : Int) % 256), .int .u8 ((i : Int) / 256), .int .u8 ((i : Int) / 65536)] 5)) = .ok (.string (bs (mkB k i))) (w.alloc (.cells #[.int .u8 35, .int .u8 (k : Int), .int .u8 ((k : Int) / 256), .int .u8 ((k : Int) / 65536), .int .u8 47, .int .u8 ((i : Int) % 256), .int .u8 ((i : Int) / 256), .int .u8 ((i : Int) / 65536)] 5)) := by
    refine run_own_string (P := Tryz.prog) _ w.heap.size 58 9 5 _ (mkB k i) Tryz.underlying58 Tryz.underlying5 Tryz.underlying9 ?_
    rw [hv]
    exact World.ownsRow_lit w _ 8 (Nat.le_refl _) (by unfold maxLen; omega) rfl
  have hb : Below w.heap.size w (w.alloc (.cells #[.int .u8 35, .int .u8 (k : Int), .int .u8 ((k : Int) / 256), .int .u8 ((k : Int) / 65536), .int .u8 47, .int .u8 ((i : Int) % 256), .int .u8 ((i : Int) / 256), .int .u8 ((i : Int) / 65536)] 5)) := (Below.refl _ _).alloc (Nat.le_refl _) _
  obtain ⟨X, hX⟩ : ∃ X, bs (mkB k i) = X := ⟨_, rfl⟩
  rw [hX] at kc ⊢
  have Hb := Lib.hid hb
  clear hv hb hX hB
  go_enter Tryz.func101, Tryz.ntmps101
  go_wp2
  go_ret
  exact ⟨rfl, Hb.out⟩

theorem grown_refl (w : World) (row : Option Nat) : w.grownBy w row := ⟨rfl, rfl, rfl, Nat.le_refl _, fun _ _ _ => rfl⟩
theorem grown_below {w w1 w2 : World} {row : Option Nat} (h : w.grownBy w1 row) (hb : Below w1.heap.size w1 w2) : w.grownBy w2 row :=
  ⟨hb.os.trans h.os, hb.tape.trans h.tape, hb.output.trans h.output, Nat.le_trans h.size hb.size, fun k hk hr => (hb.block k (Nat.lt_of_lt_of_le hk h.size)).trans (h.block k hk hr)⟩
theorem grown_set {w w1 : World} {g k : Nat} (h : w.grownBy w1 (some g)) (u : Value) : w.grownBy (w1.setCell ⟨g, k, none⟩ u) (some g) :=
  ⟨h.os, h.tape, h.output, by have := h.size; simp [World.setCell]; omega, fun j hj hr => (Below.heap_setCell w1 ⟨g, k, none⟩ u j (fun e => hr (by rw [e]))).trans (h.block j hj hr)⟩

set_option maxRecDepth 100000 in
set_option maxHeartbeats 4000000 in
theorem Over_any (v : Value) (n base : Nat) (xs : List Value) (w : World) (hm : n ≤ 900) (hrow : w.ownsRow base 9 1 v n xs) (hbase : base ≤ w.heap.size) :
    Calls Tryz.prog 69 #[v] w fun e w' => e = .returned (.tuple #[]) ∧ w.grownBy w' v.ownBlock := by
  rcases hrow.2 with ⟨rfl, h0⟩ | ⟨g, cap, cur, rfl, hbg, hg, hncap, hcm, hs, _⟩
  · subst h0
    go_enter Tryz.func69, Tryz.ntmps69
    go_wp2
    refine wp_loop_rounds 1 ?_
    rw [rounds_succ]
    go_wp2
    go_end0
    exact ⟨rfl, grown_refl _ _⟩
  · have Hg := Lib.hid hg
    rw [Nat.mul_one] at hs
    have Hs := Lib.hid hs
    obtain ⟨q, hq⟩ : ∃ q : Nat, min (cap : Int) ((n : Int) + 12) = (q : Int) := ⟨min cap (n + 12), by omega⟩
    have hqc : q ≤ cap := by omega
    have hq1 : q ≤ 912 := by omega
    have q1 : (0 : Int) ≤ (q : Int) := by omega
    have q2 : (q : Int) ≤ (cap : Int) := by omega
    clear hrow hg hs
    unfold maxLen at hcm
    go_enter Tryz.func69, Tryz.ntmps69
    go_wp2
    go_loopw [3] (fun i wr => ∃ k : Nat, k ≤ q ∧ i = .int .i64 k ∧ Hid (∃ cu : Array Value, wr.heap[g]? = some (.cells cu 9 (0, 0)) ∧ cu.size = cap) ∧ w.grownBy wr (some g)) (fun i _ => q - (intOf i).toNat)
    case atStart => exact ⟨0, Nat.zero_le _, rfl, ⟨cur, Hg.out, Hs.out⟩, grown_refl _ _⟩
    case round =>
      obtain ⟨k, hk, rfl, hcu, hb⟩ := hrel
      by_cases hlt : k < q
      · have HM := Lib.hid (fun W => mark_any 2 k W (by omega) (by omega))
        obtain ⟨X, hX⟩ : ∃ X, bs (mkB 2 k) = X := ⟨_, rfl⟩
        simp only [hX] at HM
        obtain ⟨cu, hcu1, hcu2⟩ := hcu.out
        have hgl : g < wr.heap.size := (Array.getElem?_eq_some_iff.1 hcu1).1
        clear hX hcu
        have Hcu1 := Lib.hid hcu1
        clear hcu1
        go_wp2_with fail
        refine (HM.out _).mono ?_
        rintro e w1 ⟨rfl, hb1⟩
        have hcu3 : w1.heap[g]? = some (.cells cu 9 (0, 0)) := (hb1.block g hgl).trans Hcu1.out
        have hbb := grown_below hb hb1
        obtain ⟨u, hu⟩ : ∃ u, cu[k]? = some u := ⟨_, Array.getElem?_eq_getElem (by omega)⟩
        have c1 : w1.cell? ⟨g, k, none⟩ = some u := by rw [cell_of_heap hcu3]; exact hu
        have c2 : w1.frozen? ⟨g, k, none⟩ = false := frozen_of_heap hcu3
        have hnx : Hid (∃ cu' : Array Value, (w1.setCell ⟨g, k, none⟩ (.string X)).heap[g]? = some (.cells cu' 9 (0, 0)) ∧ cu'.size = cap) :=
          ⟨cu.setIfInBounds k (.string X), by simp [World.setCell, Array.getElem?_modify, hcu3], by simpa using hcu2⟩
        have hbs' := grown_set (k := k) hbb (.string X)
        have Hcu3 := Lib.hid hcu3
        clear hcu3 hu
        go_wp2
        refine ⟨?_, by simp [intOf]; omega⟩
        first
          | exact ⟨k + 1, by omega, by go_num, hnx, hbs'⟩
          | ((repeat apply Exists.intro); refine ⟨?_, rfl⟩; exact ⟨k + 1, by omega, by go_num, hnx, hbs'⟩)
      · have hkq : k = q := by omega
        subst hkq
        clear hcu
        go_wp2
        go_end0
        exact ⟨rfl, hb⟩
end Go.Proofs.YtieeloealklkgaaGreatDoor
