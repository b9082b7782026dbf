/-
  tells.
-/
import Derived.Test.YtnanleopoedgfaaRef4
import Derived.Test.YtnanleopoedgfaaAwake
set_option linter.unusedSimpArgs false
set_option linter.unusedVariables false
namespace Go.Proofs.Ytnanleopoedgfaa
open Go.RowKit
attribute [local go_sem ↓] Go.wp_at_zero Go.wp_at_succ

def partsL (a : Bs) : List Bs := if rightB a then cut a else []
def errN (r : Bool) : Int := if r then 0 else 40
def joinL (xs : List Bs) : Bs := if joinOk xs then joinB xs else []
def cmpN (a b : Bs) : Int := if rightB a && rightB b then ordN a b else 0
theorem errN_bd (r : Bool) : 0 ≤ errN r ∧ errN r ≤ 40 := by cases r <;> decide
theorem cells_nil' (w : World) (A : Option Addr) : Cells w A (([] : List Bs).map strV) := fun j x h => by simp at h

def TwoPost (L : List Bs) (n : Nat) (E : Int) (w : World) (e : Ending) (w' : World) : Prop := ∃ A cap, e = .returned (.tuple #[.slice A n cap, .int .i64 E]) ∧ Cells w' A (L.map strV) ∧ Below w.heap.size w w'
def OnePost (J : Bs) (E : Int) (w : World) (e : Ending) (w' : World) : Prop := e = .returned (.tuple #[.string (bs J), .int .i64 E]) ∧ Below w.heap.size w w'
def NumPost (C E : Int) (w : World) (e : Ending) (w' : World) : Prop := e = .returned (.tuple #[.int .i64 C, .int .i64 E]) ∧ Below w.heap.size w w'

theorem Parts_two (a : Bs) (ha : a.length ≤ 1000) (W : World) : Calls Try.prog 14 #[.string (bs a)] W (TwoPost (partsL a) (partsL a).length (errN (rightB a)) W) := by
  cases h : rightB a with
  | true =>
    have hp := Parts_yes (bs a) W (by rw [size_bs]; omega) (by rw [toList_bs]; exact h)
    rw [toList_bs] at hp
    refine hp.mono ?_
    rintro e w' ⟨v, rfl, hrow, hb⟩
    obtain ⟨A, cap, rfl, _, _, _, hc, _, _⟩ := ownsRow_cells hrow
    rw [partsL, if_pos h]
    exact ⟨A, cap, rfl, hc, hb⟩
  | false =>
    refine (Parts_no (bs a) W (by rw [size_bs]; omega) (by rw [toList_bs]; exact h)).mono ?_
    rintro e w' ⟨rfl, rfl⟩
    rw [partsL, if_neg (by rw [h]; simp)]
    exact ⟨none, 0, rfl, cells_nil' _ _, Below.refl _ _⟩
theorem refParts_two (a : Bs) (ha : a.length ≤ 1000) (W : World) : Calls Try.prog 29 #[.string (bs a)] W (TwoPost (partsL a) (partsL a).length (errN (rightB a)) W) := by
  cases h : rightB a with
  | true =>
    refine (refParts_yes a W (by omega) h).mono ?_
    rintro e w' ⟨v, rfl, hrow, hb⟩
    obtain ⟨A, cap, rfl, _, _, _, hc, _, _⟩ := ownsRow_cells hrow
    rw [partsL, if_pos h]
    exact ⟨A, cap, rfl, hc, hb⟩
  | false =>
    refine (refParts_no a W (by omega) h).mono ?_
    rintro e w' ⟨rfl, hb⟩
    rw [partsL, if_neg (by rw [h]; simp)]
    exact ⟨none, 0, rfl, cells_nil' _ _, hb⟩
theorem one_of_join {xs : List Bs} {w w' : World} {e : Ending} (h : JoinPost (joinOk xs) (joinB xs) w e w') : OnePost (joinL xs) (errN (joinOk xs)) w e w' := by
  obtain ⟨rfl, hb⟩ := h
  unfold OnePost joinL errN
  cases joinOk xs <;> exact ⟨rfl, hb⟩
theorem Compare_two (a b : Bs) (ha : a.length ≤ 1000) (hb : b.length ≤ 1000) (W : World) : Calls Try.prog 13 #[.string (bs a), .string (bs b)] W (NumPost (cmpN a b) (errN (rightB a && rightB b)) W) := by
  have h := Compare_any (bs a) (bs b) W (by rw [size_bs]; omega) (by rw [size_bs]; omega)
  rw [toList_bs, toList_bs] at h
  refine h.mono ?_
  rintro e w' ⟨rfl, hb⟩
  unfold NumPost cmpN errN
  cases (rightB a && rightB b) <;> exact ⟨rfl, hb⟩
theorem refCompare_two (a b : Bs) (ha : a.length ≤ 1000) (hb : b.length ≤ 1000) (W : World) : Calls Try.prog 31 #[.string (bs a), .string (bs b)] W (NumPost (cmpN a b) (errN (rightB a && rightB b)) W) := by
  refine (refCompare_any a b W (by omega) (by omega)).mono ?_
  rintro e w' ⟨rfl, hb⟩
  unfold NumPost cmpN errN
  cases (rightB a && rightB b) <;> exact ⟨rfl, hb⟩
theorem Right_l (a : Bs) (ha : a.length ≤ 1000) (W : World) : Calls Try.prog 27 #[.string (bs a)] W fun e w' => e = .returned (.bool (rightB a)) ∧ W = w' := by
  have h := Right_any (bs a) W (by rw [size_bs]; unfold maxLen; omega)
  rw [toList_bs] at h; exact h
theorem Under_l (a b : Bs) (ha : a.length ≤ 1000) (hb : b.length ≤ 1000) (W : World) : Calls Try.prog 16 #[.string (bs a), .string (bs b)] W fun e w' => e = .returned (.bool (underB a b)) ∧ Below W.heap.size W w' := by
  have h := Under_any (bs a) (bs b) W (by rw [size_bs]; omega) (by rw [size_bs]; omega)
  rw [toList_bs, toList_bs] at h; exact h
theorem partsL_len (a : Bs) : (partsL a).length ≤ a.length + 1 := by
  unfold partsL; split
  · exact cut_length a
  · simp
theorem cmpN_bd (a b : Bs) : -1 ≤ cmpN a b ∧ cmpN a b ≤ 1 := by
  unfold cmpN; split
  · have := ordN_val a b; omega
  · decide
theorem same_l (A A' : Option Addr) (n c c' : Nat) (L : List Bs) (hn : L.length = n) (hm : n ≤ 10000) (W : World) (h : Cells W A (L.map strV)) (h' : Cells W A' (L.map strV)) :
    Calls Try.prog 22 #[.slice A n c, .slice A' n c'] W fun e w' => e = .returned (.bool true) ∧ Below W.heap.size W w' := by
  refine (SameTexts_any A A' n n c c' L L W hn hn (by omega) (by omega) h h').mono ?_
  rintro e w' ⟨rfl, hb⟩
  exact ⟨by simp, hb⟩

set_option maxRecDepth 100000 in
set_option maxHeartbeats 8000000 in
/-- Strings of at most 200 bytes, at most 40 of them. -/
theorem tells_in (a b : Bs) (A : Option Addr) (n cap : Nat) (xs : List Bs) (w : World) (ha : (bs a).size ≤ 200) (hb : (bs b).size ≤ 200) (hn : xs.length = n) (hm : n ≤ 40) (hp : ∀ p ∈ xs, p.length ≤ 200) (hc : Cells w A (xs.map strV)) :
    Calls Try.prog 10 #[.string (bs a), .string (bs b), .slice A n cap] w fun e w' => e = .returned (.bool true) ∧ Below w.heap.size w w' := by
  have ha' : a.length ≤ 1000 := by rw [size_bs] at ha; omega
  have hb' : b.length ≤ 1000 := by rw [size_bs] at hb; omega
  have hp' : ∀ p ∈ xs, p.length ≤ 1000 := fun p h => by have := hp p h; omega
  have HF : Calls Try.prog 28 #[.slice A n cap] w fun e w' => e = .returned (.bool true) ∧ w = w' := by
    refine (few_any A n cap (xs.map bs) w (by simpa using hn) (by unfold maxLen; omega) (fun x hx => by obtain ⟨p, h, rfl⟩ := List.mem_map.1 hx; have := hp p h; rw [size_bs]; unfold maxLen; omega) (by rw [List.map_map]; exact hc)).mono ?_
    rintro e w' ⟨rfl, rfl⟩
    refine ⟨?_, rfl⟩
    have : (decide ((xs.map bs).length ≤ 300) && (xs.map bs).all fun x => decide (x.size ≤ 200)) = true := by
      rw [Bool.and_eq_true, List.all_eq_true]
      refine ⟨by simp; omega, fun x hx => ?_⟩
      obtain ⟨p, h, rfl⟩ := List.mem_map.1 hx
      have := hp p h
      exact decide_eq_true (by rw [size_bs]; exact this)
    rw [this]
  have P1 := Parts_two a ha'
  have P2 := refParts_two a ha'
  have ln := partsL_len a
  have C1 := Compare_two a b ha' hb'
  have C2 := refCompare_two a b ha' hb'
  have lc := cmpN_bd a b
  have R1 := Right_l a ha'
  have R2 := fun W => refRight_r a (by omega) (r := rightB a) rfl W
  have U1 := Under_l a b ha' hb'
  have U2 := fun W => refUnder_any a b W (by omega) (by omega)
  have J1 := fun (B : Option Addr) (c : Nat) (W : World) (h1 : n ≤ c) (h2 : Cells W B (xs.map strV)) (h3 : ∀ b off s, B = some ⟨b, off, s⟩ → b < W.heap.size) => (Join_any B n c xs W hn (by omega) h1 hp' h2 h3).mono fun _ _ h => one_of_join h
  have J2 := fun (W : World) (h2 : Cells W A (xs.map strV)) => (refJoin_any A n cap xs W hn (by omega) hp' h2).mono fun _ _ h => one_of_join h
  have K1 := fun (W : World) (h2 : Cells W A (xs.map strV)) => CopyTexts_any A n cap xs W hn (by omega) h2
  have e1 := errN_bd (rightB a)
  have e2 := errN_bd (joinOk xs)
  have e3 := errN_bd (rightB a && rightB b)
  have S2 := fun (B : Option Addr) (c : Nat) (W : World) => same_l B A n c cap xs hn (by omega) W
  have S1 := fun (B B' : Option Addr) (c c' : Nat) (W : World) => same_l B B' (partsL a).length c c' (partsL a) rfl (by omega) W
  obtain ⟨E1, hE1⟩ : ∃ E, errN (rightB a) = E := ⟨_, rfl⟩
  obtain ⟨E2, hE2⟩ : ∃ E, errN (joinOk xs) = E := ⟨_, rfl⟩
  obtain ⟨E3, hE3⟩ : ∃ E, errN (rightB a && rightB b) = E := ⟨_, rfl⟩
  obtain ⟨L, hL⟩ : ∃ L, partsL a = L := ⟨_, rfl⟩
  obtain ⟨J, hJ⟩ : ∃ L, joinL xs = L := ⟨_, rfl⟩
  obtain ⟨C, hC⟩ : ∃ L, cmpN a b = L := ⟨_, rfl⟩
  rw [hE1] at P1 P2 e1
  rw [hE3] at C1 C2 e3
  rw [hE2] at e2
  rw [hL] at P1 P2 S1 ln
  rw [hC] at C1 C2 lc
  simp only [hE2, hJ] at J1 J2
  obtain ⟨r, hr⟩ : ∃ r, rightB a = r := ⟨_, rfl⟩
  obtain ⟨u, hu⟩ : ∃ r, underB a b = r := ⟨_, rfl⟩
  obtain ⟨m, hm'⟩ : ∃ m, L.length = m := ⟨_, rfl⟩
  simp only [hr] at R1 R2
  simp only [hu] at U1 U2
  rw [hm'] at P1 P2 S1 ln
  have P1 := Lib.hid P1
  have P2 := Lib.hid P2
  have C1 := Lib.hid C1
  have C2 := Lib.hid C2
  have R1 := Lib.hid R1
  have R2 := Lib.hid R2
  have U1 := Lib.hid U1
  have U2 := Lib.hid U2
  have J1 := Lib.hid J1
  have J2 := Lib.hid J2
  have K1 := Lib.hid K1
  have S1 := Lib.hid S1
  have S2 := Lib.hid S2
  have HF := Lib.hid HF
  have Hc := Lib.hid hc
  have k1 : IntKind.i64.wrap E1 = E1 := IntWalk.i64_in _ (by omega)
  have k2 : IntKind.i64.wrap E2 = E2 := IntWalk.i64_in _ (by omega)
  have k3 : IntKind.i64.wrap E3 = E3 := IntWalk.i64_in _ (by omega)
  have g1 : ¬ (200 : Int) < ((bs a).size : Int) := by omega
  have g2 : ¬ (200 : Int) < ((bs b).size : Int) := by omega
  have g3 : ¬ (40 : Int) < (n : Int) := by omega
  clear hE1 hE2 hE3 hL hJ hC hr hu hm' ha hb hp hp' hn hc ha' hb' ln lc e1 e2 e3
  go_enter Try.func10, Try.ntmps10
  go_wp2_with fail
  refine HF.out.mono ?_
  rintro e w0 ⟨rfl, rfl⟩
  go_wp2_with fail
  refine (P1.out _).mono ?_
  rintro e w1 ⟨B1, c1, rfl, hc1, hb1⟩
  have Hc1 := Lib.hid hc1
  clear hc1
  go_wp2_with fail
  refine (P2.out _).mono ?_
  rintro e w2 ⟨B2, c2, rfl, hc2, hb2⟩
  have Hc1' := Lib.hid (Hc1.out.below hb2)
  have Hc2 := Lib.hid hc2
  have hb02 := hb1.trans (hb2.mono hb1.size)
  clear Hc1 hc2 hb1 hb2
  go_wp2_with fail
  refine (K1.out _ (Hc.out.below hb02)).mono ?_
  rintro e w3 ⟨v, rfl, hrow, hb3⟩
  obtain ⟨B3, c3, rfl, hc31, _, _, hc3, _, hlt3⟩ := ownsRow_cells hrow
  have Hc3 := Lib.hid hc3
  have Hlt3 := Lib.hid hlt3
  have Hc1 := Lib.hid (Hc1'.out.below hb3)
  have Hc2' := Lib.hid (Hc2.out.below hb3)
  have hb03 := hb02.trans (hb3.mono hb02.size)
  clear hc3 hlt3 hrow Hc1' Hc2 hb02 hb3
  go_wp2_with fail
  refine (J1.out B3 c3 _ hc31 Hc3.out (fun b off s h => (Hlt3.out b off s h).2)).mono ?_
  rintro e w4 ⟨rfl, hb4⟩
  have Hc3' := Lib.hid (Hc3.out.below hb4)
  have Hc1' := Lib.hid (Hc1.out.below hb4)
  have Hc2 := Lib.hid (Hc2'.out.below hb4)
  have hb04 := hb03.trans (hb4.mono hb03.size)
  clear hb03 hb4 Hc3 Hc1 Hc2' Hlt3
  go_wp2_with fail
  refine (J2.out _ (Hc.out.below hb04)).mono ?_
  rintro e w5 ⟨rfl, hb5⟩
  have Hc3 := Lib.hid (Hc3'.out.below hb5)
  have Hc1 := Lib.hid (Hc1'.out.below hb5)
  have Hc2' := Lib.hid (Hc2.out.below hb5)
  have hb05 := hb04.trans (hb5.mono hb04.size)
  clear hb04 hb5 Hc3' Hc1' Hc2
  go_wp2_with fail
  refine (C1.out _).mono ?_
  rintro e w6 ⟨rfl, hb6⟩
  have Hc3' := Lib.hid (Hc3.out.below hb6)
  have Hc1' := Lib.hid (Hc1.out.below hb6)
  have Hc2 := Lib.hid (Hc2'.out.below hb6)
  have hb06 := hb05.trans (hb6.mono hb05.size)
  clear hb05 hb6 Hc3 Hc1 Hc2'
  go_wp2_with fail
  refine (C2.out _).mono ?_
  rintro e w7 ⟨rfl, hb7⟩
  have Hc3 := Lib.hid (Hc3'.out.below hb7)
  have Hc1 := Lib.hid (Hc1'.out.below hb7)
  have Hc2' := Lib.hid (Hc2.out.below hb7)
  have hb07 := hb06.trans (hb7.mono hb06.size)
  clear hb06 hb7 Hc3' Hc1' Hc2
  go_wp2_with fail
  refine (R1.out _).mono ?_
  rintro e w8 ⟨rfl, rfl⟩
  go_wp2_with fail
  refine (R2.out _).mono ?_
  rintro e w9 ⟨rfl, hb9⟩
  have Hc3' := Lib.hid (Hc3.out.below hb9)
  have Hc1' := Lib.hid (Hc1.out.below hb9)
  have Hc2 := Lib.hid (Hc2'.out.below hb9)
  have hb09 := hb07.trans (hb9.mono hb07.size)
  clear hb07 hb9 Hc3 Hc1 Hc2'
  have t0 : (r == r) = true := by simp
  have t1 : (E1 == E1) = true := by simp
  have t2 : (E2 == E2) = true := by simp
  have t3 : (E3 == E3) = true := by simp
  have t4 : (C == C) = true := by simp
  have t5 : ((bs J).toList == (bs J).toList) = true := by simp
  have t6 : (u == u) = true := by simp
  go_wp2_with fail
  refine (S1.out B1 B2 c1 c2 _ Hc1'.out Hc2.out).mono ?_
  rintro e w10 ⟨rfl, hb10⟩
  have Hc3 := Lib.hid (Hc3'.out.below hb10)
  have hb010 := hb09.trans (hb10.mono hb09.size)
  clear hb09 hb10 Hc3' Hc1' Hc2 S1
  go_wp2_with fail
  refine (U1.out _).mono ?_
  rintro e w11 ⟨rfl, hb11⟩
  have Hc3' := Lib.hid (Hc3.out.below hb11)
  have hb011 := hb010.trans (hb11.mono hb010.size)
  clear hb010 hb11 Hc3
  go_wp2_with fail
  refine (U2.out _).mono ?_
  rintro e w12 ⟨rfl, hb12⟩
  have Hc3 := Lib.hid (Hc3'.out.below hb12)
  have hb012 := hb011.trans (hb12.mono hb011.size)
  clear hb011 hb12 Hc3'
  go_wp2_with fail
  refine (S2.out B3 c3 _ Hc3.out (Hc.out.below hb012)).mono ?_
  rintro e w13 ⟨rfl, hb13⟩
  have hb013 := hb012.trans (hb13.mono hb012.size)
  clear hb012 hb13 Hc3 S2
  go_wp2_with fail
  go_ret
  exact ⟨by simp, hb013⟩
end Go.Proofs.Ytnanleopoedgfaa
