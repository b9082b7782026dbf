/-
  The reference: Parts, Order, Compare, Under.
-/
import Derived.Test.YtnanleopoedgfaaRef
import Derived.Deep.QuietTactic
import Derived.BigQuiet
set_option linter.unusedSimpArgs false
set_option linter.unusedVariables false
namespace Go.Proofs.Ytnanleopoedgfaa
open Go.RowKit
attribute [local go_sem ↓] Go.wp_at_zero Go.wp_at_succ

set_option maxRecDepth 100000 in
set_option maxHeartbeats 4000000 in
theorem refOrder_any (a b : Bs) (w : World) (ha : a.length ≤ 100000) (hb : b.length ≤ 100000) :
    Calls Try.prog 58 #[.string (bs a), .string (bs b)] w fun e w' => e = .returned (.int .i64 (ordN a b)) ∧ Below w.heap.size w w' := by
  have HA := Lib.hid (fun W => refCut_any a W ha)
  have HB := Lib.hid (fun W => refCut_any b W hb)
  have la := cut_length a
  have lb := cut_length b
  unfold ordN
  obtain ⟨xs, hxs⟩ : ∃ xs, cut a = xs := ⟨_, rfl⟩
  obtain ⟨ys, hys⟩ : ∃ xs, cut b = xs := ⟨_, rfl⟩
  rw [hxs] at HA la ⊢
  rw [hys] at HB lb ⊢
  obtain ⟨n, hn⟩ : ∃ n, xs.length = n := ⟨_, rfl⟩
  obtain ⟨m, hm⟩ : ∃ n, ys.length = n := ⟨_, rfl⟩
  obtain ⟨R, hR⟩ : ∃ R, cmpL xs ys = R := ⟨_, rfl⟩
  rw [hn] at HA la
  rw [hm] at HB lb
  rw [hR]
  have HR := Lib.hid hR
  have Hn := Lib.hid hn
  have Hm := Lib.hid hm
  have hnb : n ≤ 200000 := by omega
  have hmb : m ≤ 200000 := by omega
  clear hxs hys hn hm hR la lb
  go_enter Try.func58, Try.ntmps58
  go_wp2_with fail
  refine (HA.out _).mono ?_
  rintro e w1 ⟨v, rfl, hrow, hb1⟩
  obtain ⟨A, cap, rfl, _, _, _, hcA, _, _⟩ := ownsRow_cells hrow
  clear hrow
  go_wp2_with fail
  refine (HB.out _).mono ?_
  rintro e w2 ⟨v, rfl, hrow, hb2⟩
  obtain ⟨B, cap', rfl, _, _, _, hcB, _, _⟩ := ownsRow_cells hrow
  have HcA := Lib.hid (hcA.below hb2)
  have HcB := Lib.hid hcB
  have hb0 := hb1.trans (hb2.mono hb1.size)
  clear hrow hcA hcB hb1 hb2 HA HB
  go_wp2
  go_loopw [7] (fun i wr => ∃ k : Nat, k ≤ n ∧ k ≤ m ∧ i = .int .i64 k ∧ Hid (cmpL (xs.drop k) (ys.drop k) = R) ∧ Below w2.heap.size w2 wr) (fun i _ => n - (intOf i).toNat)
  case atStart => exact ⟨0, Nat.zero_le _, Nat.zero_le _, rfl, HR, Below.refl _ _⟩
  case round =>
    obtain ⟨k, hk, hk', rfl, hrest, hbr⟩ := hrel
    by_cases hlt : k < n
    · by_cases hlt' : k < m
      · obtain ⟨x, hx⟩ : ∃ x, xs[k]? = some x := ⟨_, List.getElem?_eq_getElem (by rw [Hn.out]; exact hlt)⟩
        obtain ⟨y, hy⟩ : ∃ x, ys[k]? = some x := ⟨_, List.getElem?_eq_getElem (by rw [Hm.out]; exact hlt')⟩
        have ex : xs.drop k = x :: xs.drop (k + 1) := by
          have h1 : k < xs.length := by rw [Hn.out]; exact hlt
          rw [List.drop_eq_getElem_cons h1]; rw [List.getElem?_eq_getElem h1] at hx; rw [Option.some.inj hx]
        have ey : ys.drop k = y :: ys.drop (k + 1) := by
          have h1 : k < ys.length := by rw [Hm.out]; exact hlt'
          rw [List.drop_eq_getElem_cons h1]; rw [List.getElem?_eq_getElem h1] at hy; rw [Option.some.inj hy]
        have hnx := hrest.out
        rw [ex, ey, cmpL] at hnx
        have Hnx := Lib.hid hnx
        obtain ⟨b1, off, rfl, hcx⟩ := (HcA.out.below hbr).at (k := k) (x := strV x) (by simp [hx])
        obtain ⟨b2, off', rfl, hcy⟩ := (HcB.out.below hbr).at (k := k) (x := strV y) (by simp [hy])
        rw [strV] at hcx hcy
        have hcmp : cmpB x y = if ltB x y then -1 else if x = y then 0 else 1 := rfl
        have Hcmp := Lib.hid hcmp
        have hlo : Op.bytesLess (bs x).toList (bs y).toList = ltB x y := by rw [toList_eq, toList_eq, toList_bs, toList_bs]; rfl
        have heq : ((bs x).toList == (bs y).toList) = decide (x = y) := by rw [toList_eq, toList_eq, toList_bs, toList_bs, Bool.eq_iff_iff]; simp
        have c1 : (0 : Int) ≤ (k : Int) := by omega
        have c2 : (k : Int) < (n : Int) := by omega
        have c3 : (k : Int) < (m : Int) := by omega
        have dd1 : decide ((k : Int) < (n : Int)) = true := by simp; omega
        have dd2 : decide ((k : Int) < (m : Int)) = true := by simp; omega
        clear ex ey hnx hcmp hx hy
        cases hl : ltB x y with
        | true =>
          rw [hl] at hlo
          have hres : Hid (-1 = R) := by
            unfold Hid; rw [← Hnx.out, Hcmp.out, hl]; rfl
          clear hl heq
          go_wp2
          go_quiet (fail)
          go_wp2
          go_ret
          exact ⟨ret_int hres.out, hb0.trans ((show Below w2.heap.size w2 _ from by first | exact hbr | exact ⟨hbr.os, hbr.tape, hbr.output, hbr.size, hbr.block⟩).mono hb0.size)⟩
        | false =>
          rw [hl] at hlo
          by_cases hxy : x = y
          · rw [decide_eq_true hxy] at heq
            have hres : Hid (cmpL (xs.drop (k + 1)) (ys.drop (k + 1)) = R) := by
              unfold Hid
              have := Hnx.out
              have h0 : cmpB x y = 0 := by rw [Hcmp.out, hl, if_neg (by simp), if_pos hxy]
              rw [if_pos h0] at this; exact this
            clear hl hxy
            go_wp2
            go_quiet (fail)
            go_wp2
            go_quiet (fail)
            go_wp2
            refine ⟨⟨k + 1, by omega, by omega, by go_num, hres.out, ⟨hbr.os, hbr.tape, hbr.output, hbr.size, hbr.block⟩⟩, ?_⟩
            simp [intOf]; omega
          · rw [decide_eq_false hxy] at heq
            have hres : Hid (1 = R) := by
              unfold Hid
              have := Hnx.out
              have h0 : cmpB x y = 1 := by rw [Hcmp.out, hl, if_neg (by simp), if_neg hxy]
              rw [h0, if_neg (by decide)] at this; exact this
            clear hl hxy
            go_wp2
            go_quiet (fail)
            go_wp2
            go_quiet (fail)
            go_wp2
            go_ret
            exact ⟨ret_int hres.out, hb0.trans ((show Below w2.heap.size w2 _ from by first | exact hbr | exact ⟨hbr.os, hbr.tape, hbr.output, hbr.size, hbr.block⟩).mono hb0.size)⟩
      · have hres : Hid (1 = R) := by
          unfold Hid
          have := hrest.out
          have h1 : k < xs.length := by rw [Hn.out]; exact hlt
          rw [List.drop_eq_getElem_cons h1, List.drop_of_length_le (l := ys) (by rw [Hm.out]; omega), cmpL] at this
          exact this
        have hkm : k = m := by omega
        subst hkm
        have dd1 : decide ((k : Int) < (n : Int)) = true := by simp; omega
        have g1 : ¬ (n : Int) < (k : Int) := by omega
        have g2 : (k : Int) < (n : Int) := by omega
        go_wp2
        go_ret
        exact ⟨ret_int hres.out, hb0.trans (hbr.mono hb0.size)⟩
    · have hkn : k = n := by omega
      subst hkn
      by_cases hlt' : k < m
      · have hres : Hid (-1 = R) := by
          unfold Hid
          have := hrest.out
          have h1 : k < ys.length := by rw [Hm.out]; exact hlt'
          rw [List.drop_eq_getElem_cons h1, List.drop_of_length_le (l := xs) (by rw [Hn.out]; omega), cmpL] at this
          exact this
        go_wp2
        go_ret
        exact ⟨ret_int hres.out, hb0.trans (hbr.mono hb0.size)⟩
      · have hres : Hid (0 = R) := by
          unfold Hid
          have := hrest.out
          rw [List.drop_of_length_le (l := xs) (by rw [Hn.out]; omega), List.drop_of_length_le (l := ys) (by rw [Hm.out]; omega), cmpL] at this
          exact this
        have g1 : ¬ (m : Int) < (k : Int) := by omega
        go_wp2
        go_ret
        exact ⟨ret_int hres.out, hb0.trans (hbr.mono hb0.size)⟩

theorem refRight_r (l : Bs) (hs : l.length ≤ 100000) {r : Bool} (h : rightB l = r) (W : World) :
    Calls Try.prog 32 #[.string (bs l)] W fun e w' => e = .returned (.bool r) ∧ Below W.heap.size W w' := by
  have := refRight_any l W hs
  rwa [h] at this

def ComparePost (a b : Bs) (w : World) (e : Ending) (w' : World) : Prop :=
  e = .returned (if rightB a && rightB b then .tuple #[.int .i64 (ordN a b), .int .i64 0] else .tuple #[.int .i64 0, .int .i64 40]) ∧ Below w.heap.size w w'

set_option maxRecDepth 100000 in
set_option maxHeartbeats 4000000 in
theorem refCompare_any (a b : Bs) (w : World) (ha : a.length ≤ 100000) (hb : b.length ≤ 100000) :
    Calls Try.prog 31 #[.string (bs a), .string (bs b)] w (ComparePost a b w) := by
  have HO := Lib.hid (fun W => refOrder_any a b W ha hb)
  obtain ⟨r1, h1⟩ : ∃ r, rightB a = r := ⟨_, rfl⟩
  obtain ⟨r2, h2⟩ : ∃ r, rightB b = r := ⟨_, rfl⟩
  have R1 := Lib.hid (refRight_r a ha h1)
  have R2 := Lib.hid (refRight_r b hb h2)
  have H1 := Lib.hid h1
  have H2 := Lib.hid h2
  clear h1 h2
  cases r1 with
  | false =>
    go_enter Try.func31, Try.ntmps31
    go_wp2_with fail
    refine (R1.out _).mono ?_
    rintro e w1 ⟨rfl, k1⟩
    go_wp2
    go_ret2
    exact ⟨by rw [H1.out]; rfl, k1⟩
  | true =>
    cases r2 with
    | false =>
      go_enter Try.func31, Try.ntmps31
      go_wp2_with fail
      refine (R1.out _).mono ?_
      rintro e w1 ⟨rfl, k1⟩
      go_wp2_with fail
      refine (R2.out _).mono ?_
      rintro e w2 ⟨rfl, k2⟩
      go_wp2
      go_ret2
      exact ⟨by rw [H1.out, H2.out]; rfl, k1.trans (k2.mono k1.size)⟩
    | true =>
      go_enter Try.func31, Try.ntmps31
      go_wp2_with fail
      refine (R1.out _).mono ?_
      rintro e w1 ⟨rfl, k1⟩
      go_wp2_with fail
      refine (R2.out _).mono ?_
      rintro e w2 ⟨rfl, k2⟩
      go_wp2_with fail
      refine (HO.out _).mono ?_
      rintro e w3 ⟨rfl, k3⟩
      have kk := k1.trans (k2.mono k1.size)
      go_wp2
      go_ret2
      exact ⟨by rw [H1.out, H2.out]; rfl, kk.trans (k3.mono kk.size)⟩

set_option maxRecDepth 100000 in
set_option maxHeartbeats 4000000 in
theorem refParts_yes (a : Bs) (w : World) (ha : a.length ≤ 100000) (h : rightB a = true) :
    Calls Try.prog 29 #[.string (bs a)] w fun e w' => ∃ v, e = .returned (.tuple #[v, .int .i64 0]) ∧ w'.ownsRow w.heap.size 9 1 v (cut a).length ((cut a).map strV) ∧ Below w.heap.size w w' := by
  have R1 := Lib.hid (refRight_r a ha h)
  have HC := Lib.hid (fun W => refCut_any a W ha)
  clear h
  go_enter Try.func29, Try.ntmps29
  go_wp2_with fail
  refine (R1.out _).mono ?_
  rintro e w1 ⟨rfl, k1⟩
  go_wp2_with fail
  refine (HC.out _).mono ?_
  rintro e w2 ⟨v, rfl, hrow, k2⟩
  have Hrow := Lib.hid (ownsRow_mono hrow k1.size)
  have hfv : ∃ sa sn sc, v = .slice sa sn sc := by
    rcases hrow.2 with ⟨rfl, _⟩ | ⟨g, cap, cur, rfl, _⟩
    · exact ⟨_, _, _, rfl⟩
    · exact ⟨_, _, _, rfl⟩
  clear hrow
  obtain ⟨sa, sn, sc, rfl⟩ := hfv
  go_wp2
  go_ret2
  exact ⟨_, rfl, Hrow.out, k1.trans (k2.mono k1.size)⟩

set_option maxRecDepth 100000 in
set_option maxHeartbeats 4000000 in
theorem refParts_no (a : Bs) (w : World) (ha : a.length ≤ 100000) (h : rightB a = false) :
    Calls Try.prog 29 #[.string (bs a)] w fun e w' => e = .returned (.tuple #[.slice none 0 0, .int .i64 40]) ∧ Below w.heap.size w w' := by
  have R1 := Lib.hid (refRight_r a ha h)
  clear h
  go_enter Try.func29, Try.ntmps29
  go_wp2_with fail
  refine (R1.out _).mono ?_
  rintro e w1 ⟨rfl, k1⟩
  go_wp2
  go_ret2
  exact ⟨rfl, k1⟩
end Go.Proofs.Ytnanleopoedgfaa
