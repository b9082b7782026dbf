/-
  The reference: Under.
-/
import Derived.Test.YtnanleopoedgfaaRef2
set_option linter.unusedSimpArgs false
set_option linter.unusedVariables false
namespace Go.Proofs.Ytnanleopoedgfaa
open Go.RowKit
attribute [local go_sem ↓] Go.wp_at_zero Go.wp_at_succ

theorem underB_false1 {s t : Bs} (h : rightB s = false) : underB s t = false := by
  rw [Bool.eq_false_iff]; intro h2; have := ((underB_iff s t).1 h2).1; rw [h] at this; cases this
theorem underB_false2 {s t : Bs} (h : rightB t = false) : underB s t = false := by
  rw [Bool.eq_false_iff]; intro h2; have := ((underB_iff s t).1 h2).2.1; rw [h] at this; cases this

set_option maxRecDepth 100000 in
set_option maxHeartbeats 4000000 in
theorem refUnder_any (a b : Bs) (w : World) (ha : a.length ≤ 100000) (hb : b.length ≤ 100000) :
    Calls Try.prog 33 #[.string (bs a), .string (bs b)] w fun e w' => e = .returned (.bool (underB a b)) ∧ Below w.heap.size w w' := by
  obtain ⟨R, hR⟩ : ∃ R, underB a b = R := ⟨_, rfl⟩
  rw [hR]
  obtain ⟨r1, h1⟩ : ∃ r, rightB a = r := ⟨_, rfl⟩
  obtain ⟨r2, h2⟩ : ∃ r, rightB b = r := ⟨_, rfl⟩
  have R1 := Lib.hid (refRight_r a ha h1)
  have R2 := Lib.hid (refRight_r b hb h2)
  cases r1 with
  | false =>
    have hres := Lib.hid ((underB_false1 (t := b) h1).symm.trans hR)
    clear h1 h2 hR
    go_enter Try.func33, Try.ntmps33
    go_wp2_with fail
    refine (R1.out _).mono ?_
    rintro e w1 ⟨rfl, k1⟩
    go_wp2
    go_ret
    exact ⟨ret_bool hres.out, k1⟩
  | true =>
    cases r2 with
    | false =>
      have hres := Lib.hid ((underB_false2 (s := a) h2).symm.trans hR)
      clear h1 h2 hR
      go_enter Try.func33, Try.ntmps33
      go_wp2_with fail
      refine (R1.out _).mono ?_
      rintro e w1 ⟨rfl, k1⟩
      go_wp2_with fail
      refine (R2.out _).mono ?_
      rintro e w2 ⟨rfl, k2⟩
      go_wp2
      go_ret
      exact ⟨ret_bool hres.out, k1.trans (k2.mono k1.size)⟩
    | true =>
      have hRR : R = true ↔ cut b <+: cut a := by
        rw [← hR, underB_iff]; simp [h1, h2]
      have HA := Lib.hid (fun W => refCut_any a W ha)
      have HB := Lib.hid (fun W => refCut_any b W hb)
      have la := cut_length a
      have lb := cut_length b
      obtain ⟨xs, hxs⟩ : ∃ xs, cut a = xs := ⟨_, rfl⟩
      obtain ⟨ys, hys⟩ : ∃ xs, cut b = xs := ⟨_, rfl⟩
      rw [hxs] at HA la hRR
      rw [hys] at HB lb hRR
      obtain ⟨n, hn⟩ : ∃ n, xs.length = n := ⟨_, rfl⟩
      obtain ⟨m, hm⟩ : ∃ n, ys.length = n := ⟨_, rfl⟩
      rw [hn] at HA la
      rw [hm] at HB lb
      have HR := Lib.hid hRR
      have Hn := Lib.hid hn
      have Hm := Lib.hid hm
      have hnb : n ≤ 200000 := by omega
      have hmb : m ≤ 200000 := by omega
      clear hxs hys hn hm hR la lb h1 h2 hRR
      go_enter Try.func33, Try.ntmps33
      go_wp2_with fail
      refine (R1.out _).mono ?_
      rintro e w1 ⟨rfl, k1⟩
      go_wp2_with fail
      refine (R2.out _).mono ?_
      rintro e w2 ⟨rfl, k2⟩
      have k12 := k1.trans (k2.mono k1.size)
      clear k1 k2 R1 R2
      go_wp2_with fail
      refine (HA.out _).mono ?_
      rintro e w3 ⟨v, rfl, hrow, hb1⟩
      obtain ⟨A, cap, rfl, _, _, _, hcA, _, _⟩ := ownsRow_cells hrow
      clear hrow
      go_wp2_with fail
      refine (HB.out _).mono ?_
      rintro e w4 ⟨v, rfl, hrow, hb2⟩
      obtain ⟨B, cap', rfl, _, _, _, hcB, _, _⟩ := ownsRow_cells hrow
      have HcA := Lib.hid (hcA.below hb2)
      have HcB := Lib.hid hcB
      have hb00 := hb1.trans (hb2.mono hb1.size)
      have hb0 := k12.trans (hb00.mono k12.size)
      clear hrow hcA hcB hb1 hb2 HA HB hb00 k12
      by_cases hnm : n < m
      · have hres : Hid (false = R) := by
          unfold Hid
          cases R with
          | false => rfl
          | true => have := (HR.out.1 rfl).length_le; have := Hn.out; have := Hm.out; omega
        have d0 : decide ((n : Int) < (m : Int)) = true := by simp; omega
        go_wp2
        go_ret
        exact ⟨ret_bool hres.out, hb0⟩
      · have d0 : ¬ ((n : Int) < (m : Int)) := by omega
        go_wp2
        go_loopw [7] (fun i wr => ∃ k : Nat, k ≤ m ∧ i = .int .i64 k ∧ Hid (ys.take k = xs.take k) ∧ Below w4.heap.size w4 wr) (fun i _ => m - (intOf i).toNat)
        case atStart => exact ⟨0, Nat.zero_le _, rfl, rfl, Below.refl _ _⟩
        case round =>
          obtain ⟨k, hk, rfl, hinv, hbr⟩ := hrel
          by_cases hlt : k < m
          · obtain ⟨x, hx⟩ : ∃ x, xs[k]? = some x := ⟨_, List.getElem?_eq_getElem (by rw [Hn.out]; omega)⟩
            obtain ⟨y, hy⟩ : ∃ x, ys[k]? = some x := ⟨_, List.getElem?_eq_getElem (by rw [Hm.out]; exact hlt)⟩
            obtain ⟨b1, off, rfl, hcx⟩ := (HcA.out.below hbr).at (k := k) (x := strV x) (by simp [hx])
            obtain ⟨b2, off', rfl, hcy⟩ := (HcB.out.below hbr).at (k := k) (x := strV y) (by simp [hy])
            rw [strV] at hcx hcy
            have heq : ((bs x).toList == (bs y).toList) = decide (x = y) := by rw [toList_eq, toList_eq, toList_bs, toList_bs, Bool.eq_iff_iff]; simp
            have c1 : (0 : Int) ≤ (k : Int) := by omega
            have c2 : (k : Int) < (n : Int) := by omega
            have c3 : (k : Int) < (m : Int) := by omega
            by_cases hxy : x = y
            · rw [decide_eq_true hxy] at heq
              have hres : Hid (ys.take (k + 1) = xs.take (k + 1)) := by
                unfold Hid; rw [List.take_add_one, List.take_add_one, hx, hy, hinv.out, hxy]
              clear hx hy hxy
              go_wp2
              go_quiet (fail)
              go_wp2
              refine ⟨⟨k + 1, by omega, by go_num, hres.out, ⟨hbr.os, hbr.tape, hbr.output, hbr.size, hbr.block⟩⟩, ?_⟩
              simp [intOf]; omega
            · rw [decide_eq_false hxy] at heq
              have hres : Hid (false = R) := by
                unfold Hid
                cases R with
                | false => rfl
                | true =>
                  obtain ⟨r, hr⟩ := HR.out.1 rfl
                  rw [← hr, List.getElem?_append_left (by rw [Hm.out]; exact hlt), hy] at hx
                  exact absurd (Option.some.inj hx).symm hxy
              clear hx hy hxy
              go_wp2
              go_quiet (fail)
              go_wp2
              go_ret
              exact ⟨ret_bool hres.out, hb0.trans ((show Below w4.heap.size w4 _ from by first | exact hbr | exact ⟨hbr.os, hbr.tape, hbr.output, hbr.size, hbr.block⟩).mono hb0.size)⟩
          · have hkm : k = m := by omega
            subst hkm
            have hres : Hid (true = R) := by
              have : R = true := HR.out.2 (by
                have h3 := hinv.out
                rw [List.take_of_length_le (l := ys) (by rw [Hm.out]; omega)] at h3
                rw [h3]; exact List.take_prefix _ _)
              exact this.symm
            go_wp2
            go_ret
            exact ⟨ret_bool hres.out, hb0.trans (hbr.mono hb0.size)⟩
end Go.Proofs.Ytnanleopoedgfaa
