/-
  The reference: Range.
-/
import Derived.Test.YtnanleopoedgfaaRefA
import Derived.Test.YtnanleopoedgfaaRef3
set_option linter.unusedSimpArgs false
set_option linter.unusedVariables false
namespace Go.Proofs.Ytnanleopoedgfaa
open Go.RowKit
attribute [local go_sem ↓] Go.wp_at_zero Go.wp_at_succ

set_option maxRecDepth 100000 in
set_option maxHeartbeats 4000000 in
theorem refRange_any (a : Option Addr) (n cap : Nat) (xs : List Bs) (s : Bs) (w : World) (hn : xs.length = n) (hm : n ≤ 1000000) (hp : ∀ p ∈ xs, p.length ≤ 100000) (hs : s.length ≤ 100000)
    (hc : Cells w a (xs.map strV)) :
    Calls Try.prog 51 #[.slice a n cap, .string (bs s)] w (RangePost xs s w) := by
  have HS := refSet_any a n cap xs w hn hm hp hc
  obtain ⟨r1, h1⟩ : ∃ r, setB xs = r := ⟨_, rfl⟩
  obtain ⟨r2, h2⟩ : ∃ r, rightB s = r := ⟨_, rfl⟩
  rw [h1] at HS
  have HR := Lib.hid (fun W => refRight_r s hs h2 W)
  have HU := Lib.hid (fun (x : Bs) (hx : x.length ≤ 100000) W => refUnder_any x s W hx hs)
  have HF := Lib.hid (fun (hset : setB xs = true) (hr : rightB s = true) W (hb : Below w.heap.size w W) => refFind_set a n cap (lowN xs s) (isAt xs s (lowN xs s)) xs s hn hset hr rfl rfl W (hc.below hb))
  have HS := Lib.hid HS
  have H1 := Lib.hid h1
  have H2 := Lib.hid h2
  have Hn := Lib.hid hn
  have Hc := Lib.hid hc
  have Hp := Lib.hid hp
  clear h1 h2 hn hc hp
  cases r1 with
  | false =>
    go_enter Try.func51, Try.ntmps51
    go_wp2_with fail
    refine HS.out.mono ?_
    rintro e w1 ⟨rfl, hb1⟩
    go_wp2
    go_ret3
    exact ⟨by rw [H1.out]; rfl, hb1⟩
  | true =>
    cases r2 with
    | false =>
      go_enter Try.func51, Try.ntmps51
      go_wp2_with fail
      refine HS.out.mono ?_
      rintro e w1 ⟨rfl, hb1⟩
      go_wp2_with fail
      refine (HR.out _).mono ?_
      rintro e w2 ⟨rfl, hb2⟩
      go_wp2
      go_ret3
      exact ⟨by rw [H1.out, H2.out]; rfl, hb1.trans (hb2.mono hb1.size)⟩
    | true =>
      have HF := Lib.hid (HF.out H1.out H2.out)
      have hun : ∀ i, i < n → underB (xs.getD i []) s = decide (lowN xs s ≤ i ∧ i < lowN xs s + runN xs s) := fun i hi => set_under H1.out (by rw [Hn.out]; exact hi)
      have hrn := runN_le xs s
      rw [Hn.out] at hrn
      have fin : Hid (∀ (W : World), Below w.heap.size w W → RangePost xs s w (.returned (.tuple #[.int .i64 (lowN xs s), .int .i64 ((lowN xs s + runN xs s : Nat) : Int), .int .i64 0])) W) := fun W hW => ⟨by rw [if_pos H1.out, if_pos H2.out], hW⟩
      obtain ⟨lo, hlo⟩ : ∃ lo, lowN xs s = lo := ⟨_, rfl⟩
      obtain ⟨T, hT⟩ : ∃ T, lowN xs s + runN xs s = T := ⟨_, rfl⟩
      have hloT : lo ≤ T := by omega
      rw [hT] at hrn fin hun
      rw [hlo] at HF fin hun
      obtain ⟨q, hq⟩ : ∃ q, isAt xs s lo = q := ⟨_, rfl⟩
      rw [hq] at HF
      have Hun := Lib.hid hun
      clear hlo hT hun hq
      go_enter Try.func51, Try.ntmps51
      go_wp2_with fail
      refine HS.out.mono ?_
      rintro e w1 ⟨rfl, hb1⟩
      go_wp2_with fail
      refine (HR.out _).mono ?_
      rintro e w2 ⟨rfl, hb2⟩
      have hb02 := hb1.trans (hb2.mono hb1.size)
      go_wp2_with fail
      refine (HF.out _ hb02).mono ?_
      rintro e w3 ⟨rfl, hb3⟩
      have hb03 := hb02.trans (hb3.mono hb02.size)
      clear hb1 hb2 hb3 hb02
      go_wp2
      go_loopw [7, 9, 10] (fun f t i wr => ∃ k : Nat, k ≤ n ∧ i = .int .i64 k ∧ f = .int .i64 lo ∧ t = .int .i64 ((if k ≤ lo then lo else if k ≤ T then k else T : Nat) : Int) ∧ Below w.heap.size w wr) (fun _ _ i _ => n - (intOf i).toNat)
      case atStart => exact ⟨0, Nat.zero_le _, rfl, rfl, by simp, hb03⟩
      case round =>
        obtain ⟨k, hk, rfl, rfl, rfl, hb⟩ := hrel
        by_cases hkn : k < n
        · obtain ⟨b, off, rfl, hcx⟩ := strGet (Hc.out.below hb) (k := k) (by rw [Hn.out]; exact hkn)
          have hxl : (xs.getD k []).length ≤ 100000 := by
            obtain ⟨x, hx⟩ : ∃ x, xs[k]? = some x := ⟨_, List.getElem?_eq_getElem (by rw [Hn.out]; exact hkn)⟩
            rw [getD_of hx]; exact Hp.out x (List.mem_of_getElem? hx)
          have hu := Hun.out k hkn
          obtain ⟨x, hx⟩ : ∃ x, xs.getD k [] = x := ⟨_, rfl⟩
          rw [hx] at hcx hxl hu
          have HX := fun W => HU.out x hxl W
          simp only [hu] at HX
          obtain ⟨tv, htv⟩ : ∃ tv, (if k ≤ lo then lo else if k ≤ T then k else T : Nat) = tv := ⟨_, rfl⟩
          rw [htv]
          clear hx hu hxl
          by_cases hin : lo ≤ k ∧ k < T
          · rw [decide_eq_true hin] at HX
            have HX := Lib.hid HX
            have g1 : ¬ (k : Int) < (lo : Int) := by omega
            have e1 : decide ((k : Int) < (lo : Int)) = false := decide_eq_false g1
            have e2 : decide (k < lo) = false := decide_eq_false (by omega)
            have hnx : Hid ((k : Int) + 1 = ((if k + 1 ≤ lo then lo else if k + 1 ≤ T then k + 1 else T : Nat) : Int)) := by
              unfold Hid; rw [if_neg (by omega), if_pos (by omega)]; omega
            clear hin htv
            go_wp2_with fail
            refine (HX.out _).mono ?_
            rintro e w4 ⟨rfl, hb4⟩
            have hbb := hb.trans (hb4.mono hb.size)
            go_wp2
            refine ⟨?_, by simp [intOf]; omega⟩
            first
              | exact ⟨k + 1, by omega, by go_num, rfl, by rw [← hnx.out], hbb⟩
              | ((repeat apply Exists.intro); refine ⟨?_, rfl⟩; exact ⟨k + 1, by omega, by go_num, rfl, by rw [← hnx.out], hbb⟩)
          · rw [decide_eq_false hin] at HX
            have HX := Lib.hid HX
            have hnx : Hid (tv = (if k + 1 ≤ lo then lo else if k + 1 ≤ T then k + 1 else T : Nat)) := by
              unfold Hid; rw [← htv]
              by_cases h1 : k + 1 ≤ lo
              · rw [if_pos h1, if_pos (by omega)]
              · rw [if_neg h1, if_neg (show ¬ k + 1 ≤ T by omega)]
                by_cases h2 : k ≤ lo
                · rw [if_pos h2]; omega
                · rw [if_neg h2]
                  by_cases h3 : k ≤ T
                  · rw [if_pos h3]; omega
                  · rw [if_neg h3]
            clear hin htv
            go_wp2_with fail
            refine (HX.out _).mono ?_
            rintro e w4 ⟨rfl, hb4⟩
            have hbb := hb.trans (hb4.mono hb.size)
            go_wp2
            refine ⟨?_, by simp [intOf]; omega⟩
            first
              | exact ⟨k + 1, by omega, by go_num, rfl, by rw [← hnx.out], hbb⟩
              | ((repeat apply Exists.intro); refine ⟨?_, rfl⟩; exact ⟨k + 1, by omega, by go_num, rfl, by rw [← hnx.out], hbb⟩)
        · have hkk : k = n := by omega
          have htv : (if k ≤ lo then lo else if k ≤ T then k else T : Nat) = T := by
            by_cases h1 : k ≤ lo
            · rw [if_pos h1]; omega
            · rw [if_neg h1]
              by_cases h3 : k ≤ T
              · rw [if_pos h3]; omega
              · rw [if_neg h3]
          rw [htv]
          subst hkk
          clear htv
          go_wp2
          go_ret3
          exact fin.out _ hb
end Go.Proofs.Ytnanleopoedgfaa
