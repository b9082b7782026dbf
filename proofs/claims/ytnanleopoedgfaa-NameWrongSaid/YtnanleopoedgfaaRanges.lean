/-
  NameRanges.
-/
import Derived.Test.YtnanleopoedgfaaSetOf
import Derived.Test.YtnanleopoedgfaaAwake
set_option linter.unusedSimpArgs false
set_option linter.unusedVariables false
namespace Go.Proofs.Ytnanleopoedgfaa
open Go.RowKit
attribute [local go_sem ↓] Go.wp_at_zero Go.wp_at_succ

theorem Range_set (a : Option Addr) (n cap lo T : Nat) (S : List Bs) (s : Bs) (hn : S.length = n) (hset : setB S = true) (hs : rightB s = true) (hlo : lowN S s = lo) (hT : lowN S s + runN S s = T) (W : World) (hc : Cells W a (S.map strV)) :
    Calls Try.prog 19 #[.slice a n cap, .string (bs s)] W fun e w' => e = .returned (.tuple #[.int .i64 lo, .int .i64 T, .int .i64 0]) ∧ Below W.heap.size W w' := by
  refine (Range_any a n cap S s W hn (by have := setB_len hset; omega) (fun p hp => by have := setB_short hset p hp; omega) (by have := rightB_len hs; omega) hc).mono ?_
  rintro e w' ⟨rfl, hb⟩
  rw [if_pos hset, if_pos hs, hlo, ← hT, ← hlo]
  exact ⟨rfl, hb⟩
theorem Find_set (a : Option Addr) (n cap lo : Nat) (b : Bool) (S : List Bs) (s : Bs) (hn : S.length = n) (hset : setB S = true) (hs : rightB s = true) (hlo : lowN S s = lo) (hb : isAt S s lo = b) (W : World) (hc : Cells W a (S.map strV)) :
    Calls Try.prog 20 #[.slice a n cap, .string (bs s)] W fun e w' => e = .returned (.tuple #[.int .i64 lo, .bool b]) ∧ Below W.heap.size W w' := by
  refine (Find_any a n cap S s W hn (by have := setB_len hset; omega) (fun p hp => by have := setB_short hset p hp; omega) (by have := rightB_len hs; omega) hc).mono ?_
  rintro e w' ⟨rfl, hb'⟩
  rw [if_pos (by rw [hset, hs]; rfl), hlo, hb]
  exact ⟨rfl, hb'⟩

set_option maxRecDepth 100000 in
set_option maxHeartbeats 8000000 in
theorem NameRanges_any (a : Option Addr) (n cap p : Nat) (ns : List Nat) (w : World) (hn : ns.length = n) (hm : n ≤ maxLen) (hcap : n ≤ cap) (hcm : cap ≤ maxLen) (hp : ∀ x ∈ ns, x < 65536) (hp16 : p < 65536) (hc : Cells w a (ns.map u16V)) :
    Calls Try.prog 5 #[.slice a n cap, .int .u16 p] w fun e w' => e = .returned (.bool true) ∧ Below w.heap.size w w' := by
  have HA := Lib.hid (fun W => awake_any W)
  have HM := Lib.hid (fun W (h : Cells W a (ns.map u16V)) => mades_any a n cap ns W hn hm hcap hcm hp h)
  have HO := Lib.hid (fun (A : Option Addr) (c : Nat) (W : World) (h : Cells W A ((madesB ns).map strV)) => Of_mades A (madesB ns).length c ns W rfl h)
  have HP := Lib.hid (fun W => Made_any p W hp16)
  have hsr := madeB_right p
  obtain ⟨_, _, hset, h40⟩ := ofL_mades ns
  obtain ⟨k0, hk0⟩ : ∃ k, (madesB ns).length = k := ⟨_, rfl⟩
  rw [hk0] at HM HO
  obtain ⟨K, hK⟩ : ∃ K, madesB ns = K := ⟨_, rfl⟩
  rw [hK] at HM HO hset h40
  obtain ⟨S, hS⟩ : ∃ S, ofB K = S := ⟨_, rfl⟩
  rw [hS] at HO hset h40
  obtain ⟨m, hm'⟩ : ∃ m, S.length = m := ⟨_, rfl⟩
  rw [hm'] at HO h40
  obtain ⟨s, hs⟩ : ∃ s, madeB p = s := ⟨_, rfl⟩
  rw [hs] at HP hsr
  obtain ⟨lo, hlo⟩ : ∃ q, lowN S s = q := ⟨_, rfl⟩
  obtain ⟨T, hT⟩ : ∃ q, lowN S s + runN S s = q := ⟨_, rfl⟩
  obtain ⟨b, hb⟩ : ∃ b, isAt S s lo = b := ⟨_, rfl⟩
  have HR := Lib.hid (fun (A : Option Addr) (c : Nat) (W : World) => Range_set A m c lo T S s hm' hset hsr hlo hT W)
  have HF := Lib.hid (fun (A : Option Addr) (c : Nat) (W : World) => Find_set A m c lo b S s hm' hset hsr hlo hb W)
  have hTm : T ≤ m := by have := runN_le S s; omega
  have hloT : lo ≤ T := by omega
  have hunder : ∀ i, i < m → underB (S.getD i []) s = decide (lo ≤ i ∧ i < T) := fun i hi => by
    rw [set_under hset (by omega), hT, hlo]
  have hbT : b = true → lo < T := fun h => by
    rw [h] at hb
    have h1 : S[lo]? = some s := of_decide_eq_true hb
    have h2 : lo < S.length := (List.getElem?_eq_some_iff.1 h1).1
    have h3 := hunder lo (by omega)
    rw [List.getD_eq_getElem?_getD, h1] at h3
    have h4 : underB s s = true := (underB_iff s s).2 ⟨hsr, hsr, List.prefix_refl _⟩
    simp only [Option.getD_some, h4] at h3
    have := of_decide_eq_true h3.symm
    exact this.2
  have HU := Lib.hid (fun (t : Bs) (ht : t.length ≤ 1000) (W : World) => Under_l t s ht (by have := rightB_len hsr; omega) W)
  have Hunder := Lib.hid hunder
  have Hshort := Lib.hid (setB_short hset)
  have Hm := Lib.hid hm'
  have Hc := Lib.hid hc
  clear hn hm hcap hcm hp hp16 hc hk0 hK hS hm' hs hlo hT hb hunder hset hsr
  have q0 : ((lo : Int) != (lo : Int)) = false := by simp
  have q1 : ¬ (T : Int) < (lo : Int) := by omega
  have q2 : ¬ (m : Int) < (T : Int) := by omega
  have q3 : ¬ (lo : Int) < 0 := by omega
  have e1 : decide (T < lo) = false := decide_eq_false (by omega)
  have e2 : decide (m < T) = false := decide_eq_false (by omega)
  have e3 : decide ((lo : Int) < 0) = false := decide_eq_false (by omega)
  have e5 : decide ((T : Int) < (lo : Int)) = false := decide_eq_false (by omega)
  have e6 : decide ((m : Int) < (T : Int)) = false := decide_eq_false (by omega)
  go_enter Try.func5, Try.ntmps5
  go_wp2_with fail
  refine (HA.out _).mono ?_
  rintro e w1 ⟨rfl, hb1⟩
  go_wp2_with fail
  refine (HM.out _ (Hc.out.below hb1)).mono ?_
  rintro e w2 ⟨v, rfl, hrow, hb2⟩
  have hb02 := hb1.trans (hb2.mono hb1.size)
  obtain ⟨A2, c2, rfl, _, _, _, hc2, _⟩ := ownsRow_cells hrow
  have Hc2 := Lib.hid hc2
  clear hrow hc2 hb1 hb2
  go_wp2_with fail
  refine (HO.out _ _ _ Hc2.out).mono ?_
  rintro e w3 ⟨v, rfl, hrow, hb3⟩
  have hb03 := hb02.trans (hb3.mono hb02.size)
  obtain ⟨A3, c3, rfl, _, _, _, hc3, _⟩ := ownsRow_cells hrow
  have Hc3 := Lib.hid hc3
  clear hrow hc3 hb02 hb3 Hc2
  go_wp2_with fail
  refine (HP.out _).mono ?_
  rintro e w4 ⟨rfl, hb4⟩
  have Hc4 := Lib.hid (Hc3.out.below hb4)
  have hb04 := hb03.trans (hb4.mono hb03.size)
  clear Hc3 hb03 hb4
  go_wp2_with fail
  refine (HR.out _ _ _ Hc4.out).mono ?_
  rintro e w5 ⟨rfl, hb5⟩
  have Hc5 := Lib.hid (Hc4.out.below hb5)
  have hb05 := hb04.trans (hb5.mono hb04.size)
  clear Hc4 hb04 hb5
  go_wp2_with fail
  refine (HF.out _ _ _ Hc5.out).mono ?_
  rintro e w6 ⟨rfl, hb6⟩
  have Hc6 := Lib.hid (Hc5.out.below hb6)
  have hb06 := hb05.trans (hb6.mono hb05.size)
  clear Hc5 hb05 hb6
  cases b with
  | true =>
    have q4 : ¬ (T : Int) ≤ (lo : Int) := by have := hbT rfl; omega
    have e4 : decide (T ≤ lo) = false := decide_eq_false (by omega)
    have e7 : decide ((T : Int) ≤ (lo : Int)) = false := decide_eq_false (by omega)
    go_wp2
    go_loopw [13, 14, 72] (fun _ _ i wr => ∃ k : Nat, i = .int .i64 k ∧ k ≤ m ∧ Below w6.heap.size w6 wr) (fun _ _ i _ => m - (intOf i).toNat)
    case atStart => exact ⟨0, rfl, Nat.zero_le _, Below.refl _ _⟩
    case round =>
      obtain ⟨k, rfl, hk, hbr⟩ := hrel
      by_cases hlt : k < m
      · obtain ⟨x, hx⟩ : ∃ x, S[k]? = some x := ⟨_, List.getElem?_eq_getElem (by rw [Hm.out]; exact hlt)⟩
        obtain ⟨b1, off, rfl, hcx⟩ := (Hc6.out.below hbr).at (k := k) (x := strV x) (by simp [hx])
        rw [strV] at hcx
        have hxl : x.length ≤ 1000 := by have := Hshort.out x (List.mem_of_getElem? hx); omega
        have hu := Hunder.out k hlt
        rw [List.getD_eq_getElem?_getD, hx] at hu
        simp only [Option.getD_some] at hu
        have HX := HU.out x hxl
        simp only [hu] at HX
        have HX := Lib.hid HX
        clear hx hu hxl
        have c1 : (0 : Int) ≤ (k : Int) := by omega
        have c2 : (k : Int) < (m : Int) := by omega
        by_cases h1 : lo ≤ k
        · have d1 : (lo : Int) ≤ (k : Int) := by omega
          by_cases h2 : k < T
          · have d2 : (k : Int) < (T : Int) := by omega
            have HX := Lib.hid (fun W => by have := HX.out W; rwa [decide_eq_true (show lo ≤ k ∧ k < T from ⟨h1, h2⟩)] at this)
            go_wp2_with fail
            refine (HX.out _).mono ?_
            rintro e wx ⟨rfl, hbx⟩
            go_wp2
            refine ⟨?_, by simp [intOf]; omega⟩
            first
              | exact ⟨k + 1, by go_num, by omega, hbr.trans (hbx.mono hbr.size)⟩
              | ((repeat apply Exists.intro); refine ⟨?_, rfl⟩; exact ⟨k + 1, by go_num, by omega, hbr.trans (hbx.mono hbr.size)⟩)
          · have d2 : ¬ (k : Int) < (T : Int) := by omega
            have HX := Lib.hid (fun W => by have := HX.out W; rwa [decide_eq_false (show ¬ (lo ≤ k ∧ k < T) from fun h => h2 h.2)] at this)
            go_wp2_with fail
            refine (HX.out _).mono ?_
            rintro e wx ⟨rfl, hbx⟩
            go_wp2
            refine ⟨?_, by simp [intOf]; omega⟩
            first
              | exact ⟨k + 1, by go_num, by omega, hbr.trans (hbx.mono hbr.size)⟩
              | ((repeat apply Exists.intro); refine ⟨?_, rfl⟩; exact ⟨k + 1, by go_num, by omega, hbr.trans (hbx.mono hbr.size)⟩)
        · have d1 : ¬ (lo : Int) ≤ (k : Int) := by omega
          have HX := Lib.hid (fun W => by have := HX.out W; rwa [decide_eq_false (show ¬ (lo ≤ k ∧ k < T) from fun h => h1 h.1)] at this)
          go_wp2_with fail
          refine (HX.out _).mono ?_
          rintro e wx ⟨rfl, hbx⟩
          go_wp2
          refine ⟨?_, by simp [intOf]; omega⟩
          first
            | exact ⟨k + 1, by go_num, by omega, hbr.trans (hbx.mono hbr.size)⟩
            | ((repeat apply Exists.intro); refine ⟨?_, rfl⟩; exact ⟨k + 1, by go_num, by omega, hbr.trans (hbx.mono hbr.size)⟩)
      · have hkm : k = m := by omega
        subst hkm
        go_wp2
        go_ret
        exact ⟨rfl, hb06.trans (hbr.mono hb06.size)⟩
  | false =>
    go_wp2
    go_loopw [13, 14, 72] (fun _ _ i wr => ∃ k : Nat, i = .int .i64 k ∧ k ≤ m ∧ Below w6.heap.size w6 wr) (fun _ _ i _ => m - (intOf i).toNat)
    case atStart => exact ⟨0, rfl, Nat.zero_le _, Below.refl _ _⟩
    case round =>
      obtain ⟨k, rfl, hk, hbr⟩ := hrel
      by_cases hlt : k < m
      · obtain ⟨x, hx⟩ : ∃ x, S[k]? = some x := ⟨_, List.getElem?_eq_getElem (by rw [Hm.out]; exact hlt)⟩
        obtain ⟨b1, off, rfl, hcx⟩ := (Hc6.out.below hbr).at (k := k) (x := strV x) (by simp [hx])
        rw [strV] at hcx
        have hxl : x.length ≤ 1000 := by have := Hshort.out x (List.mem_of_getElem? hx); omega
        have hu := Hunder.out k hlt
        rw [List.getD_eq_getElem?_getD, hx] at hu
        simp only [Option.getD_some] at hu
        have HX := HU.out x hxl
        simp only [hu] at HX
        have HX := Lib.hid HX
        clear hx hu hxl
        have c1 : (0 : Int) ≤ (k : Int) := by omega
        have c2 : (k : Int) < (m : Int) := by omega
        by_cases h1 : lo ≤ k
        · have d1 : (lo : Int) ≤ (k : Int) := by omega
          by_cases h2 : k < T
          · have d2 : (k : Int) < (T : Int) := by omega
            have HX := Lib.hid (fun W => by have := HX.out W; rwa [decide_eq_true (show lo ≤ k ∧ k < T from ⟨h1, h2⟩)] at this)
            go_wp2_with fail
            refine (HX.out _).mono ?_
            rintro e wx ⟨rfl, hbx⟩
            go_wp2
            refine ⟨?_, by simp [intOf]; omega⟩
            first
              | exact ⟨k + 1, by go_num, by omega, hbr.trans (hbx.mono hbr.size)⟩
              | ((repeat apply Exists.intro); refine ⟨?_, rfl⟩; exact ⟨k + 1, by go_num, by omega, hbr.trans (hbx.mono hbr.size)⟩)
          · have d2 : ¬ (k : Int) < (T : Int) := by omega
            have HX := Lib.hid (fun W => by have := HX.out W; rwa [decide_eq_false (show ¬ (lo ≤ k ∧ k < T) from fun h => h2 h.2)] at this)
            go_wp2_with fail
            refine (HX.out _).mono ?_
            rintro e wx ⟨rfl, hbx⟩
            go_wp2
            refine ⟨?_, by simp [intOf]; omega⟩
            first
              | exact ⟨k + 1, by go_num, by omega, hbr.trans (hbx.mono hbr.size)⟩
              | ((repeat apply Exists.intro); refine ⟨?_, rfl⟩; exact ⟨k + 1, by go_num, by omega, hbr.trans (hbx.mono hbr.size)⟩)
        · have d1 : ¬ (lo : Int) ≤ (k : Int) := by omega
          have HX := Lib.hid (fun W => by have := HX.out W; rwa [decide_eq_false (show ¬ (lo ≤ k ∧ k < T) from fun h => h1 h.1)] at this)
          go_wp2_with fail
          refine (HX.out _).mono ?_
          rintro e wx ⟨rfl, hbx⟩
          go_wp2
          refine ⟨?_, by simp [intOf]; omega⟩
          first
            | exact ⟨k + 1, by go_num, by omega, hbr.trans (hbx.mono hbr.size)⟩
            | ((repeat apply Exists.intro); refine ⟨?_, rfl⟩; exact ⟨k + 1, by go_num, by omega, hbr.trans (hbx.mono hbr.size)⟩)
      · have hkm : k = m := by omega
        subst hkm
        go_wp2
        go_ret
        exact ⟨rfl, hb06.trans (hbr.mono hb06.size)⟩
end Go.Proofs.Ytnanleopoedgfaa
