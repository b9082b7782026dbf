/-
  NameOrder: for any three small numbers it returns true.
-/
import Derived.Test.YtnanleopoedgfaaGlue
import Derived.Deep.DeepCutAuto
namespace Go.Proofs.Ytnanleopoedgfaa
open Go.RowKit

theorem Compare_right (a b : Bs) (h1 : rightB a = true) (h2 : rightB b = true) (W : World) :
    Calls Try.prog 13 #[.string (bs a), .string (bs b)] W fun e w' => e = .returned (.tuple #[.int .i64 (ordN a b), .int .i64 0]) ∧ Below W.heap.size W w' := by
  have l1 := rightB_len h1
  have l2 := rightB_len h2
  have h := Compare_any (bs a) (bs b) W (by rw [size_bs]; omega) (by rw [size_bs]; omega)
  rw [toList_bs, toList_bs, h1, h2] at h
  exact h

set_option maxRecDepth 100000 in
set_option maxHeartbeats 4000000 in
theorem NameOrder_any (p q r : Nat) (w : World) (hp : p < 65536) (hq : q < 65536) (hr : r < 65536) :
    Calls Try.prog 4 #[.int .u16 p, .int .u16 q, .int .u16 r] w fun e w' => e = .returned (.bool true) ∧ Below w.heap.size w w' := by
  have MA := Lib.hid (fun W => Made_any p W hp)
  have MB := Lib.hid (fun W => Made_any q W hq)
  have MC := Lib.hid (fun W => Made_any r W hr)
  have ra := madeB_right p
  have rb := madeB_right q
  have rc := madeB_right r
  have hparts := madeB_parts p
  have la := madeB_len p
  have lb := madeB_len q
  have lc := madeB_len r
  obtain ⟨a, ha⟩ : ∃ a, madeB p = a := ⟨_, rfl⟩
  obtain ⟨b, hb⟩ : ∃ a, madeB q = a := ⟨_, rfl⟩
  obtain ⟨c, hc⟩ : ∃ a, madeB r = a := ⟨_, rfl⟩
  rw [ha] at MA ra hparts la
  rw [hb] at MB rb lb
  rw [hc] at MC rc lc
  have C1 := Compare_right a b ra rb
  have C2 := Compare_right b a rb ra
  have C3 := Compare_right b c rb rc
  have C4 := Compare_right a c ra rc
  have hyx := ordN_cmp.anti a b
  have hx0 := ordN_cmp.eq a b
  have htr1 : ordN a b ≤ 0 → ordN b c ≤ 0 → ordN a c ≤ 0 := ordN_cmp.le_trans
  have htr2 : 0 ≤ ordN a b → 0 ≤ ordN b c → 0 ≤ ordN a c := fun h1 h2 => by
    have k1 := ordN_cmp.anti a b
    have k2 := ordN_cmp.anti b c
    have k3 := ordN_cmp.anti a c
    have := ordN_cmp.le_trans (a := c) (b := b) (c := a) (by omega) (by omega)
    omega
  have hxv := ordN_val a b
  have hzv := ordN_val b c
  have hvv := ordN_val a c
  have hunder : underB a b = true → 0 ≤ ordN a b := under_ord
  have htop : ordN a b ≤ 0 → ordN b c ≤ 0 → underB c (topB a) = true → underB b (topB a) = true := fun h1 h2 h3 => top_between rb h1 h2 h3
  have htrans : underB a b = true → underB c a = true → underB c b = true := under_trans
  have hab : ((bs a).toList == (bs b).toList) = decide (ordN a b = 0) := by
    rw [toList_eq, toList_eq, toList_bs, toList_bs, Bool.eq_iff_iff]; simp [hx0]
  obtain ⟨x, hx⟩ : ∃ x, ordN a b = x := ⟨_, rfl⟩
  obtain ⟨y, hy⟩ : ∃ x, ordN b a = x := ⟨_, rfl⟩
  obtain ⟨z, hz⟩ : ∃ x, ordN b c = x := ⟨_, rfl⟩
  obtain ⟨v, hv⟩ : ∃ x, ordN a c = x := ⟨_, rfl⟩
  rw [hx] at C1 hyx htr1 htr2 hxv hunder htop hab
  rw [hy] at C2 hyx
  rw [hz] at C3 htr1 htr2 hzv htop
  rw [hv] at C4 htr1 htr2 hvv
  have P1 := Parts_yes (bs a)
  rw [toList_bs] at P1
  have hcl := cut_length a
  have hplen : ∀ p ∈ cut a, p.length ≤ 1000 := fun p hp => by have := cut_head_len a p hp; omega
  have htl := topB_len a
  have hjoin : ∀ (A : Option Addr) (cap n : Nat) (W : World), (cut a).length = n → n ≤ cap → Cells W A ((cut a).map strV) → (∀ b off s, A = some ⟨b, off, s⟩ → b < W.heap.size) → Calls Try.prog 15 #[.slice A n cap] W fun e w' => e = .returned (.tuple #[.string (bs a), .int .i64 0]) ∧ Below W.heap.size W w' := fun A cap n W hn hcap hcl2 hA => by
    refine (Join_any A n cap (cut a) W hn (by omega) hcap hplen hcl2 hA).mono ?_
    rintro e w' ⟨rfl, hb⟩
    rw [joinOk_cut ra, joinB_cut]
    exact ⟨rfl, hb⟩
  have U : ∀ s t : Bs, s.length ≤ 1000 → t.length ≤ 1000 → ∀ W, Calls Try.prog 16 #[.string (bs s), .string (bs t)] W fun e w' => e = .returned (.bool (underB s t)) ∧ Below W.heap.size W w' := fun s t hs ht W => by
    have h := Under_any (bs s) (bs t) W (by rw [size_bs]; omega) (by rw [size_bs]; omega)
    rw [toList_bs, toList_bs] at h
    exact h
  have U1 := U a b (by omega) (by omega)
  have U2 := U c (topB a) (by omega) (by omega)
  have U3 := U b (topB a) (by omega) (by omega)
  have U4 := U c a (by omega) (by omega)
  have U5 := U c b (by omega) (by omega)
  obtain ⟨u, hu⟩ : ∃ x, underB a b = x := ⟨_, rfl⟩
  obtain ⟨t1, ht1⟩ : ∃ x, underB c (topB a) = x := ⟨_, rfl⟩
  obtain ⟨t2, ht2⟩ : ∃ x, underB b (topB a) = x := ⟨_, rfl⟩
  obtain ⟨m1, hm1⟩ : ∃ x, underB c a = x := ⟨_, rfl⟩
  obtain ⟨m2, hm2⟩ : ∃ x, underB c b = x := ⟨_, rfl⟩
  rw [hu] at U1 hunder htrans
  rw [ht1] at U2 htop
  rw [ht2] at U3 htop
  rw [hm1] at U4 htrans
  rw [hm2] at U5 htrans
  have hs1 : (bs a).size ≤ 100000 := by rw [size_bs]; omega
  have K1 := Lib.hid C1
  have K2 := Lib.hid C2
  have K3 := Lib.hid C3
  have K4 := Lib.hid C4
  have KP := Lib.hid (fun W => P1 W hs1 ra)
  have KJ := Lib.hid hjoin
  have V1 := Lib.hid U1
  have V2 := Lib.hid U2
  have V3 := Lib.hid U3
  have V4 := Lib.hid U4
  have V5 := Lib.hid U5
  have Hux := Lib.hid hunder
  have Htop := Lib.hid htop
  have Htr := Lib.hid htrans
  have T1 := Lib.hid htr1
  have T2 := Lib.hid htr2
  have Hyx := Lib.hid hyx
  have Hab := Lib.hid hab
  have Hxv := Lib.hid hxv
  have Hzv := Lib.hid hzv
  have Hvv := Lib.hid hvv
  have Hpt := Lib.hid hparts
  have Htg := Lib.hid (topB_get a)
  have b1 : x ≤ 1 := by omega
  have b2 : -1 ≤ x := by omega
  have b3 : z ≤ 1 := by omega
  have b4 : -1 ≤ z := by omega
  clear C1 C2 C3 C4 P1 hjoin U U1 U2 U3 U4 U5 hunder htop htrans htr1 htr2 hyx hab hx0 hxv hzv hvv hparts ha hb hc hx hy hz hv hu ht1 ht2 hm1 hm2 hcl hplen htl ra rb rc la lb lc
  go_enter Try.func4, Try.ntmps4
  go_wp2_with fail
  refine (awake_any _).mono ?_
  rintro e w1 ⟨rfl, h1⟩
  go_wp2_with fail
  refine (MA.out _).mono ?_
  rintro e w2 ⟨rfl, h2⟩
  go_wp2_with fail
  refine (MB.out _).mono ?_
  rintro e w3 ⟨rfl, h3⟩
  go_wp2_with fail
  refine (MC.out _).mono ?_
  rintro e w4 ⟨rfl, h4⟩
  go_wp2_with fail
  refine (K1.out _).mono ?_
  rintro e w5 ⟨rfl, h5⟩
  go_wp2_with fail
  refine (K2.out _).mono ?_
  rintro e w6 ⟨rfl, h6⟩
  go_wp2_with fail
  refine (K3.out _).mono ?_
  rintro e w7 ⟨rfl, h7⟩
  go_wp2_with fail
  refine (K4.out _).mono ?_
  rintro e w8 ⟨rfl, h8⟩
  have hB8 : Below w.heap.size w w8 := by
    have s1 := h1.size; have s2 := h2.size; have s3 := h3.size; have s4 := h4.size; have s5 := h5.size; have s6 := h6.size; have s7 := h7.size
    exact ((((((h1.trans (h2.mono s1)).trans (h3.mono (by omega))).trans (h4.mono (by omega))).trans (h5.mono (by omega))).trans (h6.mono (by omega))).trans (h7.mono (by omega))).trans (h8.mono (by omega))
  clear h1 h2 h3 h4 h5 h6 h7 h8 MA MB MC K1 K2 K3 K4
  go_wp2_with fail
  refine (KP.out _).mono ?_
  rintro e w9 ⟨vl, rfl, hrow, h9⟩
  obtain ⟨A, cap, rfl, hcap, _, _, hcells, _, hA⟩ := ownsRow_cells hrow
  obtain ⟨n, hn⟩ : ∃ n, (cut a).length = n := ⟨_, rfl⟩
  rw [hn] at hcap
  have HJn := Lib.hid (KJ.out A cap n w9 hn hcap hcells (fun b off s h => (hA b off s h).2))
  have hn13 : 1 ≤ n ∧ n ≤ 3 := by have := Hpt.out; omega
  obtain ⟨n1, n3⟩ := hn13
  have Hn := Lib.hid hn
  have Hcl := Lib.hid hcells
  have hB9 := hB8.trans (h9.mono hB8.size)
  clear hrow hcells hA h9 hB8 KJ KP Hpt
  rw [Hn.out]
  clear hn
  go_wp2_with fail
  refine HJn.out.mono ?_
  rintro e w10 ⟨rfl, h10⟩
  have Hcl' := Lib.hid (Hcl.out.below h10)
  have hB10 := hB9.trans (h10.mono hB9.size)
  clear h10 hB9 Hcl HJn
  go_upto_region 10 with (fail)
  have nn1 : ¬ (n : Int) < 1 := by omega
  have nn2 : ¬ (3 : Int) < (n : Int) := by omega
  have dself : ((bs a).toList == (bs a).toList) = true := by simp
  go_cut [130] (fun s wx => s = .bool false ∧ wx = w10)
  case first =>
    have hyx := Hyx.out
    have t1 := T1.out
    have t2 := T2.out
    subst hyx
    have hab : ((bs a).toList == (bs b).toList) = (x == 0) := by rw [Hab.out, Bool.eq_iff_iff]; simp
    clear Hux Htop Htr T1 T2 Hab Hxv Hzv Hvv
    go_wp2
    all_goals go_meet
    all_goals refine ⟨?_, rfl⟩
    all_goals first
      | rfl
      | (refine congrArg Value.bool ?_; simp; omega)
  case rest =>
    obtain ⟨rfl, rfl⟩ := hcut
    clear Hyx T1 T2 Hab dself Hn
    obtain ⟨g, off, rfl, hc0⟩ := Hcl'.out.at (k := 0) (x := strV (topB a)) (by simp [Htg.out])
    rw [strV, Nat.add_zero] at hc0
    clear Hcl'
    have e1 : ∃ u', u' = u := ⟨_, rfl⟩
    cases u with
    | false =>
      go_wp2_with fail
      refine (V1.out _).mono ?_
      rintro e u11 ⟨rfl, k11⟩
      have hU11 := hB10.trans (k11.mono hB10.size)
      have hc1 := Below.keep k11 hc0
      clear hB10 V1 hc0 k11
      by_cases gx : x ≤ 0
      · by_cases gz : z ≤ 0
        · cases t1 with
          | false =>
            go_wp2_with fail
            refine (V2.out _).mono ?_
            rintro e u12 ⟨rfl, k12⟩
            have hU12 := hU11.trans (k12.mono hU11.size)
            go_wp2
            go_ret
            exact ⟨(by first | rfl | trivial), hU12⟩
          | true =>
            have ht2 := Htop.out gx gz (by trivial)
            subst ht2
            go_wp2_with fail
            refine (V2.out _).mono ?_
            rintro e u12 ⟨rfl, k12⟩
            have hU12 := hU11.trans (k12.mono hU11.size)
            go_wp2_with fail
            refine (V3.out _).mono ?_
            rintro e u13 ⟨rfl, k13⟩
            have hU13 := hU12.trans (k13.mono hU12.size)
            go_wp2
            go_ret
            exact ⟨(by first | rfl | trivial), hU13⟩
        · have gz' : 0 < z := by omega
          clear gz
          go_wp2
          go_ret
          exact ⟨(by first | rfl | trivial), hU11⟩
      · have gx' : 0 < x := by omega
        clear gx
        go_wp2
        go_ret
        exact ⟨(by first | rfl | trivial), hU11⟩
    | true =>
      have hx0 : 0 ≤ x := Hux.out (by trivial)
      go_wp2_with fail
      refine (V1.out _).mono ?_
      rintro e u11 ⟨rfl, k11⟩
      have hU11 := hB10.trans (k11.mono hB10.size)
      have hc1 := Below.keep k11 hc0
      clear hB10 V1 hc0 k11
      by_cases gx : x ≤ 0
      · by_cases gz : z ≤ 0
        · cases t1 with
          | false =>
            go_wp2_with fail
            refine (V2.out _).mono ?_
            rintro e u12 ⟨rfl, k12⟩
            have hU12 := hU11.trans (k12.mono hU11.size)
            cases m1 with
            | false =>
              go_wp2_with fail
              refine (V4.out _).mono ?_
              rintro e u13 ⟨rfl, k13⟩
              have hU13 := hU12.trans (k13.mono hU12.size)
              go_wp2_with fail
              refine (V4.out _).mono ?_
              rintro e u14 ⟨rfl, k14⟩
              have hU14 := hU13.trans (k14.mono hU13.size)
              go_wp2
              go_ret
              exact ⟨(by first | rfl | trivial), hU14⟩
            | true =>
              have hm2 := Htr.out (by trivial) (by trivial)
              subst hm2
              go_wp2_with fail
              refine (V4.out _).mono ?_
              rintro e u13 ⟨rfl, k13⟩
              have hU13 := hU12.trans (k13.mono hU12.size)
              go_wp2_with fail
              refine (V4.out _).mono ?_
              rintro e u14 ⟨rfl, k14⟩
              have hU14 := hU13.trans (k14.mono hU13.size)
              go_wp2_with fail
              refine (V5.out _).mono ?_
              rintro e u15 ⟨rfl, k15⟩
              have hU15 := hU14.trans (k15.mono hU14.size)
              go_wp2
              go_ret
              exact ⟨(by first | rfl | trivial), hU15⟩
          | true =>
            have ht2 := Htop.out gx gz (by trivial)
            subst ht2
            go_wp2_with fail
            refine (V2.out _).mono ?_
            rintro e u12 ⟨rfl, k12⟩
            have hU12 := hU11.trans (k12.mono hU11.size)
            go_wp2_with fail
            refine (V3.out _).mono ?_
            rintro e u13 ⟨rfl, k13⟩
            have hU13 := hU12.trans (k13.mono hU12.size)
            cases m1 with
            | false =>
              go_wp2_with fail
              refine (V4.out _).mono ?_
              rintro e u14 ⟨rfl, k14⟩
              have hU14 := hU13.trans (k14.mono hU13.size)
              go_wp2_with fail
              refine (V4.out _).mono ?_
              rintro e u15 ⟨rfl, k15⟩
              have hU15 := hU14.trans (k15.mono hU14.size)
              go_wp2
              go_ret
              exact ⟨(by first | rfl | trivial), hU15⟩
            | true =>
              have hm2 := Htr.out (by trivial) (by trivial)
              subst hm2
              go_wp2_with fail
              refine (V4.out _).mono ?_
              rintro e u14 ⟨rfl, k14⟩
              have hU14 := hU13.trans (k14.mono hU13.size)
              go_wp2_with fail
              refine (V4.out _).mono ?_
              rintro e u15 ⟨rfl, k15⟩
              have hU15 := hU14.trans (k15.mono hU14.size)
              go_wp2_with fail
              refine (V5.out _).mono ?_
              rintro e u16 ⟨rfl, k16⟩
              have hU16 := hU15.trans (k16.mono hU15.size)
              go_wp2
              go_ret
              exact ⟨(by first | rfl | trivial), hU16⟩
        · have gz' : 0 < z := by omega
          clear gz
          cases m1 with
          | false =>
            go_wp2_with fail
            refine (V4.out _).mono ?_
            rintro e u12 ⟨rfl, k12⟩
            have hU12 := hU11.trans (k12.mono hU11.size)
            go_wp2_with fail
            refine (V4.out _).mono ?_
            rintro e u13 ⟨rfl, k13⟩
            have hU13 := hU12.trans (k13.mono hU12.size)
            go_wp2
            go_ret
            exact ⟨(by first | rfl | trivial), hU13⟩
          | true =>
            have hm2 := Htr.out (by trivial) (by trivial)
            subst hm2
            go_wp2_with fail
            refine (V4.out _).mono ?_
            rintro e u12 ⟨rfl, k12⟩
            have hU12 := hU11.trans (k12.mono hU11.size)
            go_wp2_with fail
            refine (V4.out _).mono ?_
            rintro e u13 ⟨rfl, k13⟩
            have hU13 := hU12.trans (k13.mono hU12.size)
            go_wp2_with fail
            refine (V5.out _).mono ?_
            rintro e u14 ⟨rfl, k14⟩
            have hU14 := hU13.trans (k14.mono hU13.size)
            go_wp2
            go_ret
            exact ⟨(by first | rfl | trivial), hU14⟩
      · have gx' : 0 < x := by omega
        clear gx
        cases m1 with
        | false =>
          go_wp2_with fail
          refine (V4.out _).mono ?_
          rintro e u12 ⟨rfl, k12⟩
          have hU12 := hU11.trans (k12.mono hU11.size)
          go_wp2_with fail
          refine (V4.out _).mono ?_
          rintro e u13 ⟨rfl, k13⟩
          have hU13 := hU12.trans (k13.mono hU12.size)
          go_wp2
          go_ret
          exact ⟨(by first | rfl | trivial), hU13⟩
        | true =>
          have hm2 := Htr.out (by trivial) (by trivial)
          subst hm2
          go_wp2_with fail
          refine (V4.out _).mono ?_
          rintro e u12 ⟨rfl, k12⟩
          have hU12 := hU11.trans (k12.mono hU11.size)
          go_wp2_with fail
          refine (V4.out _).mono ?_
          rintro e u13 ⟨rfl, k13⟩
          have hU13 := hU12.trans (k13.mono hU12.size)
          go_wp2_with fail
          refine (V5.out _).mono ?_
          rintro e u14 ⟨rfl, k14⟩
          have hU14 := hU13.trans (k14.mono hU13.size)
          go_wp2
          go_ret
          exact ⟨(by first | rfl | trivial), hU14⟩
end Go.Proofs.Ytnanleopoedgfaa
