/-
  NameSorted.
-/
import Derived.Test.YtnanleopoedgfaaSorted0
import Derived.Test.YtnanleopoedgfaaAwake
set_option linter.unusedSimpArgs false
set_option linter.unusedVariables false
namespace Go.Proofs.Ytnanleopoedgfaa
open Go.RowKit
attribute [local go_sem ↓] Go.wp_at_zero Go.wp_at_succ

theorem ix_facts (k t k0 r : Nat) (ht : t < 256) (hk : k ≤ 80) (hr : (k * 7 + t) % k0 = r) :
    wrap64 (t : Int) = (t : Int) ∧ wrap64 ((k : Int) * 7 + (t : Int)) = (k : Int) * 7 + (t : Int) ∧ Int.tmod ((k : Int) * 7 + (t : Int)) (k0 : Int) = (r : Int) := by
  refine ⟨IntWalk.wrap64_in _ (by omega), IntWalk.wrap64_in _ (by omega), ?_⟩
  rw [← hr, show ((k : Int) * 7 + (t : Int)) = ((k * 7 + t : Nat) : Int) by omega]
  exact (Int.ofNat_tmod _ k0).symm
/-- A slice of names that is known. -/
def Own (w : World) (v : Value) (O : List Bs) : Prop := ∃ A c, v = .slice A O.length c ∧ Cells w A (O.map strV)
theorem Own.below {w w' : World} {v : Value} {O : List Bs} (h : Own w v O) (hb : Below w.heap.size w w') : Own w' v O := by
  obtain ⟨A, c, rfl, hc⟩ := h
  exact ⟨A, c, rfl, hc.below hb⟩
theorem Own.nil (w : World) : Own w (.slice none 0 0) [] := ⟨none, 0, rfl, cells_nil' w none⟩

set_option maxRecDepth 100000 in
set_option maxHeartbeats 8000000 in
theorem NameSorted_any (a : Option Addr) (n cap t p : Nat) (ns : List Nat) (w : World) (hn : ns.length = n) (hm : n ≤ maxLen) (hcap : n ≤ cap) (hcm : cap ≤ maxLen) (hp : ∀ x ∈ ns, x < 65536) (ht : t < 256) (hp16 : p < 65536) (hc : Cells w a (ns.map u16V)) :
    Calls Try.prog 8 #[.slice a n cap, .int .u8 t, .int .u16 p] w fun e w' => e = .returned (.bool true) ∧ Below w.heap.size w w' := by
  have HA := Lib.hid (fun W => awake_any W)
  have HM := Lib.hid (fun W (h : Cells W a (ns.map u16V)) => mades_any a n cap ns W hn hm hcap hcm hp h)
  have HO := Lib.hid (fun (A : Option Addr) (c : Nat) (W : World) (h : Cells W A ((madesB ns).map strV)) => Of_mades A (madesB ns).length c ns W rfl h)
  have HP := Lib.hid (fun W => Made_any p W hp16)
  have hsr := madeB_right p
  obtain ⟨_, _, hset, h40⟩ := ofL_mades ns
  have hk40 := madesB_len ns
  have hKr := madesB_right ns
  obtain ⟨k0, hk0⟩ : ∃ k, (madesB ns).length = k := ⟨_, rfl⟩
  rw [hk0] at HM HO hk40
  obtain ⟨K, hK⟩ : ∃ K, madesB ns = K := ⟨_, rfl⟩
  rw [hK] at HM HO hset h40 hKr hk0
  have hmemS := ofB_mem K
  have hSK : (ofB K).length ≤ k0 := by rw [← hk0]; exact ofB_len K
  obtain ⟨S, hS⟩ : ∃ S, ofB K = S := ⟨_, rfl⟩
  rw [hS] at HO hset h40 hmemS hSK
  obtain ⟨m, hm'⟩ : ∃ m, S.length = m := ⟨_, rfl⟩
  rw [hm'] at HO h40 hSK
  obtain ⟨s, hs⟩ : ∃ s, madeB p = s := ⟨_, rfl⟩
  rw [hs] at HP hsr
  have hsort := sorted_of hset
  have hshort := setB_short hset
  have HSet := Lib.hid (fun (A : Option Addr) (c : Nat) (W : World) (h : Cells W A (S.map strV)) => (Set_any A m c S W hm' (by omega) (fun p hp => by have := hshort p hp; omega) h : Calls _ _ _ _ _))
  have Hset := Lib.hid hset
  have HKS := Lib.hid hmemS
  have HKr := Lib.hid hKr
  have Hk0 := Lib.hid hk0
  have Hm := Lib.hid hm'
  have Hc := Lib.hid hc
  have Hsort := Lib.hid hsort
  have Hsr := Lib.hid hsr
  -- what Add makes of a list of such names
  have HAdd := Lib.hid (fun (O : List Bs) (hO : SortedL O) (hOS : ∀ z ∈ O, z ∈ S) (x : Bs) (hx : rightB x = true) (A : Option Addr) (q c : Nat) (hq : O.length = q) (W : World) (h : Cells W A (O.map strV)) =>
    Add_set A q c O x (setB_sub hO hset hOS) (by have := sorted_len hO hsort hOS; omega) hx hq W h)
  clear hn hm hcap hcm hp hp16 hc hk0 hK hS hm' hs hset hmemS hKr hsort hshort hsr
  have wr0 : IntKind.i64.wrap (2 * (k0 : Int)) = 2 * (k0 : Int) := IntWalk.i64_in _ (by omega)
  have q2 : ¬ (k0 : Int) < (m : Int) := by omega
  have e2 : decide (k0 < m) = false := decide_eq_false (by omega)
  have e6 : decide ((k0 : Int) < (m : Int)) = false := decide_eq_false (by omega)
  go_enter Try.func8, Try.ntmps8
  go_wp2_with fail
  refine (HA.out _).mono ?_
  rintro e w1 ⟨rfl, hb1⟩
  go_wp2_with fail
  refine (HM.out _ (Hc.out.below hb1)).mono ?_
  rintro e w2 ⟨v, rfl, hrow, hb2⟩
  have hb02 := hb1.trans (hb2.mono hb1.size)
  obtain ⟨A2, c2, rfl, _, _, _, hc2, _⟩ := ownsRow_cells hrow
  have Hc2 := Lib.hid hc2
  clear hrow hc2 hb1 hb2
  go_wp2_with fail
  refine (HO.out _ _ _ Hc2.out).mono ?_
  rintro e w3 ⟨v, rfl, hrow, hb3⟩
  have hb03 := hb02.trans (hb3.mono hb02.size)
  obtain ⟨A3, c3, rfl, _, _, _, hc3, _⟩ := ownsRow_cells hrow
  have Hc3 := Lib.hid hc3
  have Hc2 := Lib.hid (Hc2.out.below hb3)
  clear hrow hc3 hb02 hb3
  go_wp2_with fail
  refine (HSet.out _ _ _ Hc3.out).mono ?_
  rintro e w4 ⟨rfl, hb4⟩
  rw [Hset.out]
  have Hc3 := Lib.hid (Hc3.out.below hb4)
  have Hc2 := Lib.hid (Hc2.out.below hb4)
  have hb04 := hb03.trans (hb4.mono hb03.size)
  clear hb03 hb4
  go_wp2
  go_loopw [9, 10, 11, 61] (fun e own _ i wr => ∃ (k : Nat) (O : List Bs), k ≤ 2 * k0 ∧ i = .int .i64 k ∧ (∃ E : Int, e = .int .i64 E) ∧ Hid (Own wr own O ∧ SortedL O ∧ ∀ z ∈ O, z ∈ S) ∧ Below w4.heap.size w4 wr) (fun _ _ _ i _ => 2 * k0 - (intOf i).toNat)
  case atStart => exact ⟨0, [], Nat.zero_le _, rfl, ⟨_, rfl⟩, ⟨Own.nil _, List.Pairwise.nil, fun z hz => by simp at hz⟩, Below.refl _ _⟩
  case round =>
    obtain ⟨k, O, hk, rfl, ⟨E, rfl⟩, hO, hbr⟩ := hrel
    by_cases hlt : k < 2 * k0
    · obtain ⟨r, hr⟩ : ∃ r, (k * 7 + t) % k0 = r := ⟨_, rfl⟩
      have hrk : r < k0 := by rw [← hr]; exact Nat.mod_lt _ (by omega)
      obtain ⟨t5, t4, t2⟩ := ix_facts k t k0 r ht (by omega) hr
      have c1 : (0 : Int) ≤ (r : Int) := by omega
      have c2' : (r : Int) < (k0 : Int) := by omega
      have hkz : ¬ (k0 : Int) = 0 := by omega
      obtain ⟨x, hx⟩ : ∃ x, K[r]? = some x := ⟨_, List.getElem?_eq_getElem (by rw [Hk0.out]; exact hrk)⟩
      have hxK := List.mem_of_getElem? hx
      obtain ⟨b2, off2, hA2, hcx⟩ := (Hc2.out.below hbr).at (k := r) (x := strV x) (by simp [hx])
      rw [strV] at hcx
      obtain ⟨⟨A, c, rfl, hcO⟩, hOs, hOS⟩ := hO.out
      have hxr : rightB x = true := List.all_eq_true.1 HKr.out x hxK
      have HX := Lib.hid (HAdd.out O hOs hOS x hxr A O.length c rfl wr hcO)
      have hxS := (HKS.out x).2 hxK
      have hnew : Hid (SortedL (insB x O) ∧ ∀ z ∈ insB x O, z ∈ S) := ⟨insB_sorted x O hOs, fun z hz => by
        rcases (insB_mem x z O).1 hz with rfl | h
        · exact hxS
        · exact hOS z h⟩
      obtain ⟨ol, hol⟩ : ∃ ol, O.length = ol := ⟨_, rfl⟩
      rw [hol] at HX ⊢
      subst hA2
      clear hr hx hxK hxr hxS hcO hOs hOS hol hO
      go_wp2_with fail
      refine HX.out.mono ?_
      rintro e wx ⟨A', c', rfl, hc', hbx⟩
      have HO' := Lib.hid hc'
      clear hc' HX
      go_wp2
      refine ⟨?_, by simp [intOf]; omega⟩
      first
        | exact ⟨k + 1, insB x O, by omega, by go_num, ⟨_, rfl⟩, ⟨⟨A', c', rfl, HO'.out⟩, hnew.out⟩, hbr.trans (hbx.mono hbr.size)⟩
        | ((repeat apply Exists.intro); refine ⟨?_, rfl⟩; exact ⟨k + 1, insB x O, by omega, by go_num, ⟨_, rfl⟩, ⟨⟨A', c', rfl, HO'.out⟩, hnew.out⟩, hbr.trans (hbx.mono hbr.size)⟩)
    · have hk2 : k = 2 * k0 := by omega
      subst hk2
      have Hc2 := Lib.hid (Hc2.out.below hbr)
      have Hc3 := Lib.hid (Hc3.out.below hbr)
      have hb05 := hb04.trans (hbr.mono hb04.size)
      have HO1 := Lib.hid hO.out
      clear hbr hb04 hO hlt hk
      go_wp2
      go_loopw [9, 10, 13, 15, 85] (fun e own _ _ i wq => ∃ (k : Nat) (O : List Bs), k ≤ k0 ∧ i = .int .i64 k ∧ (∃ E : Int, e = .int .i64 E) ∧ Hid (Own wq own O ∧ SortedL O ∧ (∀ z ∈ O, z ∈ S) ∧ ∀ z ∈ K.take k, z ∈ O) ∧ Below wr.heap.size wr wq) (fun _ _ _ _ i _ => k0 - (intOf i).toNat)
      case atStart => exact ⟨0, O, Nat.zero_le _, rfl, ⟨_, rfl⟩, ⟨HO1.out.1, HO1.out.2.1, HO1.out.2.2, fun z hz => by simp at hz⟩, Below.refl _ _⟩
      case round =>
        obtain ⟨k, O2, hk, rfl, ⟨E2, rfl⟩, hO2, hbq⟩ := hrel
        by_cases hlt : k < k0
        · obtain ⟨x, hx⟩ : ∃ x, K[k]? = some x := ⟨_, List.getElem?_eq_getElem (by rw [Hk0.out]; exact hlt)⟩
          have hxK := List.mem_of_getElem? hx
          obtain ⟨b2, off2, hA2, hcx⟩ := (Hc2.out.below hbq).at (k := k) (x := strV x) (by simp [hx])
          rw [strV] at hcx
          obtain ⟨⟨A, c, rfl, hcO⟩, hOs, hOS, hOK⟩ := hO2.out
          have hxr : rightB x = true := List.all_eq_true.1 HKr.out x hxK
          have HX := Lib.hid (HAdd.out O2 hOs hOS x hxr A O2.length c rfl wr hcO)
          have hxS := (HKS.out x).2 hxK
          have HF := Lib.hid (fun (A : Option Addr) (c : Nat) (W : World) => Find_mem A m c S x Hset.out hxr Hm.out true (decide_eq_true hxS) (lowN S x) rfl W)
          have hnew : Hid (SortedL (insB x O2) ∧ (∀ z ∈ insB x O2, z ∈ S) ∧ ∀ z ∈ K.take (k + 1), z ∈ insB x O2) := ⟨insB_sorted x O2 hOs, fun z hz => by
            rcases (insB_mem x z O2).1 hz with rfl | h
            · exact hxS
            · exact hOS z h, fun z hz => by
            rw [List.take_add_one, hx] at hz
            rw [insB_mem]
            rcases List.mem_append.1 hz with h | h
            · exact .inr (hOK z h)
            · exact .inl (by simpa using h)⟩
          obtain ⟨ol, hol⟩ : ∃ ol, O2.length = ol := ⟨_, rfl⟩
          rw [hol] at HX ⊢
          subst hA2
          have Hc3 := Lib.hid (Hc3.out.below hbq)
          obtain ⟨lo, hlo⟩ : ∃ lo, lowN S x = lo := ⟨_, rfl⟩
          rw [hlo] at HF
          clear hx hxK hxr hxS hcO hOs hOS hOK hol hlo hO2
          go_wp2_with fail
          refine HX.out.mono ?_
          rintro e wx ⟨A', c', rfl, hc', hbx⟩
          have HO' := Lib.hid hc'
          have Hc3 := Lib.hid (Hc3.out.below hbx)
          have hbqx := hbq.trans (hbx.mono hbq.size)
          clear hc' HX hbq hbx
          go_wp2_with fail
          refine (HF.out _ _ _ Hc3.out).mono ?_
          rintro e wy ⟨rfl, hby⟩
          have HO' := Lib.hid (HO'.out.below hby)
          have hbqy := hbqx.trans (hby.mono hbqx.size)
          clear HF hby
          go_wp2
          refine ⟨?_, by simp [intOf]; omega⟩
          first
            | exact ⟨k + 1, insB x O2, by omega, by go_num, ⟨_, rfl⟩, ⟨⟨A', c', rfl, HO'.out⟩, hnew.out⟩, hbqy⟩
            | ((repeat apply Exists.intro); refine ⟨?_, rfl⟩; exact ⟨k + 1, insB x O2, by omega, by go_num, ⟨_, rfl⟩, ⟨⟨A', c', rfl, HO'.out⟩, hnew.out⟩, hbqy⟩)
        · have hkk : k = k0 := by omega
          subst hkk
          have Hc2 := Lib.hid (Hc2.out.below hbq)
          have Hc3 := Lib.hid (Hc3.out.below hbq)
          have hb06 := hb05.trans (hbq.mono hb05.size)
          have hO2' := hO2.out
          rw [List.take_of_length_le (by rw [Hk0.out]; exact Nat.le_refl _)] at hO2'
          obtain ⟨⟨A, c, rfl, hcO⟩, hOs, hOS, hOK⟩ := hO2'
          have hOe : O2 = S := sorted_ext _ _ hOs Hsort.out (fun z => ⟨hOS z, fun hz => hOK z ((HKS.out z).1 hz)⟩)
          rw [hOe] at hcO
          rw [hOe, Hm.out]
          have HcO := Lib.hid hcO
          clear hcO hOs hOS hOK hO2 hbq hb05 hlt hk hOe
          go_wp2
          go_loopw [16, 17, 18, 19, 20, 21, 22, 24, 108] (fun _ _ _ _ _ _ _ _ i wv => ∃ k : Nat, k ≤ m ∧ i = .int .i64 k ∧ Below wr.heap.size wr wv) (fun _ _ _ _ _ _ _ _ i _ => m - (intOf i).toNat)
          case atStart => exact ⟨0, Nat.zero_le _, rfl, Below.refl _ _⟩
          case round =>
            obtain ⟨k1, hk, rfl, hbv⟩ := hrel
            by_cases hlt : k1 < m
            · have hkS : k1 < S.length := by rw [Hm.out]; exact hlt
              obtain ⟨x, hxe⟩ : ∃ x, S[k1] = x := ⟨_, rfl⟩
              have hx : S[k1]? = some x := by rw [List.getElem?_eq_getElem hkS, hxe]
              have hxS := List.mem_of_getElem? hx
              have hxr : rightB x = true := by have := setB_right Hset.out k1 hkS; rwa [getD_lt hkS, hxe] at this
              have hlo : lowN S x = k1 := by rw [← hxe]; exact lowN_self Hset.out hkS
              obtain ⟨b3, off3, hA3, hcx⟩ := (Hc3.out.below hbv).at (k := k1) (x := strV x) (by simp [hx])
              rw [strV] at hcx
              have HF := Lib.hid (fun (A : Option Addr) (c : Nat) (W : World) => Find_mem A m c S x Hset.out hxr Hm.out true (decide_eq_true hxS) k1 hlo W)
              have hxin : Hid (decide (x ∈ K) = true) := decide_eq_true ((HKS.out x).1 hxS)
              have HY := Lib.hid (fun (h0 : 0 < k1) => show ∃ y, S[k1 - 1]? = some y ∧ ∀ W, Calls Try.prog 13 #[.string (bs y), .string (bs x)] W (NumPost (-1) 0 W) by
                have hj : k1 - 1 < S.length := by omega
                refine ⟨S[k1 - 1], List.getElem?_eq_getElem hj, fun W => ?_⟩
                have hyr : rightB S[k1 - 1] = true := by have := setB_right Hset.out (k1 - 1) hj; rwa [getD_lt hj] at this
                have h := Compare_two S[k1 - 1] x (by have := rightB_len hyr; omega) (by have := rightB_len hxr; omega) W
                have ho : ordN S[k1 - 1] x = -1 := by
                  have h1 := setB_incr Hset.out (k1 - 1) k1 (by omega) hkS
                  rw [getD_lt hj, getD_lt hkS, hxe] at h1
                  have := ordN_val S[k1 - 1] x
                  omega
                rw [show cmpN S[k1 - 1] x = -1 by unfold cmpN; rw [hyr, hxr, ho]; rfl, show errN (rightB S[k1 - 1] && rightB x) = 0 by rw [hyr, hxr]; rfl] at h
                exact h)
              have Hc3' := Lib.hid (Hc3.out.below hbv)
              have Hc2' := Lib.hid (Hc2.out.below hbv)
              subst hA3
              clear hxe hx hxS hxr hlo hkS
              go_wp2_with fail
              refine (HF.out _ _ _ Hc3'.out).mono ?_
              rintro e wx ⟨rfl, hbx⟩
              have Hc3' := Lib.hid (Hc3'.out.below hbx)
              have Hc2' := Lib.hid (Hc2'.out.below hbx)
              have hbvx := hbv.trans (hbx.mono hbv.size)
              have g0 : ((k1 : Int) != (k1 : Int)) = false := by simp
              clear HF hbx hbv
              by_cases h0 : 0 < k1
              · obtain ⟨y, hy, HC⟩ := HY.out h0
                obtain ⟨b3', off3', hA3', hcy⟩ := Hc3'.out.at (k := k1 - 1) (x := strV y) (by simp [hy])
                cases hA3'
                rw [strV] at hcy
                have HC := Lib.hid HC
                have g1 : (0 : Int) < (k1 : Int) := by omega
                obtain ⟨j1, hj1⟩ : ∃ j, k1 = j + 1 := ⟨k1 - 1, by omega⟩
                have hcy' : wx.cell? ⟨b3, off3 + j1, none⟩ = some (.string (bs y)) := by rw [hj1] at hcy; simpa using hcy
                have hj2 : ((k1 : Int) - 1) = (j1 : Int) := by omega
                have hjm : j1 < m := by omega
                clear hy hcy HY hj1
                go_wp2_with fail
                refine (HC.out _).mono ?_
                rintro e wy ⟨rfl, hby⟩
                have Hc2' := Lib.hid (Hc2'.out.below hby)
                have hbvy := hbvx.trans (hby.mono hbvx.size)
                clear HC hby hbvx hcy'
                have hbEND := hbvy
                go_wp2
                go_loop [22, 24, 146] (fun th _ i => ∃ j : Nat, j ≤ k ∧ i = .int .i64 j ∧ th = .bool (decide (x ∈ K.take j))) (fun _ _ i => k - (intOf i).toNat)
                case atStart => exact ⟨0, Nat.zero_le _, rfl, by simp⟩
                case round =>
                  obtain ⟨j, hj, rfl, rfl⟩ := hrel
                  by_cases hjl : j < k
                  · obtain ⟨z, hz⟩ : ∃ z, K[j]? = some z := ⟨_, List.getElem?_eq_getElem (by rw [Hk0.out]; exact hjl)⟩
                    obtain ⟨b2, off2, hA2, hcz⟩ := Hc2'.out.at (k := j) (x := strV z) (by simp [hz])
                    rw [strV] at hcz
                    have hnx : Hid (decide (x ∈ K.take (j + 1)) = (decide (x ∈ K.take j) || decide (x = z))) := by
                      unfold Hid
                      rw [List.take_add_one, hz, Bool.eq_iff_iff]; simp
                    have d1 : ((bs x).toList == (bs z).toList) = decide (x = z) := by rw [toList_eq, toList_eq, toList_bs, toList_bs, Bool.eq_iff_iff]; simp
                    obtain ⟨q1, hq1⟩ : ∃ q, decide (x ∈ K.take j) = q := ⟨_, rfl⟩
                    obtain ⟨q2, hq2⟩ : ∃ q, decide (x = z) = q := ⟨_, rfl⟩
                    rw [hq1, hq2] at hnx
                    rw [hq2] at d1
                    rw [hq1]
                    subst hA2
                    clear hz hq1 hq2
                    cases q1 with
                    | true =>
                      go_wp2
                      go_round
                      case rel => exact ⟨j + 1, by omega, by go_num, by rw [hnx.out]; rfl⟩
                      case measure => simp [intOf]; omega
                    | false =>
                      go_wp2
                      go_round
                      case rel => exact ⟨j + 1, by omega, by go_num, by rw [hnx.out]; rfl⟩
                      case measure => simp [intOf]; omega
                  · have hjk : j = k := by omega
                    subst hjk
                    have hall : decide (x ∈ K.take j) = true := by rw [List.take_of_length_le (by rw [Hk0.out]; exact Nat.le_refl _)]; exact hxin.out
                    rw [hall]
                    clear hall
                    go_wp2
                    refine ⟨?_, by simp [intOf]; omega⟩
                    first
                      | exact ⟨k1 + 1, by omega, by go_num, hbEND⟩
                      | ((repeat apply Exists.intro); refine ⟨?_, by repeat (first | exact rfl | refine And.intro rfl ?_)⟩; exact ⟨k1 + 1, by omega, by go_num⟩)
              · have g1 : ¬ (0 : Int) < (k1 : Int) := by omega
                clear HY
                have hbEND := hbvx
                go_wp2
                go_loop [22, 24, 146] (fun th _ i => ∃ j : Nat, j ≤ k ∧ i = .int .i64 j ∧ th = .bool (decide (x ∈ K.take j))) (fun _ _ i => k - (intOf i).toNat)
                case atStart => exact ⟨0, Nat.zero_le _, rfl, by simp⟩
                case round =>
                  obtain ⟨j, hj, rfl, rfl⟩ := hrel
                  by_cases hjl : j < k
                  · obtain ⟨z, hz⟩ : ∃ z, K[j]? = some z := ⟨_, List.getElem?_eq_getElem (by rw [Hk0.out]; exact hjl)⟩
                    obtain ⟨b2, off2, hA2, hcz⟩ := Hc2'.out.at (k := j) (x := strV z) (by simp [hz])
                    rw [strV] at hcz
                    have hnx : Hid (decide (x ∈ K.take (j + 1)) = (decide (x ∈ K.take j) || decide (x = z))) := by
                      unfold Hid
                      rw [List.take_add_one, hz, Bool.eq_iff_iff]; simp
                    have d1 : ((bs x).toList == (bs z).toList) = decide (x = z) := by rw [toList_eq, toList_eq, toList_bs, toList_bs, Bool.eq_iff_iff]; simp
                    obtain ⟨q1, hq1⟩ : ∃ q, decide (x ∈ K.take j) = q := ⟨_, rfl⟩
                    obtain ⟨q2, hq2⟩ : ∃ q, decide (x = z) = q := ⟨_, rfl⟩
                    rw [hq1, hq2] at hnx
                    rw [hq2] at d1
                    rw [hq1]
                    subst hA2
                    clear hz hq1 hq2
                    cases q1 with
                    | true =>
                      go_wp2
                      go_round
                      case rel => exact ⟨j + 1, by omega, by go_num, by rw [hnx.out]; rfl⟩
                      case measure => simp [intOf]; omega
                    | false =>
                      go_wp2
                      go_round
                      case rel => exact ⟨j + 1, by omega, by go_num, by rw [hnx.out]; rfl⟩
                      case measure => simp [intOf]; omega
                  · have hjk : j = k := by omega
                    subst hjk
                    have hall : decide (x ∈ K.take j) = true := by rw [List.take_of_length_le (by rw [Hk0.out]; exact Nat.le_refl _)]; exact hxin.out
                    rw [hall]
                    clear hall
                    go_wp2
                    refine ⟨?_, by simp [intOf]; omega⟩
                    first
                      | exact ⟨k1 + 1, by omega, by go_num, hbEND⟩
                      | ((repeat apply Exists.intro); refine ⟨?_, by repeat (first | exact rfl | refine And.intro rfl ?_)⟩; exact ⟨k1 + 1, by omega, by go_num⟩)
            · have hkm : m = k1 := by omega
              subst hkm
              have Hc3 := Lib.hid (Hc3.out.below hbv)
              have HcO := Lib.hid (HcO.out.below hbv)
              have hb07 := hb06.trans (hbv.mono hb06.size)
              have HS0 := Lib.hid (same_l A A3 m c c3 S Hm.out (by omega) wr HcO.out Hc3.out)
              clear hbv hb06 hlt hk
              obtain ⟨b, hb⟩ : ∃ q, decide (s ∈ S) = q := ⟨_, rfl⟩
              have HF := Lib.hid (Find_mem A3 m c3 S s Hset.out Hsr.out Hm.out b hb (lowN S s) rfl)
              have HAd := Lib.hid (Add_set A3 m c3 S s Hset.out (by omega) Hsr.out Hm.out)
              have hids := ins_del (s := s) Hsort.out
              have hW0 := insB_sorted s S Hsort.out
              have hW2 : s ∈ insB s S := (insB_mem s s S).2 (.inl rfl)
              have hW3 : (insB s S).length ≤ 41 := by have := insB_len s S; rw [Hm.out] at this; omega
              have hW4 : setB (insB s S) = true := setB_of hW0 (fun y hy => by
                rcases (insB_mem s y S).1 hy with rfl | h
                · exact Hsr.out
                · exact setB_allR' Hset.out y h) (by omega)
              have hW5 : decide (insB s S = S) = b := by rw [← hb]; exact decide_eq_decide.2 (insB_same Hsort.out)
              obtain ⟨W1, hW1⟩ : ∃ q, insB s S = q := ⟨_, rfl⟩
              rw [hW1] at HAd hids hW0 hW2 hW3 hW4 hW5
              have hD0 := delB_sorted s W1 hW0
              have hD1 : ∀ z ∈ delB s W1, z ∈ W1 := fun z hz => ((delB_mem s z W1).1 hz).1
              have hD2 : s ∉ delB s W1 := fun h => ((delB_mem s s W1).1 h).2 rfl
              have hD3 := setB_sub hD0 hW4 hD1
              have hD4 := sorted_len hD0 hW0 hD1
              have HDr := Lib.hid (fun (A : Option Addr) (c : Nat) => Drop_in A W1.length c W1 s hW4 Hsr.out hW2 rfl)
              obtain ⟨D, hD⟩ : ∃ q, delB s W1 = q := ⟨_, rfl⟩
              rw [hD] at HDr hids hD2 hD3 hD4
              have HDo := Lib.hid (fun (A : Option Addr) (c : Nat) => Drop_out A D.length c D s hD3 Hsr.out hD2 rfl)
              have HAd2 := Lib.hid (fun (A : Option Addr) (c : Nat) => Add_set A D.length c D s hD3 (by omega) Hsr.out rfl)
              rw [hids.2] at HAd2
              have hDS : b = false → D = S := fun h => hids.1 (by rw [h] at hb; exact of_decide_eq_false hb)
              have HSW := Lib.hid (fun (A A' : Option Addr) (c c' : Nat) (W : World) (h : Cells W A (W1.map strV)) (h' : Cells W A' (S.map strV)) => SameTexts_any A A' W1.length m c c' W1 S W rfl Hm.out (by omega) (by omega) h h')
              have HSD := Lib.hid (fun (hb0 : b = false) (A A' : Option Addr) (c c' : Nat) (W : World) (h : Cells W A (D.map strV)) (h' : Cells W A' (S.map strV)) => SameTexts_any A A' D.length m c c' D S W rfl Hm.out (by omega) (by omega) h h')
              have HSB := Lib.hid (fun (A A' : Option Addr) (c c' : Nat) (W : World) (h : Cells W A (W1.map strV)) (h' : Cells W A' (W1.map strV)) => same_l A A' W1.length c c' W1 rfl (by omega) W h h')
              have HDS := Lib.hid hDS
              obtain ⟨lW, hlW⟩ : ∃ q, W1.length = q := ⟨_, rfl⟩
              obtain ⟨lD, hlD⟩ : ∃ q, D.length = q := ⟨_, rfl⟩
              obtain ⟨lo, hlo⟩ : ∃ q, lowN S s = q := ⟨_, rfl⟩
              have HSW := Lib.hid (fun (A A' : Option Addr) (c c' : Nat) (W : World) (h : Cells W A (W1.map strV)) (h' : Cells W A' (S.map strV)) => by have := HSW.out A A' c c' W h h'; rwa [hW5] at this)
              rw [hlW] at HAd HDr HSW HSB HAd2
              rw [hlD] at HDr HDo HAd2 HSD
              rw [hlo] at HF
              clear hb hids hW0 hW2 hW3 hW4 hW5 hW1 hD0 hD1 hD2 hD3 hD4 hD hDS hlW hlD hlo
              go_wp2_with fail
              refine HS0.out.mono ?_
              rintro e x1 ⟨rfl, hx1⟩
              have Hc3 := Lib.hid (Hc3.out.below hx1)
              have hb08 := hb07.trans (hx1.mono hb07.size)
              clear hx1 hb07 HS0
              go_wp2_with fail
              refine (HP.out _).mono ?_
              rintro e x2 ⟨rfl, hx2⟩
              have Hc3 := Lib.hid (Hc3.out.below hx2)
              have hb09 := hb08.trans (hx2.mono hb08.size)
              clear hx2 hb08
              go_wp2_with fail
              refine (HF.out _ Hc3.out).mono ?_
              rintro e x3 ⟨rfl, hx3⟩
              have Hc3 := Lib.hid (Hc3.out.below hx3)
              have hb10 := hb09.trans (hx3.mono hb09.size)
              clear hx3 hb09
              go_wp2_with fail
              refine (HAd.out _ Hc3.out).mono ?_
              rintro e x4 ⟨A4, c4, rfl, hc4, hx4⟩
              have Hc4 := Lib.hid hc4
              have Hc3 := Lib.hid (Hc3.out.below hx4)
              have hb11 := hb10.trans (hx4.mono hb10.size)
              clear hx4 hb10 hc4
              go_wp2_with fail
              refine (HDr.out _ _ _ Hc4.out).mono ?_
              rintro e x5 ⟨A5, c5, rfl, hc5, hx5⟩
              have Hc5 := Lib.hid hc5
              have Hc4 := Lib.hid (Hc4.out.below hx5)
              have Hc3 := Lib.hid (Hc3.out.below hx5)
              have hb12 := hb11.trans (hx5.mono hb11.size)
              clear hx5 hb11 hc5
              go_wp2_with fail
              refine (HDo.out _ _ _ Hc5.out).mono ?_
              rintro e x6 ⟨A6, c6, rfl, hc6, hx6⟩
              have Hc5 := Lib.hid (Hc5.out.below hx6)
              have Hc4 := Lib.hid (Hc4.out.below hx6)
              have Hc3 := Lib.hid (Hc3.out.below hx6)
              have hb13 := hb12.trans (hx6.mono hb12.size)
              clear hx6 hb12 hc6
              go_wp2_with fail
              refine (HSW.out _ _ _ _ _ Hc4.out Hc3.out).mono ?_
              rintro e x7 ⟨rfl, hx7⟩
              have Hc5 := Lib.hid (Hc5.out.below hx7)
              have Hc4 := Lib.hid (Hc4.out.below hx7)
              have Hc3 := Lib.hid (Hc3.out.below hx7)
              have hb14 := hb13.trans (hx7.mono hb13.size)
              clear hx7 hb13
              cases b with
              | true =>
                go_wp2_with fail
                refine (HAd2.out _ _ _ Hc5.out).mono ?_
                rintro e x9 ⟨A9, c9, rfl, hc9, hx9⟩
                have Hc9 := Lib.hid hc9
                have Hc4 := Lib.hid (Hc4.out.below hx9)
                have hb15 := hb14.trans (hx9.mono hb14.size)
                clear hx9 hc9
                go_wp2_with fail
                refine (HSB.out _ _ _ _ _ Hc9.out Hc4.out).mono ?_
                rintro e x10 ⟨rfl, hx10⟩
                have hb16 := hb15.trans (hx10.mono hb15.size)
                clear hx10
                go_wp2
                go_ret
                exact ⟨rfl, hb16⟩
              | false =>
                have HSE : Hid (∀ (A A' : Option Addr) (c c' : Nat) (W : World), Cells W A (D.map strV) → Cells W A' (S.map strV) → Calls Try.prog 22 #[.slice A lD c, .slice A' m c'] W fun e w' => e = .returned (.bool true) ∧ Below W.heap.size W w') := fun A A' c c' W h h' => by
                  have := HSD.out rfl A A' c c' W h h'
                  rwa [decide_eq_true (HDS.out rfl)] at this
                clear HSD
                go_wp2_with fail
                refine (HSE.out _ _ _ _ _ Hc5.out Hc3.out).mono ?_
                rintro e x8 ⟨rfl, hx8⟩
                have Hc5 := Lib.hid (Hc5.out.below hx8)
                have Hc4 := Lib.hid (Hc4.out.below hx8)
                have hb14 := hb14.trans (hx8.mono hb14.size)
                clear hx8
                go_wp2_with fail
                refine (HAd2.out _ _ _ Hc5.out).mono ?_
                rintro e x9 ⟨A9, c9, rfl, hc9, hx9⟩
                have Hc9 := Lib.hid hc9
                have Hc4 := Lib.hid (Hc4.out.below hx9)
                have hb15 := hb14.trans (hx9.mono hb14.size)
                clear hx9 hc9
                go_wp2_with fail
                refine (HSB.out _ _ _ _ _ Hc9.out Hc4.out).mono ?_
                rintro e x10 ⟨rfl, hx10⟩
                have hb16 := hb15.trans (hx10.mono hb15.size)
                clear hx10
                go_wp2
                go_ret
                exact ⟨rfl, hb16⟩
end Go.Proofs.Ytnanleopoedgfaa
