/-
  NameFull.
-/
import Derived.Test.YtnanleopoedgfaaFullM
import Derived.Test.YtnanleopoedgfaaAppS
import Derived.Test.YtnanleopoedgfaaAwake
set_option linter.unusedSimpArgs false
set_option linter.unusedVariables false
namespace Go.Proofs.Ytnanleopoedgfaa
open Go.RowKit
attribute [local go_sem ↓] Go.wp_at_zero Go.wp_at_succ

theorem two_vals (k : Nat) (hk : k < 400) : (two k).map (fun b => Value.int .u8 (b.toNat : Int)) = [.int .u8 (97 + (k : Int) / 26), .int .u8 (97 + (k : Int) % 26)] := by
  have h1 : ((97 + k / 26).toUInt8).toNat = 97 + k / 26 := by rw [Nat.toUInt8, UInt8.toNat_ofNat']; omega
  have h2 : ((97 + k % 26).toUInt8).toNat = 97 + k % 26 := by rw [Nat.toUInt8, UInt8.toNat_ofNat']; omega
  simp only [two, List.map_cons, List.map_nil, h1, h2]
  rw [show (((97 + k / 26 : Nat)) : Int) = 97 + (k : Int) / 26 by omega, show (((97 + k % 26 : Nat)) : Int) = 97 + (k : Int) % 26 by omega]

set_option maxRecDepth 100000 in
set_option maxHeartbeats 8000000 in
theorem NameFull_any (p q : Nat) (w : World) (hp16 : p < 65536) (hq16 : q < 65536) :
    Calls Try.prog 6 #[.int .u16 p, .int .u16 q] w fun e w' => e = .returned (.bool true) ∧ Below w.heap.size w w' := by
  obtain ⟨i0, hi, hz0, hz1, hz2⟩ := info_parts info_str
  have HA := Lib.hid (fun W => awake_any W)
  obtain ⟨K, hK⟩ : ∃ K, p % 301 = K := ⟨_, rfl⟩
  have hK301 : K < 301 := by omega
  have t1 : Int.tmod (p : Int) 301 = (K : Int) := by rw [← hK]; exact (Int.ofNat_tmod p 301).symm
  clear hK
  go_enter Try.func6, Try.ntmps6
  go_wp2_with fail
  refine (HA.out _).mono ?_
  rintro e w1 ⟨rfl, hb1⟩
  go_wp2
  go_loopw [6, 7, 19] (fun o _ i wr => ∃ k : Nat, i = .int .i64 k ∧ k ≤ K ∧ wr.ownsRow w.heap.size 9 1 o k ((fullB k).map strV) ∧ Below w.heap.size w wr) (fun _ _ i _ => K - (intOf i).toNat)
  case atStart => exact ⟨0, rfl, Nat.zero_le _, World.ownsRow_nil _ _ _ _, hb1⟩
  case round =>
    obtain ⟨k, rfl, hk, hown, hb⟩ := hrel
    by_cases hlt : k < K
    · have hbyt : (two k).map (fun b => Value.int .u8 (b.toNat : Int)) = [.int .u8 (97 + (k : Int) / 26), .int .u8 (97 + (k : Int) % 26)] := two_vals k (by omega)
      have kc : (convert 44 9 (.slice (some ⟨wr.heap.size, 0, none⟩) 2 2)).run Try.prog (wr.alloc (.cells #[.int .u8 (97 + (k : Int) / 26), .int .u8 (97 + (k : Int) % 26)] 5)) = .ok (.string (bs (two k))) (wr.alloc (.cells #[.int .u8 (97 + (k : Int) / 26), .int .u8 (97 + (k : Int) % 26)] 5)) := by
        refine run_own_string (P := Try.prog) _ wr.heap.size 44 9 5 _ (two k) Try.underlying44 Try.underlying5 Try.underlying9 ?_
        rw [hbyt]
        exact World.ownsRow_lit wr _ 2 (Nat.le_refl _) (by unfold maxLen; omega) rfl
      have Hbyt := Lib.hid hbyt
      clear hbyt
      have hnew : Hid ((fullB (k + 1)).map strV = (fullB k).map strV ++ [.string (⟨#[110]⟩ ++ bs (two k))]) := by
        unfold Hid fullB
        rw [List.range_succ, List.map_append, List.map_append, List.map_singleton, List.map_singleton, strV, nmB, show (110 :: two k : Bs) = [110] ++ two k from rfl, ← bs_append]; rfl
      obtain ⟨X, hX⟩ : ∃ X, (⟨#[110]⟩ : ByteArray) ++ bs (two k) = X := ⟨_, rfl⟩
      rw [hX] at hnew
      have hrb := hb.size
      go_wp2_with (first
        | (at_builtin; refine wpList_append_own _ rfl _ _ 22 rfl w.heap.size 9 i0 (.string ⟨#[]⟩) 1 16 Try.underlying22 hi hz0 hz1 hz2 rfl (by decide) u6 k _ rfl ((hown.alloc _).alloc _) ⟨wr.heap.size + 1, 0, none⟩ 1 1 [.string X] rfl rfl (by have := cell_one_new (wr.alloc (.cells #[.int .u8 (97 + (k : Int) / 26), .int .u8 (97 + (k : Int) % 26)] 5)) (.string X) 9; simpa using this) (by simp [Value.oneCell']) (by unfold maxLen; omega) (by omega) (by simp; omega) ?_
           intro v' w2 hown'' hgrow _
           obtain ⟨g', cap', rfl⟩ := ownsRow_succ hown''
           have hb2 := ((hb.alloc hb.size (.cells #[.int .u8 (97 + (k : Int) / 26), .int .u8 (97 + (k : Int) % 26)] 5)).alloc (by simp; omega) (.cells #[.string X] 9)).grown hgrow (by simp; omega) (fun j hj => (hown.lt j hj).1))
        | (rw [hX]))
      refine ⟨?_, by simp [intOf]; omega⟩
      rw [← hnew.out] at hown''
      first
        | exact ⟨k + 1, by go_num, by omega, hown'', hb2⟩
        | ((repeat apply Exists.intro); refine ⟨?_, rfl⟩; exact ⟨k + 1, by go_num, by omega, hown'', hb2⟩)
    · have hkq : k = K := by omega
      subst hkq
      obtain ⟨A1, c1, rfl, _, _, _, hc1, _⟩ := ownsRow_cells hown
      have Hc1 := Lib.hid hc1
      clear hown hc1
      have HC := Lib.hid (CopyTexts_any A1 k c1 (fullB k) wr (fullB_len k) (by omega) Hc1.out)
      go_wp2_with fail
      refine HC.out.mono ?_
      rintro e w2 ⟨v, rfl, hrow, hb2⟩
      have Hc1' := Lib.hid (Hc1.out.below hb2)
      clear HC
      go_wp2_with (at_builtin; refine wpList_append_src rfl _ _ 22 rfl wr.heap.size 9 i0 (.string ⟨#[]⟩) 16 Try.underlying22 hi hz0 hz1 hz2 rfl v k _ rfl hrow A1 k c1 ((fullB k).map strV) rfl (by rw [List.length_map, fullB_len]) Hc1'.out (by intro u hu; obtain ⟨x, _, rfl⟩ := List.mem_map.1 hu; rfl) (by unfold maxLen; omega) (by omega) hb2.size ?_; intro v' w3 hrow3 hgrow)
      obtain ⟨A3, c3, rfl, _, _, _, hc3, _⟩ := ownsRow_cells hrow3
      have hb23 : Below wr.heap.size wr w3 := hb2.grown hgrow hb2.size (fun j hj => (hrow.lt j hj).1)
      have hb03 := hb.trans (hb23.mono hb.size)
      have Hc1 := Lib.hid (Hc1.out.below hb23)
      rw [← List.map_append] at hc3
      have HO := Of_any A3 (k + k) c3 (fullB k ++ fullB k) w3 (by rw [List.length_append, fullB_len]) (by omega) (by
        intro x hx
        have : x ∈ fullB k := by rcases List.mem_append.1 hx with h | h <;> exact h
        have := rightB_len (fullB_right (by omega) x this); omega) hc3
      rw [(fullB_ofL (k := k) (by omega)).1, (fullB_ofL (k := k) (by omega)).2] at HO
      clear hrow hrow3 hb2 hb23 hgrow Hc1' hb hc3
      have hsh : ∀ p ∈ fullB k, p.length ≤ 1000 := fun x hx => by have := rightB_len (fullB_right (by omega) x hx); omega
      have Hsh := Lib.hid hsh
      clear hsh
      by_cases hbig : 256 < k
      · have g1 : (256 : Int) < (k : Int) := by omega
        rw [if_neg (by omega), if_neg (by omega)] at HO
        have HO := Lib.hid HO
        go_wp2_with fail
        refine HO.out.mono ?_
        rintro e w4 h4
        obtain ⟨A4, c4, rfl, hc4, hb4⟩ := two_of_row h4
        have hb04 := hb03.trans (hb4.mono hb03.size)
        clear h4 hc4 hb4
        go_wp2
        go_ret
        exact ⟨rfl, hb04⟩
      · have g1 : ¬ (256 : Int) < (k : Int) := by omega
        rw [if_pos (by omega), if_pos (by omega), fullB_len] at HO
        have HO := Lib.hid HO
        go_wp2_with fail
        refine HO.out.mono ?_
        rintro e w4 h4
        obtain ⟨A4, c4, rfl, hc4, hb4⟩ := two_of_row h4
        have hb04 := hb03.trans (hb4.mono hb03.size)
        have Hc1 := Lib.hid (Hc1.out.below hb4)
        have HS := Lib.hid (same_l A4 A1 k c4 c1 (fullB k) (fullB_len k) (by omega) w4 hc4 Hc1.out)
        have Hc4 := Lib.hid hc4
        clear h4 hc4 hb4 HO hb03
        go_wp2_with fail
        refine HS.out.mono ?_
        rintro e w5 ⟨rfl, hb5⟩
        have hb05 := hb04.trans (hb5.mono hb04.size)
        have Hc1 := Lib.hid (Hc1.out.below hb5)
        have Hc4 := Lib.hid (Hc4.out.below hb5)
        have HAd := Add_any A4 k c4 (fullB k) [122, 122] w5 (fullB_len k) (by omega) Hsh.out (by decide) Hc4.out
        rw [(fullB_add (k := k) (by omega)).1, (fullB_add (k := k) (by omega)).2] at HAd
        clear hb5 HS hb04
        by_cases hlast : k < 256
        · have g2 : ((k : Int) == 256) = false := by simp; omega
          have g3 : IntKind.i64.wrap ((k : Int) + 1) = (k : Int) + 1 := IntWalk.i64_in _ (by omega)
          have g4 : (((k + 1 : Nat) : Int) == (k : Int) + 1) = true := by simp
          rw [if_pos hlast, if_pos hlast] at HAd
          have HAd := Lib.hid HAd
          go_wp2_with fail
          refine HAd.out.mono ?_
          rintro e w6 h6
          obtain ⟨A6, c6, rfl, hc6, hb6⟩ := two_of_row h6
          have hb06 := hb05.trans (hb6.mono hb05.size)
          rw [List.length_append, fullB_len]
          obtain ⟨b6, off6, rfl, hcx⟩ := hc6.at (k := k) (x := strV [122, 122]) (by rw [List.map_append, List.getElem?_append_right (by rw [List.length_map, fullB_len]; exact Nat.le_refl _), List.length_map, fullB_len, Nat.sub_self]; rfl)
          rw [strV] at hcx
          clear h6 hc6 hb6
          go_wp2
          go_ret
          exact ⟨ret_bool (by rw [toList_eq, toList_bs]; rfl), hb06⟩
        · have hk256 : k = 256 := by omega
          have g2 : ((k : Int) == 256) = true := by simp; omega
          obtain ⟨r, hr⟩ : ∃ r, q % k = r := ⟨_, rfl⟩
          have hrk : r < k := by rw [← hr]; exact Nat.mod_lt _ (by omega)
          have t4 : wrap64 (q : Int) = (q : Int) := by unfold wrap64; omega
          have t2 : Int.tmod (q : Int) (k : Int) = (r : Int) := by rw [← hr]; exact (Int.ofNat_tmod q k).symm
          have t3 : (q : Int) % (k : Int) = (r : Int) := by rw [← hr]; exact (Int.natCast_emod q k).symm
          have hkz : ¬ (k : Int) = 0 := by omega
          have c1' : (0 : Int) ≤ (r : Int) := by omega
          have c2' : (r : Int) < (k : Int) := by omega
          rw [if_neg hlast, if_neg hlast] at HAd
          have HAd := Lib.hid HAd
          have Hk := Lib.hid hk256
          have Hr := Lib.hid hrk
          clear hr hk256
          go_wp2_with fail
          refine HAd.out.mono ?_
          rintro e w6 h6
          obtain ⟨A6, c6, rfl, hc6, hb6⟩ := two_of_row h6
          have hb06 := hb05.trans (hb6.mono hb05.size)
          have Hc1 := Lib.hid (Hc1.out.below hb6)
          have Hc4 := Lib.hid (Hc4.out.below hb6)
          obtain ⟨b1, off1, rfl, hcx⟩ := Hc1.out.at (k := r) (x := strV (nmB r)) (by rw [List.getElem?_map, fullB_get Hr.out]; rfl)
          rw [strV] at hcx
          have HAg := Add_any A4 k c4 (fullB k) (nmB r) w6 (fullB_len k) (by omega) Hsh.out (by simp [nmB, two]) Hc4.out
          rw [(fullB_again (k := k) (by omega) Hr.out).1, (fullB_again (k := k) (by omega) Hr.out).2, fullB_len] at HAg
          have HAg := Lib.hid HAg
          clear h6 hc6 hb6 hb05 HAd
          go_wp2_with fail
          refine HAg.out.mono ?_
          rintro e w7 h7
          obtain ⟨A7, c7, rfl, hc7, hb7⟩ := two_of_row h7
          have hb07 := hb06.trans (hb7.mono hb06.size)
          have Hc4 := Lib.hid (Hc4.out.below hb7)
          have HS := Lib.hid (same_l A7 A4 k c7 c4 (fullB k) (fullB_len k) (by omega) w7 hc7 Hc4.out)
          clear h7 hc7 hb7 hb06 HAg hcx
          go_wp2_with fail
          refine HS.out.mono ?_
          rintro e w8 ⟨rfl, hb8⟩
          have hb08 := hb07.trans (hb8.mono hb07.size)
          go_wp2
          go_ret
          exact ⟨rfl, hb08⟩
end Go.Proofs.Ytnanleopoedgfaa
