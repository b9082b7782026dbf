/- SpaceWrong: the statement: for any slice of small numbers and any numbers the law returns true, and the arguments read as before; no condition. -/
import Derived.Test.YtkchpngkmchamaaJb2
set_option linter.unusedSimpArgs false
set_option linter.unusedVariables false

/-
  SpaceWrong.
-/
namespace Go.Proofs.Ytkchpngkmchamaa
open Go.RowKit Go.Maps
attribute [local go_sem ↓] Go.wp_at_zero Go.wp_at_succ

set_option maxRecDepth 100000 in
set_option maxHeartbeats 4000000 in
theorem SpaceWrong_any {w : World} {u : Value} {xs : List Sm3} (hu : SmallsAt w u xs) (n : Int) (hn : -9223372036854775808 ≤ n ∧ n ≤ 9223372036854775807) (y : Int) (hy : 0 ≤ y ∧ y < 256) :
    Calls Try.prog 3 #[u, .int .i64 n, .int .u8 y] w fun e w' => e = .returned (.bool true) ∧ Fr0 none' w w' := by
  obtain ⟨hn1, hn2⟩ := hn
  obtain ⟨hy1, hy2⟩ := hy
  obtain ⟨i, hi⟩ : ∃ i : Nat, y % 5 = i := ⟨(y % 5).toNat, by omega⟩
  have hi5 : i < 5 := by omega
  have hi0 : (0 : Int) ≤ i := by omega
  have hi6 : (i : Int) < 5 := by omega
  obtain ⟨hbw, hbl⟩ := badB_wrong i hi5
  go_enter Try.func3, Try.ntmps3
  go_wp2_with fail
  refine (sawake_any _).mono ?_
  rintro e w1 ⟨rfl, hf1⟩
  have F1 := Lib.hid hf1
  clear hf1
  go_wp2_with fail
  refine (smade_any (hu.later F1.out)).mono ?_
  rintro e w2 ⟨sb, mb, nv, nx, L, rfl, hS, hG⟩
  have S := Lib.hid (hS.base F1.out)
  have G := Lib.hid hG
  clear hS hG F1
  go_wp2_with fail
  refine (all_st S.out).mono ?_
  rintro e w3 ⟨u, rfl, hu3, hf⟩
  have S := Lib.hid (S.out.later hf)
  obtain ⟨ua, uc, rfl, _⟩ := hu3.row
  have U := Lib.hid hu3
  obtain ⟨l, hl⟩ : ∃ l, L.length = l := ⟨_, rfl⟩
  have Hl := Lib.hid hl
  rw [hl] at U ⊢
  clear hu hu3 hf hl
  go_wp2_with fail
  refine (SNext_is S.out.is).mono ?_
  rintro e w4 ⟨rfl, rfl⟩
  obtain ⟨W, hW⟩ : ∃ W, w3.alloc (.cells #[.string ⟨#[]⟩, .string ⟨#[65]⟩, .string ⟨#[97, 46]⟩, .string ⟨#[97, 46, 46, 98]⟩, .string ⟨#[45]⟩] 9) = W := ⟨_, rfl⟩
  have fW : Fr0 none' w3 W := by rw [← hW]; exact (Fr0.refl _ _).alloc _
  have cb : W.cell? ⟨w3.heap.size, i, none⟩ = some (.string (bs (badB i))) := bad_cell hi5 (by rw [← hW]; exact World.alloc_heap_new w3 _)
  have S := Lib.hid (S.out.later fW)
  have U := Lib.hid (U.out.later fW)
  obtain ⟨b, hb⟩ : ∃ b, badB i = b := ⟨_, rfl⟩
  rw [hb] at cb hbw hbl
  have Hbw := Lib.hid hbw
  have Hbl := Lib.hid hbl
  clear fW hb hbw hbl
  go_wp2_with fail
  clear hW
  have HC := open_st S.out b (by have := Hbl.out; omega) 0
  have hE : openE 10 nx L b 0 = 40 := openE_bad Hbw.out
  obtain ⟨k1, k2, k3⟩ := openL_not (by rw [hE]; decide)
  rw [hE, k1, k2, k3] at HC
  refine HC.mono ?_
  rintro e w5 ⟨rfl, nv5, hS, hst⟩
  have U := Lib.hid (U.out.step hst)
  have S := Lib.hid hS
  clear HC hE k1 k2 k3 hS hst
  go_wp2_with fail
  have HC := find_st S.out b (by have := Hbl.out; omega)
  obtain ⟨⟨z1, z2, z3⟩, hz⟩ : ∃ p, findP L b = p := ⟨_, rfl⟩
  rw [hz, show findE L b = 40 by unfold findE; rw [if_pos Hbw.out]] at HC
  refine HC.mono ?_
  rintro e w6 ⟨rfl, hf⟩
  simp only [ptV]
  have S := Lib.hid (S.out.later (hf.alloc (.cells #[.int .i64 z1, .string (bs z2), .int .i64 z3] 35)))
  have U := Lib.hid (U.out.later (hf.alloc (.cells #[.int .i64 z1, .string (bs z2), .int .i64 z3] 35)))
  obtain ⟨W, hW⟩ : ∃ W, w6.alloc (.cells #[.int .i64 z1, .string (bs z2), .int .i64 z3] 35) = W := ⟨_, rfl⟩
  rw [hW] at S U
  clear HC hz hf
  go_wp2_with fail
  clear hW
  have HC := under_st S.out b (by have := Hbl.out; omega)
  rw [show underE b = 40 by unfold underE; rw [if_neg (by rw [Hbw.out]; simp)]] at HC
  refine HC.mono ?_
  rintro e w7 ⟨v, rfl, hv, hf⟩
  obtain ⟨va, vc, rfl, _⟩ := hv.row
  have S := Lib.hid (S.out.later hf)
  have U := Lib.hid (U.out.later hf)
  clear HC hv hf
  obtain ⟨m1, hm1⟩ : ∃ m, min n 0 = m := ⟨_, rfl⟩
  obtain ⟨m2, hm2⟩ : ∃ m, max n 17 = m := ⟨_, rfl⟩
  have M1 := Lib.hid (show ∀ v, v = m1 ∨ v = m2 → v < 1 ∨ 16 < v by intro v hv; omega)
  go_wp2_with fail
  obtain ⟨W, hW⟩ : ∃ W, w7.alloc (.cells #[.int .i64 m1, .int .i64 m2] 3) = W := ⟨_, rfl⟩
  obtain ⟨KB, hKB⟩ : ∃ X, w7.heap.size = X := ⟨_, rfl⟩
  have U := Lib.hid (show PRow W sb mb nv5 (.slice ua l uc) L from hW ▸ U.out.later ((Fr0.refl none' w7).alloc (.cells #[.int .i64 m1, .int .i64 m2] 3)))
  have S := Lib.hid (show SpSt w W sb mb nv5 10 nx L [(KB, .cells #[.int .i64 m1, .int .i64 m2] 3 (0, 0))] from hW ▸ hKB ▸ S.out.alloc _)
  rw [hW]
  try rw [hKB]
  clear hW hKB
  go_loopw [90] (fun i wr => ∃ (k : Nat) (nv : Value), k ≤ 2 ∧ i = .int .i64 k ∧ Hid (SpSt w wr sb mb nv 10 nx L [(KB, .cells #[.int .i64 m1, .int .i64 m2] 3 (0, 0))]) ∧ Hid (PRow wr sb mb nv (.slice ua l uc) L)) (fun i _ => 2 - (Go.RowKit.intOf i).toNat)
  case atStart => exact ⟨0, _, Nat.zero_le _, rfl, S, U⟩
  case round =>
    clear S U hm1 hm2
    obtain ⟨k, nv, hk, rfl, S, U⟩ := hrel
    by_cases hlt : k < 2
    · obtain ⟨v, hv, cv⟩ := two_cell hlt (S.out.ex _ (List.mem_cons_self ..)).1
      have hv := M1.out v hv
      have p1 : (0 : Int) ≤ (k : Int) := by omega
      have p2 : (k : Int) < 2 := by omega
      go_wp2_with fail
      have HC := open_st S.out [97] (by decide) v
      have hE : openE 10 nx L [97] v = 2 := openE_arg (by decide) hv
      obtain ⟨k1, k2, k3⟩ := openL_not (by rw [hE]; decide)
      rw [hE, k1, k2, k3] at HC
      refine HC.mono ?_
      rintro e w5 ⟨rfl, nv5, hS, hst⟩
      have U := Lib.hid (U.out.step hst)
      have S := Lib.hid hS
      clear HC hE k1 k2 k3 hS hst cv
      go_wp2_with fail
      have HC := of_st S.out v
      rw [of_none S.out.is.ok hv] at HC
      refine HC.mono ?_
      rintro e w6 ⟨v, rfl, hu, hf⟩
      obtain ⟨va, vc, rfl, _⟩ := hu.row
      have S := Lib.hid (S.out.later hf)
      have U := Lib.hid (U.out.later hf)
      rw [List.length_nil]
      clear HC hu hf
      go_wp2
      go_roundw
      case rel => exact ⟨k + 1, _, by omega, by go_num, S, U⟩
      case measure => simp [Go.RowKit.intOf]; omega
    · have hk2 : k = 2 := by omega
      subst hk2
      rw [show ((2 : Nat) : Int) = 2 from rfl]
      obtain ⟨m3, hm3⟩ : ∃ m, min n 49 = m := ⟨_, rfl⟩
      obtain ⟨m4, hm4⟩ : ∃ m, max n nx = m := ⟨_, rfl⟩
      have M2 := Lib.hid (show ∀ v, v = m3 ∨ v = m4 → (v ≤ 49 ∨ nx ≤ v) ∧ (-9223372036854775808 ≤ v ∧ v ≤ 9223372036854775807) by have := S.out.is.ok.nxt; intro v hv; omega)
      go_wp2_with fail
      obtain ⟨W, hW⟩ : ∃ W, wr.alloc (.cells #[.int .i64 m3, .int .i64 m4] 3) = W := ⟨_, rfl⟩
      obtain ⟨KB, hKB⟩ : ∃ X, wr.heap.size = X := ⟨_, rfl⟩
      have U := Lib.hid (show PRow W sb mb nv (.slice ua l uc) L from hW ▸ U.out.later ((Fr0.refl none' wr).alloc (.cells #[.int .i64 m3, .int .i64 m4] 3)))
      have S := Lib.hid (show SpSt w W sb mb nv 10 nx L [(KB, .cells #[.int .i64 m3, .int .i64 m4] 3 (0, 0))] from hW ▸ hKB ▸ (S.out.alloc _).less (fun x hx => by simp at hx; simp [hx]))
      rw [hW]
      try rw [hKB]
      clear hW hKB
      go_loopw [117] (fun i wr => ∃ (k : Nat) (nv : Value), k ≤ 2 ∧ i = .int .i64 k ∧ Hid (SpSt w wr sb mb nv 10 nx L [(KB, .cells #[.int .i64 m3, .int .i64 m4] 3 (0, 0))]) ∧ Hid (PRow wr sb mb nv (.slice ua l uc) L)) (fun i _ => 2 - (Go.RowKit.intOf i).toNat)
      case atStart => exact ⟨0, _, Nat.zero_le _, rfl, S, U⟩
      case round =>
        clear S U hm3 hm4
        obtain ⟨k, nv, hk, rfl, S, U⟩ := hrel
        by_cases hlt : k < 2
        · obtain ⟨v, hv, cv⟩ := two_cell hlt (S.out.ex _ (List.mem_cons_self ..)).1
          obtain ⟨hv, hvr⟩ := M2.out v hv
          have p1 : (0 : Int) ≤ (k : Int) := by omega
          have p2 : (k : Int) < 2 := by omega
          have Hat := Lib.hid (at_none S.out.is.ok G.out hv)
          have Hvr := Lib.hid hvr
          clear hv hvr
          go_wp2_with fail
          have HC := get_st S.out v Hvr.out
          obtain ⟨⟨z1, z2, z3⟩, hz⟩ : ∃ p, getP L v = p := ⟨_, rfl⟩
          have Hz := Lib.hid hz
          rw [hz, show getE L v = 6 by unfold getE; rw [Hat.out]; rfl] at HC
          refine HC.mono ?_
          rintro e w5 ⟨rfl, hf⟩
          simp only [ptV]
          obtain ⟨W, hW⟩ : ∃ W, w5.alloc (.cells #[.int .i64 z1, .string (bs z2), .int .i64 z3] 35) = W := ⟨_, rfl⟩
          have fW : Fr0 none' wr W := by rw [← hW]; exact hf.alloc _
          have S := Lib.hid (S.out.later fW)
          have U := Lib.hid (U.out.later fW)
          clear HC hz hf fW cv
          go_wp2_with fail
          clear hW
          have HC := close_st S.out v Hvr.out
          rw [Hz.out, show getE L v = 6 by unfold getE; rw [Hat.out]; rfl, delP_not Hat.out] at HC
          refine HC.mono ?_
          rintro e w6 ⟨rfl, nv6, hS, hst⟩
          simp only [ptV]
          have U := Lib.hid (U.out.step hst)
          have S := Lib.hid hS
          obtain ⟨W6, hW⟩ : ∃ W, w6.alloc (.cells #[.int .i64 z1, .string (bs z2), .int .i64 z3] 35) = W := ⟨_, rfl⟩
          have fW : Fr0 none' w6 W6 := by rw [← hW]; exact (Fr0.refl _ _).alloc _
          have S := Lib.hid (S.out.later fW)
          have U := Lib.hid (U.out.later fW)
          clear HC hS hst fW
          go_wp2_with fail
          clear hW
          have HC := rename_st S.out v Hvr.out b (by have := Hbl.out; omega)
          have hE : renE L v b = 6 := by unfold renE; rw [Hat.out]
          obtain ⟨k1, k2⟩ := renL_not (by rw [hE]; decide)
          rw [hE, k1, k2] at HC
          refine HC.mono ?_
          rintro e w7 ⟨rfl, nv7, hS, hst⟩
          have U := Lib.hid (U.out.step hst)
          have S := Lib.hid hS
          clear HC hS hst hE k1 k2
          go_wp2
          go_roundw
          case rel =>
            exact ⟨k + 1, _, by omega, by go_num, S, U⟩
          case measure => simp [Go.RowKit.intOf]; omega
        · have hk2 : k = 2 := by omega
          subst hk2
          rw [show ((2 : Nat) : Int) = 2 from rfl]
          obtain ⟨m5, hm5⟩ : ∃ m, min n (-1) = m := ⟨_, rfl⟩
          obtain ⟨m6, hm6⟩ : ∃ m, max n 4294967296 = m := ⟨_, rfl⟩
          have M3 := Lib.hid (show ∀ v, v = m5 ∨ v = m6 → v < 0 ∨ 4294967296 ≤ v by intro v hv; omega)
          by_cases hl0 : l = 0
          · subst hl0
            go_wp2_with fail
            obtain ⟨W, hW⟩ : ∃ W, wr.alloc (.cells #[.int .i64 m5, .int .i64 m6] 3) = W := ⟨_, rfl⟩
            obtain ⟨KB, hKB⟩ : ∃ X, wr.heap.size = X := ⟨_, rfl⟩
            have U := Lib.hid (show PRow W sb mb nv (.slice ua 0 uc) L from hW ▸ U.out.later ((Fr0.refl none' wr).alloc (.cells #[.int .i64 m5, .int .i64 m6] 3)))
            have S := Lib.hid (show SpSt w W sb mb nv 10 nx L [(KB, .cells #[.int .i64 m5, .int .i64 m6] 3 (0, 0))] from hW ▸ hKB ▸ (S.out.alloc _).less (fun x hx => by simp at hx; simp [hx]))
            rw [hW]
            try rw [hKB]
            clear hW hKB
            go_loopw [172] (fun i wr => ∃ k : Nat, k ≤ 2 ∧ i = .int .i64 k ∧ wr = W) (fun i _ => 2 - (Go.RowKit.intOf i).toNat)
            case atStart => exact ⟨0, Nat.zero_le _, rfl, rfl⟩
            case round =>
              clear hm5 hm6
              obtain ⟨k, hk, rfl, rfl⟩ := hrel
              by_cases hlt : k < 2
              · obtain ⟨v, hv, cv⟩ := two_cell hlt (S.out.ex _ (List.mem_cons_self ..)).1
                have hv := M3.out v hv
                have p1 : (0 : Int) ≤ (k : Int) := by omega
                have p2 : (k : Int) < 2 := by omega
                go_wp2_with fail
                refine (SNew_no v 1 _ (by omega)).mono ?_
                rintro e w7 ⟨rfl, rfl⟩
                go_wp2_with fail
                refine (SNew_no 1 v _ (by omega)).mono ?_
                rintro e w7 ⟨rfl, rfl⟩
                go_wp2
                go_roundw
                case rel => exact ⟨k + 1, by omega, by go_num, by first | rfl | trivial⟩
                case measure => simp [Go.RowKit.intOf]; omega
              · have hk2 : k = 2 := by omega
                subst hk2
                go_wp2_with fail
                refine (all_st S.out).mono ?_
                rintro e w8 ⟨u, rfl, hu2, hf⟩
                have S := Lib.hid (S.out.later hf)
                have U := Lib.hid (U.out.later hf)
                obtain ⟨va, vc, rfl, hva⟩ := hu2.row
                rw [Hl.out]
                have hua : PtsIn w8 ua L := by
                  obtain ⟨ua', uc', e1, hua⟩ := U.out.row
                  injection e1 with e1
                  subst e1
                  exact hua
                have HC := sameP_any va ua 0 0 vc uc L L w8 Hl.out Hl.out (by have := S.out.is.ok.small; have := Hl.out; omega) (by have := S.out.is.ok.small; have := Hl.out; omega) hva hua
                rw [decide_eq_true (rfl : L = L)] at HC
                clear hu2 hf hva hua
                go_wp2_with fail
                refine HC.mono ?_
                rintro e w9 ⟨rfl, hf⟩
                have S := Lib.hid (S.out.later hf)
                clear hf HC
                go_wp2_with fail
                refine (SNext_is S.out.is).mono ?_
                rintro e w4 ⟨rfl, rfl⟩
                go_wp2
                go_ret
                exact ⟨rfl, S.out.fr⟩
          · obtain ⟨p, hp⟩ : ∃ p, L[0]? = some p := ⟨_, List.getElem?_eq_getElem (by rw [Hl.out]; omega)⟩
            have hin : PtsIn wr ua L := by
              obtain ⟨ua', uc', e1, hua⟩ := U.out.row
              injection e1 with e1
              subst e1
              exact hua
            obtain ⟨g, o, rfl, d0, d1, d2⟩ := hin 0 p hp
            have hpL := Lib.hid (List.mem_of_getElem? hp)
            have hnum := S.out.is.ok.lo _ hpL.out
            have hnx := S.out.is.ok.nxt
            have hat : atP L p.number = some p := (atP_some S.out.is.ok.ord).2 ⟨hpL.out, rfl⟩
            have hE : renE L p.number b = 40 := by unfold renE; rw [hat]; simp only; rw [if_pos Hbw.out]
            obtain ⟨pa, pb, pc⟩ := p
            simp only [Nat.zero_mul, Nat.add_zero] at d0 d1 d2
            simp only at hnum hE
            clear hin hp hat
            go_wp2_with fail
            have HC := rename_st S.out pa (by omega) b (by have := Hbl.out; omega)
            obtain ⟨k1, k2⟩ := renL_not (by rw [hE]; decide)
            rw [hE, k1, k2] at HC
            refine HC.mono ?_
            rintro e w7 ⟨rfl, nv7, hS, hst⟩
            have U := Lib.hid (U.out.step hst)
            have S := Lib.hid hS
            clear HC hS hst hE k1 k2 d0 d1 d2
            go_wp2_with fail
            obtain ⟨W, hW⟩ : ∃ W, w7.alloc (.cells #[.int .i64 m5, .int .i64 m6] 3) = W := ⟨_, rfl⟩
            obtain ⟨KB, hKB⟩ : ∃ X, w7.heap.size = X := ⟨_, rfl⟩
            have U := Lib.hid (show PRow W sb mb nv7 (.slice (some ⟨g, o, none⟩) l uc) L from hW ▸ U.out.later ((Fr0.refl none' w7).alloc (.cells #[.int .i64 m5, .int .i64 m6] 3)))
            have S := Lib.hid (show SpSt w W sb mb nv7 10 nx L [(KB, .cells #[.int .i64 m5, .int .i64 m6] 3 (0, 0))] from hW ▸ hKB ▸ (S.out.alloc _).less (fun x hx => by simp at hx; simp [hx]))
            rw [hW]
            try rw [hKB]
            clear hW hKB
            go_loopw [172] (fun i wr => ∃ k : Nat, k ≤ 2 ∧ i = .int .i64 k ∧ wr = W) (fun i _ => 2 - (Go.RowKit.intOf i).toNat)
            case atStart => exact ⟨0, Nat.zero_le _, rfl, rfl⟩
            case round =>
              clear hm5 hm6
              obtain ⟨k, hk, rfl, rfl⟩ := hrel
              by_cases hlt : k < 2
              · obtain ⟨v, hv, cv⟩ := two_cell hlt (S.out.ex _ (List.mem_cons_self ..)).1
                have hv := M3.out v hv
                have p1 : (0 : Int) ≤ (k : Int) := by omega
                have p2 : (k : Int) < 2 := by omega
                go_wp2_with fail
                refine (SNew_no v 1 _ (by omega)).mono ?_
                rintro e w7 ⟨rfl, rfl⟩
                go_wp2_with fail
                refine (SNew_no 1 v _ (by omega)).mono ?_
                rintro e w7 ⟨rfl, rfl⟩
                go_wp2
                go_roundw
                case rel => exact ⟨k + 1, by omega, by go_num, by first | rfl | trivial⟩
                case measure => simp [Go.RowKit.intOf]; omega
              · have hk2 : k = 2 := by omega
                subst hk2
                go_wp2_with fail
                refine (all_st S.out).mono ?_
                rintro e w8 ⟨u, rfl, hu2, hf⟩
                have S := Lib.hid (S.out.later hf)
                have U := Lib.hid (U.out.later hf)
                obtain ⟨va, vc, rfl, hva⟩ := hu2.row
                rw [Hl.out]
                have hua : PtsIn w8 (some ⟨g, o, none⟩) L := by
                  obtain ⟨ua', uc', e1, hua⟩ := U.out.row
                  injection e1 with e1
                  subst e1
                  exact hua
                have HC := sameP_any va (some ⟨g, o, none⟩) l l vc uc L L w8 Hl.out Hl.out (by have := S.out.is.ok.small; have := Hl.out; omega) (by have := S.out.is.ok.small; have := Hl.out; omega) hva hua
                rw [decide_eq_true (rfl : L = L)] at HC
                clear hu2 hf hva hua
                go_wp2_with fail
                refine HC.mono ?_
                rintro e w9 ⟨rfl, hf⟩
                have S := Lib.hid (S.out.later hf)
                clear hf HC
                go_wp2_with fail
                refine (SNext_is S.out.is).mono ?_
                rintro e w4 ⟨rfl, rfl⟩
                go_wp2
                go_ret
                exact ⟨rfl, S.out.fr⟩
end Go.Proofs.Ytkchpngkmchamaa

namespace Go.Proofs.Ytkchpngkmchamaa.spaceWrong
open Go.ChangeShapes Go.WideShapes Go.ChangeAt Go.RowKit Go.Proofs.Ytkchpngkmchamaa

set_option maxRecDepth 100000 in
theorem lifted (os : Os) (started : os.Started) (H : Type) (enc : TypeId × Value → H) :
    ReturnsInHanded {} Try.checked os 3 .any (Rows.spaceWrongSpec.pre6 enc Try.prog Try.f3 Rows.spaceWrongRow.domain false) (Rows.spaceWrongSpec.post enc Try.prog Try.f3 false true false false) := by
  refine returnsInHanded_of_change (C := Try.checked) own_knob started (by kernel_rfl) Try.func3
    (ChangeSpec.witness6 (enc := enc) (C := Try.checked) false ⟨#[], #[.slice none 0 0, .int .i64 0, .int .u8 0], []⟩ 8 (by kernel_rfl) (by kernel_rfl) (by kernel_rfl) (by kernel_rfl)) ?_
  intro W base args ds gs before hval0 hW hcnd _
  have hval : ∀ (j : Nat) t v, Try.f3.params[j]? = some t → args[j]? = some v → Value.okWide Try.prog W .any base t v := hval0
  have hW' := hW
  obtain ⟨p, q, hA0, hV, rfl, hfz, hnd⟩ := hW
  have hA : DataW.TrodAll enc Try.prog W 0 (fun _ => true) true Try.f3.params.toList args.toList ds p := hA0
  rw [Try.params3] at hA hval
  obtain ⟨v0, vs0, d0, ds0, p0, q0, hargs, rfl, rfl, h0, r0⟩ := trodAll_cons hA
  obtain ⟨v1, vs1, d1, ds1, p1, q1, rfl, rfl, rfl, h1, r1⟩ := trodAll_cons r0
  obtain ⟨v2, vs2, d2, ds2, p2, q2, rfl, rfl, rfl, h2, r2⟩ := trodAll_cons r1
  obtain ⟨rfl, rfl, rfl⟩ := trodAll_nil r2
  obtain rfl : args = #[v0, v1, v2] := by cases args; simp_all
  obtain ⟨rfl, rfl⟩ := trodVars_none hV
  clear hA0 hval0
  simp only [List.append_nil] at hW'
  have l0 : ∀ x ∈ p0, x.block < W.heap.size := fun x hx => hW'.lt x (by simp [hx])
  have t0 := fun W' (hb : Below W.heap.size W W') => Below.trod laid_own (by kernel_rfl) (of_decide_eq_true (by kernel_rfl)) h0 hb l0
  have l1 : ∀ x ∈ p1, x.block < W.heap.size := fun x hx => hW'.lt x (by simp [hx])
  have t1 := fun W' (hb : Below W.heap.size W W') => Below.trod laid_own (by kernel_rfl) (of_decide_eq_true (by kernel_rfl)) h1 hb l1
  have l2 : ∀ x ∈ p2, x.block < W.heap.size := fun x hx => hW'.lt x (by simp [hx])
  have t2 := fun W' (hb : Below W.heap.size W W') => Below.trod laid_own (by kernel_rfl) (of_decide_eq_true (by kernel_rfl)) h2 hb l2
  obtain ⟨xs, hxs⟩ := smalls_arg (hval 0 22 v0 rfl rfl) h0
  obtain ⟨a1, rfl, _, _, w1⟩ := open_int Try.underlying3 (hval 1 3 v1 rfl rfl) h1
  obtain ⟨a2, rfl, _, _, w2⟩ := open_int Try.underlying5 (hval 2 5 v2 rfl rfl) h2
  refine (SpaceWrong_any hxs a1 (bounds_i64 w1) a2 (by have := bounds_u8 w2; omega)).mono fun e W' ⟨he, hg0⟩ => ?_
  have hg := hg0.below (Nat.le_refl _) (fun _ _ h => h)
  subst he
  exact ⟨_, rfl, post_below2 (pa := (p0 ++ (p1 ++ (p2 ++ [])))) (pv := []) hW' (fun _ _ _ => (trodAll_cons_mk (shut_bool Try.underlying4 _) trodAll_mk0)) (trodAll_cons_mk (t0 _ hg) (trodAll_cons_mk (t1 _ hg) (trodAll_cons_mk (t2 _ hg) trodAll_mk0))) (fun _ _ => rfl) hg⟩

theorem over : Rows.spaceWrongRow.holds Try.pinned (OpenSpec.ofChange Rows.spaceWrongSpec) :=
  OpenClaim.holds_of_wide 3 Try.f3 rfl rfl rfl rfl rfl rfl rfl ⟨rfl, rfl, rfl, rfl, rfl⟩ rfl rfl rfl rfl rfl (by kernel_rfl) Try.func3 (by kernel_rfl)
    (of_decide_eq_true (by kernel_rfl)) (by unfold Func.isWrapper; first | (rw [if_pos (by decide +kernel)]; kernel_rfl) | (rw [if_neg (by decide +kernel)]; exact ⟨rfl, rfl⟩))
    (fun os started H enc _ => lifted os started H enc)

theorem proved : Rows.SpaceWrongSaid := over
#print axioms proved
end Go.Proofs.Ytkchpngkmchamaa.spaceWrong
