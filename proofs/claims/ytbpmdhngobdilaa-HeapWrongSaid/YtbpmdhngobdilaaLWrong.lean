/-
  HeapWrong.
-/
import Derived.Test.YtbpmdhngobdilaaHl6
namespace Go.Proofs.Ytbpmdhngobdilaa
open Go Go.RowKit
attribute [local go_sem ↓] Go.wp_at_zero Go.wp_at_succ

theorem wrong_place (L : List Ent) (p : Int) (k : Key3) (hp : p < 0 ∨ 24 ≤ p) : errP 24 L p = 80 ∧ keyP 24 L p = zeroK ∧ delP 24 L p = L ∧ chgL 24 L p k = L ∧ putE 24 L p = 80 ∧ putL 24 L p k = L := by
  have he : errP 24 L p = 80 := by unfold errP; rw [if_pos (by omega)]
  unfold keyP delP chgL putE putL
  rw [he]
  exact ⟨rfl, rfl, rfl, rfl, rfl, rfl⟩

set_option maxRecDepth 100000 in
set_option maxHeartbeats 4000000 in
theorem HeapWrong_any {w : World} {u : Value} {xs : List Sm4} (hu : SmallsAt w u xs) (n : Int) (x : Sm4) (hx : x.ok) :
    Calls Try.prog 7 #[u, .int .i64 n, smV x] w fun e w' => e = .returned (.bool true) ∧ Below w.heap.size w w' := by
  have HU := fun (w1 : World) (hf : Fr0 none' w w1) => hu.later hf
  have HU' := Lib.hid HU
  have Hok := Lib.hid hx
  obtain ⟨⟨h0, h0'⟩, ⟨h1, h1'⟩, ⟨h2, h2'⟩, ⟨h3, h3'⟩⟩ := hx
  obtain ⟨y0, y1, y2, y3⟩ := x
  simp only at h0 h0' h1 h1' h2 h2' h3 h3'
  simp only [smV]
  clear HU hu
  obtain ⟨m1, hm1⟩ : ∃ m, min n (-1) = m := ⟨_, rfl⟩
  obtain ⟨m2, hm2⟩ : ∃ m, max n 24 = m := ⟨_, rfl⟩
  obtain ⟨m3, hm3⟩ : ∃ m, max n 4097 = m := ⟨_, rfl⟩
  have l1 : m1 < 0 := by omega
  have l2 : 24 ≤ m2 := by omega
  have l3 : 4096 < m3 := by omega
  obtain ⟨⟨ka, kb, kc⟩, hkk⟩ : ∃ kk, ofK ⟨y0, y1, y2, y3⟩ = kk := ⟨_, rfl⟩
  have HK := Lib.hid hkk
  clear hkk
  go_enter Try.func7, Try.ntmps7
  go_wp2_with fail
  refine (awake_any _).mono ?_
  rintro e w1 ⟨rfl, hf1⟩
  have F1 := Lib.hid (show Fr0 none' w w1 from (((Fr.refl none' w).alloc _).to0).trans hf1)
  have hbx : w1.heap[w.heap.size]? = some (.cells #[.int .u8 y0, .int .u8 y1, .int .u8 y2, .int .u8 y3] 36) := (hf1.block _ (by simp) id).trans (World.alloc_heap_new w _)
  have hbl := (Array.getElem?_eq_some_iff.1 hbx).1
  clear hf1
  go_wp2_with fail
  refine (made_any (HU'.out w1 F1.out)).mono ?_
  rintro e w2 ⟨hb, ba, v, L, Ks, Ts, rfl, hO, hH⟩
  have HH := Lib.hid hH
  have HO := Lib.hid (show Own w w2 hb ba v 24 L from ⟨hO.is, F1.out.trans hO.fr, fun k hk => Nat.le_trans F1.out.size (hO.new k hk)⟩)
  have lK : (cellsK Ks).length = 72 := by rw [cellsK_length, hH.kl]
  have lB : (cellsB Ts).length = 24 := by rw [cellsB, List.length_map, hH.tl]
  have g1 := start_store w2 Ks hH.kl
  have g2 := start_store2 w2 Ks Ts hH.tl
  have HX := Lib.hid (show ObjBox w2 hb ba v w.heap.size (.cells #[.int .u8 y0, .int .u8 y1, .int .u8 y2, .int .u8 y3] 36) from ⟨(hO.fr.block _ hbl id).trans hbx, fun hf => by have := hO.new _ hf; omega⟩)
  clear hO hH hbx hbl
  go_upto_region 4 with (fail)
  obtain ⟨W, hW⟩ : ∃ W, startW w2 Ks Ts = W := ⟨_, rfl⟩
  have S1 := Lib.hid (show St w W hb ba v L Ks Ts w2.heap.size (w2.heap.size + 1) [(w.heap.size, .cells #[.int .u8 y0, .int .u8 y1, .int .u8 y2, .int .u8 y3] 36)] from hW ▸ (St.start HO.out HH.out.kl HH.out.tl).add (HX.out.later (start_fr w2 Ks Ts)) (by have := HX.out.lt; omega) (by have := HX.out.lt; omega))
  clear HX
  obtain ⟨X, hX⟩ : ∃ X, w.heap.size = X := ⟨_, rfl⟩
  rw [hX] at S1
  have HX := Lib.hid hX
  clear g1 g2 lK lB
  rw [hW]
  obtain ⟨KB, hKB⟩ : ∃ KB, w2.heap.size = KB := ⟨_, rfl⟩
  rw [hKB] at S1 ⊢
  try rw [hX]
  clear hX
  clear hW hKB HO
  go_wp2_with fail
  refine (order_own S1.out.own).mono ?_
  rintro e W3 ⟨u1, rfl, hu1, hf, hg1⟩
  have I := Lib.hid (show IntsBox W3 hb ba v u1 (plI L) from ⟨hu1, fun g hg => ⟨fun hk => by have := S1.out.own.lt g hk; have := (hg1 g hg).1; omega, (hg1 g hg).2⟩⟩)
  have S1 := Lib.hid (S1.out.later hf)
  clear hu1 hf hg1
  have lL : (plI L).length ≤ 100000 := by have := S1.out.own.is.len; rw [plI, List.length_map]; omega
  have LL := Lib.hid lL
  clear lL
  go_wp2_with fail
  obtain ⟨W4, hW4⟩ : ∃ W4, W3.alloc (.cells #[.int .i64 m1, .int .i64 m2] 3) = W4 := ⟨_, rfl⟩
  rw [hW4]
  have fA : Fr0 none' W3 W4 := by rw [← hW4]; exact ((Fr.refl none' W3).alloc _).to0
  have S1 := Lib.hid (show St w W4 hb ba v L Ks Ts KB (KB + 1) _ from hW4 ▸ S1.out.alloc _)
  have I := Lib.hid (I.out.later fA)
  obtain ⟨PB, hPB⟩ : ∃ PB, W3.heap.size = PB := ⟨_, rfl⟩
  rw [hPB] at S1 ⊢
  have HM1 := Lib.hid hm1
  have HM3 := Lib.hid hm3
  clear hW4 hPB fA hm1 hm2 hm3
  go_loopw [50] (fun i wr => ∃ (k : Nat) (v : Value), k ≤ 2 ∧ i = .int .i64 k ∧ Hid (St w wr hb ba v L Ks Ts KB (KB + 1) [(PB, .cells #[.int .i64 m1, .int .i64 m2] 3), (X, .cells #[.int .u8 y0, .int .u8 y1, .int .u8 y2, .int .u8 y3] 36)]) ∧ Hid (IntsBox wr hb ba v u1 (plI L))) (fun i _ => 2 - (intOf i).toNat)
  case atStart => exact ⟨0, v, by omega, rfl, S1, I⟩
  case round =>
    obtain ⟨k, v, hk, rfl, S1, I⟩ := hrel
    by_cases hlt : k < 2
    · obtain ⟨p, hp, hpc⟩ : ∃ p, (p < 0 ∨ 24 ≤ p) ∧ wr.cell? ⟨PB, k, none⟩ = some (.int .i64 p) := by
        have hb := S1.out.box (B := PB) (List.mem_cons_self ..)
        have : k = 0 ∨ k = 1 := by omega
        rcases this with rfl | rfl
        · exact ⟨m1, .inl l1, by rw [cells_at hb]; rfl⟩
        · exact ⟨m2, .inr l2, by rw [cells_at hb]; rfl⟩
      obtain ⟨e1, e2, e3, e4, e5, e6⟩ := wrong_place L p ⟨ka, kb, kc⟩ hp
      have WP := Lib.hid (And.intro e1 (And.intro e2 (And.intro e3 (And.intro e4 (And.intro e5 e6)))))
      clear e1 e2 e3 e4 e5 e6
      have j1 : (k : Int) < 2 := by omega
      go_wp2_with fail
      clear hpc
      have HP := rem_own S1.out.own p
      rw [WP.out.1, WP.out.2.1, WP.out.2.2.1] at HP
      simp only [keyV, zeroK] at HP
      refine HP.mono ?_
      rintro e W5 ⟨rfl, v5, hO, hS⟩
      have S1 := Lib.hid (S1.out.step hO hS)
      have I := Lib.hid (I.out.step hS)
      clear hO hS
      clear HP
      go_upto_region 11 with (fail)
      obtain ⟨WK, hWK⟩ : ∃ WK, W5.alloc (.cells #[.int .i64 0, .int .i64 0, .int .i64 0] 26) = WK := ⟨_, rfl⟩
      rw [hWK]
      have fK : Fr0 none' W5 WK := by rw [← hWK]; exact ((Fr.refl none' _).alloc _).to0
      have S1 := Lib.hid (S1.out.later fK)
      have I := Lib.hid (I.out.later fK)
      clear hWK fK
      have hbx := S1.out.box (B := X) (by exact List.mem_cons_of_mem _ (List.mem_cons_self ..))
      have x0 : WK.cell? ⟨X, 0, none⟩ = some (.int .u8 y0) := by rw [cells_at hbx]; rfl
      have x1 : WK.cell? ⟨X, 1, none⟩ = some (.int .u8 y1) := by rw [cells_at hbx]; rfl
      have x2 : WK.cell? ⟨X, 2, none⟩ = some (.int .u8 y2) := by rw [cells_at hbx]; rfl
      have x3 : WK.cell? ⟨X, 3, none⟩ = some (.int .u8 y3) := by rw [cells_at hbx]; rfl
      clear hbx
      go_wp2_with fail
      clear x0 x1 x2 x3
      refine (of_any ⟨y0, y1, y2, y3⟩ Hok.out _).mono ?_
      rintro e WF ⟨rfl, hf⟩
      have S1 := Lib.hid (S1.out.later hf.to0)
      have I := Lib.hid (I.out.later hf.to0)
      clear hf
      rw [HK.out]
      simp only [keyV]
      go_wp2_with fail
      have HP := chg_own S1.out.own p ⟨ka, kb, kc⟩
      rw [WP.out.1, WP.out.2.1, WP.out.2.2.2.1] at HP
      simp only [keyV, zeroK] at HP
      refine HP.mono ?_
      rintro e W6 ⟨rfl, v6, hO, hS⟩
      have S1 := Lib.hid (S1.out.step hO hS)
      have I := Lib.hid (I.out.step hS)
      clear hO hS
      clear HP
      go_upto_region 12 with (fail)
      obtain ⟨WK, hWK⟩ : ∃ WK, W6.alloc (.cells #[.int .i64 0, .int .i64 0, .int .i64 0] 26) = WK := ⟨_, rfl⟩
      rw [hWK]
      have fK : Fr0 none' W6 WK := by rw [← hWK]; exact ((Fr.refl none' _).alloc _).to0
      have S1 := Lib.hid (S1.out.later fK)
      have I := Lib.hid (I.out.later fK)
      clear hWK fK
      go_wp2_with fail
      have HP := Key_is S1.out.own.is p
      rw [WP.out.1, WP.out.2.1] at HP
      simp only [keyV, zeroK] at HP
      refine HP.mono ?_
      rintro e W7 ⟨rfl, hf⟩
      have S1 := Lib.hid (S1.out.later hf.to0)
      have I := Lib.hid (I.out.later hf.to0)
      clear hf
      clear HP
      go_upto_region 13 with (fail)
      obtain ⟨WK, hWK⟩ : ∃ WK, W7.alloc (.cells #[.int .i64 0, .int .i64 0, .int .i64 0] 26) = WK := ⟨_, rfl⟩
      rw [hWK]
      have fK : Fr0 none' W7 WK := by rw [← hWK]; exact ((Fr.refl none' _).alloc _).to0
      have S1 := Lib.hid (S1.out.later fK)
      have I := Lib.hid (I.out.later fK)
      clear hWK fK
      have hbx := S1.out.box (B := X) (by exact List.mem_cons_of_mem _ (List.mem_cons_self ..))
      have x0 : WK.cell? ⟨X, 0, none⟩ = some (.int .u8 y0) := by rw [cells_at hbx]; rfl
      have x1 : WK.cell? ⟨X, 1, none⟩ = some (.int .u8 y1) := by rw [cells_at hbx]; rfl
      have x2 : WK.cell? ⟨X, 2, none⟩ = some (.int .u8 y2) := by rw [cells_at hbx]; rfl
      have x3 : WK.cell? ⟨X, 3, none⟩ = some (.int .u8 y3) := by rw [cells_at hbx]; rfl
      clear hbx
      go_wp2_with fail
      clear x0 x1 x2 x3
      refine (of_any ⟨y0, y1, y2, y3⟩ Hok.out _).mono ?_
      rintro e WF ⟨rfl, hf⟩
      have S1 := Lib.hid (S1.out.later hf.to0)
      have I := Lib.hid (I.out.later hf.to0)
      clear hf
      rw [HK.out]
      simp only [keyV]
      go_wp2_with fail
      have HP := put_own S1.out.own p ⟨ka, kb, kc⟩
      rw [WP.out.2.2.2.2.1, WP.out.2.2.2.2.2] at HP
      simp only [keyV] at HP
      refine HP.mono ?_
      rintro e W8 ⟨rfl, v8, hO, hS⟩
      have S1 := Lib.hid (S1.out.step hO hS)
      have I := Lib.hid (I.out.step hS)
      clear hO hS
      clear HP
      go_wp2_with fail
      have HP := Has_is S1.out.own.is p
      rw [WP.out.1, show ((80 : Int) == 0) = false from rfl] at HP
      refine HP.mono ?_
      rintro e W9 ⟨rfl, hf⟩
      have S1 := Lib.hid (S1.out.later hf.to0)
      have I := Lib.hid (I.out.later hf.to0)
      clear hf
      clear HP
      go_wp2
      go_roundw
      case rel => exact ⟨k + 1, v8, by omega, by go_num, S1, I⟩
      case measure => simp [intOf]; omega
    · have hk2 : k = 2 := by omega
      subst hk2
      obtain ⟨q, hq⟩ : ∃ q : Nat, y1 % 24 = q := ⟨(y1 % 24).toNat, by omega⟩
      have q0 : (0 : Int) ≤ q := by omega
      have q1 : (q : Int) < 24 := by omega
      have hq24 : q < 24 := by omega
      have hbx := S1.out.box (B := X) (by exact List.mem_cons_of_mem _ (List.mem_cons_self ..))
      have x0 : wr.cell? ⟨X, 0, none⟩ = some (.int .u8 y0) := by rw [cells_at hbx]; rfl
      have x1 : wr.cell? ⟨X, 1, none⟩ = some (.int .u8 y1) := by rw [cells_at hbx]; rfl
      have x2 : wr.cell? ⟨X, 2, none⟩ = some (.int .u8 y2) := by rw [cells_at hbx]; rfl
      have x3 : wr.cell? ⟨X, 3, none⟩ = some (.int .u8 y3) := by rw [cells_at hbx]; rfl
      clear hbx
      have tm := S1.out.mark (p := q) (by rw [HH.out.tl]; exact hq24)
      go_upto_region 17 with (fail)
      rw [hq]
      clear hq x0 x1 x2 x3
      cases ht : Ts.getD q false
      · rw [ht] at tm
        go_wp2_with fail
        obtain ⟨he, hh, hts⟩ := HH.out.rem_no hq24 ht
        have hkz : keyP 24 L (q : Int) = zeroK := by unfold keyP; rw [he]; rfl
        have HP := rem_own S1.out.own (q : Int)
        rw [he, hh, hkz] at HP
        simp only [keyV, zeroK] at HP
        refine HP.mono ?_
        rintro e W5 ⟨rfl, v5, hO, hS⟩
        have S1 := Lib.hid (S1.out.step hO hS)
        have I := Lib.hid (I.out.step hS)
        clear hO hS
        clear HP he hh hts
        go_upto_region 22 with (fail)
        obtain ⟨WK, hWK⟩ : ∃ WK, W5.alloc (.cells #[.int .i64 0, .int .i64 0, .int .i64 0] 26) = WK := ⟨_, rfl⟩
        rw [hWK]
        have fK : Fr0 none' W5 WK := by rw [← hWK]; exact ((Fr.refl none' _).alloc _).to0
        have S1 := Lib.hid (S1.out.later fK)
        have I := Lib.hid (I.out.later fK)
        clear hWK fK
        have hbx := S1.out.box (B := X) (by exact List.mem_cons_of_mem _ (List.mem_cons_self ..))
        have x0 : WK.cell? ⟨X, 0, none⟩ = some (.int .u8 y0) := by rw [cells_at hbx]; rfl
        have x1 : WK.cell? ⟨X, 1, none⟩ = some (.int .u8 y1) := by rw [cells_at hbx]; rfl
        have x2 : WK.cell? ⟨X, 2, none⟩ = some (.int .u8 y2) := by rw [cells_at hbx]; rfl
        have x3 : WK.cell? ⟨X, 3, none⟩ = some (.int .u8 y3) := by rw [cells_at hbx]; rfl
        clear hbx
        go_wp2_with fail
        clear x0 x1 x2 x3
        refine (of_any ⟨y0, y1, y2, y3⟩ Hok.out _).mono ?_
        rintro e WF ⟨rfl, hf⟩
        have S1 := Lib.hid (S1.out.later hf.to0)
        have I := Lib.hid (I.out.later hf.to0)
        clear hf
        rw [HK.out]
        simp only [keyV]
        go_wp2_with fail
        obtain ⟨he, hh⟩ := HH.out.chg_no hq24 ht ⟨ka, kb, kc⟩
        have HP := chg_own S1.out.own (q : Int) ⟨ka, kb, kc⟩
        rw [he, hh, hkz] at HP
        simp only [keyV, zeroK] at HP
        refine HP.mono ?_
        rintro e W6 ⟨rfl, v6, hO, hS⟩
        have S1 := Lib.hid (S1.out.step hO hS)
        have I := Lib.hid (I.out.step hS)
        clear hO hS
        clear HP he hh hkz
        go_upto_region 23 with (fail)
        obtain ⟨WK, hWK⟩ : ∃ WK, W6.alloc (.cells #[.int .i64 0, .int .i64 0, .int .i64 0] 26) = WK := ⟨_, rfl⟩
        rw [hWK]
        have fK : Fr0 none' W6 WK := by rw [← hWK]; exact ((Fr.refl none' _).alloc _).to0
        have S1 := Lib.hid (S1.out.later fK)
        have I := Lib.hid (I.out.later fK)
        clear hWK fK
        have Ht := Lib.hid ht
        clear ht
        go_upto_region 25 with (fail)
        have hm1 := HM1.out
        have hm3 := HM3.out
        go_wp2_with fail
        obtain ⟨W10, hW10⟩ : ∃ W10, WK.alloc (.cells #[.int .i64 m1, .int .i64 m3] 3) = W10 := ⟨_, rfl⟩
        rw [hW10]
        have fA : Fr0 none' WK W10 := by rw [← hW10]; exact ((Fr.refl none' _).alloc _).to0
        have S1 := Lib.hid (show St w W10 hb ba _ L Ks Ts KB (KB + 1) _ from hW10 ▸ S1.out.alloc _)
        have I := Lib.hid (I.out.later fA)
        obtain ⟨PC, hPC⟩ : ∃ PC, (WK).heap.size = PC := ⟨_, rfl⟩
        rw [hPC] at S1
        first | rw [hPC] | (simp only [World.heap_drewN] at hPC ⊢; rw [hPC]) | skip
        have S1 := Lib.hid (S1.out.less (F := [(PC, .cells #[.int .i64 m1, .int .i64 m3] 3)]) (fun x hx => by rw [List.mem_singleton.1 hx]; exact List.mem_cons_self ..))
        clear hW10 fA hm1 hm3
        go_loopw [154] (fun i wr => ∃ (k : Nat), k ≤ 2 ∧ i = .int .i64 k ∧ Hid (St w wr hb ba v6 L Ks Ts KB (KB + 1) [(PC, .cells #[.int .i64 m1, .int .i64 m3] 3)]) ∧ Hid (IntsBox wr hb ba v6 u1 (plI L))) (fun i _ => 2 - (intOf i).toNat)
        case atStart => exact ⟨0, by omega, rfl, S1, I⟩
        case round =>
          obtain ⟨k, hk, rfl, S1, I⟩ := hrel
          by_cases hlt : k < 2
          · obtain ⟨p, hp, hpc⟩ : ∃ p, (p < 0 ∨ 4096 < p) ∧ wr.cell? ⟨PC, k, none⟩ = some (.int .i64 p) := by
              have hb := S1.out.box (B := PC) (List.mem_cons_self ..)
              have : k = 0 ∨ k = 1 := by omega
              rcases this with rfl | rfl
              · exact ⟨m1, .inl l1, by rw [cells_at hb]; rfl⟩
              · exact ⟨m3, .inr l3, by rw [cells_at hb]; rfl⟩
            have j1 : (k : Int) < 2 := by omega
            go_wp2_with fail
            clear hpc
            refine (New_no p _ hp).mono ?_
            rintro e W11 ⟨rfl, hf⟩
            have S1 := Lib.hid (S1.out.later hf.to0)
            have I := Lib.hid (I.out.later hf.to0)
            clear hf
            go_wp2
            go_roundw
            case rel => exact ⟨k + 1, by omega, by go_num, S1, I⟩
            case measure => simp [intOf]; omega
          · have hk2 : k = 2 := by omega
            subst hk2
            have c1 : wr.cell? ⟨KB + 1, q, none⟩ = some (.bool false) := by have h := S1.out.mark (p := q) (by rw [HH.out.tl]; exact hq24); rw [Ht.out] at h; exact h
            go_upto_region 32 with (fail)
            refine wp_region_held_drew (S := fun W' => W'.cell? ⟨KB + 1, q, none⟩ = some (.bool false)) (by kernel_rfl) c1 (fun hHeld => ?_)
            have S1 := Lib.hid (S1.out.later (Fr.refl none' wr).drew.to0)
            have I := Lib.hid (I.out.later (Fr.refl none' wr).drew.to0)
            refine take_on (i := 0) (v := .pointer (some ⟨hb, 0, none⟩)) rfl (by kernel_rfl) (by kernel_rfl) (by kernel_rfl) (fun _ _ _ h => h) (by kernel_rfl) (fun W' hSW => ?_) (by assumption) ?_
            · (try dsimp only at hSW)
              first | (go_simp; done) | exact rfl | (go_simp; rfl) | (go_simp; omega)
            try simp only [Act.put, List.setIfInBounds_toArray, List.set_cons_zero, List.set_cons_succ]
            refine take_on (i := 2) (v := u1) rfl (by kernel_rfl) (by kernel_rfl) (by kernel_rfl) (fun _ _ _ h => h) (by kernel_rfl) (fun W' hSW => ?_) (by assumption) ?_
            · (try dsimp only at hSW)
              first | (go_simp; done) | exact rfl | (go_simp; rfl) | (go_simp; omega)
            try simp only [Act.put, List.setIfInBounds_toArray, List.set_cons_zero, List.set_cons_succ]
            refine take_call (i := 1) rfl (by kernel_rfl) (by kernel_rfl) (fun K hK => ?_)
            go_simp
            refine (order_own S1.out.own).mono ?_
            rintro e W12 ⟨u4, rfl, hu4, hf, hg4⟩
            have I4 := Lib.hid hu4
            have S1 := Lib.hid (S1.out.later hf)
            have I := Lib.hid (I.out.later hf)
            replace c1 := hf.later (p := ⟨KB + 1, q, none⟩) (v := .bool false) c1
            clear hu4 hf hg4
            go_wp2_with fail
            refine hK.out _ _ c1 (fun hHeld1 => ?_)
            clear hK K
            try simp only [Act.put, List.setIfInBounds_toArray, List.set_cons_zero, List.set_cons_succ]
            refine take_call (i := 3) rfl (by kernel_rfl) (by kernel_rfl) (fun K hK => ?_)
            go_simp
            have HS := SameInts_any _ _ _ _ W12 I4.out I.out.row LL.out LL.out
            rw [show decide (plI L = plI L) = true by simp] at HS
            refine HS.mono ?_
            rintro e W13 ⟨rfl, hf⟩
            have S1 := Lib.hid (S1.out.later hf.to0)
            replace c1 := hf.later (p := ⟨KB + 1, q, none⟩) (v := .bool false) c1
            clear HS hf I I4
            go_wp2_with fail
            refine hK.out _ _ c1 (fun hHeld3 => ?_)
            clear hK K
            try simp only [Act.put, List.setIfInBounds_toArray, List.set_cons_zero, List.set_cons_succ]
            refine take_on (i := 4) (v := .bool true) rfl (by kernel_rfl) (by kernel_rfl) (by kernel_rfl) (fun _ _ _ h => h) (by kernel_rfl) (fun W' hSW => ?_) (by assumption) ?_
            · (try dsimp only at hSW)
              first | (go_simp; done) | exact rfl | (go_simp; rfl) | (go_simp; omega)
            try simp only [Act.put, List.setIfInBounds_toArray, List.set_cons_zero, List.set_cons_succ]
            refine take_on (i := 5) (v := .pointer (some ⟨hb, 0, none⟩)) rfl (by kernel_rfl) (by kernel_rfl) (by kernel_rfl) (fun _ _ _ h => h) (by kernel_rfl) (fun W' hSW => ?_) (by assumption) ?_
            · (try dsimp only at hSW)
              first | (go_simp; done) | exact rfl | (go_simp; rfl) | (go_simp; omega)
            try simp only [Act.put, List.setIfInBounds_toArray, List.set_cons_zero, List.set_cons_succ]
            refine take_on (i := 6) (v := .int .i64 q) rfl (by kernel_rfl) (by kernel_rfl) (by kernel_rfl) (fun _ _ _ h => h) (by kernel_rfl) (fun W' hSW => ?_) (by assumption) ?_
            · (try dsimp only at hSW)
              first | (go_simp; done) | exact rfl | (go_simp; rfl) | (go_simp; omega)
            try simp only [Act.put, List.setIfInBounds_toArray, List.set_cons_zero, List.set_cons_succ]
            refine take_on (i := 8) (v := .int .i64 q) rfl (by kernel_rfl) (by kernel_rfl) (by kernel_rfl) (fun _ _ _ h => h) (by kernel_rfl) (fun W' hSW => ?_) (by assumption) ?_
            · (try dsimp only at hSW)
              first | (go_simp; done) | exact rfl | (go_simp; rfl) | (go_simp; omega)
            try simp only [Act.put, List.setIfInBounds_toArray, List.set_cons_zero, List.set_cons_succ]
            refine take_on (i := 9) (v := .pointer (some ⟨KB + 1, q, none⟩)) rfl (by kernel_rfl) (by kernel_rfl) (by kernel_rfl) (fun _ _ _ h => h) (by kernel_rfl) (fun W' hSW => ?_) (by assumption) ?_
            · (try dsimp only at hSW)
              first | (go_simp; done) | exact rfl | (go_simp; rfl) | (go_simp; omega)
            try simp only [Act.put, List.setIfInBounds_toArray, List.set_cons_zero, List.set_cons_succ]
            refine take_on (i := 10) (v := .bool false) rfl (by kernel_rfl) (by kernel_rfl) (by kernel_rfl) (fun _ _ _ h => h) (by kernel_rfl) (fun W' hSW => ?_) (by assumption) ?_
            · (try dsimp only at hSW)
              first | (go_simp; done) | exact rfl | (go_simp; rfl) | (go_simp; omega)
            try simp only [Act.put, List.setIfInBounds_toArray, List.set_cons_zero, List.set_cons_succ]
            refine take_call (i := 7) rfl (by kernel_rfl) (by kernel_rfl) (fun K hK => ?_)
            go_simp
            have HS := Has_is S1.out.own.is (q : Int)
            rw [has_err HH.out hq24, Ht.out] at HS
            refine HS.mono ?_
            rintro e W14 ⟨rfl, hf⟩
            have S1 := Lib.hid (S1.out.later hf.to0)
            replace c1 := hf.later (p := ⟨KB + 1, q, none⟩) (v := .bool false) c1
            clear HS hf
            go_wp2_with fail
            refine hK.out _ _ c1 (fun hHeld7 => ?_)
            clear hK K
            try simp only [Act.put, List.setIfInBounds_toArray, List.set_cons_zero, List.set_cons_succ]
            refine take_on (i := 11) (v := .bool true) rfl (by kernel_rfl) (by kernel_rfl) (by kernel_rfl) (fun _ _ _ h => h) (by kernel_rfl) (fun W' hSW => ?_) (by assumption) ?_
            · (try dsimp only at hSW)
              first | (go_simp; done) | exact rfl | (go_simp; rfl) | (go_simp; omega)
            try simp only [Act.put, List.setIfInBounds_toArray, List.set_cons_zero, List.set_cons_succ]
            refine take_on (i := 12) (v := .bool true) rfl (by kernel_rfl) (by kernel_rfl) (by kernel_rfl) (fun _ _ _ h => h) (by kernel_rfl) (fun W' hSW => ?_) (by assumption) ?_
            · (try dsimp only at hSW)
              first | (go_simp; done) | exact rfl | (go_simp; rfl) | (go_simp; omega)
            try simp only [Act.put, List.setIfInBounds_toArray, List.set_cons_zero, List.set_cons_succ]
            refine take_on (i := 13) (v := .bool true) rfl (by kernel_rfl) (by kernel_rfl) (by kernel_rfl) (fun _ _ _ h => h) (by kernel_rfl) (fun W' hSW => ?_) (by assumption) ?_
            · (try dsimp only at hSW)
              first | (go_simp; done) | exact rfl | (go_simp; rfl) | (go_simp; omega)
            try simp only [Act.put, List.setIfInBounds_toArray, List.set_cons_zero, List.set_cons_succ]
            refine wpAnyH_done (by kernel_rfl) ?_ _
            clear hHeld hHeld1 hHeld3 hHeld7 c1
            go_wp2
            go_ret
            exact ⟨rfl, S1.out.own.fr.below (Nat.le_refl _) (fun _ _ h => h)⟩
      · rw [ht] at tm
        go_wp2_with fail
        have hky := HH.out.key hq24 ht
        have hee := HH.out.err hq24
        rw [ht, if_pos rfl] at hee
        obtain ⟨⟨na, nb, nc⟩, hnk⟩ : ∃ nk, Ks.getD q zeroK = nk := ⟨_, rfl⟩
        have Hnk := Lib.hid hnk
        have HP := Key_is S1.out.own.is (q : Int)
        rw [hky, hee, hnk] at HP
        simp only [keyV] at HP
        refine HP.mono ?_
        rintro e W5 ⟨rfl, hf⟩
        have S1 := Lib.hid (S1.out.later hf.to0)
        have I := Lib.hid (I.out.later hf.to0)
        clear hf
        clear HP hky hee hnk
        go_upto_region 19 with (fail)
        obtain ⟨W6, hW6⟩ : ∃ W6, W5.alloc (.cells #[.int .i64 na, .int .i64 nb, .int .i64 nc] 26) = W6 := ⟨_, rfl⟩
        rw [hW6]
        have fA : Fr0 none' W5 W6 := by rw [← hW6]; exact ((Fr.refl none' _).alloc _).to0
        have S1 := Lib.hid (show St w W6 hb ba v L Ks Ts KB (KB + 1) _ from hW6 ▸ S1.out.alloc _)
        have I := Lib.hid (I.out.later fA)
        obtain ⟨ZB, hZB⟩ : ∃ ZB, W5.heap.size = ZB := ⟨_, rfl⟩
        rw [hZB] at S1 ⊢
        clear hW6 fA hZB
        have hcel : ∀ (W' : World) (v' : Value) (L' : List Ent), St w W' hb ba v' L' Ks Ts KB (KB + 1) [(ZB, .cells #[.int .i64 na, .int .i64 nb, .int .i64 nc] 26), (PB, .cells #[.int .i64 m1, .int .i64 m2] 3), (X, .cells #[.int .u8 y0, .int .u8 y1, .int .u8 y2, .int .u8 y3] 36)] → W'.cell? ⟨X, 0, none⟩ = some (.int .u8 y0) ∧ W'.cell? ⟨X, 1, none⟩ = some (.int .u8 y1) ∧ W'.cell? ⟨X, 2, none⟩ = some (.int .u8 y2) ∧ W'.cell? ⟨X, 3, none⟩ = some (.int .u8 y3) ∧ W'.cell? ⟨ZB, 0, none⟩ = some (.int .i64 na) ∧ W'.cell? ⟨ZB, 1, none⟩ = some (.int .i64 nb) ∧ W'.cell? ⟨ZB, 2, none⟩ = some (.int .i64 nc) ∧ W'.cell? ⟨KB, q * 3, none⟩ = some (.int .i64 na) ∧ W'.cell? ⟨KB, q * 3 + 1, none⟩ = some (.int .i64 nb) ∧ W'.cell? ⟨KB, q * 3 + 2, none⟩ = some (.int .i64 nc) := by
          intro W' v' L' S
          have hbz := S.box (List.mem_cons_self ..)
          have hbx := S.box (B := X) (List.mem_cons_of_mem _ (List.mem_cons_of_mem _ (List.mem_cons_self ..)))
          have hk := S.key (p := q) (by rw [HH.out.kl]; exact hq24)
          rw [Hnk.out] at hk
          exact ⟨by rw [cells_at hbx]; rfl, by rw [cells_at hbx]; rfl, by rw [cells_at hbx]; rfl, by rw [cells_at hbx]; rfl, by rw [cells_at hbz]; rfl, by rw [cells_at hbz]; rfl, by rw [cells_at hbz]; rfl, hk.1, hk.2.1, hk.2.2⟩
        have HC := Lib.hid hcel
        clear hcel
        refine wp_region_held_drew (S := fun W' => W'.cell? ⟨X, 0, none⟩ = some (.int .u8 y0) ∧ W'.cell? ⟨X, 1, none⟩ = some (.int .u8 y1) ∧ W'.cell? ⟨X, 2, none⟩ = some (.int .u8 y2) ∧ W'.cell? ⟨X, 3, none⟩ = some (.int .u8 y3) ∧ W'.cell? ⟨ZB, 0, none⟩ = some (.int .i64 na) ∧ W'.cell? ⟨ZB, 1, none⟩ = some (.int .i64 nb) ∧ W'.cell? ⟨ZB, 2, none⟩ = some (.int .i64 nc) ∧ W'.cell? ⟨KB, q * 3, none⟩ = some (.int .i64 na) ∧ W'.cell? ⟨KB, q * 3 + 1, none⟩ = some (.int .i64 nb) ∧ W'.cell? ⟨KB, q * 3 + 2, none⟩ = some (.int .i64 nc)) (by kernel_rfl) (HC.out _ _ _ (S1.out.later (Fr.refl none' W6).drew.to0)) (fun hHeld => ?_)
        have S1 := Lib.hid (S1.out.later (Fr.refl none' W6).drew.to0)
        have I := Lib.hid (I.out.later (Fr.refl none' W6).drew.to0)
        refine take_on (i := 0) (v := .pointer (some ⟨hb, 0, none⟩)) rfl (by kernel_rfl) (by kernel_rfl) (by kernel_rfl) (fun _ _ _ h => h) (by kernel_rfl) (fun W' hSW => ?_) (by assumption) ?_
        · (try dsimp only at hSW)
          first | (go_simp; done) | exact rfl | (go_simp; rfl) | (go_simp; omega)
        try simp only [Act.put, List.setIfInBounds_toArray, List.set_cons_zero, List.set_cons_succ]
        refine take_on (i := 1) (v := .int .i64 q) rfl (by kernel_rfl) (by kernel_rfl) (by kernel_rfl) (fun _ _ _ h => h) (by kernel_rfl) (fun W' hSW => ?_) (by assumption) ?_
        · (try dsimp only at hSW)
          first | (go_simp; done) | exact rfl | (go_simp; rfl) | (go_simp; omega)
        try simp only [Act.put, List.setIfInBounds_toArray, List.set_cons_zero, List.set_cons_succ]
        refine take_on (i := 2) (v := .agg #[.int .u8 y0, .int .u8 y1, .int .u8 y2, .int .u8 y3]) rfl (by kernel_rfl) (by kernel_rfl) (by kernel_rfl) (fun _ _ _ h => h) (by kernel_rfl) (fun W' hSW => ?_) (by assumption) ?_
        · (try dsimp only at hSW)
          first | (go_simp; done) | exact rfl | (go_simp; rfl) | (go_simp; omega)
        try simp only [Act.put, List.setIfInBounds_toArray, List.set_cons_zero, List.set_cons_succ]
        refine take_call (i := 3) rfl (by kernel_rfl) (by kernel_rfl) (fun K hK => ?_)
        go_simp
        refine (of_any ⟨y0, y1, y2, y3⟩ Hok.out _).mono ?_
        rintro e WF ⟨rfl, hf⟩
        have S1 := Lib.hid (S1.out.later hf.to0)
        have I := Lib.hid (I.out.later hf.to0)
        clear hf
        rw [HK.out]
        simp only [keyV]
        go_wp2_with fail
        refine hK.out _ _ (HC.out _ _ _ S1.out) (fun hHeld3 => ?_)
        clear hK K
        try simp only [Act.put, List.setIfInBounds_toArray, List.set_cons_zero, List.set_cons_succ]
        refine take_call (i := 4) rfl (by kernel_rfl) (by kernel_rfl) (fun K hK => ?_)
        go_simp
        obtain ⟨he, hh⟩ := HH.out.put_no hq24 ht ⟨ka, kb, kc⟩
        have HP := put_own S1.out.own (q : Int) ⟨ka, kb, kc⟩
        simp only [keyV] at HP
        rw [he, hh] at HP
        refine HP.mono ?_
        rintro e W7 ⟨rfl, v7, hO, hS⟩
        have S1 := Lib.hid (S1.out.step hO hS)
        have I := Lib.hid (I.out.step hS)
        clear hO hS
        clear HP he hh
        go_wp2_with fail
        refine hK.out _ _ (HC.out _ _ _ S1.out) (fun hHeld4 => ?_)
        clear hK K
        try simp only [Act.put, List.setIfInBounds_toArray, List.set_cons_zero, List.set_cons_succ]
        refine take_on (i := 5) (v := .bool false) rfl (by kernel_rfl) (by kernel_rfl) (by kernel_rfl) (fun _ _ _ h => h) (by kernel_rfl) (fun W' hSW => ?_) (by assumption) ?_
        · (try dsimp only at hSW)
          first | (go_simp; done) | exact rfl | (go_simp; rfl) | (go_simp; omega)
        try simp only [Act.put, List.setIfInBounds_toArray, List.set_cons_zero, List.set_cons_succ]
        refine take_on (i := 6) (v := .bool false) rfl (by kernel_rfl) (by kernel_rfl) (by kernel_rfl) (fun _ _ _ h => h) (by kernel_rfl) (fun W' hSW => ?_) (by assumption) ?_
        · (try dsimp only at hSW)
          first | (go_simp; done) | exact rfl | (go_simp; rfl) | (go_simp; omega)
        try simp only [Act.put, List.setIfInBounds_toArray, List.set_cons_zero, List.set_cons_succ]
        refine take_on (i := 7) (v := .int .i64 0) rfl (by kernel_rfl) (by kernel_rfl) (by kernel_rfl) (fun _ _ _ h => h) (by kernel_rfl) (fun W' hSW => ?_) (by assumption) ?_
        · (try dsimp only at hSW)
          first | (go_simp; done) | exact rfl | (go_simp; rfl) | (go_simp; omega)
        try simp only [Act.put, List.setIfInBounds_toArray, List.set_cons_zero, List.set_cons_succ]
        refine take_on (i := 8) (v := .bool false) rfl (by kernel_rfl) (by kernel_rfl) (by kernel_rfl) (fun _ _ _ h => h) (by kernel_rfl) (fun W' hSW => ?_) (by assumption) ?_
        · (try dsimp only at hSW)
          first | (go_simp; done) | exact rfl | (go_simp; rfl) | (go_simp; omega)
        try simp only [Act.put, List.setIfInBounds_toArray, List.set_cons_zero, List.set_cons_succ]
        refine take_on (i := 9) (v := .bool false) rfl (by kernel_rfl) (by kernel_rfl) (by kernel_rfl) (fun _ _ _ h => h) (by kernel_rfl) (fun W' hSW => ?_) (by assumption) ?_
        · (try dsimp only at hSW)
          first | (go_simp; done) | exact rfl | (go_simp; rfl) | (go_simp; omega)
        try simp only [Act.put, List.setIfInBounds_toArray, List.set_cons_zero, List.set_cons_succ]
        refine take_on (i := 10) (v := .bool false) rfl (by kernel_rfl) (by kernel_rfl) (by kernel_rfl) (fun _ _ _ h => h) (by kernel_rfl) (fun W' hSW => ?_) (by assumption) ?_
        · (try dsimp only at hSW)
          first | (go_simp; done) | exact rfl | (go_simp; rfl) | (go_simp; omega)
        try simp only [Act.put, List.setIfInBounds_toArray, List.set_cons_zero, List.set_cons_succ]
        refine take_on (i := 11) (v := .agg #[.int .i64 na, .int .i64 nb, .int .i64 nc]) rfl (by kernel_rfl) (by kernel_rfl) (by kernel_rfl) (fun _ _ _ h => h) (by kernel_rfl) (fun W' hSW => ?_) (by assumption) ?_
        · (try dsimp only at hSW)
          first | (go_simp; done) | exact rfl | (go_simp; rfl) | (go_simp; omega)
        try simp only [Act.put, List.setIfInBounds_toArray, List.set_cons_zero, List.set_cons_succ]
        refine take_on (i := 12) (v := .int .i64 q) rfl (by kernel_rfl) (by kernel_rfl) (by kernel_rfl) (fun _ _ _ h => h) (by kernel_rfl) (fun W' hSW => ?_) (by assumption) ?_
        · (try dsimp only at hSW)
          first | (go_simp; done) | exact rfl | (go_simp; rfl) | (go_simp; omega)
        try simp only [Act.put, List.setIfInBounds_toArray, List.set_cons_zero, List.set_cons_succ]
        refine take_on (i := 13) (v := .pointer (some ⟨KB, q * 3, none⟩)) rfl (by kernel_rfl) (by kernel_rfl) (by kernel_rfl) (fun _ _ _ h => h) (by kernel_rfl) (fun W' hSW => ?_) (by assumption) ?_
        · (try dsimp only at hSW)
          first | (go_simp; done) | exact rfl | (go_simp; rfl) | (go_simp; omega)
        try simp only [Act.put, List.setIfInBounds_toArray, List.set_cons_zero, List.set_cons_succ]
        refine take_on (i := 14) (v := .agg #[.int .i64 na, .int .i64 nb, .int .i64 nc]) rfl (by kernel_rfl) (by kernel_rfl) (by kernel_rfl) (fun _ _ _ h => h) (by kernel_rfl) (fun W' hSW => ?_) (by assumption) ?_
        · (try dsimp only at hSW)
          first | (go_simp; done) | exact rfl | (go_simp; rfl) | (go_simp; omega)
        try simp only [Act.put, List.setIfInBounds_toArray, List.set_cons_zero, List.set_cons_succ]
        refine take_on (i := 15) (v := .bool false) rfl (by kernel_rfl) (by kernel_rfl) (by kernel_rfl) (fun _ _ _ h => h) (by kernel_rfl) (fun W' hSW => ?_) (by assumption) ?_
        · (try dsimp only at hSW)
          first | (go_simp; done) | exact rfl | (go_simp; rfl) | (go_simp; omega)
        try simp only [Act.put, List.setIfInBounds_toArray, List.set_cons_zero, List.set_cons_succ]
        refine take_on (i := 16) (v := .bool false) rfl (by kernel_rfl) (by kernel_rfl) (by kernel_rfl) (fun _ _ _ h => h) (by kernel_rfl) (fun W' hSW => ?_) (by assumption) ?_
        · (try dsimp only at hSW)
          first | (go_simp; done) | exact rfl | (go_simp; rfl) | (go_simp; omega)
        try simp only [Act.put, List.setIfInBounds_toArray, List.set_cons_zero, List.set_cons_succ]
        refine wpAnyH_done (by kernel_rfl) ?_ _
        clear hHeld hHeld3 hHeld4 HC
        have Ht := Lib.hid ht
        clear ht
        go_upto_region 25 with (fail)
        have hm1 := HM1.out
        have hm3 := HM3.out
        go_wp2_with fail
        obtain ⟨W10, hW10⟩ : ∃ W10, W7.alloc (.cells #[.int .i64 m1, .int .i64 m3] 3) = W10 := ⟨_, rfl⟩
        rw [hW10]
        have fA : Fr0 none' W7 W10 := by rw [← hW10]; exact ((Fr.refl none' _).alloc _).to0
        have S1 := Lib.hid (show St w W10 hb ba _ L Ks Ts KB (KB + 1) _ from hW10 ▸ S1.out.alloc _)
        have I := Lib.hid (I.out.later fA)
        obtain ⟨PC, hPC⟩ : ∃ PC, (W7).heap.size = PC := ⟨_, rfl⟩
        rw [hPC] at S1
        first | rw [hPC] | (simp only [World.heap_drewN] at hPC ⊢; rw [hPC]) | skip
        have S1 := Lib.hid (S1.out.less (F := [(PC, .cells #[.int .i64 m1, .int .i64 m3] 3)]) (fun x hx => by rw [List.mem_singleton.1 hx]; exact List.mem_cons_self ..))
        clear hW10 fA hm1 hm3
        go_loopw [154] (fun i wr => ∃ (k : Nat), k ≤ 2 ∧ i = .int .i64 k ∧ Hid (St w wr hb ba v7 L Ks Ts KB (KB + 1) [(PC, .cells #[.int .i64 m1, .int .i64 m3] 3)]) ∧ Hid (IntsBox wr hb ba v7 u1 (plI L))) (fun i _ => 2 - (intOf i).toNat)
        case atStart => exact ⟨0, by omega, rfl, S1, I⟩
        case round =>
          obtain ⟨k, hk, rfl, S1, I⟩ := hrel
          by_cases hlt : k < 2
          · obtain ⟨p, hp, hpc⟩ : ∃ p, (p < 0 ∨ 4096 < p) ∧ wr.cell? ⟨PC, k, none⟩ = some (.int .i64 p) := by
              have hb := S1.out.box (B := PC) (List.mem_cons_self ..)
              have : k = 0 ∨ k = 1 := by omega
              rcases this with rfl | rfl
              · exact ⟨m1, .inl l1, by rw [cells_at hb]; rfl⟩
              · exact ⟨m3, .inr l3, by rw [cells_at hb]; rfl⟩
            have j1 : (k : Int) < 2 := by omega
            go_wp2_with fail
            clear hpc
            refine (New_no p _ hp).mono ?_
            rintro e W11 ⟨rfl, hf⟩
            have S1 := Lib.hid (S1.out.later hf.to0)
            have I := Lib.hid (I.out.later hf.to0)
            clear hf
            go_wp2
            go_roundw
            case rel => exact ⟨k + 1, by omega, by go_num, S1, I⟩
            case measure => simp [intOf]; omega
          · have hk2 : k = 2 := by omega
            subst hk2
            have c1 : wr.cell? ⟨KB + 1, q, none⟩ = some (.bool true) := by have h := S1.out.mark (p := q) (by rw [HH.out.tl]; exact hq24); rw [Ht.out] at h; exact h
            go_upto_region 32 with (fail)
            refine wp_region_held_drew (S := fun W' => W'.cell? ⟨KB + 1, q, none⟩ = some (.bool true)) (by kernel_rfl) c1 (fun hHeld => ?_)
            have S1 := Lib.hid (S1.out.later (Fr.refl none' wr).drew.to0)
            have I := Lib.hid (I.out.later (Fr.refl none' wr).drew.to0)
            refine take_on (i := 0) (v := .pointer (some ⟨hb, 0, none⟩)) rfl (by kernel_rfl) (by kernel_rfl) (by kernel_rfl) (fun _ _ _ h => h) (by kernel_rfl) (fun W' hSW => ?_) (by assumption) ?_
            · (try dsimp only at hSW)
              first | (go_simp; done) | exact rfl | (go_simp; rfl) | (go_simp; omega)
            try simp only [Act.put, List.setIfInBounds_toArray, List.set_cons_zero, List.set_cons_succ]
            refine take_on (i := 2) (v := u1) rfl (by kernel_rfl) (by kernel_rfl) (by kernel_rfl) (fun _ _ _ h => h) (by kernel_rfl) (fun W' hSW => ?_) (by assumption) ?_
            · (try dsimp only at hSW)
              first | (go_simp; done) | exact rfl | (go_simp; rfl) | (go_simp; omega)
            try simp only [Act.put, List.setIfInBounds_toArray, List.set_cons_zero, List.set_cons_succ]
            refine take_call (i := 1) rfl (by kernel_rfl) (by kernel_rfl) (fun K hK => ?_)
            go_simp
            refine (order_own S1.out.own).mono ?_
            rintro e W12 ⟨u4, rfl, hu4, hf, hg4⟩
            have I4 := Lib.hid hu4
            have S1 := Lib.hid (S1.out.later hf)
            have I := Lib.hid (I.out.later hf)
            replace c1 := hf.later (p := ⟨KB + 1, q, none⟩) (v := .bool true) c1
            clear hu4 hf hg4
            go_wp2_with fail
            refine hK.out _ _ c1 (fun hHeld1 => ?_)
            clear hK K
            try simp only [Act.put, List.setIfInBounds_toArray, List.set_cons_zero, List.set_cons_succ]
            refine take_call (i := 3) rfl (by kernel_rfl) (by kernel_rfl) (fun K hK => ?_)
            go_simp
            have HS := SameInts_any _ _ _ _ W12 I4.out I.out.row LL.out LL.out
            rw [show decide (plI L = plI L) = true by simp] at HS
            refine HS.mono ?_
            rintro e W13 ⟨rfl, hf⟩
            have S1 := Lib.hid (S1.out.later hf.to0)
            replace c1 := hf.later (p := ⟨KB + 1, q, none⟩) (v := .bool true) c1
            clear HS hf I I4
            go_wp2_with fail
            refine hK.out _ _ c1 (fun hHeld3 => ?_)
            clear hK K
            try simp only [Act.put, List.setIfInBounds_toArray, List.set_cons_zero, List.set_cons_succ]
            refine take_on (i := 4) (v := .bool true) rfl (by kernel_rfl) (by kernel_rfl) (by kernel_rfl) (fun _ _ _ h => h) (by kernel_rfl) (fun W' hSW => ?_) (by assumption) ?_
            · (try dsimp only at hSW)
              first | (go_simp; done) | exact rfl | (go_simp; rfl) | (go_simp; omega)
            try simp only [Act.put, List.setIfInBounds_toArray, List.set_cons_zero, List.set_cons_succ]
            refine take_on (i := 5) (v := .pointer (some ⟨hb, 0, none⟩)) rfl (by kernel_rfl) (by kernel_rfl) (by kernel_rfl) (fun _ _ _ h => h) (by kernel_rfl) (fun W' hSW => ?_) (by assumption) ?_
            · (try dsimp only at hSW)
              first | (go_simp; done) | exact rfl | (go_simp; rfl) | (go_simp; omega)
            try simp only [Act.put, List.setIfInBounds_toArray, List.set_cons_zero, List.set_cons_succ]
            refine take_on (i := 6) (v := .int .i64 q) rfl (by kernel_rfl) (by kernel_rfl) (by kernel_rfl) (fun _ _ _ h => h) (by kernel_rfl) (fun W' hSW => ?_) (by assumption) ?_
            · (try dsimp only at hSW)
              first | (go_simp; done) | exact rfl | (go_simp; rfl) | (go_simp; omega)
            try simp only [Act.put, List.setIfInBounds_toArray, List.set_cons_zero, List.set_cons_succ]
            refine take_on (i := 8) (v := .int .i64 q) rfl (by kernel_rfl) (by kernel_rfl) (by kernel_rfl) (fun _ _ _ h => h) (by kernel_rfl) (fun W' hSW => ?_) (by assumption) ?_
            · (try dsimp only at hSW)
              first | (go_simp; done) | exact rfl | (go_simp; rfl) | (go_simp; omega)
            try simp only [Act.put, List.setIfInBounds_toArray, List.set_cons_zero, List.set_cons_succ]
            refine take_on (i := 9) (v := .pointer (some ⟨KB + 1, q, none⟩)) rfl (by kernel_rfl) (by kernel_rfl) (by kernel_rfl) (fun _ _ _ h => h) (by kernel_rfl) (fun W' hSW => ?_) (by assumption) ?_
            · (try dsimp only at hSW)
              first | (go_simp; done) | exact rfl | (go_simp; rfl) | (go_simp; omega)
            try simp only [Act.put, List.setIfInBounds_toArray, List.set_cons_zero, List.set_cons_succ]
            refine take_on (i := 10) (v := .bool true) rfl (by kernel_rfl) (by kernel_rfl) (by kernel_rfl) (fun _ _ _ h => h) (by kernel_rfl) (fun W' hSW => ?_) (by assumption) ?_
            · (try dsimp only at hSW)
              first | (go_simp; done) | exact rfl | (go_simp; rfl) | (go_simp; omega)
            try simp only [Act.put, List.setIfInBounds_toArray, List.set_cons_zero, List.set_cons_succ]
            refine take_call (i := 7) rfl (by kernel_rfl) (by kernel_rfl) (fun K hK => ?_)
            go_simp
            have HS := Has_is S1.out.own.is (q : Int)
            rw [has_err HH.out hq24, Ht.out] at HS
            refine HS.mono ?_
            rintro e W14 ⟨rfl, hf⟩
            have S1 := Lib.hid (S1.out.later hf.to0)
            replace c1 := hf.later (p := ⟨KB + 1, q, none⟩) (v := .bool true) c1
            clear HS hf
            go_wp2_with fail
            refine hK.out _ _ c1 (fun hHeld7 => ?_)
            clear hK K
            try simp only [Act.put, List.setIfInBounds_toArray, List.set_cons_zero, List.set_cons_succ]
            refine take_on (i := 11) (v := .bool true) rfl (by kernel_rfl) (by kernel_rfl) (by kernel_rfl) (fun _ _ _ h => h) (by kernel_rfl) (fun W' hSW => ?_) (by assumption) ?_
            · (try dsimp only at hSW)
              first | (go_simp; done) | exact rfl | (go_simp; rfl) | (go_simp; omega)
            try simp only [Act.put, List.setIfInBounds_toArray, List.set_cons_zero, List.set_cons_succ]
            refine take_on (i := 12) (v := .bool true) rfl (by kernel_rfl) (by kernel_rfl) (by kernel_rfl) (fun _ _ _ h => h) (by kernel_rfl) (fun W' hSW => ?_) (by assumption) ?_
            · (try dsimp only at hSW)
              first | (go_simp; done) | exact rfl | (go_simp; rfl) | (go_simp; omega)
            try simp only [Act.put, List.setIfInBounds_toArray, List.set_cons_zero, List.set_cons_succ]
            refine take_on (i := 13) (v := .bool true) rfl (by kernel_rfl) (by kernel_rfl) (by kernel_rfl) (fun _ _ _ h => h) (by kernel_rfl) (fun W' hSW => ?_) (by assumption) ?_
            · (try dsimp only at hSW)
              first | (go_simp; done) | exact rfl | (go_simp; rfl) | (go_simp; omega)
            try simp only [Act.put, List.setIfInBounds_toArray, List.set_cons_zero, List.set_cons_succ]
            refine wpAnyH_done (by kernel_rfl) ?_ _
            clear hHeld hHeld1 hHeld3 hHeld7 c1
            go_wp2
            go_ret
            exact ⟨rfl, S1.out.own.fr.below (Nat.le_refl _) (fun _ _ h => h)⟩
end Go.Proofs.Ytbpmdhngobdilaa
