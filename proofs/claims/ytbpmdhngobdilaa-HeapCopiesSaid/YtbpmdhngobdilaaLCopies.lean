/-
  HeapCopies.
-/
import Derived.Test.YtbpmdhngobdilaaHl6
namespace Go.Proofs.Ytbpmdhngobdilaa
open Go Go.RowKit
attribute [local go_sem ↓] Go.wp_at_zero Go.wp_at_succ

set_option maxRecDepth 100000 in
set_option maxHeartbeats 4000000 in
theorem HeapCopies_any {w : World} {u : Value} {xs : List Sm4} (hu : SmallsAt w u xs) (x : Sm4) (hx : x.ok) :
    Calls Try.prog 5 #[u, smV x] w fun e w' => e = .returned (.bool true) ∧ Below w.heap.size w w' := by
  have HU := fun (w1 : World) (hf : Fr0 none' w w1) => hu.later hf
  have HU' := Lib.hid HU
  have Hok := Lib.hid hx
  obtain ⟨⟨h0, h0'⟩, ⟨h1, h1'⟩, ⟨h2, h2'⟩, ⟨h3, h3'⟩⟩ := hx
  obtain ⟨y0, y1, y2, y3⟩ := x
  simp only at h0 h0' h1 h1' h2 h2' h3 h3'
  simp only [smV]
  clear HU hu
  go_enter Try.func5, Try.ntmps5
  go_wp2_with fail
  refine (awake_any _).mono ?_
  rintro e w1 ⟨rfl, hf1⟩
  have F1 := Lib.hid (show Fr0 none' w w1 from (((Fr.refl none' w).alloc _).to0).trans hf1)
  have hbx : w1.heap[w.heap.size]? = some (.cells #[.int .u8 y0, .int .u8 y1, .int .u8 y2, .int .u8 y3] 36) := (hf1.block _ (by simp) id).trans (World.alloc_heap_new w _)
  have hbl := (Array.getElem?_eq_some_iff.1 hbx).1
  clear hf1
  go_wp2_with fail
  refine (made_any (HU'.out w1 F1.out)).mono ?_
  rintro e w2 ⟨hb, ba, v, L, Ks, Ts, rfl, hO, hH⟩
  have HH := Lib.hid hH
  have HO := Lib.hid (show Own w w2 hb ba v 24 L from ⟨hO.is, F1.out.trans hO.fr, fun k hk => Nat.le_trans F1.out.size (hO.new k hk)⟩)
  have lK : (cellsK Ks).length = 72 := by rw [cellsK_length, hH.kl]
  have lB : (cellsB Ts).length = 24 := by rw [cellsB, List.length_map, hH.tl]
  have g1 := start_store w2 Ks hH.kl
  have g2 := start_store2 w2 Ks Ts hH.tl
  have HX := Lib.hid (show ObjBox w2 hb ba v w.heap.size (.cells #[.int .u8 y0, .int .u8 y1, .int .u8 y2, .int .u8 y3] 36) from ⟨(hO.fr.block _ hbl id).trans hbx, fun hf => by have := hO.new _ hf; omega⟩)
  clear hO hH hbx hbl
  go_upto_region 4 with (fail)
  obtain ⟨W, hW⟩ : ∃ W, startW w2 Ks Ts = W := ⟨_, rfl⟩
  have S1 := Lib.hid (show St w W hb ba v L Ks Ts w2.heap.size (w2.heap.size + 1) [(w.heap.size, .cells #[.int .u8 y0, .int .u8 y1, .int .u8 y2, .int .u8 y3] 36)] from hW ▸ (St.start HO.out HH.out.kl HH.out.tl).add (HX.out.later (start_fr w2 Ks Ts)) (by have := HX.out.lt; omega) (by have := HX.out.lt; omega))
  clear HX
  obtain ⟨X, hX⟩ : ∃ X, w.heap.size = X := ⟨_, rfl⟩
  rw [hX] at S1
  have HX := Lib.hid hX
  clear g1 g2 lK lB
  rw [hW]
  obtain ⟨KB, hKB⟩ : ∃ KB, w2.heap.size = KB := ⟨_, rfl⟩
  rw [hKB] at S1 ⊢
  try rw [hX]
  clear hX
  clear hW hKB HO
  go_wp2_with fail
  refine (Copy_is S1.out.own.is).mono ?_
  rintro e W2 ⟨hb', ba', v', rfl, hI, hN, hf⟩
  have T := Lib.hid (Two.of_new S1.out hf hI hN)
  clear hI hN hf S1
  go_wp2_with fail
  refine (order_own T.out.b.own).mono ?_
  rintro e W3 ⟨u1, rfl, hu1, hf, hg1⟩
  have R1 := Lib.hid (Row2.new T.out hu1 hg1)
  have T := Lib.hid (T.out.later hf)
  clear hu1 hf hg1
  go_wp2_with fail
  refine (order_own T.out.a.own).mono ?_
  rintro e W4 ⟨u2, rfl, hu2, hf, hg1⟩
  have R2 := Lib.hid (Row2.new T.out hu2 hg1)
  have R1 := Lib.hid (R1.out.later hf)
  have T := Lib.hid (T.out.later hf)
  clear hu2 hf hg1
  go_wp2_with fail
  have lL : (plI L).length ≤ 100000 := by have := T.out.a.own.is.len; rw [plI, List.length_map]; omega
  have LL := Lib.hid lL
  have HS := SameInts_any _ _ _ _ W4 R1.out.a.row R2.out.a.row lL lL
  rw [show decide (plI L = plI L) = true by simp] at HS
  refine HS.mono ?_
  rintro e W5 ⟨rfl, hf⟩
  have T := Lib.hid (T.out.later hf.to0)
  clear HS hf R1 R2 lL
  go_wp2_with fail
  refine (order_own T.out.a.own).mono ?_
  rintro e W6 ⟨u3, rfl, hu2, hf, hg1⟩
  have R3 := Lib.hid (Row2.new T.out hu2 hg1)
  have T := Lib.hid (T.out.later hf)
  clear hu2 hf hg1
  obtain ⟨q, hq⟩ : ∃ q : Nat, y1 % 24 = q := ⟨(y1 % 24).toNat, by omega⟩
  have q0 : (0 : Int) ≤ q := by omega
  have q1 : (q : Int) < 24 := by omega
  have hq24 : q < 24 := by omega
  have hbx := T.out.a.box (List.mem_cons_self ..)
  have x0 : W6.cell? ⟨X, 0, none⟩ = some (.int .u8 y0) := by rw [cells_at hbx]; rfl
  have x1 : W6.cell? ⟨X, 1, none⟩ = some (.int .u8 y1) := by rw [cells_at hbx]; rfl
  have x2 : W6.cell? ⟨X, 2, none⟩ = some (.int .u8 y2) := by rw [cells_at hbx]; rfl
  have x3 : W6.cell? ⟨X, 3, none⟩ = some (.int .u8 y3) := by rw [cells_at hbx]; rfl
  have tm := T.out.a.mark (p := q) (by rw [HH.out.tl]; exact hq24)
  clear hbx
  go_upto_region 11 with (fail)
  rw [hq]
  clear hq
  have HLen := Lib.hid (show L.length ≤ 24 from T.out.a.own.is.len)
  cases ht : Ts.getD q false
  · rw [ht] at tm
    go_wp2_with fail
    refine (of_any ⟨y0, y1, y2, y3⟩ Hok.out _).mono ?_
    rintro e W7 ⟨rfl, hf⟩
    have T := Lib.hid (T.out.later hf.to0)
    have R3 := Lib.hid (R3.out.later hf.to0)
    clear hf x0 x1 x2 x3
    obtain ⟨kk, hkk⟩ : ∃ kk, ofK ⟨y0, y1, y2, y3⟩ = kk := ⟨_, rfl⟩
    rw [hkk]
    clear hkk
    obtain ⟨ka, kb, kc⟩ := kk
    simp only [keyV]
    go_wp2_with fail
    obtain ⟨he, hh⟩ := HH.out.put T.out.b.own.is.once hq24 ht ⟨ka, kb, kc⟩
    have HP := put_own T.out.b.own (q : Int) ⟨ka, kb, kc⟩
    simp only [keyV] at HP
    rw [he] at HP
    obtain ⟨L2, hL2⟩ : ∃ L2, putL 24 L (q : Int) ⟨ka, kb, kc⟩ = L2 := ⟨_, rfl⟩
    rw [hL2] at HP hh
    have hn := has_err hh hq24
    rw [getD_set_self _ _ _ _ (by rw [HH.out.tl]; exact hq24)] at hn
    refine HP.mono ?_
    rintro e W8 ⟨rfl, v1, hO, hS⟩
    have T := Lib.hid (T.out.swap.step hO hS).swap
    have R3 := Lib.hid (R3.out.swap.step hS).swap
    have HN := Lib.hid hn
    have Ht := Lib.hid ht
    clear HP hh hn hO hS ht hL2 he tm
    have lL : (plI L).length ≤ 100000 := LL.out
    have c1 : W8.cell? ⟨KB + 1, q, none⟩ = some (.bool false) := by have h := T.out.a.mark (p := q) (by rw [HH.out.tl]; exact hq24); rw [Ht.out] at h; exact h
    have LL2 := Lib.hid (show (plI L2).length ≤ 100000 by have := T.out.b.own.is.len; rw [plI, List.length_map]; omega)
    clear lL
    go_upto_region 14 with (fail)
    refine wp_region_held_drew (S := fun W' => W'.cell? ⟨KB + 1, q, none⟩ = some (.bool false)) (by kernel_rfl) c1 (fun hHeld => ?_)
    have T := Lib.hid (T.out.later (Fr.refl none' W8).drew.to0)
    have R3 := Lib.hid (R3.out.later (Fr.refl none' W8).drew.to0)
    refine take_on (i := 0) (v := .pointer (some ⟨hb, 0, none⟩)) rfl (by kernel_rfl) (by kernel_rfl) (by kernel_rfl) (fun _ _ _ h => h) (by kernel_rfl) (fun W' hSW => ?_) (by assumption) ?_
    · (try dsimp only at hSW)
      first | (go_simp; done) | exact rfl | (go_simp; rfl) | (go_simp; omega)
    try simp only [Act.put, List.setIfInBounds_toArray, List.set_cons_zero, List.set_cons_succ]
    refine take_on (i := 2) (v := u3) rfl (by kernel_rfl) (by kernel_rfl) (by kernel_rfl) (fun _ _ _ h => h) (by kernel_rfl) (fun W' hSW => ?_) (by assumption) ?_
    · (try dsimp only at hSW)
      first | (go_simp; done) | exact rfl | (go_simp; rfl) | (go_simp; omega)
    try simp only [Act.put, List.setIfInBounds_toArray, List.set_cons_zero, List.set_cons_succ]
    refine take_call (i := 1) rfl (by kernel_rfl) (by kernel_rfl) (fun K hK => ?_)
    go_simp
    refine (order_own T.out.a.own).mono ?_
    rintro e W9 ⟨u4, rfl, hu4, hf, hg4⟩
    have I4 := Lib.hid hu4
    have T := Lib.hid (T.out.later hf)
    have R3 := Lib.hid (R3.out.later hf)
    replace c1 := hf.later (p := ⟨KB + 1, q, none⟩) (v := .bool false) c1
    clear hu4 hf hg4
    go_wp2_with fail
    refine hK.out _ _ c1 (fun hHeld1 => ?_)
    clear hK K
    try simp only [Act.put, List.setIfInBounds_toArray, List.set_cons_zero, List.set_cons_succ]
    refine take_call (i := 3) rfl (by kernel_rfl) (by kernel_rfl) (fun K hK => ?_)
    go_simp
    have HS := SameInts_any _ _ _ _ W9 I4.out R3.out.a.row LL.out LL.out
    rw [show decide (plI L = plI L) = true by simp] at HS
    refine HS.mono ?_
    rintro e W10 ⟨rfl, hf⟩
    have T := Lib.hid (T.out.later hf.to0)
    replace c1 := hf.later (p := ⟨KB + 1, q, none⟩) (v := .bool false) c1
    clear HS hf R3 I4
    go_wp2_with fail
    refine hK.out _ _ c1 (fun hHeld3 => ?_)
    clear hK K
    try simp only [Act.put, List.setIfInBounds_toArray, List.set_cons_zero, List.set_cons_succ]
    refine take_on (i := 4) (v := .bool false) rfl (by kernel_rfl) (by kernel_rfl) (by kernel_rfl) (fun _ _ _ h => h) (by kernel_rfl) (fun W' hSW => ?_) (by assumption) ?_
    · (try dsimp only at hSW)
      first | (go_simp; done) | exact rfl | (go_simp; rfl) | (go_simp; omega)
    try simp only [Act.put, List.setIfInBounds_toArray, List.set_cons_zero, List.set_cons_succ]
    refine take_on (i := 5) (v := .bool false) rfl (by kernel_rfl) (by kernel_rfl) (by kernel_rfl) (fun _ _ _ h => h) (by kernel_rfl) (fun W' hSW => ?_) (by assumption) ?_
    · (try dsimp only at hSW)
      first | (go_simp; done) | exact rfl | (go_simp; rfl) | (go_simp; omega)
    try simp only [Act.put, List.setIfInBounds_toArray, List.set_cons_zero, List.set_cons_succ]
    refine take_on (i := 6) (v := .pointer (some ⟨hb, 0, none⟩)) rfl (by kernel_rfl) (by kernel_rfl) (by kernel_rfl) (fun _ _ _ h => h) (by kernel_rfl) (fun W' hSW => ?_) (by assumption) ?_
    · (try dsimp only at hSW)
      first | (go_simp; done) | exact rfl | (go_simp; rfl) | (go_simp; omega)
    try simp only [Act.put, List.setIfInBounds_toArray, List.set_cons_zero, List.set_cons_succ]
    refine take_on (i := 7) (v := .int .i64 q) rfl (by kernel_rfl) (by kernel_rfl) (by kernel_rfl) (fun _ _ _ h => h) (by kernel_rfl) (fun W' hSW => ?_) (by assumption) ?_
    · (try dsimp only at hSW)
      first | (go_simp; done) | exact rfl | (go_simp; rfl) | (go_simp; omega)
    try simp only [Act.put, List.setIfInBounds_toArray, List.set_cons_zero, List.set_cons_succ]
    refine take_on (i := 9) (v := .int .i64 q) rfl (by kernel_rfl) (by kernel_rfl) (by kernel_rfl) (fun _ _ _ h => h) (by kernel_rfl) (fun W' hSW => ?_) (by assumption) ?_
    · (try dsimp only at hSW)
      first | (go_simp; done) | exact rfl | (go_simp; rfl) | (go_simp; omega)
    try simp only [Act.put, List.setIfInBounds_toArray, List.set_cons_zero, List.set_cons_succ]
    refine take_on (i := 10) (v := .pointer (some ⟨KB + 1, q, none⟩)) rfl (by kernel_rfl) (by kernel_rfl) (by kernel_rfl) (fun _ _ _ h => h) (by kernel_rfl) (fun W' hSW => ?_) (by assumption) ?_
    · (try dsimp only at hSW)
      first | (go_simp; done) | exact rfl | (go_simp; rfl) | (go_simp; omega)
    try simp only [Act.put, List.setIfInBounds_toArray, List.set_cons_zero, List.set_cons_succ]
    refine take_on (i := 11) (v := .bool false) rfl (by kernel_rfl) (by kernel_rfl) (by kernel_rfl) (fun _ _ _ h => h) (by kernel_rfl) (fun W' hSW => ?_) (by assumption) ?_
    · (try dsimp only at hSW)
      first | (go_simp; done) | exact rfl | (go_simp; rfl) | (go_simp; omega)
    try simp only [Act.put, List.setIfInBounds_toArray, List.set_cons_zero, List.set_cons_succ]
    refine take_call (i := 8) rfl (by kernel_rfl) (by kernel_rfl) (fun K hK => ?_)
    go_simp
    have HS := Has_is T.out.a.own.is (q : Int)
    rw [has_err HH.out hq24, Ht.out] at HS
    refine HS.mono ?_
    rintro e W11 ⟨rfl, hf⟩
    have T := Lib.hid (T.out.later hf.to0)
    replace c1 := hf.later (p := ⟨KB + 1, q, none⟩) (v := .bool false) c1
    clear HS hf
    go_wp2_with fail
    refine hK.out _ _ c1 (fun hHeld8 => ?_)
    clear hK K
    try simp only [Act.put, List.setIfInBounds_toArray, List.set_cons_zero, List.set_cons_succ]
    refine take_on (i := 12) (v := .bool false) rfl (by kernel_rfl) (by kernel_rfl) (by kernel_rfl) (fun _ _ _ h => h) (by kernel_rfl) (fun W' hSW => ?_) (by assumption) ?_
    · (try dsimp only at hSW)
      first | (go_simp; done) | exact rfl | (go_simp; rfl) | (go_simp; omega)
    try simp only [Act.put, List.setIfInBounds_toArray, List.set_cons_zero, List.set_cons_succ]
    refine take_on (i := 13) (v := .bool false) rfl (by kernel_rfl) (by kernel_rfl) (by kernel_rfl) (fun _ _ _ h => h) (by kernel_rfl) (fun W' hSW => ?_) (by assumption) ?_
    · (try dsimp only at hSW)
      first | (go_simp; done) | exact rfl | (go_simp; rfl) | (go_simp; omega)
    try simp only [Act.put, List.setIfInBounds_toArray, List.set_cons_zero, List.set_cons_succ]
    refine take_on (i := 14) (v := .bool false) rfl (by kernel_rfl) (by kernel_rfl) (by kernel_rfl) (fun _ _ _ h => h) (by kernel_rfl) (fun W' hSW => ?_) (by assumption) ?_
    · (try dsimp only at hSW)
      first | (go_simp; done) | exact rfl | (go_simp; rfl) | (go_simp; omega)
    try simp only [Act.put, List.setIfInBounds_toArray, List.set_cons_zero, List.set_cons_succ]
    refine take_on (i := 15) (v := .pointer (some ⟨hb', 0, none⟩)) rfl (by kernel_rfl) (by kernel_rfl) (by kernel_rfl) (fun _ _ _ h => h) (by kernel_rfl) (fun W' hSW => ?_) (by assumption) ?_
    · (try dsimp only at hSW)
      first | (go_simp; done) | exact rfl | (go_simp; rfl) | (go_simp; omega)
    try simp only [Act.put, List.setIfInBounds_toArray, List.set_cons_zero, List.set_cons_succ]
    refine take_on (i := 16) (v := .int .i64 q) rfl (by kernel_rfl) (by kernel_rfl) (by kernel_rfl) (fun _ _ _ h => h) (by kernel_rfl) (fun W' hSW => ?_) (by assumption) ?_
    · (try dsimp only at hSW)
      first | (go_simp; done) | exact rfl | (go_simp; rfl) | (go_simp; omega)
    try simp only [Act.put, List.setIfInBounds_toArray, List.set_cons_zero, List.set_cons_succ]
    refine take_on (i := 18) (v := .int .i64 q) rfl (by kernel_rfl) (by kernel_rfl) (by kernel_rfl) (fun _ _ _ h => h) (by kernel_rfl) (fun W' hSW => ?_) (by assumption) ?_
    · (try dsimp only at hSW)
      first | (go_simp; done) | exact rfl | (go_simp; rfl) | (go_simp; omega)
    try simp only [Act.put, List.setIfInBounds_toArray, List.set_cons_zero, List.set_cons_succ]
    refine take_on (i := 19) (v := .pointer (some ⟨KB + 1, q, none⟩)) rfl (by kernel_rfl) (by kernel_rfl) (by kernel_rfl) (fun _ _ _ h => h) (by kernel_rfl) (fun W' hSW => ?_) (by assumption) ?_
    · (try dsimp only at hSW)
      first | (go_simp; done) | exact rfl | (go_simp; rfl) | (go_simp; omega)
    try simp only [Act.put, List.setIfInBounds_toArray, List.set_cons_zero, List.set_cons_succ]
    refine take_on (i := 20) (v := .bool false) rfl (by kernel_rfl) (by kernel_rfl) (by kernel_rfl) (fun _ _ _ h => h) (by kernel_rfl) (fun W' hSW => ?_) (by assumption) ?_
    · (try dsimp only at hSW)
      first | (go_simp; done) | exact rfl | (go_simp; rfl) | (go_simp; omega)
    try simp only [Act.put, List.setIfInBounds_toArray, List.set_cons_zero, List.set_cons_succ]
    refine take_call (i := 17) rfl (by kernel_rfl) (by kernel_rfl) (fun K hK => ?_)
    go_simp
    have HS := Has_is T.out.b.own.is (q : Int)
    rw [HN.out] at HS
    refine HS.mono ?_
    rintro e W12 ⟨rfl, hf⟩
    have T := Lib.hid (T.out.later hf.to0)
    replace c1 := hf.later (p := ⟨KB + 1, q, none⟩) (v := .bool false) c1
    clear HS hf
    go_wp2_with fail
    refine hK.out _ _ c1 (fun hHeld17 => ?_)
    clear hK K
    try simp only [Act.put, List.setIfInBounds_toArray, List.set_cons_zero, List.set_cons_succ]
    refine take_on (i := 21) (v := .bool false) rfl (by kernel_rfl) (by kernel_rfl) (by kernel_rfl) (fun _ _ _ h => h) (by kernel_rfl) (fun W' hSW => ?_) (by assumption) ?_
    · (try dsimp only at hSW)
      first | (go_simp; done) | exact rfl | (go_simp; rfl) | (go_simp; omega)
    try simp only [Act.put, List.setIfInBounds_toArray, List.set_cons_zero, List.set_cons_succ]
    refine take_on (i := 22) (v := .bool false) rfl (by kernel_rfl) (by kernel_rfl) (by kernel_rfl) (fun _ _ _ h => h) (by kernel_rfl) (fun W' hSW => ?_) (by assumption) ?_
    · (try dsimp only at hSW)
      first | (go_simp; done) | exact rfl | (go_simp; rfl) | (go_simp; omega)
    try simp only [Act.put, List.setIfInBounds_toArray, List.set_cons_zero, List.set_cons_succ]
    refine wpAnyH_done (by kernel_rfl) ?_ _
    clear hHeld hHeld1 hHeld3 hHeld8 hHeld17 c1
    go_wp2_with fail
    refine (order_own T.out.b.own).mono ?_
    rintro e W13 ⟨u5, rfl, hu5, hf, hg5⟩
    have R5 := Lib.hid (Row2.new T.out hu5 hg5)
    have T := Lib.hid (T.out.later hf)
    clear hu5 hf hg5
    go_wp2_with fail
    go_loopw [78] (fun i wr => ∃ (k : Nat) (v2 : Value), k ≤ 24 ∧ i = .int .i64 k ∧ Hid (Two w wr hb ba v2 (L.drop k) hb' ba' v1 L2 Ks Ts KB (KB + 1) [(X, .cells #[.int .u8 y0, .int .u8 y1, .int .u8 y2, .int .u8 y3] 36)]) ∧ Hid (Row2 wr hb ba v2 hb' ba' v1 u5 (plI L2))) (fun i _ => 24 - (intOf i).toNat)
    case atStart => exact ⟨0, _, by omega, rfl, T, R5⟩
    case round =>
      obtain ⟨k, v2, hk, rfl, T, R5⟩ := hrel
      by_cases hlt : k < 24
      · have j1 : (k : Int) < 24 := by omega
        go_wp2_with fail
        refine (take_own T.out.a.own).mono ?_
        rintro e W14 ⟨rfl, v3, hO, hS⟩
        have T2 := Lib.hid (T.out.step hO hS)
        have R6 := Lib.hid (R5.out.step hS)
        clear hO hS T R5
        rw [List.tail_drop] at T2
        obtain ⟨lp, hlp⟩ : ∃ lp, leastP (L.drop k) = lp := ⟨_, rfl⟩
        obtain ⟨lk, hlk⟩ : ∃ lk, keyV (takeK (L.drop k)) = lk := ⟨_, rfl⟩
        obtain ⟨le, hle⟩ : ∃ le, takeE (L.drop k) = le := ⟨_, rfl⟩
        rw [hlp, hlk, hle]
        clear hlp hlk hle
        go_wp2
        go_roundw
        case rel => exact ⟨k + 1, v3, by omega, by go_num, T2, R6⟩
        case measure => simp [intOf]; omega
      · have hk24 : k = 24 := by omega
        subst hk24
        have hnil : L.drop 24 = [] := List.drop_eq_nil_of_le (by have := HLen.out; omega)
        rw [hnil] at T
        clear hnil
        go_wp2_with fail
        have HL := Len_is T.out.a.own.is
        rw [show (([] : List Ent).length : Nat) = 0 from rfl] at HL
        refine HL.mono ?_
        rintro e W15 ⟨rfl, rfl⟩
        clear HL
        go_wp2_with fail
        refine (order_own T.out.b.own).mono ?_
        rintro e W16 ⟨u6, rfl, hu6, hf, hg6⟩
        have I6 := Lib.hid hu6
        have T := Lib.hid (T.out.later hf)
        have R5 := Lib.hid (R5.out.later hf)
        clear hu6 hf hg6
        go_wp2_with fail
        have HS := SameInts_any _ _ _ _ W16 I6.out R5.out.a.row LL2.out LL2.out
        rw [show decide (plI L2 = plI L2) = true by simp] at HS
        refine HS.mono ?_
        rintro e W17 ⟨rfl, hf⟩
        have T := Lib.hid (T.out.later hf.to0)
        clear HS hf R5 I6
        go_wp2
        go_ret
        exact ⟨rfl, T.out.a.own.fr.below (Nat.le_refl _) (fun _ _ h => h)⟩
  · rw [ht] at tm
    go_wp2_with fail
    obtain ⟨he, hh⟩ := HH.out.rem T.out.b.own.is.once hq24 ht
    have HP := rem_own T.out.b.own (q : Int)
    obtain ⟨L2, hL2⟩ : ∃ L2, delP 24 L (q : Int) = L2 := ⟨_, rfl⟩
    rw [hL2] at HP hh
    obtain ⟨kv, hkv⟩ : ∃ kv, keyV (keyP 24 L (q : Int)) = kv := ⟨_, rfl⟩
    rw [hkv, he] at HP
    have hn := has_err hh hq24
    rw [getD_set_self _ _ _ _ (by rw [HH.out.tl]; exact hq24)] at hn
    refine HP.mono ?_
    rintro e W8 ⟨rfl, v1, hO, hS⟩
    have T := Lib.hid (T.out.swap.step hO hS).swap
    have R3 := Lib.hid (R3.out.swap.step hS).swap
    have HN := Lib.hid hn
    have Ht := Lib.hid ht
    clear HP hh hn hO hS ht hL2 he hkv tm x0 x1 x2 x3
    have lL : (plI L).length ≤ 100000 := LL.out
    have c1 : W8.cell? ⟨KB + 1, q, none⟩ = some (.bool true) := by have h := T.out.a.mark (p := q) (by rw [HH.out.tl]; exact hq24); rw [Ht.out] at h; exact h
    have LL2 := Lib.hid (show (plI L2).length ≤ 100000 by have := T.out.b.own.is.len; rw [plI, List.length_map]; omega)
    clear lL
    go_upto_region 14 with (fail)
    refine wp_region_held_drew (S := fun W' => W'.cell? ⟨KB + 1, q, none⟩ = some (.bool true)) (by kernel_rfl) c1 (fun hHeld => ?_)
    have T := Lib.hid (T.out.later (Fr.refl none' W8).drew.to0)
    have R3 := Lib.hid (R3.out.later (Fr.refl none' W8).drew.to0)
    refine take_on (i := 0) (v := .pointer (some ⟨hb, 0, none⟩)) rfl (by kernel_rfl) (by kernel_rfl) (by kernel_rfl) (fun _ _ _ h => h) (by kernel_rfl) (fun W' hSW => ?_) (by assumption) ?_
    · (try dsimp only at hSW)
      first | (go_simp; done) | exact rfl | (go_simp; rfl) | (go_simp; omega)
    try simp only [Act.put, List.setIfInBounds_toArray, List.set_cons_zero, List.set_cons_succ]
    refine take_on (i := 2) (v := u3) rfl (by kernel_rfl) (by kernel_rfl) (by kernel_rfl) (fun _ _ _ h => h) (by kernel_rfl) (fun W' hSW => ?_) (by assumption) ?_
    · (try dsimp only at hSW)
      first | (go_simp; done) | exact rfl | (go_simp; rfl) | (go_simp; omega)
    try simp only [Act.put, List.setIfInBounds_toArray, List.set_cons_zero, List.set_cons_succ]
    refine take_call (i := 1) rfl (by kernel_rfl) (by kernel_rfl) (fun K hK => ?_)
    go_simp
    refine (order_own T.out.a.own).mono ?_
    rintro e W9 ⟨u4, rfl, hu4, hf, hg4⟩
    have I4 := Lib.hid hu4
    have T := Lib.hid (T.out.later hf)
    have R3 := Lib.hid (R3.out.later hf)
    replace c1 := hf.later (p := ⟨KB + 1, q, none⟩) (v := .bool true) c1
    clear hu4 hf hg4
    go_wp2_with fail
    refine hK.out _ _ c1 (fun hHeld1 => ?_)
    clear hK K
    try simp only [Act.put, List.setIfInBounds_toArray, List.set_cons_zero, List.set_cons_succ]
    refine take_call (i := 3) rfl (by kernel_rfl) (by kernel_rfl) (fun K hK => ?_)
    go_simp
    have HS := SameInts_any _ _ _ _ W9 I4.out R3.out.a.row LL.out LL.out
    rw [show decide (plI L = plI L) = true by simp] at HS
    refine HS.mono ?_
    rintro e W10 ⟨rfl, hf⟩
    have T := Lib.hid (T.out.later hf.to0)
    replace c1 := hf.later (p := ⟨KB + 1, q, none⟩) (v := .bool true) c1
    clear HS hf R3 I4
    go_wp2_with fail
    refine hK.out _ _ c1 (fun hHeld3 => ?_)
    clear hK K
    try simp only [Act.put, List.setIfInBounds_toArray, List.set_cons_zero, List.set_cons_succ]
    refine take_on (i := 4) (v := .bool false) rfl (by kernel_rfl) (by kernel_rfl) (by kernel_rfl) (fun _ _ _ h => h) (by kernel_rfl) (fun W' hSW => ?_) (by assumption) ?_
    · (try dsimp only at hSW)
      first | (go_simp; done) | exact rfl | (go_simp; rfl) | (go_simp; omega)
    try simp only [Act.put, List.setIfInBounds_toArray, List.set_cons_zero, List.set_cons_succ]
    refine take_on (i := 5) (v := .bool false) rfl (by kernel_rfl) (by kernel_rfl) (by kernel_rfl) (fun _ _ _ h => h) (by kernel_rfl) (fun W' hSW => ?_) (by assumption) ?_
    · (try dsimp only at hSW)
      first | (go_simp; done) | exact rfl | (go_simp; rfl) | (go_simp; omega)
    try simp only [Act.put, List.setIfInBounds_toArray, List.set_cons_zero, List.set_cons_succ]
    refine take_on (i := 6) (v := .pointer (some ⟨hb, 0, none⟩)) rfl (by kernel_rfl) (by kernel_rfl) (by kernel_rfl) (fun _ _ _ h => h) (by kernel_rfl) (fun W' hSW => ?_) (by assumption) ?_
    · (try dsimp only at hSW)
      first | (go_simp; done) | exact rfl | (go_simp; rfl) | (go_simp; omega)
    try simp only [Act.put, List.setIfInBounds_toArray, List.set_cons_zero, List.set_cons_succ]
    refine take_on (i := 7) (v := .int .i64 q) rfl (by kernel_rfl) (by kernel_rfl) (by kernel_rfl) (fun _ _ _ h => h) (by kernel_rfl) (fun W' hSW => ?_) (by assumption) ?_
    · (try dsimp only at hSW)
      first | (go_simp; done) | exact rfl | (go_simp; rfl) | (go_simp; omega)
    try simp only [Act.put, List.setIfInBounds_toArray, List.set_cons_zero, List.set_cons_succ]
    refine take_on (i := 9) (v := .int .i64 q) rfl (by kernel_rfl) (by kernel_rfl) (by kernel_rfl) (fun _ _ _ h => h) (by kernel_rfl) (fun W' hSW => ?_) (by assumption) ?_
    · (try dsimp only at hSW)
      first | (go_simp; done) | exact rfl | (go_simp; rfl) | (go_simp; omega)
    try simp only [Act.put, List.setIfInBounds_toArray, List.set_cons_zero, List.set_cons_succ]
    refine take_on (i := 10) (v := .pointer (some ⟨KB + 1, q, none⟩)) rfl (by kernel_rfl) (by kernel_rfl) (by kernel_rfl) (fun _ _ _ h => h) (by kernel_rfl) (fun W' hSW => ?_) (by assumption) ?_
    · (try dsimp only at hSW)
      first | (go_simp; done) | exact rfl | (go_simp; rfl) | (go_simp; omega)
    try simp only [Act.put, List.setIfInBounds_toArray, List.set_cons_zero, List.set_cons_succ]
    refine take_on (i := 11) (v := .bool true) rfl (by kernel_rfl) (by kernel_rfl) (by kernel_rfl) (fun _ _ _ h => h) (by kernel_rfl) (fun W' hSW => ?_) (by assumption) ?_
    · (try dsimp only at hSW)
      first | (go_simp; done) | exact rfl | (go_simp; rfl) | (go_simp; omega)
    try simp only [Act.put, List.setIfInBounds_toArray, List.set_cons_zero, List.set_cons_succ]
    refine take_call (i := 8) rfl (by kernel_rfl) (by kernel_rfl) (fun K hK => ?_)
    go_simp
    have HS := Has_is T.out.a.own.is (q : Int)
    rw [has_err HH.out hq24, Ht.out] at HS
    refine HS.mono ?_
    rintro e W11 ⟨rfl, hf⟩
    have T := Lib.hid (T.out.later hf.to0)
    replace c1 := hf.later (p := ⟨KB + 1, q, none⟩) (v := .bool true) c1
    clear HS hf
    go_wp2_with fail
    refine hK.out _ _ c1 (fun hHeld8 => ?_)
    clear hK K
    try simp only [Act.put, List.setIfInBounds_toArray, List.set_cons_zero, List.set_cons_succ]
    refine take_on (i := 12) (v := .bool false) rfl (by kernel_rfl) (by kernel_rfl) (by kernel_rfl) (fun _ _ _ h => h) (by kernel_rfl) (fun W' hSW => ?_) (by assumption) ?_
    · (try dsimp only at hSW)
      first | (go_simp; done) | exact rfl | (go_simp; rfl) | (go_simp; omega)
    try simp only [Act.put, List.setIfInBounds_toArray, List.set_cons_zero, List.set_cons_succ]
    refine take_on (i := 13) (v := .bool false) rfl (by kernel_rfl) (by kernel_rfl) (by kernel_rfl) (fun _ _ _ h => h) (by kernel_rfl) (fun W' hSW => ?_) (by assumption) ?_
    · (try dsimp only at hSW)
      first | (go_simp; done) | exact rfl | (go_simp; rfl) | (go_simp; omega)
    try simp only [Act.put, List.setIfInBounds_toArray, List.set_cons_zero, List.set_cons_succ]
    refine take_on (i := 14) (v := .bool false) rfl (by kernel_rfl) (by kernel_rfl) (by kernel_rfl) (fun _ _ _ h => h) (by kernel_rfl) (fun W' hSW => ?_) (by assumption) ?_
    · (try dsimp only at hSW)
      first | (go_simp; done) | exact rfl | (go_simp; rfl) | (go_simp; omega)
    try simp only [Act.put, List.setIfInBounds_toArray, List.set_cons_zero, List.set_cons_succ]
    refine take_on (i := 15) (v := .pointer (some ⟨hb', 0, none⟩)) rfl (by kernel_rfl) (by kernel_rfl) (by kernel_rfl) (fun _ _ _ h => h) (by kernel_rfl) (fun W' hSW => ?_) (by assumption) ?_
    · (try dsimp only at hSW)
      first | (go_simp; done) | exact rfl | (go_simp; rfl) | (go_simp; omega)
    try simp only [Act.put, List.setIfInBounds_toArray, List.set_cons_zero, List.set_cons_succ]
    refine take_on (i := 16) (v := .int .i64 q) rfl (by kernel_rfl) (by kernel_rfl) (by kernel_rfl) (fun _ _ _ h => h) (by kernel_rfl) (fun W' hSW => ?_) (by assumption) ?_
    · (try dsimp only at hSW)
      first | (go_simp; done) | exact rfl | (go_simp; rfl) | (go_simp; omega)
    try simp only [Act.put, List.setIfInBounds_toArray, List.set_cons_zero, List.set_cons_succ]
    refine take_on (i := 18) (v := .int .i64 q) rfl (by kernel_rfl) (by kernel_rfl) (by kernel_rfl) (fun _ _ _ h => h) (by kernel_rfl) (fun W' hSW => ?_) (by assumption) ?_
    · (try dsimp only at hSW)
      first | (go_simp; done) | exact rfl | (go_simp; rfl) | (go_simp; omega)
    try simp only [Act.put, List.setIfInBounds_toArray, List.set_cons_zero, List.set_cons_succ]
    refine take_on (i := 19) (v := .pointer (some ⟨KB + 1, q, none⟩)) rfl (by kernel_rfl) (by kernel_rfl) (by kernel_rfl) (fun _ _ _ h => h) (by kernel_rfl) (fun W' hSW => ?_) (by assumption) ?_
    · (try dsimp only at hSW)
      first | (go_simp; done) | exact rfl | (go_simp; rfl) | (go_simp; omega)
    try simp only [Act.put, List.setIfInBounds_toArray, List.set_cons_zero, List.set_cons_succ]
    refine take_on (i := 20) (v := .bool true) rfl (by kernel_rfl) (by kernel_rfl) (by kernel_rfl) (fun _ _ _ h => h) (by kernel_rfl) (fun W' hSW => ?_) (by assumption) ?_
    · (try dsimp only at hSW)
      first | (go_simp; done) | exact rfl | (go_simp; rfl) | (go_simp; omega)
    try simp only [Act.put, List.setIfInBounds_toArray, List.set_cons_zero, List.set_cons_succ]
    refine take_call (i := 17) rfl (by kernel_rfl) (by kernel_rfl) (fun K hK => ?_)
    go_simp
    have HS := Has_is T.out.b.own.is (q : Int)
    rw [HN.out] at HS
    refine HS.mono ?_
    rintro e W12 ⟨rfl, hf⟩
    have T := Lib.hid (T.out.later hf.to0)
    replace c1 := hf.later (p := ⟨KB + 1, q, none⟩) (v := .bool true) c1
    clear HS hf
    go_wp2_with fail
    refine hK.out _ _ c1 (fun hHeld17 => ?_)
    clear hK K
    try simp only [Act.put, List.setIfInBounds_toArray, List.set_cons_zero, List.set_cons_succ]
    refine take_on (i := 21) (v := .bool false) rfl (by kernel_rfl) (by kernel_rfl) (by kernel_rfl) (fun _ _ _ h => h) (by kernel_rfl) (fun W' hSW => ?_) (by assumption) ?_
    · (try dsimp only at hSW)
      first | (go_simp; done) | exact rfl | (go_simp; rfl) | (go_simp; omega)
    try simp only [Act.put, List.setIfInBounds_toArray, List.set_cons_zero, List.set_cons_succ]
    refine take_on (i := 22) (v := .bool false) rfl (by kernel_rfl) (by kernel_rfl) (by kernel_rfl) (fun _ _ _ h => h) (by kernel_rfl) (fun W' hSW => ?_) (by assumption) ?_
    · (try dsimp only at hSW)
      first | (go_simp; done) | exact rfl | (go_simp; rfl) | (go_simp; omega)
    try simp only [Act.put, List.setIfInBounds_toArray, List.set_cons_zero, List.set_cons_succ]
    refine wpAnyH_done (by kernel_rfl) ?_ _
    clear hHeld hHeld1 hHeld3 hHeld8 hHeld17 c1
    go_wp2_with fail
    refine (order_own T.out.b.own).mono ?_
    rintro e W13 ⟨u5, rfl, hu5, hf, hg5⟩
    have R5 := Lib.hid (Row2.new T.out hu5 hg5)
    have T := Lib.hid (T.out.later hf)
    clear hu5 hf hg5
    go_wp2_with fail
    go_loopw [78] (fun i wr => ∃ (k : Nat) (v2 : Value), k ≤ 24 ∧ i = .int .i64 k ∧ Hid (Two w wr hb ba v2 (L.drop k) hb' ba' v1 L2 Ks Ts KB (KB + 1) [(X, .cells #[.int .u8 y0, .int .u8 y1, .int .u8 y2, .int .u8 y3] 36)]) ∧ Hid (Row2 wr hb ba v2 hb' ba' v1 u5 (plI L2))) (fun i _ => 24 - (intOf i).toNat)
    case atStart => exact ⟨0, _, by omega, rfl, T, R5⟩
    case round =>
      obtain ⟨k, v2, hk, rfl, T, R5⟩ := hrel
      by_cases hlt : k < 24
      · have j1 : (k : Int) < 24 := by omega
        go_wp2_with fail
        refine (take_own T.out.a.own).mono ?_
        rintro e W14 ⟨rfl, v3, hO, hS⟩
        have T2 := Lib.hid (T.out.step hO hS)
        have R6 := Lib.hid (R5.out.step hS)
        clear hO hS T R5
        rw [List.tail_drop] at T2
        obtain ⟨lp, hlp⟩ : ∃ lp, leastP (L.drop k) = lp := ⟨_, rfl⟩
        obtain ⟨lk, hlk⟩ : ∃ lk, keyV (takeK (L.drop k)) = lk := ⟨_, rfl⟩
        obtain ⟨le, hle⟩ : ∃ le, takeE (L.drop k) = le := ⟨_, rfl⟩
        rw [hlp, hlk, hle]
        clear hlp hlk hle
        go_wp2
        go_roundw
        case rel => exact ⟨k + 1, v3, by omega, by go_num, T2, R6⟩
        case measure => simp [intOf]; omega
      · have hk24 : k = 24 := by omega
        subst hk24
        have hnil : L.drop 24 = [] := List.drop_eq_nil_of_le (by have := HLen.out; omega)
        rw [hnil] at T
        clear hnil
        go_wp2_with fail
        have HL := Len_is T.out.a.own.is
        rw [show (([] : List Ent).length : Nat) = 0 from rfl] at HL
        refine HL.mono ?_
        rintro e W15 ⟨rfl, rfl⟩
        clear HL
        go_wp2_with fail
        refine (order_own T.out.b.own).mono ?_
        rintro e W16 ⟨u6, rfl, hu6, hf, hg6⟩
        have I6 := Lib.hid hu6
        have T := Lib.hid (T.out.later hf)
        have R5 := Lib.hid (R5.out.later hf)
        clear hu6 hf hg6
        go_wp2_with fail
        have HS := SameInts_any _ _ _ _ W16 I6.out R5.out.a.row LL2.out LL2.out
        rw [show decide (plI L2 = plI L2) = true by simp] at HS
        refine HS.mono ?_
        rintro e W17 ⟨rfl, hf⟩
        have T := Lib.hid (T.out.later hf.to0)
        clear HS hf R5 I6
        go_wp2
        go_ret
        exact ⟨rfl, T.out.a.own.fr.below (Nat.le_refl _) (fun _ _ h => h)⟩
end Go.Proofs.Ytbpmdhngobdilaa
