/-
  The examples of the chapter.
-/
import Derived.Test.YtbpmdhngobdilaaHl1
namespace Go.Proofs.Ytbpmdhngobdilaa
open Go.RowKit
attribute [local go_sem ↓] Go.wp_at_zero Go.wp_at_succ

set_option maxRecDepth 100000 in
set_option maxHeartbeats 4000000 in
theorem awake_any (w : World) : Calls Try.prog 10 #[] w fun e w' => e = .returned (.bool true) ∧ Fr0 none' w w' := by
  have HN := Lib.hid (new_own 5 w (by omega))
  go_enter Try.func10, Try.ntmps10
  go_wp2_with fail
  refine HN.out.mono ?_
  rintro e w1 ⟨hb, ba, rfl, hO⟩
  have H := Lib.hid hO
  clear hO
  go_wp2_with fail
  refine (at_any _ _).mono ?_
  rintro e wA ⟨rfl, hfA⟩
  have H := Lib.hid (H.out.later hfA.to0)
  have FA := Lib.hid hfA
  clear hfA
  go_wp2_with fail
  have HP := put_own H.out 3 ⟨7, 0, 0⟩
  rw [show putE 5 [] 3 = 0 by decide, show putL 5 [] 3 ⟨7, 0, 0⟩ = [⟨⟨7, 0, 0⟩, 3⟩] by decide] at HP
  refine HP.mono ?_
  rintro e wB ⟨rfl, v, hO, hS⟩
  have H := Lib.hid hO
  clear hO hS HP FA
  go_wp2_with fail
  refine (at_any _ _).mono ?_
  rintro e wA ⟨rfl, hfA⟩
  have H := Lib.hid (H.out.later hfA.to0)
  have FA := Lib.hid hfA
  clear hfA
  go_wp2_with fail
  have HP := put_own H.out 1 ⟨5, 0, 0⟩
  rw [show putE 5 [⟨⟨7, 0, 0⟩, 3⟩] 1 = 0 by decide, show putL 5 [⟨⟨7, 0, 0⟩, 3⟩] 1 ⟨5, 0, 0⟩ = [⟨⟨5, 0, 0⟩, 1⟩, ⟨⟨7, 0, 0⟩, 3⟩] by decide] at HP
  refine HP.mono ?_
  rintro e wB ⟨rfl, v, hO, hS⟩
  have H := Lib.hid hO
  clear hO hS HP FA
  go_wp2_with fail
  refine (at_any _ _).mono ?_
  rintro e wA ⟨rfl, hfA⟩
  have H := Lib.hid (H.out.later hfA.to0)
  have FA := Lib.hid hfA
  clear hfA
  go_wp2_with fail
  have HP := put_own H.out 4 ⟨5, 0, 0⟩
  rw [show putE 5 [⟨⟨5, 0, 0⟩, 1⟩, ⟨⟨7, 0, 0⟩, 3⟩] 4 = 0 by decide, show putL 5 [⟨⟨5, 0, 0⟩, 1⟩, ⟨⟨7, 0, 0⟩, 3⟩] 4 ⟨5, 0, 0⟩ = [⟨⟨5, 0, 0⟩, 1⟩, ⟨⟨5, 0, 0⟩, 4⟩, ⟨⟨7, 0, 0⟩, 3⟩] by decide] at HP
  refine HP.mono ?_
  rintro e wB ⟨rfl, v, hO, hS⟩
  have H := Lib.hid hO
  clear hO hS HP FA
  go_wp2_with fail
  refine (at_any _ _).mono ?_
  rintro e wA ⟨rfl, hfA⟩
  have H := Lib.hid (H.out.later hfA.to0)
  have FA := Lib.hid hfA
  clear hfA
  go_wp2_with fail
  have HP := put_own H.out 0 ⟨9, 0, 0⟩
  rw [show putE 5 [⟨⟨5, 0, 0⟩, 1⟩, ⟨⟨5, 0, 0⟩, 4⟩, ⟨⟨7, 0, 0⟩, 3⟩] 0 = 0 by decide, show putL 5 [⟨⟨5, 0, 0⟩, 1⟩, ⟨⟨5, 0, 0⟩, 4⟩, ⟨⟨7, 0, 0⟩, 3⟩] 0 ⟨9, 0, 0⟩ = [⟨⟨5, 0, 0⟩, 1⟩, ⟨⟨5, 0, 0⟩, 4⟩, ⟨⟨7, 0, 0⟩, 3⟩, ⟨⟨9, 0, 0⟩, 0⟩] by decide] at HP
  refine HP.mono ?_
  rintro e wB ⟨rfl, v, hO, hS⟩
  have H := Lib.hid hO
  clear hO hS HP FA
  go_wp2_with fail
  have HL := Least_is H.out.is
  simp only [leastP, leastB] at HL
  refine HL.mono ?_
  rintro e wB ⟨rfl, rfl⟩
  clear HL
  go_wp2_with fail
  have HO := order_own H.out
  simp only [plI, List.map_cons, List.map_nil] at HO
  refine HO.mono ?_
  rintro e w2 ⟨u, rfl, hu, hfo, hub⟩
  have H0 := H
  have H := Lib.hid (H.out.later hfo)
  obtain ⟨ua, ucap, hue, huc⟩ := hu
  have U := Lib.hid (show IntsBox w2 hb ba v u [1, 4, 3, 0] from ⟨⟨ua, ucap, hue, huc⟩, fun g hg => ⟨fun hf => by have := H0.out.lt _ hf; have := (hub g hg).1; omega, (hub g hg).2⟩⟩)
  subst hue
  clear HO hfo huc hub H0
  go_wp2_with fail
  refine (at_any _ _).mono ?_
  rintro e wA ⟨rfl, hfA⟩
  have H := Lib.hid (H.out.later hfA.to0)
  have FA := Lib.hid hfA
  clear hfA
  have U := Lib.hid (U.out.later FA.out.to0)
  clear FA
  go_wp2_with fail
  have HC := chg_own H.out 0 ⟨1, 0, 0⟩
  rw [show keyP 5 [⟨⟨5, 0, 0⟩, 1⟩, ⟨⟨5, 0, 0⟩, 4⟩, ⟨⟨7, 0, 0⟩, 3⟩, ⟨⟨9, 0, 0⟩, 0⟩] 0 = ⟨9, 0, 0⟩ by decide, show errP 5 [⟨⟨5, 0, 0⟩, 1⟩, ⟨⟨5, 0, 0⟩, 4⟩, ⟨⟨7, 0, 0⟩, 3⟩, ⟨⟨9, 0, 0⟩, 0⟩] 0 = 0 by decide, show chgL 5 [⟨⟨5, 0, 0⟩, 1⟩, ⟨⟨5, 0, 0⟩, 4⟩, ⟨⟨7, 0, 0⟩, 3⟩, ⟨⟨9, 0, 0⟩, 0⟩] 0 ⟨1, 0, 0⟩ = [⟨⟨1, 0, 0⟩, 0⟩, ⟨⟨5, 0, 0⟩, 1⟩, ⟨⟨5, 0, 0⟩, 4⟩, ⟨⟨7, 0, 0⟩, 3⟩] by decide] at HC
  simp only [keyV] at HC ⊢
  refine HC.mono ?_
  rintro e wB ⟨rfl, v, hO, hS⟩
  have H := Lib.hid hO
  have U := Lib.hid (U.out.step hS)
  clear hO hS HC
  go_wp2_with fail
  obtain ⟨W, hW⟩ : ∃ W, wB.alloc (.cells #[.int .i64 9, .int .i64 0, .int .i64 0] 26) = W := ⟨_, rfl⟩
  rw [hW]
  have H0 := H
  have HW := Lib.hid hW
  have FW := Lib.hid (show Fr none' wB W from hW ▸ (Fr.refl _ _).alloc _)
  have H := Lib.hid (H.out.later FW.out.to0)
  clear hW
  have K := Lib.hid (KeyBox.new H0.out ⟨9, 0, 0⟩)
  rw [HW.out] at K
  obtain ⟨kb, hkb⟩ : ∃ kb, wB.heap.size = kb := ⟨_, rfl⟩
  rw [hkb] at K
  rw [hkb]
  clear hkb
  have U := Lib.hid (U.out.later FW.out.to0)
  clear H0 HW FW
  go_wp2_with fail
  have HT := take_own H.out
  simp only [leastP, takeK, takeE, List.tail, keyV] at HT
  refine HT.mono ?_
  rintro e wB ⟨rfl, v, hO, hS⟩
  have H := Lib.hid hO
  have U := Lib.hid (U.out.step hS)
  have K := Lib.hid (K.out.step hS)
  clear hO hS HT
  go_wp2_with fail
  obtain ⟨W, hW⟩ : ∃ W, wB.alloc (.cells #[.int .i64 1, .int .i64 0, .int .i64 0] 26) = W := ⟨_, rfl⟩
  rw [hW]
  have H0 := H
  have HW := Lib.hid hW
  have FW := Lib.hid (show Fr none' wB W from hW ▸ (Fr.refl _ _).alloc _)
  have H := Lib.hid (H.out.later FW.out.to0)
  clear hW
  have U := Lib.hid (U.out.later FW.out.to0)
  have K := Lib.hid (K.out.later FW.out.to0)
  clear H0 HW FW
  go_wp2_with fail
  have HC := rem_own H.out 4
  rw [show keyP 5 [⟨⟨5, 0, 0⟩, 1⟩, ⟨⟨5, 0, 0⟩, 4⟩, ⟨⟨7, 0, 0⟩, 3⟩] 4 = ⟨5, 0, 0⟩ by decide, show errP 5 [⟨⟨5, 0, 0⟩, 1⟩, ⟨⟨5, 0, 0⟩, 4⟩, ⟨⟨7, 0, 0⟩, 3⟩] 4 = 0 by decide, show delP 5 [⟨⟨5, 0, 0⟩, 1⟩, ⟨⟨5, 0, 0⟩, 4⟩, ⟨⟨7, 0, 0⟩, 3⟩] 4 = [⟨⟨5, 0, 0⟩, 1⟩, ⟨⟨7, 0, 0⟩, 3⟩] by decide] at HC
  simp only [keyV] at HC ⊢
  refine HC.mono ?_
  rintro e wB ⟨rfl, v, hO, hS⟩
  have H := Lib.hid hO
  have U := Lib.hid (U.out.step hS)
  have K := Lib.hid (K.out.step hS)
  clear hO hS HC
  go_wp2_with fail
  obtain ⟨W, hW⟩ : ∃ W, wB.alloc (.cells #[.int .i64 5, .int .i64 0, .int .i64 0] 26) = W := ⟨_, rfl⟩
  rw [hW]
  have H0 := H
  have HW := Lib.hid hW
  have FW := Lib.hid (show Fr none' wB W from hW ▸ (Fr.refl _ _).alloc _)
  have H := Lib.hid (H.out.later FW.out.to0)
  clear hW
  have M := Lib.hid (KeyBox.new H0.out ⟨5, 0, 0⟩)
  rw [HW.out] at M
  obtain ⟨mb, hmb⟩ : ∃ mb, wB.heap.size = mb := ⟨_, rfl⟩
  rw [hmb] at M
  rw [hmb]
  clear hmb
  have U := Lib.hid (U.out.later FW.out.to0)
  have K := Lib.hid (K.out.later FW.out.to0)
  clear H0 HW FW
  go_wp2_with fail
  have HT := take_own H.out
  simp only [leastP, takeK, takeE, List.tail, keyV] at HT
  refine HT.mono ?_
  rintro e wB ⟨rfl, v, hO, hS⟩
  have H := Lib.hid hO
  have U := Lib.hid (U.out.step hS)
  have K := Lib.hid (K.out.step hS)
  have M := Lib.hid (M.out.step hS)
  clear hO hS HT
  go_wp2_with fail
  obtain ⟨W, hW⟩ : ∃ W, wB.alloc (.cells #[.int .i64 5, .int .i64 0, .int .i64 0] 26) = W := ⟨_, rfl⟩
  rw [hW]
  have H0 := H
  have HW := Lib.hid hW
  have FW := Lib.hid (show Fr none' wB W from hW ▸ (Fr.refl _ _).alloc _)
  have H := Lib.hid (H.out.later FW.out.to0)
  clear hW
  have U := Lib.hid (U.out.later FW.out.to0)
  have K := Lib.hid (K.out.later FW.out.to0)
  have M := Lib.hid (M.out.later FW.out.to0)
  clear H0 HW FW
  go_wp2_with fail
  have HT := take_own H.out
  simp only [leastP, takeK, takeE, List.tail, keyV] at HT
  refine HT.mono ?_
  rintro e wB ⟨rfl, v, hO, hS⟩
  have H := Lib.hid hO
  have U := Lib.hid (U.out.step hS)
  have K := Lib.hid (K.out.step hS)
  have M := Lib.hid (M.out.step hS)
  clear hO hS HT
  go_wp2_with fail
  obtain ⟨W, hW⟩ : ∃ W, wB.alloc (.cells #[.int .i64 7, .int .i64 0, .int .i64 0] 26) = W := ⟨_, rfl⟩
  rw [hW]
  have H0 := H
  have HW := Lib.hid hW
  have FW := Lib.hid (show Fr none' wB W from hW ▸ (Fr.refl _ _).alloc _)
  have H := Lib.hid (H.out.later FW.out.to0)
  clear hW
  have U := Lib.hid (U.out.later FW.out.to0)
  have K := Lib.hid (K.out.later FW.out.to0)
  have M := Lib.hid (M.out.later FW.out.to0)
  clear H0 HW FW
  go_wp2_with fail
  have HT := take_own H.out
  simp only [leastP, takeK, takeE, List.tail, keyV, zeroK] at HT
  refine HT.mono ?_
  rintro e wB ⟨rfl, v, hO, hS⟩
  have H := Lib.hid hO
  have U := Lib.hid (U.out.step hS)
  have K := Lib.hid (K.out.step hS)
  have M := Lib.hid (M.out.step hS)
  clear hO hS HT
  go_wp2_with fail
  obtain ⟨W, hW⟩ : ∃ W, wB.alloc (.cells #[.int .i64 0, .int .i64 0, .int .i64 0] 26) = W := ⟨_, rfl⟩
  rw [hW]
  have H0 := H
  have HW := Lib.hid hW
  have FW := Lib.hid (show Fr none' wB W from hW ▸ (Fr.refl _ _).alloc _)
  have H := Lib.hid (H.out.later FW.out.to0)
  clear hW
  have U := Lib.hid (U.out.later FW.out.to0)
  have K := Lib.hid (K.out.later FW.out.to0)
  have M := Lib.hid (M.out.later FW.out.to0)
  clear H0 HW FW
  have HF := H.out.fr
  obtain ⟨UR, UO⟩ := U.out
  obtain ⟨ua', ucap', hue, UR⟩ := UR
  injection hue with hue1 hue2 hue3
  subst hue1
  subst hue3
  have KB := K
  have MB := M
  refine wp_region_held_drew (S := fun W' => W'.cell? ⟨kb, 0, none⟩ = some (.int .i64 9) ∧ W'.cell? ⟨kb, 1, none⟩ = some (.int .i64 0) ∧ W'.cell? ⟨kb, 2, none⟩ = some (.int .i64 0) ∧ W'.cell? ⟨mb, 0, none⟩ = some (.int .i64 5) ∧ W'.cell? ⟨mb, 1, none⟩ = some (.int .i64 0) ∧ W'.cell? ⟨mb, 2, none⟩ = some (.int .i64 0)) (by kernel_rfl) ⟨KB.out.key.cell (i := 0) (by omega), KB.out.key.cell (i := 1) (by omega), KB.out.key.cell (i := 2) (by omega), MB.out.key.cell (i := 0) (by omega), MB.out.key.cell (i := 1) (by omega), MB.out.key.cell (i := 2) (by omega)⟩ (fun hHeld => ?_)
  refine take_on (i := 0) (v := .int .i64 1) rfl (by kernel_rfl) (by kernel_rfl) (by kernel_rfl) (fun _ _ _ h => h) (by kernel_rfl) (fun W' hSW => ?_) (by assumption) ?_
  · (try dsimp only at hSW)
    first | (go_simp; done) | exact rfl | (go_simp; rfl) | (go_simp; omega)
  try simp only [Act.put, List.setIfInBounds_toArray, List.set_cons_zero, List.set_cons_succ]
  refine take_on (i := 1) (v := .bool true) rfl (by kernel_rfl) (by kernel_rfl) (by kernel_rfl) (fun _ _ _ h => h) (by kernel_rfl) (fun W' hSW => ?_) (by assumption) ?_
  · (try dsimp only at hSW)
    first | (go_simp; done) | exact rfl | (go_simp; rfl) | (go_simp; omega)
  try simp only [Act.put, List.setIfInBounds_toArray, List.set_cons_zero, List.set_cons_succ]
  refine take_on (i := 2) (v := .bool true) rfl (by kernel_rfl) (by kernel_rfl) (by kernel_rfl) (fun _ _ _ h => h) (by kernel_rfl) (fun W' hSW => ?_) (by assumption) ?_
  · (try dsimp only at hSW)
    first | (go_simp; done) | exact rfl | (go_simp; rfl) | (go_simp; omega)
  try simp only [Act.put, List.setIfInBounds_toArray, List.set_cons_zero, List.set_cons_succ]
  refine take_on (i := 3) (v := .bool true) rfl (by kernel_rfl) (by kernel_rfl) (by kernel_rfl) (fun _ _ _ h => h) (by kernel_rfl) (fun W' hSW => ?_) (by assumption) ?_
  · (try dsimp only at hSW)
    first | (go_simp; done) | exact rfl | (go_simp; rfl) | (go_simp; omega)
  try simp only [Act.put, List.setIfInBounds_toArray, List.set_cons_zero, List.set_cons_succ]
  refine take_on (i := 4) (v := .bool true) rfl (by kernel_rfl) (by kernel_rfl) (by kernel_rfl) (fun _ _ _ h => h) (by kernel_rfl) (fun W' hSW => ?_) (by assumption) ?_
  · (try dsimp only at hSW)
    first | (go_simp; done) | exact rfl | (go_simp; rfl) | (go_simp; omega)
  try simp only [Act.put, List.setIfInBounds_toArray, List.set_cons_zero, List.set_cons_succ]
  refine take_on (i := 5) (v := .bool true) rfl (by kernel_rfl) (by kernel_rfl) (by kernel_rfl) (fun _ _ _ h => h) (by kernel_rfl) (fun W' hSW => ?_) (by assumption) ?_
  · (try dsimp only at hSW)
    first | (go_simp; done) | exact rfl | (go_simp; rfl) | (go_simp; omega)
  try simp only [Act.put, List.setIfInBounds_toArray, List.set_cons_zero, List.set_cons_succ]
  refine take_on (i := 6) (v := .slice ua 4 ucap) rfl (by kernel_rfl) (by kernel_rfl) (by kernel_rfl) (fun _ _ _ h => h) (by kernel_rfl) (fun W' hSW => ?_) (by assumption) ?_
  · (try dsimp only at hSW)
    first | (go_simp; done) | exact rfl | (go_simp; rfl) | (go_simp; omega)
  try simp only [Act.put, List.setIfInBounds_toArray, List.set_cons_zero, List.set_cons_succ]
  refine take_call (i := 7) rfl (by kernel_rfl) (by kernel_rfl) (fun K hK => ?_)
  go_simp
  obtain ⟨W2, hW2⟩ : ∃ W2, (W.alloc (.cells #[.int .i64 1, .int .i64 4, .int .i64 3, .int .i64 0] 3)).drew = W2 := ⟨_, rfl⟩
  have hb2 : W2.heap[W.heap.size]? = some (.cells #[.int .i64 1, .int .i64 4, .int .i64 3, .int .i64 0] 3 (0, 0)) := by rw [← hW2]; exact World.alloc_heap_new W _
  have hf2 : Fr0 none' W W2 := by rw [← hW2]; exact ((Fr.refl none' W).alloc _).drew.to0
  rw [hW2]
  clear hW2
  have I1 := Lib.hid ((show IntsAt W (.slice ua 4 ucap) [1, 4, 3, 0] from ⟨ua, ucap, rfl, UR⟩).later hf2)
  have I2 := Lib.hid (show IntsAt W2 (.slice (some ⟨W.heap.size, 0, none⟩) 4 4) [1, 4, 3, 0] from ⟨_, _, rfl, fun j x hx => ⟨_, rfl, by
    rw [cells_at hb2]
    have hj : j < 4 := (List.getElem?_eq_some_iff.1 hx).1
    match j, hj with
    | 0, _ => injection hx with hx; subst hx; rfl
    | 1, _ => injection hx with hx; subst hx; rfl
    | 2, _ => injection hx with hx; subst hx; rfl
    | 3, _ => injection hx with hx; subst hx; rfl⟩⟩)
  have H := Lib.hid (H.out.later hf2)
  have KB := Lib.hid (KB.out.later hf2)
  have MB := Lib.hid (MB.out.later hf2)
  clear hf2 hb2 UR
  refine hK.out _ _ ⟨KB.out.key.cell (i := 0) (by omega), KB.out.key.cell (i := 1) (by omega), KB.out.key.cell (i := 2) (by omega), MB.out.key.cell (i := 0) (by omega), MB.out.key.cell (i := 1) (by omega), MB.out.key.cell (i := 2) (by omega)⟩ (fun hHeld7 => ?_)
  clear hK K
  try simp only [Act.put, List.setIfInBounds_toArray, List.set_cons_zero, List.set_cons_succ]
  refine take_call (i := 8) rfl (by kernel_rfl) (by kernel_rfl) (fun K hK => ?_)
  go_simp
  have HS := SameInts_any _ _ _ _ _ I1.out I2.out (by decide) (by decide)
  rw [show decide (([1, 4, 3, 0] : List Int) = [1, 4, 3, 0]) = true by decide] at HS
  refine HS.mono ?_
  rintro e wA ⟨rfl, hfA⟩
  have FA := Lib.hid hfA
  have H := Lib.hid (H.out.later hfA.to0)
  have KB := Lib.hid (KB.out.later hfA.to0)
  have MB := Lib.hid (MB.out.later hfA.to0)
  clear hfA I1 I2
  go_wp2_with fail
  refine hK.out _ _ ⟨KB.out.key.cell (i := 0) (by omega), KB.out.key.cell (i := 1) (by omega), KB.out.key.cell (i := 2) (by omega), MB.out.key.cell (i := 0) (by omega), MB.out.key.cell (i := 1) (by omega), MB.out.key.cell (i := 2) (by omega)⟩ (fun hHeld8 => ?_)
  clear hK K
  try simp only [Act.put, List.setIfInBounds_toArray, List.set_cons_zero, List.set_cons_succ]
  refine take_on (i := 9) (v := .bool true) rfl (by kernel_rfl) (by kernel_rfl) (by kernel_rfl) (fun _ _ _ h => h) (by kernel_rfl) (fun W' hSW => ?_) (by assumption) ?_
  · (try dsimp only at hSW)
    first | (go_simp; done) | exact rfl | (go_simp; rfl) | (go_simp; omega)
  try simp only [Act.put, List.setIfInBounds_toArray, List.set_cons_zero, List.set_cons_succ]
  refine take_on (i := 10) (v := .bool true) rfl (by kernel_rfl) (by kernel_rfl) (by kernel_rfl) (fun _ _ _ h => h) (by kernel_rfl) (fun W' hSW => ?_) (by assumption) ?_
  · (try dsimp only at hSW)
    first | (go_simp; done) | exact rfl | (go_simp; rfl) | (go_simp; omega)
  try simp only [Act.put, List.setIfInBounds_toArray, List.set_cons_zero, List.set_cons_succ]
  refine take_on (i := 11) (v := .int .i64 0) rfl (by kernel_rfl) (by kernel_rfl) (by kernel_rfl) (fun _ _ _ h => h) (by kernel_rfl) (fun W' hSW => ?_) (by assumption) ?_
  · (try dsimp only at hSW)
    first | (go_simp; done) | exact rfl | (go_simp; rfl) | (go_simp; omega)
  try simp only [Act.put, List.setIfInBounds_toArray, List.set_cons_zero, List.set_cons_succ]
  refine take_on (i := 12) (v := .int .i64 0) rfl (by kernel_rfl) (by kernel_rfl) (by kernel_rfl) (fun _ _ _ h => h) (by kernel_rfl) (fun W' hSW => ?_) (by assumption) ?_
  · (try dsimp only at hSW)
    first | (go_simp; done) | exact rfl | (go_simp; rfl) | (go_simp; omega)
  try simp only [Act.put, List.setIfInBounds_toArray, List.set_cons_zero, List.set_cons_succ]
  refine take_on (i := 13) (v := .int .i64 0) rfl (by kernel_rfl) (by kernel_rfl) (by kernel_rfl) (fun _ _ _ h => h) (by kernel_rfl) (fun W' hSW => ?_) (by assumption) ?_
  · (try dsimp only at hSW)
    first | (go_simp; done) | exact rfl | (go_simp; rfl) | (go_simp; omega)
  try simp only [Act.put, List.setIfInBounds_toArray, List.set_cons_zero, List.set_cons_succ]
  refine take_on (i := 14) (v := .int .i64 0) rfl (by kernel_rfl) (by kernel_rfl) (by kernel_rfl) (fun _ _ _ h => h) (by kernel_rfl) (fun W' hSW => ?_) (by assumption) ?_
  · (try dsimp only at hSW)
    first | (go_simp; done) | exact rfl | (go_simp; rfl) | (go_simp; omega)
  try simp only [Act.put, List.setIfInBounds_toArray, List.set_cons_zero, List.set_cons_succ]
  refine take_on (i := 15) (v := .int .i64 0) rfl (by kernel_rfl) (by kernel_rfl) (by kernel_rfl) (fun _ _ _ h => h) (by kernel_rfl) (fun W' hSW => ?_) (by assumption) ?_
  · (try dsimp only at hSW)
    first | (go_simp; done) | exact rfl | (go_simp; rfl) | (go_simp; omega)
  try simp only [Act.put, List.setIfInBounds_toArray, List.set_cons_zero, List.set_cons_succ]
  refine take_on (i := 16) (v := .int .i64 0) rfl (by kernel_rfl) (by kernel_rfl) (by kernel_rfl) (fun _ _ _ h => h) (by kernel_rfl) (fun W' hSW => ?_) (by assumption) ?_
  · (try dsimp only at hSW)
    first | (go_simp; done) | exact rfl | (go_simp; rfl) | (go_simp; omega)
  try simp only [Act.put, List.setIfInBounds_toArray, List.set_cons_zero, List.set_cons_succ]
  refine take_on (i := 17) (v := .int .i64 0) rfl (by kernel_rfl) (by kernel_rfl) (by kernel_rfl) (fun _ _ _ h => h) (by kernel_rfl) (fun W' hSW => ?_) (by assumption) ?_
  · (try dsimp only at hSW)
    first | (go_simp; done) | exact rfl | (go_simp; rfl) | (go_simp; omega)
  try simp only [Act.put, List.setIfInBounds_toArray, List.set_cons_zero, List.set_cons_succ]
  refine take_on (i := 18) (v := .int .i64 0) rfl (by kernel_rfl) (by kernel_rfl) (by kernel_rfl) (fun _ _ _ h => h) (by kernel_rfl) (fun W' hSW => ?_) (by assumption) ?_
  · (try dsimp only at hSW)
    first | (go_simp; done) | exact rfl | (go_simp; rfl) | (go_simp; omega)
  try simp only [Act.put, List.setIfInBounds_toArray, List.set_cons_zero, List.set_cons_succ]
  refine take_on (i := 19) (v := .int .i64 0) rfl (by kernel_rfl) (by kernel_rfl) (by kernel_rfl) (fun _ _ _ h => h) (by kernel_rfl) (fun W' hSW => ?_) (by assumption) ?_
  · (try dsimp only at hSW)
    first | (go_simp; done) | exact rfl | (go_simp; rfl) | (go_simp; omega)
  try simp only [Act.put, List.setIfInBounds_toArray, List.set_cons_zero, List.set_cons_succ]
  refine take_on (i := 20) (v := .bool true) rfl (by kernel_rfl) (by kernel_rfl) (by kernel_rfl) (fun _ _ _ h => h) (by kernel_rfl) (fun W' hSW => ?_) (by assumption) ?_
  · (try dsimp only at hSW)
    first | (go_simp; done) | exact rfl | (go_simp; rfl) | (go_simp; omega)
  try simp only [Act.put, List.setIfInBounds_toArray, List.set_cons_zero, List.set_cons_succ]
  refine take_on (i := 21) (v := .bool true) rfl (by kernel_rfl) (by kernel_rfl) (by kernel_rfl) (fun _ _ _ h => h) (by kernel_rfl) (fun W' hSW => ?_) (by assumption) ?_
  · (try dsimp only at hSW)
    first | (go_simp; done) | exact rfl | (go_simp; rfl) | (go_simp; omega)
  try simp only [Act.put, List.setIfInBounds_toArray, List.set_cons_zero, List.set_cons_succ]
  refine take_on (i := 22) (v := .bool true) rfl (by kernel_rfl) (by kernel_rfl) (by kernel_rfl) (fun _ _ _ h => h) (by kernel_rfl) (fun W' hSW => ?_) (by assumption) ?_
  · (try dsimp only at hSW)
    first | (go_simp; done) | exact rfl | (go_simp; rfl) | (go_simp; omega)
  try simp only [Act.put, List.setIfInBounds_toArray, List.set_cons_zero, List.set_cons_succ]
  refine take_on (i := 23) (v := .agg #[.int .i64 9, .int .i64 0, .int .i64 0]) rfl (by kernel_rfl) (by kernel_rfl) (by kernel_rfl) (fun _ _ _ h => h) (by kernel_rfl) (fun W' hSW => ?_) (by assumption) ?_
  · (try dsimp only at hSW)
    first | (go_simp; done) | exact rfl | (go_simp; rfl) | (go_simp; omega)
  try simp only [Act.put, List.setIfInBounds_toArray, List.set_cons_zero, List.set_cons_succ]
  refine take_call (i := 24) rfl (by kernel_rfl) (by kernel_rfl) (fun K hK => ?_)
  go_simp
  refine (at_any 9 _).mono ?_
  rintro e wA ⟨rfl, hfA⟩
  have FA := Lib.hid hfA
  have H := Lib.hid (H.out.later hfA.to0)
  have KB := Lib.hid (KB.out.later hfA.to0)
  have MB := Lib.hid (MB.out.later hfA.to0)
  clear hfA
  simp only [keyV]
  go_wp2_with fail
  refine hK.out _ _ ⟨KB.out.key.cell (i := 0) (by omega), KB.out.key.cell (i := 1) (by omega), KB.out.key.cell (i := 2) (by omega), MB.out.key.cell (i := 0) (by omega), MB.out.key.cell (i := 1) (by omega), MB.out.key.cell (i := 2) (by omega)⟩ (fun hHeld24 => ?_)
  clear hK K
  try simp only [Act.put, List.setIfInBounds_toArray, List.set_cons_zero, List.set_cons_succ]
  refine take_on (i := 25) (v := .bool true) rfl (by kernel_rfl) (by kernel_rfl) (by kernel_rfl) (fun _ _ _ h => h) (by kernel_rfl) (fun W' hSW => ?_) (by assumption) ?_
  · (try dsimp only at hSW)
    first | (go_simp; done) | exact rfl | (go_simp; rfl) | (go_simp; omega)
  try simp only [Act.put, List.setIfInBounds_toArray, List.set_cons_zero, List.set_cons_succ]
  refine take_on (i := 26) (v := .bool true) rfl (by kernel_rfl) (by kernel_rfl) (by kernel_rfl) (fun _ _ _ h => h) (by kernel_rfl) (fun W' hSW => ?_) (by assumption) ?_
  · (try dsimp only at hSW)
    first | (go_simp; done) | exact rfl | (go_simp; rfl) | (go_simp; omega)
  try simp only [Act.put, List.setIfInBounds_toArray, List.set_cons_zero, List.set_cons_succ]
  refine take_on (i := 27) (v := .bool true) rfl (by kernel_rfl) (by kernel_rfl) (by kernel_rfl) (fun _ _ _ h => h) (by kernel_rfl) (fun W' hSW => ?_) (by assumption) ?_
  · (try dsimp only at hSW)
    first | (go_simp; done) | exact rfl | (go_simp; rfl) | (go_simp; omega)
  try simp only [Act.put, List.setIfInBounds_toArray, List.set_cons_zero, List.set_cons_succ]
  refine take_on (i := 28) (v := .int .i64 0) rfl (by kernel_rfl) (by kernel_rfl) (by kernel_rfl) (fun _ _ _ h => h) (by kernel_rfl) (fun W' hSW => ?_) (by assumption) ?_
  · (try dsimp only at hSW)
    first | (go_simp; done) | exact rfl | (go_simp; rfl) | (go_simp; omega)
  try simp only [Act.put, List.setIfInBounds_toArray, List.set_cons_zero, List.set_cons_succ]
  refine take_on (i := 29) (v := .bool true) rfl (by kernel_rfl) (by kernel_rfl) (by kernel_rfl) (fun _ _ _ h => h) (by kernel_rfl) (fun W' hSW => ?_) (by assumption) ?_
  · (try dsimp only at hSW)
    first | (go_simp; done) | exact rfl | (go_simp; rfl) | (go_simp; omega)
  try simp only [Act.put, List.setIfInBounds_toArray, List.set_cons_zero, List.set_cons_succ]
  refine take_on (i := 30) (v := .bool true) rfl (by kernel_rfl) (by kernel_rfl) (by kernel_rfl) (fun _ _ _ h => h) (by kernel_rfl) (fun W' hSW => ?_) (by assumption) ?_
  · (try dsimp only at hSW)
    first | (go_simp; done) | exact rfl | (go_simp; rfl) | (go_simp; omega)
  try simp only [Act.put, List.setIfInBounds_toArray, List.set_cons_zero, List.set_cons_succ]
  refine take_on (i := 31) (v := .bool true) rfl (by kernel_rfl) (by kernel_rfl) (by kernel_rfl) (fun _ _ _ h => h) (by kernel_rfl) (fun W' hSW => ?_) (by assumption) ?_
  · (try dsimp only at hSW)
    first | (go_simp; done) | exact rfl | (go_simp; rfl) | (go_simp; omega)
  try simp only [Act.put, List.setIfInBounds_toArray, List.set_cons_zero, List.set_cons_succ]
  refine take_on (i := 32) (v := .agg #[.int .i64 5, .int .i64 0, .int .i64 0]) rfl (by kernel_rfl) (by kernel_rfl) (by kernel_rfl) (fun _ _ _ h => h) (by kernel_rfl) (fun W' hSW => ?_) (by assumption) ?_
  · (try dsimp only at hSW)
    first | (go_simp; done) | exact rfl | (go_simp; rfl) | (go_simp; omega)
  try simp only [Act.put, List.setIfInBounds_toArray, List.set_cons_zero, List.set_cons_succ]
  refine take_call (i := 33) rfl (by kernel_rfl) (by kernel_rfl) (fun K hK => ?_)
  go_simp
  refine (at_any 5 _).mono ?_
  rintro e wA ⟨rfl, hfA⟩
  have FA := Lib.hid hfA
  have H := Lib.hid (H.out.later hfA.to0)
  have KB := Lib.hid (KB.out.later hfA.to0)
  have MB := Lib.hid (MB.out.later hfA.to0)
  clear hfA
  simp only [keyV]
  go_wp2_with fail
  refine hK.out _ _ ⟨KB.out.key.cell (i := 0) (by omega), KB.out.key.cell (i := 1) (by omega), KB.out.key.cell (i := 2) (by omega), MB.out.key.cell (i := 0) (by omega), MB.out.key.cell (i := 1) (by omega), MB.out.key.cell (i := 2) (by omega)⟩ (fun hHeld33 => ?_)
  clear hK K
  try simp only [Act.put, List.setIfInBounds_toArray, List.set_cons_zero, List.set_cons_succ]
  refine take_on (i := 34) (v := .bool true) rfl (by kernel_rfl) (by kernel_rfl) (by kernel_rfl) (fun _ _ _ h => h) (by kernel_rfl) (fun W' hSW => ?_) (by assumption) ?_
  · (try dsimp only at hSW)
    first | (go_simp; done) | exact rfl | (go_simp; rfl) | (go_simp; omega)
  try simp only [Act.put, List.setIfInBounds_toArray, List.set_cons_zero, List.set_cons_succ]
  refine take_on (i := 35) (v := .bool true) rfl (by kernel_rfl) (by kernel_rfl) (by kernel_rfl) (fun _ _ _ h => h) (by kernel_rfl) (fun W' hSW => ?_) (by assumption) ?_
  · (try dsimp only at hSW)
    first | (go_simp; done) | exact rfl | (go_simp; rfl) | (go_simp; omega)
  try simp only [Act.put, List.setIfInBounds_toArray, List.set_cons_zero, List.set_cons_succ]
  refine take_on (i := 36) (v := .bool true) rfl (by kernel_rfl) (by kernel_rfl) (by kernel_rfl) (fun _ _ _ h => h) (by kernel_rfl) (fun W' hSW => ?_) (by assumption) ?_
  · (try dsimp only at hSW)
    first | (go_simp; done) | exact rfl | (go_simp; rfl) | (go_simp; omega)
  try simp only [Act.put, List.setIfInBounds_toArray, List.set_cons_zero, List.set_cons_succ]
  refine take_on (i := 37) (v := .int .i64 1) rfl (by kernel_rfl) (by kernel_rfl) (by kernel_rfl) (fun _ _ _ h => h) (by kernel_rfl) (fun W' hSW => ?_) (by assumption) ?_
  · (try dsimp only at hSW)
    first | (go_simp; done) | exact rfl | (go_simp; rfl) | (go_simp; omega)
  try simp only [Act.put, List.setIfInBounds_toArray, List.set_cons_zero, List.set_cons_succ]
  refine take_on (i := 38) (v := .bool true) rfl (by kernel_rfl) (by kernel_rfl) (by kernel_rfl) (fun _ _ _ h => h) (by kernel_rfl) (fun W' hSW => ?_) (by assumption) ?_
  · (try dsimp only at hSW)
    first | (go_simp; done) | exact rfl | (go_simp; rfl) | (go_simp; omega)
  try simp only [Act.put, List.setIfInBounds_toArray, List.set_cons_zero, List.set_cons_succ]
  refine take_on (i := 39) (v := .bool true) rfl (by kernel_rfl) (by kernel_rfl) (by kernel_rfl) (fun _ _ _ h => h) (by kernel_rfl) (fun W' hSW => ?_) (by assumption) ?_
  · (try dsimp only at hSW)
    first | (go_simp; done) | exact rfl | (go_simp; rfl) | (go_simp; omega)
  try simp only [Act.put, List.setIfInBounds_toArray, List.set_cons_zero, List.set_cons_succ]
  refine take_on (i := 40) (v := .bool true) rfl (by kernel_rfl) (by kernel_rfl) (by kernel_rfl) (fun _ _ _ h => h) (by kernel_rfl) (fun W' hSW => ?_) (by assumption) ?_
  · (try dsimp only at hSW)
    first | (go_simp; done) | exact rfl | (go_simp; rfl) | (go_simp; omega)
  try simp only [Act.put, List.setIfInBounds_toArray, List.set_cons_zero, List.set_cons_succ]
  refine take_on (i := 41) (v := .int .i64 3) rfl (by kernel_rfl) (by kernel_rfl) (by kernel_rfl) (fun _ _ _ h => h) (by kernel_rfl) (fun W' hSW => ?_) (by assumption) ?_
  · (try dsimp only at hSW)
    first | (go_simp; done) | exact rfl | (go_simp; rfl) | (go_simp; omega)
  try simp only [Act.put, List.setIfInBounds_toArray, List.set_cons_zero, List.set_cons_succ]
  refine take_on (i := 42) (v := .bool true) rfl (by kernel_rfl) (by kernel_rfl) (by kernel_rfl) (fun _ _ _ h => h) (by kernel_rfl) (fun W' hSW => ?_) (by assumption) ?_
  · (try dsimp only at hSW)
    first | (go_simp; done) | exact rfl | (go_simp; rfl) | (go_simp; omega)
  try simp only [Act.put, List.setIfInBounds_toArray, List.set_cons_zero, List.set_cons_succ]
  refine take_on (i := 43) (v := .bool true) rfl (by kernel_rfl) (by kernel_rfl) (by kernel_rfl) (fun _ _ _ h => h) (by kernel_rfl) (fun W' hSW => ?_) (by assumption) ?_
  · (try dsimp only at hSW)
    first | (go_simp; done) | exact rfl | (go_simp; rfl) | (go_simp; omega)
  try simp only [Act.put, List.setIfInBounds_toArray, List.set_cons_zero, List.set_cons_succ]
  refine take_on (i := 44) (v := .bool true) rfl (by kernel_rfl) (by kernel_rfl) (by kernel_rfl) (fun _ _ _ h => h) (by kernel_rfl) (fun W' hSW => ?_) (by assumption) ?_
  · (try dsimp only at hSW)
    first | (go_simp; done) | exact rfl | (go_simp; rfl) | (go_simp; omega)
  try simp only [Act.put, List.setIfInBounds_toArray, List.set_cons_zero, List.set_cons_succ]
  refine take_on (i := 45) (v := .int .i64 6) rfl (by kernel_rfl) (by kernel_rfl) (by kernel_rfl) (fun _ _ _ h => h) (by kernel_rfl) (fun W' hSW => ?_) (by assumption) ?_
  · (try dsimp only at hSW)
    first | (go_simp; done) | exact rfl | (go_simp; rfl) | (go_simp; omega)
  try simp only [Act.put, List.setIfInBounds_toArray, List.set_cons_zero, List.set_cons_succ]
  refine take_on (i := 46) (v := .bool true) rfl (by kernel_rfl) (by kernel_rfl) (by kernel_rfl) (fun _ _ _ h => h) (by kernel_rfl) (fun W' hSW => ?_) (by assumption) ?_
  · (try dsimp only at hSW)
    first | (go_simp; done) | exact rfl | (go_simp; rfl) | (go_simp; omega)
  try simp only [Act.put, List.setIfInBounds_toArray, List.set_cons_zero, List.set_cons_succ]
  refine take_on (i := 47) (v := .bool true) rfl (by kernel_rfl) (by kernel_rfl) (by kernel_rfl) (fun _ _ _ h => h) (by kernel_rfl) (fun W' hSW => ?_) (by assumption) ?_
  · (try dsimp only at hSW)
    first | (go_simp; done) | exact rfl | (go_simp; rfl) | (go_simp; omega)
  try simp only [Act.put, List.setIfInBounds_toArray, List.set_cons_zero, List.set_cons_succ]
  refine take_on (i := 48) (v := .bool true) rfl (by kernel_rfl) (by kernel_rfl) (by kernel_rfl) (fun _ _ _ h => h) (by kernel_rfl) (fun W' hSW => ?_) (by assumption) ?_
  · (try dsimp only at hSW)
    first | (go_simp; done) | exact rfl | (go_simp; rfl) | (go_simp; omega)
  try simp only [Act.put, List.setIfInBounds_toArray, List.set_cons_zero, List.set_cons_succ]
  refine take_on (i := 49) (v := .pointer (some ⟨hb, 0, none⟩)) rfl (by kernel_rfl) (by kernel_rfl) (by kernel_rfl) (fun _ _ _ h => h) (by kernel_rfl) (fun W' hSW => ?_) (by assumption) ?_
  · (try dsimp only at hSW)
    first | (go_simp; done) | exact rfl | (go_simp; rfl) | (go_simp; omega)
  try simp only [Act.put, List.setIfInBounds_toArray, List.set_cons_zero, List.set_cons_succ]
  refine take_call (i := 50) rfl (by kernel_rfl) (by kernel_rfl) (fun K hK => ?_)
  go_simp
  refine (at_any 0 _).mono ?_
  rintro e wA ⟨rfl, hfA⟩
  have FA := Lib.hid hfA
  have H := Lib.hid (H.out.later hfA.to0)
  have KB := Lib.hid (KB.out.later hfA.to0)
  have MB := Lib.hid (MB.out.later hfA.to0)
  clear hfA
  simp only [keyV]
  go_wp2_with fail
  refine hK.out _ _ ⟨KB.out.key.cell (i := 0) (by omega), KB.out.key.cell (i := 1) (by omega), KB.out.key.cell (i := 2) (by omega), MB.out.key.cell (i := 0) (by omega), MB.out.key.cell (i := 1) (by omega), MB.out.key.cell (i := 2) (by omega)⟩ (fun hHeld50 => ?_)
  clear hK K
  try simp only [Act.put, List.setIfInBounds_toArray, List.set_cons_zero, List.set_cons_succ]
  refine take_call (i := 51) rfl (by kernel_rfl) (by kernel_rfl) (fun K hK => ?_)
  go_simp
  have HP := put_own H.out 5 ⟨0, 0, 0⟩
  rw [show putE 5 [] 5 = 80 by decide, show putL 5 [] 5 ⟨0, 0, 0⟩ = [] by decide] at HP
  simp only [keyV] at HP
  refine HP.mono ?_
  rintro e wB ⟨rfl, v, hO, hS⟩
  go_wp2_with fail
  refine hK.out _ _ ?_ (fun hHeld51 => ?_)
  · have KB := KB.out.step hS
    have MB := MB.out.step hS
    exact ⟨KB.key.cell (i := 0) (by omega), KB.key.cell (i := 1) (by omega), KB.key.cell (i := 2) (by omega), MB.key.cell (i := 0) (by omega), MB.key.cell (i := 1) (by omega), MB.key.cell (i := 2) (by omega)⟩
  clear hK
  try simp only [Act.put, List.setIfInBounds_toArray, List.set_cons_zero, List.set_cons_succ]
  have HFe := hO.fr
  refine take_on (i := 52) (v := .bool true) rfl (by kernel_rfl) (by kernel_rfl) (by kernel_rfl) (fun _ _ _ h => h) (by kernel_rfl) (fun W' hSW => ?_) (by assumption) ?_
  · (try dsimp only at hSW)
    first | (go_simp; done) | exact rfl | (go_simp; rfl) | (go_simp; omega)
  try simp only [Act.put, List.setIfInBounds_toArray, List.set_cons_zero, List.set_cons_succ]
  refine take_on (i := 53) (v := .bool true) rfl (by kernel_rfl) (by kernel_rfl) (by kernel_rfl) (fun _ _ _ h => h) (by kernel_rfl) (fun W' hSW => ?_) (by assumption) ?_
  · (try dsimp only at hSW)
    first | (go_simp; done) | exact rfl | (go_simp; rfl) | (go_simp; omega)
  try simp only [Act.put, List.setIfInBounds_toArray, List.set_cons_zero, List.set_cons_succ]
  refine take_on (i := 54) (v := .bool true) rfl (by kernel_rfl) (by kernel_rfl) (by kernel_rfl) (fun _ _ _ h => h) (by kernel_rfl) (fun W' hSW => ?_) (by assumption) ?_
  · (try dsimp only at hSW)
    first | (go_simp; done) | exact rfl | (go_simp; rfl) | (go_simp; omega)
  try simp only [Act.put, List.setIfInBounds_toArray, List.set_cons_zero]
  refine wpAnyH_done (by kernel_rfl) ?_ _
  go_wp2
  go_ret
  exact ⟨rfl, HFe⟩
end Go.Proofs.Ytbpmdhngobdilaa
