/-
  Keys: what each function of the package does, and what the laws make of it.
-/
import Derived.Test.YtpklgpdlkdlbbaaGreatDoorJb2
import Derived.Lib.ItoaLen
import Derived.Test.YtpklgpdlkdlbbaaGreatDoorJb1
import Derived.Lib.SliceRun
import Derived.Lib.Bytealg
import Derived.Lib.BytesEntry
import Derived.Lib.UnsafeStr
import Derived.Shelf.SlicesQ.Reverse
set_option linter.unusedSimpArgs false
set_option linter.unusedVariables false

/-
  The reference: Less, Right, Compare.
-/
namespace Go.Proofs.YtpklgpdlkdlbbaaGreatDoor
open Go Go.RowKit
attribute [local go_sem ↓] Go.wp_at_zero Go.wp_at_succ
attribute [local go_sem] Oper.semAt_some wide_fn wide_depth wide_fnR wide_depthR

set_option maxRecDepth 100000 in
set_option maxHeartbeats 2000000 in
theorem rRight_any (k : Key3) (w : World) : Calls Tryz.prog 49 #[keyV k] w fun e w' => e = .returned (.bool (decide (RightK k))) ∧ Fr0 none' w w' := by
  simp only [keyV]
  go_enter Tryz.func49, Tryz.ntmps49
  go_wp2_with fail
  all_goals
    go_ret
    refine ⟨congrArg (fun b => Ending.returned (Value.bool b)) ?_, ((Fr0.refl _ _).alloc _)⟩
    first
      | exact (decide_eq_false (by unfold RightK; omega)).symm
      | exact decide_eq_decide.2 (by unfold RightK; omega)
set_option maxRecDepth 100000 in
set_option maxHeartbeats 2000000 in
theorem rLess_any (a b : Key3) (w : World) : Calls Tryz.prog 86 #[keyV a, keyV b] w fun e w' => e = .returned (.bool (decide (cmpK a b < 0))) ∧ Fr0 none' w w' := by
  simp only [keyV]
  go_enter Tryz.func86, Tryz.ntmps86
  go_wp2_with fail
  all_goals
    go_ret
    refine ⟨congrArg (fun b => Ending.returned (Value.bool b)) (decide_eq_decide.2 ?_), (((Fr0.refl _ _).alloc _).alloc _)⟩
    rw [cmpK_lt]
    try simp only [bne_iff_ne, ne_eq, bne_eq_false_iff_eq, Bool.not_eq_true] at *
    omega
theorem rNew2 {w w2 : World} {k : Key3} (hf : Fr0 none' ((w.alloc (.cells #[.int .i64 k.time, .int .i64 k.source, .int .i64 k.seq] 28)).alloc (.cells #[.int .i64 0, .int .i64 0, .int .i64 0] 28)) w2) :
    KeyAt w2 w.heap.size k ∧ KeyAt w2 (w.heap.size + 1) zeroK ∧ Fr0 none' w w2 := by
  have h2 := World.alloc_heap_new (w.alloc (.cells #[.int .i64 k.time, .int .i64 k.source, .int .i64 k.seq] 28)) (.cells #[.int .i64 0, .int .i64 0, .int .i64 0] 28)
  rw [World.size_alloc] at h2
  refine ⟨KeyAt.fr0 (S := none') (KeyAt.alloc (k := k) (World.alloc_heap_new w _) _) hf (fun h => h), KeyAt.fr0 (S := none') (k := zeroK) h2 hf (fun h => h), (((Fr0.refl none' w).alloc _).alloc _).trans hf⟩
set_option maxRecDepth 100000 in
set_option maxHeartbeats 4000000 in
theorem rNext_any (k : Key3) (w : World) : Calls Tryz.prog 46 #[keyV k] w fun e w' => e = .returned (if RightK k then stepV (nextK k) else .tuple #[keyV zeroK, .int .i64 70]) ∧ Fr0 none' w w' := by
  have HR := Lib.hid (rRight_any k)
  simp only [keyV] at HR
  rw [show keyV k = .agg #[.int .i64 k.time, .int .i64 k.source, .int .i64 k.seq] from rfl]
  obtain ⟨R, hR⟩ : ∃ R, (if RightK k then stepV (nextK k) else .tuple #[keyV zeroK, .int .i64 70]) = R := ⟨_, rfl⟩
  rw [hR]
  have HV := Lib.hid hR
  clear hR
  go_enter Tryz.func46, Tryz.ntmps46
  go_wp2_with fail
  refine (HR.out _).mono ?_
  rintro e w2 ⟨rfl, hf⟩
  obtain ⟨h2, h3, h4⟩ := rNew2 hf
  have K2 := Lib.hid h2
  have K3 := Lib.hid h3
  have HF := Lib.hid h4
  obtain ⟨b, hb⟩ : ∃ b, w.heap.size = b := ⟨_, rfl⟩
  have Hb := Lib.hid (show w.heap.size ≤ b from by omega)
  rw [hb] at K2 K3 ⊢
  clear hf hb h2 h3 h4
  have b0 := K3.out.frozen 0
  have b1 := K3.out.frozen 1
  have b2 := K3.out.frozen 2
  have c0 := K3.out.cell (i := 0) (by omega)
  have c1 := K3.out.cell (i := 1) (by omega)
  have c2 := K3.out.cell (i := 2) (by omega)
  have a0 := K2.out.cell (i := 0) (by omega)
  have a1 := K2.out.cell (i := 1) (by omega)
  have a2 := K2.out.cell (i := 2) (by omega)
  simp [nth3, zeroK] at a0 a1 a2 c0 c1 c2
  by_cases hk : RightK k
  · have HV2 := Lib.hid (show stepV (nextK k) = R from by rw [← HV.out, if_pos hk])
    rw [decide_eq_true hk]
    obtain ⟨k1, k2, k3, k4, k5, k6⟩ := hk
    by_cases h1 : k.seq < 4294967295
    · have d0 : decide (k.seq < 4294967295) = true := decide_eq_true h1
      have hr : Hid (nextK k = some ⟨k.time, k.source, k.seq + 1⟩) := if_pos h1
      have e0 : IntKind.i64.wrap (k.seq + 1) = k.seq + 1 := IntWalk.i64_in _ (by omega)
      have e1 : wrap64 (k.seq + 1) = k.seq + 1 := by unfold wrap64; omega
      clear k1 k2 k3 k4 k5 k6
      go_wp2_with fail
      clear e0 e1
      clear a0 a1 a2
      try clear d0
      try clear d1
      try clear d2
      obtain ⟨W, hW⟩ : ∃ W, ((w2.setCell ⟨b + 1, 0, none⟩ (.int .i64 (⟨k.time, k.source, k.seq + 1⟩ : Key3).time)).setCell ⟨b + 1, 1, none⟩ (.int .i64 (⟨k.time, k.source, k.seq + 1⟩ : Key3).source)).setCell ⟨b + 1, 2, none⟩ (.int .i64 (⟨k.time, k.source, k.seq + 1⟩ : Key3).seq) = W := ⟨_, rfl⟩
      have K4 : KeyAt W (b + 1) ⟨k.time, k.source, k.seq + 1⟩ := by rw [← hW]; exact ((K3.out.set0 (⟨k.time, k.source, k.seq + 1⟩ : Key3).time).set1 (⟨k.time, k.source, k.seq + 1⟩ : Key3).source).set2 (⟨k.time, k.source, k.seq + 1⟩ : Key3).seq
      have F4 : Fr0 none' w W := by rw [← hW]; exact ((HF.out.setCell (fun h => absurd h (by have := Hb.out; omega)) _).setCell (fun h => absurd h (by have := Hb.out; omega)) _).setCell (fun h => absurd h (by have := Hb.out; omega)) _
      dsimp only [zeroK] at hW K4
      try dsimp only [zeroK]
      rw [hW]
      have g0 := K4.cell (i := 0) (by omega)
      have g1 := K4.cell (i := 1) (by omega)
      have g2 := K4.cell (i := 2) (by omega)
      simp [nth3] at g0 g1 g2
      refine bodyPost_ret (v := .tuple #[keyV ⟨k.time, k.source, k.seq + 1⟩, .int .i64 0]) (by simp [results, Tryz.results46, go_sem, g0, g1, g2, keyV, zeroK]) rfl ⟨?_, F4⟩
      rw [← HV2.out, hr.out]; rfl
    · have d0 : decide (k.seq < 4294967295) = false := decide_eq_false h1
      by_cases h2 : k.source < 16
      · have d1 : decide (k.source < 16) = true := decide_eq_true h2
        have hr : Hid (nextK k = some ⟨k.time, k.source + 1, 0⟩) := (if_neg h1).trans (if_pos h2)
        have e0 : IntKind.i64.wrap (k.source + 1) = k.source + 1 := IntWalk.i64_in _ (by omega)
        have e1 : wrap64 (k.source + 1) = k.source + 1 := by unfold wrap64; omega
        clear k1 k2 k3 k4 k5 k6
        go_wp2_with fail
        clear e0 e1
        clear a0 a1 a2
        try clear d0
        try clear d1
        try clear d2
        obtain ⟨W, hW⟩ : ∃ W, ((w2.setCell ⟨b + 1, 0, none⟩ (.int .i64 (⟨k.time, k.source + 1, 0⟩ : Key3).time)).setCell ⟨b + 1, 1, none⟩ (.int .i64 (⟨k.time, k.source + 1, 0⟩ : Key3).source)).setCell ⟨b + 1, 2, none⟩ (.int .i64 (⟨k.time, k.source + 1, 0⟩ : Key3).seq) = W := ⟨_, rfl⟩
        have K4 : KeyAt W (b + 1) ⟨k.time, k.source + 1, 0⟩ := by rw [← hW]; exact ((K3.out.set0 (⟨k.time, k.source + 1, 0⟩ : Key3).time).set1 (⟨k.time, k.source + 1, 0⟩ : Key3).source).set2 (⟨k.time, k.source + 1, 0⟩ : Key3).seq
        have F4 : Fr0 none' w W := by rw [← hW]; exact ((HF.out.setCell (fun h => absurd h (by have := Hb.out; omega)) _).setCell (fun h => absurd h (by have := Hb.out; omega)) _).setCell (fun h => absurd h (by have := Hb.out; omega)) _
        dsimp only [zeroK] at hW K4
        try dsimp only [zeroK]
        rw [hW]
        have g0 := K4.cell (i := 0) (by omega)
        have g1 := K4.cell (i := 1) (by omega)
        have g2 := K4.cell (i := 2) (by omega)
        simp [nth3] at g0 g1 g2
        refine bodyPost_ret (v := .tuple #[keyV ⟨k.time, k.source + 1, 0⟩, .int .i64 0]) (by simp [results, Tryz.results46, go_sem, g0, g1, g2, keyV, zeroK]) rfl ⟨?_, F4⟩
        rw [← HV2.out, hr.out]; rfl
      · have d1 : decide (k.source < 16) = false := decide_eq_false h2
        by_cases h3 : k.time < 281474976710656
        · have d2 : decide (k.time < 281474976710656) = true := decide_eq_true h3
          have hr : Hid (nextK k = some ⟨k.time + 1, 0, 0⟩) := (if_neg h1).trans ((if_neg h2).trans (if_pos h3))
          have e0 : IntKind.i64.wrap (k.time + 1) = k.time + 1 := IntWalk.i64_in _ (by omega)
          have e1 : wrap64 (k.time + 1) = k.time + 1 := by unfold wrap64; omega
          clear k1 k2 k3 k4 k5 k6
          go_wp2_with fail
          clear e0 e1
          clear a0 a1 a2
          try clear d0
          try clear d1
          try clear d2
          obtain ⟨W, hW⟩ : ∃ W, ((w2.setCell ⟨b + 1, 0, none⟩ (.int .i64 (⟨k.time + 1, 0, 0⟩ : Key3).time)).setCell ⟨b + 1, 1, none⟩ (.int .i64 (⟨k.time + 1, 0, 0⟩ : Key3).source)).setCell ⟨b + 1, 2, none⟩ (.int .i64 (⟨k.time + 1, 0, 0⟩ : Key3).seq) = W := ⟨_, rfl⟩
          have K4 : KeyAt W (b + 1) ⟨k.time + 1, 0, 0⟩ := by rw [← hW]; exact ((K3.out.set0 (⟨k.time + 1, 0, 0⟩ : Key3).time).set1 (⟨k.time + 1, 0, 0⟩ : Key3).source).set2 (⟨k.time + 1, 0, 0⟩ : Key3).seq
          have F4 : Fr0 none' w W := by rw [← hW]; exact ((HF.out.setCell (fun h => absurd h (by have := Hb.out; omega)) _).setCell (fun h => absurd h (by have := Hb.out; omega)) _).setCell (fun h => absurd h (by have := Hb.out; omega)) _
          dsimp only [zeroK] at hW K4
          try dsimp only [zeroK]
          rw [hW]
          have g0 := K4.cell (i := 0) (by omega)
          have g1 := K4.cell (i := 1) (by omega)
          have g2 := K4.cell (i := 2) (by omega)
          simp [nth3] at g0 g1 g2
          refine bodyPost_ret (v := .tuple #[keyV ⟨k.time + 1, 0, 0⟩, .int .i64 0]) (by simp [results, Tryz.results46, go_sem, g0, g1, g2, keyV, zeroK]) rfl ⟨?_, F4⟩
          rw [← HV2.out, hr.out]; rfl
        · have d2 : decide (k.time < 281474976710656) = false := decide_eq_false h3
          have hr : Hid (nextK k = none) := (if_neg h1).trans ((if_neg h2).trans (if_neg h3))
          clear k1 k2 k3 k4 k5 k6 h1 h2 h3
          go_wp2_with fail
          clear a0 a1 a2
          try clear d0
          try clear d1
          try clear d2
          obtain ⟨W, hW⟩ : ∃ W, ((w2.setCell ⟨b + 1, 0, none⟩ (.int .i64 (zeroK : Key3).time)).setCell ⟨b + 1, 1, none⟩ (.int .i64 (zeroK : Key3).source)).setCell ⟨b + 1, 2, none⟩ (.int .i64 (zeroK : Key3).seq) = W := ⟨_, rfl⟩
          have K4 : KeyAt W (b + 1) zeroK := by rw [← hW]; exact ((K3.out.set0 (zeroK : Key3).time).set1 (zeroK : Key3).source).set2 (zeroK : Key3).seq
          have F4 : Fr0 none' w W := by rw [← hW]; exact ((HF.out.setCell (fun h => absurd h (by have := Hb.out; omega)) _).setCell (fun h => absurd h (by have := Hb.out; omega)) _).setCell (fun h => absurd h (by have := Hb.out; omega)) _
          dsimp only [zeroK] at hW K4
          try dsimp only [zeroK]
          rw [hW]
          have g0 := K4.cell (i := 0) (by omega)
          have g1 := K4.cell (i := 1) (by omega)
          have g2 := K4.cell (i := 2) (by omega)
          simp [nth3] at g0 g1 g2
          refine bodyPost_ret (v := .tuple #[keyV zeroK, .int .i64 6]) (by simp [results, Tryz.results46, go_sem, g0, g1, g2, keyV, zeroK]) rfl ⟨?_, F4⟩
          rw [← HV2.out, hr.out]; rfl
  · have HV2 := Lib.hid (show .tuple #[keyV zeroK, .int .i64 70] = R from by rw [← HV.out, if_neg hk])
    rw [decide_eq_false hk]
    clear hk
    go_wp2_with fail
    clear a0 a1 a2
    try clear d0
    try clear d1
    try clear d2
    obtain ⟨W, hW⟩ : ∃ W, ((w2.setCell ⟨b + 1, 0, none⟩ (.int .i64 (zeroK : Key3).time)).setCell ⟨b + 1, 1, none⟩ (.int .i64 (zeroK : Key3).source)).setCell ⟨b + 1, 2, none⟩ (.int .i64 (zeroK : Key3).seq) = W := ⟨_, rfl⟩
    have K4 : KeyAt W (b + 1) zeroK := by rw [← hW]; exact ((K3.out.set0 (zeroK : Key3).time).set1 (zeroK : Key3).source).set2 (zeroK : Key3).seq
    have F4 : Fr0 none' w W := by rw [← hW]; exact ((HF.out.setCell (fun h => absurd h (by have := Hb.out; omega)) _).setCell (fun h => absurd h (by have := Hb.out; omega)) _).setCell (fun h => absurd h (by have := Hb.out; omega)) _
    dsimp only [zeroK] at hW K4
    try dsimp only [zeroK]
    rw [hW]
    have g0 := K4.cell (i := 0) (by omega)
    have g1 := K4.cell (i := 1) (by omega)
    have g2 := K4.cell (i := 2) (by omega)
    simp [nth3] at g0 g1 g2
    refine bodyPost_ret (v := .tuple #[keyV zeroK, .int .i64 70]) (by simp [results, Tryz.results46, go_sem, g0, g1, g2, keyV, zeroK]) rfl ⟨?_, F4⟩
    rw [← HV2.out]
set_option maxRecDepth 100000 in
set_option maxHeartbeats 4000000 in
theorem rBack_any (k : Key3) (w : World) : Calls Tryz.prog 47 #[keyV k] w fun e w' => e = .returned (if RightK k then stepV (backK k) else .tuple #[keyV zeroK, .int .i64 70]) ∧ Fr0 none' w w' := by
  have HR := Lib.hid (rRight_any k)
  simp only [keyV] at HR
  rw [show keyV k = .agg #[.int .i64 k.time, .int .i64 k.source, .int .i64 k.seq] from rfl]
  obtain ⟨R, hR⟩ : ∃ R, (if RightK k then stepV (backK k) else .tuple #[keyV zeroK, .int .i64 70]) = R := ⟨_, rfl⟩
  rw [hR]
  have HV := Lib.hid hR
  clear hR
  go_enter Tryz.func47, Tryz.ntmps47
  go_wp2_with fail
  refine (HR.out _).mono ?_
  rintro e w2 ⟨rfl, hf⟩
  obtain ⟨h2, h3, h4⟩ := rNew2 hf
  have K2 := Lib.hid h2
  have K3 := Lib.hid h3
  have HF := Lib.hid h4
  obtain ⟨b, hb⟩ : ∃ b, w.heap.size = b := ⟨_, rfl⟩
  have Hb := Lib.hid (show w.heap.size ≤ b from by omega)
  rw [hb] at K2 K3 ⊢
  clear hf hb h2 h3 h4
  have b0 := K3.out.frozen 0
  have b1 := K3.out.frozen 1
  have b2 := K3.out.frozen 2
  have c0 := K3.out.cell (i := 0) (by omega)
  have c1 := K3.out.cell (i := 1) (by omega)
  have c2 := K3.out.cell (i := 2) (by omega)
  have a0 := K2.out.cell (i := 0) (by omega)
  have a1 := K2.out.cell (i := 1) (by omega)
  have a2 := K2.out.cell (i := 2) (by omega)
  simp [nth3, zeroK] at a0 a1 a2 c0 c1 c2
  by_cases hk : RightK k
  · have HV2 := Lib.hid (show stepV (backK k) = R from by rw [← HV.out, if_pos hk])
    rw [decide_eq_true hk]
    obtain ⟨k1, k2, k3, k4, k5, k6⟩ := hk
    by_cases h1 : 0 < k.seq
    · have d0 : decide (0 < k.seq) = true := decide_eq_true h1
      have hr : Hid (backK k = some ⟨k.time, k.source, k.seq - 1⟩) := if_pos h1
      have e0 : IntKind.i64.wrap (k.seq - 1) = k.seq - 1 := IntWalk.i64_in _ (by omega)
      have e1 : wrap64 (k.seq - 1) = k.seq - 1 := by unfold wrap64; omega
      clear k1 k2 k3 k4 k5 k6
      go_wp2_with fail
      clear e0 e1
      clear a0 a1 a2
      try clear d0
      try clear d1
      try clear d2
      obtain ⟨W, hW⟩ : ∃ W, ((w2.setCell ⟨b + 1, 0, none⟩ (.int .i64 (⟨k.time, k.source, k.seq - 1⟩ : Key3).time)).setCell ⟨b + 1, 1, none⟩ (.int .i64 (⟨k.time, k.source, k.seq - 1⟩ : Key3).source)).setCell ⟨b + 1, 2, none⟩ (.int .i64 (⟨k.time, k.source, k.seq - 1⟩ : Key3).seq) = W := ⟨_, rfl⟩
      have K4 : KeyAt W (b + 1) ⟨k.time, k.source, k.seq - 1⟩ := by rw [← hW]; exact ((K3.out.set0 (⟨k.time, k.source, k.seq - 1⟩ : Key3).time).set1 (⟨k.time, k.source, k.seq - 1⟩ : Key3).source).set2 (⟨k.time, k.source, k.seq - 1⟩ : Key3).seq
      have F4 : Fr0 none' w W := by rw [← hW]; exact ((HF.out.setCell (fun h => absurd h (by have := Hb.out; omega)) _).setCell (fun h => absurd h (by have := Hb.out; omega)) _).setCell (fun h => absurd h (by have := Hb.out; omega)) _
      dsimp only [zeroK] at hW K4
      try dsimp only [zeroK]
      rw [hW]
      have g0 := K4.cell (i := 0) (by omega)
      have g1 := K4.cell (i := 1) (by omega)
      have g2 := K4.cell (i := 2) (by omega)
      simp [nth3] at g0 g1 g2
      refine bodyPost_ret (v := .tuple #[keyV ⟨k.time, k.source, k.seq - 1⟩, .int .i64 0]) (by simp [results, Tryz.results47, go_sem, g0, g1, g2, keyV, zeroK]) rfl ⟨?_, F4⟩
      rw [← HV2.out, hr.out]; rfl
    · have d0 : decide (0 < k.seq) = false := decide_eq_false h1
      by_cases h2 : 0 < k.source
      · have d1 : decide (0 < k.source) = true := decide_eq_true h2
        have hr : Hid (backK k = some ⟨k.time, k.source - 1, 4294967295⟩) := (if_neg h1).trans (if_pos h2)
        have e0 : IntKind.i64.wrap (k.source - 1) = k.source - 1 := IntWalk.i64_in _ (by omega)
        have e1 : wrap64 (k.source - 1) = k.source - 1 := by unfold wrap64; omega
        clear k1 k2 k3 k4 k5 k6
        go_wp2_with fail
        clear e0 e1
        clear a0 a1 a2
        try clear d0
        try clear d1
        try clear d2
        obtain ⟨W, hW⟩ : ∃ W, ((w2.setCell ⟨b + 1, 0, none⟩ (.int .i64 (⟨k.time, k.source - 1, 4294967295⟩ : Key3).time)).setCell ⟨b + 1, 1, none⟩ (.int .i64 (⟨k.time, k.source - 1, 4294967295⟩ : Key3).source)).setCell ⟨b + 1, 2, none⟩ (.int .i64 (⟨k.time, k.source - 1, 4294967295⟩ : Key3).seq) = W := ⟨_, rfl⟩
        have K4 : KeyAt W (b + 1) ⟨k.time, k.source - 1, 4294967295⟩ := by rw [← hW]; exact ((K3.out.set0 (⟨k.time, k.source - 1, 4294967295⟩ : Key3).time).set1 (⟨k.time, k.source - 1, 4294967295⟩ : Key3).source).set2 (⟨k.time, k.source - 1, 4294967295⟩ : Key3).seq
        have F4 : Fr0 none' w W := by rw [← hW]; exact ((HF.out.setCell (fun h => absurd h (by have := Hb.out; omega)) _).setCell (fun h => absurd h (by have := Hb.out; omega)) _).setCell (fun h => absurd h (by have := Hb.out; omega)) _
        dsimp only [zeroK] at hW K4
        try dsimp only [zeroK]
        rw [hW]
        have g0 := K4.cell (i := 0) (by omega)
        have g1 := K4.cell (i := 1) (by omega)
        have g2 := K4.cell (i := 2) (by omega)
        simp [nth3] at g0 g1 g2
        refine bodyPost_ret (v := .tuple #[keyV ⟨k.time, k.source - 1, 4294967295⟩, .int .i64 0]) (by simp [results, Tryz.results47, go_sem, g0, g1, g2, keyV, zeroK]) rfl ⟨?_, F4⟩
        rw [← HV2.out, hr.out]; rfl
      · have d1 : decide (0 < k.source) = false := decide_eq_false h2
        by_cases h3 : 0 < k.time
        · have d2 : decide (0 < k.time) = true := decide_eq_true h3
          have hr : Hid (backK k = some ⟨k.time - 1, 16, 4294967295⟩) := (if_neg h1).trans ((if_neg h2).trans (if_pos h3))
          have e0 : IntKind.i64.wrap (k.time - 1) = k.time - 1 := IntWalk.i64_in _ (by omega)
          have e1 : wrap64 (k.time - 1) = k.time - 1 := by unfold wrap64; omega
          clear k1 k2 k3 k4 k5 k6
          go_wp2_with fail
          clear e0 e1
          clear a0 a1 a2
          try clear d0
          try clear d1
          try clear d2
          obtain ⟨W, hW⟩ : ∃ W, ((w2.setCell ⟨b + 1, 0, none⟩ (.int .i64 (⟨k.time - 1, 16, 4294967295⟩ : Key3).time)).setCell ⟨b + 1, 1, none⟩ (.int .i64 (⟨k.time - 1, 16, 4294967295⟩ : Key3).source)).setCell ⟨b + 1, 2, none⟩ (.int .i64 (⟨k.time - 1, 16, 4294967295⟩ : Key3).seq) = W := ⟨_, rfl⟩
          have K4 : KeyAt W (b + 1) ⟨k.time - 1, 16, 4294967295⟩ := by rw [← hW]; exact ((K3.out.set0 (⟨k.time - 1, 16, 4294967295⟩ : Key3).time).set1 (⟨k.time - 1, 16, 4294967295⟩ : Key3).source).set2 (⟨k.time - 1, 16, 4294967295⟩ : Key3).seq
          have F4 : Fr0 none' w W := by rw [← hW]; exact ((HF.out.setCell (fun h => absurd h (by have := Hb.out; omega)) _).setCell (fun h => absurd h (by have := Hb.out; omega)) _).setCell (fun h => absurd h (by have := Hb.out; omega)) _
          dsimp only [zeroK] at hW K4
          try dsimp only [zeroK]
          rw [hW]
          have g0 := K4.cell (i := 0) (by omega)
          have g1 := K4.cell (i := 1) (by omega)
          have g2 := K4.cell (i := 2) (by omega)
          simp [nth3] at g0 g1 g2
          refine bodyPost_ret (v := .tuple #[keyV ⟨k.time - 1, 16, 4294967295⟩, .int .i64 0]) (by simp [results, Tryz.results47, go_sem, g0, g1, g2, keyV, zeroK]) rfl ⟨?_, F4⟩
          rw [← HV2.out, hr.out]; rfl
        · have d2 : decide (0 < k.time) = false := decide_eq_false h3
          have hr : Hid (backK k = none) := (if_neg h1).trans ((if_neg h2).trans (if_neg h3))
          clear k1 k2 k3 k4 k5 k6 h1 h2 h3
          go_wp2_with fail
          clear a0 a1 a2
          try clear d0
          try clear d1
          try clear d2
          obtain ⟨W, hW⟩ : ∃ W, ((w2.setCell ⟨b + 1, 0, none⟩ (.int .i64 (zeroK : Key3).time)).setCell ⟨b + 1, 1, none⟩ (.int .i64 (zeroK : Key3).source)).setCell ⟨b + 1, 2, none⟩ (.int .i64 (zeroK : Key3).seq) = W := ⟨_, rfl⟩
          have K4 : KeyAt W (b + 1) zeroK := by rw [← hW]; exact ((K3.out.set0 (zeroK : Key3).time).set1 (zeroK : Key3).source).set2 (zeroK : Key3).seq
          have F4 : Fr0 none' w W := by rw [← hW]; exact ((HF.out.setCell (fun h => absurd h (by have := Hb.out; omega)) _).setCell (fun h => absurd h (by have := Hb.out; omega)) _).setCell (fun h => absurd h (by have := Hb.out; omega)) _
          dsimp only [zeroK] at hW K4
          try dsimp only [zeroK]
          rw [hW]
          have g0 := K4.cell (i := 0) (by omega)
          have g1 := K4.cell (i := 1) (by omega)
          have g2 := K4.cell (i := 2) (by omega)
          simp [nth3] at g0 g1 g2
          refine bodyPost_ret (v := .tuple #[keyV zeroK, .int .i64 6]) (by simp [results, Tryz.results47, go_sem, g0, g1, g2, keyV, zeroK]) rfl ⟨?_, F4⟩
          rw [← HV2.out, hr.out]; rfl
  · have HV2 := Lib.hid (show .tuple #[keyV zeroK, .int .i64 70] = R from by rw [← HV.out, if_neg hk])
    rw [decide_eq_false hk]
    clear hk
    go_wp2_with fail
    clear a0 a1 a2
    try clear d0
    try clear d1
    try clear d2
    obtain ⟨W, hW⟩ : ∃ W, ((w2.setCell ⟨b + 1, 0, none⟩ (.int .i64 (zeroK : Key3).time)).setCell ⟨b + 1, 1, none⟩ (.int .i64 (zeroK : Key3).source)).setCell ⟨b + 1, 2, none⟩ (.int .i64 (zeroK : Key3).seq) = W := ⟨_, rfl⟩
    have K4 : KeyAt W (b + 1) zeroK := by rw [← hW]; exact ((K3.out.set0 (zeroK : Key3).time).set1 (zeroK : Key3).source).set2 (zeroK : Key3).seq
    have F4 : Fr0 none' w W := by rw [← hW]; exact ((HF.out.setCell (fun h => absurd h (by have := Hb.out; omega)) _).setCell (fun h => absurd h (by have := Hb.out; omega)) _).setCell (fun h => absurd h (by have := Hb.out; omega)) _
    dsimp only [zeroK] at hW K4
    try dsimp only [zeroK]
    rw [hW]
    have g0 := K4.cell (i := 0) (by omega)
    have g1 := K4.cell (i := 1) (by omega)
    have g2 := K4.cell (i := 2) (by omega)
    simp [nth3] at g0 g1 g2
    refine bodyPost_ret (v := .tuple #[keyV zeroK, .int .i64 70]) (by simp [results, Tryz.results47, go_sem, g0, g1, g2, keyV, zeroK]) rfl ⟨?_, F4⟩
    rw [← HV2.out]
end Go.Proofs.YtpklgpdlkdlbbaaGreatDoor

/-
  The reference: Ends, Compare.
-/
namespace Go.Proofs.YtpklgpdlkdlbbaaGreatDoor
open Go Go.RowKit
attribute [local go_sem ↓] Go.wp_at_zero Go.wp_at_succ
attribute [local go_sem] Oper.semAt_some wide_fn wide_depth wide_fnR wide_depthR

theorem rends_post {w W : World} {A C : Key3} {m : Int} (k1 : KeyAt W w.heap.size A) (k2 : KeyAt W (w.heap.size + 1) C) (F : Fr0 none' w W) {f : Act} (hd : f.defers = []) (h2 : f.tmps[2]? = some (.pointer (some ⟨w.heap.size, 0, none⟩))) (h3 : f.tmps[3]? = some (.pointer (some ⟨w.heap.size + 1, 0, none⟩))) (h4 : f.tmps[4]? = some (.int .i64 m)) :
    bodyPost Tryz.prog Tryz.f48 (fun e w' => e = Ending.returned (.tuple #[keyV A, keyV C, .int .i64 m]) ∧ Fr0 none' w w') Exit.ret f W := by
  have d0 := k1.cell (i := 0) (by omega)
  have d1 := k1.cell (i := 1) (by omega)
  have d2 := k1.cell (i := 2) (by omega)
  have e0 := k2.cell (i := 0) (by omega)
  have e1 := k2.cell (i := 1) (by omega)
  have e2 := k2.cell (i := 2) (by omega)
  simp [nth3] at d0 d1 d2 e0 e1 e2
  refine bodyPost_ret (v := .tuple #[keyV A, keyV C, .int .i64 m]) ?_ hd ⟨rfl, F⟩
  simp [results, Tryz.results48, go_sem, d0, d1, d2, e0, e1, e2, keyV, h2, h3, h4]
set_option maxRecDepth 100000 in
set_option maxHeartbeats 4000000 in
theorem rEnds_any (t : Int) (w : World) : Calls Tryz.prog 48 #[.int .i64 t] w fun e w' => e = .returned (.tuple #[keyV (endsV t).1, keyV (endsV t).2.1, .int .i64 (endsV t).2.2]) ∧ Fr0 none' w w' := by
  unfold endsV
  by_cases h0 : t < 0
  · have d0 : decide (t < 0) = true := decide_eq_true h0
    rw [if_neg (by omega)]
    clear h0
    go_enter Tryz.func48, Tryz.ntmps48
    go_wp2_with fail
    refine rends_post (A := zeroK) (C := zeroK) ?_ ?_ ((((Fr0.refl _ w).alloc _).alloc _)) rfl ?_ ?_ ?_
    · exact KeyAt.alloc (k := zeroK) (World.alloc_heap_new w _) _
    · have := World.alloc_heap_new (w.alloc (keyO zeroK)) (keyO zeroK)
      rw [World.size_alloc] at this
      exact this
    · rfl
    · rfl
    · rfl
  · have d0 : decide (t < 0) = false := decide_eq_false h0
    by_cases h1 : 281474976710656 < t
    · have d1 : decide (281474976710656 < t) = true := decide_eq_true h1
      rw [if_neg (by omega)]
      clear h0 h1
      go_enter Tryz.func48, Tryz.ntmps48
      go_wp2_with fail
      refine rends_post (A := zeroK) (C := zeroK) ?_ ?_ ((((Fr0.refl _ w).alloc _).alloc _)) rfl ?_ ?_ ?_
      · exact KeyAt.alloc (k := zeroK) (World.alloc_heap_new w _) _
      · have := World.alloc_heap_new (w.alloc (keyO zeroK)) (keyO zeroK)
        rw [World.size_alloc] at this
        exact this
      · rfl
      · rfl
      · rfl
    · have d1 : decide (281474976710656 < t) = false := decide_eq_false h1
      rw [if_pos (by omega)]
      clear h0 h1
      go_enter Tryz.func48, Tryz.ntmps48
      go_wp2_with fail
      refine rends_post (A := (⟨t, 0, 0⟩ : Key3)) (C := (⟨t, 16, 4294967295⟩ : Key3)) ?_ ?_ ((((Fr0.refl _ w).alloc _).alloc _)) rfl ?_ ?_ ?_
      · exact KeyAt.alloc (k := (⟨t, 0, 0⟩ : Key3)) (World.alloc_heap_new w _) _
      · have := World.alloc_heap_new (w.alloc (keyO (⟨t, 0, 0⟩ : Key3))) (keyO (⟨t, 16, 4294967295⟩ : Key3))
        rw [World.size_alloc] at this
        exact this
      · rfl
      · rfl
      · rfl
theorem rNew3 {w w2 : World} {a b : Key3} (hf : Fr0 none' ((w.alloc (.cells #[.int .i64 a.time, .int .i64 a.source, .int .i64 a.seq] 28)).alloc (.cells #[.int .i64 b.time, .int .i64 b.source, .int .i64 b.seq] 28)) w2) :
    KeyAt w2 w.heap.size a ∧ KeyAt w2 (w.heap.size + 1) b ∧ Fr0 none' w w2 := by
  have h2 := World.alloc_heap_new (w.alloc (.cells #[.int .i64 a.time, .int .i64 a.source, .int .i64 a.seq] 28)) (.cells #[.int .i64 b.time, .int .i64 b.source, .int .i64 b.seq] 28)
  rw [World.size_alloc] at h2
  refine ⟨KeyAt.fr0 (S := none') (KeyAt.alloc (k := a) (World.alloc_heap_new w _) _) hf (fun h => h), KeyAt.fr0 (S := none') (k := b) h2 hf (fun h => h), (((Fr0.refl none' w).alloc _).alloc _).trans hf⟩
set_option maxRecDepth 100000 in
set_option maxHeartbeats 4000000 in
theorem rCompare_any (a b : Key3) (w : World) : Calls Tryz.prog 45 #[keyV a, keyV b] w fun e w' => e = .returned (.tuple #[.int .i64 (cmpK a b), .int .i64 (fieldK a b)]) ∧ Fr0 none' w w' := by
  obtain ⟨R, hR⟩ : ∃ R, (Value.tuple #[.int .i64 (cmpK a b), .int .i64 (fieldK a b)]) = R := ⟨_, rfl⟩
  rw [hR]
  have HV := Lib.hid hR
  clear hR
  have HL := Lib.hid rLess_any
  simp only [keyV] at HL ⊢
  go_enter Tryz.func45, Tryz.ntmps45
  go_wp2_with fail
  all_goals
    refine (HL.out a b _).mono ?_
    rintro e w2 ⟨rfl, hf⟩
    obtain ⟨h2, h3, h4⟩ := rNew3 hf
    have K2 := Lib.hid h2
    have K3 := Lib.hid h3
    have HF := Lib.hid h4
    clear hf h2 h3 h4
    obtain ⟨p, hp⟩ : ∃ p, w.heap.size = p := ⟨_, rfl⟩
    rw [hp] at K2 K3 ⊢
    clear hp
    have a0 := K2.out.cell (i := 0) (by omega)
    have a1 := K2.out.cell (i := 1) (by omega)
    have a2 := K2.out.cell (i := 2) (by omega)
    have b0 := K3.out.cell (i := 0) (by omega)
    have b1 := K3.out.cell (i := 1) (by omega)
    have b2 := K3.out.cell (i := 2) (by omega)
    simp [nth3] at a0 a1 a2 b0 b1 b2
    by_cases hlt : cmpK a b < 0
    · rw [decide_eq_true hlt]
      go_wp2_with fail
      go_ret2
      refine ⟨?_, HF.out⟩
      rw [← HV.out, show cmpK a b = -1 from by have := cmpK_in a b; omega]
      simp_all [fieldK]
    · rw [decide_eq_false hlt]
      go_wp2_with fail
      refine (HL.out b a _).mono ?_
      rintro e w3 ⟨rfl, hf⟩
      have HF := Lib.hid (HF.out.trans hf)
      clear hf a0 a1 a2 b0 b1 b2
      by_cases hgt : cmpK b a < 0
      · rw [decide_eq_true hgt]
        go_wp2_with fail
        go_ret2
        refine ⟨?_, HF.out⟩
        rw [← HV.out, show cmpK a b = 1 from by have := cmpK_in a b; have := cmpK_anti a b; omega]
        simp_all [fieldK]
      · rw [decide_eq_false hgt]
        go_wp2_with fail
        go_ret2
        refine ⟨?_, HF.out⟩
        have h0 : cmpK a b = 0 := by have := cmpK_in a b; have := cmpK_anti a b; omega
        have := (cmpK_eq a b).1 h0
        subst this
        rw [← HV.out, h0]
        simp [fieldK]
end Go.Proofs.YtpklgpdlkdlbbaaGreatDoor

/-
  The reference: number.
-/
namespace Go.Proofs.YtpklgpdlkdlbbaaGreatDoor
open Go Go.RowKit
attribute [local go_sem ↓] Go.wp_at_zero Go.wp_at_succ
attribute [local go_sem] Oper.semAt_some wide_fn wide_depth wide_fnR wide_depthR

theorem num_step {l : List UInt8} {i : Nat} {x : UInt8} (hx : l[i]? = some x) : numB (l.take (i + 1)) = numB (l.take i) * 256 + x.toNat := by
  rw [List.take_add_one, hx]
  unfold numB
  rw [List.foldl_append]
  rfl
set_option maxRecDepth 100000 in
set_option maxHeartbeats 4000000 in
theorem rnum_any (g o n cap : Nat) (l : List UInt8) (w : World) (hb : BsIn w (some ⟨g, o, none⟩) l) (hl : l.length = n) (hn : n ≤ 7) : Calls Tryz.prog 87 #[.slice (some ⟨g, o, none⟩) n cap] w fun e w' => e = .returned (.int .i64 (numB l)) ∧ Fr0 none' w w' := by
  go_enter Tryz.func87, Tryz.ntmps87
  go_wp2_with fail
  have HB := Lib.hid hb
  have Hl := Lib.hid hl
  clear hb hl
  go_loopw [3, 4] (fun x c wr => ∃ i : Nat, i ≤ n ∧ x = .int .i64 (numB (l.take i)) ∧ c = .int .i64 i ∧ Hid (Fr0 none' w wr)) (fun _ c _ => n - (Go.RowKit.intOf c).toNat)
  case atStart => exact ⟨0, Nat.zero_le _, rfl, rfl, Fr0.refl _ _⟩
  case round =>
    obtain ⟨i, hi, rfl, rfl, hf⟩ := hrel
    by_cases hlt : i < n
    · have d0 : decide ((i : Int) < (n : Int)) = true := decide_eq_true (by omega)
      have e5 : IntKind.i64.wrap ((i : Int) + 1) = (i : Int) + 1 := IntWalk.i64_in _ (by omega)
      have b1 : (0 : Int) ≤ (i : Int) := by omega
      have b2 : (i : Int) < (n : Int) := by omega
      have hil : i < l.length := by rw [Hl.out]; exact hlt
      obtain ⟨x, hx⟩ : ∃ x, l[i]? = some x := ⟨_, List.getElem?_eq_getElem hil⟩
      obtain ⟨g', o', e, hc⟩ := HB.out i x hx
      injection e with e
      injection e with e e'
      subst e; subst e'
      have hc := hf.out.later hc
      have hs := num_step hx
      have hlt6 : numB (l.take i) < 281474976710656 := by
        have h1 := numB_lt (l.take i)
        have h2 : 256 ^ (l.take i).length ≤ 256 ^ 6 := Nat.pow_le_pow_right (by omega) (by rw [List.length_take]; omega)
        omega
      have hx8 := x.toNat_lt
      obtain ⟨m, hm⟩ : ∃ m, numB (l.take i) = m := ⟨_, rfl⟩
      obtain ⟨y, hy⟩ : ∃ y, x.toNat = y := ⟨_, rfl⟩
      rw [hm] at hs hlt6 ⊢
      rw [hy] at hs hc hx8
      have w1 : IntKind.i64.wrap ((m : Int) * 256) = (m : Int) * 256 := IntWalk.i64_in _ (by omega)
      have w2 : IntKind.i64.wrap ((m : Int) * 256 + (y : Int)) = (m : Int) * 256 + (y : Int) := IntWalk.i64_in _ (by omega)
      have w3 : IntKind.i64.wrap (y : Int) = (y : Int) := IntWalk.i64_in _ (by omega)
      have w4 : wrap64 (y : Int) = (y : Int) := by unfold wrap64; omega
      have Hs := Lib.hid hs
      clear hm hy hs hx hlt6 hx8
      go_wp2
      refine ⟨⟨i + 1, by omega, ?_, by simp, hf⟩, ?_⟩
      · rw [Hs.out]; simp
      · simp only [Go.RowKit.intOf]; omega
    · have d0 : decide ((i : Int) < (n : Int)) = false := decide_eq_false (by omega)
      have hin : l.take i = l := List.take_of_length_le (by rw [Hl.out]; omega)
      rw [hin]
      clear hin
      go_wp2
      go_ret
      exact ⟨rfl, hf.out⟩
end Go.Proofs.YtpklgpdlkdlbbaaGreatDoor

/-
  The reference: Read.
-/
namespace Go.Proofs.YtpklgpdlkdlbbaaGreatDoor
open Go Go.RowKit
attribute [local go_sem ↓] Go.wp_at_zero Go.wp_at_succ
attribute [local go_sem] Oper.semAt_some wide_fn wide_depth wide_fnR wide_depthR

theorem BsIn.sub {w : World} {g o : Nat} {l : List UInt8} (h : BsIn w (some ⟨g, o, none⟩) l) (d m : Nat) : BsIn w (some ⟨g, o + d, none⟩) ((l.drop d).take m) := fun i x hx => by
  have hx' : l[d + i]? = some x := by
    have h1 := (List.getElem?_eq_some_iff.1 hx).1
    rw [List.getElem?_take_of_lt (by simp at h1; omega), List.getElem?_drop] at hx
    exact hx
  obtain ⟨g', o', e, hc⟩ := h (d + i) x hx'
  injection e with e
  injection e with e e'
  subst e; subst e'
  exact ⟨g, o + d, rfl, by rw [Nat.add_assoc]; exact hc⟩
structure NewR (w W : World) (b : Nat) (k : Key3) : Prop where
  key : KeyAt W b k
  ge : w.heap.size ≤ b
theorem NewR.later {w W W' : World} {b : Nat} {k : Key3} (h : NewR w W b k) (hf : Fr0 none' W W') : NewR w W' b k := ⟨h.key.fr0 (S := none') hf (fun h => h), h.ge⟩
theorem NewR.fin {w W : World} {b : Nat} {k : Key3} (h : NewR w W b k) (hf : Fr0 none' w W) (x : Key3) : KeyAt (((W.setCell ⟨b, 0, none⟩ (.int .i64 x.time)).setCell ⟨b, 1, none⟩ (.int .i64 x.source)).setCell ⟨b, 2, none⟩ (.int .i64 x.seq)) b x ∧ Fr0 none' w (((W.setCell ⟨b, 0, none⟩ (.int .i64 x.time)).setCell ⟨b, 1, none⟩ (.int .i64 x.source)).setCell ⟨b, 2, none⟩ (.int .i64 x.seq)) ∧ w.heap.size ≤ b :=
  ⟨((h.key.set0 x.time).set1 x.source).set2 x.seq, ((hf.setCell (fun h' => absurd h' (by have := h.ge; omega)) _).setCell (fun h' => absurd h' (by have := h.ge; omega)) _).setCell (fun h' => absurd h' (by have := h.ge; omega)) _, h.ge⟩
theorem viaL {P : Program} {c : Code} {K : Act → World → Prop} {Q : Exit → Act → World → Prop} {a : Act} {w : World} (F : Nat → World → Prop) (vs : Nat → List (Nat × Value))
    (t : ∀ q W, F q W → K ((vs q).foldl (fun a p => a.put (some p.1) p.2) a) W)
    (h : (∀ q W, F q W → K ((vs q).foldl (fun a p => a.put (some p.1) p.2) a) W) → c.wp P (Exit.then K Q) a w) : c.wp P (Exit.then K Q) a w := h t
set_option maxRecDepth 100000 in
set_option maxHeartbeats 4000000 in
theorem rRead_in (g o cap : Nat) (l : List UInt8) (w : World) (hb : BsIn w (some ⟨g, o, none⟩) l) (hl : l.length = 12) (hc : 12 ≤ cap) (hcm : cap ≤ maxLen) : Calls Tryz.prog 52 #[.slice (some ⟨g, o, none⟩) 12 cap] w fun e w' => e = .returned (readV l) ∧ Fr0 none' w w' := by
  obtain ⟨x1, e1⟩ : ∃ x, numB (l.take 7) = x := ⟨_, rfl⟩
  obtain ⟨x2, e2⟩ : ∃ x, numB ((l.drop 7).take 1) = x := ⟨_, rfl⟩
  obtain ⟨x3, e3⟩ : ∃ x, numB ((l.drop 8).take 4) = x := ⟨_, rfl⟩
  have N1 := Lib.hid (fun w' (h : BsIn w' (some ⟨g, o, none⟩) l) => rnum_any g o 7 cap (l.take 7) w' (by have := h.sub 0 7; simpa using this) (by rw [List.length_take]; omega) (by omega))
  have N2 := Lib.hid (fun w' (h : BsIn w' (some ⟨g, o, none⟩) l) => rnum_any g (o + 7) 1 (cap - 7) ((l.drop 7).take 1) w' (h.sub 7 1) (by rw [List.length_take, List.length_drop]; omega) (by omega))
  have N3 := Lib.hid (fun w' (h : BsIn w' (some ⟨g, o, none⟩) l) => rnum_any g (o + 8) 4 (cap - 8) ((l.drop 8).take 4) w' (h.sub 8 4) (by rw [List.length_take, List.length_drop]; omega) (by omega))
  rw [e1] at N1
  rw [e2] at N2
  rw [e3] at N3
  have HK := Lib.hid (show keyB l = ⟨x1, x2, x3⟩ from by unfold keyB; rw [e1, e2, e3])
  have HB := Lib.hid hb
  clear hb e1 e2 e3
  go_enter Tryz.func52, Tryz.ntmps52
  go_wp2_with fail
  obtain ⟨b, hbb⟩ : ∃ b, w.heap.size = b := ⟨_, rfl⟩
  obtain ⟨w1, hw1⟩ : ∃ W, w.alloc (.cells #[.int .i64 0, .int .i64 0, .int .i64 0] 28) = W := ⟨_, rfl⟩
  have R := Lib.hid (show KeyAt w1 b zeroK from by rw [← hw1, ← hbb]; exact World.alloc_heap_new w _)
  have F0 := Lib.hid (show Fr0 none' w w1 from by rw [← hw1]; exact (Fr0.refl _ _).alloc _)
  have HB := Lib.hid (HB.out.later F0.out)
  have Hb := Lib.hid (show w.heap.size ≤ b from by omega)
  rw [hw1, hbb]
  clear hw1 hbb
  refine viaL (fun q W => KeyAt W q ⟨x1, x2, x3⟩ ∧ Fr0 none' w1 W ∧ w1.heap.size ≤ q) (fun q => [(9, .slice (some ⟨g, o, none⟩) 12 cap), (10, .slice (some ⟨g, o, none⟩) 7 cap), (11, .int .i64 x1), (12, .slice (some ⟨g, o, none⟩) 12 cap), (13, .slice (some ⟨g, o + 7, none⟩) 1 (cap - 7)), (14, .int .i64 x2), (15, .slice (some ⟨g, o, none⟩) 12 cap), (16, .slice (some ⟨g, o + 8, none⟩) 4 (cap - 8)), (17, .int .i64 x3), (18, .agg #[.int .i64 x1, .int .i64 x2, .int .i64 x3]), (4, .pointer (some ⟨q, 0, none⟩))]) (fun q W hF => ?_) (fun hT => ?_)
  · simp only [List.foldl, Act.put, List.setIfInBounds_toArray, List.set_cons_zero, List.set_cons_succ]
    obtain ⟨hkq, hf, _⟩ := hF
    have a0 := hkq.cell (i := 0) (by omega)
    have a1 := hkq.cell (i := 1) (by omega)
    have a2 := hkq.cell (i := 2) (by omega)
    simp [nth3] at a0 a1 a2
    have HR := Lib.hid (rRight_any ⟨x1, x2, x3⟩)
    have HQ := Lib.hid hkq
    have R := Lib.hid (R.out.fr0 (S := none') hf (fun h => h))
    have HF := Lib.hid (F0.out.trans hf)
    simp only [keyV] at HR
    have Hl := Lib.hid hl
    clear hkq hf hl N1 N2 N3 HB F0
    go_wp2_with fail
    refine (HR.out _).mono ?_
    rintro e w2 ⟨rfl, hf⟩
    have HF := Lib.hid (HF.out.trans hf)
    have R := Lib.hid (R.out.fr0 (S := none') hf (fun h => h))
    have HQ := Lib.hid (HQ.out.fr0 (S := none') hf (fun h => h))
    clear hf a0 a1 a2
    have a0 := HQ.out.cell (i := 0) (by omega)
    have a1 := HQ.out.cell (i := 1) (by omega)
    have a2 := HQ.out.cell (i := 2) (by omega)
    have b0 := R.out.frozen 0
    have b1 := R.out.frozen 1
    have b2 := R.out.frozen 2
    have c0 := R.out.cell (i := 0) (by omega)
    have c1 := R.out.cell (i := 1) (by omega)
    have c2 := R.out.cell (i := 2) (by omega)
    simp [nth3, zeroK] at a0 a1 a2 c0 c1 c2
    by_cases hr : RightK ⟨x1, x2, x3⟩
    · have HV := Lib.hid (show readV l = .tuple #[keyV ⟨x1, x2, x3⟩, .int .i64 0] from by
        have h0 : readK l = some ⟨x1, x2, x3⟩ := by unfold readK; rw [if_pos ⟨Hl.out, by rw [HK.out]; exact hr⟩, HK.out]
        unfold readV; rw [h0]; rfl)
      rw [decide_eq_true hr]
      clear hr
      go_wp2_with fail
      obtain ⟨W3, hW⟩ : ∃ W, ((w2.setCell ⟨b, 0, none⟩ (.int .i64 (⟨x1, x2, x3⟩ : Key3).time)).setCell ⟨b, 1, none⟩ (.int .i64 (⟨x1, x2, x3⟩ : Key3).source)).setCell ⟨b, 2, none⟩ (.int .i64 (⟨x1, x2, x3⟩ : Key3).seq) = W := ⟨_, rfl⟩
      have K4 : KeyAt W3 b ⟨x1, x2, x3⟩ := by rw [← hW]; exact ((R.out.set0 (⟨x1, x2, x3⟩ : Key3).time).set1 (⟨x1, x2, x3⟩ : Key3).source).set2 (⟨x1, x2, x3⟩ : Key3).seq
      have F4 : Fr0 none' w W3 := by rw [← hW]; exact ((HF.out.setCell (fun h => absurd h (by have := Hb.out; omega)) _).setCell (fun h => absurd h (by have := Hb.out; omega)) _).setCell (fun h => absurd h (by have := Hb.out; omega)) _
      dsimp only [zeroK] at hW K4
      try dsimp only [zeroK]
      rw [hW]
      have g0 := K4.cell (i := 0) (by omega)
      have g1 := K4.cell (i := 1) (by omega)
      have g2 := K4.cell (i := 2) (by omega)
      simp [nth3] at g0 g1 g2
      refine bodyPost_ret (v := .tuple #[keyV ⟨x1, x2, x3⟩, .int .i64 0]) (by simp [results, Tryz.results52, go_sem, g0, g1, g2, keyV, zeroK]) rfl ⟨by rw [HV.out], F4⟩
    · have HV := Lib.hid (show readV l = .tuple #[keyV zeroK, .int .i64 71] from by
        have h0 : readK l = none := by unfold readK; exact if_neg (fun h => hr (by rw [← HK.out]; exact h.2))
        unfold readV; rw [h0]; rfl)
      rw [decide_eq_false hr]
      clear hr
      go_wp2_with fail
      obtain ⟨W3, hW⟩ : ∃ W, ((w2.setCell ⟨b, 0, none⟩ (.int .i64 (zeroK : Key3).time)).setCell ⟨b, 1, none⟩ (.int .i64 (zeroK : Key3).source)).setCell ⟨b, 2, none⟩ (.int .i64 (zeroK : Key3).seq) = W := ⟨_, rfl⟩
      have K4 : KeyAt W3 b zeroK := by rw [← hW]; exact ((R.out.set0 (zeroK : Key3).time).set1 (zeroK : Key3).source).set2 (zeroK : Key3).seq
      have F4 : Fr0 none' w W3 := by rw [← hW]; exact ((HF.out.setCell (fun h => absurd h (by have := Hb.out; omega)) _).setCell (fun h => absurd h (by have := Hb.out; omega)) _).setCell (fun h => absurd h (by have := Hb.out; omega)) _
      dsimp only [zeroK] at hW K4
      try dsimp only [zeroK]
      rw [hW]
      have g0 := K4.cell (i := 0) (by omega)
      have g1 := K4.cell (i := 1) (by omega)
      have g2 := K4.cell (i := 2) (by omega)
      simp [nth3] at g0 g1 g2
      refine bodyPost_ret (v := .tuple #[keyV zeroK, .int .i64 71]) (by simp [results, Tryz.results52, go_sem, g0, g1, g2, keyV, zeroK]) rfl ⟨by rw [HV.out], F4⟩
  · simp only [List.foldl, Act.put, List.setIfInBounds_toArray, List.set_cons_zero, List.set_cons_succ] at hT
    have HT := Lib.hid hT
    have F := Lib.hid (Fr0.refl none' w1)
    clear hT
    refine wp_region_held_drew (S := fun _ => True) (by kernel_rfl) trivial (fun hHeld => ?_)
    refine take_on (i := 0) (v := .slice (some ⟨g, o, none⟩) 12 cap) rfl (by kernel_rfl) (by kernel_rfl) (by kernel_rfl) (fun _ _ _ h => h) (by kernel_rfl) (fun W' hSW => ?_) (by trivial) ?_
    · clear hSW
      first | (go_simp; done) | exact rfl | (go_simp; rfl) | (go_simp; omega)
    try simp only [Act.put, List.setIfInBounds_toArray, List.set_cons_zero, List.set_cons_succ]
    refine take_on (i := 1) (v := .slice (some ⟨g, o, none⟩) 7 cap) rfl (by kernel_rfl) (by kernel_rfl) (by kernel_rfl) (fun _ _ _ h => h) (by kernel_rfl) (fun W' hSW => ?_) (by trivial) ?_
    · clear hSW
      first | (go_simp; done) | exact rfl | (go_simp; rfl) | (go_simp; omega)
    try simp only [Act.put, List.setIfInBounds_toArray, List.set_cons_zero, List.set_cons_succ]
    refine take_on (i := 3) (v := .slice (some ⟨g, o, none⟩) 12 cap) rfl (by kernel_rfl) (by kernel_rfl) (by kernel_rfl) (fun _ _ _ h => h) (by kernel_rfl) (fun W' hSW => ?_) (by trivial) ?_
    · clear hSW
      first | (go_simp; done) | exact rfl | (go_simp; rfl) | (go_simp; omega)
    try simp only [Act.put, List.setIfInBounds_toArray, List.set_cons_zero, List.set_cons_succ]
    have s1 : ¬ cap = 7 := by omega
    have s2 : ¬ (cap : Int) = 7 := by omega
    have s3 : (8 : Int) ≤ (cap : Int) := by omega
    have s4 : ¬ cap - 7 = 0 := by omega
    have s5 : ¬ cap ≤ 7 := by omega
    refine take_on (i := 4) (v := .slice (some ⟨g, o + 7, none⟩) 1 (cap - 7)) rfl (by kernel_rfl) (by kernel_rfl) (by kernel_rfl) (fun _ _ _ h => h) (by kernel_rfl) (fun W' hSW => ?_) (by trivial) ?_
    · clear hSW
      first | (go_simp; done) | exact rfl | (go_simp; rfl) | (go_simp; omega)
    try simp only [Act.put, List.setIfInBounds_toArray, List.set_cons_zero, List.set_cons_succ]
    refine take_on (i := 6) (v := .slice (some ⟨g, o, none⟩) 12 cap) rfl (by kernel_rfl) (by kernel_rfl) (by kernel_rfl) (fun _ _ _ h => h) (by kernel_rfl) (fun W' hSW => ?_) (by trivial) ?_
    · clear hSW
      first | (go_simp; done) | exact rfl | (go_simp; rfl) | (go_simp; omega)
    try simp only [Act.put, List.setIfInBounds_toArray, List.set_cons_zero, List.set_cons_succ]
    refine take_on (i := 7) (v := .slice (some ⟨g, o + 8, none⟩) 4 (cap - 8)) rfl (by kernel_rfl) (by kernel_rfl) (by kernel_rfl) (fun _ _ _ h => h) (by kernel_rfl) (fun W' hSW => ?_) (by trivial) ?_
    · clear hSW
      first | (go_simp; done) | exact rfl | (go_simp; rfl) | (go_simp; omega)
    try simp only [Act.put, List.setIfInBounds_toArray, List.set_cons_zero, List.set_cons_succ]
    refine wpAnyH_ready (rs := [2, 10]) (by kernel_rfl) (by simp) (AllReadyH.cons (op_at rfl) (fun K hK => ?_) (AllReadyH.cons (op_at rfl) (fun K hK => ?_) AllReadyH.nil))
    · rw [if_pos (by kernel_rfl)]
      go_simp
      refine (N1.out _ (HB.out.later (F.out.trans ((Fr0.refl none' w1).drew)))).mono ?_
      rintro e v1 ⟨rfl, hf⟩
      have hf := ((Fr0.refl none' w1).drew).trans hf
      have F := Lib.hid (F.out.trans hf)
      try have A4 := Lib.hid (A4.out.later hf)
      clear hf
      go_wp2_with fail
      refine hK.out _ _ trivial (fun _ => ?_)
      clear hK K
      try simp only [Act.put, List.setIfInBounds_toArray, List.set_cons_zero, List.set_cons_succ]
      refine wpAnyH_ready (rs := [5, 10]) (by kernel_rfl) (by simp) (AllReadyH.cons (op_at rfl) (fun K hK => ?_) (AllReadyH.cons (op_at rfl) (fun K hK => ?_) AllReadyH.nil))
      · rw [if_pos (by kernel_rfl)]
        go_simp
        refine (N2.out _ (HB.out.later (F.out.trans ((Fr0.refl none' v1))))).mono ?_
        rintro e v2 ⟨rfl, hf⟩
        have hf := ((Fr0.refl none' v1)).trans hf
        have F := Lib.hid (F.out.trans hf)
        try have A4 := Lib.hid (A4.out.later hf)
        clear hf
        go_wp2_with fail
        refine hK.out _ _ trivial (fun _ => ?_)
        clear hK K
        try simp only [Act.put, List.setIfInBounds_toArray, List.set_cons_zero, List.set_cons_succ]
        refine wpAnyH_ready (rs := [8, 10]) (by kernel_rfl) (by simp) (AllReadyH.cons (op_at rfl) (fun K hK => ?_) (AllReadyH.cons (op_at rfl) (fun K hK => ?_) AllReadyH.nil))
        · rw [if_pos (by kernel_rfl)]
          go_simp
          refine (N3.out _ (HB.out.later (F.out.trans ((Fr0.refl none' v2))))).mono ?_
          rintro e v3 ⟨rfl, hf⟩
          have hf := ((Fr0.refl none' v2)).trans hf
          have F := Lib.hid (F.out.trans hf)
          try have A4 := Lib.hid (A4.out.later hf)
          clear hf
          go_wp2_with fail
          refine hK.out _ _ trivial (fun _ => ?_)
          clear hK K
          try simp only [Act.put, List.setIfInBounds_toArray, List.set_cons_zero, List.set_cons_succ]
          refine take_on (i := 9) (v := .agg #[.int .i64 x1, .int .i64 x2, .int .i64 x3]) rfl (by kernel_rfl) (by kernel_rfl) (by kernel_rfl) (fun _ _ _ h => h) (by kernel_rfl) (fun W' hSW => ?_) (by trivial) ?_
          · clear hSW
            first | (go_simp; done) | exact rfl | (go_simp; rfl) | (go_simp; omega)
          try simp only [Act.put, List.setIfInBounds_toArray, List.set_cons_zero, List.set_cons_succ]
          refine take_call (i := 10) rfl (by kernel_rfl) (by kernel_rfl) (fun K hK => ?_)
          go_simp
          obtain ⟨q, hq⟩ : ∃ q, v3.heap.size = q := ⟨_, rfl⟩
          obtain ⟨v4, hW⟩ : ∃ W2, (v3.alloc (.cells #[.int .i64 0, .int .i64 0, .int .i64 0] 28)) = W2 := ⟨_, rfl⟩
          have hf : Fr0 none' v3 v4 := by rw [← hW]; exact ((Fr0.refl _ _).alloc _)
          have A4 := Lib.hid (show NewR w1 v4 q zeroK from by rw [← hW, ← hq]; exact ⟨World.alloc_heap_new v3 _, F.out.size⟩)
          have F := Lib.hid (F.out.trans hf)
          rw [hW, hq]
          clear hW hq hf
          refine hK.out _ _ trivial (fun _ => ?_)
          clear hK K
          try simp only [Act.put, List.setIfInBounds_toArray, List.set_cons_zero, List.set_cons_succ]
          have c0 := A4.out.key.cell (i := 0) (by omega)
          have c1 := A4.out.key.cell (i := 1) (by omega)
          have c2 := A4.out.key.cell (i := 2) (by omega)
          have f0 := A4.out.key.frozen 0
          have f1 := A4.out.key.frozen 1
          have f2 := A4.out.key.frozen 2
          simp [nth3, zeroK] at c0 c1 c2
          refine take_call (i := 11) rfl (by kernel_rfl) (by kernel_rfl) (fun K hK => ?_)
          go_simp
          clear c0 c1 c2 f0 f1 f2
          refine hK.out _ _ trivial (fun _ => ?_)
          clear hK K
          try simp only [Act.put, List.setIfInBounds_toArray, List.set_cons_zero, List.set_cons_succ]
          refine wpAnyH_done (by kernel_rfl) ?_ _
          exact HT.out q _ (A4.out.fin F.out ⟨x1, x2, x3⟩)
        · rw [if_pos (by kernel_rfl)]
          go_simp
          obtain ⟨q, hq⟩ : ∃ q, v2.heap.size = q := ⟨_, rfl⟩
          obtain ⟨v5, hW⟩ : ∃ W2, (v2.alloc (.cells #[.int .i64 0, .int .i64 0, .int .i64 0] 28)) = W2 := ⟨_, rfl⟩
          have hf : Fr0 none' v2 v5 := by rw [← hW]; exact ((Fr0.refl _ _).alloc _)
          have A4 := Lib.hid (show NewR w1 v5 q zeroK from by rw [← hW, ← hq]; exact ⟨World.alloc_heap_new v2 _, F.out.size⟩)
          have F := Lib.hid (F.out.trans hf)
          rw [hW, hq]
          clear hW hq hf
          refine hK.out _ _ trivial (fun _ => ?_)
          clear hK K
          try simp only [Act.put, List.setIfInBounds_toArray, List.set_cons_zero, List.set_cons_succ]
          refine take_call (i := 8) rfl (by kernel_rfl) (by kernel_rfl) (fun K hK => ?_)
          go_simp
          refine (N3.out _ (HB.out.later (F.out.trans ((Fr0.refl none' v5))))).mono ?_
          rintro e v6 ⟨rfl, hf⟩
          have hf := ((Fr0.refl none' v5)).trans hf
          have F := Lib.hid (F.out.trans hf)
          try have A4 := Lib.hid (A4.out.later hf)
          clear hf
          go_wp2_with fail
          refine hK.out _ _ trivial (fun _ => ?_)
          clear hK K
          try simp only [Act.put, List.setIfInBounds_toArray, List.set_cons_zero, List.set_cons_succ]
          refine take_on (i := 9) (v := .agg #[.int .i64 x1, .int .i64 x2, .int .i64 x3]) rfl (by kernel_rfl) (by kernel_rfl) (by kernel_rfl) (fun _ _ _ h => h) (by kernel_rfl) (fun W' hSW => ?_) (by trivial) ?_
          · clear hSW
            first | (go_simp; done) | exact rfl | (go_simp; rfl) | (go_simp; omega)
          try simp only [Act.put, List.setIfInBounds_toArray, List.set_cons_zero, List.set_cons_succ]
          have c0 := A4.out.key.cell (i := 0) (by omega)
          have c1 := A4.out.key.cell (i := 1) (by omega)
          have c2 := A4.out.key.cell (i := 2) (by omega)
          have f0 := A4.out.key.frozen 0
          have f1 := A4.out.key.frozen 1
          have f2 := A4.out.key.frozen 2
          simp [nth3, zeroK] at c0 c1 c2
          refine take_call (i := 11) rfl (by kernel_rfl) (by kernel_rfl) (fun K hK => ?_)
          go_simp
          clear c0 c1 c2 f0 f1 f2
          refine hK.out _ _ trivial (fun _ => ?_)
          clear hK K
          try simp only [Act.put, List.setIfInBounds_toArray, List.set_cons_zero, List.set_cons_succ]
          refine wpAnyH_done (by kernel_rfl) ?_ _
          exact HT.out q _ (A4.out.fin F.out ⟨x1, x2, x3⟩)
      · rw [if_pos (by kernel_rfl)]
        go_simp
        obtain ⟨q, hq⟩ : ∃ q, v1.heap.size = q := ⟨_, rfl⟩
        obtain ⟨v7, hW⟩ : ∃ W2, (v1.alloc (.cells #[.int .i64 0, .int .i64 0, .int .i64 0] 28)) = W2 := ⟨_, rfl⟩
        have hf : Fr0 none' v1 v7 := by rw [← hW]; exact ((Fr0.refl _ _).alloc _)
        have A4 := Lib.hid (show NewR w1 v7 q zeroK from by rw [← hW, ← hq]; exact ⟨World.alloc_heap_new v1 _, F.out.size⟩)
        have F := Lib.hid (F.out.trans hf)
        rw [hW, hq]
        clear hW hq hf
        refine hK.out _ _ trivial (fun _ => ?_)
        clear hK K
        try simp only [Act.put, List.setIfInBounds_toArray, List.set_cons_zero, List.set_cons_succ]
        refine take_call (i := 5) rfl (by kernel_rfl) (by kernel_rfl) (fun K hK => ?_)
        go_simp
        refine (N2.out _ (HB.out.later (F.out.trans ((Fr0.refl none' v7))))).mono ?_
        rintro e v8 ⟨rfl, hf⟩
        have hf := ((Fr0.refl none' v7)).trans hf
        have F := Lib.hid (F.out.trans hf)
        try have A4 := Lib.hid (A4.out.later hf)
        clear hf
        go_wp2_with fail
        refine hK.out _ _ trivial (fun _ => ?_)
        clear hK K
        try simp only [Act.put, List.setIfInBounds_toArray, List.set_cons_zero, List.set_cons_succ]
        refine take_call (i := 8) rfl (by kernel_rfl) (by kernel_rfl) (fun K hK => ?_)
        go_simp
        refine (N3.out _ (HB.out.later (F.out.trans ((Fr0.refl none' v8))))).mono ?_
        rintro e v9 ⟨rfl, hf⟩
        have hf := ((Fr0.refl none' v8)).trans hf
        have F := Lib.hid (F.out.trans hf)
        try have A4 := Lib.hid (A4.out.later hf)
        clear hf
        go_wp2_with fail
        refine hK.out _ _ trivial (fun _ => ?_)
        clear hK K
        try simp only [Act.put, List.setIfInBounds_toArray, List.set_cons_zero, List.set_cons_succ]
        refine take_on (i := 9) (v := .agg #[.int .i64 x1, .int .i64 x2, .int .i64 x3]) rfl (by kernel_rfl) (by kernel_rfl) (by kernel_rfl) (fun _ _ _ h => h) (by kernel_rfl) (fun W' hSW => ?_) (by trivial) ?_
        · clear hSW
          first | (go_simp; done) | exact rfl | (go_simp; rfl) | (go_simp; omega)
        try simp only [Act.put, List.setIfInBounds_toArray, List.set_cons_zero, List.set_cons_succ]
        have c0 := A4.out.key.cell (i := 0) (by omega)
        have c1 := A4.out.key.cell (i := 1) (by omega)
        have c2 := A4.out.key.cell (i := 2) (by omega)
        have f0 := A4.out.key.frozen 0
        have f1 := A4.out.key.frozen 1
        have f2 := A4.out.key.frozen 2
        simp [nth3, zeroK] at c0 c1 c2
        refine take_call (i := 11) rfl (by kernel_rfl) (by kernel_rfl) (fun K hK => ?_)
        go_simp
        clear c0 c1 c2 f0 f1 f2
        refine hK.out _ _ trivial (fun _ => ?_)
        clear hK K
        try simp only [Act.put, List.setIfInBounds_toArray, List.set_cons_zero, List.set_cons_succ]
        refine wpAnyH_done (by kernel_rfl) ?_ _
        exact HT.out q _ (A4.out.fin F.out ⟨x1, x2, x3⟩)
    · rw [if_pos (by kernel_rfl)]
      go_simp
      obtain ⟨q, hq⟩ : ∃ q, w1.heap.size = q := ⟨_, rfl⟩
      obtain ⟨v10, hW⟩ : ∃ W2, (w1.alloc (.cells #[.int .i64 0, .int .i64 0, .int .i64 0] 28)).drew = W2 := ⟨_, rfl⟩
      have hf : Fr0 none' w1 v10 := by rw [← hW]; exact ((Fr0.refl _ _).alloc _).drew
      have A4 := Lib.hid (show NewR w1 v10 q zeroK from by rw [← hW, ← hq]; exact ⟨World.alloc_heap_new w1 _, F.out.size⟩)
      have F := Lib.hid (F.out.trans hf)
      rw [hW, hq]
      clear hW hq hf
      refine hK.out _ _ trivial (fun _ => ?_)
      clear hK K
      try simp only [Act.put, List.setIfInBounds_toArray, List.set_cons_zero, List.set_cons_succ]
      refine take_call (i := 2) rfl (by kernel_rfl) (by kernel_rfl) (fun K hK => ?_)
      go_simp
      refine (N1.out _ (HB.out.later (F.out.trans ((Fr0.refl none' v10))))).mono ?_
      rintro e v11 ⟨rfl, hf⟩
      have hf := ((Fr0.refl none' v10)).trans hf
      have F := Lib.hid (F.out.trans hf)
      try have A4 := Lib.hid (A4.out.later hf)
      clear hf
      go_wp2_with fail
      refine hK.out _ _ trivial (fun _ => ?_)
      clear hK K
      try simp only [Act.put, List.setIfInBounds_toArray, List.set_cons_zero, List.set_cons_succ]
      refine take_call (i := 5) rfl (by kernel_rfl) (by kernel_rfl) (fun K hK => ?_)
      go_simp
      refine (N2.out _ (HB.out.later (F.out.trans ((Fr0.refl none' v11))))).mono ?_
      rintro e v12 ⟨rfl, hf⟩
      have hf := ((Fr0.refl none' v11)).trans hf
      have F := Lib.hid (F.out.trans hf)
      try have A4 := Lib.hid (A4.out.later hf)
      clear hf
      go_wp2_with fail
      refine hK.out _ _ trivial (fun _ => ?_)
      clear hK K
      try simp only [Act.put, List.setIfInBounds_toArray, List.set_cons_zero, List.set_cons_succ]
      refine take_call (i := 8) rfl (by kernel_rfl) (by kernel_rfl) (fun K hK => ?_)
      go_simp
      refine (N3.out _ (HB.out.later (F.out.trans ((Fr0.refl none' v12))))).mono ?_
      rintro e v13 ⟨rfl, hf⟩
      have hf := ((Fr0.refl none' v12)).trans hf
      have F := Lib.hid (F.out.trans hf)
      try have A4 := Lib.hid (A4.out.later hf)
      clear hf
      go_wp2_with fail
      refine hK.out _ _ trivial (fun _ => ?_)
      clear hK K
      try simp only [Act.put, List.setIfInBounds_toArray, List.set_cons_zero, List.set_cons_succ]
      refine take_on (i := 9) (v := .agg #[.int .i64 x1, .int .i64 x2, .int .i64 x3]) rfl (by kernel_rfl) (by kernel_rfl) (by kernel_rfl) (fun _ _ _ h => h) (by kernel_rfl) (fun W' hSW => ?_) (by trivial) ?_
      · clear hSW
        first | (go_simp; done) | exact rfl | (go_simp; rfl) | (go_simp; omega)
      try simp only [Act.put, List.setIfInBounds_toArray, List.set_cons_zero, List.set_cons_succ]
      have c0 := A4.out.key.cell (i := 0) (by omega)
      have c1 := A4.out.key.cell (i := 1) (by omega)
      have c2 := A4.out.key.cell (i := 2) (by omega)
      have f0 := A4.out.key.frozen 0
      have f1 := A4.out.key.frozen 1
      have f2 := A4.out.key.frozen 2
      simp [nth3, zeroK] at c0 c1 c2
      refine take_call (i := 11) rfl (by kernel_rfl) (by kernel_rfl) (fun K hK => ?_)
      go_simp
      clear c0 c1 c2 f0 f1 f2
      refine hK.out _ _ trivial (fun _ => ?_)
      clear hK K
      try simp only [Act.put, List.setIfInBounds_toArray, List.set_cons_zero, List.set_cons_succ]
      refine wpAnyH_done (by kernel_rfl) ?_ _
      exact HT.out q _ (A4.out.fin F.out ⟨x1, x2, x3⟩)
set_option maxRecDepth 100000 in
set_option maxHeartbeats 2000000 in
theorem rRead_short (a : Option Addr) (n cap : Nat) (hn : n ≠ 12) (w : World) : Calls Tryz.prog 52 #[.slice a n cap] w fun e w' => e = .returned (.tuple #[keyV zeroK, .int .i64 71]) ∧ Fr0 none' w w' := by
  have d0 : ((n : Int) != 12) = true := by simp; omega
  go_enter Tryz.func52, Tryz.ntmps52
  go_wp2
  have k1 : KeyAt (w.alloc (.cells #[.int .i64 0, .int .i64 0, .int .i64 0] 28)) w.heap.size zeroK := World.alloc_heap_new w _
  have F4 : Fr0 none' w (w.alloc (.cells #[.int .i64 0, .int .i64 0, .int .i64 0] 28)) := (Fr0.refl _ _).alloc _
  generalize w.alloc (.cells #[.int .i64 0, .int .i64 0, .int .i64 0] 28) = W4 at k1 F4 ⊢
  have d0 := k1.cell (i := 0) (by omega)
  have d1 := k1.cell (i := 1) (by omega)
  have d2 := k1.cell (i := 2) (by omega)
  simp [nth3, zeroK] at d0 d1 d2
  refine bodyPost_ret (v := .tuple #[keyV zeroK, .int .i64 71]) (by simp [results, Tryz.results52, go_sem, d0, d1, d2, keyV, zeroK]) rfl ⟨rfl, F4⟩
end Go.Proofs.YtpklgpdlkdlbbaaGreatDoor

/-
  The reference: put, Bytes.
-/
namespace Go.Proofs.YtpklgpdlkdlbbaaGreatDoor
open Go Go.RowKit
attribute [local go_sem ↓] Go.wp_at_zero Go.wp_at_succ
attribute [local go_sem] Oper.semAt_some wide_fn wide_depth wide_fnR wide_depthR

theorem beB_snoc : ∀ m x, beB (m + 1) x = beB m (x / 256) ++ [UInt8.ofNat (x % 256)]
  | 0, x => by simp [beB]
  | m + 1, x => by
    rw [beB, beB_snoc m x, beB, List.cons_append]
    congr 3
    rw [Nat.div_div_eq_div_mul, Nat.pow_succ, Nat.mul_comm]
/-- What put returns. -/
def PutPost (base : Nat) (v : Value) (l : List UInt8) (w : World) (e : Ending) (w' : World) : Prop :=
  ∃ v', e = .returned v' ∧ w'.ownsRow base 5 1 v' l.length (Lib.byteCells l) ∧ Fr0 (fun k => v.ownBlock = some k) w w' ∧ (∀ g, v'.ownBlock = some g → v.ownBlock = some g ∨ w.heap.size ≤ g)
set_option maxRecDepth 100000 in
set_option maxHeartbeats 4000000 in
theorem rput_any (m : Nat) : ∀ (n : Nat), n < 1000000000000000000 → m ≤ 20 → ∀ (v : Value) (l : List UInt8) (base : Nat) (w : World), w.ownsRow base 5 1 v l.length (Lib.byteCells l) → l.length ≤ 100 → base ≤ w.heap.size →
    Calls Tryz.prog 51 #[v, .int .i64 n, .int .i64 m] w (PutPost base v (l ++ beB m n) w) := by
  induction m with
  | zero =>
    intro n hn hm v l base w hr hl hb
    have d0 : (((0 : Nat) : Int) == 0) = true := rfl
    have H := Lib.hid hr
    clear hr
    go_enter Tryz.func51, Tryz.ntmps51
    go_wp2
    go_ret
    exact ⟨v, rfl, by simpa [beB] using H.out, Fr0.refl _ _, fun g hg => .inl hg⟩
  | succ m ih =>
    intro n hn hm v l base w hr hl hb
    have d0 : (((m + 1 : Nat) : Int) == 0) = false := by simp; omega
    have d1 : ((m : Int) + 1 == 0) = false := by simp; omega
    obtain ⟨i0, hi, hz0, hz1, hz2⟩ := info_parts info_byte
    have HI := Lib.hid (ih (n / 256) (by omega) (by omega) v l base w hr hl hb)
    have Hv := Lib.hid (fun g hg => (hr.lt g hg).2)
    have q0 : (n : Int).tdiv 256 = ((n / 256 : Nat) : Int) := by rw [Int.tdiv_eq_ediv_of_nonneg (by omega)]; omega
    have q1 : (n : Int).tmod 256 = ((n % 256 : Nat) : Int) := by rw [Int.tmod_eq_emod_of_nonneg (by omega)]; omega
    have q2 : (n : Int) / 256 = ((n / 256 : Nat) : Int) := by omega
    have q3 : (n : Int) % 256 = ((n % 256 : Nat) : Int) := by omega
    have q4 : IntKind.u8.wrap ((n % 256 : Nat) : Int) = ((n % 256 : Nat) : Int) := by rw [IntKind.wrap_u8]; omega
    have Hn := Lib.hid (beB_snoc m n)
    have hlen : (l ++ beB m (n / 256)).length = l.length + m := by rw [List.length_append, beB_length]
    obtain ⟨l1, hl1⟩ : ∃ l1, l ++ beB m (n / 256) = l1 := ⟨_, rfl⟩
    rw [hl1] at HI hlen
    have Hl1 := Lib.hid hl1
    obtain ⟨y, hy⟩ : ∃ y, n % 256 = y := ⟨_, rfl⟩
    have Hy := Lib.hid hy
    obtain ⟨n1, hn1⟩ : ∃ n1, n / 256 = n1 := ⟨_, rfl⟩
    have Hn1 := Lib.hid hn1
    rw [hy] at q1 q3 q4
    rw [hn1] at q0 q2 HI
    clear hr ih hy hn1 hl1
    go_enter Tryz.func51, Tryz.ntmps51
    go_wp2_with fail
    try rw [q2]
    refine HI.out.mono ?_
    rintro e w1 ⟨v1, rfl, hr1, hf1, ho1⟩
    have hr2 := ownsRow_q_fr hr1 ((Fr0.refl none' w1).alloc (.cells #[.int .u8 y] 5)) (fun _ _ h => h)
    have Hr2 := Lib.hid hr2
    have F1 := Lib.hid hf1
    have HO1 := Lib.hid ho1
    have Hl1l := Lib.hid (fun g hg => (hr1.lt g hg))
    have hsrc := Src.newRow (P := Tryz.prog) (size := 1) (tx := 30) (ty := 5) w1 Tryz.underlying30 1 1 [.int .u8 y] rfl (by simp [Value.oneCell'])
    have Hsrc := Lib.hid hsrc
    have hs1 := hf1.size
    clear hr1 hr2 hf1 ho1 hsrc
    go_wp2_with (at_builtin; refine wpList_append_k rfl _ _ 30 30 rfl base 5 i0 (.int .u8 0) 1 1 Tryz.underlying30 hi hz0 hz1 hz2 rfl (by decide) v1 l1.length _ rfl Hr2.out (.slice (some ⟨w1.heap.size, 0, none⟩) 1 1) 1 _ rfl Hsrc.out (by unfold maxLen; omega) (by omega) (by simp; omega) ?_; intro v' w2 hown' hgrow hdr hob; have Hown := Lib.hid hown'; have Hgr := Lib.hid hgrow; have Hob := Lib.hid hob; clear hown' hgrow hdr hob)
    go_ret
    have he : l ++ beB (m + 1) n = l1 ++ [UInt8.ofNat y] := by rw [Hn.out, ← List.append_assoc, Hl1.out, Hy.out]
    refine ⟨v', rfl, ?_, ?_, ?_⟩
    · have h1 := Hown.out
      rw [he, List.length_append]
      have h2 : Lib.byteCells (l1 ++ [UInt8.ofNat y]) = Lib.byteCells l1 ++ [Value.int .u8 y] := by
        have hy := Hy.out
        have : (UInt8.ofNat y).toNat = y := by simp; omega
        unfold Lib.byteCells
        rw [List.map_append, List.map_cons, List.map_nil, this]
      rw [h2]
      exact h1
    · exact (F1.out.alloc _).grown Hgr.out (fun g hg hlt => (HO1.out g hg).elim id (fun h => by omega))
    · intro g hg
      rcases Hob.out with h | h
      · exact HO1.out g (h ▸ hg)
      · rw [h] at hg; injection hg with hg; right; simp at hg; omega
theorem rBytes_wrong (k : Key3) (hk : ¬ RightK k) (w : World) : Calls Tryz.prog 21 #[keyV k] w fun e w' => e = .returned (.tuple #[.slice none 0 0, .int .i64 70]) ∧ Fr0 none' w w' := by
  have HR := Lib.hid (rRight_any k)
  simp only [keyV] at HR ⊢
  go_enter Tryz.func21, Tryz.ntmps21
  go_wp2_with fail
  refine (HR.out _).mono ?_
  rintro e w2 ⟨rfl, hf⟩
  have HF := Lib.hid ((((Fr0.refl none' w).alloc _)).trans hf)
  rw [decide_eq_false hk]
  clear hf
  go_wp2_with fail
  go_ret2
  exact ⟨rfl, HF.out⟩
set_option maxRecDepth 100000 in
set_option maxHeartbeats 4000000 in
theorem rBytes_any (k : Key3) (hk : RightK k) (w : World) : Calls Tryz.prog 21 #[keyV k] w fun e w' => ∃ v, e = .returned (.tuple #[v, .int .i64 0]) ∧ w'.ownsRow w.heap.size 5 1 v 12 (Lib.byteCells (bytesK k)) ∧ Fr0 none' w w' := by
  have HR := Lib.hid (rRight_any k)
  obtain ⟨kt, ks, kq⟩ := k
  obtain ⟨h1, h2, h3, h4, h5, h6⟩ := hk
  have HK := Lib.hid (show RightK ⟨kt, ks, kq⟩ from ⟨h1, h2, h3, h4, h5, h6⟩)
  dsimp only at h1 h2 h3 h4 h5 h6
  obtain ⟨t, rfl⟩ : ∃ t : Nat, kt = t := ⟨kt.toNat, by omega⟩
  obtain ⟨s, rfl⟩ : ∃ t : Nat, ks = t := ⟨ks.toNat, by omega⟩
  obtain ⟨q, rfl⟩ : ∃ t : Nat, kq = t := ⟨kq.toNat, by omega⟩
  simp only [keyV] at HR ⊢
  go_enter Tryz.func21, Tryz.ntmps21
  go_wp2_with fail
  refine (HR.out _).mono ?_
  rintro e w2 ⟨rfl, hf⟩
  have K2 := Lib.hid (KeyAt.fr0 (S := none') (k := ⟨t, s, q⟩) (World.alloc_heap_new w _) hf (fun h => h))
  have HF := Lib.hid ((((Fr0.refl none' w).alloc _)).trans hf)
  have HS2 := Lib.hid (show w.heap.size + 1 ≤ w2.heap.size from by have := hf.size; simp at this; omega)
  rw [decide_eq_true HK.out]
  clear hf
  go_wp2_with fail
  obtain ⟨b, hb⟩ : ∃ b, w.heap.size = b := ⟨_, rfl⟩
  rw [hb] at K2 HS2 ⊢
  have Hb := Lib.hid hb
  clear hb
  obtain ⟨x1, e1⟩ : ∃ x, beB 7 t = x := ⟨_, rfl⟩
  obtain ⟨x2, e2⟩ : ∃ x, beB 1 s = x := ⟨_, rfl⟩
  obtain ⟨x3, e3⟩ : ∃ x, beB 4 q = x := ⟨_, rfl⟩
  have l1 : x1.length = 7 := by rw [← e1, beB_length]
  have l2 : x2.length = 1 := by rw [← e2, beB_length]
  have l3 : x3.length = 4 := by rw [← e3, beB_length]
  have P1 := Lib.hid (show ∀ W : World, b + 1 ≤ W.heap.size → Calls Tryz.prog 51 #[.slice none 0 0, .int .i64 t, .int .i64 7] W (PutPost (b + 1) (.slice none 0 0) ([] ++ beB 7 t) W) from fun W h => rput_any 7 t (by omega) (by omega) (.slice none 0 0) [] (b + 1) W (World.ownsRow_nil _ _ _ _) (by simp) h)
  have P2 := Lib.hid (show ∀ (v : Value) (W : World), W.ownsRow (b + 1) 5 1 v x1.length (Lib.byteCells x1) → b + 1 ≤ W.heap.size → Calls Tryz.prog 51 #[v, .int .i64 s, .int .i64 1] W (PutPost (b + 1) v (x1 ++ beB 1 s) W) from fun v W h1 h => rput_any 1 s (by omega) (by omega) v x1 (b + 1) W h1 (by rw [l1]; omega) h)
  have P3 := Lib.hid (show ∀ (v : Value) (W : World), W.ownsRow (b + 1) 5 1 v (x1 ++ x2).length (Lib.byteCells (x1 ++ x2)) → b + 1 ≤ W.heap.size → Calls Tryz.prog 51 #[v, .int .i64 q, .int .i64 4] W (PutPost (b + 1) v ((x1 ++ x2) ++ beB 4 q) W) from fun v W h1 h => rput_any 4 q (by omega) (by omega) v (x1 ++ x2) (b + 1) W h1 (by rw [List.length_append, l1, l2]; omega) h)
  rw [e1, List.nil_append] at P1
  rw [e2] at P2
  rw [e3] at P3
  have HE := Lib.hid (show bytesK ⟨t, s, q⟩ = (x1 ++ x2) ++ x3 from by unfold bytesK; rw [← e1, ← e2, ← e3, List.append_assoc]; rfl)
  have HL := Lib.hid (show ((x1 ++ x2) ++ x3).length = 12 from by simp [l1, l2, l3])
  clear e1 e2 e3 l1 l2 l3 h1 h2 h3 h4 h5 h6
  refine wp_region_held_drew (S := fun W' => KeyAt W' b ⟨t, s, q⟩) (by kernel_rfl) K2.out (fun hHeld => ?_)
  refine take_on (i := 0) (v := .pointer (some ⟨b, 0, none⟩)) rfl (by kernel_rfl) (by kernel_rfl) (by kernel_rfl) (fun _ _ _ h => h) (by kernel_rfl) (fun W' hSW => ?_) (by assumption) ?_
  · have a0 := KeyAt.cell hSW (i := 0) (by omega)
    have a1 := KeyAt.cell hSW (i := 1) (by omega)
    have a2 := KeyAt.cell hSW (i := 2) (by omega)
    simp [nth3] at a0 a1 a2
    clear hSW
    first | (go_simp; done) | exact rfl | (go_simp; rfl) | (go_simp; omega)
  try simp only [Act.put, List.setIfInBounds_toArray, List.set_cons_zero, List.set_cons_succ]
  refine take_on (i := 1) (v := .int .i64 t) rfl (by kernel_rfl) (by kernel_rfl) (by kernel_rfl) (fun _ _ _ h => h) (by kernel_rfl) (fun W' hSW => ?_) (by assumption) ?_
  · have a0 := KeyAt.cell hSW (i := 0) (by omega)
    have a1 := KeyAt.cell hSW (i := 1) (by omega)
    have a2 := KeyAt.cell hSW (i := 2) (by omega)
    simp [nth3] at a0 a1 a2
    clear hSW
    first | (go_simp; done) | exact rfl | (go_simp; rfl) | (go_simp; omega)
  try simp only [Act.put, List.setIfInBounds_toArray, List.set_cons_zero, List.set_cons_succ]
  refine take_on (i := 3) (v := .pointer (some ⟨b, 1, none⟩)) rfl (by kernel_rfl) (by kernel_rfl) (by kernel_rfl) (fun _ _ _ h => h) (by kernel_rfl) (fun W' hSW => ?_) (by assumption) ?_
  · have a0 := KeyAt.cell hSW (i := 0) (by omega)
    have a1 := KeyAt.cell hSW (i := 1) (by omega)
    have a2 := KeyAt.cell hSW (i := 2) (by omega)
    simp [nth3] at a0 a1 a2
    clear hSW
    first | (go_simp; done) | exact rfl | (go_simp; rfl) | (go_simp; omega)
  try simp only [Act.put, List.setIfInBounds_toArray, List.set_cons_zero, List.set_cons_succ]
  refine take_on (i := 4) (v := .int .i64 s) rfl (by kernel_rfl) (by kernel_rfl) (by kernel_rfl) (fun _ _ _ h => h) (by kernel_rfl) (fun W' hSW => ?_) (by assumption) ?_
  · have a0 := KeyAt.cell hSW (i := 0) (by omega)
    have a1 := KeyAt.cell hSW (i := 1) (by omega)
    have a2 := KeyAt.cell hSW (i := 2) (by omega)
    simp [nth3] at a0 a1 a2
    clear hSW
    first | (go_simp; done) | exact rfl | (go_simp; rfl) | (go_simp; omega)
  try simp only [Act.put, List.setIfInBounds_toArray, List.set_cons_zero, List.set_cons_succ]
  refine take_on (i := 6) (v := .pointer (some ⟨b, 2, none⟩)) rfl (by kernel_rfl) (by kernel_rfl) (by kernel_rfl) (fun _ _ _ h => h) (by kernel_rfl) (fun W' hSW => ?_) (by assumption) ?_
  · have a0 := KeyAt.cell hSW (i := 0) (by omega)
    have a1 := KeyAt.cell hSW (i := 1) (by omega)
    have a2 := KeyAt.cell hSW (i := 2) (by omega)
    simp [nth3] at a0 a1 a2
    clear hSW
    first | (go_simp; done) | exact rfl | (go_simp; rfl) | (go_simp; omega)
  try simp only [Act.put, List.setIfInBounds_toArray, List.set_cons_zero, List.set_cons_succ]
  refine take_on (i := 7) (v := .int .i64 q) rfl (by kernel_rfl) (by kernel_rfl) (by kernel_rfl) (fun _ _ _ h => h) (by kernel_rfl) (fun W' hSW => ?_) (by assumption) ?_
  · have a0 := KeyAt.cell hSW (i := 0) (by omega)
    have a1 := KeyAt.cell hSW (i := 1) (by omega)
    have a2 := KeyAt.cell hSW (i := 2) (by omega)
    simp [nth3] at a0 a1 a2
    clear hSW
    first | (go_simp; done) | exact rfl | (go_simp; rfl) | (go_simp; omega)
  try simp only [Act.put, List.setIfInBounds_toArray, List.set_cons_zero, List.set_cons_succ]
  refine take_call (i := 2) rfl (by kernel_rfl) (by kernel_rfl) (fun K hK => ?_)
  go_simp
  refine (P1.out w2.drew HS2.out).mono ?_
  rintro e w3 ⟨v1, rfl, hr1, hf1, ho1⟩
  have hf1 : Fr0 none' w2 w3 := ((Fr0.refl none' w2).drew).trans (hf1.mono (fun k _ h => by cases h))
  have HF3 := Lib.hid (HF.out.trans hf1)
  have HS3 := Lib.hid (Nat.le_trans HS2.out hf1.size)
  have K3 := Lib.hid (K2.out.fr0 (S := none') hf1 (fun h => h))
  have R1 := Lib.hid hr1
  clear hf1 hr1 ho1
  go_wp2_with fail
  refine hK.out _ _ K3.out (fun _ => ?_)
  clear hK K hHeld
  try simp only [Act.put, List.setIfInBounds_toArray, List.set_cons_zero, List.set_cons_succ]
  refine take_call (i := 5) rfl (by kernel_rfl) (by kernel_rfl) (fun K hK => ?_)
  go_simp
  refine (P2.out v1 _ R1.out HS3.out).mono ?_
  rintro e w4 ⟨v2, rfl, hr2, hf2, ho2⟩
  have hlt1 := fun g hg => (R1.out.lt g hg).1
  have hfb : Fr0 (fun k => b + 1 ≤ k) w3 w4 := hf2.mono (fun k _ h => hlt1 k h)
  have HF4 := Lib.hid (HF3.out.trans' hfb (fun k hk h => by have := Hb.out; omega))
  have HS4 := Lib.hid (Nat.le_trans HS3.out hf2.size)
  have K4 := Lib.hid (K3.out.fr0 hfb (by omega))
  have R2 := Lib.hid hr2
  clear hlt1 hfb hf2 hr2 ho2
  go_wp2_with fail
  refine hK.out _ _ K4.out (fun _ => ?_)
  clear hK K
  try simp only [Act.put, List.setIfInBounds_toArray, List.set_cons_zero, List.set_cons_succ]
  refine take_call (i := 8) rfl (by kernel_rfl) (by kernel_rfl) (fun K hK => ?_)
  go_simp
  refine (P3.out v2 _ R2.out HS4.out).mono ?_
  rintro e w5 ⟨v3, rfl, hr2, hf2, ho2⟩
  have hlt1 := fun g hg => (R2.out.lt g hg).1
  have hfb : Fr0 (fun k => b + 1 ≤ k) w4 w5 := hf2.mono (fun k _ h => hlt1 k h)
  have HF5 := Lib.hid (HF4.out.trans' hfb (fun k hk h => by have := Hb.out; omega))
  have HS5 := Lib.hid (Nat.le_trans HS4.out hf2.size)
  have K5 := Lib.hid (K4.out.fr0 hfb (by omega))
  have R3 := Lib.hid hr2
  clear hlt1 hfb hf2 hr2 ho2
  go_wp2_with fail
  refine hK.out _ _ K5.out (fun _ => ?_)
  clear hK K
  try simp only [Act.put, List.setIfInBounds_toArray, List.set_cons_zero, List.set_cons_succ]
  refine take_on (i := 9) (v := v3) rfl (by kernel_rfl) (by kernel_rfl) (by kernel_rfl) (fun _ _ _ h => h) (by kernel_rfl) (fun W' hSW => ?_) (by assumption) ?_
  · clear hSW
    first | (go_simp; done) | exact rfl
  try simp only [Act.put, List.setIfInBounds_toArray, List.set_cons_zero, List.set_cons_succ]
  refine take_on (i := 10) (v := .int .i64 0) rfl (by kernel_rfl) (by kernel_rfl) (by kernel_rfl) (fun _ _ _ h => h) (by kernel_rfl) (fun W' hSW => ?_) (by assumption) ?_
  · have a0 := KeyAt.cell hSW (i := 0) (by omega)
    have a1 := KeyAt.cell hSW (i := 1) (by omega)
    have a2 := KeyAt.cell hSW (i := 2) (by omega)
    simp [nth3] at a0 a1 a2
    clear hSW
    first | (go_simp; done) | exact rfl | (go_simp; rfl) | (go_simp; omega)
  try simp only [Act.put, List.setIfInBounds_toArray, List.set_cons_zero, List.set_cons_succ]
  refine wpAnyH_done (by kernel_rfl) ?_ _
  go_wp2
  go_ret2
  refine ⟨v3, rfl, ?_, HF5.out⟩
  have h1 := ownsRow_k_mono R3.out (show w.heap.size ≤ b + 1 by have := Hb.out; omega)
  rw [HL.out] at h1
  rw [HE.out]
  exact h1
end Go.Proofs.YtpklgpdlkdlbbaaGreatDoor

/-
  The reference: decimal, Text.
-/
namespace Go.Proofs.YtpklgpdlkdlbbaaGreatDoor
open Go Go.RowKit
attribute [local go_sem ↓] Go.wp_at_zero Go.wp_at_succ
attribute [local go_sem] Oper.semAt_some wide_fn wide_depth wide_fnR wide_depthR

theorem one_bs {W : World} {q m : Nat} (h : W.heap[q]? = some (.cells #[.int .u8 (48 + (m : Int))] 5 (0, 0))) (hm : m < 10) : BsIn W (some ⟨q, 0, none⟩) [UInt8.ofNat (48 + m)] := fun i x hx => by
  have hi : i = 0 := by have := (List.getElem?_eq_some_iff.1 hx).1; simpa using this
  subst hi
  injection hx with hx
  subst hx
  refine ⟨q, 0, rfl, ?_⟩
  rw [cellsK_at h]
  have : (UInt8.ofNat (48 + m)).toNat = 48 + m := by simp; omega
  rw [this]
  simp
theorem conv_one (w : World) (m : Nat) (hm : m < 10) : (convert 30 9 (.slice (some ⟨w.heap.size, 0, none⟩) 1 1)).run Tryz.prog (w.alloc (.cells #[.int .u8 (48 + (m : Int))] 5)) = .ok (.string ⟨[UInt8.ofNat (48 + m)].toArray⟩) (w.alloc (.cells #[.int .u8 (48 + (m : Int))] 5)) :=
  conv_bs (l := [UInt8.ofNat (48 + m)]) (one_bs (World.alloc_heap_new w _) hm) rfl
set_option maxRecDepth 100000 in
set_option maxHeartbeats 4000000 in
theorem rdec_any (n : Nat) : n < 1000000000000000000 → ∀ w : World, Calls Tryz.prog 50 #[.int .i64 n] w fun e w' => e = .returned (.string ⟨(Lib.decDigits n).toArray⟩) ∧ Fr0 none' w w' := by
  induction n using Nat.strongRecOn with
  | ind n ih =>
    intro hn w
    by_cases h : n < 10
    · have d0 : decide ((n : Int) < 10) = true := decide_eq_true (by omega)
      go_enter Tryz.func50, Tryz.ntmps50
      have hcv := conv_one w n h
      have hw : IntKind.i64.wrap (48 + (n : Int)) = 48 + (n : Int) := IntWalk.i64_in _ (by omega)
      go_wp2_with fail
      go_ret
      refine ⟨?_, (Fr0.refl _ _).alloc _⟩
      rw [Lib.decDigits_one h]
      simp
    · have d0 : decide ((n : Int) < 10) = false := decide_eq_false (by omega)
      have HI := Lib.hid (ih (n / 10) (by omega) (by omega))
      have q0 : (n : Int).tdiv 10 = ((n / 10 : Nat) : Int) := by rw [Int.tdiv_eq_ediv_of_nonneg (by omega)]; omega
      have q1 : (n : Int).tmod 10 = ((n % 10 : Nat) : Int) := by rw [Int.tmod_eq_emod_of_nonneg (by omega)]; omega
      obtain ⟨m, hm⟩ : ∃ m, n / 10 = m := ⟨_, rfl⟩
      have hmn : m < 1000000000000000000 := by omega
      have q2 : IntKind.i64.wrap (m : Int) = (m : Int) := IntWalk.i64_in _ (by omega)
      obtain ⟨r, hr⟩ : ∃ r, n % 10 = r := ⟨_, rfl⟩
      have hr10 : r < 10 := by omega
      rw [hr] at q1
      have hcat : (⟨(Lib.decDigits m).toArray⟩ : ByteArray) ++ ⟨[UInt8.ofNat (48 + r)].toArray⟩ = ⟨(Lib.decDigits n).toArray⟩ := by
        rw [show Lib.decDigits n = Lib.decDigits m ++ [UInt8.ofNat (48 + r)] from by rw [Lib.decDigits, dif_neg h, hr, hm]]
        apply ByteArray.ext
        simp
      obtain ⟨d, hd⟩ : ∃ d, UInt8.ofNat (48 + r) = d := ⟨_, rfl⟩
      rw [hd] at hcat
      have Hd := Lib.hid hd
      have Hcat := Lib.hid hcat
      clear hd
      have Hr := Lib.hid hr10
      have hsz : (⟨(Lib.decDigits m).toArray⟩ : ByteArray).size ≤ 21 := by
        have := Lib.itoa_length_le (m : Int) (by omega) (by omega)
        unfold Lib.itoa at this
        rw [if_neg (by omega), Int.toNat_natCast] at this
        show (Lib.decDigits m).toArray.size ≤ 21
        rw [List.size_toArray]; omega
      obtain ⟨s, hs⟩ : ∃ s : ByteArray, ⟨(Lib.decDigits m).toArray⟩ = s := ⟨_, rfl⟩
      rw [hm] at HI q0
      rw [hs] at Hcat HI hsz
      have Hsz := Lib.hid hsz
      clear hsz
      obtain ⟨u, hu⟩ : ∃ s : ByteArray, ⟨(Lib.decDigits n).toArray⟩ = s := ⟨_, rfl⟩
      rw [hu] at Hcat ⊢
      have e48 : IntKind.i64.wrap (48 + (r : Int)) = 48 + (r : Int) := IntWalk.i64_in _ (by omega)
      have e8 : IntKind.u8.wrap (48 + (r : Int)) = 48 + (r : Int) := by simp [IntKind.wrap, IntKind.bits, IntKind.signed]; omega
      clear hcat hs hu hr hm ih hr10 hmn
      go_enter Tryz.func50, Tryz.ntmps50
      go_wp2_with fail
      refine wp_region_held_drew (S := fun _ => True) (by kernel_rfl) trivial (fun hHeld => ?_)
      refine take_on (i := 0) (v := .int .i64 n) rfl (by kernel_rfl) (by kernel_rfl) (by kernel_rfl) (fun _ _ _ h => h) (by kernel_rfl) (fun W' hSW => ?_) (by trivial) ?_
      · clear hSW
        first | (go_simp; done) | exact rfl | (go_simp; rfl) | (go_simp; omega)
      try simp only [Act.put, List.setIfInBounds_toArray, List.set_cons_zero, List.set_cons_succ]
      refine take_on (i := 1) (v := .int .i64 m) rfl (by kernel_rfl) (by kernel_rfl) (by kernel_rfl) (fun _ _ _ h => h) (by kernel_rfl) (fun W' hSW => ?_) (by trivial) ?_
      · clear hSW
        first | (go_simp; done) | exact rfl | (go_simp; rfl) | (go_simp; omega)
      try simp only [Act.put, List.setIfInBounds_toArray, List.set_cons_zero, List.set_cons_succ]
      refine take_on (i := 3) (v := .int .i64 n) rfl (by kernel_rfl) (by kernel_rfl) (by kernel_rfl) (fun _ _ _ h => h) (by kernel_rfl) (fun W' hSW => ?_) (by trivial) ?_
      · clear hSW
        first | (go_simp; done) | exact rfl | (go_simp; rfl) | (go_simp; omega)
      try simp only [Act.put, List.setIfInBounds_toArray, List.set_cons_zero, List.set_cons_succ]
      refine take_on (i := 4) (v := .int .i64 r) rfl (by kernel_rfl) (by kernel_rfl) (by kernel_rfl) (fun _ _ _ h => h) (by kernel_rfl) (fun W' hSW => ?_) (by trivial) ?_
      · clear hSW
        first | (go_simp; done) | exact rfl | (go_simp; rfl) | (go_simp; omega)
      try simp only [Act.put, List.setIfInBounds_toArray, List.set_cons_zero, List.set_cons_succ]
      refine take_on (i := 5) (v := .int .i64 (48 + (r : Int))) rfl (by kernel_rfl) (by kernel_rfl) (by kernel_rfl) (fun _ _ _ h => h) (by kernel_rfl) (fun W' hSW => ?_) (by trivial) ?_
      · clear hSW
        first | (go_simp; done) | exact rfl | (go_simp; rfl) | (go_simp; omega)
      try simp only [Act.put, List.setIfInBounds_toArray, List.set_cons_zero, List.set_cons_succ]
      refine take_on (i := 6) (v := .int .u8 (48 + (r : Int))) rfl (by kernel_rfl) (by kernel_rfl) (by kernel_rfl) (fun _ _ _ h => h) (by kernel_rfl) (fun W' hSW => ?_) (by trivial) ?_
      · clear hSW
        first | (go_simp; done) | exact rfl | (go_simp; rfl) | (go_simp; omega)
      try simp only [Act.put, List.setIfInBounds_toArray, List.set_cons_zero, List.set_cons_succ]
      clear q0 q1 q2 e48 e8 d0
      refine wpAnyH_ready (rs := [2, 7]) (by kernel_rfl) (by simp) (AllReadyH.cons (op_at rfl) (fun K hK => ?_) (AllReadyH.cons (op_at rfl) (fun K hK => ?_) AllReadyH.nil))
      · rw [if_pos (by kernel_rfl)]
        go_simp
        refine (HI.out _).mono ?_
        rintro e w2 ⟨rfl, hf⟩
        have HF := Lib.hid ((Fr0.refl none' w).drew.trans hf)
        clear hf
        go_wp2_with fail
        refine hK.out _ _ trivial (fun _ => ?_)
        clear hK K
        try simp only [Act.put, List.setIfInBounds_toArray, List.set_cons_zero, List.set_cons_succ]
        refine take_call (i := 7) rfl (by kernel_rfl) (by kernel_rfl) (fun K hK => ?_)
        go_simp
        obtain ⟨q, hq⟩ : ∃ q, w2.heap.size = q := ⟨_, rfl⟩
        obtain ⟨w3, hw⟩ : ∃ W, w2.alloc (.cells #[.int .u8 (48 + (r : Int))] 5) = W := ⟨_, rfl⟩
        have Hb := Lib.hid (one_bs (m := r) (show w3.heap[q]? = some (.cells #[.int .u8 (48 + (r : Int))] 5 (0, 0)) by rw [← hw, ← hq]; exact World.alloc_heap_new w2 _) Hr.out)
        rw [Hd.out] at Hb
        have HF := Lib.hid (show Fr0 none' w w3 by rw [← hw]; exact ((HF.out.alloc _)))
        rw [hw, hq]
        clear hw hq
        refine hK.out _ _ trivial (fun _ => ?_)
        clear hK K
        try simp only [Act.put, List.setIfInBounds_toArray, List.set_cons_zero, List.set_cons_succ]
        have hcv := conv_bs (n := 1) (cap := 1) Hb.out rfl
        refine take_call (i := 8) rfl (by kernel_rfl) (by kernel_rfl) (fun K hK => ?_)
        go_simp
        clear hcv
        refine hK.out _ _ trivial (fun _ => ?_)
        clear hK K
        try simp only [Act.put, List.setIfInBounds_toArray, List.set_cons_zero, List.set_cons_succ]
        have hc : s ++ (⟨#[d]⟩ : ByteArray) = u := Hcat.out
        have hs21 := Hsz.out
        refine take_on (i := 9) (v := .string u) rfl (by kernel_rfl) (by kernel_rfl) (by kernel_rfl) (fun _ _ _ h => h) (by kernel_rfl) (fun W' hSW => ?_) (by trivial) ?_
        · clear hSW
          first | (go_simp; done) | exact rfl | (go_simp; rfl) | (go_simp; omega)
        try simp only [Act.put, List.setIfInBounds_toArray, List.set_cons_zero, List.set_cons_succ]
        refine take_on (i := 10) (v := .string u) rfl (by kernel_rfl) (by kernel_rfl) (by kernel_rfl) (fun _ _ _ h => h) (by kernel_rfl) (fun W' hSW => ?_) (by trivial) ?_
        · clear hSW
          first | (go_simp; done) | exact rfl | (go_simp; rfl) | (go_simp; omega)
        try simp only [Act.put, List.setIfInBounds_toArray, List.set_cons_zero, List.set_cons_succ]
        refine wpAnyH_done (by kernel_rfl) ?_ _
        go_wp2
        go_ret
        exact ⟨rfl, HF.out⟩
      · rw [if_pos (by kernel_rfl)]
        go_simp
        obtain ⟨q, hq⟩ : ∃ q, w.heap.size = q := ⟨_, rfl⟩
        obtain ⟨w3, hw⟩ : ∃ W, (w.alloc (.cells #[.int .u8 (48 + (r : Int))] 5)).drew = W := ⟨_, rfl⟩
        have Hb := Lib.hid (one_bs (m := r) (show w3.heap[q]? = some (.cells #[.int .u8 (48 + (r : Int))] 5 (0, 0)) by rw [← hw, ← hq]; exact World.alloc_heap_new w _) Hr.out)
        rw [Hd.out] at Hb
        have HF := Lib.hid (show Fr0 none' w w3 by rw [← hw]; exact (((Fr0.refl none' w).alloc _).drew))
        rw [hw, hq]
        clear hw hq
        refine hK.out _ _ trivial (fun _ => ?_)
        clear hK K
        try simp only [Act.put, List.setIfInBounds_toArray, List.set_cons_zero, List.set_cons_succ]
        refine wpAnyH_ready (rs := [2, 8]) (by kernel_rfl) (by simp) (AllReadyH.cons (op_at rfl) (fun K hK => ?_) (AllReadyH.cons (op_at rfl) (fun K hK => ?_) AllReadyH.nil))
        · rw [if_pos (by kernel_rfl)]
          go_simp
          refine (HI.out _).mono ?_
          rintro e w4 ⟨rfl, hf⟩
          have HF := Lib.hid (HF.out.trans hf)
          have Hb := Lib.hid (Hb.out.later hf)
          clear hf
          go_wp2_with fail
          refine hK.out _ _ trivial (fun _ => ?_)
          clear hK K
          try simp only [Act.put, List.setIfInBounds_toArray, List.set_cons_zero, List.set_cons_succ]
          have hcv := conv_bs (n := 1) (cap := 1) Hb.out rfl
          refine take_call (i := 8) rfl (by kernel_rfl) (by kernel_rfl) (fun K hK => ?_)
          go_simp
          clear hcv
          refine hK.out _ _ trivial (fun _ => ?_)
          clear hK K
          try simp only [Act.put, List.setIfInBounds_toArray, List.set_cons_zero, List.set_cons_succ]
          have hc : s ++ (⟨#[d]⟩ : ByteArray) = u := Hcat.out
          have hs21 := Hsz.out
          refine take_on (i := 9) (v := .string u) rfl (by kernel_rfl) (by kernel_rfl) (by kernel_rfl) (fun _ _ _ h => h) (by kernel_rfl) (fun W' hSW => ?_) (by trivial) ?_
          · clear hSW
            first | (go_simp; done) | exact rfl | (go_simp; rfl) | (go_simp; omega)
          try simp only [Act.put, List.setIfInBounds_toArray, List.set_cons_zero, List.set_cons_succ]
          refine take_on (i := 10) (v := .string u) rfl (by kernel_rfl) (by kernel_rfl) (by kernel_rfl) (fun _ _ _ h => h) (by kernel_rfl) (fun W' hSW => ?_) (by trivial) ?_
          · clear hSW
            first | (go_simp; done) | exact rfl | (go_simp; rfl) | (go_simp; omega)
          try simp only [Act.put, List.setIfInBounds_toArray, List.set_cons_zero, List.set_cons_succ]
          refine wpAnyH_done (by kernel_rfl) ?_ _
          go_wp2
          go_ret
          exact ⟨rfl, HF.out⟩
        · have hcv := conv_bs (n := 1) (cap := 1) Hb.out rfl
          rw [if_pos (by kernel_rfl)]
          go_simp
          clear hcv
          refine hK.out _ _ trivial (fun _ => ?_)
          clear hK K
          try simp only [Act.put, List.setIfInBounds_toArray, List.set_cons_zero, List.set_cons_succ]
          refine take_call (i := 2) rfl (by kernel_rfl) (by kernel_rfl) (fun K hK => ?_)
          go_simp
          refine (HI.out _).mono ?_
          rintro e w4 ⟨rfl, hf⟩
          have HF := Lib.hid (HF.out.trans hf)
          have Hb := Lib.hid (Hb.out.later hf)
          clear hf
          go_wp2_with fail
          refine hK.out _ _ trivial (fun _ => ?_)
          clear hK K
          try simp only [Act.put, List.setIfInBounds_toArray, List.set_cons_zero, List.set_cons_succ]
          have hc : s ++ (⟨#[d]⟩ : ByteArray) = u := Hcat.out
          have hs21 := Hsz.out
          refine take_on (i := 9) (v := .string u) rfl (by kernel_rfl) (by kernel_rfl) (by kernel_rfl) (fun _ _ _ h => h) (by kernel_rfl) (fun W' hSW => ?_) (by trivial) ?_
          · clear hSW
            first | (go_simp; done) | exact rfl | (go_simp; rfl) | (go_simp; omega)
          try simp only [Act.put, List.setIfInBounds_toArray, List.set_cons_zero, List.set_cons_succ]
          refine take_on (i := 10) (v := .string u) rfl (by kernel_rfl) (by kernel_rfl) (by kernel_rfl) (fun _ _ _ h => h) (by kernel_rfl) (fun W' hSW => ?_) (by trivial) ?_
          · clear hSW
            first | (go_simp; done) | exact rfl | (go_simp; rfl) | (go_simp; omega)
          try simp only [Act.put, List.setIfInBounds_toArray, List.set_cons_zero, List.set_cons_succ]
          refine wpAnyH_done (by kernel_rfl) ?_ _
          go_wp2
          go_ret
          exact ⟨rfl, HF.out⟩
end Go.Proofs.YtpklgpdlkdlbbaaGreatDoor

/-
  The reference: Text.
-/
namespace Go.Proofs.YtpklgpdlkdlbbaaGreatDoor
open Go Go.RowKit
attribute [local go_sem ↓] Go.wp_at_zero Go.wp_at_succ
attribute [local go_sem] Oper.semAt_some wide_fn wide_depth wide_fnR wide_depthR

set_option maxRecDepth 100000 in
set_option maxHeartbeats 4000000 in
theorem rText_wrong (k : Key3) (hk : ¬ RightK k) (w : World) : Calls Tryz.prog 19 #[keyV k] w fun e w' => e = .returned (.tuple #[.string ⟨#[]⟩, .int .i64 70]) ∧ Fr0 none' w w' := by
  have HR := Lib.hid (rRight_any k)
  simp only [keyV] at HR ⊢
  go_enter Tryz.func19, Tryz.ntmps19
  go_wp2_with fail
  refine (HR.out _).mono ?_
  rintro e w2 ⟨rfl, hf⟩
  have HF := Lib.hid ((((Fr0.refl none' w).alloc _)).trans hf)
  rw [decide_eq_false hk]
  clear hf
  go_wp2_with fail
  go_ret2
  exact ⟨rfl, HF.out⟩
theorem dec_size {m : Nat} (h : m < 1000000000000000000) : (⟨(Lib.decDigits m).toArray⟩ : ByteArray).size ≤ 21 := by
  have := Lib.itoa_length_le (m : Int) (by omega) (by omega)
  unfold Lib.itoa at this
  rw [if_neg (by omega), Int.toNat_natCast] at this
  show (Lib.decDigits m).toArray.size ≤ 21
  rw [List.size_toArray]; omega
set_option maxRecDepth 100000 in
set_option maxHeartbeats 4000000 in
theorem rText_any (k : Key3) (hk : RightK k) (w : World) : Calls Tryz.prog 19 #[keyV k] w fun e w' => e = .returned (.tuple #[.string ⟨(textK k).toArray⟩, .int .i64 0]) ∧ Fr0 none' w w' := by
  have HR := Lib.hid (rRight_any k)
  obtain ⟨kt, ks, kq⟩ := k
  obtain ⟨h1, h2, h3, h4, h5, h6⟩ := hk
  have HK := Lib.hid (show RightK ⟨kt, ks, kq⟩ from ⟨h1, h2, h3, h4, h5, h6⟩)
  dsimp only at h1 h2 h3 h4 h5 h6
  obtain ⟨t, rfl⟩ : ∃ t : Nat, kt = t := ⟨kt.toNat, by omega⟩
  obtain ⟨s, rfl⟩ : ∃ t : Nat, ks = t := ⟨ks.toNat, by omega⟩
  obtain ⟨q, rfl⟩ : ∃ t : Nat, kq = t := ⟨kq.toNat, by omega⟩
  have HT := Lib.hid (rdec_any t (by omega))
  have HS := Lib.hid (rdec_any s (by omega))
  have HQ := Lib.hid (rdec_any q (by omega))
  have z1 := dec_size (m := t) (by omega)
  have z2 := dec_size (m := s) (by omega)
  have z3 := dec_size (m := q) (by omega)
  have hcat : (((⟨(Lib.decDigits t).toArray⟩ : ByteArray) ++ (⟨#[64]⟩ : ByteArray)) ++ ⟨(Lib.decDigits s).toArray⟩ ++ (⟨#[35]⟩ : ByteArray)) ++ ⟨(Lib.decDigits q).toArray⟩ = ⟨(textK ⟨t, s, q⟩).toArray⟩ := by
    apply ByteArray.ext
    simp [textK, decI]
  obtain ⟨x1, e1⟩ : ∃ x : ByteArray, ⟨(Lib.decDigits t).toArray⟩ = x := ⟨_, rfl⟩
  obtain ⟨x2, e2⟩ : ∃ x : ByteArray, ⟨(Lib.decDigits s).toArray⟩ = x := ⟨_, rfl⟩
  obtain ⟨x3, e3⟩ : ∃ x : ByteArray, ⟨(Lib.decDigits q).toArray⟩ = x := ⟨_, rfl⟩
  obtain ⟨x4, e4⟩ : ∃ x : ByteArray, ⟨(textK ⟨t, s, q⟩).toArray⟩ = x := ⟨_, rfl⟩
  rw [e1] at HT hcat z1
  rw [e2] at HS hcat z2
  rw [e3] at HQ hcat z3
  rw [e4] at hcat ⊢
  obtain ⟨y1, f1⟩ : ∃ y, x1 ++ (⟨#[64]⟩ : ByteArray) = y := ⟨_, rfl⟩
  rw [f1] at hcat
  obtain ⟨y2, f2⟩ : ∃ y, y1 ++ x2 = y := ⟨_, rfl⟩
  rw [f2] at hcat
  obtain ⟨y3, f3⟩ : ∃ y, y2 ++ (⟨#[35]⟩ : ByteArray) = y := ⟨_, rfl⟩
  rw [f3] at hcat
  have v1 : y1.size ≤ 30 := by rw [← f1, ByteArray.size_append]; show x1.size + 1 ≤ 30; omega
  have v2 : y2.size ≤ 60 := by rw [← f2, ByteArray.size_append]; omega
  have v3 : y3.size ≤ 90 := by rw [← f3, ByteArray.size_append]; show y2.size + 1 ≤ 90; omega
  have F1 := Lib.hid (show x1 ++ (⟨#[64]⟩ : ByteArray) = y1 ∧ x1.size ≤ 21 from ⟨f1, z1⟩)
  have F2 := Lib.hid (show y1 ++ x2 = y2 ∧ y1.size ≤ 30 ∧ x2.size ≤ 21 from ⟨f2, v1, z2⟩)
  have F3 := Lib.hid (show y2 ++ (⟨#[35]⟩ : ByteArray) = y3 ∧ y2.size ≤ 60 from ⟨f3, v2⟩)
  have F4 := Lib.hid (show y3 ++ x3 = x4 ∧ y3.size ≤ 90 ∧ x3.size ≤ 21 from ⟨hcat, v3, z3⟩)
  clear hcat e1 e2 e3 e4 f1 f2 f3 z1 z2 z3 v1 v2 v3 h1 h2 h3 h4 h5 h6
  simp only [keyV] at HR ⊢
  go_enter Tryz.func19, Tryz.ntmps19
  go_wp2_with fail
  refine (HR.out _).mono ?_
  rintro e w2 ⟨rfl, hf⟩
  have K2 := Lib.hid (KeyAt.fr0 (S := none') (k := ⟨t, s, q⟩) (World.alloc_heap_new w _) hf (fun h => h))
  have HF := Lib.hid ((((Fr0.refl none' w).alloc _)).trans hf)
  rw [decide_eq_true HK.out]
  clear hf
  go_wp2_with fail
  obtain ⟨b, hb⟩ : ∃ b, w.heap.size = b := ⟨_, rfl⟩
  rw [hb] at K2 ⊢
  clear hb
  refine wp_region_held_drew (S := fun W' => KeyAt W' b ⟨t, s, q⟩) (by kernel_rfl) K2.out (fun hHeld => ?_)
  refine take_on (i := 0) (v := .pointer (some ⟨b, 0, none⟩)) rfl (by kernel_rfl) (by kernel_rfl) (by kernel_rfl) (fun _ _ _ h => h) (by kernel_rfl) (fun W' hSW => ?_) (by assumption) ?_
  · have a0 := KeyAt.cell hSW (i := 0) (by omega)
    have a1 := KeyAt.cell hSW (i := 1) (by omega)
    have a2 := KeyAt.cell hSW (i := 2) (by omega)
    simp [nth3] at a0 a1 a2
    clear hSW
    first | (go_simp; done) | exact rfl | (go_simp; rfl) | (go_simp; omega)
  try simp only [Act.put, List.setIfInBounds_toArray, List.set_cons_zero, List.set_cons_succ]
  refine take_on (i := 1) (v := .int .i64 t) rfl (by kernel_rfl) (by kernel_rfl) (by kernel_rfl) (fun _ _ _ h => h) (by kernel_rfl) (fun W' hSW => ?_) (by assumption) ?_
  · have a0 := KeyAt.cell hSW (i := 0) (by omega)
    have a1 := KeyAt.cell hSW (i := 1) (by omega)
    have a2 := KeyAt.cell hSW (i := 2) (by omega)
    simp [nth3] at a0 a1 a2
    clear hSW
    first | (go_simp; done) | exact rfl | (go_simp; rfl) | (go_simp; omega)
  try simp only [Act.put, List.setIfInBounds_toArray, List.set_cons_zero, List.set_cons_succ]
  refine take_on (i := 4) (v := .pointer (some ⟨b, 1, none⟩)) rfl (by kernel_rfl) (by kernel_rfl) (by kernel_rfl) (fun _ _ _ h => h) (by kernel_rfl) (fun W' hSW => ?_) (by assumption) ?_
  · have a0 := KeyAt.cell hSW (i := 0) (by omega)
    have a1 := KeyAt.cell hSW (i := 1) (by omega)
    have a2 := KeyAt.cell hSW (i := 2) (by omega)
    simp [nth3] at a0 a1 a2
    clear hSW
    first | (go_simp; done) | exact rfl | (go_simp; rfl) | (go_simp; omega)
  try simp only [Act.put, List.setIfInBounds_toArray, List.set_cons_zero, List.set_cons_succ]
  refine take_on (i := 5) (v := .int .i64 s) rfl (by kernel_rfl) (by kernel_rfl) (by kernel_rfl) (fun _ _ _ h => h) (by kernel_rfl) (fun W' hSW => ?_) (by assumption) ?_
  · have a0 := KeyAt.cell hSW (i := 0) (by omega)
    have a1 := KeyAt.cell hSW (i := 1) (by omega)
    have a2 := KeyAt.cell hSW (i := 2) (by omega)
    simp [nth3] at a0 a1 a2
    clear hSW
    first | (go_simp; done) | exact rfl | (go_simp; rfl) | (go_simp; omega)
  try simp only [Act.put, List.setIfInBounds_toArray, List.set_cons_zero, List.set_cons_succ]
  refine take_on (i := 9) (v := .pointer (some ⟨b, 2, none⟩)) rfl (by kernel_rfl) (by kernel_rfl) (by kernel_rfl) (fun _ _ _ h => h) (by kernel_rfl) (fun W' hSW => ?_) (by assumption) ?_
  · have a0 := KeyAt.cell hSW (i := 0) (by omega)
    have a1 := KeyAt.cell hSW (i := 1) (by omega)
    have a2 := KeyAt.cell hSW (i := 2) (by omega)
    simp [nth3] at a0 a1 a2
    clear hSW
    first | (go_simp; done) | exact rfl | (go_simp; rfl) | (go_simp; omega)
  try simp only [Act.put, List.setIfInBounds_toArray, List.set_cons_zero, List.set_cons_succ]
  refine take_on (i := 10) (v := .int .i64 q) rfl (by kernel_rfl) (by kernel_rfl) (by kernel_rfl) (fun _ _ _ h => h) (by kernel_rfl) (fun W' hSW => ?_) (by assumption) ?_
  · have a0 := KeyAt.cell hSW (i := 0) (by omega)
    have a1 := KeyAt.cell hSW (i := 1) (by omega)
    have a2 := KeyAt.cell hSW (i := 2) (by omega)
    simp [nth3] at a0 a1 a2
    clear hSW
    first | (go_simp; done) | exact rfl | (go_simp; rfl) | (go_simp; omega)
  try simp only [Act.put, List.setIfInBounds_toArray, List.set_cons_zero, List.set_cons_succ]
  refine take_call (i := 2) rfl (by kernel_rfl) (by kernel_rfl) (fun K hK => ?_)
  go_simp
  refine (HT.out _).mono ?_
  rintro e w3 ⟨rfl, hf⟩
  have HF := Lib.hid ((HF.out.drew).trans hf)
  have K2 := Lib.hid (K2.out.fr0 (S := none') ((Fr0.refl none' w2).drew.trans hf) (fun h => h))
  clear hf
  go_wp2_with fail
  refine hK.out _ _ K2.out (fun hHeld => ?_)
  clear hK K
  try simp only [Act.put, List.setIfInBounds_toArray, List.set_cons_zero, List.set_cons_succ]
  refine take_on (i := 3) (v := .string y1) rfl (by kernel_rfl) (by kernel_rfl) (by kernel_rfl) (fun _ _ _ h => h) (by kernel_rfl) (fun W' hSW => ?_) (by assumption) ?_
  · have hc := F1.out
    clear hSW
    obtain ⟨hc, hd⟩ := hc
    first | (go_simp; done) | exact rfl | (go_simp; rfl) | (go_simp; omega)
  try simp only [Act.put, List.setIfInBounds_toArray, List.set_cons_zero, List.set_cons_succ]
  refine take_call (i := 6) rfl (by kernel_rfl) (by kernel_rfl) (fun K hK => ?_)
  go_simp
  refine (HS.out _).mono ?_
  rintro e w4 ⟨rfl, hf⟩
  have HF := Lib.hid (HF.out.trans hf)
  have K2 := Lib.hid (K2.out.fr0 (S := none') (hf) (fun h => h))
  clear hf
  go_wp2_with fail
  refine hK.out _ _ K2.out (fun hHeld => ?_)
  clear hK K
  try simp only [Act.put, List.setIfInBounds_toArray, List.set_cons_zero, List.set_cons_succ]
  refine take_on (i := 7) (v := .string y2) rfl (by kernel_rfl) (by kernel_rfl) (by kernel_rfl) (fun _ _ _ h => h) (by kernel_rfl) (fun W' hSW => ?_) (by assumption) ?_
  · have hc := F2.out
    clear hSW
    obtain ⟨hc, hd⟩ := hc
    first | (go_simp; done) | exact rfl | (go_simp; rfl) | (go_simp; omega)
  try simp only [Act.put, List.setIfInBounds_toArray, List.set_cons_zero, List.set_cons_succ]
  refine take_on (i := 8) (v := .string y3) rfl (by kernel_rfl) (by kernel_rfl) (by kernel_rfl) (fun _ _ _ h => h) (by kernel_rfl) (fun W' hSW => ?_) (by assumption) ?_
  · have hc := F3.out
    clear hSW
    obtain ⟨hc, hd⟩ := hc
    first | (go_simp; done) | exact rfl | (go_simp; rfl) | (go_simp; omega)
  try simp only [Act.put, List.setIfInBounds_toArray, List.set_cons_zero, List.set_cons_succ]
  refine take_call (i := 11) rfl (by kernel_rfl) (by kernel_rfl) (fun K hK => ?_)
  go_simp
  refine (HQ.out _).mono ?_
  rintro e w5 ⟨rfl, hf⟩
  have HF := Lib.hid (HF.out.trans hf)
  have K2 := Lib.hid (K2.out.fr0 (S := none') (hf) (fun h => h))
  clear hf
  go_wp2_with fail
  refine hK.out _ _ K2.out (fun hHeld => ?_)
  clear hK K
  try simp only [Act.put, List.setIfInBounds_toArray, List.set_cons_zero, List.set_cons_succ]
  refine take_on (i := 12) (v := .string x4) rfl (by kernel_rfl) (by kernel_rfl) (by kernel_rfl) (fun _ _ _ h => h) (by kernel_rfl) (fun W' hSW => ?_) (by assumption) ?_
  · have hc := F4.out
    clear hSW
    obtain ⟨hc, hd⟩ := hc
    first | (go_simp; done) | exact rfl | (go_simp; rfl) | (go_simp; omega)
  try simp only [Act.put, List.setIfInBounds_toArray, List.set_cons_zero, List.set_cons_succ]
  refine take_on (i := 13) (v := .string x4) rfl (by kernel_rfl) (by kernel_rfl) (by kernel_rfl) (fun _ _ _ h => h) (by kernel_rfl) (fun W' hSW => ?_) (by assumption) ?_
  · have a0 := KeyAt.cell hSW (i := 0) (by omega)
    have a1 := KeyAt.cell hSW (i := 1) (by omega)
    have a2 := KeyAt.cell hSW (i := 2) (by omega)
    simp [nth3] at a0 a1 a2
    clear hSW
    first | (go_simp; done) | exact rfl | (go_simp; rfl) | (go_simp; omega)
  try simp only [Act.put, List.setIfInBounds_toArray, List.set_cons_zero, List.set_cons_succ]
  refine take_on (i := 14) (v := .int .i64 0) rfl (by kernel_rfl) (by kernel_rfl) (by kernel_rfl) (fun _ _ _ h => h) (by kernel_rfl) (fun W' hSW => ?_) (by assumption) ?_
  · have a0 := KeyAt.cell hSW (i := 0) (by omega)
    have a1 := KeyAt.cell hSW (i := 1) (by omega)
    have a2 := KeyAt.cell hSW (i := 2) (by omega)
    simp [nth3] at a0 a1 a2
    clear hSW
    first | (go_simp; done) | exact rfl | (go_simp; rfl) | (go_simp; omega)
  try simp only [Act.put, List.setIfInBounds_toArray, List.set_cons_zero, List.set_cons_succ]
  refine wpAnyH_done (by kernel_rfl) ?_ _
  go_wp2
  go_ret2
  exact ⟨rfl, HF.out⟩
end Go.Proofs.YtpklgpdlkdlbbaaGreatDoor

/-
  The reference's Parse; plain Lean.
-/
namespace Go.Proofs.YtpklgpdlkdlbbaaGreatDoor

/-- Which number is read, and the three numbers. -/
structure PR where
  m : Nat
  x : Nat
  y : Nat
  z : Nat
def PR.val (s : PR) : Nat := if s.m = 0 then s.x else if s.m = 1 then s.y else s.z
def PR.put (s : PR) (v : Nat) : PR := if s.m = 0 then ⟨s.m, v, s.y, s.z⟩ else if s.m = 1 then ⟨s.m, s.x, v, s.z⟩ else ⟨s.m, s.x, s.y, v⟩
def stepR (s : PR) (c : UInt8) : Option PR :=
  if (c.toNat = 64 ∧ s.m = 0) ∨ (c.toNat = 35 ∧ s.m = 1) then some ⟨s.m + 1, s.x, s.y, s.z⟩
  else if 48 ≤ c.toNat ∧ c.toNat ≤ 57 ∧ s.val < 1000000000000000 then some (s.put (10 * s.val + c.toNat - 48))
  else none
def runR : PR → List UInt8 → Option PR
  | s, [] => some s
  | s, c :: l => match stepR s c with
    | none => none
    | some t => runR t l
def zeroR : PR := ⟨0, 0, 0, 0⟩
theorem runR_append : ∀ (a b : List UInt8) (s : PR), runR s (a ++ b) = (runR s a).bind fun t => runR t b
  | [], _, _ => rfl
  | c :: a, b, s => by
    rw [List.cons_append, runR, runR]
    cases stepR s c with
    | none => rfl
    | some t => exact runR_append a b t
theorem runR_snoc (a : List UInt8) (c : UInt8) (s t : PR) (h : runR s a = some t) : runR s (a ++ [c]) = stepR t c := by
  rw [runR_append, h]
  show runR t [c] = stepR t c
  rw [runR]
  cases stepR t c <;> rfl
theorem PR.put_val (s : PR) (v : Nat) : (s.put v).val = v := by
  obtain ⟨m, x, y, z⟩ := s
  unfold PR.put PR.val
  dsimp only
  split
  · simp_all
  · split <;> simp_all
theorem PR.put_m (s : PR) (v : Nat) : (s.put v).m = s.m := by
  unfold PR.put
  split
  · rfl
  · split <;> rfl
theorem PR.put_put (s : PR) (v u : Nat) : (s.put v).put u = s.put u := by
  obtain ⟨m, x, y, z⟩ := s
  unfold PR.put
  dsimp only
  split
  · simp_all
  · split <;> simp_all
theorem runR_dec (u : Nat) : u < 1000000000000000 → ∀ s : PR, s.val = 0 → runR s (Lib.decDigits u) = some (s.put u) := by
  induction u using Nat.strongRecOn with
  | _ u ih =>
    intro hu s hs
    by_cases h : u < 10
    · rw [Lib.decDigits_one h]
      have hc : (UInt8.ofNat (48 + u)).toNat = 48 + u := by simp; omega
      rw [runR, stepR, hc, if_neg (by omega), if_pos (by omega), hs]
      show runR _ [] = _
      rw [runR]
      congr 1
      congr 1
      omega
    · rw [Lib.decDigits, dif_neg h]
      have h1 := ih (u / 10) (by omega) (by omega) s hs
      rw [runR_snoc _ _ _ _ h1]
      have hc : (UInt8.ofNat (48 + u % 10)).toNat = 48 + u % 10 := by simp; omega
      rw [stepR, hc, if_neg (by omega), if_pos ⟨by omega, by omega, by rw [PR.put_val]; omega⟩, PR.put_val, PR.put_put]
      congr 2
      omega
theorem runR_text {k : Key3} (h : RightK k) : runR zeroR (textK k) = some ⟨2, k.time.toNat, k.source.toNat, k.seq.toNat⟩ := by
  obtain ⟨h1, h2, h3, h4, h5, h6⟩ := h
  have d1 := runR_dec k.time.toNat (by omega) zeroR rfl
  have d2 := runR_dec k.source.toNat (by omega) ⟨1, k.time.toNat, 0, 0⟩ rfl
  have d3 := runR_dec k.seq.toNat (by omega) ⟨2, k.time.toNat, k.source.toNat, 0⟩ rfl
  unfold textK decI
  rw [runR_append, d1]
  show runR ⟨0, k.time.toNat, 0, 0⟩ (64 :: _) = _
  rw [runR]
  show runR ⟨1, k.time.toNat, 0, 0⟩ _ = _
  rw [runR_append, d2]
  show runR ⟨1, k.time.toNat, k.source.toNat, 0⟩ (35 :: _) = _
  rw [runR]
  show runR ⟨2, k.time.toNat, k.source.toNat, 0⟩ _ = _
  rw [d3]
  rfl
theorem dec_len {m : Nat} (h : m < 1000000000000000) : (Lib.decDigits m).length ≤ 15 := by
  rw [Lib.decDigits_length]
  have : ∀ (d u : Nat), u < 10 ^ (d + 1) → Lib.nDigits u ≤ d + 1 := by
    intro d
    induction d with
    | zero => intro u hu; rw [Lib.nDigits]; split <;> omega
    | succ d ih =>
      intro u hu
      rw [Lib.nDigits]
      split
      · omega
      · have := ih (u / 10) (by rw [Nat.pow_succ] at hu; omega)
        omega
  exact this 14 m (by omega)
theorem textK_length {k : Key3} (h : RightK k) : (textK k).length ≤ 40 := by
  obtain ⟨h1, h2, h3, h4, h5, h6⟩ := h
  have a := dec_len (m := k.time.toNat) (by omega)
  have b := dec_len (m := k.source.toNat) (by omega)
  have c := dec_len (m := k.seq.toNat) (by omega)
  have e2 : (Lib.decDigits k.source.toNat).length ≤ 2 := by
    by_cases h : k.source.toNat < 10
    · rw [Lib.decDigits_one h]; simp
    · rw [Lib.decDigits, dif_neg h, Lib.decDigits_one (by omega)]; simp
  unfold textK decI
  simp
  omega
/-- What the reference's Parse returns, by its loop's result. -/
theorem parse_none {s : List UInt8} (h : runR zeroR (s.take 40) = none) : parseK s = none := by
  cases hp : parseK s with
  | none => rfl
  | some k =>
    obtain ⟨hk, rfl⟩ := (parseK_iff s k).1 hp
    rw [List.take_of_length_le (textK_length hk), runR_text hk] at h
    cases h
theorem parse_some {s : List UInt8} {t : PR} (h : runR zeroR (s.take 40) = some t) : parseK s = if RightK ⟨t.x, t.y, t.z⟩ ∧ textK ⟨t.x, t.y, t.z⟩ = s then some ⟨t.x, t.y, t.z⟩ else none := by
  cases hp : parseK s with
  | none =>
    split
    · next hc => rw [(parseK_iff s _).2 hc] at hp; cases hp
    · rfl
  | some k =>
    obtain ⟨hk, rfl⟩ := (parseK_iff s k).1 hp
    rw [List.take_of_length_le (textK_length hk), runR_text hk] at h
    injection h with h
    subst h
    obtain ⟨h1, h2, h3, h4, h5, h6⟩ := id hk
    have : (⟨(k.time.toNat : Int), (k.source.toNat : Int), (k.seq.toNat : Int)⟩ : Key3) = k := by
      obtain ⟨a, b, c⟩ := k
      simp only [Key3.mk.injEq] at *
      omega
    dsimp only
    rw [this, if_pos ⟨hk, rfl⟩]
end Go.Proofs.YtpklgpdlkdlbbaaGreatDoor

/-
  The reference: Parse.
-/
namespace Go.Proofs.YtpklgpdlkdlbbaaGreatDoor
open Go Go.RowKit
attribute [local go_sem ↓] Go.wp_at_zero Go.wp_at_succ
attribute [local go_sem] Oper.semAt_some wide_fn wide_depth wide_fnR wide_depthR

/-- Three numbers in a block. -/
def N3At (w : World) (b : Nat) (x y z : Nat) : Prop := w.heap[b]? = some (.cells #[.int .i64 x, .int .i64 y, .int .i64 z] 130 (0, 0))
theorem N3At.cells {w : World} {b x y z : Nat} (h : N3At w b x y z) : w.cell? ⟨b, 0, none⟩ = some (.int .i64 x) ∧ w.cell? ⟨b, 1, none⟩ = some (.int .i64 y) ∧ w.cell? ⟨b, 2, none⟩ = some (.int .i64 z) := by
  unfold N3At at h
  exact ⟨by simp [World.cell?, h], by simp [World.cell?, h], by simp [World.cell?, h]⟩
theorem N3At.frozen {w : World} {b x y z : Nat} (h : N3At w b x y z) (i : Nat) : w.frozen? ⟨b, i, none⟩ = false := by
  unfold N3At at h; simp [World.frozen?, h]
theorem N3At.set {w : World} {b x y z : Nat} (h : N3At w b x y z) (v : Nat) : N3At (w.setCell ⟨b, 0, none⟩ (.int .i64 v)) b v y z ∧ N3At (w.setCell ⟨b, 1, none⟩ (.int .i64 v)) b x v z ∧ N3At (w.setCell ⟨b, 2, none⟩ (.int .i64 v)) b x y v := by
  unfold N3At at h ⊢
  refine ⟨?_, ?_, ?_⟩ <;> simp [World.setCell, Array.getElem?_modify, h]
theorem N3At.lt {w : World} {b x y z : Nat} (h : N3At w b x y z) : b < w.heap.size := (Array.getElem?_eq_some_iff.1 h).1
def rparV (s : List UInt8) : Value := if (parseK s).isSome then .tuple #[keyV ((parseK s).getD zeroK), .int .i64 0] else .tuple #[keyV zeroK, .int .i64 72]
theorem rpar_yes {s : List UInt8} {k : Key3} (h : parseK s = some k) : rparV s = .tuple #[keyV k, .int .i64 0] := by unfold rparV; rw [h]; rfl
theorem rpar_no {s : List UInt8} (h : parseK s = none) : rparV s = .tuple #[keyV zeroK, .int .i64 72] := by unfold rparV; rw [h]; rfl

set_option maxRecDepth 100000 in
set_option maxHeartbeats 4000000 in
theorem rParse_any (s : ByteArray) (hs : s.size ≤ 1000) (w : World) : Calls Tryz.prog 53 #[.string s] w fun e w' => e = .returned (rparV s.data.toList) ∧ Fr0 none' w w' := by
  go_enter Tryz.func53, Tryz.ntmps53
  go_wp2_with fail
  obtain ⟨b, hb⟩ : ∃ b, w.heap.size = b := ⟨_, rfl⟩
  obtain ⟨W1, hW1⟩ : ∃ W, (w.alloc (.cells #[.int .i64 0, .int .i64 0, .int .i64 0] 28)).alloc (.cells #[.int .i64 0, .int .i64 0, .int .i64 0] 130) = W := ⟨_, rfl⟩
  have hR1 : KeyAt W1 b zeroK := by rw [← hW1, ← hb]; exact KeyAt.alloc (k := zeroK) (World.alloc_heap_new w _) _
  have hN1 : N3At W1 (b + 1) 0 0 0 := by
    rw [← hW1, ← hb]
    have := World.alloc_heap_new (w.alloc (.cells #[.int .i64 0, .int .i64 0, .int .i64 0] 28)) (.cells #[.int .i64 0, .int .i64 0, .int .i64 0] 130)
    rwa [World.size_alloc] at this
  have hF1 : Fr0 none' w W1 := by rw [← hW1]; exact ((Fr0.refl _ _).alloc _).alloc _
  rw [hW1, hb]
  have Hb := Lib.hid hb
  have HR1 := Lib.hid hR1
  have HN1 := Lib.hid hN1
  have HF1 := Lib.hid hF1
  obtain ⟨n, hn⟩ : ∃ n, s.size = n := ⟨_, rfl⟩
  have hll : s.data.toList.length = n := by rw [← hn]; exact Array.length_toList
  have Hll := Lib.hid hll
  have Hn := Lib.hid hn
  clear hW1 hb hR1 hN1 hF1 hll
  go_loopw [5, 6] (fun a c wr => ∃ i m x y z : Nat, a = .int .i64 m ∧ c = .int .i64 i ∧ i ≤ n ∧ i ≤ 40 ∧ m ≤ 2 ∧ Hid (runR zeroR (s.data.toList.take i) = some ⟨m, x, y, z⟩) ∧ Hid (x < 10000000000000000 ∧ y < 10000000000000000 ∧ z < 10000000000000000) ∧ Hid (N3At wr (b + 1) x y z) ∧ Hid (KeyAt wr b zeroK) ∧ Hid (Fr0 none' w wr)) (fun _ c _ => n - (Go.RowKit.intOf c).toNat)
  case atStart => exact ⟨0, 0, 0, 0, 0, rfl, rfl, Nat.zero_le _, Nat.zero_le _, Nat.zero_le _, rfl, ⟨by omega, by omega, by omega⟩, HN1.out, HR1.out, HF1.out⟩
  case round =>
    obtain ⟨i, m, x, y, z, rfl, rfl, hi, hi4, hm, hrun, hbd, hN, hR, hf⟩ := hrel
    by_cases hlt : i < n ∧ i < 40
    · obtain ⟨hlt1, hlt2⟩ := hlt
      have d0 : decide ((i : Int) < (n : Int)) = true := decide_eq_true (by omega)
      have d4 : decide ((i : Int) < 40) = true := decide_eq_true (by omega)
      have b1 : (0 : Int) ≤ (i : Int) := by omega
      have b2 : (i : Int) < (n : Int) := by omega
      have e5 : IntKind.i64.wrap ((i : Int) + 1) = (i : Int) + 1 := IntWalk.i64_in _ (by omega)
      obtain ⟨c8, hc8⟩ : ∃ c, s.data.toList[i]? = some c := ⟨_, Lib.data_getElem? s i (by rw [Hn.out]; exact hlt1)⟩
      obtain ⟨c, hc⟩ : ∃ c : Nat, (s[i]'(by rw [Hn.out]; exact hlt1)).toNat = c := ⟨_, rfl⟩
      have hcc : c8.toNat = c := by
        have h1 := Lib.data_getElem? s i (by rw [Hn.out]; exact hlt1)
        rw [hc8] at h1
        injection h1 with h1
        rw [h1]; exact hc
      have Hcc := Lib.hid hcc
      have hstep : runR zeroR (s.data.toList.take (i + 1)) = stepR ⟨m, x, y, z⟩ c8 := by
        rw [List.take_add_one, hc8]
        exact runR_snoc _ _ _ _ hrun.out
      have Hstep := Lib.hid hstep
      have Hno := Lib.hid (show stepR ⟨m, x, y, z⟩ c8 = none → rparV s.data.toList = .tuple #[keyV zeroK, .int .i64 72] from fun h => by
        have h1 : runR zeroR (s.data.toList.take 40) = none := by
          have e : s.data.toList.take 40 = s.data.toList.take (i + 1) ++ (s.data.toList.take 40).drop (i + 1) := by
            rw [show s.data.toList.take (i + 1) = (s.data.toList.take 40).take (i + 1) from by rw [List.take_take]; congr 1; omega, List.take_append_drop]
          rw [e, runR_append, hstep, h]; rfl
        unfold rparV; rw [parse_none h1]; rfl)
      have c0 := hR.out.cell (i := 0) (by omega)
      have c1 := hR.out.cell (i := 1) (by omega)
      have c2 := hR.out.cell (i := 2) (by omega)
      simp [nth3, zeroK] at c0 c1 c2
      have f0 := hR.out.frozen 0
      have f1 := hR.out.frozen 1
      have f2 := hR.out.frozen 2
      obtain ⟨v0, v1, v2⟩ := hN.out.cells
      have g0 := hN.out.frozen 0
      have g1 := hN.out.frozen 1
      have g2 := hN.out.frozen 2
      have hc256 : c < 256 := by rw [← hcc]; exact c8.toNat_lt
      have Hbd := Lib.hid hbd.out
      clear hstep hc8 hcc hrun
      by_cases k64 : c = 64
      · subst k64
        have h3 : m = 0 ∨ m = 1 ∨ m = 2 := by omega
        rcases h3 with rfl | rfl | rfl
        · skip
          go_wp2
          refine ⟨⟨i + 1, 1, x, y, z, rfl, by simp, by omega, by omega, by omega, ?_, Hbd.out, hN.out, hR.out, hf.out⟩, by simp [Go.RowKit.intOf]; omega⟩
          unfold Hid; rw [Hstep.out, stepR, Hcc.out]; rfl
        · skip
          have HnoV := Lib.hid (Hno.out ((by unfold stepR; rw [Hcc.out]; rfl)))
          clear hm Hstep Hno
          go_wp2
          clear c0 c1 c2 f0 f1 f2
          obtain ⟨W3, hW⟩ : ∃ W, ((wr.setCell ⟨b, 0, none⟩ (.int .i64 0)).setCell ⟨b, 1, none⟩ (.int .i64 0)).setCell ⟨b, 2, none⟩ (.int .i64 0) = W := ⟨_, rfl⟩
          have K4 : KeyAt W3 b zeroK := by rw [← hW]; exact ((hR.out.set0 0).set1 0).set2 0
          have F4 : Fr0 none' w W3 := by rw [← hW]; exact ((hf.out.setCell (fun h => absurd h (by have := Hb.out; omega)) _).setCell (fun h => absurd h (by have := Hb.out; omega)) _).setCell (fun h => absurd h (by have := Hb.out; omega)) _
          rw [hW]
          have g0 := K4.cell (i := 0) (by omega)
          have g1 := K4.cell (i := 1) (by omega)
          have g2 := K4.cell (i := 2) (by omega)
          simp [nth3, zeroK] at g0 g1 g2
          refine bodyPost_ret (v := .tuple #[keyV zeroK, .int .i64 72]) (by simp [results, Tryz.results53, go_sem, g0, g1, g2, keyV, zeroK]) rfl ⟨by rw [HnoV.out], F4⟩
        · skip
          have HnoV := Lib.hid (Hno.out ((by unfold stepR; rw [Hcc.out]; rfl)))
          clear hm Hstep Hno
          go_wp2
          clear c0 c1 c2 f0 f1 f2
          obtain ⟨W3, hW⟩ : ∃ W, ((wr.setCell ⟨b, 0, none⟩ (.int .i64 0)).setCell ⟨b, 1, none⟩ (.int .i64 0)).setCell ⟨b, 2, none⟩ (.int .i64 0) = W := ⟨_, rfl⟩
          have K4 : KeyAt W3 b zeroK := by rw [← hW]; exact ((hR.out.set0 0).set1 0).set2 0
          have F4 : Fr0 none' w W3 := by rw [← hW]; exact ((hf.out.setCell (fun h => absurd h (by have := Hb.out; omega)) _).setCell (fun h => absurd h (by have := Hb.out; omega)) _).setCell (fun h => absurd h (by have := Hb.out; omega)) _
          rw [hW]
          have g0 := K4.cell (i := 0) (by omega)
          have g1 := K4.cell (i := 1) (by omega)
          have g2 := K4.cell (i := 2) (by omega)
          simp [nth3, zeroK] at g0 g1 g2
          refine bodyPost_ret (v := .tuple #[keyV zeroK, .int .i64 72]) (by simp [results, Tryz.results53, go_sem, g0, g1, g2, keyV, zeroK]) rfl ⟨by rw [HnoV.out], F4⟩
      · by_cases k35 : c = 35
        · subst k35
          have h3 : m = 0 ∨ m = 1 ∨ m = 2 := by omega
          rcases h3 with rfl | rfl | rfl
          · skip
            have HnoV := Lib.hid (Hno.out ((by unfold stepR; rw [Hcc.out]; rfl)))
            clear hm Hstep Hno
            go_wp2
            clear c0 c1 c2 f0 f1 f2
            obtain ⟨W3, hW⟩ : ∃ W, ((wr.setCell ⟨b, 0, none⟩ (.int .i64 0)).setCell ⟨b, 1, none⟩ (.int .i64 0)).setCell ⟨b, 2, none⟩ (.int .i64 0) = W := ⟨_, rfl⟩
            have K4 : KeyAt W3 b zeroK := by rw [← hW]; exact ((hR.out.set0 0).set1 0).set2 0
            have F4 : Fr0 none' w W3 := by rw [← hW]; exact ((hf.out.setCell (fun h => absurd h (by have := Hb.out; omega)) _).setCell (fun h => absurd h (by have := Hb.out; omega)) _).setCell (fun h => absurd h (by have := Hb.out; omega)) _
            rw [hW]
            have g0 := K4.cell (i := 0) (by omega)
            have g1 := K4.cell (i := 1) (by omega)
            have g2 := K4.cell (i := 2) (by omega)
            simp [nth3, zeroK] at g0 g1 g2
            refine bodyPost_ret (v := .tuple #[keyV zeroK, .int .i64 72]) (by simp [results, Tryz.results53, go_sem, g0, g1, g2, keyV, zeroK]) rfl ⟨by rw [HnoV.out], F4⟩
          · skip
            go_wp2
            refine ⟨⟨i + 1, 2, x, y, z, rfl, by simp, by omega, by omega, by omega, ?_, Hbd.out, hN.out, hR.out, hf.out⟩, by simp [Go.RowKit.intOf]; omega⟩
            unfold Hid; rw [Hstep.out, stepR, Hcc.out]; rfl
          · skip
            have HnoV := Lib.hid (Hno.out ((by unfold stepR; rw [Hcc.out]; rfl)))
            clear hm Hstep Hno
            go_wp2
            clear c0 c1 c2 f0 f1 f2
            obtain ⟨W3, hW⟩ : ∃ W, ((wr.setCell ⟨b, 0, none⟩ (.int .i64 0)).setCell ⟨b, 1, none⟩ (.int .i64 0)).setCell ⟨b, 2, none⟩ (.int .i64 0) = W := ⟨_, rfl⟩
            have K4 : KeyAt W3 b zeroK := by rw [← hW]; exact ((hR.out.set0 0).set1 0).set2 0
            have F4 : Fr0 none' w W3 := by rw [← hW]; exact ((hf.out.setCell (fun h => absurd h (by have := Hb.out; omega)) _).setCell (fun h => absurd h (by have := Hb.out; omega)) _).setCell (fun h => absurd h (by have := Hb.out; omega)) _
            rw [hW]
            have g0 := K4.cell (i := 0) (by omega)
            have g1 := K4.cell (i := 1) (by omega)
            have g2 := K4.cell (i := 2) (by omega)
            simp [nth3, zeroK] at g0 g1 g2
            refine bodyPost_ret (v := .tuple #[keyV zeroK, .int .i64 72]) (by simp [results, Tryz.results53, go_sem, g0, g1, g2, keyV, zeroK]) rfl ⟨by rw [HnoV.out], F4⟩
        · have s1 : ((c : Int) == 64) = false := by simp; omega
          have s2 : ((c : Int) == 35) = false := by simp; omega
          have hne64 : ¬ c = 64 := k64
          have hne35 : ¬ c = 35 := k35
          by_cases hd : 48 ≤ c ∧ c ≤ 57
          · have s3 : decide ((48 : Int) ≤ (c : Int)) = true := decide_eq_true (by omega)
            have s4 : decide ((c : Int) ≤ 57) = true := decide_eq_true (by omega)
            have h3 : m = 0 ∨ m = 1 ∨ m = 2 := by omega
            rcases h3 with rfl | rfl | rfl
            · by_cases hv : x < 1000000000000000
              · have s5 : decide ((x : Int) < 1000000000000000) = true := decide_eq_true (by omega)
                have w1 : IntKind.i64.wrap (10 * (x : Int)) = 10 * (x : Int) := IntWalk.i64_in _ (by omega)
                have w2 : IntKind.i64.wrap (c : Int) = (c : Int) := IntWalk.i64_in _ (by omega)
                have w3 : IntKind.i64.wrap (10 * (x : Int) + (c : Int)) = 10 * (x : Int) + (c : Int) := IntWalk.i64_in _ (by omega)
                have w4 : IntKind.i64.wrap (10 * (x : Int) + (c : Int) - 48) = ((10 * x + c - 48 : Nat) : Int) := by rw [IntWalk.i64_in _ (by omega)]; omega
                have hnb : 10 * x + c - 48 < 10000000000000000 := by omega
                obtain ⟨u, hu⟩ : ∃ u, 10 * x + c - 48 = u := ⟨_, rfl⟩
                rw [hu] at w4 hnb
                have Hu := Lib.hid hu
                have Hkd := Lib.hid (show 48 ≤ c ∧ c ≤ 57 ∧ x < 1000000000000000 from ⟨by omega, by omega, by omega⟩)
                have HnS := Lib.hid (show runR zeroR (s.data.toList.take (i + 1)) = some ⟨0, u, y, z⟩ from by
                  rw [Hstep.out, stepR, Hcc.out, if_neg (by simp <;> omega), if_pos (by simpa [PR.val] using Hkd.out)]
                  simp [PR.put, PR.val, Hu.out])
                clear hu Hno Hstep
                go_wp2
                refine wp_region_Z (z := 12) (S := fun W' => N3At W' (b + 1) x y z) (by kernel_rfl) ?_
                have hSx : N3At wr.drew (b + 1) x y z := hN.out
                refine takeZ_on (i := 0) (v := .int .i64 0) rfl (by kernel_rfl) (by kernel_rfl) (by kernel_rfl) (by kernel_rfl) (fun _ _ _ h => h) (by kernel_rfl) (fun W' hSW => ?_) (by assumption) ?_
                · clear v0 v1 v2 g0 g1 g2
                  obtain ⟨v0, v1, v2⟩ := N3At.cells hSW
                  clear hSW
                  first | (go_simp; done) | exact rfl | (go_simp; rfl) | (go_simp; omega)
                try simp only [Act.put, List.setIfInBounds_toArray, List.set_cons_zero, List.set_cons_succ]
                refine takeZ_on (i := 1) (v := .int .i64 0) rfl (by kernel_rfl) (by kernel_rfl) (by kernel_rfl) (by kernel_rfl) (fun _ _ _ h => h) (by kernel_rfl) (fun W' hSW => ?_) (by assumption) ?_
                · clear v0 v1 v2 g0 g1 g2
                  obtain ⟨v0, v1, v2⟩ := N3At.cells hSW
                  clear hSW
                  first | (go_simp; done) | exact rfl | (go_simp; rfl) | (go_simp; omega)
                try simp only [Act.put, List.setIfInBounds_toArray, List.set_cons_zero, List.set_cons_succ]
                refine takeZ_on (i := 2) (v := .pointer (some ⟨b + 1, 0, none⟩)) rfl (by kernel_rfl) (by kernel_rfl) (by kernel_rfl) (by kernel_rfl) (fun _ _ _ h => h) (by kernel_rfl) (fun W' hSW => ?_) (by assumption) ?_
                · clear v0 v1 v2 g0 g1 g2
                  obtain ⟨v0, v1, v2⟩ := N3At.cells hSW
                  clear hSW
                  first | (go_simp; done) | exact rfl | (go_simp; rfl) | (go_simp; omega)
                try simp only [Act.put, List.setIfInBounds_toArray, List.set_cons_zero, List.set_cons_succ]
                refine takeZ_on (i := 3) (v := .int .i64 x) rfl (by kernel_rfl) (by kernel_rfl) (by kernel_rfl) (by kernel_rfl) (fun _ _ _ h => h) (by kernel_rfl) (fun W' hSW => ?_) (by assumption) ?_
                · clear v0 v1 v2 g0 g1 g2
                  obtain ⟨v0, v1, v2⟩ := N3At.cells hSW
                  clear hSW
                  first | (go_simp; done) | exact rfl | (go_simp; rfl) | (go_simp; omega)
                try simp only [Act.put, List.setIfInBounds_toArray, List.set_cons_zero, List.set_cons_succ]
                refine takeZ_on (i := 4) (v := .int .i64 (10 * (x : Int))) rfl (by kernel_rfl) (by kernel_rfl) (by kernel_rfl) (by kernel_rfl) (fun _ _ _ h => h) (by kernel_rfl) (fun W' hSW => ?_) (by assumption) ?_
                · clear v0 v1 v2 g0 g1 g2
                  obtain ⟨v0, v1, v2⟩ := N3At.cells hSW
                  clear hSW
                  first | (go_simp; done) | exact rfl | (go_simp; rfl) | (go_simp; omega)
                try simp only [Act.put, List.setIfInBounds_toArray, List.set_cons_zero, List.set_cons_succ]
                refine takeZ_on (i := 5) (v := .string s) rfl (by kernel_rfl) (by kernel_rfl) (by kernel_rfl) (by kernel_rfl) (fun _ _ _ h => h) (by kernel_rfl) (fun W' hSW => ?_) (by assumption) ?_
                · clear v0 v1 v2 g0 g1 g2
                  obtain ⟨v0, v1, v2⟩ := N3At.cells hSW
                  clear hSW
                  first | (go_simp; done) | exact rfl | (go_simp; rfl) | (go_simp; omega)
                try simp only [Act.put, List.setIfInBounds_toArray, List.set_cons_zero, List.set_cons_succ]
                refine takeZ_on (i := 6) (v := .int .i64 i) rfl (by kernel_rfl) (by kernel_rfl) (by kernel_rfl) (by kernel_rfl) (fun _ _ _ h => h) (by kernel_rfl) (fun W' hSW => ?_) (by assumption) ?_
                · clear v0 v1 v2 g0 g1 g2
                  obtain ⟨v0, v1, v2⟩ := N3At.cells hSW
                  clear hSW
                  first | (go_simp; done) | exact rfl | (go_simp; rfl) | (go_simp; omega)
                try simp only [Act.put, List.setIfInBounds_toArray, List.set_cons_zero, List.set_cons_succ]
                refine takeZ_on (i := 7) (v := .int .u8 c) rfl (by kernel_rfl) (by kernel_rfl) (by kernel_rfl) (by kernel_rfl) (fun _ _ _ h => h) (by kernel_rfl) (fun W' hSW => ?_) (by assumption) ?_
                · clear v0 v1 v2 g0 g1 g2
                  obtain ⟨v0, v1, v2⟩ := N3At.cells hSW
                  clear hSW
                  first | (go_simp; done) | exact rfl | (go_simp; rfl) | (go_simp; omega)
                try simp only [Act.put, List.setIfInBounds_toArray, List.set_cons_zero, List.set_cons_succ]
                refine takeZ_on (i := 8) (v := .int .i64 c) rfl (by kernel_rfl) (by kernel_rfl) (by kernel_rfl) (by kernel_rfl) (fun _ _ _ h => h) (by kernel_rfl) (fun W' hSW => ?_) (by assumption) ?_
                · clear v0 v1 v2 g0 g1 g2
                  obtain ⟨v0, v1, v2⟩ := N3At.cells hSW
                  clear hSW
                  first | (go_simp; done) | exact rfl | (go_simp; rfl) | (go_simp; omega)
                try simp only [Act.put, List.setIfInBounds_toArray, List.set_cons_zero, List.set_cons_succ]
                refine takeZ_on (i := 9) (v := .int .i64 (10 * (x : Int) + (c : Int))) rfl (by kernel_rfl) (by kernel_rfl) (by kernel_rfl) (by kernel_rfl) (fun _ _ _ h => h) (by kernel_rfl) (fun W' hSW => ?_) (by assumption) ?_
                · clear v0 v1 v2 g0 g1 g2
                  obtain ⟨v0, v1, v2⟩ := N3At.cells hSW
                  clear hSW
                  first | (go_simp; done) | exact rfl | (go_simp; rfl) | (go_simp; omega)
                try simp only [Act.put, List.setIfInBounds_toArray, List.set_cons_zero, List.set_cons_succ]
                refine takeZ_on (i := 10) (v := .int .i64 u) rfl (by kernel_rfl) (by kernel_rfl) (by kernel_rfl) (by kernel_rfl) (fun _ _ _ h => h) (by kernel_rfl) (fun W' hSW => ?_) (by assumption) ?_
                · clear v0 v1 v2 g0 g1 g2
                  obtain ⟨v0, v1, v2⟩ := N3At.cells hSW
                  clear hSW
                  first | (go_simp; done) | exact rfl | (go_simp; rfl) | (go_simp; omega)
                try simp only [Act.put, List.setIfInBounds_toArray, List.set_cons_zero, List.set_cons_succ]
                refine takeZ_on (i := 11) (v := .pointer (some ⟨b + 1, 0, none⟩)) rfl (by kernel_rfl) (by kernel_rfl) (by kernel_rfl) (by kernel_rfl) (fun _ _ _ h => h) (by kernel_rfl) (fun W' hSW => ?_) (by assumption) ?_
                · clear v0 v1 v2 g0 g1 g2
                  obtain ⟨v0, v1, v2⟩ := N3At.cells hSW
                  clear hSW
                  first | (go_simp; done) | exact rfl | (go_simp; rfl) | (go_simp; omega)
                try simp only [Act.put, List.setIfInBounds_toArray, List.set_cons_zero, List.set_cons_succ]
                refine takeZ_call (i := 12) rfl (by kernel_rfl) (by kernel_rfl) (fun K hK => ?_)
                go_simp
                refine hK.out _ _ (.inl rfl) ?_
                clear hK K hSx
                try simp only [Act.put, List.setIfInBounds_toArray, List.set_cons_zero, List.set_cons_succ]
                refine wpAnyZ_done (by kernel_rfl) ?_ _
                go_wp2
                refine ⟨⟨i + 1, 0, u, y, z, rfl, by simp, by omega, by omega, by omega, ?_, ⟨hnb, Hbd.out.2⟩, (hN.out.set u).1, hR.out.setOther (by simp) _, (hf.out.setCell (b := b + 1) (fun h => absurd h (by have := Hb.out; omega)) _).drew⟩, by simp [Go.RowKit.intOf]; omega⟩
                exact HnS.out
              · have s5 : decide ((x : Int) < 1000000000000000) = false := decide_eq_false (by omega)
                have HnoV := Lib.hid (Hno.out ((by unfold stepR; rw [Hcc.out, if_neg (by simp <;> omega), if_neg (by unfold PR.val; simp <;> omega)])))
                clear hm Hstep Hno
                go_wp2
                clear c0 c1 c2 f0 f1 f2
                obtain ⟨W3, hW⟩ : ∃ W, ((wr.setCell ⟨b, 0, none⟩ (.int .i64 0)).setCell ⟨b, 1, none⟩ (.int .i64 0)).setCell ⟨b, 2, none⟩ (.int .i64 0) = W := ⟨_, rfl⟩
                have K4 : KeyAt W3 b zeroK := by rw [← hW]; exact ((hR.out.set0 0).set1 0).set2 0
                have F4 : Fr0 none' w W3 := by rw [← hW]; exact ((hf.out.setCell (fun h => absurd h (by have := Hb.out; omega)) _).setCell (fun h => absurd h (by have := Hb.out; omega)) _).setCell (fun h => absurd h (by have := Hb.out; omega)) _
                rw [hW]
                have g0 := K4.cell (i := 0) (by omega)
                have g1 := K4.cell (i := 1) (by omega)
                have g2 := K4.cell (i := 2) (by omega)
                simp [nth3, zeroK] at g0 g1 g2
                refine bodyPost_ret (v := .tuple #[keyV zeroK, .int .i64 72]) (by simp [results, Tryz.results53, go_sem, g0, g1, g2, keyV, zeroK]) rfl ⟨by rw [HnoV.out], F4⟩
            · by_cases hv : y < 1000000000000000
              · have s5 : decide ((y : Int) < 1000000000000000) = true := decide_eq_true (by omega)
                have w1 : IntKind.i64.wrap (10 * (y : Int)) = 10 * (y : Int) := IntWalk.i64_in _ (by omega)
                have w2 : IntKind.i64.wrap (c : Int) = (c : Int) := IntWalk.i64_in _ (by omega)
                have w3 : IntKind.i64.wrap (10 * (y : Int) + (c : Int)) = 10 * (y : Int) + (c : Int) := IntWalk.i64_in _ (by omega)
                have w4 : IntKind.i64.wrap (10 * (y : Int) + (c : Int) - 48) = ((10 * y + c - 48 : Nat) : Int) := by rw [IntWalk.i64_in _ (by omega)]; omega
                have hnb : 10 * y + c - 48 < 10000000000000000 := by omega
                obtain ⟨u, hu⟩ : ∃ u, 10 * y + c - 48 = u := ⟨_, rfl⟩
                rw [hu] at w4 hnb
                have Hu := Lib.hid hu
                have Hkd := Lib.hid (show 48 ≤ c ∧ c ≤ 57 ∧ y < 1000000000000000 from ⟨by omega, by omega, by omega⟩)
                have HnS := Lib.hid (show runR zeroR (s.data.toList.take (i + 1)) = some ⟨1, x, u, z⟩ from by
                  rw [Hstep.out, stepR, Hcc.out, if_neg (by simp <;> omega), if_pos (by simpa [PR.val] using Hkd.out)]
                  simp [PR.put, PR.val, Hu.out])
                clear hu Hno Hstep
                go_wp2
                refine wp_region_Z (z := 12) (S := fun W' => N3At W' (b + 1) x y z) (by kernel_rfl) ?_
                have hSx : N3At wr.drew (b + 1) x y z := hN.out
                refine takeZ_on (i := 0) (v := .int .i64 1) rfl (by kernel_rfl) (by kernel_rfl) (by kernel_rfl) (by kernel_rfl) (fun _ _ _ h => h) (by kernel_rfl) (fun W' hSW => ?_) (by assumption) ?_
                · clear v0 v1 v2 g0 g1 g2
                  obtain ⟨v0, v1, v2⟩ := N3At.cells hSW
                  clear hSW
                  first | (go_simp; done) | exact rfl | (go_simp; rfl) | (go_simp; omega)
                try simp only [Act.put, List.setIfInBounds_toArray, List.set_cons_zero, List.set_cons_succ]
                refine takeZ_on (i := 1) (v := .int .i64 1) rfl (by kernel_rfl) (by kernel_rfl) (by kernel_rfl) (by kernel_rfl) (fun _ _ _ h => h) (by kernel_rfl) (fun W' hSW => ?_) (by assumption) ?_
                · clear v0 v1 v2 g0 g1 g2
                  obtain ⟨v0, v1, v2⟩ := N3At.cells hSW
                  clear hSW
                  first | (go_simp; done) | exact rfl | (go_simp; rfl) | (go_simp; omega)
                try simp only [Act.put, List.setIfInBounds_toArray, List.set_cons_zero, List.set_cons_succ]
                refine takeZ_on (i := 2) (v := .pointer (some ⟨b + 1, 1, none⟩)) rfl (by kernel_rfl) (by kernel_rfl) (by kernel_rfl) (by kernel_rfl) (fun _ _ _ h => h) (by kernel_rfl) (fun W' hSW => ?_) (by assumption) ?_
                · clear v0 v1 v2 g0 g1 g2
                  obtain ⟨v0, v1, v2⟩ := N3At.cells hSW
                  clear hSW
                  first | (go_simp; done) | exact rfl | (go_simp; rfl) | (go_simp; omega)
                try simp only [Act.put, List.setIfInBounds_toArray, List.set_cons_zero, List.set_cons_succ]
                refine takeZ_on (i := 3) (v := .int .i64 y) rfl (by kernel_rfl) (by kernel_rfl) (by kernel_rfl) (by kernel_rfl) (fun _ _ _ h => h) (by kernel_rfl) (fun W' hSW => ?_) (by assumption) ?_
                · clear v0 v1 v2 g0 g1 g2
                  obtain ⟨v0, v1, v2⟩ := N3At.cells hSW
                  clear hSW
                  first | (go_simp; done) | exact rfl | (go_simp; rfl) | (go_simp; omega)
                try simp only [Act.put, List.setIfInBounds_toArray, List.set_cons_zero, List.set_cons_succ]
                refine takeZ_on (i := 4) (v := .int .i64 (10 * (y : Int))) rfl (by kernel_rfl) (by kernel_rfl) (by kernel_rfl) (by kernel_rfl) (fun _ _ _ h => h) (by kernel_rfl) (fun W' hSW => ?_) (by assumption) ?_
                · clear v0 v1 v2 g0 g1 g2
                  obtain ⟨v0, v1, v2⟩ := N3At.cells hSW
                  clear hSW
                  first | (go_simp; done) | exact rfl | (go_simp; rfl) | (go_simp; omega)
                try simp only [Act.put, List.setIfInBounds_toArray, List.set_cons_zero, List.set_cons_succ]
                refine takeZ_on (i := 5) (v := .string s) rfl (by kernel_rfl) (by kernel_rfl) (by kernel_rfl) (by kernel_rfl) (fun _ _ _ h => h) (by kernel_rfl) (fun W' hSW => ?_) (by assumption) ?_
                · clear v0 v1 v2 g0 g1 g2
                  obtain ⟨v0, v1, v2⟩ := N3At.cells hSW
                  clear hSW
                  first | (go_simp; done) | exact rfl | (go_simp; rfl) | (go_simp; omega)
                try simp only [Act.put, List.setIfInBounds_toArray, List.set_cons_zero, List.set_cons_succ]
                refine takeZ_on (i := 6) (v := .int .i64 i) rfl (by kernel_rfl) (by kernel_rfl) (by kernel_rfl) (by kernel_rfl) (fun _ _ _ h => h) (by kernel_rfl) (fun W' hSW => ?_) (by assumption) ?_
                · clear v0 v1 v2 g0 g1 g2
                  obtain ⟨v0, v1, v2⟩ := N3At.cells hSW
                  clear hSW
                  first | (go_simp; done) | exact rfl | (go_simp; rfl) | (go_simp; omega)
                try simp only [Act.put, List.setIfInBounds_toArray, List.set_cons_zero, List.set_cons_succ]
                refine takeZ_on (i := 7) (v := .int .u8 c) rfl (by kernel_rfl) (by kernel_rfl) (by kernel_rfl) (by kernel_rfl) (fun _ _ _ h => h) (by kernel_rfl) (fun W' hSW => ?_) (by assumption) ?_
                · clear v0 v1 v2 g0 g1 g2
                  obtain ⟨v0, v1, v2⟩ := N3At.cells hSW
                  clear hSW
                  first | (go_simp; done) | exact rfl | (go_simp; rfl) | (go_simp; omega)
                try simp only [Act.put, List.setIfInBounds_toArray, List.set_cons_zero, List.set_cons_succ]
                refine takeZ_on (i := 8) (v := .int .i64 c) rfl (by kernel_rfl) (by kernel_rfl) (by kernel_rfl) (by kernel_rfl) (fun _ _ _ h => h) (by kernel_rfl) (fun W' hSW => ?_) (by assumption) ?_
                · clear v0 v1 v2 g0 g1 g2
                  obtain ⟨v0, v1, v2⟩ := N3At.cells hSW
                  clear hSW
                  first | (go_simp; done) | exact rfl | (go_simp; rfl) | (go_simp; omega)
                try simp only [Act.put, List.setIfInBounds_toArray, List.set_cons_zero, List.set_cons_succ]
                refine takeZ_on (i := 9) (v := .int .i64 (10 * (y : Int) + (c : Int))) rfl (by kernel_rfl) (by kernel_rfl) (by kernel_rfl) (by kernel_rfl) (fun _ _ _ h => h) (by kernel_rfl) (fun W' hSW => ?_) (by assumption) ?_
                · clear v0 v1 v2 g0 g1 g2
                  obtain ⟨v0, v1, v2⟩ := N3At.cells hSW
                  clear hSW
                  first | (go_simp; done) | exact rfl | (go_simp; rfl) | (go_simp; omega)
                try simp only [Act.put, List.setIfInBounds_toArray, List.set_cons_zero, List.set_cons_succ]
                refine takeZ_on (i := 10) (v := .int .i64 u) rfl (by kernel_rfl) (by kernel_rfl) (by kernel_rfl) (by kernel_rfl) (fun _ _ _ h => h) (by kernel_rfl) (fun W' hSW => ?_) (by assumption) ?_
                · clear v0 v1 v2 g0 g1 g2
                  obtain ⟨v0, v1, v2⟩ := N3At.cells hSW
                  clear hSW
                  first | (go_simp; done) | exact rfl | (go_simp; rfl) | (go_simp; omega)
                try simp only [Act.put, List.setIfInBounds_toArray, List.set_cons_zero, List.set_cons_succ]
                refine takeZ_on (i := 11) (v := .pointer (some ⟨b + 1, 1, none⟩)) rfl (by kernel_rfl) (by kernel_rfl) (by kernel_rfl) (by kernel_rfl) (fun _ _ _ h => h) (by kernel_rfl) (fun W' hSW => ?_) (by assumption) ?_
                · clear v0 v1 v2 g0 g1 g2
                  obtain ⟨v0, v1, v2⟩ := N3At.cells hSW
                  clear hSW
                  first | (go_simp; done) | exact rfl | (go_simp; rfl) | (go_simp; omega)
                try simp only [Act.put, List.setIfInBounds_toArray, List.set_cons_zero, List.set_cons_succ]
                refine takeZ_call (i := 12) rfl (by kernel_rfl) (by kernel_rfl) (fun K hK => ?_)
                go_simp
                refine hK.out _ _ (.inl rfl) ?_
                clear hK K hSx
                try simp only [Act.put, List.setIfInBounds_toArray, List.set_cons_zero, List.set_cons_succ]
                refine wpAnyZ_done (by kernel_rfl) ?_ _
                go_wp2
                refine ⟨⟨i + 1, 1, x, u, z, rfl, by simp, by omega, by omega, by omega, ?_, ⟨Hbd.out.1, hnb, Hbd.out.2.2⟩, (hN.out.set u).2.1, hR.out.setOther (by simp) _, (hf.out.setCell (b := b + 1) (fun h => absurd h (by have := Hb.out; omega)) _).drew⟩, by simp [Go.RowKit.intOf]; omega⟩
                exact HnS.out
              · have s5 : decide ((y : Int) < 1000000000000000) = false := decide_eq_false (by omega)
                have HnoV := Lib.hid (Hno.out ((by unfold stepR; rw [Hcc.out, if_neg (by simp <;> omega), if_neg (by unfold PR.val; simp <;> omega)])))
                clear hm Hstep Hno
                go_wp2
                clear c0 c1 c2 f0 f1 f2
                obtain ⟨W3, hW⟩ : ∃ W, ((wr.setCell ⟨b, 0, none⟩ (.int .i64 0)).setCell ⟨b, 1, none⟩ (.int .i64 0)).setCell ⟨b, 2, none⟩ (.int .i64 0) = W := ⟨_, rfl⟩
                have K4 : KeyAt W3 b zeroK := by rw [← hW]; exact ((hR.out.set0 0).set1 0).set2 0
                have F4 : Fr0 none' w W3 := by rw [← hW]; exact ((hf.out.setCell (fun h => absurd h (by have := Hb.out; omega)) _).setCell (fun h => absurd h (by have := Hb.out; omega)) _).setCell (fun h => absurd h (by have := Hb.out; omega)) _
                rw [hW]
                have g0 := K4.cell (i := 0) (by omega)
                have g1 := K4.cell (i := 1) (by omega)
                have g2 := K4.cell (i := 2) (by omega)
                simp [nth3, zeroK] at g0 g1 g2
                refine bodyPost_ret (v := .tuple #[keyV zeroK, .int .i64 72]) (by simp [results, Tryz.results53, go_sem, g0, g1, g2, keyV, zeroK]) rfl ⟨by rw [HnoV.out], F4⟩
            · by_cases hv : z < 1000000000000000
              · have s5 : decide ((z : Int) < 1000000000000000) = true := decide_eq_true (by omega)
                have w1 : IntKind.i64.wrap (10 * (z : Int)) = 10 * (z : Int) := IntWalk.i64_in _ (by omega)
                have w2 : IntKind.i64.wrap (c : Int) = (c : Int) := IntWalk.i64_in _ (by omega)
                have w3 : IntKind.i64.wrap (10 * (z : Int) + (c : Int)) = 10 * (z : Int) + (c : Int) := IntWalk.i64_in _ (by omega)
                have w4 : IntKind.i64.wrap (10 * (z : Int) + (c : Int) - 48) = ((10 * z + c - 48 : Nat) : Int) := by rw [IntWalk.i64_in _ (by omega)]; omega
                have hnb : 10 * z + c - 48 < 10000000000000000 := by omega
                obtain ⟨u, hu⟩ : ∃ u, 10 * z + c - 48 = u := ⟨_, rfl⟩
                rw [hu] at w4 hnb
                have Hu := Lib.hid hu
                have Hkd := Lib.hid (show 48 ≤ c ∧ c ≤ 57 ∧ z < 1000000000000000 from ⟨by omega, by omega, by omega⟩)
                have HnS := Lib.hid (show runR zeroR (s.data.toList.take (i + 1)) = some ⟨2, x, y, u⟩ from by
                  rw [Hstep.out, stepR, Hcc.out, if_neg (by simp <;> omega), if_pos (by simpa [PR.val] using Hkd.out)]
                  simp [PR.put, PR.val, Hu.out])
                clear hu Hno Hstep
                go_wp2
                refine wp_region_Z (z := 12) (S := fun W' => N3At W' (b + 1) x y z) (by kernel_rfl) ?_
                have hSx : N3At wr.drew (b + 1) x y z := hN.out
                refine takeZ_on (i := 0) (v := .int .i64 2) rfl (by kernel_rfl) (by kernel_rfl) (by kernel_rfl) (by kernel_rfl) (fun _ _ _ h => h) (by kernel_rfl) (fun W' hSW => ?_) (by assumption) ?_
                · clear v0 v1 v2 g0 g1 g2
                  obtain ⟨v0, v1, v2⟩ := N3At.cells hSW
                  clear hSW
                  first | (go_simp; done) | exact rfl | (go_simp; rfl) | (go_simp; omega)
                try simp only [Act.put, List.setIfInBounds_toArray, List.set_cons_zero, List.set_cons_succ]
                refine takeZ_on (i := 1) (v := .int .i64 2) rfl (by kernel_rfl) (by kernel_rfl) (by kernel_rfl) (by kernel_rfl) (fun _ _ _ h => h) (by kernel_rfl) (fun W' hSW => ?_) (by assumption) ?_
                · clear v0 v1 v2 g0 g1 g2
                  obtain ⟨v0, v1, v2⟩ := N3At.cells hSW
                  clear hSW
                  first | (go_simp; done) | exact rfl | (go_simp; rfl) | (go_simp; omega)
                try simp only [Act.put, List.setIfInBounds_toArray, List.set_cons_zero, List.set_cons_succ]
                refine takeZ_on (i := 2) (v := .pointer (some ⟨b + 1, 2, none⟩)) rfl (by kernel_rfl) (by kernel_rfl) (by kernel_rfl) (by kernel_rfl) (fun _ _ _ h => h) (by kernel_rfl) (fun W' hSW => ?_) (by assumption) ?_
                · clear v0 v1 v2 g0 g1 g2
                  obtain ⟨v0, v1, v2⟩ := N3At.cells hSW
                  clear hSW
                  first | (go_simp; done) | exact rfl | (go_simp; rfl) | (go_simp; omega)
                try simp only [Act.put, List.setIfInBounds_toArray, List.set_cons_zero, List.set_cons_succ]
                refine takeZ_on (i := 3) (v := .int .i64 z) rfl (by kernel_rfl) (by kernel_rfl) (by kernel_rfl) (by kernel_rfl) (fun _ _ _ h => h) (by kernel_rfl) (fun W' hSW => ?_) (by assumption) ?_
                · clear v0 v1 v2 g0 g1 g2
                  obtain ⟨v0, v1, v2⟩ := N3At.cells hSW
                  clear hSW
                  first | (go_simp; done) | exact rfl | (go_simp; rfl) | (go_simp; omega)
                try simp only [Act.put, List.setIfInBounds_toArray, List.set_cons_zero, List.set_cons_succ]
                refine takeZ_on (i := 4) (v := .int .i64 (10 * (z : Int))) rfl (by kernel_rfl) (by kernel_rfl) (by kernel_rfl) (by kernel_rfl) (fun _ _ _ h => h) (by kernel_rfl) (fun W' hSW => ?_) (by assumption) ?_
                · clear v0 v1 v2 g0 g1 g2
                  obtain ⟨v0, v1, v2⟩ := N3At.cells hSW
                  clear hSW
                  first | (go_simp; done) | exact rfl | (go_simp; rfl) | (go_simp; omega)
                try simp only [Act.put, List.setIfInBounds_toArray, List.set_cons_zero, List.set_cons_succ]
                refine takeZ_on (i := 5) (v := .string s) rfl (by kernel_rfl) (by kernel_rfl) (by kernel_rfl) (by kernel_rfl) (fun _ _ _ h => h) (by kernel_rfl) (fun W' hSW => ?_) (by assumption) ?_
                · clear v0 v1 v2 g0 g1 g2
                  obtain ⟨v0, v1, v2⟩ := N3At.cells hSW
                  clear hSW
                  first | (go_simp; done) | exact rfl | (go_simp; rfl) | (go_simp; omega)
                try simp only [Act.put, List.setIfInBounds_toArray, List.set_cons_zero, List.set_cons_succ]
                refine takeZ_on (i := 6) (v := .int .i64 i) rfl (by kernel_rfl) (by kernel_rfl) (by kernel_rfl) (by kernel_rfl) (fun _ _ _ h => h) (by kernel_rfl) (fun W' hSW => ?_) (by assumption) ?_
                · clear v0 v1 v2 g0 g1 g2
                  obtain ⟨v0, v1, v2⟩ := N3At.cells hSW
                  clear hSW
                  first | (go_simp; done) | exact rfl | (go_simp; rfl) | (go_simp; omega)
                try simp only [Act.put, List.setIfInBounds_toArray, List.set_cons_zero, List.set_cons_succ]
                refine takeZ_on (i := 7) (v := .int .u8 c) rfl (by kernel_rfl) (by kernel_rfl) (by kernel_rfl) (by kernel_rfl) (fun _ _ _ h => h) (by kernel_rfl) (fun W' hSW => ?_) (by assumption) ?_
                · clear v0 v1 v2 g0 g1 g2
                  obtain ⟨v0, v1, v2⟩ := N3At.cells hSW
                  clear hSW
                  first | (go_simp; done) | exact rfl | (go_simp; rfl) | (go_simp; omega)
                try simp only [Act.put, List.setIfInBounds_toArray, List.set_cons_zero, List.set_cons_succ]
                refine takeZ_on (i := 8) (v := .int .i64 c) rfl (by kernel_rfl) (by kernel_rfl) (by kernel_rfl) (by kernel_rfl) (fun _ _ _ h => h) (by kernel_rfl) (fun W' hSW => ?_) (by assumption) ?_
                · clear v0 v1 v2 g0 g1 g2
                  obtain ⟨v0, v1, v2⟩ := N3At.cells hSW
                  clear hSW
                  first | (go_simp; done) | exact rfl | (go_simp; rfl) | (go_simp; omega)
                try simp only [Act.put, List.setIfInBounds_toArray, List.set_cons_zero, List.set_cons_succ]
                refine takeZ_on (i := 9) (v := .int .i64 (10 * (z : Int) + (c : Int))) rfl (by kernel_rfl) (by kernel_rfl) (by kernel_rfl) (by kernel_rfl) (fun _ _ _ h => h) (by kernel_rfl) (fun W' hSW => ?_) (by assumption) ?_
                · clear v0 v1 v2 g0 g1 g2
                  obtain ⟨v0, v1, v2⟩ := N3At.cells hSW
                  clear hSW
                  first | (go_simp; done) | exact rfl | (go_simp; rfl) | (go_simp; omega)
                try simp only [Act.put, List.setIfInBounds_toArray, List.set_cons_zero, List.set_cons_succ]
                refine takeZ_on (i := 10) (v := .int .i64 u) rfl (by kernel_rfl) (by kernel_rfl) (by kernel_rfl) (by kernel_rfl) (fun _ _ _ h => h) (by kernel_rfl) (fun W' hSW => ?_) (by assumption) ?_
                · clear v0 v1 v2 g0 g1 g2
                  obtain ⟨v0, v1, v2⟩ := N3At.cells hSW
                  clear hSW
                  first | (go_simp; done) | exact rfl | (go_simp; rfl) | (go_simp; omega)
                try simp only [Act.put, List.setIfInBounds_toArray, List.set_cons_zero, List.set_cons_succ]
                refine takeZ_on (i := 11) (v := .pointer (some ⟨b + 1, 2, none⟩)) rfl (by kernel_rfl) (by kernel_rfl) (by kernel_rfl) (by kernel_rfl) (fun _ _ _ h => h) (by kernel_rfl) (fun W' hSW => ?_) (by assumption) ?_
                · clear v0 v1 v2 g0 g1 g2
                  obtain ⟨v0, v1, v2⟩ := N3At.cells hSW
                  clear hSW
                  first | (go_simp; done) | exact rfl | (go_simp; rfl) | (go_simp; omega)
                try simp only [Act.put, List.setIfInBounds_toArray, List.set_cons_zero, List.set_cons_succ]
                refine takeZ_call (i := 12) rfl (by kernel_rfl) (by kernel_rfl) (fun K hK => ?_)
                go_simp
                refine hK.out _ _ (.inl rfl) ?_
                clear hK K hSx
                try simp only [Act.put, List.setIfInBounds_toArray, List.set_cons_zero, List.set_cons_succ]
                refine wpAnyZ_done (by kernel_rfl) ?_ _
                go_wp2
                refine ⟨⟨i + 1, 2, x, y, u, rfl, by simp, by omega, by omega, by omega, ?_, ⟨Hbd.out.1, Hbd.out.2.1, hnb⟩, (hN.out.set u).2.2, hR.out.setOther (by simp) _, (hf.out.setCell (b := b + 1) (fun h => absurd h (by have := Hb.out; omega)) _).drew⟩, by simp [Go.RowKit.intOf]; omega⟩
                exact HnS.out
              · have s5 : decide ((z : Int) < 1000000000000000) = false := decide_eq_false (by omega)
                have HnoV := Lib.hid (Hno.out ((by unfold stepR; rw [Hcc.out, if_neg (by simp <;> omega), if_neg (by unfold PR.val; simp <;> omega)])))
                clear hm Hstep Hno
                go_wp2
                clear c0 c1 c2 f0 f1 f2
                obtain ⟨W3, hW⟩ : ∃ W, ((wr.setCell ⟨b, 0, none⟩ (.int .i64 0)).setCell ⟨b, 1, none⟩ (.int .i64 0)).setCell ⟨b, 2, none⟩ (.int .i64 0) = W := ⟨_, rfl⟩
                have K4 : KeyAt W3 b zeroK := by rw [← hW]; exact ((hR.out.set0 0).set1 0).set2 0
                have F4 : Fr0 none' w W3 := by rw [← hW]; exact ((hf.out.setCell (fun h => absurd h (by have := Hb.out; omega)) _).setCell (fun h => absurd h (by have := Hb.out; omega)) _).setCell (fun h => absurd h (by have := Hb.out; omega)) _
                rw [hW]
                have g0 := K4.cell (i := 0) (by omega)
                have g1 := K4.cell (i := 1) (by omega)
                have g2 := K4.cell (i := 2) (by omega)
                simp [nth3, zeroK] at g0 g1 g2
                refine bodyPost_ret (v := .tuple #[keyV zeroK, .int .i64 72]) (by simp [results, Tryz.results53, go_sem, g0, g1, g2, keyV, zeroK]) rfl ⟨by rw [HnoV.out], F4⟩
          · have hnd : stepR ⟨m, x, y, z⟩ c8 = none := by unfold stepR; rw [Hcc.out, if_neg (by simp <;> omega), if_neg (by simp <;> omega)]
            by_cases h48 : 48 ≤ c
            · have s3 : decide ((48 : Int) ≤ (c : Int)) = true := decide_eq_true (by omega)
              have s4 : decide ((c : Int) ≤ 57) = false := decide_eq_false (by omega)
              have HnoV := Lib.hid (Hno.out (hnd))
              clear hm Hstep Hno
              go_wp2
              clear c0 c1 c2 f0 f1 f2
              obtain ⟨W3, hW⟩ : ∃ W, ((wr.setCell ⟨b, 0, none⟩ (.int .i64 0)).setCell ⟨b, 1, none⟩ (.int .i64 0)).setCell ⟨b, 2, none⟩ (.int .i64 0) = W := ⟨_, rfl⟩
              have K4 : KeyAt W3 b zeroK := by rw [← hW]; exact ((hR.out.set0 0).set1 0).set2 0
              have F4 : Fr0 none' w W3 := by rw [← hW]; exact ((hf.out.setCell (fun h => absurd h (by have := Hb.out; omega)) _).setCell (fun h => absurd h (by have := Hb.out; omega)) _).setCell (fun h => absurd h (by have := Hb.out; omega)) _
              rw [hW]
              have g0 := K4.cell (i := 0) (by omega)
              have g1 := K4.cell (i := 1) (by omega)
              have g2 := K4.cell (i := 2) (by omega)
              simp [nth3, zeroK] at g0 g1 g2
              refine bodyPost_ret (v := .tuple #[keyV zeroK, .int .i64 72]) (by simp [results, Tryz.results53, go_sem, g0, g1, g2, keyV, zeroK]) rfl ⟨by rw [HnoV.out], F4⟩
            · have s3 : decide ((48 : Int) ≤ (c : Int)) = false := decide_eq_false (by omega)
              have HnoV := Lib.hid (Hno.out (hnd))
              clear hm Hstep Hno
              go_wp2
              clear c0 c1 c2 f0 f1 f2
              obtain ⟨W3, hW⟩ : ∃ W, ((wr.setCell ⟨b, 0, none⟩ (.int .i64 0)).setCell ⟨b, 1, none⟩ (.int .i64 0)).setCell ⟨b, 2, none⟩ (.int .i64 0) = W := ⟨_, rfl⟩
              have K4 : KeyAt W3 b zeroK := by rw [← hW]; exact ((hR.out.set0 0).set1 0).set2 0
              have F4 : Fr0 none' w W3 := by rw [← hW]; exact ((hf.out.setCell (fun h => absurd h (by have := Hb.out; omega)) _).setCell (fun h => absurd h (by have := Hb.out; omega)) _).setCell (fun h => absurd h (by have := Hb.out; omega)) _
              rw [hW]
              have g0 := K4.cell (i := 0) (by omega)
              have g1 := K4.cell (i := 1) (by omega)
              have g2 := K4.cell (i := 2) (by omega)
              simp [nth3, zeroK] at g0 g1 g2
              refine bodyPost_ret (v := .tuple #[keyV zeroK, .int .i64 72]) (by simp [results, Tryz.results53, go_sem, g0, g1, g2, keyV, zeroK]) rfl ⟨by rw [HnoV.out], F4⟩
    · have hrun40 : runR zeroR (s.data.toList.take 40) = some ⟨m, x, y, z⟩ := by
        rw [← hrun.out]; congr 1
        by_cases h : i < n
        · congr 1; omega
        · rw [List.take_of_length_le (by rw [Hll.out]; omega), List.take_of_length_le (by rw [Hll.out]; omega)]
      have hV := parse_some hrun40
      dsimp only at hV
      have HV := Lib.hid hV
      clear hrun hrun40 hV
      by_cases hin : i < n
      · have d0 : decide ((i : Int) < (n : Int)) = true := decide_eq_true (by omega)
        have d4 : decide ((i : Int) < 40) = false := decide_eq_false (by omega)
        clear hlt
        obtain ⟨v0, v1, v2⟩ := hN.out.cells
        go_wp2_with fail
        obtain ⟨B, hB⟩ : ∃ B, wr.heap.size = B := ⟨_, rfl⟩
        obtain ⟨W2, hW2⟩ : ∃ W, wr.alloc (.cells #[.int .i64 x, .int .i64 y, .int .i64 z] 28) = W := ⟨_, rfl⟩
        have KQ := Lib.hid (show KeyAt W2 B ⟨x, y, z⟩ from by rw [← hW2, ← hB]; exact World.alloc_heap_new wr _)
        have R2 := Lib.hid (show KeyAt W2 b zeroK from by rw [← hW2]; exact KeyAt.alloc hR.out _)
        have F2 := Lib.hid (show Fr0 none' w W2 from by rw [← hW2]; exact hf.out.alloc _)
        have HbB := Lib.hid (show b < B from by have := hR.out.lt; omega)
        rw [hW2, hB]
        clear hW2 hB hN hR hf v0 v1 v2 HN1 HR1 HF1
        by_cases hr : RightK ⟨x, y, z⟩
        · refine (rText_any ⟨x, y, z⟩ hr W2).mono ?_
          rintro e w2 ⟨rfl, hf⟩
          have hR := Lib.hid (R2.out.fr0 (S := none') hf (fun h => h))
          have KQ := Lib.hid (KQ.out.fr0 (S := none') hf (fun h => h))
          have hf := Lib.hid (F2.out.trans hf)
          have c0 := hR.out.cell (i := 0) (by omega)
          have c1 := hR.out.cell (i := 1) (by omega)
          have c2 := hR.out.cell (i := 2) (by omega)
          have a0 := KQ.out.cell (i := 0) (by omega)
          have a1 := KQ.out.cell (i := 1) (by omega)
          have a2 := KQ.out.cell (i := 2) (by omega)
          simp [nth3, zeroK] at c0 c1 c2 a0 a1 a2
          have f0 := hR.out.frozen 0
          have f1 := hR.out.frozen 1
          have f2 := hR.out.frozen 2
          by_cases ht : textK ⟨x, y, z⟩ = s.data.toList
          · have HnoV := Lib.hid (show rparV s.data.toList = .tuple #[keyV ⟨x, y, z⟩, .int .i64 0] from rpar_yes (HV.out.trans (if_pos ⟨hr, ht⟩)))
            have hts : (⟨(textK ⟨x, y, z⟩).toArray⟩ : ByteArray) = s := by apply ByteArray.ext; rw [ht]
            rw [hts]
            clear hts ht hr
            go_wp2_with fail
            clear c0 c1 c2 f0 f1 f2
            obtain ⟨W3, hW⟩ : ∃ W, ((w2.setCell ⟨b, 0, none⟩ (.int .i64 x)).setCell ⟨b, 1, none⟩ (.int .i64 y)).setCell ⟨b, 2, none⟩ (.int .i64 z) = W := ⟨_, rfl⟩
            have K4 : KeyAt W3 b ⟨x, y, z⟩ := by rw [← hW]; exact ((hR.out.set0 x).set1 y).set2 z
            have F4 : Fr0 none' w W3 := by rw [← hW]; exact ((hf.out.setCell (fun h => absurd h (by have := Hb.out; omega)) _).setCell (fun h => absurd h (by have := Hb.out; omega)) _).setCell (fun h => absurd h (by have := Hb.out; omega)) _
            rw [hW]
            have g0 := K4.cell (i := 0) (by omega)
            have g1 := K4.cell (i := 1) (by omega)
            have g2 := K4.cell (i := 2) (by omega)
            simp [nth3] at g0 g1 g2
            refine bodyPost_ret (v := .tuple #[keyV ⟨x, y, z⟩, .int .i64 0]) (by simp [results, Tryz.results53, go_sem, g0, g1, g2, keyV]) rfl ⟨by rw [HnoV.out], F4⟩
          · have HnoV := Lib.hid (show rparV s.data.toList = .tuple #[keyV zeroK, .int .i64 72] from rpar_no (HV.out.trans (if_neg (fun h => ht h.2))))
            have hts : ((⟨(textK ⟨x, y, z⟩).toArray⟩ : ByteArray).toList == s.toList) = false := by
              rw [Lib.toList_data, Lib.toList_data]
              exact beq_false_of_ne (fun h => ht (by simpa using h))
            obtain ⟨u, hu⟩ : ∃ u : ByteArray, ⟨(textK ⟨x, y, z⟩).toArray⟩ = u := ⟨_, rfl⟩
            rw [hu] at hts ⊢
            clear hu ht hr
            go_wp2_with fail
            clear c0 c1 c2 f0 f1 f2
            obtain ⟨W3, hW⟩ : ∃ W, ((w2.setCell ⟨b, 0, none⟩ (.int .i64 0)).setCell ⟨b, 1, none⟩ (.int .i64 0)).setCell ⟨b, 2, none⟩ (.int .i64 0) = W := ⟨_, rfl⟩
            have K4 : KeyAt W3 b zeroK := by rw [← hW]; exact ((hR.out.set0 0).set1 0).set2 0
            have F4 : Fr0 none' w W3 := by rw [← hW]; exact ((hf.out.setCell (fun h => absurd h (by have := Hb.out; omega)) _).setCell (fun h => absurd h (by have := Hb.out; omega)) _).setCell (fun h => absurd h (by have := Hb.out; omega)) _
            rw [hW]
            have g0 := K4.cell (i := 0) (by omega)
            have g1 := K4.cell (i := 1) (by omega)
            have g2 := K4.cell (i := 2) (by omega)
            simp [nth3, zeroK] at g0 g1 g2
            refine bodyPost_ret (v := .tuple #[keyV zeroK, .int .i64 72]) (by simp [results, Tryz.results53, go_sem, g0, g1, g2, keyV, zeroK]) rfl ⟨by rw [HnoV.out], F4⟩
        · have HnoV := Lib.hid (show rparV s.data.toList = .tuple #[keyV zeroK, .int .i64 72] from rpar_no (HV.out.trans (if_neg (fun h => hr h.1))))
          refine (rText_wrong ⟨x, y, z⟩ hr W2).mono ?_
          rintro e w2 ⟨rfl, hf⟩
          have hR := Lib.hid (R2.out.fr0 (S := none') hf (fun h => h))
          have hf := Lib.hid (F2.out.trans hf)
          have c0 := hR.out.cell (i := 0) (by omega)
          have c1 := hR.out.cell (i := 1) (by omega)
          have c2 := hR.out.cell (i := 2) (by omega)
          simp [nth3, zeroK] at c0 c1 c2
          have f0 := hR.out.frozen 0
          have f1 := hR.out.frozen 1
          have f2 := hR.out.frozen 2
          clear hr
          go_wp2_with fail
          clear c0 c1 c2 f0 f1 f2
          obtain ⟨W3, hW⟩ : ∃ W, ((w2.setCell ⟨b, 0, none⟩ (.int .i64 0)).setCell ⟨b, 1, none⟩ (.int .i64 0)).setCell ⟨b, 2, none⟩ (.int .i64 0) = W := ⟨_, rfl⟩
          have K4 : KeyAt W3 b zeroK := by rw [← hW]; exact ((hR.out.set0 0).set1 0).set2 0
          have F4 : Fr0 none' w W3 := by rw [← hW]; exact ((hf.out.setCell (fun h => absurd h (by have := Hb.out; omega)) _).setCell (fun h => absurd h (by have := Hb.out; omega)) _).setCell (fun h => absurd h (by have := Hb.out; omega)) _
          rw [hW]
          have g0 := K4.cell (i := 0) (by omega)
          have g1 := K4.cell (i := 1) (by omega)
          have g2 := K4.cell (i := 2) (by omega)
          simp [nth3, zeroK] at g0 g1 g2
          refine bodyPost_ret (v := .tuple #[keyV zeroK, .int .i64 72]) (by simp [results, Tryz.results53, go_sem, g0, g1, g2, keyV, zeroK]) rfl ⟨by rw [HnoV.out], F4⟩
      · have d0 : decide ((i : Int) < (n : Int)) = false := decide_eq_false (by omega)
        clear hlt
        obtain ⟨v0, v1, v2⟩ := hN.out.cells
        go_wp2_with fail
        obtain ⟨B, hB⟩ : ∃ B, wr.heap.size = B := ⟨_, rfl⟩
        obtain ⟨W2, hW2⟩ : ∃ W, wr.alloc (.cells #[.int .i64 x, .int .i64 y, .int .i64 z] 28) = W := ⟨_, rfl⟩
        have KQ := Lib.hid (show KeyAt W2 B ⟨x, y, z⟩ from by rw [← hW2, ← hB]; exact World.alloc_heap_new wr _)
        have R2 := Lib.hid (show KeyAt W2 b zeroK from by rw [← hW2]; exact KeyAt.alloc hR.out _)
        have F2 := Lib.hid (show Fr0 none' w W2 from by rw [← hW2]; exact hf.out.alloc _)
        have HbB := Lib.hid (show b < B from by have := hR.out.lt; omega)
        rw [hW2, hB]
        clear hW2 hB hN hR hf v0 v1 v2 HN1 HR1 HF1
        by_cases hr : RightK ⟨x, y, z⟩
        · refine (rText_any ⟨x, y, z⟩ hr W2).mono ?_
          rintro e w2 ⟨rfl, hf⟩
          have hR := Lib.hid (R2.out.fr0 (S := none') hf (fun h => h))
          have KQ := Lib.hid (KQ.out.fr0 (S := none') hf (fun h => h))
          have hf := Lib.hid (F2.out.trans hf)
          have c0 := hR.out.cell (i := 0) (by omega)
          have c1 := hR.out.cell (i := 1) (by omega)
          have c2 := hR.out.cell (i := 2) (by omega)
          have a0 := KQ.out.cell (i := 0) (by omega)
          have a1 := KQ.out.cell (i := 1) (by omega)
          have a2 := KQ.out.cell (i := 2) (by omega)
          simp [nth3, zeroK] at c0 c1 c2 a0 a1 a2
          have f0 := hR.out.frozen 0
          have f1 := hR.out.frozen 1
          have f2 := hR.out.frozen 2
          by_cases ht : textK ⟨x, y, z⟩ = s.data.toList
          · have HnoV := Lib.hid (show rparV s.data.toList = .tuple #[keyV ⟨x, y, z⟩, .int .i64 0] from rpar_yes (HV.out.trans (if_pos ⟨hr, ht⟩)))
            have hts : (⟨(textK ⟨x, y, z⟩).toArray⟩ : ByteArray) = s := by apply ByteArray.ext; rw [ht]
            rw [hts]
            clear hts ht hr
            go_wp2_with fail
            clear c0 c1 c2 f0 f1 f2
            obtain ⟨W3, hW⟩ : ∃ W, ((w2.setCell ⟨b, 0, none⟩ (.int .i64 x)).setCell ⟨b, 1, none⟩ (.int .i64 y)).setCell ⟨b, 2, none⟩ (.int .i64 z) = W := ⟨_, rfl⟩
            have K4 : KeyAt W3 b ⟨x, y, z⟩ := by rw [← hW]; exact ((hR.out.set0 x).set1 y).set2 z
            have F4 : Fr0 none' w W3 := by rw [← hW]; exact ((hf.out.setCell (fun h => absurd h (by have := Hb.out; omega)) _).setCell (fun h => absurd h (by have := Hb.out; omega)) _).setCell (fun h => absurd h (by have := Hb.out; omega)) _
            rw [hW]
            have g0 := K4.cell (i := 0) (by omega)
            have g1 := K4.cell (i := 1) (by omega)
            have g2 := K4.cell (i := 2) (by omega)
            simp [nth3] at g0 g1 g2
            refine bodyPost_ret (v := .tuple #[keyV ⟨x, y, z⟩, .int .i64 0]) (by simp [results, Tryz.results53, go_sem, g0, g1, g2, keyV]) rfl ⟨by rw [HnoV.out], F4⟩
          · have HnoV := Lib.hid (show rparV s.data.toList = .tuple #[keyV zeroK, .int .i64 72] from rpar_no (HV.out.trans (if_neg (fun h => ht h.2))))
            have hts : ((⟨(textK ⟨x, y, z⟩).toArray⟩ : ByteArray).toList == s.toList) = false := by
              rw [Lib.toList_data, Lib.toList_data]
              exact beq_false_of_ne (fun h => ht (by simpa using h))
            obtain ⟨u, hu⟩ : ∃ u : ByteArray, ⟨(textK ⟨x, y, z⟩).toArray⟩ = u := ⟨_, rfl⟩
            rw [hu] at hts ⊢
            clear hu ht hr
            go_wp2_with fail
            clear c0 c1 c2 f0 f1 f2
            obtain ⟨W3, hW⟩ : ∃ W, ((w2.setCell ⟨b, 0, none⟩ (.int .i64 0)).setCell ⟨b, 1, none⟩ (.int .i64 0)).setCell ⟨b, 2, none⟩ (.int .i64 0) = W := ⟨_, rfl⟩
            have K4 : KeyAt W3 b zeroK := by rw [← hW]; exact ((hR.out.set0 0).set1 0).set2 0
            have F4 : Fr0 none' w W3 := by rw [← hW]; exact ((hf.out.setCell (fun h => absurd h (by have := Hb.out; omega)) _).setCell (fun h => absurd h (by have := Hb.out; omega)) _).setCell (fun h => absurd h (by have := Hb.out; omega)) _
            rw [hW]
            have g0 := K4.cell (i := 0) (by omega)
            have g1 := K4.cell (i := 1) (by omega)
            have g2 := K4.cell (i := 2) (by omega)
            simp [nth3, zeroK] at g0 g1 g2
            refine bodyPost_ret (v := .tuple #[keyV zeroK, .int .i64 72]) (by simp [results, Tryz.results53, go_sem, g0, g1, g2, keyV, zeroK]) rfl ⟨by rw [HnoV.out], F4⟩
        · have HnoV := Lib.hid (show rparV s.data.toList = .tuple #[keyV zeroK, .int .i64 72] from rpar_no (HV.out.trans (if_neg (fun h => hr h.1))))
          refine (rText_wrong ⟨x, y, z⟩ hr W2).mono ?_
          rintro e w2 ⟨rfl, hf⟩
          have hR := Lib.hid (R2.out.fr0 (S := none') hf (fun h => h))
          have hf := Lib.hid (F2.out.trans hf)
          have c0 := hR.out.cell (i := 0) (by omega)
          have c1 := hR.out.cell (i := 1) (by omega)
          have c2 := hR.out.cell (i := 2) (by omega)
          simp [nth3, zeroK] at c0 c1 c2
          have f0 := hR.out.frozen 0
          have f1 := hR.out.frozen 1
          have f2 := hR.out.frozen 2
          clear hr
          go_wp2_with fail
          clear c0 c1 c2 f0 f1 f2
          obtain ⟨W3, hW⟩ : ∃ W, ((w2.setCell ⟨b, 0, none⟩ (.int .i64 0)).setCell ⟨b, 1, none⟩ (.int .i64 0)).setCell ⟨b, 2, none⟩ (.int .i64 0) = W := ⟨_, rfl⟩
          have K4 : KeyAt W3 b zeroK := by rw [← hW]; exact ((hR.out.set0 0).set1 0).set2 0
          have F4 : Fr0 none' w W3 := by rw [← hW]; exact ((hf.out.setCell (fun h => absurd h (by have := Hb.out; omega)) _).setCell (fun h => absurd h (by have := Hb.out; omega)) _).setCell (fun h => absurd h (by have := Hb.out; omega)) _
          rw [hW]
          have g0 := K4.cell (i := 0) (by omega)
          have g1 := K4.cell (i := 1) (by omega)
          have g2 := K4.cell (i := 2) (by omega)
          simp [nth3, zeroK] at g0 g1 g2
          refine bodyPost_ret (v := .tuple #[keyV zeroK, .int .i64 72]) (by simp [results, Tryz.results53, go_sem, g0, g1, g2, keyV, zeroK]) rfl ⟨by rw [HnoV.out], F4⟩
end Go.Proofs.YtpklgpdlkdlbbaaGreatDoor

/-
  fermatalaw07.tells: the contracts at any key.
-/
namespace Go.Proofs.YtpklgpdlkdlbbaaGreatDoor
open Go Go.RowKit
attribute [local go_sem ↓] Go.wp_at_zero Go.wp_at_succ
attribute [local go_sem] Oper.semAt_some wide_fn wide_depth wide_fnR wide_depthR

def errK (k : Key3) : Int := if RightK k then 0 else 70
def outV (o : Option Key3) (k : Key3) : Key3 := if RightK k then o.getD zeroK else zeroK
def outE (o : Option Key3) (k : Key3) : Int := if RightK k then (if o.isSome then 0 else 6) else 70
def textO (k : Key3) : List UInt8 := if RightK k then textK k else []
def bytesO (k : Key3) : List UInt8 := if RightK k then bytesK k else []
/-- Bytes that are told. -/
def BytesPost (l : List UInt8) (E : Int) (w : World) (e : Ending) (w' : World) : Prop := ∃ a n cap, e = .returned (.tuple #[.slice a n cap, .int .i64 E]) ∧ BsIn w' a l ∧ l.length = n ∧ Fr0 none' w w'
theorem bs_none (w : World) : BsIn w none [] := fun i x h => by simp at h
theorem bytes_of_row {w w' : World} {v : Value} {k : Key3} (h : w'.ownsRow w.heap.size 5 1 v 12 (Lib.byteCells (bytesK k))) (hf : Fr0 none' w w') : BytesPost (bytesK k) 0 w (.returned (.tuple #[v, .int .i64 0])) w' := by
  obtain ⟨g, cap, rfl⟩ := Joins.ownsRow_form h (by omega)
  exact ⟨_, _, _, rfl, BsIn.of_row h, bytesK_length k, hf⟩
theorem Bytes_all (k : Key3) (w : World) : Calls Tryz.prog 7 #[keyV k] w (BytesPost (bytesO k) (errK k) w) := by
  unfold bytesO errK
  by_cases h : RightK k
  · rw [if_pos h, if_pos h]
    refine (Bytes_any k h w).mono ?_
    rintro e w' ⟨v, rfl, hr, hf⟩
    exact bytes_of_row hr hf
  · rw [if_neg h, if_neg h]
    refine (Bytes_wrong k h w).mono ?_
    rintro e w' ⟨rfl, hf⟩
    exact ⟨_, _, _, rfl, bs_none _, rfl, hf⟩
theorem rBytes_all (k : Key3) (w : World) : Calls Tryz.prog 21 #[keyV k] w (BytesPost (bytesO k) (errK k) w) := by
  unfold bytesO errK
  by_cases h : RightK k
  · rw [if_pos h, if_pos h]
    refine (rBytes_any k h w).mono ?_
    rintro e w' ⟨v, rfl, hr, hf⟩
    exact bytes_of_row hr hf
  · rw [if_neg h, if_neg h]
    refine (rBytes_wrong k h w).mono ?_
    rintro e w' ⟨rfl, hf⟩
    exact ⟨_, _, _, rfl, bs_none _, rfl, hf⟩
theorem Text_all (k : Key3) (w : World) (hL : Laid7 w) : Calls Tryz.prog 8 #[keyV k] w fun e w' => e = .returned (.tuple #[.string ⟨(textO k).toArray⟩, .int .i64 (errK k)]) ∧ Fr0 none' w w' := by
  unfold textO errK
  by_cases h : RightK k
  · rw [if_pos h, if_pos h]; exact Text_any k h w hL
  · rw [if_neg h, if_neg h]; exact Text_wrong k h w
theorem rText_all (k : Key3) (w : World) : Calls Tryz.prog 19 #[keyV k] w fun e w' => e = .returned (.tuple #[.string ⟨(textO k).toArray⟩, .int .i64 (errK k)]) ∧ Fr0 none' w w' := by
  unfold textO errK
  by_cases h : RightK k
  · rw [if_pos h, if_pos h]; exact rText_any k h w
  · rw [if_neg h, if_neg h]; exact rText_wrong k h w
theorem step_all (o : Option Key3) (k : Key3) : (if RightK k then stepV o else .tuple #[keyV zeroK, .int .i64 70]) = .tuple #[keyV (outV o k), .int .i64 (outE o k)] := by
  unfold outV outE stepV
  by_cases h : RightK k
  · rw [if_pos h, if_pos h, if_pos h]
  · rw [if_neg h, if_neg h, if_neg h]
theorem Next_all (k : Key3) (w : World) : Calls Tryz.prog 9 #[keyV k] w fun e w' => e = .returned (.tuple #[keyV (outV (nextK k) k), .int .i64 (outE (nextK k) k)]) ∧ Fr0 none' w w' := by
  rw [← step_all]; exact Next_any k w
theorem rNext_all (k : Key3) (w : World) : Calls Tryz.prog 46 #[keyV k] w fun e w' => e = .returned (.tuple #[keyV (outV (nextK k) k), .int .i64 (outE (nextK k) k)]) ∧ Fr0 none' w w' := by
  rw [← step_all]; exact rNext_any k w
theorem Back_all (k : Key3) (w : World) : Calls Tryz.prog 10 #[keyV k] w fun e w' => e = .returned (.tuple #[keyV (outV (backK k) k), .int .i64 (outE (backK k) k)]) ∧ Fr0 none' w w' := by
  rw [← step_all]; exact Back_any k w
theorem rBack_all (k : Key3) (w : World) : Calls Tryz.prog 47 #[keyV k] w fun e w' => e = .returned (.tuple #[keyV (outV (backK k) k), .int .i64 (outE (backK k) k)]) ∧ Fr0 none' w w' := by
  rw [← step_all]; exact rBack_any k w
theorem errK_in (k : Key3) : IntKind.i64.wrap (errK k) = errK k := IntWalk.i64_in _ (by unfold errK; split <;> omega)
theorem outE_in (o : Option Key3) (k : Key3) : IntKind.i64.wrap (outE o k) = outE o k := IntWalk.i64_in _ (by unfold outE; repeat (split <;> try omega))
theorem endsE_in (t : Int) : IntKind.i64.wrap (endsV t).2.2 = (endsV t).2.2 := IntWalk.i64_in _ (by unfold endsV; split <;> (dsimp only; omega))
end Go.Proofs.YtpklgpdlkdlbbaaGreatDoor

/-
  KeyReads.
-/
namespace Go.Proofs.YtpklgpdlkdlbbaaGreatDoor
open Go Go.RowKit
attribute [local go_sem ↓] Go.wp_at_zero Go.wp_at_succ
attribute [local go_sem] Oper.semAt_some wide_fn wide_depth wide_fnR wide_depthR
attribute [local go_sem high] run_neq_k run_eql_k

theorem BsIn.cells {w : World} {a : Addr} {l : List UInt8} (h : BsIn w (some a) l) : ∀ j u, (Lib.byteCells l)[j]? = some u → w.cell? (a.add j) = some u := fun j u hj => by
  rw [Lib.byteCells, List.getElem?_map] at hj
  obtain ⟨x, hx, rfl⟩ := Option.map_eq_some_iff.1 hj
  obtain ⟨g, o, e, hc⟩ := h j x hx
  injection e with e
  subst e
  unfold Addr.add
  split
  · next h0 => subst h0; exact hc
  · exact hc
set_option maxRecDepth 100000 in
set_option maxHeartbeats 2000000 in
theorem Clone_bytes {w : World} {a : Option Addr} {n cap : Nat} {l : List UInt8} (h : BsIn w a l) (hl : l.length = n) (hn : n ≤ 1000) :
    Calls Tryz.prog 14 #[.slice a n cap] w fun e w' => ∃ a' c', e = .returned (.slice a' n c') ∧ n ≤ c' ∧ c' ≤ maxLen ∧ BsIn w' a' l ∧ Fr0 none' w w' := by
  obtain ⟨i0, hi, hz0, hz1, hz2⟩ := info_parts info_byte
  have H := Lib.hid h
  clear h
  cases a with
  | none =>
    have hl0 : l = [] := by
      cases l with
      | nil => rfl
      | cons x r => obtain ⟨g, o, e, _⟩ := H.out 0 x rfl; cases e
    subst hl0
    obtain rfl : n = 0 := by simpa using hl.symm
    have q : ∀ (w : World), (binOp .eql 30 (.slice none 0 cap) (.slice none 0 0)).run Tryz.prog w = .ok (.bool true) w := fun w => Lib.run_eql_slice_nil w _ _ none 0 cap 0 0 Tryz.underlying30
    go_enter Tryz.func14, Tryz.ntmps14
    go_wp2
    go_ret
    exact ⟨_, _, rfl, Nat.zero_le _, Nat.zero_le _, H.out, Fr0.refl _ _⟩
  | some a =>
    have q : ∀ (w : World), (binOp .eql 30 (.slice (some a) n cap) (.slice none 0 0)).run Tryz.prog w = .ok (.bool false) w := fun w => Lib.run_eql_slice_nil w _ _ (some a) n cap 0 0 Tryz.underlying30
    have hrow := World.ownsRow_made (e := 5) (size := 1) w #[] 0 (Nat.le_refl _) (Nat.zero_le _) (by simp)
    have Hrow := Lib.hid hrow
    have hsrc := Lib.hid (show Src Tryz.prog 1 30 (.slice (some a) n cap) n (Lib.byteCells l) (w.alloc (.cells #[] 5)) from Src.ofSlice _ Tryz.underlying30 a n cap (Lib.byteCells l) (by rw [Lib.byteCells_length, hl, Nat.mul_one]) ((H.out.later ((Fr0.refl none' w).alloc _)).cells) (fun u hu => by obtain ⟨x, _, rfl⟩ := List.mem_map.1 hu; rfl))
    clear hrow
    go_enter Tryz.func14, Tryz.ntmps14
    go_wp2_with (at_builtin; refine wpList_append_k rfl _ _ 30 30 rfl w.heap.size 5 i0 (.int .u8 0) 1 1 Tryz.underlying30 hi hz0 hz1 hz2 rfl (by decide) (.slice (some ⟨w.heap.size, 0, none⟩) 0 0) 0 [] rfl Hrow.out (.slice (some a) n cap) n _ rfl hsrc.out (by unfold maxLen; omega) (by omega) (by simp) ?_; intro v' w2 hown' hgrow hdr hob; have Hown := Lib.hid hown'; have Hgr := Lib.hid hgrow; clear hown' hgrow hdr hob)
    go_ret
    have hf : Fr0 none' w w2 := ((Fr0.refl none' w).alloc _).grown Hgr.out (fun k hk hlt => by simp [Value.ownBlock] at hk; omega)
    have h1 := Hown.out
    rw [Nat.zero_add, List.nil_append] at h1
    rcases h1.2 with ⟨hv, h0⟩ | ⟨g, c', cur, hv, hb, hg, hnc, hcm, hcs, ht⟩
    · have hl0 : l = [] := List.eq_nil_of_length_eq_zero (by omega)
      subst hl0
      subst hv
      subst h0
      exact ⟨none, 0, rfl, Nat.zero_le _, Nat.zero_le _, fun i x h => by simp at h, hf⟩
    · subst hv
      exact ⟨_, _, rfl, hnc, hcm, BsIn.of_row h1, hf⟩
theorem rRead_all (a : Option Addr) (n cap : Nat) (l : List UInt8) (hl : l.length = n) (hc : n ≤ cap) (hcm : cap ≤ maxLen) (w : World) (hb : BsIn w a l) :
    Calls Tryz.prog 52 #[.slice a n cap] w fun e w' => e = .returned (readV l) ∧ Fr0 none' w w' := by
  by_cases h : n = 12
  · subst h
    obtain ⟨g, o, rfl, _⟩ := hb 0 (l[0]'(by omega)) (List.getElem?_eq_getElem (by omega))
    exact rRead_in g o cap l w hb hl hc hcm
  · have : readV l = .tuple #[keyV zeroK, .int .i64 71] := by
      have h0 : readK l = none := by unfold readK; exact if_neg (fun hh => h (by rw [← hl]; exact hh.1))
      unfold readV; rw [h0]; rfl
    rw [this]
    exact rRead_short a n cap h w
theorem readV_form (l : List UInt8) : ∃ (k : Key3) (E : Int), readV l = .tuple #[.agg #[.int .i64 k.time, .int .i64 k.source, .int .i64 k.seq], .int .i64 E] ∧ IntKind.i64.wrap E = E := by
  unfold readV
  split
  · exact ⟨_, 0, rfl, by decide⟩
  · exact ⟨zeroK, 71, rfl, by decide⟩
theorem rparV_form (l : List UInt8) : ∃ (k : Key3) (E : Int), rparV l = .tuple #[.agg #[.int .i64 k.time, .int .i64 k.source, .int .i64 k.seq], .int .i64 E] ∧ IntKind.i64.wrap E = E := by
  unfold rparV
  split
  · exact ⟨_, 0, rfl, by decide⟩
  · exact ⟨zeroK, 72, rfl, by decide⟩
set_option maxRecDepth 100000 in
set_option maxHeartbeats 4000000 in
theorem reads_any (a : Option Addr) (n cap : Nat) (l : List UInt8) (s : ByteArray) (w : World) (hL : Laid7 w) (hb : BsIn w a l) (hl : l.length = n) (hn : n ≤ 40) (hc : n ≤ cap) (hcm : cap ≤ maxLen) (hs : s.size ≤ 60) :
    Calls Tryz.prog 22 #[.slice a n cap, .string s] w fun e w' => e = .returned (.bool true) ∧ Fr0 none' w w' := by
  have HB := Lib.hid hb
  have HL := Lib.hid hL
  have HC := Lib.hid (Clone_bytes (cap := cap) hb hl (by omega))
  clear hb hL
  go_enter Tryz.func22, Tryz.ntmps22
  go_wp2_with fail
  refine HC.out.mono ?_
  rintro e w1 ⟨a1, c1, rfl, h1, h2, h3, hf⟩
  have S := Lib.hid (show Aw [] w w1 from (Aw.start HL.out).later hf)
  have P1 := Lib.hid h3
  have P2 := Lib.hid (HB.out.later hf)
  clear h3 hf
  go_wp2_with fail
  obtain ⟨k1, x1, hv1, e1⟩ := readV_form l
  obtain ⟨k2, x2, hv2, e2⟩ := rparV_form s.data.toList
  have H1 := Lib.hid hv1
  have H2 := Lib.hid hv2
  have HP := Lib.hid (fun W h => Parse_any s (by omega) W h)
  have HPP := Lib.hid (show parseV s.data.toList = rparV s.data.toList from rfl)
  have HQ := Lib.hid (fun W => rParse_any s (by omega) W)
  clear hv1 hv2
  refine (Read_any a1 n c1 l hl h1 h2 _ P1.out).mono ?_
  rintro e w2 ⟨rfl, hf⟩
  rw [H1.out]
  have S := Lib.hid ((S.out.later hf).new k1)
  have hf := hf.alloc (.cells #[.int .i64 (k1 : Key3).time, .int .i64 (k1 : Key3).source, .int .i64 (k1 : Key3).seq] 28)
  have P1 := Lib.hid (P1.out.later hf)
  have P2 := Lib.hid (P2.out.later hf)
  clear hf
  go_wp2_with fail
  obtain ⟨q1, hq⟩ : ∃ q, w2.heap.size = q := ⟨_, rfl⟩
  rw [hq] at S ⊢
  clear hq
  refine (rRead_all a n cap l hl hc hcm _ P2.out).mono ?_
  rintro e w3 ⟨rfl, hf⟩
  rw [H1.out]
  have S := Lib.hid ((S.out.later hf).new k1)
  have hf := hf.alloc (.cells #[.int .i64 (k1 : Key3).time, .int .i64 (k1 : Key3).source, .int .i64 (k1 : Key3).seq] 28)
  have P1 := Lib.hid (P1.out.later hf)
  have P2 := Lib.hid (P2.out.later hf)
  clear hf
  go_wp2_with fail
  obtain ⟨q2, hq⟩ : ∃ q, w3.heap.size = q := ⟨_, rfl⟩
  rw [hq] at S ⊢
  clear hq
  refine (HP.out _ S.out.laid).mono ?_
  rintro e w4 ⟨rfl, hf⟩
  rw [HPP.out, H2.out]
  have S := Lib.hid ((S.out.later hf).new k2)
  have hf := hf.alloc (.cells #[.int .i64 (k2 : Key3).time, .int .i64 (k2 : Key3).source, .int .i64 (k2 : Key3).seq] 28)
  have P1 := Lib.hid (P1.out.later hf)
  have P2 := Lib.hid (P2.out.later hf)
  clear hf
  go_wp2_with fail
  obtain ⟨q3, hq⟩ : ∃ q, w4.heap.size = q := ⟨_, rfl⟩
  rw [hq] at S ⊢
  clear hq
  refine (HQ.out _).mono ?_
  rintro e w5 ⟨rfl, hf⟩
  rw [H2.out]
  have S := Lib.hid ((S.out.later hf).new k2)
  have hf := hf.alloc (.cells #[.int .i64 k2.time, .int .i64 k2.source, .int .i64 k2.seq] 28)
  have P1 := Lib.hid (P1.out.later hf)
  have P2 := Lib.hid (P2.out.later hf)
  have hcv1 := fun cap => conv_bs (cap := cap) P1.out hl
  have hcv2 := fun cap => conv_bs (cap := cap) P2.out hl
  have ⟨x10, x11, x12⟩ := S.out.cell (b := q1) (k := k1) (by simp)
  have ⟨x20, x21, x22⟩ := S.out.cell (b := q2) (k := k1) (by simp)
  have ⟨x30, x31, x32⟩ := S.out.cell (b := q3) (k := k2) (by simp)
  have ⟨x40, x41, x42⟩ := S.out.cell (b := w5.heap.size) (k := k2) (by simp)
  clear hf
  go_wp2_with fail
  go_ret
  exact ⟨rfl, S.out.fr⟩
end Go.Proofs.YtpklgpdlkdlbbaaGreatDoor

/-
  bytes.Compare.
-/
namespace Go.Proofs.YtpklgpdlkdlbbaaGreatDoor
open Go Go.RowKit
attribute [local go_sem ↓] Go.wp_at_zero Go.wp_at_succ

theorem run_bytesOf {w : World} {a : Option Addr} {n cap : Nat} {l : List UInt8} (h : BsIn w a l) (hn : l.length = n) : (Extern.Bytes.bytesOf (.slice a n cap)).run Tryz.prog w = .ok ⟨l.toArray⟩ w := by
  subst hn
  cases l with
  | nil => cases a <;> rfl
  | cons x r =>
    obtain ⟨g, o, rfl, _⟩ := h 0 x rfl
    have hl := Lib.run_loadBytesX (P := Tryz.prog) w ((x :: r).map fun b => (b.toNat : Int)) ⟨g, o, none⟩ .empty (fun j y hy => by
      rw [List.getElem?_map] at hy
      obtain ⟨z, hz, rfl⟩ := Option.map_eq_some_iff.1 hy
      obtain ⟨g', o', e, hc⟩ := h j z hz
      injection e with e
      injection e with e e'
      subst e; subst e'
      unfold Addr.add
      split
      · next h0 => subst h0; exact hc
      · exact hc)
    have he : Lib.bytesOf ((x :: r).map fun b => (b.toNat : Int)) = x :: r := by
      have : ∀ l : List UInt8, Lib.bytesOf (l.map fun b => (b.toNat : Int)) = l := fun l => by
        induction l with
        | nil => rfl
        | cons b l ih => rw [List.map_cons]; unfold Lib.bytesOf at ih ⊢; rw [List.map_cons, ih]; simp
      exact this _
    rw [he, List.length_map] at hl
    refine hl.trans ?_
    congr 1
    apply ByteArray.ext
    show (#[] : Array UInt8) ++ (x :: r).toArray = (x :: r).toArray
    simp
theorem run_compare {w : World} {a b : Option Addr} {n m c d : Nat} {l r : List UInt8} (ha : BsIn w a l) (hl : l.length = n) (hb : BsIn w b r) (hr : r.length = m) :
    (Extern.BytealgCompare.compare #[.slice a n c, .slice b m d]).run Tryz.prog w = .ok (.int .i64 (Lib.compareBytes l r)) w := by
  change Sem.run Tryz.prog (do pure (goInt (Extern.BytealgCompare.cmp (← Extern.Bytes.bytesOf (.slice a n c)) (← Extern.Bytes.bytesOf (.slice b m d))))) w = _
  simp only [Sem.run_bind, run_bytesOf ha hl, run_bytesOf hb hr, Sem.run_pure, Result.andThen]
  rw [Lib.cmp_eq]
  rfl
theorem compareBytes_be : ∀ n x y, x < 256 ^ n → y < 256 ^ n → Lib.compareBytes (beB n x) (beB n y) = cmpI x y
  | 0, x, y, hx, hy => by
    have : x = 0 := by omega
    have : y = 0 := by omega
    subst_vars; rfl
  | n + 1, x, y, hx, hy => by
    have hp : 0 < 256 ^ n := Nat.pos_of_ne_zero (by simp)
    rw [Nat.pow_succ] at hx hy
    have qx : x / 256 ^ n < 256 := by rw [Nat.div_lt_iff_lt_mul hp, Nat.mul_comm]; exact hx
    have qy : y / 256 ^ n < 256 := by rw [Nat.div_lt_iff_lt_mul hp, Nat.mul_comm]; exact hy
    have ih := compareBytes_be n (x % 256 ^ n) (y % 256 ^ n) (Nat.mod_lt _ hp) (Nat.mod_lt _ hp)
    rw [beB_mod n (x % 256 ^ n) x (by rw [Nat.mod_mod]), beB_mod n (y % 256 ^ n) y (by rw [Nat.mod_mod])] at ih
    have dx := Nat.div_add_mod x (256 ^ n)
    have dy := Nat.div_add_mod y (256 ^ n)
    have mx := Nat.mod_lt x hp
    have my := Nat.mod_lt y hp
    have l1 : (UInt8.ofNat (x / 256 ^ n % 256) < UInt8.ofNat (y / 256 ^ n % 256)) ↔ x / 256 ^ n < y / 256 ^ n := by
      rw [UInt8.lt_iff_toNat_lt]; simp [Nat.mod_eq_of_lt qx, Nat.mod_eq_of_lt qy]
    have l2 : (UInt8.ofNat (y / 256 ^ n % 256) < UInt8.ofNat (x / 256 ^ n % 256)) ↔ y / 256 ^ n < x / 256 ^ n := by
      rw [UInt8.lt_iff_toNat_lt]; simp [Nat.mod_eq_of_lt qx, Nat.mod_eq_of_lt qy]
    rw [beB, beB, Lib.compareBytes]
    generalize hX : x / 256 ^ n = X at *
    generalize hY : y / 256 ^ n = Y at *
    generalize hM : 256 ^ n = M at *
    by_cases h1 : X < Y
    · rw [if_pos (l1.2 h1)]
      have : x < y := by
        have : M * (X + 1) ≤ M * Y := Nat.mul_le_mul_left _ h1
        rw [Nat.mul_add] at this; omega
      unfold cmpI; rw [if_pos (by omega)]
    · rw [if_neg (fun h => h1 (l1.1 h))]
      by_cases h2 : Y < X
      · rw [if_pos (l2.2 h2)]
        have : y < x := by
          have : M * (Y + 1) ≤ M * X := Nat.mul_le_mul_left _ h2
          rw [Nat.mul_add] at this; omega
        unfold cmpI; rw [if_neg (by omega), if_pos (by omega)]
      · rw [if_neg (fun h => h2 (l2.1 h)), ih]
        have e : X = Y := by omega
        subst e
        unfold cmpI
        repeat' split
        all_goals omega
theorem compareBytes_append (p q a b : List UInt8) (h : p.length = q.length) : Lib.compareBytes (p ++ a) (q ++ b) = if Lib.compareBytes p q ≠ 0 then Lib.compareBytes p q else Lib.compareBytes a b := by
  induction p generalizing q with
  | nil =>
    cases q with
    | nil => simp [Lib.compareBytes]
    | cons => simp at h
  | cons x p ih =>
    cases q with
    | nil => simp at h
    | cons y q =>
      simp only [List.cons_append, Lib.compareBytes]
      split
      · simp
      · split
        · simp
        · exact ih q (by simpa using h)
/-- The order of the bytes is the order of the keys. -/
theorem compareBytes_key {x y : Key3} (hx : RightK x) (hy : RightK y) : Lib.compareBytes (bytesK x) (bytesK y) = cmpK x y := by
  obtain ⟨x1, x2, x3, x4, x5, x6⟩ := hx
  obtain ⟨y1, y2, y3, y4, y5, y6⟩ := hy
  unfold bytesK
  rw [compareBytes_append _ _ _ _ (by rw [beB_length, beB_length]), compareBytes_append _ _ _ _ (by rw [beB_length, beB_length]),
    compareBytes_be 7 _ _ (by omega) (by omega), compareBytes_be 1 _ _ (by omega) (by omega), compareBytes_be 4 _ _ (by omega) (by omega),
    Int.toNat_of_nonneg x1, Int.toNat_of_nonneg y1, Int.toNat_of_nonneg x3, Int.toNat_of_nonneg y3, Int.toNat_of_nonneg x5, Int.toNat_of_nonneg y5]
  unfold cmpK
  simp only [ne_eq, cmpI_eq]
end Go.Proofs.YtpklgpdlkdlbbaaGreatDoor

/-
  KeyBytes.
-/
namespace Go.Proofs.YtpklgpdlkdlbbaaGreatDoor
open Go Go.RowKit
attribute [local go_sem ↓] Go.wp_at_zero Go.wp_at_succ
attribute [local go_sem] Oper.semAt_some wide_fn wide_depth wide_fnR wide_depthR
attribute [local go_sem high] run_neq_k run_eql_k

theorem Right_drew (k : Key3) (hk : RightK k) (w : World) : Calls Tryz.prog 11 #[keyV k] w fun e w' => e = .returned (.bool true) ∧ Fr0 none' w w' := by
  have h := Right_any k w
  rw [decide_eq_true hk] at h
  exact h
theorem row_caps {w : World} {base g n cap : Nat} {e : TypeId} {xs : List Value} (h : w.ownsRow base e 1 (.slice (some ⟨g, 0, none⟩) n cap) n xs) : n ≤ cap ∧ cap ≤ maxLen := by
  rcases h.2 with ⟨h0, _⟩ | ⟨g', cap', cur, h1, hb, hg, hn, hm, _⟩
  · cases h0
  · cases h1; exact ⟨hn, hm⟩
theorem text_small {k : Key3} (h : RightK k) : (⟨(textK k).toArray⟩ : ByteArray).size ≤ 1000 := by
  have h1 : (textK k).length ≤ 70 := preT_len h (i := 3) (by omega)
  show (textK k).toArray.size ≤ 1000
  rw [List.size_toArray]
  omega
theorem text_eq {x y : Key3} (hx : RightK x) (hy : RightK y) : (textK x == textK y) = sameK x y := by
  rw [Bool.eq_iff_iff]
  unfold sameK
  simp only [beq_iff_eq, decide_eq_true_eq]
  exact ⟨fun h => by have := parseK_text hx; rw [h, parseK_text hy] at this; exact (Option.some.inj this).symm, fun h => by rw [h]⟩
end Go.Proofs.YtpklgpdlkdlbbaaGreatDoor

/-
  fermatalaw07.Keys; slices.Reverse, slices.Index and slices.Contains at keys.
-/
namespace Go.Proofs.YtpklgpdlkdlbbaaGreatDoor
open Go Go.RowKit
attribute [local go_sem ↓] Go.wp_at_zero Go.wp_at_succ
attribute [local go_sem] Oper.semAt_some wide_fn wide_depth wide_fnR wide_depthR
attribute [local go_sem high] run_neq_k run_eql_k

/-- The three cells of a key in numbers. -/
def NAt (w : World) (g o : Nat) (x : Num3) : Prop := w.cell? ⟨g, o, none⟩ = some (.int .u64 x.t) ∧ w.cell? ⟨g, o + 1, none⟩ = some (.int .u32 x.s) ∧ w.cell? ⟨g, o + 2, none⟩ = some (.int .u32 x.q)
/-- A row of keys in numbers. -/
def NsIn (w : World) (a : Option Addr) (L : List Num3) : Prop := ∀ i x, L[i]? = some x → ∃ g o, a = some ⟨g, o, none⟩ ∧ NAt w g (o + i * 3) x
theorem NAt.later {w w' : World} {g o : Nat} {x : Num3} (h : NAt w g o x) (hf : Fr0 none' w w') : NAt w' g o x := ⟨hf.later h.1, hf.later h.2.1, hf.later h.2.2⟩
theorem NsIn.later {w w' : World} {a : Option Addr} {L : List Num3} (h : NsIn w a L) (hf : Fr0 none' w w') : NsIn w' a L := fun i x hx => by
  obtain ⟨g, o, e, hc⟩ := h i x hx
  exact ⟨g, o, e, hc.later hf⟩
end Go.Proofs.YtpklgpdlkdlbbaaGreatDoor

/-
  slices.Reverse, slices.Index and slices.Contains at keys.
-/
namespace Go.Proofs
open Go.Shelf
end Go.Proofs
namespace Go.Proofs.YtpklgpdlkdlbbaaGreatDoor
open Go Go.RowKit Go.Sort
attribute [local go_sem ↓] Go.wp_at_zero Go.wp_at_succ
attribute [local go_sem] Oper.semAt_some wide_fn wide_depth wide_fnR wide_depthR
attribute [local go_sem high] run_neq_k run_eql_k

end Go.Proofs.YtpklgpdlkdlbbaaGreatDoor

/-
  KeyFinds.
-/
namespace Go.Proofs.YtpklgpdlkdlbbaaGreatDoor
open Go Go.RowKit
attribute [local go_sem ↓] Go.wp_at_zero Go.wp_at_succ
attribute [local go_sem] Oper.semAt_some wide_fn wide_depth wide_fnR wide_depthR
attribute [local go_sem high] run_neq_k run_eql_k

/-- Sort of an own row. -/
theorem Sort_own {w : World} {base n : Nat} {v : Value} (L : List Key3) (h : w.ownsRow base 28 3 v n (flatKy L)) (hl : L.length = n) (hn : n ≤ 1000) :
    Calls Tryz.prog 26 #[v] w fun e w' => ∃ v', e = .returned v' ∧ w'.ownsRow w.heap.size 28 3 v' (ss L).length (flatKy (ss L)) ∧ Fr0 none' w w' := by
  obtain ⟨a, cap, rfl, hk⟩ := KsAt.of_own h hl
  rcases h.2 with ⟨h0, hz⟩ | ⟨g, cap', cur, h1, _⟩
  · have : L = [] := List.eq_nil_of_length_eq_zero (by rw [hl]; exact hz)
    subst this
    rw [h0]
    refine (Sort_nil w).mono ?_
    rintro e w' ⟨rfl, hf⟩
    rw [show ss [] = [] from by unfold ss sortK; rw [List.mergeSort_nil]; rfl]
    exact ⟨_, rfl, World.ownsRow_nil _ _ _ _, hf⟩
  · cases h1
    exact Sort_some L hk rfl (by omega)
/-- Clone of an own row. -/
theorem Clone_own {w : World} {base n : Nat} {v : Value} (L : List Key3) (h : w.ownsRow base 28 3 v n (flatKy L)) (hl : L.length = n) (hn : n ≤ 1000) :
    Calls Tryz.prog 57 #[v] w fun e w' => ∃ v', e = .returned v' ∧ w'.ownsRow w.heap.size 28 3 v' n (flatKy L) ∧ Fr0 none' w w' := by
  obtain ⟨a, cap, rfl, hk⟩ := KsAt.of_own h hl
  rcases h.2 with ⟨h0, hz⟩ | ⟨g, cap', cur, h1, _⟩
  · have : L = [] := List.eq_nil_of_length_eq_zero (by rw [hl]; exact hz)
    subst this
    subst hz
    rw [h0]
    refine (clone_nil w).mono ?_
    rintro e w' ⟨rfl, rfl⟩
    exact ⟨_, rfl, World.ownsRow_nil _ _ _ _, Fr0.refl _ _⟩
  · cases h1
    refine (Clone_keys L hk hl hn).mono ?_
    rintro e w' ⟨v', rfl, hr, _, hf⟩
    exact ⟨v', rfl, hr, hf⟩
theorem ss_len (l : List Key3) : (ss l).length ≤ l.length := by
  have h1 : (sortK l).length = l.length := List.length_mergeSort _
  rw [← h1]
  exact dd_le (sortK l)
theorem cut_split {L : List Key3} (hL : Inc L) (k : Key3) : ∃ i, i ≤ L.length ∧ (∀ t, t < i → cmpK (kat L t) k < 0) ∧ (∀ t, i ≤ t → t < L.length → 0 ≤ cmpK (kat L t) k) := by
  induction L with
  | nil => exact ⟨0, Nat.le_refl _, fun t h => absurd h (Nat.not_lt_zero _), fun t _ h => absurd h (Nat.not_lt_zero _)⟩
  | cons x r ih =>
    obtain ⟨i, h1, h2, h3⟩ := ih (List.pairwise_cons.1 hL).2
    by_cases hx : cmpK x k < 0
    · refine ⟨i + 1, by simp; omega, fun t ht => ?_, fun t ht1 ht2 => ?_⟩
      · cases t with
        | zero => simpa [kat] using hx
        | succ t => have := h2 t (by omega); simpa [kat] using this
      · cases t with
        | zero => omega
        | succ t => have := h3 t (by omega) (by simp at ht2; omega); simpa [kat] using this
    · refine ⟨0, Nat.zero_le _, fun t h => absurd h (Nat.not_lt_zero _), fun t _ ht2 => ?_⟩
      cases t with
      | zero => simp [kat]; omega
      | succ t =>
        have h4 := inc_step hL (show 0 < t + 1 by omega) ht2
        have e0 : kat (x :: r) 0 = x := by simp [kat]
        rw [e0] at h4
        have a1 := cmpK_anti x (kat (x :: r) (t + 1))
        have a2 := cmpK_anti (kat (x :: r) (t + 1)) k
        have a3 := cmpK_anti x k
        exact Int.not_lt.1 (fun h5 => hx (cmpK_trans _ _ _ h4 h5))
/-- Where a key stands, or would stand. -/
theorem cnt_split {L : List Key3} (hL : Inc L) (k : Key3) : cntK L k ≤ L.length ∧ (∀ t, t < cntK L k → cmpK (kat L t) k < 0) ∧ (∀ t, cntK L k ≤ t → t < L.length → 0 ≤ cmpK (kat L t) k) := by
  obtain ⟨i, h1, h2, h3⟩ := cut_split hL k
  rw [cnt_at h1 h2 h3]
  exact ⟨h1, h2, h3⟩
theorem cnt_self {L : List Key3} (hL : Inc L) {i : Nat} (hi : i < L.length) : cntK L (kat L i) = i :=
  cnt_at (by omega) (fun t ht => inc_step hL ht hi) (fun t h1 h2 => by
    by_cases e : t = i
    · subst e; rw [cmpK_refl]; exact Int.le_refl _
    · have h3 := inc_step hL (show i < t by omega) h2
      have := cmpK_anti (kat L i) (kat L t)
      omega)
theorem twice_not_inc (L : List Key3) (x : Key3) : ¬ Inc (L ++ [x, x]) := fun h => by
  have h1 := (List.pairwise_append.1 h).2.1
  have h2 := (List.pairwise_cons.1 h1).1 x (by simp)
  rw [cmpK_refl] at h2
  omega
theorem rev_inc {L : List Key3} (hL : Inc L) : Inc L.reverse ↔ L.length ≤ 1 := by
  constructor
  · intro h
    match L, hL, h with
    | [], _, _ => simp
    | [x], _, _ => simp
    | x :: y :: r, hL, h =>
      exfalso
      have h1 := (List.pairwise_cons.1 hL).1 y (by simp)
      unfold Inc at h
      rw [List.pairwise_reverse] at h
      have h2 := (List.pairwise_cons.1 h).1 y (by simp)
      have := cmpK_anti x y
      omega
  · intro h
    match L, h with
    | [], _ => exact List.Pairwise.nil
    | [x], _ => exact List.pairwise_singleton _ _
theorem viaT {T : Type} {P : Program} {c : Code} {K : Act → World → Prop} {Q : Exit → Act → World → Prop} {a : Act} {w : World} (F : T → World → Prop) (vs : T → List (Nat × Value))
    (t : ∀ q W, F q W → K ((vs q).foldl (fun a p => a.put (some p.1) p.2) a) W)
    (h : (∀ q W, F q W → K ((vs q).foldl (fun a p => a.put (some p.1) p.2) a) W) → c.wp P (Exit.then K Q) a w) : c.wp P (Exit.then K Q) a w := h t
theorem searchV_inc {L : List Key3} (h : Inc L) (k : Key3) : searchV L k = .tuple #[.int .i64 (cntK L k), .bool (decide (k ∈ L)), .int .i64 0] := by unfold searchV; rw [if_pos h]
theorem searchV_not {L : List Key3} (h : ¬ Inc L) (k : Key3) : searchV L k = .tuple #[.int .i64 0, .bool false, .int .i64 73] := by unfold searchV; rw [if_neg h]
end Go.Proofs.YtpklgpdlkdlbbaaGreatDoor
