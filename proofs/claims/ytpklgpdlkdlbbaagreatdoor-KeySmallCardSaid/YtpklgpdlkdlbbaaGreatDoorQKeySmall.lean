/- KeySmall: the statement, and its tied card: for any arguments the law returns true, and the arguments read as before. -/
import Derived.Test.YtpklgpdlkdlbbaaGreatDoorJb3
import Derived.Test.YtpklgpdlkdlbbaaGreatDoorJb5
import Derived.Lib.SlBytesConst
import Derived.Lib.ConvBytes
import Derived.Test.YtpklgpdlkdlbbaaGreatDoorJb2
import Derived.Test.YtpklgpdlkdlbbaaGreatDoorCards
import Derived.Test.YtpklgpdlkdlbbaaGreatDoorTie
set_option linter.unusedSimpArgs false
set_option linter.unusedVariables false

/-
  KeySmall: texts with one thing changed.
-/
namespace Go.Proofs.YtpklgpdlkdlbbaaGreatDoor
open Go Go.RowKit
attribute [local go_sem ↓] Go.wp_at_zero Go.wp_at_succ
attribute [local go_sem] Oper.semAt_some wide_fn wide_depth wide_fnR wide_depthR

set_option maxRecDepth 100000 in
set_option maxHeartbeats 4000000 in
theorem changed_any (s : ByteArray) (hs : s.size ≤ 40) (w : World) (hL : Laid7 w) :
    Calls Tryz.prog 20 #[.string s] w fun e w' => e = .returned (.bool true) ∧ Fr0 none' w w' := by
  have HL := Lib.hid hL
  have Hs := Lib.hid hs
  clear hL hs
  go_enter Tryz.func20, Tryz.ntmps20
  have HR := Lib.hid (fun (u : ByteArray) (hu : u.size ≤ 60) (W : World) (h : Fr0 none' w W) => reads_any none 0 0 [] u W (HL.out.later h) (bs_none W) rfl (by omega) (Nat.le_refl _) (Nat.zero_le _) hu)
  go_wp2_with fail
  go_loopw [3] (fun i wr => ∃ j : Nat, i = .int .i64 j ∧ j ≤ s.size + 1 ∧ Hid (Fr0 none' w wr)) (fun i _ => s.size + 1 - (Go.RowKit.intOf i).toNat)
  case atStart => exact ⟨0, rfl, Nat.zero_le _, Fr0.refl _ _⟩
  case round =>
    obtain ⟨j, rfl, hj, hf⟩ := hrel
    by_cases hlt : j ≤ s.size
    · have d0 : decide ((j : Int) ≤ (s.size : Int)) = true := decide_eq_true (by omega)
      have d0n : decide (j ≤ s.size) = true := decide_eq_true hlt
      have e5 : IntKind.i64.wrap ((j : Int) + 1) = (j : Int) + 1 := IntWalk.i64_in _ (by have := Hs.out; omega)
      have Hlt := Lib.hid hlt
      clear hlt hj
      go_wp2_with fail
      obtain ⟨B, hB⟩ : ∃ B, wr.heap.size = B := ⟨_, rfl⟩
      obtain ⟨C, hC⟩ : ∃ C : Array Value, #[.string ⟨#[48]⟩, .string ⟨#[57]⟩, .string ⟨#[64]⟩, .string ⟨#[35]⟩, .string ⟨#[43]⟩, .string ⟨#[45]⟩, .string ⟨#[32]⟩] = C := ⟨_, rfl⟩
      have HC := Lib.hid (fun (k : Nat) (hk : k < 7) => show ∃ c : ByteArray, C[k]? = some (.string c) ∧ c.size = 1 from by
        rw [← hC]
        match k, hk with
        | 0, _ => exact ⟨_, rfl, rfl⟩
        | 1, _ => exact ⟨_, rfl, rfl⟩
        | 2, _ => exact ⟨_, rfl, rfl⟩
        | 3, _ => exact ⟨_, rfl, rfl⟩
        | 4, _ => exact ⟨_, rfl, rfl⟩
        | 5, _ => exact ⟨_, rfl, rfl⟩
        | 6, _ => exact ⟨_, rfl, rfl⟩)
      rw [hC]
      obtain ⟨W1, hW1⟩ : ∃ W, wr.alloc (.cells C 9) = W := ⟨_, rfl⟩
      have HB := Lib.hid (show W1.heap[B]? = some (.cells C 9 (0, 0)) by rw [← hW1, ← hB]; exact World.alloc_heap_new wr _)
      have F1 := Lib.hid (show Fr0 none' w W1 by rw [← hW1]; exact hf.out.alloc _)
      rw [hW1, hB]
      clear hW1 hB hC hf
      go_loopw [5, 14] (fun _ c wr2 => ∃ k : Nat, c = .int .i64 k ∧ k ≤ 7 ∧ Hid (Fr0 none' W1 wr2)) (fun _ c _ => 7 - (Go.RowKit.intOf c).toNat)
      case atStart => exact ⟨0, rfl, Nat.zero_le _, Fr0.refl _ _⟩
      case round =>
        obtain ⟨k, rfl, hk, hf⟩ := hrel
        by_cases hlt : k < 7
        · have d0 : decide ((k : Int) < 7) = true := decide_eq_true (by omega)
          have d0n : decide (k < 7) = true := decide_eq_true hlt
          have e5 : IntKind.i64.wrap ((k : Int) + 1) = (k : Int) + 1 := IntWalk.i64_in _ (by omega)
          have b1 : (0 : Int) ≤ (k : Int) := by omega
          have b2 : (k : Int) < 7 := by omega
          obtain ⟨c, hc, hcs⟩ := HC.out k hlt
          have y0 : wr.cell? ⟨B, k, none⟩ = some (.string c) := by
            have h1 := (hf.out.block B (Array.getElem?_eq_some_iff.1 HB.out).1 id).trans HB.out
            simp [World.cell?, h1, hc]
          have Hk := Lib.hid hlt
          have Hcs := Lib.hid hcs
          have b3 : (0 : Int) ≤ (j : Int) := by omega
          have b4 : (j : Int) ≤ (s.size : Int) := by have := Hlt.out; omega
          clear hc hcs hlt hk
          go_wp2_with fail
          clear y0
          obtain ⟨D, hD⟩ : ∃ D, decide (j < s.size) = D := ⟨_, rfl⟩
          have hD2 : decide ((j : Int) < (s.size : Int)) = D := by rw [← hD]; exact decide_eq_decide.2 (by omega)
          have HD := Lib.hid hD
          have g1 : c.size ≤ 1 := by have := Hcs.out; omega
          have g2 : s.size ≤ 40 := Hs.out
          refine wp_region_held_drew (S := fun W' => Fr0 none' wr W') (by kernel_rfl) ((Fr0.refl none' wr).drew) (fun hHeld => ?_)
          refine take_on (i := 0) (v := .string s) rfl (by kernel_rfl) (by kernel_rfl) (by kernel_rfl) (fun _ _ _ h => h) (by kernel_rfl) (fun W' hSW => ?_) (by assumption) ?_
          · clear hSW
            first | (go_simp; done) | exact rfl | (go_simp; rfl) | (go_simp; omega)
          try simp only [Act.put, List.setIfInBounds_toArray, List.set_cons_zero, List.set_cons_succ]
          refine take_on (i := 1) (v := .int .i64 (j : Int)) rfl (by kernel_rfl) (by kernel_rfl) (by kernel_rfl) (fun _ _ _ h => h) (by kernel_rfl) (fun W' hSW => ?_) (by assumption) ?_
          · clear hSW
            first | (go_simp; done) | exact rfl | (go_simp; rfl) | (go_simp; omega)
          try simp only [Act.put, List.setIfInBounds_toArray, List.set_cons_zero, List.set_cons_succ]
          refine take_on (i := 2) (v := .string (s.extract 0 j)) rfl (by kernel_rfl) (by kernel_rfl) (by kernel_rfl) (fun _ _ _ h => h) (by kernel_rfl) (fun W' hSW => ?_) (by assumption) ?_
          · clear hSW
            first | (go_simp; done) | exact rfl | (go_simp; rfl) | (go_simp; omega)
          try simp only [Act.put, List.setIfInBounds_toArray, List.set_cons_zero, List.set_cons_succ]
          refine take_on (i := 3) (v := .string c) rfl (by kernel_rfl) (by kernel_rfl) (by kernel_rfl) (fun _ _ _ h => h) (by kernel_rfl) (fun W' hSW => ?_) (by assumption) ?_
          · clear hSW
            first | (go_simp; done) | exact rfl | (go_simp; rfl) | (go_simp; omega)
          try simp only [Act.put, List.setIfInBounds_toArray, List.set_cons_zero, List.set_cons_succ]
          refine take_on (i := 4) (v := .string (s.extract 0 j ++ c)) rfl (by kernel_rfl) (by kernel_rfl) (by kernel_rfl) (fun _ _ _ h => h) (by kernel_rfl) (fun W' hSW => ?_) (by assumption) ?_
          · clear hSW
            first | (go_simp; done) | exact rfl | (go_simp; rfl) | (go_simp; omega)
          try simp only [Act.put, List.setIfInBounds_toArray, List.set_cons_zero, List.set_cons_succ]
          refine take_on (i := 5) (v := .string s) rfl (by kernel_rfl) (by kernel_rfl) (by kernel_rfl) (fun _ _ _ h => h) (by kernel_rfl) (fun W' hSW => ?_) (by assumption) ?_
          · clear hSW
            first | (go_simp; done) | exact rfl | (go_simp; rfl) | (go_simp; omega)
          try simp only [Act.put, List.setIfInBounds_toArray, List.set_cons_zero, List.set_cons_succ]
          refine take_on (i := 6) (v := .int .i64 (j : Int)) rfl (by kernel_rfl) (by kernel_rfl) (by kernel_rfl) (fun _ _ _ h => h) (by kernel_rfl) (fun W' hSW => ?_) (by assumption) ?_
          · clear hSW
            first | (go_simp; done) | exact rfl | (go_simp; rfl) | (go_simp; omega)
          try simp only [Act.put, List.setIfInBounds_toArray, List.set_cons_zero, List.set_cons_succ]
          refine take_on (i := 7) (v := .string (s.extract j s.size)) rfl (by kernel_rfl) (by kernel_rfl) (by kernel_rfl) (fun _ _ _ h => h) (by kernel_rfl) (fun W' hSW => ?_) (by assumption) ?_
          · clear hSW
            first | (go_simp; done) | exact rfl | (go_simp; rfl) | (go_simp; omega)
          try simp only [Act.put, List.setIfInBounds_toArray, List.set_cons_zero, List.set_cons_succ]
          refine take_on (i := 8) (v := .string (s.extract 0 j ++ c ++ s.extract j s.size)) rfl (by kernel_rfl) (by kernel_rfl) (by kernel_rfl) (fun _ _ _ h => h) (by kernel_rfl) (fun W' hSW => ?_) (by assumption) ?_
          · clear hSW
            first | (go_simp; done) | exact rfl | (go_simp; rfl) | (go_simp; omega)
          try simp only [Act.put, List.setIfInBounds_toArray, List.set_cons_zero, List.set_cons_succ]
          refine take_call (i := 9) rfl (by kernel_rfl) (by kernel_rfl) (fun K hK => ?_)
          go_simp
          refine Calls.mono (HR.out _ ?hz _ ((F1.out.trans hf.out).trans hHeld)) ?_
          case hz => simp [ByteArray.size_append, ByteArray.size_extract, Hcs.out]; have := Hs.out; omega
          rintro e V9 ⟨rfl, hfv⟩
          have hS := hHeld.trans hfv
          clear hfv hHeld
          go_wp2_with fail
          refine hK.out _ _ hS (fun hHeld => ?_)
          clear hK K hS
          try simp only [Act.put, List.setIfInBounds_toArray, List.set_cons_zero, List.set_cons_succ]
          refine take_on (i := 10) (v := .bool false) rfl (by kernel_rfl) (by kernel_rfl) (by kernel_rfl) (fun _ _ _ h => h) (by kernel_rfl) (fun W' hSW => ?_) (by assumption) ?_
          · clear hSW
            first | (go_simp; done) | exact rfl | (go_simp; rfl) | (go_simp; omega)
          try simp only [Act.put, List.setIfInBounds_toArray, List.set_cons_zero, List.set_cons_succ]
          refine take_on (i := 11) (v := .bool false) rfl (by kernel_rfl) (by kernel_rfl) (by kernel_rfl) (fun _ _ _ h => h) (by kernel_rfl) (fun W' hSW => ?_) (by assumption) ?_
          · clear hSW
            first | (go_simp; done) | exact rfl | (go_simp; rfl) | (go_simp; omega)
          try simp only [Act.put, List.setIfInBounds_toArray, List.set_cons_zero, List.set_cons_succ]
          refine take_on (i := 12) (v := .int .i64 (j : Int)) rfl (by kernel_rfl) (by kernel_rfl) (by kernel_rfl) (fun _ _ _ h => h) (by kernel_rfl) (fun W' hSW => ?_) (by assumption) ?_
          · clear hSW
            first | (go_simp; done) | exact rfl | (go_simp; rfl) | (go_simp; omega)
          try simp only [Act.put, List.setIfInBounds_toArray, List.set_cons_zero, List.set_cons_succ]
          refine take_on (i := 13) (v := .string s) rfl (by kernel_rfl) (by kernel_rfl) (by kernel_rfl) (fun _ _ _ h => h) (by kernel_rfl) (fun W' hSW => ?_) (by assumption) ?_
          · clear hSW
            first | (go_simp; done) | exact rfl | (go_simp; rfl) | (go_simp; omega)
          try simp only [Act.put, List.setIfInBounds_toArray, List.set_cons_zero, List.set_cons_succ]
          refine take_on (i := 14) (v := .int .i64 (s.size : Int)) rfl (by kernel_rfl) (by kernel_rfl) (by kernel_rfl) (fun _ _ _ h => h) (by kernel_rfl) (fun W' hSW => ?_) (by assumption) ?_
          · clear hSW
            first | (go_simp; done) | exact rfl | (go_simp; rfl) | (go_simp; omega)
          try simp only [Act.put, List.setIfInBounds_toArray, List.set_cons_zero, List.set_cons_succ]
          refine take_on (i := 15) (v := .bool D) rfl (by kernel_rfl) (by kernel_rfl) (by kernel_rfl) (fun _ _ _ h => h) (by kernel_rfl) (fun W' hSW => ?_) (by assumption) ?_
          · clear hSW
            first | (go_simp; done) | exact rfl | (go_simp; rfl) | (go_simp; omega)
          try simp only [Act.put, List.setIfInBounds_toArray, List.set_cons_zero, List.set_cons_succ]
          refine take_on (i := 16) (v := .bool D) rfl (by kernel_rfl) (by kernel_rfl) (by kernel_rfl) (fun _ _ _ h => h) (by kernel_rfl) (fun W' hSW => ?_) (by assumption) ?_
          · clear hSW
            first | (go_simp; done) | exact rfl | (go_simp; rfl) | (go_simp; omega)
          try simp only [Act.put, List.setIfInBounds_toArray, List.set_cons_zero, List.set_cons_succ]
          clear hD hD2
          cases D
          · skip
            refine take_off (i := 17) rfl (by kernel_rfl) (by kernel_rfl) (by kernel_rfl) (fun _ _ _ h => h) (by kernel_rfl) (by assumption) ?_
            try simp only [Act.put, List.setIfInBounds_toArray, List.set_cons_zero, List.set_cons_succ]
            refine take_off (i := 18) rfl (by kernel_rfl) (by kernel_rfl) (by kernel_rfl) (fun _ _ _ h => h) (by kernel_rfl) (by assumption) ?_
            try simp only [Act.put, List.setIfInBounds_toArray, List.set_cons_zero, List.set_cons_succ]
            refine take_off (i := 19) rfl (by kernel_rfl) (by kernel_rfl) (by kernel_rfl) (fun _ _ _ h => h) (by kernel_rfl) (by assumption) ?_
            try simp only [Act.put, List.setIfInBounds_toArray, List.set_cons_zero, List.set_cons_succ]
            refine take_off (i := 20) rfl (by kernel_rfl) (by kernel_rfl) (by kernel_rfl) (fun _ _ _ h => h) (by kernel_rfl) (by assumption) ?_
            try simp only [Act.put, List.setIfInBounds_toArray, List.set_cons_zero, List.set_cons_succ]
            refine take_off (i := 21) rfl (by kernel_rfl) (by kernel_rfl) (by kernel_rfl) (fun _ _ _ h => h) (by kernel_rfl) (by assumption) ?_
            try simp only [Act.put, List.setIfInBounds_toArray, List.set_cons_zero, List.set_cons_succ]
            refine take_off (i := 22) rfl (by kernel_rfl) (by kernel_rfl) (by kernel_rfl) (fun _ _ _ h => h) (by kernel_rfl) (by assumption) ?_
            try simp only [Act.put, List.setIfInBounds_toArray, List.set_cons_zero, List.set_cons_succ]
            refine take_off (i := 23) rfl (by kernel_rfl) (by kernel_rfl) (by kernel_rfl) (fun _ _ _ h => h) (by kernel_rfl) (by assumption) ?_
            try simp only [Act.put, List.setIfInBounds_toArray, List.set_cons_zero, List.set_cons_succ]
            refine take_off (i := 24) rfl (by kernel_rfl) (by kernel_rfl) (by kernel_rfl) (fun _ _ _ h => h) (by kernel_rfl) (by assumption) ?_
            try simp only [Act.put, List.setIfInBounds_toArray, List.set_cons_zero, List.set_cons_succ]
            refine take_off (i := 25) rfl (by kernel_rfl) (by kernel_rfl) (by kernel_rfl) (fun _ _ _ h => h) (by kernel_rfl) (by assumption) ?_
            try simp only [Act.put, List.setIfInBounds_toArray, List.set_cons_zero, List.set_cons_succ]
            refine take_off (i := 26) rfl (by kernel_rfl) (by kernel_rfl) (by kernel_rfl) (fun _ _ _ h => h) (by kernel_rfl) (by assumption) ?_
            try simp only [Act.put, List.setIfInBounds_toArray, List.set_cons_zero, List.set_cons_succ]
            refine take_off (i := 27) rfl (by kernel_rfl) (by kernel_rfl) (by kernel_rfl) (fun _ _ _ h => h) (by kernel_rfl) (by assumption) ?_
            try simp only [Act.put, List.setIfInBounds_toArray, List.set_cons_zero, List.set_cons_succ]
            refine take_off (i := 28) rfl (by kernel_rfl) (by kernel_rfl) (by kernel_rfl) (fun _ _ _ h => h) (by kernel_rfl) (by assumption) ?_
            try simp only [Act.put, List.setIfInBounds_toArray, List.set_cons_zero, List.set_cons_succ]
            refine take_on (i := 29) (v := .bool false) rfl (by kernel_rfl) (by kernel_rfl) (by kernel_rfl) (fun _ _ _ h => h) (by kernel_rfl) (fun W' hSW => ?_) (by assumption) ?_
            · clear hSW
              first | (go_simp; done) | exact rfl | (go_simp; rfl) | (go_simp; omega)
            try simp only [Act.put, List.setIfInBounds_toArray, List.set_cons_zero, List.set_cons_succ]
            refine take_on (i := 30) (v := .bool false) rfl (by kernel_rfl) (by kernel_rfl) (by kernel_rfl) (fun _ _ _ h => h) (by kernel_rfl) (fun W' hSW => ?_) (by assumption) ?_
            · clear hSW
              first | (go_simp; done) | exact rfl | (go_simp; rfl) | (go_simp; omega)
            try simp only [Act.put, List.setIfInBounds_toArray, List.set_cons_zero, List.set_cons_succ]
            refine wpAnyH_done (by kernel_rfl) ?_ _
            have F2 := Lib.hid (hf.out.trans hHeld)
            clear hHeld hf
            go_wp2_with fail
            exact ⟨⟨k + 1, by simp, by have := Hk.out; omega, F2⟩, by simp [Go.RowKit.intOf]; have := Hk.out; omega⟩
          · have hlt := of_decide_eq_true HD.out
            have b5 : (0 : Int) ≤ (j : Int) + 1 := by omega
            have b6 : (j : Int) + 1 ≤ (s.size : Int) := by omega
            have e6 : IntKind.i64.wrap ((j : Int) + 1) = ((j + 1 : Nat) : Int) := by rw [IntWalk.i64_in _ (by have := Hs.out; omega)]; rfl
            have b7 : (0 : Int) ≤ ((j + 1 : Nat) : Int) := by omega
            have b8 : ((j + 1 : Nat) : Int) ≤ (s.size : Int) := by omega
            have Hlt2 := Lib.hid hlt
            clear hlt
            refine take_on (i := 17) (v := .string s) rfl (by kernel_rfl) (by kernel_rfl) (by kernel_rfl) (fun _ _ _ h => h) (by kernel_rfl) (fun W' hSW => ?_) (by assumption) ?_
            · clear hSW
              first | (go_simp; done) | exact rfl | (go_simp; rfl) | (go_simp; omega)
            try simp only [Act.put, List.setIfInBounds_toArray, List.set_cons_zero, List.set_cons_succ]
            refine take_on (i := 18) (v := .int .i64 (j : Int)) rfl (by kernel_rfl) (by kernel_rfl) (by kernel_rfl) (fun _ _ _ h => h) (by kernel_rfl) (fun W' hSW => ?_) (by assumption) ?_
            · clear hSW
              first | (go_simp; done) | exact rfl | (go_simp; rfl) | (go_simp; omega)
            try simp only [Act.put, List.setIfInBounds_toArray, List.set_cons_zero, List.set_cons_succ]
            refine take_on (i := 19) (v := .string (s.extract 0 j)) rfl (by kernel_rfl) (by kernel_rfl) (by kernel_rfl) (fun _ _ _ h => h) (by kernel_rfl) (fun W' hSW => ?_) (by assumption) ?_
            · clear hSW
              first | (go_simp; done) | exact rfl | (go_simp; rfl) | (go_simp; omega)
            try simp only [Act.put, List.setIfInBounds_toArray, List.set_cons_zero, List.set_cons_succ]
            refine take_on (i := 20) (v := .string c) rfl (by kernel_rfl) (by kernel_rfl) (by kernel_rfl) (fun _ _ _ h => h) (by kernel_rfl) (fun W' hSW => ?_) (by assumption) ?_
            · clear hSW
              first | (go_simp; done) | exact rfl | (go_simp; rfl) | (go_simp; omega)
            try simp only [Act.put, List.setIfInBounds_toArray, List.set_cons_zero, List.set_cons_succ]
            refine take_on (i := 21) (v := .string (s.extract 0 j ++ c)) rfl (by kernel_rfl) (by kernel_rfl) (by kernel_rfl) (fun _ _ _ h => h) (by kernel_rfl) (fun W' hSW => ?_) (by assumption) ?_
            · clear hSW
              first | (go_simp; done) | exact rfl | (go_simp; rfl) | (go_simp; omega)
            try simp only [Act.put, List.setIfInBounds_toArray, List.set_cons_zero, List.set_cons_succ]
            refine take_on (i := 22) (v := .string s) rfl (by kernel_rfl) (by kernel_rfl) (by kernel_rfl) (fun _ _ _ h => h) (by kernel_rfl) (fun W' hSW => ?_) (by assumption) ?_
            · clear hSW
              first | (go_simp; done) | exact rfl | (go_simp; rfl) | (go_simp; omega)
            try simp only [Act.put, List.setIfInBounds_toArray, List.set_cons_zero, List.set_cons_succ]
            refine take_on (i := 23) (v := .int .i64 (j : Int)) rfl (by kernel_rfl) (by kernel_rfl) (by kernel_rfl) (fun _ _ _ h => h) (by kernel_rfl) (fun W' hSW => ?_) (by assumption) ?_
            · clear hSW
              first | (go_simp; done) | exact rfl | (go_simp; rfl) | (go_simp; omega)
            try simp only [Act.put, List.setIfInBounds_toArray, List.set_cons_zero, List.set_cons_succ]
            refine take_on (i := 24) (v := .int .i64 ((j + 1 : Nat) : Int)) rfl (by kernel_rfl) (by kernel_rfl) (by kernel_rfl) (fun _ _ _ h => h) (by kernel_rfl) (fun W' hSW => ?_) (by assumption) ?_
            · clear hSW
              first | (go_simp; done) | exact rfl | (go_simp; rfl) | (go_simp; omega)
            try simp only [Act.put, List.setIfInBounds_toArray, List.set_cons_zero, List.set_cons_succ]
            refine take_on (i := 25) (v := .string (s.extract (j + 1) s.size)) rfl (by kernel_rfl) (by kernel_rfl) (by kernel_rfl) (fun _ _ _ h => h) (by kernel_rfl) (fun W' hSW => ?_) (by assumption) ?_
            · clear hSW
              first | (go_simp; done) | exact rfl | (go_simp; rfl) | (go_simp; omega)
            try simp only [Act.put, List.setIfInBounds_toArray, List.set_cons_zero, List.set_cons_succ]
            refine take_on (i := 26) (v := .string (s.extract 0 j ++ c ++ s.extract (j + 1) s.size)) rfl (by kernel_rfl) (by kernel_rfl) (by kernel_rfl) (fun _ _ _ h => h) (by kernel_rfl) (fun W' hSW => ?_) (by assumption) ?_
            · clear hSW
              first | (go_simp; done) | exact rfl | (go_simp; rfl) | (go_simp; omega)
            try simp only [Act.put, List.setIfInBounds_toArray, List.set_cons_zero, List.set_cons_succ]
            refine take_call (i := 27) rfl (by kernel_rfl) (by kernel_rfl) (fun K hK => ?_)
            go_simp
            refine Calls.mono (HR.out _ ?hz _ ((F1.out.trans hf.out).trans hHeld)) ?_
            case hz => simp [ByteArray.size_append, ByteArray.size_extract, Hcs.out]; have := Hs.out; omega
            rintro e V27 ⟨rfl, hfv⟩
            have hS := hHeld.trans hfv
            clear hfv hHeld
            go_wp2_with fail
            refine hK.out _ _ hS (fun hHeld => ?_)
            clear hK K hS
            try simp only [Act.put, List.setIfInBounds_toArray, List.set_cons_zero, List.set_cons_succ]
            refine take_on (i := 28) (v := .bool false) rfl (by kernel_rfl) (by kernel_rfl) (by kernel_rfl) (fun _ _ _ h => h) (by kernel_rfl) (fun W' hSW => ?_) (by assumption) ?_
            · clear hSW
              first | (go_simp; done) | exact rfl | (go_simp; rfl) | (go_simp; omega)
            try simp only [Act.put, List.setIfInBounds_toArray, List.set_cons_zero, List.set_cons_succ]
            refine take_on (i := 29) (v := .bool false) rfl (by kernel_rfl) (by kernel_rfl) (by kernel_rfl) (fun _ _ _ h => h) (by kernel_rfl) (fun W' hSW => ?_) (by assumption) ?_
            · clear hSW
              first | (go_simp; done) | exact rfl | (go_simp; rfl) | (go_simp; omega)
            try simp only [Act.put, List.setIfInBounds_toArray, List.set_cons_zero, List.set_cons_succ]
            refine take_on (i := 30) (v := .bool false) rfl (by kernel_rfl) (by kernel_rfl) (by kernel_rfl) (fun _ _ _ h => h) (by kernel_rfl) (fun W' hSW => ?_) (by assumption) ?_
            · clear hSW
              first | (go_simp; done) | exact rfl | (go_simp; rfl) | (go_simp; omega)
            try simp only [Act.put, List.setIfInBounds_toArray, List.set_cons_zero, List.set_cons_succ]
            refine wpAnyH_done (by kernel_rfl) ?_ _
            have F2 := Lib.hid (hf.out.trans hHeld)
            clear hHeld hf
            go_wp2_with fail
            exact ⟨⟨k + 1, by simp, by have := Hk.out; omega, F2⟩, by simp [Go.RowKit.intOf]; have := Hk.out; omega⟩
        · obtain rfl : k = 7 := by omega
          rw [show ((7 : Nat) : Int) = (7 : Int) from rfl]
          clear hlt hk
          go_wp2_with fail
          refine Calls.mono (HR.out _ ?hz _ (F1.out.trans hf.out)) ?_
          case hz => simp [ByteArray.size_extract]; have := Hs.out; omega
          rintro e w2 ⟨rfl, hf2⟩
          have F2 := Lib.hid ((F1.out.trans hf.out).trans hf2)
          clear hf2 hf
          go_wp2_with fail
          exact ⟨⟨j + 1, by simp, by have := Hlt.out; omega, F2⟩, by simp [Go.RowKit.intOf]; have := Hlt.out; omega⟩
    · have d0 : decide ((j : Int) ≤ (s.size : Int)) = false := decide_eq_false (by omega)
      have d0n : decide (j ≤ s.size) = false := decide_eq_false hlt
      have Hf := Lib.hid hf.out
      clear hf hlt
      go_wp2_with fail
      go_ret
      exact ⟨rfl, Hf.out⟩
end Go.Proofs.YtpklgpdlkdlbbaaGreatDoor

/-
  KeySmall.
-/
namespace Go.Proofs.YtpklgpdlkdlbbaaGreatDoor
open Go Go.RowKit
attribute [local go_sem ↓] Go.wp_at_zero Go.wp_at_succ
attribute [local go_sem] Oper.semAt_some wide_fn wide_depth wide_fnR wide_depthR
attribute [local go_sem high] run_neq_k run_eql_k

theorem wpList_append_kg {P : Program} {w : World} {ops : Array Oper} {rest : List Oper} {o : Oper} {a : Act} {Q : Exit → Act → World → Prop} (hw : Region.wanted o (yielded ops a.tmps) = true) (s x : Operand) (t tx : TypeId)
    (ho : o.op = .call { callee := .builtin .append, args := #[s, x], argTypes := #[t, tx] })
    (base : Nat) (e : TypeId) (i : TypeInfo) (z : Value) (size bytes : Nat) (ht : P.underlying t = some (.slice e)) (hi : P.info? e = some i) (hz : i.zero = some z)
    (hsize : i.size = size) (hby : i.bytes = bytes) (hzs : z.cells.size = size) (hsz : 0 < size)
    (v : Value) (n : Nat) (xs : List Value) (hs : a.eval s = v) (hown : w.ownsRow base e size v n xs)
    (xv : Value) (m : Nat) (news : List Value) (hx : a.eval x = xv) (hsrc : Src P size tx xv m news w)
    (h63 : n + m ≤ maxLen) (hbytes : (n + m) * bytes ≤ 140737488355328) (hbase : base ≤ w.heap.size)
    (h : ∀ v' w', w'.ownsRow base e size v' (n + m) (xs ++ news) → w.grownBy w' v.ownBlock → w.drawn ≤ w'.drawn → (v'.ownBlock = v.ownBlock ∨ v'.ownBlock = some w.heap.size) → wpList P ops Q rest (a.put o.dst v') w') : wpList P ops Q (o :: rest) a w :=
  wpList_on hw fun _ hK => by
    obtain ⟨v', w', hr, h2, h3, h4, h5⟩ := run_append_own_k (P := P) w base t tx o.type e i z size bytes ht hi hz hsize hby hzs hsz v n xs hown xv m news hsrc h63 hbytes hbase
    unfold Oper.wp execOp
    simp only [ho, resolve, invoke, builtin, Sem.run_bind, Sem.run_pure, Result.andThen_ok, List.map_toArray, List.map_cons, List.map_nil, hs, hx, hr]
    exact hK _ _ (h v' w' h2 h3 h4 h5)
theorem bsin_conv (w : World) (r : List UInt8) : BsIn (Lib.bytesWorld w 5 ⟨r.toArray⟩) (some ⟨w.heap.size, 0, none⟩) r := fun i x hx => by
  have hlt := (List.getElem?_eq_some_iff.1 hx).1
  refine ⟨_, 0, rfl, ?_⟩
  have h := Lib.bytesWorld_cell w 5 ⟨r.toArray⟩ i (by show i < r.toArray.size; rw [List.size_toArray]; exact hlt)
  rw [Nat.zero_add, h]
  simp [List.getD_eq_getElem?_getD, hx]
theorem fr_conv (w : World) (s : ByteArray) : Fr0 none' w (Lib.bytesWorld w 5 s) := ⟨rfl, rfl, rfl, by rw [Lib.bytesWorld_size]; omega, fun k hk _ => Lib.bytesWorld_at_old _ _ _ k hk⟩
theorem bsin_lit {W : World} {b : Nat} {C : Array Value} {ty : TypeId} {fz : Nat × Nat} (h : W.heap[b]? = some (.cells C ty fz)) (l : List UInt8) (hC : C = (Lib.byteCells l).toArray) : BsIn W (some ⟨b, 0, none⟩) l := fun i x hx => by
  refine ⟨_, 0, rfl, ?_⟩
  rw [Nat.zero_add]
  subst hC
  simp [World.cell?, h, Lib.byteCells, hx]
/-- A row of slices of bytes. -/
def Lends (w : World) (C : Array Value) (n : Nat) : Prop := ∀ i, i < n → ∃ a m cap, ∃ l : List UInt8, C[i]? = some (.slice a m cap) ∧ l.length = m ∧ m ≤ 40 ∧ m ≤ cap ∧ cap ≤ maxLen ∧ BsIn w a l
/-- Numbers in a row. -/
def NumsAt (w : World) (b n : Nat) : Prop := ∀ i, i < n → ∃ x : Int, w.cell? ⟨b, i, none⟩ = some (.int .i64 x)
theorem NumsAt.later {w w' : World} {b n : Nat} (h : NumsAt w b n) (hf : Fr0 none' w w') : NumsAt w' b n := fun i hi => by
  obtain ⟨x, hx⟩ := h i hi
  exact ⟨x, hf.later hx⟩
theorem NumsAt.new {w : World} (cs : Array Value) (hc : ∀ i (hi : i < cs.size), ∃ x : Int, cs[i] = .int .i64 x) : NumsAt (w.alloc (.cells cs 3)) w.heap.size cs.size := fun i hi => by
  obtain ⟨x, hx⟩ := hc i hi
  refine ⟨x, ?_⟩
  have h := World.alloc_heap_new w (.cells cs 3)
  rw [cellsK_at h, Array.getElem?_eq_getElem hi, hx]
set_option maxRecDepth 100000 in
set_option maxHeartbeats 8000000 in
theorem KeySmall_any (w : World) (hLd : Laid7 w) :
    Calls Tryz.prog 4 #[] w fun e w' => e = .returned (.bool true) ∧ Fr0 none' w w' := by
  obtain ⟨i0, hi0, hz0, hz1, hz2⟩ := info_parts info_key
  obtain ⟨ib, hib, hb0, hb1, hb2⟩ := info_parts info_byte
  have HL := Lib.hid hLd
  clear hLd
  go_enter Tryz.func4, Tryz.ntmps4
  go_wp2_with fail
  have hT := NumsAt.new (w := w) #[.int .i64 (-9223372036854775808), .int .i64 (-1), .int .i64 0, .int .i64 1, .int .i64 281474976710655, .int .i64 281474976710656, .int .i64 281474976710657, .int .i64 9223372036854775807] (fun i hi => match i, hi with | 0, _ => ⟨_, rfl⟩ | 1, _ => ⟨_, rfl⟩ | 2, _ => ⟨_, rfl⟩ | 3, _ => ⟨_, rfl⟩ | 4, _ => ⟨_, rfl⟩ | 5, _ => ⟨_, rfl⟩ | 6, _ => ⟨_, rfl⟩ | 7, _ => ⟨_, rfl⟩)
  obtain ⟨B1, hB1⟩ : ∃ B, w.heap.size = B := ⟨_, rfl⟩
  obtain ⟨W1, hW1⟩ : ∃ W, w.alloc (.cells #[.int .i64 (-9223372036854775808), .int .i64 (-1), .int .i64 0, .int .i64 1, .int .i64 281474976710655, .int .i64 281474976710656, .int .i64 281474976710657, .int .i64 9223372036854775807] 3) = W := ⟨_, rfl⟩
  have F1 := Lib.hid (show Fr0 none' w W1 by rw [← hW1]; exact (Fr0.refl _ _).alloc _)
  have hz1 : W1.heap.size = B1 + 1 := by rw [← hW1, ← hB1]; simp
  rw [hW1, hB1] at hT
  rw [hW1, hB1]
  have hS := NumsAt.new (w := W1) #[.int .i64 (-1), .int .i64 0, .int .i64 1, .int .i64 16, .int .i64 17, .int .i64 1099511627776] (fun i hi => match i, hi with | 0, _ => ⟨_, rfl⟩ | 1, _ => ⟨_, rfl⟩ | 2, _ => ⟨_, rfl⟩ | 3, _ => ⟨_, rfl⟩ | 4, _ => ⟨_, rfl⟩ | 5, _ => ⟨_, rfl⟩)
  obtain ⟨W2, hW2⟩ : ∃ W, W1.alloc (.cells #[.int .i64 (-1), .int .i64 0, .int .i64 1, .int .i64 16, .int .i64 17, .int .i64 1099511627776] 3) = W := ⟨_, rfl⟩
  have f2 : Fr0 none' W1 W2 := by rw [← hW2]; exact (Fr0.refl _ _).alloc _
  have hz2 : W2.heap.size = B1 + 1 + 1 := by rw [← hW2]; simp [hz1]
  rw [hW2, hz1] at hS
  rw [hW2]
  have hQ := NumsAt.new (w := W2) #[.int .i64 (-1), .int .i64 0, .int .i64 1, .int .i64 4294967294, .int .i64 4294967295, .int .i64 4294967296] (fun i hi => match i, hi with | 0, _ => ⟨_, rfl⟩ | 1, _ => ⟨_, rfl⟩ | 2, _ => ⟨_, rfl⟩ | 3, _ => ⟨_, rfl⟩ | 4, _ => ⟨_, rfl⟩ | 5, _ => ⟨_, rfl⟩)
  obtain ⟨W3, hW3⟩ : ∃ W, W2.alloc (.cells #[.int .i64 (-1), .int .i64 0, .int .i64 1, .int .i64 4294967294, .int .i64 4294967295, .int .i64 4294967296] 3) = W := ⟨_, rfl⟩
  have f3 : Fr0 none' W2 W3 := by rw [← hW3]; exact (Fr0.refl _ _).alloc _
  rw [hW3, hz2] at hQ
  rw [hW3]
  have HT := Lib.hid (show NumsAt W3 B1 8 from (hT.later f2).later f3)
  have HSx := Lib.hid (show NumsAt W3 (B1 + 1) 6 from hS.later f3)
  have HQ := Lib.hid (show NumsAt W3 (B1 + 1 + 1) 6 from hQ)
  have F3 := Lib.hid ((F1.out.trans f2).trans f3)
  obtain ⟨B2, hB2⟩ : ∃ B, B1 + 1 = B := ⟨_, rfl⟩
  rw [hB2] at HSx HQ
  rw [hB2]
  obtain ⟨B3, hB3⟩ : ∃ B, B2 + 1 = B := ⟨_, rfl⟩
  rw [hB3] at HQ
  rw [hB3]
  clear hW1 hW2 hW3 hz1 hz2 hT hS hQ f2 f3 hB1 hB2 hB3 F1
  obtain ⟨N, hN⟩ : ∃ N, W3.heap.size = N := ⟨_, rfl⟩
  have HN := Lib.hid hN
  clear hN
  go_loopw [4, 6, 8, 10, 30] (fun v _ _ _ c wr => ∃ (i : Nat) (M : List Key3), c = .int .i64 i ∧ i ≤ 8 ∧ Hid (wr.ownsRow N 28 3 v M.length (flatKy M)) ∧ Hid (M.length ≤ 36 * i) ∧ Hid (Fr0 none' W3 wr)) (fun _ _ _ _ c _ => 8 - (Go.RowKit.intOf c).toNat)
  case atStart => exact ⟨0, [], rfl, Nat.zero_le _, World.ownsRow_nil _ _ _ _, Nat.zero_le _, Fr0.refl _ _⟩
  case round =>
    obtain ⟨i, M, rfl, hi, hr, hm, hf⟩ := hrel
    by_cases hlt : i < 8
    · have d0 : decide ((i : Int) < 8) = true := decide_eq_true (by omega)
      have d0n : decide (i < 8) = true := decide_eq_true hlt
      have e5 : IntKind.i64.wrap ((i : Int) + 1) = (i : Int) + 1 := IntWalk.i64_in _ (by omega)
      have b1 : (0 : Int) ≤ (i : Int) := by omega
      have b2 : (i : Int) < 8 := by omega
      obtain ⟨t, y0⟩ := (HT.out.later hf.out) i hlt
      have Hi := Lib.hid hlt
      clear hlt hi
      go_wp2_with fail
      clear y0 b1 b2
      go_loopw [4, 8, 10, 36] (fun v _ _ c wr => ∃ (j : Nat) (M : List Key3), c = .int .i64 j ∧ j ≤ 6 ∧ Hid (wr.ownsRow N 28 3 v M.length (flatKy M)) ∧ Hid (M.length ≤ 36 * i + 6 * j) ∧ Hid (Fr0 none' W3 wr)) (fun _ _ _ c _ => 6 - (Go.RowKit.intOf c).toNat)
      case atStart => exact ⟨0, M, rfl, Nat.zero_le _, hr, hm, hf⟩
      case round =>
        obtain ⟨j, M, rfl, hj, hr, hm, hf⟩ := hrel
        by_cases hlt : j < 6
        · have d0 : decide ((j : Int) < 6) = true := decide_eq_true (by omega)
          have d0n : decide (j < 6) = true := decide_eq_true hlt
          have e5 : IntKind.i64.wrap ((j : Int) + 1) = (j : Int) + 1 := IntWalk.i64_in _ (by omega)
          have b1 : (0 : Int) ≤ (j : Int) := by omega
          have b2 : (j : Int) < 6 := by omega
          obtain ⟨u, y0⟩ := (HSx.out.later hf.out) j hlt
          have Hj := Lib.hid hlt
          clear hlt hj
          go_wp2_with fail
          clear y0 b1 b2
          go_loopw [4, 10, 42] (fun v _ c wr => ∃ (k : Nat) (M : List Key3), c = .int .i64 k ∧ k ≤ 6 ∧ Hid (wr.ownsRow N 28 3 v M.length (flatKy M)) ∧ Hid (M.length ≤ 36 * i + 6 * j + k) ∧ Hid (Fr0 none' W3 wr)) (fun _ _ c _ => 6 - (Go.RowKit.intOf c).toNat)
          case atStart => exact ⟨0, M, rfl, Nat.zero_le _, hr, hm, hf⟩
          case round =>
            obtain ⟨k, M, rfl, hk, hr, hm, hf⟩ := hrel
            by_cases hlt : k < 6
            · have d0 : decide ((k : Int) < 6) = true := decide_eq_true (by omega)
              have d0n : decide (k < 6) = true := decide_eq_true hlt
              have e5 : IntKind.i64.wrap ((k : Int) + 1) = (k : Int) + 1 := IntWalk.i64_in _ (by omega)
              have b1 : (0 : Int) ≤ (k : Int) := by omega
              have b2 : (k : Int) < 6 := by omega
              obtain ⟨q, y0⟩ := (HQ.out.later hf.out) k hlt
              have Hk := Lib.hid hlt
              have hsrc := Lib.hid (Src.newRow (P := Tryz.prog) (size := 3) (tx := 49) (ty := 28) wr Tryz.underlying49 1 1 [.int .i64 t, .int .i64 u, .int .i64 q] rfl (by simp [Value.oneCell']))
              have hsz3 := hf.out.size
              have HR3 := Lib.hid (ownsRow_q_fr hr.out ((Fr0.refl none' wr).alloc (.cells #[.int .i64 t, .int .i64 u, .int .i64 q] 28)) (fun _ _ h => h))
              have HR0 := Lib.hid (fun g hg => (HR3.out.lt g hg).1)
              have hmx : M.length ≤ 300 := by have h1 := hm.out; have h2 := Hi.out; have h3 := Hj.out; omega
              have hNw : N ≤ wr.heap.size := by rw [← HN.out]; exact hsz3
              clear hlt hk
              go_wp2_with (at_builtin; refine wpList_append_k rfl _ _ 49 49 rfl N 28 i0 (.agg #[.int .i64 0, .int .i64 0, .int .i64 0]) 3 24 Tryz.underlying49 hi0 hz0 hz1 hz2 rfl (by decide) u4 M.length _ rfl HR3.out (.slice (some ⟨wr.heap.size, 0, none⟩) 1 1) 1 _ rfl hsrc.out (by unfold maxLen; omega) (by omega) (by simp; omega) ?_; intro v' w3 hown' hgrow hdr hob; have Hown := Lib.hid hown'; have Hgr := Lib.hid hgrow; clear hown' hgrow hdr hob)
              have FE := Lib.hid ((hf.out.alloc _).grown Hgr.out (fun g hg hl2 => by have h1 := HR0.out g hg; have h2 := HN.out; omega))
              refine ⟨⟨k + 1, M ++ [⟨t, u, q⟩], by simp, by have := Hk.out; omega, ?_, by unfold Hid; rw [List.length_append]; have := hm.out; simp; omega, FE⟩, by simp [Go.RowKit.intOf]; have := Hk.out; omega⟩
              unfold Hid; rw [flatKy_snoc, List.length_append]; exact Hown.out
            · obtain rfl : k = 6 := by omega
              rw [show ((6 : Nat) : Int) = (6 : Int) from rfl]
              clear hlt hk
              go_wp2_with fail
              exact ⟨⟨j + 1, M, by simp, by have := Hj.out; omega, hr, by unfold Hid; have := hm.out; omega, hf⟩, by simp [Go.RowKit.intOf]; have := Hj.out; omega⟩
        · obtain rfl : j = 6 := by omega
          rw [show ((6 : Nat) : Int) = (6 : Int) from rfl]
          clear hlt hj
          go_wp2_with fail
          exact ⟨⟨i + 1, M, by simp, by have := Hi.out; omega, hr, by unfold Hid; have := hm.out; omega, hf⟩, by simp [Go.RowKit.intOf]; have := Hi.out; omega⟩
    · obtain rfl : i = 8 := by omega
      rw [show ((8 : Nat) : Int) = (8 : Int) from rfl]
      clear hlt hi
      obtain ⟨a4, c4, rfl, hk⟩ := KsAt.of_own hr.out rfl
      have PM := Lib.hid hk
      obtain ⟨m, hml⟩ : ∃ m, M.length = m := ⟨_, rfl⟩
      rw [hml] at hm
      rw [hml]
      have Hml := Lib.hid hml
      have Hm := Lib.hid (show m ≤ 288 from hm.out)
      clear hk hr hml hm
      go_wp2_with fail
      obtain ⟨w4, hw4⟩ : ∃ W, wr = W := ⟨_, rfl⟩
      rw [hw4] at hf PM ⊢
      have F4 := Lib.hid (F3.out.trans hf.out)
      clear hf hw4
      go_loopw [11, 12, 13, 14, 15, 16, 17, 58] (fun _ _ _ _ _ _ _ c wr => ∃ j : Nat, c = .int .i64 j ∧ j ≤ m ∧ Hid (Fr0 none' w4 wr)) (fun _ _ _ _ _ _ _ c _ => m - (Go.RowKit.intOf c).toNat)
      case atStart => exact ⟨0, rfl, Nat.zero_le _, Fr0.refl _ _⟩
      case round =>
        obtain ⟨j, rfl, hj, hf⟩ := hrel
        by_cases hlt : j < m
        · skip
          have d0 : decide ((j : Int) < (m : Int)) = true := decide_eq_true (by omega)
          have d0n : decide (j < m) = true := decide_eq_true hlt
          have e5 : IntKind.i64.wrap ((j : Int) + 1) = (j : Int) + 1 := IntWalk.i64_in _ (by have := Hm.out; omega)
          have b1 : (0 : Int) ≤ (j : Int) := by omega
          have b2 : (j : Int) < (m : Int) := by omega
          obtain ⟨g, o, rfl, hx⟩ := PM.out.at (i := j) (by rw [Hml.out]; exact hlt)
          obtain ⟨ka, hka⟩ : ∃ k, kat M j = k := ⟨_, rfl⟩
          rw [hka] at hx
          obtain ⟨y0, y1, y2⟩ := hx.later hf.out
          have Hlt := Lib.hid hlt
          clear hlt hj hka
          go_wp2_with fail
          obtain ⟨q, hq⟩ : ∃ q, wr.heap.size = q := ⟨_, rfl⟩
          obtain ⟨V1, hV1⟩ : ∃ W, wr.alloc (.cells #[.int .i64 ka.time, .int .i64 ka.source, .int .i64 ka.seq] 28) = W := ⟨_, rfl⟩
          have KB := Lib.hid (show KeyAt V1 q ka by rw [← hV1, ← hq]; exact World.alloc_heap_new wr _)
          have FV := Lib.hid (show Fr0 none' w4 V1 by rw [← hV1]; exact hf.out.alloc _)
          rw [hV1]
          try rw [hq]
          rw [show ((j : Int) % 3) = ((j % 3 : Nat) : Int) by push_cast; rfl]
          clear hV1 hq y0 y1 y2 b1 b2 hf
          go_loopw [13] (fun c wr => ∃ k : Nat, c = .int .i64 k ∧ k ≤ m + 2 ∧ Hid (Fr0 none' V1 wr)) (fun c _ => m + 3 - (Go.RowKit.intOf c).toNat)
          case atStart => exact ⟨j % 3, rfl, by have := Nat.mod_lt j (show 0 < 3 by omega); omega, Fr0.refl _ _⟩
          case round =>
            obtain ⟨k, rfl, hk, hf⟩ := hrel
            by_cases hlt : k < m
            · have d0 : decide ((k : Int) < (m : Int)) = true := decide_eq_true (by omega)
              have d0n : decide (k < m) = true := decide_eq_true hlt
              have e5 : IntKind.i64.wrap ((k : Int) + 3) = (k : Int) + 3 := IntWalk.i64_in _ (by have := Hm.out; omega)
              have b1 : (0 : Int) ≤ (k : Int) := by omega
              have b2 : (k : Int) < (m : Int) := by omega
              obtain ⟨g', o', e', hx⟩ := PM.out.at (i := k) (by rw [Hml.out]; exact hlt)
              cases e'
              obtain ⟨kb, hkb⟩ : ∃ x, kat M k = x := ⟨_, rfl⟩
              rw [hkb] at hx
              have XB := Lib.hid (hx.later (FV.out.trans hf.out))
              have KB2 := Lib.hid (KB.out.fr0 (S := none') hf.out (fun h => h))
              have y0 := KB2.out.cell (i := 0) (by omega)
              have y1 := KB2.out.cell (i := 1) (by omega)
              have y2 := KB2.out.cell (i := 2) (by omega)
              simp [nth3] at y0 y1 y2
              have XA := Lib.hid (show KAt wr q 0 ka from ⟨y0, y1, y2⟩)
              have HTl := Lib.hid (fun (W : World) (h : Fr0 none' wr W) => tells_any ka kb kb.time W (HL.out.later (F4.out.trans (FV.out.trans (hf.out.trans h)))))
              simp only [keyV] at HTl
              have Hlt2 := Lib.hid hlt
              clear hlt hk hkb hx y0 y1 y2
              go_wp2_with fail
              refine wp_region_held_drew (S := fun W' => Fr0 none' wr W') (by kernel_rfl) ((Fr0.refl none' wr).drew) (fun hHeld => ?_)
              refine take_on (i := 0) (v := .agg #[.int .i64 (ka : Key3).time, .int .i64 (ka : Key3).source, .int .i64 (ka : Key3).seq]) rfl (by kernel_rfl) (by kernel_rfl) (by kernel_rfl) (fun _ _ _ h => h) (by kernel_rfl) (fun W' hSW => ?_) (by assumption) ?_
              · obtain ⟨x0, x1, x2⟩ := XA.out.later hSW
                clear hSW
                first | (go_simp; done) | exact rfl | (go_simp; rfl) | (go_simp; omega)
              try simp only [Act.put, List.setIfInBounds_toArray, List.set_cons_zero, List.set_cons_succ]
              refine take_on (i := 1) (v := .slice (some ⟨g, o, none⟩) m c4) rfl (by kernel_rfl) (by kernel_rfl) (by kernel_rfl) (fun _ _ _ h => h) (by kernel_rfl) (fun W' hSW => ?_) (by assumption) ?_
              · clear hSW
                first | (go_simp; done) | exact rfl | (go_simp; rfl) | (go_simp; omega)
              try simp only [Act.put, List.setIfInBounds_toArray, List.set_cons_zero, List.set_cons_succ]
              refine take_on (i := 2) (v := .int .i64 (k : Int)) rfl (by kernel_rfl) (by kernel_rfl) (by kernel_rfl) (fun _ _ _ h => h) (by kernel_rfl) (fun W' hSW => ?_) (by assumption) ?_
              · clear hSW
                first | (go_simp; done) | exact rfl | (go_simp; rfl) | (go_simp; omega)
              try simp only [Act.put, List.setIfInBounds_toArray, List.set_cons_zero, List.set_cons_succ]
              refine take_on (i := 3) (v := .pointer (some ⟨g, o + k * 3, none⟩)) rfl (by kernel_rfl) (by kernel_rfl) (by kernel_rfl) (fun _ _ _ h => h) (by kernel_rfl) (fun W' hSW => ?_) (by assumption) ?_
              · clear hSW
                first | (go_simp; done) | exact rfl | (go_simp; rfl) | (go_simp; omega)
              try simp only [Act.put, List.setIfInBounds_toArray, List.set_cons_zero, List.set_cons_succ]
              refine take_on (i := 4) (v := .agg #[.int .i64 (kb : Key3).time, .int .i64 (kb : Key3).source, .int .i64 (kb : Key3).seq]) rfl (by kernel_rfl) (by kernel_rfl) (by kernel_rfl) (fun _ _ _ h => h) (by kernel_rfl) (fun W' hSW => ?_) (by assumption) ?_
              · obtain ⟨x0, x1, x2⟩ := XB.out.later hSW
                clear hSW
                first | (go_simp; done) | exact rfl | (go_simp; rfl) | (go_simp; omega)
              try simp only [Act.put, List.setIfInBounds_toArray, List.set_cons_zero, List.set_cons_succ]
              refine take_on (i := 5) (v := .slice (some ⟨g, o, none⟩) m c4) rfl (by kernel_rfl) (by kernel_rfl) (by kernel_rfl) (fun _ _ _ h => h) (by kernel_rfl) (fun W' hSW => ?_) (by assumption) ?_
              · clear hSW
                first | (go_simp; done) | exact rfl | (go_simp; rfl) | (go_simp; omega)
              try simp only [Act.put, List.setIfInBounds_toArray, List.set_cons_zero, List.set_cons_succ]
              refine take_on (i := 6) (v := .int .i64 (k : Int)) rfl (by kernel_rfl) (by kernel_rfl) (by kernel_rfl) (fun _ _ _ h => h) (by kernel_rfl) (fun W' hSW => ?_) (by assumption) ?_
              · clear hSW
                first | (go_simp; done) | exact rfl | (go_simp; rfl) | (go_simp; omega)
              try simp only [Act.put, List.setIfInBounds_toArray, List.set_cons_zero, List.set_cons_succ]
              refine take_on (i := 7) (v := .pointer (some ⟨g, o + k * 3, none⟩)) rfl (by kernel_rfl) (by kernel_rfl) (by kernel_rfl) (fun _ _ _ h => h) (by kernel_rfl) (fun W' hSW => ?_) (by assumption) ?_
              · clear hSW
                first | (go_simp; done) | exact rfl | (go_simp; rfl) | (go_simp; omega)
              try simp only [Act.put, List.setIfInBounds_toArray, List.set_cons_zero, List.set_cons_succ]
              refine take_on (i := 8) (v := .pointer (some ⟨g, o + k * 3, none⟩)) rfl (by kernel_rfl) (by kernel_rfl) (by kernel_rfl) (fun _ _ _ h => h) (by kernel_rfl) (fun W' hSW => ?_) (by assumption) ?_
              · clear hSW
                first | (go_simp; done) | exact rfl | (go_simp; rfl) | (go_simp; omega)
              try simp only [Act.put, List.setIfInBounds_toArray, List.set_cons_zero, List.set_cons_succ]
              refine take_on (i := 9) (v := .int .i64 kb.time) rfl (by kernel_rfl) (by kernel_rfl) (by kernel_rfl) (fun _ _ _ h => h) (by kernel_rfl) (fun W' hSW => ?_) (by assumption) ?_
              · obtain ⟨x0, x1, x2⟩ := XB.out.later hSW
                clear hSW
                first | (go_simp; done) | exact rfl | (go_simp; rfl) | (go_simp; omega)
              try simp only [Act.put, List.setIfInBounds_toArray, List.set_cons_zero, List.set_cons_succ]
              refine take_call (i := 10) rfl (by kernel_rfl) (by kernel_rfl) (fun K hK => ?_)
              go_simp
              refine (HTl.out _ hHeld).mono ?_
              rintro e V2 ⟨rfl, hf2⟩
              have hS := hHeld.trans hf2
              clear hf2 hHeld
              go_wp2_with fail
              refine hK.out _ _ hS (fun hHeld => ?_)
              clear hK K hS
              try simp only [Act.put, List.setIfInBounds_toArray, List.set_cons_zero, List.set_cons_succ]
              refine take_on (i := 11) (v := .bool false) rfl (by kernel_rfl) (by kernel_rfl) (by kernel_rfl) (fun _ _ _ h => h) (by kernel_rfl) (fun W' hSW => ?_) (by assumption) ?_
              · clear hSW
                first | (go_simp; done) | exact rfl | (go_simp; rfl) | (go_simp; omega)
              try simp only [Act.put, List.setIfInBounds_toArray, List.set_cons_zero, List.set_cons_succ]
              refine wpAnyH_done (by kernel_rfl) ?_ _
              have F2 := Lib.hid (hf.out.trans hHeld)
              clear hHeld hf
              go_wp2_with fail
              refine ⟨?_, by simp [Go.RowKit.intOf]; have := Hlt2.out; omega⟩
              first
                | exact ⟨k + 3, by simp, by have := Hlt2.out; omega, F2⟩
                | ((repeat apply Exists.intro)
                   refine ⟨?_, rfl⟩
                   exact ⟨k + 3, by simp, by have := Hlt2.out; omega, F2⟩)
                | ((repeat apply Exists.intro)
                   refine ⟨?_, by repeat (first | exact rfl | refine And.intro rfl ?_)⟩
                   exact ⟨k + 3, by simp, by have := Hlt2.out; omega, F2⟩)
            · have d0 : decide ((k : Int) < (m : Int)) = false := decide_eq_false (by omega)
              have d0n : decide (k < m) = false := decide_eq_false hlt
              have FV := Lib.hid (FV.out.trans hf.out)
              have KB := Lib.hid (KB.out.fr0 (S := none') hf.out (fun h => h))
              have y0 := KB.out.cell (i := 0) (by omega)
              have y1 := KB.out.cell (i := 1) (by omega)
              have y2 := KB.out.cell (i := 2) (by omega)
              simp [nth3] at y0 y1 y2
              clear hf hlt hk
              by_cases hR : RightK ka
              · have HR := Lib.hid hR
                have HTx := Lib.hid (rText_any ka hR)
                have HBy := Lib.hid (rBytes_any ka hR)
                simp only [keyV] at HTx HBy
                clear hR
                go_wp2_with fail
                refine (HTx.out _).mono ?_
                rintro e V2 ⟨rfl, hf⟩
                have FV := Lib.hid (FV.out.trans hf)
                have KB := Lib.hid (KB.out.fr0 (S := none') hf (fun h => h))
                have y0 := KB.out.cell (i := 0) (by omega)
                have y1 := KB.out.cell (i := 1) (by omega)
                have y2 := KB.out.cell (i := 2) (by omega)
                simp [nth3] at y0 y1 y2
                clear hf
                go_wp2_with fail
                refine (changed_any _ (show (textK ka).toArray.size ≤ 40 by rw [List.size_toArray]; exact textK_length HR.out) _ (HL.out.later (F4.out.trans FV.out))).mono ?_
                rintro e V3 ⟨rfl, hf⟩
                have FV := Lib.hid (FV.out.trans hf)
                have KB := Lib.hid (KB.out.fr0 (S := none') hf (fun h => h))
                clear y0 y1 y2
                have y0 := KB.out.cell (i := 0) (by omega)
                have y1 := KB.out.cell (i := 1) (by omega)
                have y2 := KB.out.cell (i := 2) (by omega)
                simp [nth3] at y0 y1 y2
                clear hf
                go_wp2_with fail
                have HV3 := Lib.hid FV.out.size
                refine (HBy.out _).mono ?_
                rintro e V4 ⟨vb, rfl, hr, hf⟩
                have FV := Lib.hid (FV.out.trans hf)
                clear hf y0 y1 y2 KB
                obtain ⟨g2, c2, rfl⟩ := Joins.ownsRow_form hr (by omega)
                obtain ⟨hc1, hc2⟩ := row_caps hr
                have RB := Lib.hid hr
                have PB := Lib.hid (BsIn.of_row hr)
                clear hr
                go_wp2_with fail
                refine (reads_any (some ⟨g2, 0, none⟩) 12 c2 (bytesK ka) ⟨#[]⟩ _ (HL.out.later (F4.out.trans FV.out)) PB.out (bytesK_length ka) (by omega) hc1 hc2 (by show (0 : Nat) ≤ 60; omega)).mono ?_
                rintro e V5 ⟨rfl, hf⟩
                have FV := Lib.hid (FV.out.trans hf)
                have RB := Lib.hid (ownsRow_q_fr RB.out hf (fun _ _ h => h))
                have PB := Lib.hid (PB.out.later hf)
                have s1 : ¬ c2 ≤ 1 := by omega
                have s2 : ¬ c2 = 1 := by omega
                clear hf
                go_wp2_with fail
                refine (reads_any (some ⟨g2, 1, none⟩) 11 (c2 - 1) (((bytesK ka).drop 1).take 11) ⟨#[]⟩ _ (HL.out.later (F4.out.trans FV.out)) (by have := PB.out.sub 1 11; simpa using this) (by rw [List.length_take, List.length_drop, bytesK_length]; rfl) (by omega) (by omega) (by omega) (by show (0 : Nat) ≤ 60; omega)).mono ?_
                rintro e V6 ⟨rfl, hf⟩
                have FV := Lib.hid (FV.out.trans hf)
                have RB := Lib.hid (ownsRow_q_fr RB.out hf (fun _ _ h => h))
                have Hsrc := Lib.hid (Src.newRow (P := Tryz.prog) (size := 1) (tx := 30) (ty := 5) V6 Tryz.underlying30 1 1 [.int .u8 0] rfl (by simp [Value.oneCell']))
                obtain ⟨base, hbase⟩ : ∃ b, V3.heap.size = b := ⟨_, rfl⟩
                have hbV : base ≤ V6.heap.size := by have := (RB.out.lt g2 rfl); rw [hbase] at this; omega
                rw [hbase] at RB
                have Hr2 := Lib.hid (ownsRow_q_fr RB.out ((Fr0.refl none' V6).alloc (.cells #[.int .u8 0] 5)) (fun _ _ h => h))
                clear hf s1 s2
                go_wp2_with (at_builtin; refine wpList_append_kg (by kernel_rfl) _ _ 30 30 rfl base 5 ib (.int .u8 0) 1 1 Tryz.underlying30 hib hb0 hb1 hb2 rfl (by decide) (.slice (some ⟨g2, 0, none⟩) 12 c2) 12 _ rfl Hr2.out (.slice (some ⟨V6.heap.size, 0, none⟩) 1 1) 1 _ rfl Hsrc.out (by unfold maxLen; omega) (by omega) (by simp; omega) ?_; intro v' V7 hown' hgrow hdr hob; have Hown := Lib.hid hown'; have Hgr := Lib.hid hgrow; clear hown' hgrow hdr hob)
                have hg2 := (RB.out.lt g2 rfl).1
                have hgx : ∀ g, (.slice (some ⟨g2, 0, none⟩) 12 c2 : Value).ownBlock = some g → g < w4.heap.size → none' g := fun g hg hlt => by
                  have h9 := HV3.out
                  rw [hbase] at h9
                  have h8 : g2 = g := by simpa [Value.ownBlock] using hg
                  omega
                have FV := Lib.hid ((FV.out.alloc _).grown Hgr.out hgx)
                clear hgx
                have hr9 : V7.ownsRow base 5 1 v' 13 (Lib.byteCells (bytesK ka ++ [0])) := by rw [show Lib.byteCells (bytesK ka ++ [0]) = Lib.byteCells (bytesK ka) ++ [.int .u8 0] from by simp [Lib.byteCells]]; exact Hown.out
                obtain ⟨g3, c3, rfl⟩ := Joins.ownsRow_form hr9 (by omega)
                obtain ⟨hc3, hc4⟩ := row_caps hr9
                have P9 := Lib.hid (BsIn.of_row hr9)
                clear hr9 hg2
                refine (reads_any (some ⟨g3, 0, none⟩) 13 c3 (bytesK ka ++ [0]) ⟨#[]⟩ _ (HL.out.later (F4.out.trans FV.out)) P9.out (by rw [List.length_append, bytesK_length]; rfl) (by omega) hc3 hc4 (by show (0 : Nat) ≤ 60; omega)).mono ?_
                rintro e V8 ⟨rfl, hf⟩
                have FV := Lib.hid (FV.out.trans hf)
                clear hf hbase hbV
                go_wp2_with fail
                refine ⟨?_, by simp [Go.RowKit.intOf]; have := Hlt.out; omega⟩
                first
                  | exact ⟨j + 1, by simp, by have := Hlt.out; omega, FV⟩
                  | ((repeat apply Exists.intro)
                     refine ⟨?_, rfl⟩
                     exact ⟨j + 1, by simp, by have := Hlt.out; omega, FV⟩)
                  | ((repeat apply Exists.intro)
                     refine ⟨?_, by repeat (first | exact rfl | refine And.intro rfl ?_)⟩
                     exact ⟨j + 1, by simp, by have := Hlt.out; omega, FV⟩)
              · have HTx := Lib.hid (rText_wrong ka hR)
                have HBy := Lib.hid (rBytes_wrong ka hR)
                simp only [keyV] at HTx HBy
                clear hR
                go_wp2_with fail
                refine (HTx.out _).mono ?_
                rintro e V2 ⟨rfl, hf⟩
                have FV := Lib.hid (FV.out.trans hf)
                have KB := Lib.hid (KB.out.fr0 (S := none') hf (fun h => h))
                have y0 := KB.out.cell (i := 0) (by omega)
                have y1 := KB.out.cell (i := 1) (by omega)
                have y2 := KB.out.cell (i := 2) (by omega)
                simp [nth3] at y0 y1 y2
                clear hf
                go_wp2_with fail
                refine (HBy.out _).mono ?_
                rintro e V3 ⟨rfl, hf⟩
                have FV := Lib.hid (FV.out.trans hf)
                clear hf y0 y1 y2
                go_wp2_with fail
                refine ⟨?_, by simp [Go.RowKit.intOf]; have := Hlt.out; omega⟩
                first
                  | exact ⟨j + 1, by simp, by have := Hlt.out; omega, FV⟩
                  | ((repeat apply Exists.intro)
                     refine ⟨?_, rfl⟩
                     exact ⟨j + 1, by simp, by have := Hlt.out; omega, FV⟩)
                  | ((repeat apply Exists.intro)
                     refine ⟨?_, by repeat (first | exact rfl | refine And.intro rfl ?_)⟩
                     exact ⟨j + 1, by simp, by have := Hlt.out; omega, FV⟩)
        · obtain rfl : j = m := by omega
          have d0 : decide ((j : Int) < (j : Int)) = false := decide_eq_false (by omega)
          have F5 := Lib.hid (F4.out.trans hf.out)
          clear hlt hj hf
          have kc := fun (C : Array Value) (n c : Nat) => Lib.run_convert_bytes_const (P := Tryz.prog) wr 30 5 C n c Tryz.underlying30 Tryz.underlying5
          go_wp2_with fail
          clear kc
          obtain ⟨X1, hX1⟩ : ∃ X, wr.heap.size = X := ⟨_, rfl⟩
          obtain ⟨V1, hV1⟩ : ∃ W, wr.alloc (.cells #[.int .u8 1, .int .u8 0, .int .u8 0, .int .u8 0, .int .u8 0, .int .u8 0, .int .u8 1, .int .u8 0, .int .u8 0, .int .u8 0, .int .u8 0, .int .u8 0] 5 (12, 13)) = W := ⟨_, rfl⟩
          have hv1 : V1.heap[X1]? = some (.cells #[.int .u8 1, .int .u8 0, .int .u8 0, .int .u8 0, .int .u8 0, .int .u8 0, .int .u8 1, .int .u8 0, .int .u8 0, .int .u8 0, .int .u8 0, .int .u8 0] 5 (12, 13)) := by rw [← hV1, ← hX1]; exact World.alloc_heap_new wr _
          have f1 : Fr0 none' wr V1 := by rw [← hV1]; exact (Fr0.refl _ _).alloc _
          have hz1 : X1 + 1 = V1.heap.size := by rw [← hV1, ← hX1]; simp
          rw [hV1, hX1, hz1]
          have kc := fun (C : Array Value) (n c : Nat) => Lib.run_convert_bytes_const (P := Tryz.prog) V1 30 5 C n c Tryz.underlying30 Tryz.underlying5
          clear hV1 hX1 hz1
          rw [kc]
          clear kc
          obtain ⟨X2, hX2⟩ : ∃ X, V1.heap.size = X := ⟨_, rfl⟩
          obtain ⟨V2, hV2⟩ : ∃ W, V1.alloc (.cells #[.int .u8 0, .int .u8 0, .int .u8 0, .int .u8 0, .int .u8 0, .int .u8 0, .int .u8 0, .int .u8 17, .int .u8 0, .int .u8 0, .int .u8 0, .int .u8 0] 5 (12, 13)) = W := ⟨_, rfl⟩
          have hv2 : V2.heap[X2]? = some (.cells #[.int .u8 0, .int .u8 0, .int .u8 0, .int .u8 0, .int .u8 0, .int .u8 0, .int .u8 0, .int .u8 17, .int .u8 0, .int .u8 0, .int .u8 0, .int .u8 0] 5 (12, 13)) := by rw [← hV2, ← hX2]; exact World.alloc_heap_new V1 _
          have f2 : Fr0 none' V1 V2 := by rw [← hV2]; exact (Fr0.refl _ _).alloc _
          rw [show (#[.int .u8 0, .int .u8 0, .int .u8 0, .int .u8 0, .int .u8 0, .int .u8 0, .int .u8 0, .int .u8 17, .int .u8 0, .int .u8 0, .int .u8 0, .int .u8 0] : Array Value).size = 12 from rfl, hV2, hX2]
          clear hV2 hX2
          go_wp2_with fail
          refine (Tryz.strings_Repeat ⟨#[255]⟩ 12 _ (by omega) (by decide)).mono ?_
          rintro e V3 ⟨rfl, hb⟩
          have f3 : Fr0 none' V2 V3 := below_to0 hb
          have hu8 := Lib.run_convert_string_bytes (P := Tryz.prog) V3 9 30 5 ⟨(Lib.repeatL [255] 12).toArray⟩ Tryz.underlying9 Tryz.underlying30 Tryz.underlying5
          clear hb
          go_wp2_with fail
          clear hu8
          obtain ⟨r, hr⟩ : ∃ r, Lib.repeatL [255] 12 = r := ⟨_, rfl⟩
          have hrl : r.length = 12 := by rw [← hr]; rfl
          rw [hr, hrl]
          obtain ⟨cp, hcp⟩ : ∃ c, grownCap V3 12 0 5 = c := ⟨_, rfl⟩
          have hcp1 : 12 ≤ cp := by rw [← hcp]; exact grownCap_ge _ _ _ _
          have hcp2 : cp ≤ maxLen := by rw [← hcp]; exact grownCap_le_maxLen _ _ _ _ (by unfold maxLen; omega)
          rw [hcp]
          have f4 := fr_conv V3 ⟨r.toArray⟩
          have g4 := bsin_conv V3 r
          obtain ⟨V4, hV4⟩ : ∃ W, Lib.bytesWorld V3 5 ⟨r.toArray⟩ = W := ⟨_, rfl⟩
          rw [hV4] at f4 g4
          rw [hV4]
          obtain ⟨X3, hX3⟩ : ∃ X, V3.heap.size = X := ⟨_, rfl⟩
          rw [hX3] at g4
          rw [hX3]
          obtain ⟨C, hC⟩ : ∃ C : Array Value, #[.slice none 0 0, .slice (some ⟨X1, 0, none⟩) 12 12, .slice (some ⟨X2, 0, none⟩) 12 12, .slice (some ⟨X3, 0, none⟩) 12 cp] = C := ⟨_, rfl⟩
          have g1 : BsIn V4 (some ⟨X1, 0, none⟩) [1, 0, 0, 0, 0, 0, 1, 0, 0, 0, 0, 0] := (((bsin_lit hv1 _ rfl).later f2).later f3).later f4
          have g2 : BsIn V4 (some ⟨X2, 0, none⟩) [0, 0, 0, 0, 0, 0, 0, 17, 0, 0, 0, 0] := ((bsin_lit hv2 _ rfl).later f3).later f4
          have hLd : Lends V4 C 4 := fun i hi => by
            rw [← hC]
            match i, hi with
            | 0, _ => exact ⟨_, _, _, [], rfl, rfl, by omega, Nat.le_refl _, Nat.zero_le _, bs_none _⟩
            | 1, _ => exact ⟨_, _, _, _, rfl, rfl, by decide, Nat.le_refl _, by decide, g1⟩
            | 2, _ => exact ⟨_, _, _, _, rfl, rfl, by decide, Nat.le_refl _, by decide, g2⟩
            | 3, _ => exact ⟨_, _, _, _, rfl, hrl, by decide, hcp1, hcp2, g4⟩
          rw [hC]
          obtain ⟨Y, hY⟩ : ∃ X, V4.heap.size = X := ⟨_, rfl⟩
          obtain ⟨V5, hV5⟩ : ∃ W, V4.alloc (.cells C 30) = W := ⟨_, rfl⟩
          have f5 : Fr0 none' V4 V5 := by rw [← hV5]; exact (Fr0.refl _ _).alloc _
          have HY := Lib.hid (show V5.heap[Y]? = some (.cells C 30 (0, 0)) by rw [← hV5, ← hY]; exact World.alloc_heap_new V4 _)
          have HLd := Lib.hid hLd
          have F5 := Lib.hid (show Fr0 none' w V5 from F5.out.trans (f1.trans (f2.trans (f3.trans (f4.trans f5)))))
          have FV5 := Lib.hid f5
          rw [hV5]
          try rw [hY]
          clear hV5 hY hC hLd g1 g2 g4 f1 f2 f3 f4 f5 hv1 hv2 hX3 hV4 hcp hcp1 hcp2 hr hrl
          go_loopw [19, 129] (fun _ c wr => ∃ k : Nat, c = .int .i64 k ∧ k ≤ 4 ∧ Hid (Fr0 none' V5 wr)) (fun _ c _ => 4 - (Go.RowKit.intOf c).toNat)
          case atStart => exact ⟨0, rfl, Nat.zero_le _, Fr0.refl _ _⟩
          case round =>
            obtain ⟨k, rfl, hk, hf⟩ := hrel
            by_cases hlt : k < 4
            · have d0 : decide ((k : Int) < 4) = true := decide_eq_true (by omega)
              have d0n : decide (k < 4) = true := decide_eq_true hlt
              have e5 : IntKind.i64.wrap ((k : Int) + 1) = (k : Int) + 1 := IntWalk.i64_in _ (by omega)
              have b1 : (0 : Int) ≤ (k : Int) := by omega
              have b2 : (k : Int) < 4 := by omega
              obtain ⟨a9, m9, c9, l9, hc9, hl9, h40, h1, h2, hb9⟩ := HLd.out k hlt
              have y0 : wr.cell? ⟨Y, k, none⟩ = some (.slice a9 m9 c9) := by
                have h1 := (hf.out.block Y (Array.getElem?_eq_some_iff.1 HY.out).1 id).trans HY.out
                simp [World.cell?, h1, hc9]
              have HRd := Lib.hid (reads_any a9 m9 c9 l9 ⟨#[57, 64, 57, 35, 57, 57, 57, 57, 57, 57, 57, 57, 57, 57, 57, 57, 57, 57, 57, 57, 57, 57, 57, 57]⟩ wr (HL.out.later (F5.out.trans hf.out)) (hb9.later (FV5.out.trans hf.out)) hl9 h40 h1 h2 (by decide))
              have Hk := Lib.hid hlt
              clear hlt hk hc9 hl9 h40 h1 h2 hb9
              go_wp2_with fail
              refine HRd.out.mono ?_
              rintro e V6 ⟨rfl, hf2⟩
              have F6 := Lib.hid (hf.out.trans hf2)
              clear hf2 hf y0
              go_wp2_with fail
              refine ⟨?_, by simp [Go.RowKit.intOf]; have := Hk.out; omega⟩
              first
                | exact ⟨k + 1, by simp, by have := Hk.out; omega, F6⟩
                | ((repeat apply Exists.intro)
                   refine ⟨?_, rfl⟩
                   exact ⟨k + 1, by simp, by have := Hk.out; omega, F6⟩)
                | ((repeat apply Exists.intro)
                   refine ⟨?_, by repeat (first | exact rfl | refine And.intro rfl ?_)⟩
                   exact ⟨k + 1, by simp, by have := Hk.out; omega, F6⟩)
            · obtain rfl : k = 4 := by omega
              rw [show ((4 : Nat) : Int) = (4 : Int) from rfl]
              have F6 := Lib.hid (F5.out.trans hf.out)
              clear hlt hk hf
              go_wp2_with fail
              obtain ⟨Fb, hFb⟩ : ∃ b, wr.heap.size = b := ⟨_, rfl⟩
              obtain ⟨V7, hV7⟩ : ∃ W, wr.alloc (.cells #[.int .i64 0, .int .i64 0, .int .i64 0, .int .i64 1, .int .i64 0, .int .i64 0, .int .i64 0, .int .i64 1, .int .i64 0, .int .i64 0, .int .i64 0, .int .i64 1, .int .i64 1, .int .i64 0, .int .i64 9] 28) = W := ⟨_, rfl⟩
              have PF := Lib.hid (show KsIn V7 (some ⟨Fb, 0, none⟩) [⟨0, 0, 0⟩, ⟨1, 0, 0⟩, ⟨0, 1, 0⟩, ⟨0, 0, 1⟩, ⟨1, 0, 9⟩] by rw [← hV7, ← hFb]; exact KsIn.of_cells (n := 5) (World.alloc_heap_new wr _) rfl rfl)
              have F7 := Lib.hid (show Fr0 none' w V7 by rw [← hV7]; exact F6.out.alloc _)
              obtain ⟨FL, hFL⟩ : ∃ L : List Key3, [⟨0, 0, 0⟩, ⟨1, 0, 0⟩, ⟨0, 1, 0⟩, ⟨0, 0, 1⟩, ⟨1, 0, 9⟩] = L := ⟨_, rfl⟩
              have HFl := Lib.hid (show FL.length = 5 by rw [← hFL]; rfl)
              rw [hFL] at PF
              rw [hV7]
              try rw [hFb]
              clear hV7 hFb hFL
              go_loopw [21, 22, 23, 24, 143] (fun _ _ _ _ c wr => ∃ k : Nat, c = .int .i64 k ∧ k ≤ 1296 ∧ Hid (Fr0 none' V7 wr)) (fun _ _ _ _ c _ => 1296 - (Go.RowKit.intOf c).toNat)
              case atStart => exact ⟨0, rfl, Nat.zero_le _, Fr0.refl _ _⟩
              case round =>
                obtain ⟨k, rfl, hk, hf⟩ := hrel
                by_cases hlt : k < 1296
                · have d0 : decide ((k : Int) < 1296) = true := decide_eq_true (by omega)
                  have d0n : decide (k < 1296) = true := decide_eq_true hlt
                  have e5 : IntKind.i64.wrap ((k : Int) + 1) = (k : Int) + 1 := IntWalk.i64_in _ (by omega)
                  have Hk := Lib.hid hlt
                  clear hlt hk
                  go_wp2_with fail
                  obtain ⟨W9, hW9⟩ : ∃ W, wr = W := ⟨_, rfl⟩
                  rw [hW9] at hf ⊢
                  obtain ⟨N9, hN9⟩ : ∃ N, W9.heap.size = N := ⟨_, rfl⟩
                  have HN9 := Lib.hid hN9
                  have F9 := Lib.hid hf.out
                  clear hW9 hN9 hf
                  go_loopw [22, 23, 24] (fun v c d wr => ∃ (i n : Nat) (M : List Key3), c = .int .i64 i ∧ d = .int .i64 n ∧ i ≤ 4 ∧ n ≤ 1296 ∧ Hid (wr.ownsRow N9 28 3 v M.length (flatKy M)) ∧ Hid (M.length ≤ i) ∧ Hid (Fr0 none' W9 wr)) (fun _ c _ _ => 4 - (Go.RowKit.intOf c).toNat)
                  case atStart => exact ⟨0, k, [], rfl, rfl, Nat.zero_le _, by have := Hk.out; omega, World.ownsRow_nil _ _ _ _, Nat.zero_le _, Fr0.refl _ _⟩
                  case round =>
                    obtain ⟨i, n, M, rfl, rfl, hi, hn, hr, hm, hf⟩ := hrel
                    by_cases hlt : i < 4
                    · have d0 : decide ((i : Int) < 4) = true := decide_eq_true (by omega)
                      have d0n : decide (i < 4) = true := decide_eq_true hlt
                      have e5 : IntKind.i64.wrap ((i : Int) + 1) = (i : Int) + 1 := IntWalk.i64_in _ (by omega)
                      obtain ⟨q, hq⟩ : ∃ q, n % 6 = q := ⟨_, rfl⟩
                      obtain ⟨p, hp⟩ : ∃ p, n / 6 = p := ⟨_, rfl⟩
                      have hq6 : q < 6 := by rw [← hq]; exact Nat.mod_lt _ (by omega)
                      have z1 : (n : Int).tmod 6 = (q : Int) := by rw [Int.tmod_eq_emod_of_nonneg (by omega), ← hq]; push_cast; rfl
                      have z2 : (n : Int) % 6 = (q : Int) := by rw [← hq]; push_cast; rfl
                      have z3 : (n : Int).tdiv 6 = (p : Int) := by rw [Int.tdiv_eq_ediv_of_nonneg (by omega), ← hp]; push_cast; rfl
                      have z4 : (n : Int) / 6 = (p : Int) := by rw [← hp]; push_cast; rfl
                      have z5 : IntKind.i64.wrap (q : Int) = (q : Int) := IntWalk.i64_in _ (by omega)
                      have z6 : IntKind.i64.wrap (p : Int) = (p : Int) := IntWalk.i64_in _ (by omega)
                      have Hp := Lib.hid (show p ≤ 1296 by omega)
                      have Hi := Lib.hid hlt
                      clear hq hp hlt hi hn
                      by_cases hq5 : q < 5
                      · have d1 : decide ((q : Int) < 5) = true := decide_eq_true (by omega)
                        have d1n : decide (q < 5) = true := decide_eq_true hq5
                        have b1 : (0 : Int) ≤ (q : Int) := by omega
                        have b2 : (q : Int) < 5 := by omega
                        obtain ⟨g', o', e', hx⟩ := PF.out.at (i := q) (by rw [HFl.out]; exact hq5)
                        cases e'
                        obtain ⟨kb, hkb⟩ : ∃ x, kat FL q = x := ⟨_, rfl⟩
                        rw [hkb, Nat.zero_add] at hx
                        obtain ⟨y0, y1, y2⟩ := hx.later (F9.out.trans hf.out)
                        have hsrc := Lib.hid (Src.newRow (P := Tryz.prog) (size := 3) (tx := 49) (ty := 28) wr Tryz.underlying49 1 1 [.int .i64 kb.time, .int .i64 kb.source, .int .i64 kb.seq] rfl (by simp [Value.oneCell']))
                        have hsz3 := hf.out.size
                        have HR3 := Lib.hid (ownsRow_q_fr hr.out ((Fr0.refl none' wr).alloc (.cells #[.int .i64 kb.time, .int .i64 kb.source, .int .i64 kb.seq] 28)) (fun _ _ h => h))
                        have HR0 := Lib.hid (fun g hg => (HR3.out.lt g hg).1)
                        have hmx : M.length ≤ 300 := by have h1 := hm.out; have h2 := Hi.out; omega
                        have hNw : N9 ≤ wr.heap.size := by rw [← HN9.out]; exact hsz3
                        clear hkb hx hq6 hq5
                        go_wp2_with (at_builtin; refine wpList_append_k rfl _ _ 49 49 rfl N9 28 i0 (.agg #[.int .i64 0, .int .i64 0, .int .i64 0]) 3 24 Tryz.underlying49 hi0 hz0 hz1 hz2 rfl (by decide) u22 M.length _ rfl HR3.out (.slice (some ⟨wr.heap.size, 0, none⟩) 1 1) 1 _ rfl hsrc.out (by unfold maxLen; omega) (by omega) (by simp; omega) ?_; intro v' w3 hown' hgrow hdr hob; have Hown := Lib.hid hown'; have Hgr := Lib.hid hgrow; clear hown' hgrow hdr hob)
                        have FE := Lib.hid ((hf.out.alloc _).grown Hgr.out (fun g hg hl2 => by have h1 := HR0.out g hg; have h2 := HN9.out; omega))
                        have HMl := Lib.hid (show (M ++ [kb]).length ≤ i + 1 by rw [List.length_append]; have := hm.out; simp; omega)
                        have HOw := Lib.hid (show w3.ownsRow N9 28 3 v' (M ++ [kb]).length (flatKy (M ++ [kb])) by rw [flatKy_snoc, List.length_append]; exact Hown.out)
                        refine ⟨?_, by simp [Go.RowKit.intOf]; have := Hi.out; omega⟩
                        first
                          | exact ⟨i + 1, p, M ++ [kb], by simp, rfl, by have := Hi.out; omega, Hp.out, HOw, HMl, FE⟩
                          | ((repeat apply Exists.intro)
                             refine ⟨?_, rfl⟩
                             exact ⟨i + 1, p, M ++ [kb], by simp, rfl, by have := Hi.out; omega, Hp.out, HOw, HMl, FE⟩)
                          | ((repeat apply Exists.intro)
                             refine ⟨?_, by repeat (first | exact rfl | refine And.intro rfl ?_)⟩
                             exact ⟨i + 1, p, M ++ [kb], by simp, rfl, by have := Hi.out; omega, Hp.out, HOw, HMl, FE⟩)
                      · have d1 : decide ((q : Int) < 5) = false := decide_eq_false (by omega)
                        have d1n : decide (q < 5) = false := decide_eq_false hq5
                        clear hq6 hq5
                        go_wp2_with fail
                        have HMl := Lib.hid (show M.length ≤ i + 1 by have := hm.out; omega)
                        refine ⟨?_, by simp [Go.RowKit.intOf]; have := Hi.out; omega⟩
                        first
                          | exact ⟨i + 1, p, M, by simp, rfl, by have := Hi.out; omega, Hp.out, hr, HMl, hf⟩
                          | ((repeat apply Exists.intro)
                             refine ⟨?_, rfl⟩
                             exact ⟨i + 1, p, M, by simp, rfl, by have := Hi.out; omega, Hp.out, hr, HMl, hf⟩)
                          | ((repeat apply Exists.intro)
                             refine ⟨?_, by repeat (first | exact rfl | refine And.intro rfl ?_)⟩
                             exact ⟨i + 1, p, M, by simp, rfl, by have := Hi.out; omega, Hp.out, hr, HMl, hf⟩)
                    · obtain rfl : i = 4 := by omega
                      rw [show ((4 : Nat) : Int) = (4 : Int) from rfl]
                      obtain ⟨a9, c9, rfl, hkM⟩ := KsAt.of_own hr.out rfl
                      obtain ⟨m9, hm9⟩ : ∃ m, M.length = m := ⟨_, rfl⟩
                      rw [hm9] at hm
                      rw [hm9]
                      have Hm9 := Lib.hid hm9
                      have Hm4 := Lib.hid (show m9 ≤ 4 from hm.out)
                      have PM9 := Lib.hid hkM
                      have HF := Lib.hid (F9.out.trans hf.out)
                      obtain ⟨q, hq⟩ : ∃ q, k % 5 = q := ⟨_, rfl⟩
                      have hq5 : q < 5 := by rw [← hq]; exact Nat.mod_lt _ (by omega)
                      have z1 : (k : Int).tmod 5 = (q : Int) := by rw [Int.tmod_eq_emod_of_nonneg (by omega), ← hq]; push_cast; rfl
                      have z2 : (k : Int) % 5 = (q : Int) := by rw [← hq]; push_cast; rfl
                      have z5 : IntKind.i64.wrap (q : Int) = (q : Int) := IntWalk.i64_in _ (by omega)
                      have b1 : (0 : Int) ≤ (q : Int) := by omega
                      have b2 : (q : Int) < 5 := by omega
                      obtain ⟨g', o', e', hx⟩ := PF.out.at (i := q) (by rw [HFl.out]; exact hq5)
                      cases e'
                      obtain ⟨kb, hkb⟩ : ∃ x, kat FL q = x := ⟨_, rfl⟩
                      rw [hkb, Nat.zero_add] at hx
                      obtain ⟨y0, y1, y2⟩ := hx.later HF.out
                      have HLs := Lib.hid (lists_any M kb a9 m9 c9 wr PM9.out Hm9.out (by have := Hm4.out; omega))
                      simp only [keyV] at HLs
                      clear hm9 hm hkM hf hr hq hq5 hkb hx hlt hi hn
                      go_wp2_with fail
                      trace_state
                      refine HLs.out.mono ?_
                      rintro e V8 ⟨rfl, hf⟩
                      have F8 := Lib.hid (HF.out.trans hf)
                      clear hf y0 y1 y2 z1 z2 z5 b1 b2
                      go_wp2_with fail
                      refine ⟨?_, by simp [Go.RowKit.intOf]; have := Hk.out; omega⟩
                      first
                        | exact ⟨k + 1, by simp, by have := Hk.out; omega, F8⟩
                        | ((repeat apply Exists.intro)
                           refine ⟨?_, rfl⟩
                           exact ⟨k + 1, by simp, by have := Hk.out; omega, F8⟩)
                        | ((repeat apply Exists.intro)
                           refine ⟨?_, by repeat (first | exact rfl | refine And.intro rfl ?_)⟩
                           exact ⟨k + 1, by simp, by have := Hk.out; omega, F8⟩)
                · obtain rfl : k = 1296 := by omega
                  rw [show ((1296 : Nat) : Int) = (1296 : Int) from rfl]
                  have F8 := Lib.hid (F7.out.trans hf.out)
                  clear hlt hk hf
                  go_wp2_with fail
                  refine (awake_any _ (HL.out.later F8.out)).mono ?_
                  rintro e V8 ⟨rfl, hf⟩
                  have F9 := Lib.hid (F8.out.trans hf)
                  clear hf
                  go_wp2_with fail
                  go_ret
                  exact ⟨rfl, F9.out⟩
end Go.Proofs.YtpklgpdlkdlbbaaGreatDoor

namespace Go.Proofs.YtpklgpdlkdlbbaaGreatDoor.keySmall
open Go Go.ChangeShapes Go.WideShapes Go.ChangeAt Go.RowKit Go.Proofs.YtpklgpdlkdlbbaaGreatDoor

set_option maxRecDepth 100000 in
theorem lifted (os : Os) (started : os.Started) (H : Type) (enc : TypeId × Value → H) :
    ReturnsInHanded {} Tryz.checked os 4 .any (fun w args => (Rows.keySmallSpec.pre enc Tryz.prog Tryz.f4 Rows.keySmallRow.domain false w args ∧ laidMet Tryz.prog laidK w) ∧ sizedMet enc Tryz.prog Tryz.f4 (OpenSpec.ofChange Rows.keySmallSpec) false w args)
      (Rows.keySmallSpec.post enc Tryz.prog Tryz.f4 false true false false) := by
  refine returnsInHanded_of_change_and (C := Tryz.checked) (X := fun w _ => laidMet Tryz.prog laidK w) (fun _ _ _ hh h => h.of_heap hh) own_knob started (by kernel_rfl) Tryz.func4
    (ChangeSpec.witness_at (enc := enc) (C := Tryz.checked) (os := os) (X := fun w _ => laidMet Tryz.prog laidK w) false (laidWorld os) #[] 8 rfl (by kernel_rfl) (by kernel_rfl) (by kernel_rfl) (by kernel_rfl) (by kernel_rfl) (laidWorld_met os _)) ?_
  intro W base args ds gs before hval0 hW _ hsz0 hL _
  have hval : ∀ (j : Nat) t v, Tryz.f4.params[j]? = some t → args[j]? = some v → Value.okWide Tryz.prog W .any base t v := hval0
  have hW' := hW
  obtain ⟨p, q, hA0, hV, rfl, hfz, hnd⟩ := hW
  have hA : DataW.TrodAll enc Tryz.prog W 0 (fun _ => true) true Tryz.f4.params.toList args.toList ds p := hA0
  rw [Tryz.params4] at hA hval
  obtain ⟨hargs, rfl, rfl⟩ := trodAll_nil hA
  obtain rfl : args = #[] := by cases args; simp_all
  obtain ⟨rfl, rfl⟩ := trodVars_none hV
  clear hA0 hval0
  simp only [List.append_nil] at hW'
  refine (KeySmall_any W (laid7_of hL)).mono fun e W' ⟨he, hg0⟩ => ?_
  have hg := hg0.below (Nat.le_refl _) (fun _ _ h => h)
  subst he
  exact ⟨_, rfl, post_belowK (pa := []) (pv := []) hW' (fun _ _ _ => (trodAll_cons_mk (shut_bool Tryz.underlying4 _) trodAll_mk0)) trodAll_mk0 (fun _ _ => rfl) hg⟩

theorem over : Rows.keySmallRow.holds Tryz.pinned (OpenSpec.ofChange Rows.keySmallSpec) :=
  OpenClaim.holds_of_wide 4 Tryz.f4 rfl rfl rfl rfl rfl rfl rfl ⟨rfl, rfl, rfl, rfl, rfl⟩ rfl rfl rfl rfl rfl (by kernel_rfl) Tryz.func4 (by kernel_rfl)
    (of_decide_eq_true (by kernel_rfl)) (by unfold Func.isWrapper; first | (rw [if_pos (by decide +kernel)]; kernel_rfl) | (rw [if_neg (by decide +kernel)]; exact ⟨rfl, rfl⟩))
    (fun os started H enc _ => lifted os started H enc)

theorem proved : Rows.KeySmallCardSaid :=
  Claim7.holds_tied_plain_at .later [] [.data, .data, .data, .sentinel, .sentinel] true _ true
    over (fun _ h => by cases h) (by kernel_rfl) (fun _ h => by cases h) keySmall_row_tie rfl ⟨rfl, rfl⟩ (by kernel_rfl) rfl
    (fun f fn hf hfn => by
      obtain rfl : f = 4 := Option.some.inj ((show Tryz.prog.funcNamed "fermata/fermatalaw07.KeySmall" = some 4 by kernel_rfl).symm.trans hf) |>.symm
      obtain rfl : fn = Tryz.f4 := (Option.some.inj (Tryz.func4.symm.trans hfn)).symm
      exact ⟨by kernel_rfl, fun j t ht => by
        rw [Tryz.params4] at ht
        simp at ht⟩)
    (by kernel_rfl)
#print axioms proved
end Go.Proofs.YtpklgpdlkdlbbaaGreatDoor.keySmall
