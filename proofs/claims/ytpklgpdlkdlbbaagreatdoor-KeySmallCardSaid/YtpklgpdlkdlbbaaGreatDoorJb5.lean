/-
  Keys: what each function of the package does, and what the laws make of it.
-/
import Derived.Test.YtpklgpdlkdlbbaaGreatDoorJb4
import Derived.Test.YtpklgpdlkdlbbaaGreatDoorShelf
import Derived.Test.YtpklgpdlkdlbbaaGreatDoorJb2
import Derived.Lib.Bytealg
import Derived.Lib.BytesEntry
import Derived.Lib.UnsafeStr
set_option linter.unusedSimpArgs false
set_option linter.unusedVariables false

/-
  The reference's Search.
-/
namespace Go.Proofs.YtpklgpdlkdlbbaaGreatDoor
open Go Go.RowKit
attribute [local go_sem ↓] Go.wp_at_zero Go.wp_at_succ
attribute [local go_sem] Oper.semAt_some wide_fn wide_depth wide_fnR wide_depthR
attribute [local go_sem high] run_neq_k run_eql_k

theorem cnt_take {L : List Key3} {j : Nat} (x : Key3) (hj : j < L.length) : cntK (L.take (j + 1)) x = cntK (L.take j) x + (if cmpK (kat L j) x < 0 then 1 else 0) := by
  unfold cntK
  rw [List.take_add_one, kat_get hj, List.countP_append]
  simp
theorem mem_take {L : List Key3} {j : Nat} (x : Key3) (hj : j < L.length) : x ∈ L.take (j + 1) ↔ x ∈ L.take j ∨ kat L j = x := by
  rw [List.take_add_one, kat_get hj, List.mem_append]
  simp [eq_comm]
theorem inc_take {L : List Key3} {j : Nat} (hI : Inc (L.take j)) (hj : j < L.length) (h : j = 0 ∨ cmpK (kat L (j - 1)) (kat L j) < 0) : Inc (L.take (j + 1)) := by
  rw [List.take_add_one, kat_get hj]
  refine List.pairwise_append.2 ⟨hI, List.pairwise_singleton _ _, fun y hy z hz => ?_⟩
  have hz := Option.mem_toList.1 hz
  cases hz
  obtain ⟨t, ht, e⟩ := List.getElem_of_mem hy
  have htj : t < j := by rw [List.length_take] at ht; omega
  rcases h with rfl | h
  · omega
  · have hk : ∀ u, u < j → ∀ (hu : u < (L.take j).length), (L.take j)[u] = kat L u := fun u huj hu => by
      rw [List.getElem_take]
      have := kat_get (L := L) (i := u) (by omega)
      rw [List.getElem?_eq_getElem (by omega)] at this
      exact Option.some.inj this
    by_cases e2 : t = j - 1
    · subst e2
      rw [← e, hk _ htj ht]
      exact h
    · have hl : j - 1 < (L.take j).length := by rw [List.length_take]; omega
      have h2 := List.pairwise_iff_getElem.1 hI t (j - 1) ht hl (by omega)
      rw [hk _ (by omega) hl] at h2
      rw [← e]
      exact cmpK_trans _ _ _ h2 h
theorem not_inc {L : List Key3} {j : Nat} (hj : j < L.length) (h0 : 0 < j) (h : ¬ cmpK (kat L (j - 1)) (kat L j) < 0) : ¬ Inc L := fun hI => h (by
  have h2 := List.pairwise_iff_getElem.1 hI (j - 1) j (by omega) hj (by omega)
  have k1 := kat_get (L := L) (i := j - 1) (by omega)
  have k2 := kat_get hj
  rw [List.getElem?_eq_getElem (by omega)] at k1
  rw [List.getElem?_eq_getElem hj] at k2
  rw [Option.some.inj k1, Option.some.inj k2] at h2
  exact h2)
set_option maxRecDepth 100000 in
set_option maxHeartbeats 8000000 in
theorem rSearch_any (L : List Key3) (x : Key3) (a : Option Addr) (n cap : Nat) (w : World) (hP : KsIn w a L) (hl : L.length = n) (hn : n < 1000) :
    Calls Tryz.prog 58 #[.slice a n cap, keyV x] w fun e w' => e = .returned (searchV L x) ∧ Fr0 none' w w' := by
  have HP := Lib.hid hP
  have Hl := Lib.hid hl
  have Hn := Lib.hid hn
  clear hP hl hn
  simp only [keyV]
  go_enter Tryz.func58, Tryz.ntmps58
  go_wp2_with fail
  obtain ⟨B, hB⟩ : ∃ B, w.heap.size = B := ⟨_, rfl⟩
  obtain ⟨W1, hW1⟩ : ∃ W, w.alloc (.cells #[.int .i64 x.time, .int .i64 x.source, .int .i64 x.seq] 28) = W := ⟨_, rfl⟩
  have hB1 : W1.heap[B]? = some (.cells #[.int .i64 x.time, .int .i64 x.source, .int .i64 x.seq] 28 (0, 0)) := by rw [← hW1, ← hB]; exact World.alloc_heap_new w _
  have F1 := Lib.hid (show Fr0 none' w W1 by rw [← hW1]; exact (Fr0.refl _ _).alloc _)
  have HXx := Lib.hid (show KAt W1 B 0 x from ⟨by rw [cellsK_at hB1]; rfl, by rw [cellsK_at hB1]; rfl, by rw [cellsK_at hB1]; rfl⟩)
  have HBl := Lib.hid (show B < W1.heap.size from (Array.getElem?_eq_some_iff.1 hB1).1)
  rw [hW1, hB]
  clear hW1 hB hB1
  go_loopw [7, 8, 9] (fun v u c wr => ∃ (j : Nat) (D : Bool), c = .int .i64 j ∧ j ≤ n ∧ v = .int .i64 (cntK (L.take j) x : Nat) ∧ u = .bool D ∧ Hid (D = decide (x ∈ L.take j)) ∧ Hid (Inc (L.take j)) ∧ Hid (Fr0 none' W1 wr)) (fun _ _ c _ => n - (Go.RowKit.intOf c).toNat)
  case atStart => exact ⟨0, false, rfl, Nat.zero_le _, rfl, rfl, by unfold Hid; simp, by unfold Hid; simp [Inc], Fr0.refl _ _⟩
  case round =>
    obtain ⟨j, D, rfl, hj, rfl, rfl, hD, hI, hf⟩ := hrel
    by_cases hlt : j < n
    · have d0 : decide ((j : Int) < (n : Int)) = true := decide_eq_true (by omega)
      have b1 : (0 : Int) ≤ (j : Int) := by omega
      have b2 : (j : Int) < (n : Int) := by omega
      obtain ⟨g, og, rfl, hx⟩ := HP.out.at (i := j) (by rw [Hl.out]; exact hlt)
      obtain ⟨kp, hkp⟩ : ∃ k, kat L j = k := ⟨_, rfl⟩
      rw [hkp] at hx
      have HXp := Lib.hid (hx.later (F1.out.trans hf.out))
      have Hkp := Lib.hid hkp
      have Hlt := Lib.hid hlt
      clear hx hkp
      go_wp2_with fail
      by_cases hs : 0 < j ∧ ¬ cmpK (kat L (j - 1)) kp < 0
      · obtain ⟨hj0, hs⟩ := hs
        have HN := Lib.hid (not_inc (L := L) (by rw [Hl.out]; exact hlt) hj0 (by rw [Hkp.out]; exact hs))
        obtain ⟨jm, hjm⟩ : ∃ jm, jm + 1 = j := ⟨j - 1, by omega⟩
        obtain ⟨g', og', e', hy⟩ := HP.out.at (i := jm) (by rw [Hl.out]; omega)
        cases e'
        obtain ⟨kz, hkz⟩ : ∃ k, kat L jm = k := ⟨_, rfl⟩
        rw [hkz] at hy
        rw [show j - 1 = jm by omega, hkz] at hs
        have HXz := Lib.hid (hy.later (F1.out.trans hf.out))
        have HLs := Lib.hid (rLess_any kz kp)
        simp only [keyV] at HLs
        rw [decide_eq_false hs] at HLs
        have e6 : IntKind.i64.wrap ((j : Int) - 1) = (jm : Int) := by rw [IntWalk.i64_in _ (by have := Hn.out; omega)]; omega
        have b5 : (0 : Int) ≤ (jm : Int) := by omega
        have b6 : (jm : Int) < (n : Int) := by omega
        have z1 : decide ((j : Int) > 0) = true := decide_eq_true (by omega)
        have z2 : decide (0 < j) = true := decide_eq_true hj0
        clear hy hkz hs hjm hj0
        refine wp_region_held_drew (S := fun W' => Fr0 none' wr W') (by kernel_rfl) ((Fr0.refl none' wr).drew) (fun hHeld => ?_)
        refine take_on (i := 0) (v := .int .i64 (j : Int)) rfl (by kernel_rfl) (by kernel_rfl) (by kernel_rfl) (fun _ _ _ h => h) (by kernel_rfl) (fun W' hSW => ?_) (by assumption) ?_
        · clear hSW
          first | (go_simp; done) | exact rfl | (go_simp; rfl) | (go_simp; omega)
        try simp only [Act.put, List.setIfInBounds_toArray, List.set_cons_zero, List.set_cons_succ]
        refine take_on (i := 1) (v := .bool true) rfl (by kernel_rfl) (by kernel_rfl) (by kernel_rfl) (fun _ _ _ h => h) (by kernel_rfl) (fun W' hSW => ?_) (by assumption) ?_
        · clear hSW
          first | (go_simp; done) | exact rfl | (go_simp; rfl) | (go_simp; omega)
        try simp only [Act.put, List.setIfInBounds_toArray, List.set_cons_zero, List.set_cons_succ]
        refine take_on (i := 2) (v := .bool true) rfl (by kernel_rfl) (by kernel_rfl) (by kernel_rfl) (fun _ _ _ h => h) (by kernel_rfl) (fun W' hSW => ?_) (by assumption) ?_
        · clear hSW
          first | (go_simp; done) | exact rfl | (go_simp; rfl) | (go_simp; omega)
        try simp only [Act.put, List.setIfInBounds_toArray, List.set_cons_zero, List.set_cons_succ]
        refine take_on (i := 3) (v := .slice (some ⟨g, og, none⟩) n cap) rfl (by kernel_rfl) (by kernel_rfl) (by kernel_rfl) (fun _ _ _ h => h) (by kernel_rfl) (fun W' hSW => ?_) (by assumption) ?_
        · clear hSW
          first | (go_simp; done) | exact rfl | (go_simp; rfl) | (go_simp; omega)
        try simp only [Act.put, List.setIfInBounds_toArray, List.set_cons_zero, List.set_cons_succ]
        refine take_on (i := 4) (v := .int .i64 (j : Int)) rfl (by kernel_rfl) (by kernel_rfl) (by kernel_rfl) (fun _ _ _ h => h) (by kernel_rfl) (fun W' hSW => ?_) (by assumption) ?_
        · clear hSW
          first | (go_simp; done) | exact rfl | (go_simp; rfl) | (go_simp; omega)
        try simp only [Act.put, List.setIfInBounds_toArray, List.set_cons_zero, List.set_cons_succ]
        refine take_on (i := 5) (v := .int .i64 (jm : Int)) rfl (by kernel_rfl) (by kernel_rfl) (by kernel_rfl) (fun _ _ _ h => h) (by kernel_rfl) (fun W' hSW => ?_) (by assumption) ?_
        · clear hSW
          first | (go_simp; done) | exact rfl | (go_simp; rfl) | (go_simp; omega)
        try simp only [Act.put, List.setIfInBounds_toArray, List.set_cons_zero, List.set_cons_succ]
        refine take_on (i := 6) (v := .pointer (some ⟨g, og + jm * 3, none⟩)) rfl (by kernel_rfl) (by kernel_rfl) (by kernel_rfl) (fun _ _ _ h => h) (by kernel_rfl) (fun W' hSW => ?_) (by assumption) ?_
        · clear hSW
          first | (go_simp; done) | exact rfl | (go_simp; rfl) | (go_simp; omega)
        try simp only [Act.put, List.setIfInBounds_toArray, List.set_cons_zero, List.set_cons_succ]
        refine take_on (i := 7) (v := .agg #[.int .i64 (kz : Key3).time, .int .i64 (kz : Key3).source, .int .i64 (kz : Key3).seq]) rfl (by kernel_rfl) (by kernel_rfl) (by kernel_rfl) (fun _ _ _ h => h) (by kernel_rfl) (fun W' hSW => ?_) (by assumption) ?_
        · obtain ⟨x0, x1, x2⟩ := HXz.out.later hSW
          clear hSW
          first | (go_simp; done) | exact rfl | (go_simp; rfl) | (go_simp; omega)
        try simp only [Act.put, List.setIfInBounds_toArray, List.set_cons_zero, List.set_cons_succ]
        refine take_on (i := 8) (v := .slice (some ⟨g, og, none⟩) n cap) rfl (by kernel_rfl) (by kernel_rfl) (by kernel_rfl) (fun _ _ _ h => h) (by kernel_rfl) (fun W' hSW => ?_) (by assumption) ?_
        · clear hSW
          first | (go_simp; done) | exact rfl | (go_simp; rfl) | (go_simp; omega)
        try simp only [Act.put, List.setIfInBounds_toArray, List.set_cons_zero, List.set_cons_succ]
        refine take_on (i := 9) (v := .int .i64 (j : Int)) rfl (by kernel_rfl) (by kernel_rfl) (by kernel_rfl) (fun _ _ _ h => h) (by kernel_rfl) (fun W' hSW => ?_) (by assumption) ?_
        · clear hSW
          first | (go_simp; done) | exact rfl | (go_simp; rfl) | (go_simp; omega)
        try simp only [Act.put, List.setIfInBounds_toArray, List.set_cons_zero, List.set_cons_succ]
        refine take_on (i := 10) (v := .pointer (some ⟨g, og + j * 3, none⟩)) rfl (by kernel_rfl) (by kernel_rfl) (by kernel_rfl) (fun _ _ _ h => h) (by kernel_rfl) (fun W' hSW => ?_) (by assumption) ?_
        · clear hSW
          first | (go_simp; done) | exact rfl | (go_simp; rfl) | (go_simp; omega)
        try simp only [Act.put, List.setIfInBounds_toArray, List.set_cons_zero, List.set_cons_succ]
        refine take_on (i := 11) (v := .agg #[.int .i64 (kp : Key3).time, .int .i64 (kp : Key3).source, .int .i64 (kp : Key3).seq]) rfl (by kernel_rfl) (by kernel_rfl) (by kernel_rfl) (fun _ _ _ h => h) (by kernel_rfl) (fun W' hSW => ?_) (by assumption) ?_
        · obtain ⟨x0, x1, x2⟩ := HXp.out.later hSW
          clear hSW
          first | (go_simp; done) | exact rfl | (go_simp; rfl) | (go_simp; omega)
        try simp only [Act.put, List.setIfInBounds_toArray, List.set_cons_zero, List.set_cons_succ]
        refine take_call (i := 12) rfl (by kernel_rfl) (by kernel_rfl) (fun K' hK => ?_)
        go_simp
        refine (HLs.out _).mono ?_
        rintro e W12 ⟨rfl, hf4⟩
        have hS4 := hHeld.trans hf4
        clear hf4 hHeld
        go_wp2_with fail
        refine hK.out _ _ hS4 (fun hHeld => ?_)
        clear hK K' hS4
        have H12 := Lib.hid hHeld
        try simp only [Act.put, List.setIfInBounds_toArray, List.set_cons_zero, List.set_cons_succ]
        refine take_on (i := 13) (v := .bool true) rfl (by kernel_rfl) (by kernel_rfl) (by kernel_rfl) (fun _ _ _ h => h) (by kernel_rfl) (fun W' hSW => ?_) (by assumption) ?_
        · clear hSW
          first | (go_simp; done) | exact rfl | (go_simp; rfl) | (go_simp; omega)
        try simp only [Act.put, List.setIfInBounds_toArray, List.set_cons_zero, List.set_cons_succ]
        refine take_on (i := 14) (v := .bool true) rfl (by kernel_rfl) (by kernel_rfl) (by kernel_rfl) (fun _ _ _ h => h) (by kernel_rfl) (fun W' hSW => ?_) (by assumption) ?_
        · clear hSW
          first | (go_simp; done) | exact rfl | (go_simp; rfl) | (go_simp; omega)
        try simp only [Act.put, List.setIfInBounds_toArray, List.set_cons_zero, List.set_cons_succ]
        refine wpAnyH_done (by kernel_rfl) ?_ _
        have FF := Lib.hid ((F1.out.trans hf.out).trans H12.out)
        clear hHeld z1 z2
        go_wp2_with fail
        refine bodyPost_ret (v := .tuple #[.int .i64 0, .bool false, .int .i64 73]) (by simp [results, Tryz.results58, go_sem]) rfl ⟨?_, FF.out⟩
        unfold searchV
        rw [if_neg HN.out]
      · have hor : j = 0 ∨ cmpK (kat L (j - 1)) (kat L j) < 0 := by
          rw [Hkp.out]
          by_cases h0 : j = 0
          · exact .inl h0
          · by_cases h1 : cmpK (kat L (j - 1)) kp < 0
            · exact .inr h1
            · exact absurd ⟨by omega, h1⟩ hs
        have HI2 := Lib.hid (inc_take hI.out (by rw [Hl.out]; exact hlt) hor)
        clear hor
        have Hs := Lib.hid hs
        clear hs
        refine viaT (T := Nat → Value) (fun us W => Fr0 none' wr W) (fun us => [(16, us 0), (17, us 1), (18, us 2), (19, us 3), (20, us 4), (21, us 5), (22, us 6), (23, us 7), (24, us 8), (25, us 9), (26, us 10), (27, us 11), (28, us 12), (29, us 13), (30, .bool false)]) (fun us W hF => ?_) (fun hT => ?_)
        · simp only [List.foldl, Act.put, List.setIfInBounds_toArray, List.set_cons_zero, List.set_cons_succ]
          have HFW := Lib.hid (hf.out.trans hF)
          have HXp7 := Lib.hid (HXp.out.later hF)
          have HXx7 := Lib.hid (HXx.out.later HFW.out)
          have HLs := Lib.hid (rLess_any kp x)
          simp only [keyV] at HLs
          have Hcn := Lib.hid (cnt_take x (j := j) (L := L) (by rw [Hl.out]; exact hlt))
          rw [Hkp.out] at Hcn
          have Hcl := Lib.hid (show cntK (L.take j) x ≤ j from Nat.le_trans List.countP_le_length (by rw [List.length_take]; omega))
          obtain ⟨E, hE⟩ : ∃ E, sameK kp x = E := ⟨_, rfl⟩
          have HE := Lib.hid (show sameK ⟨kp.time, kp.source, kp.seq⟩ ⟨x.time, x.source, x.seq⟩ = E from hE)
          have HE2 := Lib.hid (show E = decide (kp = x) from hE.symm)
          clear hF hE
          go_wp2_with fail
          by_cases h1 : cmpK kp x < 0
          · rw [if_pos h1] at Hcn
            rw [decide_eq_true h1] at HLs
            clear h1
            refine wp_region_held_drew (S := fun W' => Fr0 none' W W') (by kernel_rfl) ((Fr0.refl none' W).drew) (fun hHeld => ?_)
            refine take_on (i := 0) (v := .slice (some ⟨g, og, none⟩) n cap) rfl (by kernel_rfl) (by kernel_rfl) (by kernel_rfl) (fun _ _ _ h => h) (by kernel_rfl) (fun W' hSW => ?_) (by assumption) ?_
            · clear hSW
              first | (go_simp; done) | exact rfl | (go_simp; rfl) | (go_simp; omega)
            try simp only [Act.put, List.setIfInBounds_toArray, List.set_cons_zero, List.set_cons_succ]
            refine take_on (i := 1) (v := .int .i64 (j : Int)) rfl (by kernel_rfl) (by kernel_rfl) (by kernel_rfl) (fun _ _ _ h => h) (by kernel_rfl) (fun W' hSW => ?_) (by assumption) ?_
            · clear hSW
              first | (go_simp; done) | exact rfl | (go_simp; rfl) | (go_simp; omega)
            try simp only [Act.put, List.setIfInBounds_toArray, List.set_cons_zero, List.set_cons_succ]
            refine take_on (i := 2) (v := .pointer (some ⟨g, og + j * 3, none⟩)) rfl (by kernel_rfl) (by kernel_rfl) (by kernel_rfl) (fun _ _ _ h => h) (by kernel_rfl) (fun W' hSW => ?_) (by assumption) ?_
            · clear hSW
              first | (go_simp; done) | exact rfl | (go_simp; rfl) | (go_simp; omega)
            try simp only [Act.put, List.setIfInBounds_toArray, List.set_cons_zero, List.set_cons_succ]
            refine take_on (i := 3) (v := .agg #[.int .i64 (kp : Key3).time, .int .i64 (kp : Key3).source, .int .i64 (kp : Key3).seq]) rfl (by kernel_rfl) (by kernel_rfl) (by kernel_rfl) (fun _ _ _ h => h) (by kernel_rfl) (fun W' hSW => ?_) (by assumption) ?_
            · obtain ⟨x0, x1, x2⟩ := HXp7.out.later hSW
              clear hSW
              first | (go_simp; done) | exact rfl | (go_simp; rfl) | (go_simp; omega)
            try simp only [Act.put, List.setIfInBounds_toArray, List.set_cons_zero, List.set_cons_succ]
            refine take_on (i := 4) (v := .agg #[.int .i64 (x : Key3).time, .int .i64 (x : Key3).source, .int .i64 (x : Key3).seq]) rfl (by kernel_rfl) (by kernel_rfl) (by kernel_rfl) (fun _ _ _ h => h) (by kernel_rfl) (fun W' hSW => ?_) (by assumption) ?_
            · obtain ⟨x0, x1, x2⟩ := HXx7.out.later hSW
              clear hSW
              first | (go_simp; done) | exact rfl | (go_simp; rfl) | (go_simp; omega)
            try simp only [Act.put, List.setIfInBounds_toArray, List.set_cons_zero, List.set_cons_succ]
            refine take_call (i := 5) rfl (by kernel_rfl) (by kernel_rfl) (fun K' hK => ?_)
            go_simp
            refine (HLs.out _).mono ?_
            rintro e W5 ⟨rfl, hf4⟩
            have hS4 := hHeld.trans hf4
            clear hf4 hHeld
            go_wp2_with fail
            refine hK.out _ _ hS4 (fun hHeld => ?_)
            clear hK K' hS4
            have H5 := Lib.hid hHeld
            try simp only [Act.put, List.setIfInBounds_toArray, List.set_cons_zero, List.set_cons_succ]
            refine wpAnyH_done (by kernel_rfl) ?_ _
            have FV := Lib.hid (HFW.out.trans H5.out)
            have HXp9 := Lib.hid (HXp7.out.later H5.out)
            have HXx9 := Lib.hid (HXx7.out.later H5.out)
            have e5 : IntKind.i64.wrap ((j : Int) + 1) = (j : Int) + 1 := IntWalk.i64_in _ (by have := Hn.out; have := Hlt.out; omega)
            have e7 : IntKind.i64.wrap ((cntK (L.take j) x : Nat) + 1 : Int) = ((cntK (L.take j) x : Nat) : Int) + 1 := IntWalk.i64_in _ (by have := Hn.out; have := Hlt.out; have := Hcl.out; omega)
            clear hHeld
            go_wp2_with fail
            clear e7
            refine wp_region_held_drew (S := fun W' => Fr0 none' W5 W') (by kernel_rfl) ((Fr0.refl none' W5).drew) (fun hHeld => ?_)
            cases D
            · skip
              refine take_on (i := 0) (v := .bool false) rfl (by kernel_rfl) (by kernel_rfl) (by kernel_rfl) (fun _ _ _ h => h) (by kernel_rfl) (fun W' hSW => ?_) (by assumption) ?_
              · clear hSW
                first | (go_simp; done) | exact rfl | (go_simp; rfl) | (go_simp; omega)
              try simp only [Act.put, List.setIfInBounds_toArray, List.set_cons_zero, List.set_cons_succ]
              refine take_on (i := 1) (v := .bool false) rfl (by kernel_rfl) (by kernel_rfl) (by kernel_rfl) (fun _ _ _ h => h) (by kernel_rfl) (fun W' hSW => ?_) (by assumption) ?_
              · clear hSW
                first | (go_simp; done) | exact rfl | (go_simp; rfl) | (go_simp; omega)
              try simp only [Act.put, List.setIfInBounds_toArray, List.set_cons_zero, List.set_cons_succ]
              refine take_on (i := 2) (v := .slice (some ⟨g, og, none⟩) n cap) rfl (by kernel_rfl) (by kernel_rfl) (by kernel_rfl) (fun _ _ _ h => h) (by kernel_rfl) (fun W' hSW => ?_) (by assumption) ?_
              · clear hSW
                first | (go_simp; done) | exact rfl | (go_simp; rfl) | (go_simp; omega)
              try simp only [Act.put, List.setIfInBounds_toArray, List.set_cons_zero, List.set_cons_succ]
              refine take_on (i := 3) (v := .int .i64 (j : Int)) rfl (by kernel_rfl) (by kernel_rfl) (by kernel_rfl) (fun _ _ _ h => h) (by kernel_rfl) (fun W' hSW => ?_) (by assumption) ?_
              · clear hSW
                first | (go_simp; done) | exact rfl | (go_simp; rfl) | (go_simp; omega)
              try simp only [Act.put, List.setIfInBounds_toArray, List.set_cons_zero, List.set_cons_succ]
              refine take_on (i := 4) (v := .pointer (some ⟨g, og + j * 3, none⟩)) rfl (by kernel_rfl) (by kernel_rfl) (by kernel_rfl) (fun _ _ _ h => h) (by kernel_rfl) (fun W' hSW => ?_) (by assumption) ?_
              · clear hSW
                first | (go_simp; done) | exact rfl | (go_simp; rfl) | (go_simp; omega)
              try simp only [Act.put, List.setIfInBounds_toArray, List.set_cons_zero, List.set_cons_succ]
              refine take_on (i := 5) (v := .agg #[.int .i64 (kp : Key3).time, .int .i64 (kp : Key3).source, .int .i64 (kp : Key3).seq]) rfl (by kernel_rfl) (by kernel_rfl) (by kernel_rfl) (fun _ _ _ h => h) (by kernel_rfl) (fun W' hSW => ?_) (by assumption) ?_
              · obtain ⟨x0, x1, x2⟩ := HXp9.out.later hSW
                clear hSW
                first | (go_simp; done) | exact rfl | (go_simp; rfl) | (go_simp; omega)
              try simp only [Act.put, List.setIfInBounds_toArray, List.set_cons_zero, List.set_cons_succ]
              refine take_on (i := 6) (v := .agg #[.int .i64 (x : Key3).time, .int .i64 (x : Key3).source, .int .i64 (x : Key3).seq]) rfl (by kernel_rfl) (by kernel_rfl) (by kernel_rfl) (fun _ _ _ h => h) (by kernel_rfl) (fun W' hSW => ?_) (by assumption) ?_
              · obtain ⟨x0, x1, x2⟩ := HXx9.out.later hSW
                clear hSW
                first | (go_simp; done) | exact rfl | (go_simp; rfl) | (go_simp; omega)
              try simp only [Act.put, List.setIfInBounds_toArray, List.set_cons_zero, List.set_cons_succ]
              have d7 := HE.out
              refine take_on (i := 7) (v := .bool E) rfl (by kernel_rfl) (by kernel_rfl) (by kernel_rfl) (fun _ _ _ h => h) (by kernel_rfl) (fun W' hSW => ?_) (by assumption) ?_
              · clear hSW
                first | (go_simp; done) | exact rfl | (go_simp; rfl) | (go_simp; omega)
              try simp only [Act.put, List.setIfInBounds_toArray, List.set_cons_zero, List.set_cons_succ]
              clear d7
              refine take_on (i := 8) (v := .bool E) rfl (by kernel_rfl) (by kernel_rfl) (by kernel_rfl) (fun _ _ _ h => h) (by kernel_rfl) (fun W' hSW => ?_) (by assumption) ?_
              · clear hSW
                first | (go_simp; done) | exact rfl | (go_simp; rfl) | (go_simp; omega)
              try simp only [Act.put, List.setIfInBounds_toArray, List.set_cons_zero, List.set_cons_succ]
              refine take_on (i := 9) (v := .bool E) rfl (by kernel_rfl) (by kernel_rfl) (by kernel_rfl) (fun _ _ _ h => h) (by kernel_rfl) (fun W' hSW => ?_) (by assumption) ?_
              · clear hSW
                first | (go_simp; done) | exact rfl | (go_simp; rfl) | (go_simp; omega)
              try simp only [Act.put, List.setIfInBounds_toArray, List.set_cons_zero, List.set_cons_succ]
              refine wpAnyH_done (by kernel_rfl) ?_ _
              have FZ := Lib.hid (FV.out.trans hHeld)
              clear hHeld
              go_wp2_with fail
              exact ⟨⟨j + 1, E, by simp, by have := Hlt.out; omega, by rw [Hcn.out]; simp, rfl, by unfold Hid; rw [HE2.out, decide_eq_decide]; rw [mem_take x (by rw [Hl.out]; exact Hlt.out), Hkp.out]; have := hD.out; simp at this; simp [this], HI2.out, FZ.out⟩, by simp [Go.RowKit.intOf]; have := Hlt.out; omega⟩
            · skip
              refine take_on (i := 0) (v := .bool true) rfl (by kernel_rfl) (by kernel_rfl) (by kernel_rfl) (fun _ _ _ h => h) (by kernel_rfl) (fun W' hSW => ?_) (by assumption) ?_
              · clear hSW
                first | (go_simp; done) | exact rfl | (go_simp; rfl) | (go_simp; omega)
              try simp only [Act.put, List.setIfInBounds_toArray, List.set_cons_zero, List.set_cons_succ]
              refine take_on (i := 1) (v := .bool true) rfl (by kernel_rfl) (by kernel_rfl) (by kernel_rfl) (fun _ _ _ h => h) (by kernel_rfl) (fun W' hSW => ?_) (by assumption) ?_
              · clear hSW
                first | (go_simp; done) | exact rfl | (go_simp; rfl) | (go_simp; omega)
              try simp only [Act.put, List.setIfInBounds_toArray, List.set_cons_zero, List.set_cons_succ]
              refine take_off (i := 2) rfl (by kernel_rfl) (by kernel_rfl) (by kernel_rfl) (fun _ _ _ h => h) (by kernel_rfl) (by assumption) ?_
              try simp only [Act.put, List.setIfInBounds_toArray, List.set_cons_zero, List.set_cons_succ]
              refine take_off (i := 3) rfl (by kernel_rfl) (by kernel_rfl) (by kernel_rfl) (fun _ _ _ h => h) (by kernel_rfl) (by assumption) ?_
              try simp only [Act.put, List.setIfInBounds_toArray, List.set_cons_zero, List.set_cons_succ]
              refine take_off (i := 4) rfl (by kernel_rfl) (by kernel_rfl) (by kernel_rfl) (fun _ _ _ h => h) (by kernel_rfl) (by assumption) ?_
              try simp only [Act.put, List.setIfInBounds_toArray, List.set_cons_zero, List.set_cons_succ]
              refine take_off (i := 5) rfl (by kernel_rfl) (by kernel_rfl) (by kernel_rfl) (fun _ _ _ h => h) (by kernel_rfl) (by assumption) ?_
              try simp only [Act.put, List.setIfInBounds_toArray, List.set_cons_zero, List.set_cons_succ]
              refine take_off (i := 6) rfl (by kernel_rfl) (by kernel_rfl) (by kernel_rfl) (fun _ _ _ h => h) (by kernel_rfl) (by assumption) ?_
              try simp only [Act.put, List.setIfInBounds_toArray, List.set_cons_zero, List.set_cons_succ]
              refine take_off (i := 7) rfl (by kernel_rfl) (by kernel_rfl) (by kernel_rfl) (fun _ _ _ h => h) (by kernel_rfl) (by assumption) ?_
              try simp only [Act.put, List.setIfInBounds_toArray, List.set_cons_zero, List.set_cons_succ]
              refine take_on (i := 8) (v := .bool true) rfl (by kernel_rfl) (by kernel_rfl) (by kernel_rfl) (fun _ _ _ h => h) (by kernel_rfl) (fun W' hSW => ?_) (by assumption) ?_
              · clear hSW
                first | (go_simp; done) | exact rfl | (go_simp; rfl) | (go_simp; omega)
              try simp only [Act.put, List.setIfInBounds_toArray, List.set_cons_zero, List.set_cons_succ]
              refine take_on (i := 9) (v := .bool true) rfl (by kernel_rfl) (by kernel_rfl) (by kernel_rfl) (fun _ _ _ h => h) (by kernel_rfl) (fun W' hSW => ?_) (by assumption) ?_
              · clear hSW
                first | (go_simp; done) | exact rfl | (go_simp; rfl) | (go_simp; omega)
              try simp only [Act.put, List.setIfInBounds_toArray, List.set_cons_zero, List.set_cons_succ]
              refine wpAnyH_done (by kernel_rfl) ?_ _
              have FZ := Lib.hid (FV.out.trans hHeld)
              clear hHeld
              go_wp2_with fail
              exact ⟨⟨j + 1, true, by simp, by have := Hlt.out; omega, by rw [Hcn.out]; simp, rfl, by unfold Hid; rw [eq_comm, decide_eq_true_iff, mem_take x (by rw [Hl.out]; exact Hlt.out)]; have := hD.out; simp at this; exact .inl this, HI2.out, FZ.out⟩, by simp [Go.RowKit.intOf]; have := Hlt.out; omega⟩
          · rw [if_neg h1] at Hcn
            rw [decide_eq_false h1] at HLs
            clear h1
            refine wp_region_held_drew (S := fun W' => Fr0 none' W W') (by kernel_rfl) ((Fr0.refl none' W).drew) (fun hHeld => ?_)
            refine take_on (i := 0) (v := .slice (some ⟨g, og, none⟩) n cap) rfl (by kernel_rfl) (by kernel_rfl) (by kernel_rfl) (fun _ _ _ h => h) (by kernel_rfl) (fun W' hSW => ?_) (by assumption) ?_
            · clear hSW
              first | (go_simp; done) | exact rfl | (go_simp; rfl) | (go_simp; omega)
            try simp only [Act.put, List.setIfInBounds_toArray, List.set_cons_zero, List.set_cons_succ]
            refine take_on (i := 1) (v := .int .i64 (j : Int)) rfl (by kernel_rfl) (by kernel_rfl) (by kernel_rfl) (fun _ _ _ h => h) (by kernel_rfl) (fun W' hSW => ?_) (by assumption) ?_
            · clear hSW
              first | (go_simp; done) | exact rfl | (go_simp; rfl) | (go_simp; omega)
            try simp only [Act.put, List.setIfInBounds_toArray, List.set_cons_zero, List.set_cons_succ]
            refine take_on (i := 2) (v := .pointer (some ⟨g, og + j * 3, none⟩)) rfl (by kernel_rfl) (by kernel_rfl) (by kernel_rfl) (fun _ _ _ h => h) (by kernel_rfl) (fun W' hSW => ?_) (by assumption) ?_
            · clear hSW
              first | (go_simp; done) | exact rfl | (go_simp; rfl) | (go_simp; omega)
            try simp only [Act.put, List.setIfInBounds_toArray, List.set_cons_zero, List.set_cons_succ]
            refine take_on (i := 3) (v := .agg #[.int .i64 (kp : Key3).time, .int .i64 (kp : Key3).source, .int .i64 (kp : Key3).seq]) rfl (by kernel_rfl) (by kernel_rfl) (by kernel_rfl) (fun _ _ _ h => h) (by kernel_rfl) (fun W' hSW => ?_) (by assumption) ?_
            · obtain ⟨x0, x1, x2⟩ := HXp7.out.later hSW
              clear hSW
              first | (go_simp; done) | exact rfl | (go_simp; rfl) | (go_simp; omega)
            try simp only [Act.put, List.setIfInBounds_toArray, List.set_cons_zero, List.set_cons_succ]
            refine take_on (i := 4) (v := .agg #[.int .i64 (x : Key3).time, .int .i64 (x : Key3).source, .int .i64 (x : Key3).seq]) rfl (by kernel_rfl) (by kernel_rfl) (by kernel_rfl) (fun _ _ _ h => h) (by kernel_rfl) (fun W' hSW => ?_) (by assumption) ?_
            · obtain ⟨x0, x1, x2⟩ := HXx7.out.later hSW
              clear hSW
              first | (go_simp; done) | exact rfl | (go_simp; rfl) | (go_simp; omega)
            try simp only [Act.put, List.setIfInBounds_toArray, List.set_cons_zero, List.set_cons_succ]
            refine take_call (i := 5) rfl (by kernel_rfl) (by kernel_rfl) (fun K' hK => ?_)
            go_simp
            refine (HLs.out _).mono ?_
            rintro e W5 ⟨rfl, hf4⟩
            have hS4 := hHeld.trans hf4
            clear hf4 hHeld
            go_wp2_with fail
            refine hK.out _ _ hS4 (fun hHeld => ?_)
            clear hK K' hS4
            have H5 := Lib.hid hHeld
            try simp only [Act.put, List.setIfInBounds_toArray, List.set_cons_zero, List.set_cons_succ]
            refine wpAnyH_done (by kernel_rfl) ?_ _
            have FV := Lib.hid (HFW.out.trans H5.out)
            have HXp9 := Lib.hid (HXp7.out.later H5.out)
            have HXx9 := Lib.hid (HXx7.out.later H5.out)
            have e5 : IntKind.i64.wrap ((j : Int) + 1) = (j : Int) + 1 := IntWalk.i64_in _ (by have := Hn.out; have := Hlt.out; omega)
            have e7 : IntKind.i64.wrap ((cntK (L.take j) x : Nat) + 1 : Int) = ((cntK (L.take j) x : Nat) : Int) + 1 := IntWalk.i64_in _ (by have := Hn.out; have := Hlt.out; have := Hcl.out; omega)
            clear hHeld
            go_wp2_with fail
            clear e7
            refine wp_region_held_drew (S := fun W' => Fr0 none' W5 W') (by kernel_rfl) ((Fr0.refl none' W5).drew) (fun hHeld => ?_)
            cases D
            · skip
              refine take_on (i := 0) (v := .bool false) rfl (by kernel_rfl) (by kernel_rfl) (by kernel_rfl) (fun _ _ _ h => h) (by kernel_rfl) (fun W' hSW => ?_) (by assumption) ?_
              · clear hSW
                first | (go_simp; done) | exact rfl | (go_simp; rfl) | (go_simp; omega)
              try simp only [Act.put, List.setIfInBounds_toArray, List.set_cons_zero, List.set_cons_succ]
              refine take_on (i := 1) (v := .bool false) rfl (by kernel_rfl) (by kernel_rfl) (by kernel_rfl) (fun _ _ _ h => h) (by kernel_rfl) (fun W' hSW => ?_) (by assumption) ?_
              · clear hSW
                first | (go_simp; done) | exact rfl | (go_simp; rfl) | (go_simp; omega)
              try simp only [Act.put, List.setIfInBounds_toArray, List.set_cons_zero, List.set_cons_succ]
              refine take_on (i := 2) (v := .slice (some ⟨g, og, none⟩) n cap) rfl (by kernel_rfl) (by kernel_rfl) (by kernel_rfl) (fun _ _ _ h => h) (by kernel_rfl) (fun W' hSW => ?_) (by assumption) ?_
              · clear hSW
                first | (go_simp; done) | exact rfl | (go_simp; rfl) | (go_simp; omega)
              try simp only [Act.put, List.setIfInBounds_toArray, List.set_cons_zero, List.set_cons_succ]
              refine take_on (i := 3) (v := .int .i64 (j : Int)) rfl (by kernel_rfl) (by kernel_rfl) (by kernel_rfl) (fun _ _ _ h => h) (by kernel_rfl) (fun W' hSW => ?_) (by assumption) ?_
              · clear hSW
                first | (go_simp; done) | exact rfl | (go_simp; rfl) | (go_simp; omega)
              try simp only [Act.put, List.setIfInBounds_toArray, List.set_cons_zero, List.set_cons_succ]
              refine take_on (i := 4) (v := .pointer (some ⟨g, og + j * 3, none⟩)) rfl (by kernel_rfl) (by kernel_rfl) (by kernel_rfl) (fun _ _ _ h => h) (by kernel_rfl) (fun W' hSW => ?_) (by assumption) ?_
              · clear hSW
                first | (go_simp; done) | exact rfl | (go_simp; rfl) | (go_simp; omega)
              try simp only [Act.put, List.setIfInBounds_toArray, List.set_cons_zero, List.set_cons_succ]
              refine take_on (i := 5) (v := .agg #[.int .i64 (kp : Key3).time, .int .i64 (kp : Key3).source, .int .i64 (kp : Key3).seq]) rfl (by kernel_rfl) (by kernel_rfl) (by kernel_rfl) (fun _ _ _ h => h) (by kernel_rfl) (fun W' hSW => ?_) (by assumption) ?_
              · obtain ⟨x0, x1, x2⟩ := HXp9.out.later hSW
                clear hSW
                first | (go_simp; done) | exact rfl | (go_simp; rfl) | (go_simp; omega)
              try simp only [Act.put, List.setIfInBounds_toArray, List.set_cons_zero, List.set_cons_succ]
              refine take_on (i := 6) (v := .agg #[.int .i64 (x : Key3).time, .int .i64 (x : Key3).source, .int .i64 (x : Key3).seq]) rfl (by kernel_rfl) (by kernel_rfl) (by kernel_rfl) (fun _ _ _ h => h) (by kernel_rfl) (fun W' hSW => ?_) (by assumption) ?_
              · obtain ⟨x0, x1, x2⟩ := HXx9.out.later hSW
                clear hSW
                first | (go_simp; done) | exact rfl | (go_simp; rfl) | (go_simp; omega)
              try simp only [Act.put, List.setIfInBounds_toArray, List.set_cons_zero, List.set_cons_succ]
              have d7 := HE.out
              refine take_on (i := 7) (v := .bool E) rfl (by kernel_rfl) (by kernel_rfl) (by kernel_rfl) (fun _ _ _ h => h) (by kernel_rfl) (fun W' hSW => ?_) (by assumption) ?_
              · clear hSW
                first | (go_simp; done) | exact rfl | (go_simp; rfl) | (go_simp; omega)
              try simp only [Act.put, List.setIfInBounds_toArray, List.set_cons_zero, List.set_cons_succ]
              clear d7
              refine take_on (i := 8) (v := .bool E) rfl (by kernel_rfl) (by kernel_rfl) (by kernel_rfl) (fun _ _ _ h => h) (by kernel_rfl) (fun W' hSW => ?_) (by assumption) ?_
              · clear hSW
                first | (go_simp; done) | exact rfl | (go_simp; rfl) | (go_simp; omega)
              try simp only [Act.put, List.setIfInBounds_toArray, List.set_cons_zero, List.set_cons_succ]
              refine take_on (i := 9) (v := .bool E) rfl (by kernel_rfl) (by kernel_rfl) (by kernel_rfl) (fun _ _ _ h => h) (by kernel_rfl) (fun W' hSW => ?_) (by assumption) ?_
              · clear hSW
                first | (go_simp; done) | exact rfl | (go_simp; rfl) | (go_simp; omega)
              try simp only [Act.put, List.setIfInBounds_toArray, List.set_cons_zero, List.set_cons_succ]
              refine wpAnyH_done (by kernel_rfl) ?_ _
              have FZ := Lib.hid (FV.out.trans hHeld)
              clear hHeld
              go_wp2_with fail
              exact ⟨⟨j + 1, E, by simp, by have := Hlt.out; omega, by rw [Hcn.out]; simp, rfl, by unfold Hid; rw [HE2.out, decide_eq_decide]; rw [mem_take x (by rw [Hl.out]; exact Hlt.out), Hkp.out]; have := hD.out; simp at this; simp [this], HI2.out, FZ.out⟩, by simp [Go.RowKit.intOf]; have := Hlt.out; omega⟩
            · skip
              refine take_on (i := 0) (v := .bool true) rfl (by kernel_rfl) (by kernel_rfl) (by kernel_rfl) (fun _ _ _ h => h) (by kernel_rfl) (fun W' hSW => ?_) (by assumption) ?_
              · clear hSW
                first | (go_simp; done) | exact rfl | (go_simp; rfl) | (go_simp; omega)
              try simp only [Act.put, List.setIfInBounds_toArray, List.set_cons_zero, List.set_cons_succ]
              refine take_on (i := 1) (v := .bool true) rfl (by kernel_rfl) (by kernel_rfl) (by kernel_rfl) (fun _ _ _ h => h) (by kernel_rfl) (fun W' hSW => ?_) (by assumption) ?_
              · clear hSW
                first | (go_simp; done) | exact rfl | (go_simp; rfl) | (go_simp; omega)
              try simp only [Act.put, List.setIfInBounds_toArray, List.set_cons_zero, List.set_cons_succ]
              refine take_off (i := 2) rfl (by kernel_rfl) (by kernel_rfl) (by kernel_rfl) (fun _ _ _ h => h) (by kernel_rfl) (by assumption) ?_
              try simp only [Act.put, List.setIfInBounds_toArray, List.set_cons_zero, List.set_cons_succ]
              refine take_off (i := 3) rfl (by kernel_rfl) (by kernel_rfl) (by kernel_rfl) (fun _ _ _ h => h) (by kernel_rfl) (by assumption) ?_
              try simp only [Act.put, List.setIfInBounds_toArray, List.set_cons_zero, List.set_cons_succ]
              refine take_off (i := 4) rfl (by kernel_rfl) (by kernel_rfl) (by kernel_rfl) (fun _ _ _ h => h) (by kernel_rfl) (by assumption) ?_
              try simp only [Act.put, List.setIfInBounds_toArray, List.set_cons_zero, List.set_cons_succ]
              refine take_off (i := 5) rfl (by kernel_rfl) (by kernel_rfl) (by kernel_rfl) (fun _ _ _ h => h) (by kernel_rfl) (by assumption) ?_
              try simp only [Act.put, List.setIfInBounds_toArray, List.set_cons_zero, List.set_cons_succ]
              refine take_off (i := 6) rfl (by kernel_rfl) (by kernel_rfl) (by kernel_rfl) (fun _ _ _ h => h) (by kernel_rfl) (by assumption) ?_
              try simp only [Act.put, List.setIfInBounds_toArray, List.set_cons_zero, List.set_cons_succ]
              refine take_off (i := 7) rfl (by kernel_rfl) (by kernel_rfl) (by kernel_rfl) (fun _ _ _ h => h) (by kernel_rfl) (by assumption) ?_
              try simp only [Act.put, List.setIfInBounds_toArray, List.set_cons_zero, List.set_cons_succ]
              refine take_on (i := 8) (v := .bool true) rfl (by kernel_rfl) (by kernel_rfl) (by kernel_rfl) (fun _ _ _ h => h) (by kernel_rfl) (fun W' hSW => ?_) (by assumption) ?_
              · clear hSW
                first | (go_simp; done) | exact rfl | (go_simp; rfl) | (go_simp; omega)
              try simp only [Act.put, List.setIfInBounds_toArray, List.set_cons_zero, List.set_cons_succ]
              refine take_on (i := 9) (v := .bool true) rfl (by kernel_rfl) (by kernel_rfl) (by kernel_rfl) (fun _ _ _ h => h) (by kernel_rfl) (fun W' hSW => ?_) (by assumption) ?_
              · clear hSW
                first | (go_simp; done) | exact rfl | (go_simp; rfl) | (go_simp; omega)
              try simp only [Act.put, List.setIfInBounds_toArray, List.set_cons_zero, List.set_cons_succ]
              refine wpAnyH_done (by kernel_rfl) ?_ _
              have FZ := Lib.hid (FV.out.trans hHeld)
              clear hHeld
              go_wp2_with fail
              exact ⟨⟨j + 1, true, by simp, by have := Hlt.out; omega, by rw [Hcn.out]; simp, rfl, by unfold Hid; rw [eq_comm, decide_eq_true_iff, mem_take x (by rw [Hl.out]; exact Hlt.out)]; have := hD.out; simp at this; exact .inl this, HI2.out, FZ.out⟩, by simp [Go.RowKit.intOf]; have := Hlt.out; omega⟩
        · simp only [List.foldl, Act.put, List.setIfInBounds_toArray, List.set_cons_zero, List.set_cons_succ] at hT
          have HT := Lib.hid hT
          clear hT
          by_cases h0 : j = 0
          · have z1 : decide ((j : Int) > 0) = false := decide_eq_false (by omega)
            have z2 : decide (0 < j) = false := decide_eq_false (by omega)
            clear h0
            refine wp_region_held_drew (S := fun W' => Fr0 none' wr W') (by kernel_rfl) ((Fr0.refl none' wr).drew) (fun hHeld => ?_)
            refine take_on (i := 0) (v := .int .i64 (j : Int)) rfl (by kernel_rfl) (by kernel_rfl) (by kernel_rfl) (fun _ _ _ h => h) (by kernel_rfl) (fun W' hSW => ?_) (by assumption) ?_
            · clear hSW
              first | (go_simp; done) | exact rfl | (go_simp; rfl) | (go_simp; omega)
            try simp only [Act.put, List.setIfInBounds_toArray, List.set_cons_zero, List.set_cons_succ]
            refine take_on (i := 1) (v := .bool false) rfl (by kernel_rfl) (by kernel_rfl) (by kernel_rfl) (fun _ _ _ h => h) (by kernel_rfl) (fun W' hSW => ?_) (by assumption) ?_
            · clear hSW
              first | (go_simp; done) | exact rfl | (go_simp; rfl) | (go_simp; omega)
            try simp only [Act.put, List.setIfInBounds_toArray, List.set_cons_zero, List.set_cons_succ]
            refine take_on (i := 2) (v := .bool false) rfl (by kernel_rfl) (by kernel_rfl) (by kernel_rfl) (fun _ _ _ h => h) (by kernel_rfl) (fun W' hSW => ?_) (by assumption) ?_
            · clear hSW
              first | (go_simp; done) | exact rfl | (go_simp; rfl) | (go_simp; omega)
            try simp only [Act.put, List.setIfInBounds_toArray, List.set_cons_zero, List.set_cons_succ]
            refine take_off (i := 3) rfl (by kernel_rfl) (by kernel_rfl) (by kernel_rfl) (fun _ _ _ h => h) (by kernel_rfl) (by assumption) ?_
            try simp only [Act.put, List.setIfInBounds_toArray, List.set_cons_zero, List.set_cons_succ]
            refine take_off (i := 4) rfl (by kernel_rfl) (by kernel_rfl) (by kernel_rfl) (fun _ _ _ h => h) (by kernel_rfl) (by assumption) ?_
            try simp only [Act.put, List.setIfInBounds_toArray, List.set_cons_zero, List.set_cons_succ]
            refine take_off (i := 5) rfl (by kernel_rfl) (by kernel_rfl) (by kernel_rfl) (fun _ _ _ h => h) (by kernel_rfl) (by assumption) ?_
            try simp only [Act.put, List.setIfInBounds_toArray, List.set_cons_zero, List.set_cons_succ]
            refine take_off (i := 6) rfl (by kernel_rfl) (by kernel_rfl) (by kernel_rfl) (fun _ _ _ h => h) (by kernel_rfl) (by assumption) ?_
            try simp only [Act.put, List.setIfInBounds_toArray, List.set_cons_zero, List.set_cons_succ]
            refine take_off (i := 7) rfl (by kernel_rfl) (by kernel_rfl) (by kernel_rfl) (fun _ _ _ h => h) (by kernel_rfl) (by assumption) ?_
            try simp only [Act.put, List.setIfInBounds_toArray, List.set_cons_zero, List.set_cons_succ]
            refine take_off (i := 8) rfl (by kernel_rfl) (by kernel_rfl) (by kernel_rfl) (fun _ _ _ h => h) (by kernel_rfl) (by assumption) ?_
            try simp only [Act.put, List.setIfInBounds_toArray, List.set_cons_zero, List.set_cons_succ]
            refine take_off (i := 9) rfl (by kernel_rfl) (by kernel_rfl) (by kernel_rfl) (fun _ _ _ h => h) (by kernel_rfl) (by assumption) ?_
            try simp only [Act.put, List.setIfInBounds_toArray, List.set_cons_zero, List.set_cons_succ]
            refine take_off (i := 10) rfl (by kernel_rfl) (by kernel_rfl) (by kernel_rfl) (fun _ _ _ h => h) (by kernel_rfl) (by assumption) ?_
            try simp only [Act.put, List.setIfInBounds_toArray, List.set_cons_zero, List.set_cons_succ]
            refine take_off (i := 11) rfl (by kernel_rfl) (by kernel_rfl) (by kernel_rfl) (fun _ _ _ h => h) (by kernel_rfl) (by assumption) ?_
            try simp only [Act.put, List.setIfInBounds_toArray, List.set_cons_zero, List.set_cons_succ]
            refine take_off (i := 12) rfl (by kernel_rfl) (by kernel_rfl) (by kernel_rfl) (fun _ _ _ h => h) (by kernel_rfl) (by assumption) ?_
            try simp only [Act.put, List.setIfInBounds_toArray, List.set_cons_zero, List.set_cons_succ]
            refine take_off (i := 13) rfl (by kernel_rfl) (by kernel_rfl) (by kernel_rfl) (fun _ _ _ h => h) (by kernel_rfl) (by assumption) ?_
            try simp only [Act.put, List.setIfInBounds_toArray, List.set_cons_zero, List.set_cons_succ]
            refine take_on (i := 14) (v := .bool false) rfl (by kernel_rfl) (by kernel_rfl) (by kernel_rfl) (fun _ _ _ h => h) (by kernel_rfl) (fun W' hSW => ?_) (by assumption) ?_
            · clear hSW
              first | (go_simp; done) | exact rfl | (go_simp; rfl) | (go_simp; omega)
            try simp only [Act.put, List.setIfInBounds_toArray, List.set_cons_zero, List.set_cons_succ]
            refine wpAnyH_done (by kernel_rfl) ?_ _
            exact HT.out (fun i => ([.int .i64 (j : Int), .bool false, .bool false, undef, undef, undef, undef, undef, undef, undef, undef, undef, undef, undef] : List Value).getD i undef) _ hHeld
          · have hs : cmpK (kat L (j - 1)) kp < 0 := by
              by_cases h1 : cmpK (kat L (j - 1)) kp < 0
              · exact h1
              · exact absurd ⟨by omega, h1⟩ Hs.out
            obtain ⟨jm, hjm⟩ : ∃ jm, jm + 1 = j := ⟨j - 1, by omega⟩
            obtain ⟨g', og', e', hy⟩ := HP.out.at (i := jm) (by rw [Hl.out]; omega)
            cases e'
            obtain ⟨kz, hkz⟩ : ∃ k, kat L jm = k := ⟨_, rfl⟩
            rw [hkz] at hy
            rw [show j - 1 = jm by omega, hkz] at hs
            have HXz := Lib.hid (hy.later (F1.out.trans hf.out))
            have HLs := Lib.hid (rLess_any kz kp)
            simp only [keyV] at HLs
            rw [decide_eq_true hs] at HLs
            have e6 : IntKind.i64.wrap ((j : Int) - 1) = (jm : Int) := by rw [IntWalk.i64_in _ (by have := Hn.out; omega)]; omega
            have b5 : (0 : Int) ≤ (jm : Int) := by omega
            have b6 : (jm : Int) < (n : Int) := by omega
            have z1 : decide ((j : Int) > 0) = true := decide_eq_true (by omega)
            have z2 : decide (0 < j) = true := decide_eq_true (by omega)
            clear hy hkz hs hjm h0
            refine wp_region_held_drew (S := fun W' => Fr0 none' wr W') (by kernel_rfl) ((Fr0.refl none' wr).drew) (fun hHeld => ?_)
            refine take_on (i := 0) (v := .int .i64 (j : Int)) rfl (by kernel_rfl) (by kernel_rfl) (by kernel_rfl) (fun _ _ _ h => h) (by kernel_rfl) (fun W' hSW => ?_) (by assumption) ?_
            · clear hSW
              first | (go_simp; done) | exact rfl | (go_simp; rfl) | (go_simp; omega)
            try simp only [Act.put, List.setIfInBounds_toArray, List.set_cons_zero, List.set_cons_succ]
            refine take_on (i := 1) (v := .bool true) rfl (by kernel_rfl) (by kernel_rfl) (by kernel_rfl) (fun _ _ _ h => h) (by kernel_rfl) (fun W' hSW => ?_) (by assumption) ?_
            · clear hSW
              first | (go_simp; done) | exact rfl | (go_simp; rfl) | (go_simp; omega)
            try simp only [Act.put, List.setIfInBounds_toArray, List.set_cons_zero, List.set_cons_succ]
            refine take_on (i := 2) (v := .bool true) rfl (by kernel_rfl) (by kernel_rfl) (by kernel_rfl) (fun _ _ _ h => h) (by kernel_rfl) (fun W' hSW => ?_) (by assumption) ?_
            · clear hSW
              first | (go_simp; done) | exact rfl | (go_simp; rfl) | (go_simp; omega)
            try simp only [Act.put, List.setIfInBounds_toArray, List.set_cons_zero, List.set_cons_succ]
            refine take_on (i := 3) (v := .slice (some ⟨g, og, none⟩) n cap) rfl (by kernel_rfl) (by kernel_rfl) (by kernel_rfl) (fun _ _ _ h => h) (by kernel_rfl) (fun W' hSW => ?_) (by assumption) ?_
            · clear hSW
              first | (go_simp; done) | exact rfl | (go_simp; rfl) | (go_simp; omega)
            try simp only [Act.put, List.setIfInBounds_toArray, List.set_cons_zero, List.set_cons_succ]
            refine take_on (i := 4) (v := .int .i64 (j : Int)) rfl (by kernel_rfl) (by kernel_rfl) (by kernel_rfl) (fun _ _ _ h => h) (by kernel_rfl) (fun W' hSW => ?_) (by assumption) ?_
            · clear hSW
              first | (go_simp; done) | exact rfl | (go_simp; rfl) | (go_simp; omega)
            try simp only [Act.put, List.setIfInBounds_toArray, List.set_cons_zero, List.set_cons_succ]
            refine take_on (i := 5) (v := .int .i64 (jm : Int)) rfl (by kernel_rfl) (by kernel_rfl) (by kernel_rfl) (fun _ _ _ h => h) (by kernel_rfl) (fun W' hSW => ?_) (by assumption) ?_
            · clear hSW
              first | (go_simp; done) | exact rfl | (go_simp; rfl) | (go_simp; omega)
            try simp only [Act.put, List.setIfInBounds_toArray, List.set_cons_zero, List.set_cons_succ]
            refine take_on (i := 6) (v := .pointer (some ⟨g, og + jm * 3, none⟩)) rfl (by kernel_rfl) (by kernel_rfl) (by kernel_rfl) (fun _ _ _ h => h) (by kernel_rfl) (fun W' hSW => ?_) (by assumption) ?_
            · clear hSW
              first | (go_simp; done) | exact rfl | (go_simp; rfl) | (go_simp; omega)
            try simp only [Act.put, List.setIfInBounds_toArray, List.set_cons_zero, List.set_cons_succ]
            refine take_on (i := 7) (v := .agg #[.int .i64 (kz : Key3).time, .int .i64 (kz : Key3).source, .int .i64 (kz : Key3).seq]) rfl (by kernel_rfl) (by kernel_rfl) (by kernel_rfl) (fun _ _ _ h => h) (by kernel_rfl) (fun W' hSW => ?_) (by assumption) ?_
            · obtain ⟨x0, x1, x2⟩ := HXz.out.later hSW
              clear hSW
              first | (go_simp; done) | exact rfl | (go_simp; rfl) | (go_simp; omega)
            try simp only [Act.put, List.setIfInBounds_toArray, List.set_cons_zero, List.set_cons_succ]
            refine take_on (i := 8) (v := .slice (some ⟨g, og, none⟩) n cap) rfl (by kernel_rfl) (by kernel_rfl) (by kernel_rfl) (fun _ _ _ h => h) (by kernel_rfl) (fun W' hSW => ?_) (by assumption) ?_
            · clear hSW
              first | (go_simp; done) | exact rfl | (go_simp; rfl) | (go_simp; omega)
            try simp only [Act.put, List.setIfInBounds_toArray, List.set_cons_zero, List.set_cons_succ]
            refine take_on (i := 9) (v := .int .i64 (j : Int)) rfl (by kernel_rfl) (by kernel_rfl) (by kernel_rfl) (fun _ _ _ h => h) (by kernel_rfl) (fun W' hSW => ?_) (by assumption) ?_
            · clear hSW
              first | (go_simp; done) | exact rfl | (go_simp; rfl) | (go_simp; omega)
            try simp only [Act.put, List.setIfInBounds_toArray, List.set_cons_zero, List.set_cons_succ]
            refine take_on (i := 10) (v := .pointer (some ⟨g, og + j * 3, none⟩)) rfl (by kernel_rfl) (by kernel_rfl) (by kernel_rfl) (fun _ _ _ h => h) (by kernel_rfl) (fun W' hSW => ?_) (by assumption) ?_
            · clear hSW
              first | (go_simp; done) | exact rfl | (go_simp; rfl) | (go_simp; omega)
            try simp only [Act.put, List.setIfInBounds_toArray, List.set_cons_zero, List.set_cons_succ]
            refine take_on (i := 11) (v := .agg #[.int .i64 (kp : Key3).time, .int .i64 (kp : Key3).source, .int .i64 (kp : Key3).seq]) rfl (by kernel_rfl) (by kernel_rfl) (by kernel_rfl) (fun _ _ _ h => h) (by kernel_rfl) (fun W' hSW => ?_) (by assumption) ?_
            · obtain ⟨x0, x1, x2⟩ := HXp.out.later hSW
              clear hSW
              first | (go_simp; done) | exact rfl | (go_simp; rfl) | (go_simp; omega)
            try simp only [Act.put, List.setIfInBounds_toArray, List.set_cons_zero, List.set_cons_succ]
            refine take_call (i := 12) rfl (by kernel_rfl) (by kernel_rfl) (fun K' hK => ?_)
            go_simp
            refine (HLs.out _).mono ?_
            rintro e W12 ⟨rfl, hf4⟩
            have hS4 := hHeld.trans hf4
            clear hf4 hHeld
            go_wp2_with fail
            refine hK.out _ _ hS4 (fun hHeld => ?_)
            clear hK K' hS4
            have H12 := Lib.hid hHeld
            try simp only [Act.put, List.setIfInBounds_toArray, List.set_cons_zero, List.set_cons_succ]
            refine take_on (i := 13) (v := .bool false) rfl (by kernel_rfl) (by kernel_rfl) (by kernel_rfl) (fun _ _ _ h => h) (by kernel_rfl) (fun W' hSW => ?_) (by assumption) ?_
            · clear hSW
              first | (go_simp; done) | exact rfl | (go_simp; rfl) | (go_simp; omega)
            try simp only [Act.put, List.setIfInBounds_toArray, List.set_cons_zero, List.set_cons_succ]
            refine take_on (i := 14) (v := .bool false) rfl (by kernel_rfl) (by kernel_rfl) (by kernel_rfl) (fun _ _ _ h => h) (by kernel_rfl) (fun W' hSW => ?_) (by assumption) ?_
            · clear hSW
              first | (go_simp; done) | exact rfl | (go_simp; rfl) | (go_simp; omega)
            try simp only [Act.put, List.setIfInBounds_toArray, List.set_cons_zero, List.set_cons_succ]
            refine wpAnyH_done (by kernel_rfl) ?_ _
            exact HT.out (fun i => ([.int .i64 (j : Int), .bool true, .bool true, .slice (some ⟨g, og, none⟩) n cap, .int .i64 (j : Int), .int .i64 (jm : Int), .pointer (some ⟨g, og + jm * 3, none⟩), .agg #[.int .i64 kz.time, .int .i64 kz.source, .int .i64 kz.seq], .slice (some ⟨g, og, none⟩) n cap, .int .i64 (j : Int), .pointer (some ⟨g, og + j * 3, none⟩), .agg #[.int .i64 kp.time, .int .i64 kp.source, .int .i64 kp.seq], .bool true, .bool false] : List Value).getD i undef) _ H12.out
    · obtain rfl : j = n := by omega
      have d0 : decide ((j : Int) < (j : Int)) = false := decide_eq_false (by omega)
      have hLt : L.take j = L := by rw [← Hl.out, List.take_length]
      have HLt := Lib.hid hLt
      clear hLt
      go_wp2_with fail
      refine bodyPost_ret (v := .tuple #[.int .i64 (cntK (L.take j) x : Nat), .bool D, .int .i64 0]) (by simp [results, Tryz.results58, go_sem]) rfl ⟨?_, F1.out.trans hf.out⟩
      rw [HLt.out] at hI hD
      unfold searchV
      rw [if_pos hI.out, HLt.out, hD.out]
end Go.Proofs.YtpklgpdlkdlbbaaGreatDoor

/-
  slices.Equal at two rows of places that are one list.
-/
namespace Go.Proofs.YtpklgpdlkdlbbaaGreatDoor
open Go Go.RowKit

theorem places_cell {w : World} {b R n rc : Nat} {o : List Nat} (h : w.ownsRow b 3 1 (.slice (some ⟨R, 0, none⟩) n rc) n (o.map fun i : Nat => Value.int .i64 (i : Int))) (j : Nat) (hj : j < (o.map Int.ofNat).length) : w.cell? ⟨R, 0 + j, none⟩ = some (.int .i64 ((o.map Int.ofNat).getD j 0)) := by
  rw [List.length_map] at hj
  have hc := h.cells (g := R) rfl j (.int .i64 ((o.map Int.ofNat).getD j 0)) (by
    rw [List.getElem?_map, List.getElem?_eq_getElem hj, List.getD_eq_getElem?_getD, List.getElem?_map, List.getElem?_eq_getElem hj]
    rfl)
  unfold Addr.add at hc
  split at hc
  · next h0 => subst h0; exact hc
  · exact hc
theorem sameI_any (R R' n rc rc' b b' : Nat) (o : List Nat) (w : World) (hl : o.length = n) (hn : n ≤ 1000000)
    (h : w.ownsRow b 3 1 (.slice (some ⟨R, 0, none⟩) n rc) n (o.map fun i : Nat => Value.int .i64 (i : Int)))
    (h' : w.ownsRow b' 3 1 (.slice (some ⟨R', 0, none⟩) n rc') n (o.map fun i : Nat => Value.int .i64 (i : Int))) :
    Calls Tryz.prog 28 #[.slice (some ⟨R, 0, none⟩) n rc, .slice (some ⟨R', 0, none⟩) n rc'] w fun e w' => e = .returned (.bool true) ∧ Fr0 none' w w' := by
  refine (Tryz.slices_Equal_int R 0 n rc R' 0 n rc' (o.map Int.ofNat) (o.map Int.ofNat) w (by rw [List.length_map, hl]; exact Nat.le_refl _) (by rw [List.length_map, hl]; exact Nat.le_refl _) (by omega) (by omega) (fun j hj => places_cell h j hj) (fun j hj => places_cell h' j hj)).mono ?_
  rintro e w' ⟨rfl, q, rfl⟩
  exact ⟨by simp, ((Fr.refl none' w).drewN q).to0⟩
end Go.Proofs.YtpklgpdlkdlbbaaGreatDoor

/-
  slices.Clone and key.Sort of a list of keys at any address.
-/
namespace Go.Proofs.YtpklgpdlkdlbbaaGreatDoor
open Go Go.RowKit
attribute [local go_sem ↓] Go.wp_at_zero Go.wp_at_succ
attribute [local go_sem] Oper.semAt_some wide_fn wide_depth wide_fnR wide_depthR

set_option maxRecDepth 100000 in
set_option maxHeartbeats 2000000 in
theorem Clone_zero (a : Option Addr) (cap : Nat) (w : World) :
    Calls Tryz.prog 57 #[.slice a 0 cap] w fun e w' => ∃ a' c', e = .returned (.slice a' 0 c') ∧ Fr0 none' w w' := by
  cases a with
  | none =>
    refine Calls.mono (AnyE.slices_Clone_nil Tryz.cloneK_f57 0 cap w) ?_
    rintro e w' ⟨rfl, rfl⟩
    exact ⟨_, _, rfl, Fr0.refl _ _⟩
  | some a =>
    obtain ⟨i0, hi0, hz0, hz1, hz2⟩ := info_parts info_key
    have q22 : ∀ (w : World) (a : Option Addr) (n c n' c' : Nat), (binOp .eql 49 (.slice a n c) (.slice none n' c')).run Tryz.prog w = .ok (.bool a.isNone) w := fun w a n c n' c' => Lib.run_eql_slice_nil w _ _ a n c n' c' Tryz.underlying49
    go_enter Tryz.func57, Tryz.ntmps57
    go_wp2_with (at_builtin; refine wpList_append_own _ rfl _ _ 49 rfl w.heap.size 28 i0 _ 3 24 Tryz.underlying49 hi0 hz0 hz1 hz2 rfl (by decide) _ _ _ rfl (World.ownsRow_made w #[] 0 (Nat.le_refl _) (Nat.zero_le _) (by simp)) a 0 cap [] rfl rfl (fun j u hj => by simp at hj) (fun u hu => by cases hu) (by unfold maxLen; omega) (by omega) (by simp) ?_)
    intro v' w1 hown hgrow _
    go_wp2
    go_ret
    have hown : w1.ownsRow w.heap.size 28 3 v' 0 [] := by simpa using hown
    have hf : Fr0 none' w w1 := ((Fr0.refl none' w).alloc _).grown hgrow (fun k hk hlt => by simp [Value.ownBlock] at hk; omega)
    rcases hown.2 with ⟨h0, _⟩ | ⟨g', cap', cur, h1, _⟩
    · subst h0; exact ⟨_, _, rfl, hf⟩
    · subst h1; exact ⟨_, _, rfl, hf⟩
set_option maxRecDepth 100000 in
set_option maxHeartbeats 2000000 in
theorem Compact_zero (a : Option Addr) (cap : Nat) (w : World) : Calls Tryz.prog 64 #[.slice a 0 cap] w fun e w' => e = .returned (.slice a 0 cap) ∧ w = w' := by
  go_enter Tryz.func64, Tryz.ntmps64
  go_wp2
  go_ret
  exact ⟨rfl, rfl⟩
set_option maxRecDepth 100000 in
set_option maxHeartbeats 2000000 in
theorem Sort_zero (a : Option Addr) (cap : Nat) (w : World) :
    Calls Tryz.prog 26 #[.slice a 0 cap] w fun e w' => ∃ a' c', e = .returned (.slice a' 0 c') ∧ Fr0 none' w w' := by
  go_enter Tryz.func26, Tryz.ntmps26
  go_wp2_with fail
  refine (Clone_zero a cap w).mono ?_
  rintro e w1 ⟨a1, c1, rfl, hf1⟩
  have F1 := Lib.hid hf1
  clear hf1
  go_wp2_with fail
  refine (sort_keys_nil _ _ _).mono ?_
  rintro e w2 ⟨rfl, hf2⟩
  have F2 := Lib.hid (F1.out.trans hf2)
  clear hf2
  go_wp2_with fail
  refine (Compact_zero _ _ _).mono ?_
  rintro e w3 ⟨rfl, rfl⟩
  go_wp2
  go_ret
  exact ⟨_, _, rfl, F2.out⟩
theorem KsIn.some_of {w : World} {a : Option Addr} {L : List Key3} (h : KsIn w a L) (h0 : 0 < L.length) : ∃ g o, a = some ⟨g, o, none⟩ := by
  obtain ⟨g, o, rfl, _⟩ := h 0 L[0] (List.getElem?_eq_getElem h0)
  exact ⟨g, o, rfl⟩
theorem ksIn_zero (w : World) (a : Option Addr) : KsIn w a [] := fun j x h => by simp at h
/-- Clone of a list of keys at any address. -/
theorem Clone_any {w : World} {a : Option Addr} {n cap : Nat} (L : List Key3) (h : KsIn w a L) (hl : L.length = n) (hn : n ≤ 1000) :
    Calls Tryz.prog 57 #[.slice a n cap] w fun e w' => ∃ a' c', e = .returned (.slice a' n c') ∧ KsIn w' a' L ∧ Fr0 none' w w' := by
  by_cases h0 : n = 0
  · subst h0
    have : L = [] := List.eq_nil_of_length_eq_zero hl
    subst this
    refine (Clone_zero a cap w).mono ?_
    rintro e w' ⟨a', c', rfl, hf⟩
    exact ⟨a', c', rfl, ksIn_zero _ _, hf⟩
  · obtain ⟨g, o, rfl⟩ := h.some_of (by omega)
    refine (Clone_keys L h hl hn).mono ?_
    rintro e w' ⟨v', rfl, hr, _, hf⟩
    obtain ⟨a', c', rfl, hk⟩ := KsAt.of_own hr hl
    rw [hl]
    exact ⟨a', c', rfl, hk, hf⟩
/-- Sort of a list of keys at any address. -/
theorem Sort_any {w : World} {a : Option Addr} {n cap : Nat} (L : List Key3) (h : KsIn w a L) (hl : L.length = n) (hn : n ≤ 1000) :
    Calls Tryz.prog 26 #[.slice a n cap] w fun e w' => ∃ a' c', e = .returned (.slice a' (ss L).length c') ∧ KsIn w' a' (ss L) ∧ (0 < (ss L).length → w'.ownsRow w.heap.size 28 3 (.slice a' (ss L).length c') (ss L).length (flatKy (ss L))) ∧ Fr0 none' w w' := by
  by_cases h0 : n = 0
  · subst h0
    have : L = [] := List.eq_nil_of_length_eq_zero hl
    subst this
    rw [show ss [] = [] from by unfold ss sortK; rw [List.mergeSort_nil]; rfl]
    refine (Sort_zero a cap w).mono ?_
    rintro e w' ⟨a', c', rfl, hf⟩
    exact ⟨a', c', rfl, ksIn_zero _ _, fun h => absurd h (Nat.lt_irrefl _), hf⟩
  · obtain ⟨g, o, rfl⟩ := h.some_of (by omega)
    refine (Sort_some L h hl hn).mono ?_
    rintro e w' ⟨v', rfl, hr, hf⟩
    obtain ⟨a', c', rfl, hk⟩ := KsAt.of_own hr rfl
    exact ⟨a', c', rfl, hk, fun _ => hr, hf⟩
end Go.Proofs.YtpklgpdlkdlbbaaGreatDoor

/-
  What the loop over an order makes (plain).
-/
namespace Go.Proofs.YtpklgpdlkdlbbaaGreatDoor
open Go Go.RowKit

theorem ss_same {a b : List Key3} (h : ∀ x, x ∈ a ↔ x ∈ b) : ss a = ss b := inc_ext (ss_inc a) (ss_inc b) (fun x => by rw [ss_mem, ss_mem]; exact h x)
/-- The rest of a row from a place on. -/
theorem KsIn.drop {w : World} {g o : Nat} {L : List Key3} (h : KsIn w (some ⟨g, o, none⟩) L) (d : Nat) : KsIn w (some ⟨g, o + d * 3, none⟩) (L.drop d) := fun i p hp => by
  rw [List.getElem?_drop] at hp
  obtain ⟨g', o', e, hc⟩ := h (d + i) p hp
  cases e
  refine ⟨g, o + d * 3, rfl, ?_⟩
  rw [show o + d * 3 + i * 3 = o + (d + i) * 3 by omega]
  exact hc
theorem KsIn.take {w : World} {a : Option Addr} {L : List Key3} (h : KsIn w a L) (d : Nat) : KsIn w a (L.take d) := fun i p hp => h i p (by
  have h1 := (List.getElem?_eq_some_iff.1 hp).1
  simp at h1
  rwa [List.getElem?_take_of_lt (by omega)] at hp)
/-- The keys that the loop has put into its row: each of the first j, once. -/
def MadeOk (K : List Key3) (o : List Nat) (j : Nat) (M : List Key3) : Prop := Inc M ∧ (∀ x, x ∈ M ↔ ∃ t p, t < j ∧ o[t]? = some p ∧ kat K p = x) ∧ M.length ≤ j
theorem mk_zero (K : List Key3) (o : List Nat) : MadeOk K o 0 [] := ⟨List.Pairwise.nil, fun x => by simp, Nat.le_refl _⟩
theorem ord_le {K : List Key3} {o : List Nat} (h : OrdOk K o) {t j p q : Nat} (htj : t < j) (ht : o[t]? = some p) (hj : o[j]? = some q) : cmpK (kat K p) (kat K q) ≤ 0 := by
  have h1 := List.pairwise_iff_getElem.1 h.asc t j (List.getElem?_eq_some_iff.1 ht).1 (List.getElem?_eq_some_iff.1 hj).1 htj
  rw [(List.getElem?_eq_some_iff.1 ht).2, (List.getElem?_eq_some_iff.1 hj).2] at h1
  unfold befI at h1
  omega
theorem ord_tie {K : List Key3} {o : List Nat} (h : OrdOk K o) {t j p q : Nat} (htj : t < j) (ht : o[t]? = some p) (hj : o[j]? = some q) (hc : cmpK (kat K p) (kat K q) = 0) : p < q := by
  have h1 := List.pairwise_iff_getElem.1 h.asc t j (List.getElem?_eq_some_iff.1 ht).1 (List.getElem?_eq_some_iff.1 hj).1 htj
  rw [(List.getElem?_eq_some_iff.1 ht).2, (List.getElem?_eq_some_iff.1 hj).2] at h1
  unfold befI at h1
  omega
theorem mk_add {K : List Key3} {o : List Nat} {j p : Nat} {M : List Key3} (h : OrdOk K o) (hM : MadeOk K o j M) (hp : o[j]? = some p) (hb : j = 0 ∨ ∃ q, o[j - 1]? = some q ∧ cmpK (kat K q) (kat K p) < 0) : MadeOk K o (j + 1) (M ++ [kat K p]) := by
  obtain ⟨h1, h2, h3⟩ := hM
  refine ⟨List.pairwise_append.2 ⟨h1, List.pairwise_singleton _ _, fun x hx y hy => ?_⟩, fun x => ?_, by simp; omega⟩
  · rw [List.mem_singleton] at hy
    subst hy
    obtain ⟨t, r, htj, hr, rfl⟩ := (h2 x).1 hx
    rcases hb with rfl | ⟨q, hq, hl⟩
    · omega
    · by_cases e : t = j - 1
      · subst e
        rw [hr] at hq
        cases hq
        exact hl
      · have h4 := ord_le h (show t < j - 1 by omega) hr hq
        by_cases e0 : cmpK (kat K r) (kat K q) = 0
        · rw [(cmpK_eq _ _).1 e0]; exact hl
        · exact cmpK_trans _ _ _ (by omega) hl
  · rw [List.mem_append, List.mem_singleton, h2 x]
    constructor
    · rintro (⟨t, r, ht, hr, e⟩ | rfl)
      · exact ⟨t, r, by omega, hr, e⟩
      · exact ⟨j, p, by omega, hp, rfl⟩
    · rintro ⟨t, r, ht, hr, e⟩
      by_cases htj : t = j
      · subst htj
        rw [hp] at hr
        cases hr
        exact .inr e.symm
      · exact .inl ⟨t, r, by omega, hr, e⟩
theorem mk_same {K : List Key3} {o : List Nat} {j p q : Nat} {M : List Key3} (hM : MadeOk K o j M) (hp : o[j]? = some p) (hj : 0 < j) (hq : o[j - 1]? = some q) (he : cmpK (kat K q) (kat K p) = 0) : MadeOk K o (j + 1) M := by
  obtain ⟨h1, h2, h3⟩ := hM
  have he := (cmpK_eq _ _).1 he
  refine ⟨h1, fun x => ?_, by omega⟩
  rw [h2 x]
  constructor
  · rintro ⟨t, r, ht, hr, e⟩
    exact ⟨t, r, by omega, hr, e⟩
  · rintro ⟨t, r, ht, hr, e⟩
    by_cases htj : t = j
    · subst htj
      rw [hp] at hr
      cases hr
      exact ⟨t - 1, q, by omega, hq, he.trans e⟩
    · exact ⟨t, r, by omega, hr, e⟩
theorem mk_end {K : List Key3} {o : List Nat} {m : Nat} {M : List Key3} (h : OrdOk K o) (hl : K.length = m) (hM : MadeOk K o m M) : M = ss K := inc_ext hM.1 (ss_inc K) (fun x => by
  rw [hM.2.1 x, ss_mem]
  constructor
  · rintro ⟨t, p, ht, hp, rfl⟩
    have hlt := h.lt p (List.mem_of_getElem? hp)
    exact List.mem_of_getElem? (kat_get hlt)
  · intro hx
    obtain ⟨p, hp, e⟩ := List.getElem_of_mem hx
    obtain ⟨t, ht, e2⟩ := List.getElem_of_mem (h.all p hp)
    have hk := kat_get hp
    rw [List.getElem?_eq_getElem hp] at hk
    injection hk with hk
    exact ⟨t, p, by rw [h.len, hl] at ht; exact ht, by rw [List.getElem?_eq_getElem ht, e2], by rw [← hk, e]⟩)
/-- The row of marks: no mark at a number that has not come. -/
def SeenOk (o : List Nat) (m j : Nat) (Z : List Value) : Prop := ∀ p, p < m → (∀ t, t < j → o[t]? ≠ some p) → Z[p]? = some (.int .i64 0)
theorem seen_zero (o : List Nat) (m : Nat) : SeenOk o m 0 (List.replicate m (.int .i64 0)) := fun p hp _ => by simp [hp]
theorem seen_set {o : List Nat} {m j p : Nat} {Z : List Value} (v : Value) (h : SeenOk o m j Z) (hp : o[j]? = some p) : SeenOk o m (j + 1) (Z.set p v) := fun r hr ht => by
  have hne : p ≠ r := fun e => ht j (by omega) (by rw [hp, e])
  rw [List.getElem?_set_ne hne]
  exact h r hr (fun t htj => ht t (by omega))
theorem seen_at {K : List Key3} {o : List Nat} {m j p : Nat} {Z : List Value} (hk : OrdOk K o) (h : SeenOk o m j Z) (hl : K.length = m) (hp : o[j]? = some p) : Z[p]? = some (.int .i64 0) := h p (by rw [← hl]; exact hk.lt p (List.mem_of_getElem? hp)) (fun t ht e => by
  have h1 := List.getElem?_eq_some_iff.1 hp
  have h2 := List.getElem?_eq_some_iff.1 e
  have := List.pairwise_iff_getElem.1 hk.nd t j h2.1 h1.1 ht
  exact this (by rw [h1.2, h2.2]))
end Go.Proofs.YtpklgpdlkdlbbaaGreatDoor

/-
  The reference's Sort.
-/
namespace Go.Proofs.YtpklgpdlkdlbbaaGreatDoor
open Go Go.RowKit
attribute [local go_sem ↓] Go.wp_at_zero Go.wp_at_succ
attribute [local go_sem] Oper.semAt_some wide_fn wide_depth wide_fnR wide_depthR
attribute [local go_sem high] run_neq_k run_eql_k

set_option maxRecDepth 100000 in
set_option maxHeartbeats 8000000 in
theorem rSort_any (L : List Key3) (o : List Nat) (a : Option Addr) (n cap : Nat) (w : World) (hO : OrdOk L o) (hP : KsIn w a L) (hl : L.length = n) (hn : n < 1000) :
    Calls Tryz.prog 60 #[.slice a n cap] w fun e w' => ∃ v, e = .returned v ∧ w'.ownsRow w.heap.size 28 3 v (ss L).length (flatKy (ss L)) ∧ Fr0 none' w w' := by
  obtain ⟨i0, hi, hz0, hz1, hz2⟩ := info_parts info_key
  have HP := Lib.hid hP
  have HOk := Lib.hid hO
  have Hl := Lib.hid hl
  have Hn := Lib.hid hn
  clear hP hl hO hn
  go_enter Tryz.func60, Tryz.ntmps60
  go_wp2_with fail
  refine (rOrder_any L o a n cap w HOk.out HP.out Hl.out (by have := Hn.out; omega)).mono ?_
  rintro e w1 ⟨R, rc, rfl, hr, hf⟩
  have RI := Lib.hid hr
  have F1 := Lib.hid hf
  clear hr hf
  go_wp2_with fail
  go_loopw [3, 5] (fun v c wr => ∃ (j : Nat) (M : List Key3), c = .int .i64 j ∧ j ≤ n ∧ Hid (wr.ownsRow w1.heap.size 28 3 v M.length (flatKy M)) ∧ Hid (MadeOk L o j M) ∧ Hid (Fr0 none' w1 wr)) (fun _ c _ => n - (Go.RowKit.intOf c).toNat)
  case atStart => exact ⟨0, [], rfl, Nat.zero_le _, World.ownsRow_nil _ _ _ _, mk_zero _ _, Fr0.refl _ _⟩
  case round =>
    obtain ⟨j, M, rfl, hj, hr, hM, hf⟩ := hrel
    by_cases hlt : j < n
    · have d0 : decide ((j : Int) < (n : Int)) = true := decide_eq_true (by omega)
      have e5 : IntKind.i64.wrap ((j : Int) + 1) = (j : Int) + 1 := IntWalk.i64_in _ (by have := Hn.out; omega)
      have b1 : (0 : Int) ≤ (j : Int) := by omega
      have b2 : (j : Int) < (n : Int) := by omega
      obtain ⟨p, hp⟩ : ∃ p, o[j]? = some p := ⟨_, List.getElem?_eq_getElem (by rw [HOk.out.len, Hl.out]; exact hlt)⟩
      have hpn : p < n := by rw [← Hl.out]; exact HOk.out.lt p (List.mem_of_getElem? hp)
      have b3 : (0 : Int) ≤ (p : Int) := by omega
      have b4 : (p : Int) < (n : Int) := by omega
      obtain ⟨g, og, rfl, hx⟩ := HP.out.at (i := p) (by rw [Hl.out]; exact hpn)
      obtain ⟨kp, hkp⟩ : ∃ k, kat L p = k := ⟨_, rfl⟩
      rw [hkp] at hx
      obtain ⟨W2, hW2⟩ : ∃ W, wr.drew = W := ⟨_, rfl⟩
      have f2 : Fr0 none' wr W2 := by rw [← hW2]; exact (Fr0.refl none' wr).drew
      have F2 := Lib.hid (hf.out.trans f2)
      have R2 := Lib.hid (ownsRow_q_fr hr.out f2 (fun _ _ h => h))
      have HI := Lib.hid (fun (t q : Nat) (h : o[t]? = some q) (W' : World) (h2 : Fr0 none' wr W') => show W'.cell? ⟨R, t, none⟩ = some (.int .i64 (q : Int)) from by
        have hc := (ownsRow_q_fr RI.out (hf.out.trans h2) (fun _ _ h => h)).cells (g := R) rfl t (.int .i64 (q : Int)) (by rw [List.getElem?_map, h]; rfl)
        unfold Addr.add at hc
        split at hc
        · next h0 => subst h0; exact hc
        · simpa using hc)
      have HIp := Lib.hid (HI.out j p hp)
      have HXp := Lib.hid (hx.later (F1.out.trans hf.out))
      have Hp := Lib.hid hp
      have Hkp := Lib.hid hkp
      have Hlt := Lib.hid hlt
      have Hf2 := Lib.hid f2
      have HW2 := Lib.hid hW2
      clear hp hx hkp f2 hW2
      go_wp2_with fail
      by_cases hj0 : j = 0
      · have HM2 := Lib.hid (show MadeOk L o (j + 1) (M ++ [kp]) from by rw [← Hkp.out]; exact mk_add HOk.out hM.out Hp.out (.inl hj0))
        refine wp_region_held_drew (S := fun W' => Fr0 none' wr W') (by kernel_rfl) ((Fr0.refl none' wr).drew) (fun hHeld => ?_)
        have z0 : ((j : Int) == 0) = true := by simp; omega
        have z1 : decide ((j : Int) = 0) = true := decide_eq_true (by omega)
        have z2 : decide (j = 0) = true := decide_eq_true hj0
        clear hj0
        refine take_on (i := 0) (v := .int .i64 (j : Int)) rfl (by kernel_rfl) (by kernel_rfl) (by kernel_rfl) (fun _ _ _ h => h) (by kernel_rfl) (fun W' hSW => ?_) (by assumption) ?_
        · clear hSW
          first | (go_simp; done) | exact rfl | (go_simp; rfl) | (go_simp; omega)
        try simp only [Act.put, List.setIfInBounds_toArray, List.set_cons_zero, List.set_cons_succ]
        refine take_on (i := 1) (v := .bool true) rfl (by kernel_rfl) (by kernel_rfl) (by kernel_rfl) (fun _ _ _ h => h) (by kernel_rfl) (fun W' hSW => ?_) (by assumption) ?_
        · clear hSW
          first | (go_simp; done) | exact rfl | (go_simp; rfl) | (go_simp; omega)
        try simp only [Act.put, List.setIfInBounds_toArray, List.set_cons_zero, List.set_cons_succ]
        refine take_on (i := 2) (v := .bool true) rfl (by kernel_rfl) (by kernel_rfl) (by kernel_rfl) (fun _ _ _ h => h) (by kernel_rfl) (fun W' hSW => ?_) (by assumption) ?_
        · clear hSW
          first | (go_simp; done) | exact rfl | (go_simp; rfl) | (go_simp; omega)
        try simp only [Act.put, List.setIfInBounds_toArray, List.set_cons_zero, List.set_cons_succ]
        refine take_off (i := 3) rfl (by kernel_rfl) (by kernel_rfl) (by kernel_rfl) (fun _ _ _ h => h) (by kernel_rfl) (by assumption) ?_
        try simp only [Act.put, List.setIfInBounds_toArray, List.set_cons_zero, List.set_cons_succ]
        refine take_off (i := 4) rfl (by kernel_rfl) (by kernel_rfl) (by kernel_rfl) (fun _ _ _ h => h) (by kernel_rfl) (by assumption) ?_
        try simp only [Act.put, List.setIfInBounds_toArray, List.set_cons_zero, List.set_cons_succ]
        refine take_off (i := 5) rfl (by kernel_rfl) (by kernel_rfl) (by kernel_rfl) (fun _ _ _ h => h) (by kernel_rfl) (by assumption) ?_
        try simp only [Act.put, List.setIfInBounds_toArray, List.set_cons_zero, List.set_cons_succ]
        refine take_off (i := 6) rfl (by kernel_rfl) (by kernel_rfl) (by kernel_rfl) (fun _ _ _ h => h) (by kernel_rfl) (by assumption) ?_
        try simp only [Act.put, List.setIfInBounds_toArray, List.set_cons_zero, List.set_cons_succ]
        refine take_off (i := 7) rfl (by kernel_rfl) (by kernel_rfl) (by kernel_rfl) (fun _ _ _ h => h) (by kernel_rfl) (by assumption) ?_
        try simp only [Act.put, List.setIfInBounds_toArray, List.set_cons_zero, List.set_cons_succ]
        refine take_off (i := 8) rfl (by kernel_rfl) (by kernel_rfl) (by kernel_rfl) (fun _ _ _ h => h) (by kernel_rfl) (by assumption) ?_
        try simp only [Act.put, List.setIfInBounds_toArray, List.set_cons_zero, List.set_cons_succ]
        refine take_off (i := 9) rfl (by kernel_rfl) (by kernel_rfl) (by kernel_rfl) (fun _ _ _ h => h) (by kernel_rfl) (by assumption) ?_
        try simp only [Act.put, List.setIfInBounds_toArray, List.set_cons_zero, List.set_cons_succ]
        refine take_off (i := 10) rfl (by kernel_rfl) (by kernel_rfl) (by kernel_rfl) (fun _ _ _ h => h) (by kernel_rfl) (by assumption) ?_
        try simp only [Act.put, List.setIfInBounds_toArray, List.set_cons_zero, List.set_cons_succ]
        refine take_off (i := 11) rfl (by kernel_rfl) (by kernel_rfl) (by kernel_rfl) (fun _ _ _ h => h) (by kernel_rfl) (by assumption) ?_
        try simp only [Act.put, List.setIfInBounds_toArray, List.set_cons_zero, List.set_cons_succ]
        refine take_off (i := 12) rfl (by kernel_rfl) (by kernel_rfl) (by kernel_rfl) (fun _ _ _ h => h) (by kernel_rfl) (by assumption) ?_
        try simp only [Act.put, List.setIfInBounds_toArray, List.set_cons_zero, List.set_cons_succ]
        refine take_off (i := 13) rfl (by kernel_rfl) (by kernel_rfl) (by kernel_rfl) (fun _ _ _ h => h) (by kernel_rfl) (by assumption) ?_
        try simp only [Act.put, List.setIfInBounds_toArray, List.set_cons_zero, List.set_cons_succ]
        refine take_off (i := 14) rfl (by kernel_rfl) (by kernel_rfl) (by kernel_rfl) (fun _ _ _ h => h) (by kernel_rfl) (by assumption) ?_
        try simp only [Act.put, List.setIfInBounds_toArray, List.set_cons_zero, List.set_cons_succ]
        refine take_off (i := 15) rfl (by kernel_rfl) (by kernel_rfl) (by kernel_rfl) (fun _ _ _ h => h) (by kernel_rfl) (by assumption) ?_
        try simp only [Act.put, List.setIfInBounds_toArray, List.set_cons_zero, List.set_cons_succ]
        refine take_off (i := 16) rfl (by kernel_rfl) (by kernel_rfl) (by kernel_rfl) (fun _ _ _ h => h) (by kernel_rfl) (by assumption) ?_
        try simp only [Act.put, List.setIfInBounds_toArray, List.set_cons_zero, List.set_cons_succ]
        refine take_off (i := 17) rfl (by kernel_rfl) (by kernel_rfl) (by kernel_rfl) (fun _ _ _ h => h) (by kernel_rfl) (by assumption) ?_
        try simp only [Act.put, List.setIfInBounds_toArray, List.set_cons_zero, List.set_cons_succ]
        refine take_off (i := 18) rfl (by kernel_rfl) (by kernel_rfl) (by kernel_rfl) (fun _ _ _ h => h) (by kernel_rfl) (by assumption) ?_
        try simp only [Act.put, List.setIfInBounds_toArray, List.set_cons_zero, List.set_cons_succ]
        refine take_on (i := 19) (v := .bool true) rfl (by kernel_rfl) (by kernel_rfl) (by kernel_rfl) (fun _ _ _ h => h) (by kernel_rfl) (fun W' hSW => ?_) (by assumption) ?_
        · clear hSW
          first | (go_simp; done) | exact rfl | (go_simp; rfl) | (go_simp; omega)
        try simp only [Act.put, List.setIfInBounds_toArray, List.set_cons_zero, List.set_cons_succ]
        clear z0 z1 z2
        refine wpAnyH_done (by kernel_rfl) ?_ _
        clear hHeld
        rw [HW2.out]
        have y0 := HIp.out W2 Hf2.out
        obtain ⟨x0, x1, x2⟩ := HXp.out.later Hf2.out
        have hsrc := Lib.hid (Src.newRow (P := Tryz.prog) (size := 3) (tx := 49) (ty := 28) W2 Tryz.underlying49 1 1 [.int .i64 kp.time, .int .i64 kp.source, .int .i64 kp.seq] rfl (by simp [Value.oneCell']))
        have hsz3 := F2.out.size
        have HR3 := Lib.hid (ownsRow_q_fr R2.out ((Fr0.refl none' W2).alloc (.cells #[.int .i64 kp.time, .int .i64 kp.source, .int .i64 kp.seq] 28)) (fun _ _ h => h))
        have HR0 := Lib.hid (fun g hg => (HR3.out.lt g hg).1)
        have HMl := Lib.hid (show M.length + 1 ≤ 1000 by have h1 := hM.out.2.2; have h2 := Hn.out; have h3 := Hlt.out; omega)
        have hmx := HMl.out
        go_wp2_with (at_builtin; refine wpList_append_k rfl _ _ 49 49 rfl w1.heap.size 28 i0 (.agg #[.int .i64 0, .int .i64 0, .int .i64 0]) 3 24 Tryz.underlying49 hi hz0 hz1 hz2 rfl (by decide) u3 M.length _ rfl HR3.out (.slice (some ⟨W2.heap.size, 0, none⟩) 1 1) 1 _ rfl hsrc.out (by unfold maxLen; omega) (by omega) (by simp; omega) ?_; intro v' w3 hown' hgrow hdr hob; have Hown := Lib.hid hown'; have Hgr := Lib.hid hgrow; clear hown' hgrow hdr hob)
        have FE := Lib.hid ((F2.out.alloc _).grown Hgr.out (fun g hg hl2 => by have h1 := HR0.out g hg; omega))
        have HMk := Lib.hid (HM2.out)
        refine ⟨⟨j + 1, M ++ [kp], by simp, by have := Hlt.out; omega, ?_, HMk.out, FE.out⟩, by simp [Go.RowKit.intOf]; have := Hlt.out; omega⟩
        unfold Hid; rw [flatKy_snoc, List.length_append]; exact Hown.out
      · obtain ⟨jm, hjm⟩ : ∃ jm, jm + 1 = j := ⟨j - 1, by omega⟩
        obtain ⟨z, hzz⟩ : ∃ z, o[jm]? = some z := ⟨_, List.getElem?_eq_getElem (by rw [HOk.out.len, Hl.out]; omega)⟩
        have hzn : z < n := by rw [← Hl.out]; exact HOk.out.lt z (List.mem_of_getElem? hzz)
        obtain ⟨g', og', e', hy⟩ := HP.out.at (i := z) (by rw [Hl.out]; exact hzn)
        cases e'
        obtain ⟨kz, hkz⟩ : ∃ k, kat L z = k := ⟨_, rfl⟩
        rw [hkz] at hy
        have HIz := Lib.hid (HI.out jm z hzz)
        have HXz := Lib.hid (hy.later (F1.out.trans hf.out))
        have e6 : IntKind.i64.wrap ((j : Int) - 1) = (jm : Int) := by rw [IntWalk.i64_in _ (by have := Hn.out; omega)]; omega
        have b5 : (0 : Int) ≤ (jm : Int) := by omega
        have b6 : (jm : Int) < (n : Int) := by omega
        have b7 : (0 : Int) ≤ (z : Int) := by omega
        have b8 : (z : Int) < (n : Int) := by omega
        have Hjm := Lib.hid (show o[j - 1]? = some z by rw [← hjm]; exact hzz)
        have hle : cmpK kz kp ≤ 0 := by rw [← hkz, ← Hkp.out]; exact ord_le HOk.out (show jm < j by omega) hzz Hp.out
        have Hkz := Lib.hid hkz
        have z0 : ((j : Int) == 0) = false := by simp; omega
        have z1 : decide ((j : Int) = 0) = false := decide_eq_false (by omega)
        have z2 : decide (j = 0) = false := decide_eq_false hj0
        by_cases hc0 : cmpK kz kp = 0
        · have he := (cmpK_eq kz kp).1 hc0
          have HM2 := Lib.hid (show MadeOk L o (j + 1) M from mk_same hM.out Hp.out (by omega) Hjm.out (by rw [Hkz.out, Hkp.out]; exact hc0))
          have HD := Lib.hid (show sameK ⟨kp.time, kp.source, kp.seq⟩ ⟨kz.time, kz.source, kz.seq⟩ = true from by rw [he]; exact sameK_self kp)
          clear hjm hzz hy hle hkz he hc0 hj0
          refine wp_region_held_drew (S := fun W' => Fr0 none' wr W') (by kernel_rfl) ((Fr0.refl none' wr).drew) (fun hHeld => ?_)
          refine take_on (i := 0) (v := .int .i64 (j : Int)) rfl (by kernel_rfl) (by kernel_rfl) (by kernel_rfl) (fun _ _ _ h => h) (by kernel_rfl) (fun W' hSW => ?_) (by assumption) ?_
          · clear hSW
            first | (go_simp; done) | exact rfl | (go_simp; rfl) | (go_simp; omega)
          try simp only [Act.put, List.setIfInBounds_toArray, List.set_cons_zero, List.set_cons_succ]
          refine take_on (i := 1) (v := .bool false) rfl (by kernel_rfl) (by kernel_rfl) (by kernel_rfl) (fun _ _ _ h => h) (by kernel_rfl) (fun W' hSW => ?_) (by assumption) ?_
          · clear hSW
            first | (go_simp; done) | exact rfl | (go_simp; rfl) | (go_simp; omega)
          try simp only [Act.put, List.setIfInBounds_toArray, List.set_cons_zero, List.set_cons_succ]
          refine take_on (i := 2) (v := .bool false) rfl (by kernel_rfl) (by kernel_rfl) (by kernel_rfl) (fun _ _ _ h => h) (by kernel_rfl) (fun W' hSW => ?_) (by assumption) ?_
          · clear hSW
            first | (go_simp; done) | exact rfl | (go_simp; rfl) | (go_simp; omega)
          try simp only [Act.put, List.setIfInBounds_toArray, List.set_cons_zero, List.set_cons_succ]
          clear z0 z1 z2
          refine take_on (i := 3) (v := .slice (some ⟨g, og, none⟩) n cap) rfl (by kernel_rfl) (by kernel_rfl) (by kernel_rfl) (fun _ _ _ h => h) (by kernel_rfl) (fun W' hSW => ?_) (by assumption) ?_
          · clear hSW
            first | (go_simp; done) | exact rfl | (go_simp; rfl) | (go_simp; omega)
          try simp only [Act.put, List.setIfInBounds_toArray, List.set_cons_zero, List.set_cons_succ]
          refine take_on (i := 4) (v := .slice (some ⟨R, 0, none⟩) n rc) rfl (by kernel_rfl) (by kernel_rfl) (by kernel_rfl) (fun _ _ _ h => h) (by kernel_rfl) (fun W' hSW => ?_) (by assumption) ?_
          · clear hSW
            first | (go_simp; done) | exact rfl | (go_simp; rfl) | (go_simp; omega)
          try simp only [Act.put, List.setIfInBounds_toArray, List.set_cons_zero, List.set_cons_succ]
          refine take_on (i := 5) (v := .int .i64 (j : Int)) rfl (by kernel_rfl) (by kernel_rfl) (by kernel_rfl) (fun _ _ _ h => h) (by kernel_rfl) (fun W' hSW => ?_) (by assumption) ?_
          · clear hSW
            first | (go_simp; done) | exact rfl | (go_simp; rfl) | (go_simp; omega)
          try simp only [Act.put, List.setIfInBounds_toArray, List.set_cons_zero, List.set_cons_succ]
          refine take_on (i := 6) (v := .pointer (some ⟨R, j, none⟩)) rfl (by kernel_rfl) (by kernel_rfl) (by kernel_rfl) (fun _ _ _ h => h) (by kernel_rfl) (fun W' hSW => ?_) (by assumption) ?_
          · clear hSW
            first | (go_simp; done) | exact rfl | (go_simp; rfl) | (go_simp; omega)
          try simp only [Act.put, List.setIfInBounds_toArray, List.set_cons_zero, List.set_cons_succ]
          refine take_on (i := 7) (v := .int .i64 (p : Int)) rfl (by kernel_rfl) (by kernel_rfl) (by kernel_rfl) (fun _ _ _ h => h) (by kernel_rfl) (fun W' hSW => ?_) (by assumption) ?_
          · have y9 := HIp.out W' hSW
            clear hSW
            first | (go_simp; done) | exact rfl | (go_simp; rfl) | (go_simp; omega)
          try simp only [Act.put, List.setIfInBounds_toArray, List.set_cons_zero, List.set_cons_succ]
          refine take_on (i := 8) (v := .pointer (some ⟨g, og + p * 3, none⟩)) rfl (by kernel_rfl) (by kernel_rfl) (by kernel_rfl) (fun _ _ _ h => h) (by kernel_rfl) (fun W' hSW => ?_) (by assumption) ?_
          · clear hSW
            first | (go_simp; done) | exact rfl | (go_simp; rfl) | (go_simp; omega)
          try simp only [Act.put, List.setIfInBounds_toArray, List.set_cons_zero, List.set_cons_succ]
          refine take_on (i := 9) (v := .agg #[.int .i64 (kp : Key3).time, .int .i64 (kp : Key3).source, .int .i64 (kp : Key3).seq]) rfl (by kernel_rfl) (by kernel_rfl) (by kernel_rfl) (fun _ _ _ h => h) (by kernel_rfl) (fun W' hSW => ?_) (by assumption) ?_
          · obtain ⟨x0, x1, x2⟩ := HXp.out.later hSW
            clear hSW
            first | (go_simp; done) | exact rfl | (go_simp; rfl) | (go_simp; omega)
          try simp only [Act.put, List.setIfInBounds_toArray, List.set_cons_zero, List.set_cons_succ]
          refine take_on (i := 10) (v := .slice (some ⟨g, og, none⟩) n cap) rfl (by kernel_rfl) (by kernel_rfl) (by kernel_rfl) (fun _ _ _ h => h) (by kernel_rfl) (fun W' hSW => ?_) (by assumption) ?_
          · clear hSW
            first | (go_simp; done) | exact rfl | (go_simp; rfl) | (go_simp; omega)
          try simp only [Act.put, List.setIfInBounds_toArray, List.set_cons_zero, List.set_cons_succ]
          refine take_on (i := 11) (v := .slice (some ⟨R, 0, none⟩) n rc) rfl (by kernel_rfl) (by kernel_rfl) (by kernel_rfl) (fun _ _ _ h => h) (by kernel_rfl) (fun W' hSW => ?_) (by assumption) ?_
          · clear hSW
            first | (go_simp; done) | exact rfl | (go_simp; rfl) | (go_simp; omega)
          try simp only [Act.put, List.setIfInBounds_toArray, List.set_cons_zero, List.set_cons_succ]
          refine take_on (i := 12) (v := .int .i64 (j : Int)) rfl (by kernel_rfl) (by kernel_rfl) (by kernel_rfl) (fun _ _ _ h => h) (by kernel_rfl) (fun W' hSW => ?_) (by assumption) ?_
          · clear hSW
            first | (go_simp; done) | exact rfl | (go_simp; rfl) | (go_simp; omega)
          try simp only [Act.put, List.setIfInBounds_toArray, List.set_cons_zero, List.set_cons_succ]
          refine take_on (i := 13) (v := .int .i64 (jm : Int)) rfl (by kernel_rfl) (by kernel_rfl) (by kernel_rfl) (fun _ _ _ h => h) (by kernel_rfl) (fun W' hSW => ?_) (by assumption) ?_
          · clear hSW
            first | (go_simp; done) | exact rfl | (go_simp; rfl) | (go_simp; omega)
          try simp only [Act.put, List.setIfInBounds_toArray, List.set_cons_zero, List.set_cons_succ]
          refine take_on (i := 14) (v := .pointer (some ⟨R, jm, none⟩)) rfl (by kernel_rfl) (by kernel_rfl) (by kernel_rfl) (fun _ _ _ h => h) (by kernel_rfl) (fun W' hSW => ?_) (by assumption) ?_
          · clear hSW
            first | (go_simp; done) | exact rfl | (go_simp; rfl) | (go_simp; omega)
          try simp only [Act.put, List.setIfInBounds_toArray, List.set_cons_zero, List.set_cons_succ]
          refine take_on (i := 15) (v := .int .i64 (z : Int)) rfl (by kernel_rfl) (by kernel_rfl) (by kernel_rfl) (fun _ _ _ h => h) (by kernel_rfl) (fun W' hSW => ?_) (by assumption) ?_
          · have y9 := HIz.out W' hSW
            clear hSW
            first | (go_simp; done) | exact rfl | (go_simp; rfl) | (go_simp; omega)
          try simp only [Act.put, List.setIfInBounds_toArray, List.set_cons_zero, List.set_cons_succ]
          refine take_on (i := 16) (v := .pointer (some ⟨g, og + z * 3, none⟩)) rfl (by kernel_rfl) (by kernel_rfl) (by kernel_rfl) (fun _ _ _ h => h) (by kernel_rfl) (fun W' hSW => ?_) (by assumption) ?_
          · clear hSW
            first | (go_simp; done) | exact rfl | (go_simp; rfl) | (go_simp; omega)
          try simp only [Act.put, List.setIfInBounds_toArray, List.set_cons_zero, List.set_cons_succ]
          refine take_on (i := 17) (v := .agg #[.int .i64 (kz : Key3).time, .int .i64 (kz : Key3).source, .int .i64 (kz : Key3).seq]) rfl (by kernel_rfl) (by kernel_rfl) (by kernel_rfl) (fun _ _ _ h => h) (by kernel_rfl) (fun W' hSW => ?_) (by assumption) ?_
          · obtain ⟨x0, x1, x2⟩ := HXz.out.later hSW
            clear hSW
            first | (go_simp; done) | exact rfl | (go_simp; rfl) | (go_simp; omega)
          try simp only [Act.put, List.setIfInBounds_toArray, List.set_cons_zero, List.set_cons_succ]
          have d7 := HD.out
          refine take_on (i := 18) (v := .bool false) rfl (by kernel_rfl) (by kernel_rfl) (by kernel_rfl) (fun _ _ _ h => h) (by kernel_rfl) (fun W' hSW => ?_) (by assumption) ?_
          · clear hSW
            first | (go_simp; done) | exact rfl | (go_simp; rfl) | (go_simp; omega)
          try simp only [Act.put, List.setIfInBounds_toArray, List.set_cons_zero, List.set_cons_succ]
          clear d7
          refine take_on (i := 19) (v := .bool false) rfl (by kernel_rfl) (by kernel_rfl) (by kernel_rfl) (fun _ _ _ h => h) (by kernel_rfl) (fun W' hSW => ?_) (by assumption) ?_
          · clear hSW
            first | (go_simp; done) | exact rfl | (go_simp; rfl) | (go_simp; omega)
          try simp only [Act.put, List.setIfInBounds_toArray, List.set_cons_zero, List.set_cons_succ]
          refine wpAnyH_done (by kernel_rfl) ?_ _
          clear hHeld
          rw [HW2.out]
          go_wp2_with fail
          exact ⟨⟨j + 1, M, by simp, by have := Hlt.out; omega, R2.out, HM2.out, hf.out.trans Hf2.out⟩, by simp [Go.RowKit.intOf]; have := Hlt.out; omega⟩
        · have HM2 := Lib.hid (show MadeOk L o (j + 1) (M ++ [kp]) from by rw [← Hkp.out]; exact mk_add HOk.out hM.out Hp.out (.inr ⟨z, Hjm.out, by rw [Hkz.out, Hkp.out]; omega⟩))
          have HD := Lib.hid (show sameK ⟨kp.time, kp.source, kp.seq⟩ ⟨kz.time, kz.source, kz.seq⟩ = false from sameK_ne (fun e => hc0 ((cmpK_eq kz kp).2 (by cases kz; cases kp; cases e; rfl))))
          clear hjm hzz hy hle hkz hc0 hj0
          refine wp_region_held_drew (S := fun W' => Fr0 none' wr W') (by kernel_rfl) ((Fr0.refl none' wr).drew) (fun hHeld => ?_)
          refine take_on (i := 0) (v := .int .i64 (j : Int)) rfl (by kernel_rfl) (by kernel_rfl) (by kernel_rfl) (fun _ _ _ h => h) (by kernel_rfl) (fun W' hSW => ?_) (by assumption) ?_
          · clear hSW
            first | (go_simp; done) | exact rfl | (go_simp; rfl) | (go_simp; omega)
          try simp only [Act.put, List.setIfInBounds_toArray, List.set_cons_zero, List.set_cons_succ]
          refine take_on (i := 1) (v := .bool false) rfl (by kernel_rfl) (by kernel_rfl) (by kernel_rfl) (fun _ _ _ h => h) (by kernel_rfl) (fun W' hSW => ?_) (by assumption) ?_
          · clear hSW
            first | (go_simp; done) | exact rfl | (go_simp; rfl) | (go_simp; omega)
          try simp only [Act.put, List.setIfInBounds_toArray, List.set_cons_zero, List.set_cons_succ]
          refine take_on (i := 2) (v := .bool false) rfl (by kernel_rfl) (by kernel_rfl) (by kernel_rfl) (fun _ _ _ h => h) (by kernel_rfl) (fun W' hSW => ?_) (by assumption) ?_
          · clear hSW
            first | (go_simp; done) | exact rfl | (go_simp; rfl) | (go_simp; omega)
          try simp only [Act.put, List.setIfInBounds_toArray, List.set_cons_zero, List.set_cons_succ]
          clear z0 z1 z2
          refine take_on (i := 3) (v := .slice (some ⟨g, og, none⟩) n cap) rfl (by kernel_rfl) (by kernel_rfl) (by kernel_rfl) (fun _ _ _ h => h) (by kernel_rfl) (fun W' hSW => ?_) (by assumption) ?_
          · clear hSW
            first | (go_simp; done) | exact rfl | (go_simp; rfl) | (go_simp; omega)
          try simp only [Act.put, List.setIfInBounds_toArray, List.set_cons_zero, List.set_cons_succ]
          refine take_on (i := 4) (v := .slice (some ⟨R, 0, none⟩) n rc) rfl (by kernel_rfl) (by kernel_rfl) (by kernel_rfl) (fun _ _ _ h => h) (by kernel_rfl) (fun W' hSW => ?_) (by assumption) ?_
          · clear hSW
            first | (go_simp; done) | exact rfl | (go_simp; rfl) | (go_simp; omega)
          try simp only [Act.put, List.setIfInBounds_toArray, List.set_cons_zero, List.set_cons_succ]
          refine take_on (i := 5) (v := .int .i64 (j : Int)) rfl (by kernel_rfl) (by kernel_rfl) (by kernel_rfl) (fun _ _ _ h => h) (by kernel_rfl) (fun W' hSW => ?_) (by assumption) ?_
          · clear hSW
            first | (go_simp; done) | exact rfl | (go_simp; rfl) | (go_simp; omega)
          try simp only [Act.put, List.setIfInBounds_toArray, List.set_cons_zero, List.set_cons_succ]
          refine take_on (i := 6) (v := .pointer (some ⟨R, j, none⟩)) rfl (by kernel_rfl) (by kernel_rfl) (by kernel_rfl) (fun _ _ _ h => h) (by kernel_rfl) (fun W' hSW => ?_) (by assumption) ?_
          · clear hSW
            first | (go_simp; done) | exact rfl | (go_simp; rfl) | (go_simp; omega)
          try simp only [Act.put, List.setIfInBounds_toArray, List.set_cons_zero, List.set_cons_succ]
          refine take_on (i := 7) (v := .int .i64 (p : Int)) rfl (by kernel_rfl) (by kernel_rfl) (by kernel_rfl) (fun _ _ _ h => h) (by kernel_rfl) (fun W' hSW => ?_) (by assumption) ?_
          · have y9 := HIp.out W' hSW
            clear hSW
            first | (go_simp; done) | exact rfl | (go_simp; rfl) | (go_simp; omega)
          try simp only [Act.put, List.setIfInBounds_toArray, List.set_cons_zero, List.set_cons_succ]
          refine take_on (i := 8) (v := .pointer (some ⟨g, og + p * 3, none⟩)) rfl (by kernel_rfl) (by kernel_rfl) (by kernel_rfl) (fun _ _ _ h => h) (by kernel_rfl) (fun W' hSW => ?_) (by assumption) ?_
          · clear hSW
            first | (go_simp; done) | exact rfl | (go_simp; rfl) | (go_simp; omega)
          try simp only [Act.put, List.setIfInBounds_toArray, List.set_cons_zero, List.set_cons_succ]
          refine take_on (i := 9) (v := .agg #[.int .i64 (kp : Key3).time, .int .i64 (kp : Key3).source, .int .i64 (kp : Key3).seq]) rfl (by kernel_rfl) (by kernel_rfl) (by kernel_rfl) (fun _ _ _ h => h) (by kernel_rfl) (fun W' hSW => ?_) (by assumption) ?_
          · obtain ⟨x0, x1, x2⟩ := HXp.out.later hSW
            clear hSW
            first | (go_simp; done) | exact rfl | (go_simp; rfl) | (go_simp; omega)
          try simp only [Act.put, List.setIfInBounds_toArray, List.set_cons_zero, List.set_cons_succ]
          refine take_on (i := 10) (v := .slice (some ⟨g, og, none⟩) n cap) rfl (by kernel_rfl) (by kernel_rfl) (by kernel_rfl) (fun _ _ _ h => h) (by kernel_rfl) (fun W' hSW => ?_) (by assumption) ?_
          · clear hSW
            first | (go_simp; done) | exact rfl | (go_simp; rfl) | (go_simp; omega)
          try simp only [Act.put, List.setIfInBounds_toArray, List.set_cons_zero, List.set_cons_succ]
          refine take_on (i := 11) (v := .slice (some ⟨R, 0, none⟩) n rc) rfl (by kernel_rfl) (by kernel_rfl) (by kernel_rfl) (fun _ _ _ h => h) (by kernel_rfl) (fun W' hSW => ?_) (by assumption) ?_
          · clear hSW
            first | (go_simp; done) | exact rfl | (go_simp; rfl) | (go_simp; omega)
          try simp only [Act.put, List.setIfInBounds_toArray, List.set_cons_zero, List.set_cons_succ]
          refine take_on (i := 12) (v := .int .i64 (j : Int)) rfl (by kernel_rfl) (by kernel_rfl) (by kernel_rfl) (fun _ _ _ h => h) (by kernel_rfl) (fun W' hSW => ?_) (by assumption) ?_
          · clear hSW
            first | (go_simp; done) | exact rfl | (go_simp; rfl) | (go_simp; omega)
          try simp only [Act.put, List.setIfInBounds_toArray, List.set_cons_zero, List.set_cons_succ]
          refine take_on (i := 13) (v := .int .i64 (jm : Int)) rfl (by kernel_rfl) (by kernel_rfl) (by kernel_rfl) (fun _ _ _ h => h) (by kernel_rfl) (fun W' hSW => ?_) (by assumption) ?_
          · clear hSW
            first | (go_simp; done) | exact rfl | (go_simp; rfl) | (go_simp; omega)
          try simp only [Act.put, List.setIfInBounds_toArray, List.set_cons_zero, List.set_cons_succ]
          refine take_on (i := 14) (v := .pointer (some ⟨R, jm, none⟩)) rfl (by kernel_rfl) (by kernel_rfl) (by kernel_rfl) (fun _ _ _ h => h) (by kernel_rfl) (fun W' hSW => ?_) (by assumption) ?_
          · clear hSW
            first | (go_simp; done) | exact rfl | (go_simp; rfl) | (go_simp; omega)
          try simp only [Act.put, List.setIfInBounds_toArray, List.set_cons_zero, List.set_cons_succ]
          refine take_on (i := 15) (v := .int .i64 (z : Int)) rfl (by kernel_rfl) (by kernel_rfl) (by kernel_rfl) (fun _ _ _ h => h) (by kernel_rfl) (fun W' hSW => ?_) (by assumption) ?_
          · have y9 := HIz.out W' hSW
            clear hSW
            first | (go_simp; done) | exact rfl | (go_simp; rfl) | (go_simp; omega)
          try simp only [Act.put, List.setIfInBounds_toArray, List.set_cons_zero, List.set_cons_succ]
          refine take_on (i := 16) (v := .pointer (some ⟨g, og + z * 3, none⟩)) rfl (by kernel_rfl) (by kernel_rfl) (by kernel_rfl) (fun _ _ _ h => h) (by kernel_rfl) (fun W' hSW => ?_) (by assumption) ?_
          · clear hSW
            first | (go_simp; done) | exact rfl | (go_simp; rfl) | (go_simp; omega)
          try simp only [Act.put, List.setIfInBounds_toArray, List.set_cons_zero, List.set_cons_succ]
          refine take_on (i := 17) (v := .agg #[.int .i64 (kz : Key3).time, .int .i64 (kz : Key3).source, .int .i64 (kz : Key3).seq]) rfl (by kernel_rfl) (by kernel_rfl) (by kernel_rfl) (fun _ _ _ h => h) (by kernel_rfl) (fun W' hSW => ?_) (by assumption) ?_
          · obtain ⟨x0, x1, x2⟩ := HXz.out.later hSW
            clear hSW
            first | (go_simp; done) | exact rfl | (go_simp; rfl) | (go_simp; omega)
          try simp only [Act.put, List.setIfInBounds_toArray, List.set_cons_zero, List.set_cons_succ]
          have d7 := HD.out
          refine take_on (i := 18) (v := .bool true) rfl (by kernel_rfl) (by kernel_rfl) (by kernel_rfl) (fun _ _ _ h => h) (by kernel_rfl) (fun W' hSW => ?_) (by assumption) ?_
          · clear hSW
            first | (go_simp; done) | exact rfl | (go_simp; rfl) | (go_simp; omega)
          try simp only [Act.put, List.setIfInBounds_toArray, List.set_cons_zero, List.set_cons_succ]
          clear d7
          refine take_on (i := 19) (v := .bool true) rfl (by kernel_rfl) (by kernel_rfl) (by kernel_rfl) (fun _ _ _ h => h) (by kernel_rfl) (fun W' hSW => ?_) (by assumption) ?_
          · clear hSW
            first | (go_simp; done) | exact rfl | (go_simp; rfl) | (go_simp; omega)
          try simp only [Act.put, List.setIfInBounds_toArray, List.set_cons_zero, List.set_cons_succ]
          refine wpAnyH_done (by kernel_rfl) ?_ _
          clear hHeld
          rw [HW2.out]
          have y0 := HIp.out W2 Hf2.out
          obtain ⟨x0, x1, x2⟩ := HXp.out.later Hf2.out
          have hsrc := Lib.hid (Src.newRow (P := Tryz.prog) (size := 3) (tx := 49) (ty := 28) W2 Tryz.underlying49 1 1 [.int .i64 kp.time, .int .i64 kp.source, .int .i64 kp.seq] rfl (by simp [Value.oneCell']))
          have hsz3 := F2.out.size
          have HR3 := Lib.hid (ownsRow_q_fr R2.out ((Fr0.refl none' W2).alloc (.cells #[.int .i64 kp.time, .int .i64 kp.source, .int .i64 kp.seq] 28)) (fun _ _ h => h))
          have HR0 := Lib.hid (fun g hg => (HR3.out.lt g hg).1)
          have HMl := Lib.hid (show M.length + 1 ≤ 1000 by have h1 := hM.out.2.2; have h2 := Hn.out; have h3 := Hlt.out; omega)
          have hmx := HMl.out
          go_wp2_with (at_builtin; refine wpList_append_k rfl _ _ 49 49 rfl w1.heap.size 28 i0 (.agg #[.int .i64 0, .int .i64 0, .int .i64 0]) 3 24 Tryz.underlying49 hi hz0 hz1 hz2 rfl (by decide) u3 M.length _ rfl HR3.out (.slice (some ⟨W2.heap.size, 0, none⟩) 1 1) 1 _ rfl hsrc.out (by unfold maxLen; omega) (by omega) (by simp; omega) ?_; intro v' w3 hown' hgrow hdr hob; have Hown := Lib.hid hown'; have Hgr := Lib.hid hgrow; clear hown' hgrow hdr hob)
          have FE := Lib.hid ((F2.out.alloc _).grown Hgr.out (fun g hg hl2 => by have h1 := HR0.out g hg; omega))
          have HMk := Lib.hid (HM2.out)
          refine ⟨⟨j + 1, M ++ [kp], by simp, by have := Hlt.out; omega, ?_, HMk.out, FE.out⟩, by simp [Go.RowKit.intOf]; have := Hlt.out; omega⟩
          unfold Hid; rw [flatKy_snoc, List.length_append]; exact Hown.out
    · obtain rfl : j = n := by omega
      have d0 : decide ((j : Int) < (j : Int)) = false := decide_eq_false (by omega)
      have HMe := Lib.hid (mk_end HOk.out Hl.out hM.out)
      go_wp2_with fail
      go_ret
      exact ⟨_, rfl, by rw [← HMe.out]; exact ownsRow_k_mono hr.out F1.out.size, F1.out.trans hf.out⟩
end Go.Proofs.YtpklgpdlkdlbbaaGreatDoor

/-
  KeyLists: lists, and the law.
-/
namespace Go.Proofs.YtpklgpdlkdlbbaaGreatDoor
open Go Go.RowKit
attribute [local go_sem ↓] Go.wp_at_zero Go.wp_at_succ
attribute [local go_sem] Oper.semAt_some wide_fn wide_depth wide_fnR wide_depthR
attribute [local go_sem high] run_neq_k run_eql_k

theorem searchV_form (L : List Key3) (x : Key3) : ∃ (i : Nat) (b : Bool) (e : Int), searchV L x = .tuple #[.int .i64 (i : Int), .bool b, .int .i64 e] ∧ IntKind.i64.wrap e = e := by
  unfold searchV
  split
  · exact ⟨_, _, _, rfl, by decide⟩
  · exact ⟨0, false, 73, rfl, by decide⟩
theorem KsIn.off {S : Nat → Prop} {w1 w w' : World} {a : Option Addr} {L : List Key3} (h1 : KsIn w1 a L) (h : KsIn w a L) (hf : Fr0 S w w') (hS : ∀ k, k < w1.heap.size → ¬ S k) : KsIn w' a L := fun i p hp => by
  obtain ⟨g, o, rfl, c0, c1, c2⟩ := h i p hp
  obtain ⟨g', o', e, d0, _, _⟩ := h1 i p hp
  cases e
  have hlt := World.block_lt_of_cell? _ _ d0
  have hn := hS g hlt
  exact ⟨g, o, rfl, (hf.cell (World.block_lt_of_cell? _ _ c0) hn).trans c0, (hf.cell (World.block_lt_of_cell? _ _ c1) hn).trans c1, (hf.cell (World.block_lt_of_cell? _ _ c2) hn).trans c2⟩
/-- What the loop leaves of the row of what was sorted. -/
def RowLeft (B : Nat) (a : Option Addr) (s cap : Nat) (w : World) : Prop := 0 < s → ∃ X : List Key3, X.length = s ∧ w.ownsRow B 28 3 (.slice a s cap) s (flatKy X)
set_option maxRecDepth 100000 in
set_option maxHeartbeats 8000000 in
theorem lists_any (L : List Key3) (x : Key3) (a : Option Addr) (n cap : Nat) (w : World) (hP : KsIn w a L) (hl : L.length = n) (hn : n ≤ 60) :
    Calls Tryz.prog 24 #[.slice a n cap, keyV x] w fun e w' => e = .returned (.bool true) ∧ Fr0 none' w w' := by
  have HP := Lib.hid hP
  have Hl := Lib.hid hl
  have Hn := Lib.hid hn
  clear hP hl hn
  simp only [keyV]
  go_enter Tryz.func24, Tryz.ntmps24
  go_wp2_with fail
  obtain ⟨p, hp⟩ : ∃ p, w.heap.size = p := ⟨_, rfl⟩
  obtain ⟨W0, hW0⟩ : ∃ W, w.alloc (.cells #[.int .i64 x.time, .int .i64 x.source, .int .i64 x.seq] 28) = W := ⟨_, rfl⟩
  have KB := Lib.hid (show KeyAt W0 p x by rw [← hW0, ← hp]; exact World.alloc_heap_new w _)
  have F0 := Lib.hid (show Fr0 none' w W0 by rw [← hW0]; exact (Fr0.refl _ _).alloc _)
  rw [hW0]
  try rw [hp]
  clear hW0 hp
  refine (Clone_any (cap := cap) L (HP.out.later F0.out) Hl.out (by have := Hn.out; omega)).mono ?_
  rintro e w1 ⟨a1, c1, rfl, hk, hf⟩
  have F1 := Lib.hid (F0.out.trans hf)
  have P1 := Lib.hid hk
  have PA1 := Lib.hid hk
  have KB := Lib.hid (KB.out.fr0 (S := none') hf (fun h => h))
  clear hk hf
  go_wp2_with fail
  refine (Sort_any (cap := c1) L P1.out Hl.out (by have := Hn.out; omega)).mono ?_
  rintro e w2 ⟨a2, c2, rfl, hk, hr, hf⟩
  obtain ⟨S, hS⟩ : ∃ S, ss L = S := ⟨_, rfl⟩
  have hin := ss_inc L
  have hsl := ss_len L
  rw [hS] at hk hr hin hsl
  rw [hS]
  obtain ⟨s, hs⟩ : ∃ s, S.length = s := ⟨_, rfl⟩
  rw [hs] at hr hsl
  rw [hs]
  obtain ⟨B, hB⟩ : ∃ B, w1.heap.size = B := ⟨_, rfl⟩
  rw [hB] at hr
  have HB := Lib.hid hB
  have HS := Lib.hid hS
  have HI := Lib.hid hin
  have Hs := Lib.hid hs
  have Hsn := Lib.hid (show s ≤ 60 by have := Hn.out; have := Hl.out; omega)
  have F2 := Lib.hid (F1.out.trans hf)
  have P1 := Lib.hid (P1.out.later hf)
  have P2 := Lib.hid hk
  have R2 := Lib.hid hr
  have KB := Lib.hid (KB.out.fr0 (S := none') hf (fun h => h))
  have y0 := KB.out.cell (i := 0) (by omega)
  have y1 := KB.out.cell (i := 1) (by omega)
  have y2 := KB.out.cell (i := 2) (by omega)
  simp [nth3] at y0 y1 y2
  obtain ⟨i1, b1, e1, hv1, hwe⟩ := searchV_form L x
  have HWe := Lib.hid hwe
  have hv2 := searchV_inc hin x
  obtain ⟨i2, hi2⟩ : ∃ i, cntK S x = i := ⟨_, rfl⟩
  obtain ⟨b2, hb2⟩ : ∃ b, decide (x ∈ S) = b := ⟨_, rfl⟩
  rw [hi2, hb2] at hv2
  have HSe1 := Lib.hid (fun (a : Option Addr) (c : Nat) (W : World) (h : KsIn W a L) => by have := Search_any (cap := c) L x h Hl.out (by have := Hn.out; omega); rw [hv1] at this; exact this)
  have HRe1 := Lib.hid (fun (a : Option Addr) (c : Nat) (W : World) (h : KsIn W a L) => by have := rSearch_any L x a n c W h Hl.out (by have := Hn.out; omega); rw [hv1] at this; exact this)
  have HSe2 := Lib.hid (fun (a : Option Addr) (c : Nat) (W : World) (h : KsIn W a S) => by have := Search_any (cap := c) S x h hs (by have := Hsn.out; omega); rw [hv2] at this; exact this)
  have HRe2 := Lib.hid (fun (a : Option Addr) (c : Nat) (W : World) (h : KsIn W a S) => by have := rSearch_any S x a s c W h hs (by have := Hsn.out; omega); rw [hv2] at this; exact this)
  simp only [keyV] at HSe1 HRe1 HSe2 HRe2
  clear hk hr hin hsl hs hS hB hf hv1 hv2 hi2 hb2 hwe
  go_wp2_with fail
  refine (HSe1.out _ _ _ P1.out).mono ?_
  rintro e w3 ⟨rfl, hf⟩
  have F3 := Lib.hid (F2.out.trans hf)
  have P1 := Lib.hid (P1.out.later hf)
  have P2 := Lib.hid (P2.out.later hf)
  have R2 := Lib.hid (fun h0 => ownsRow_q_fr (R2.out h0) hf (fun _ _ h => h))
  have KB := Lib.hid (KB.out.fr0 (S := none') hf (fun h => h))
  clear hf y0 y1 y2
  have y0 := KB.out.cell (i := 0) (by omega)
  have y1 := KB.out.cell (i := 1) (by omega)
  have y2 := KB.out.cell (i := 2) (by omega)
  simp [nth3] at y0 y1 y2
  go_wp2_with fail
  refine (HRe1.out _ _ _ (HP.out.later F3.out)).mono ?_
  rintro e w4 ⟨rfl, hf⟩
  have F4 := Lib.hid (F3.out.trans hf)
  have P1 := Lib.hid (P1.out.later hf)
  have P2 := Lib.hid (P2.out.later hf)
  have R2 := Lib.hid (fun h0 => ownsRow_q_fr (R2.out h0) hf (fun _ _ h => h))
  have KB := Lib.hid (KB.out.fr0 (S := none') hf (fun h => h))
  clear hf y0 y1 y2
  go_wp2_with fail
  refine (Order_any L a1 n c1 _ P1.out Hl.out (by have := Hn.out; omega)).mono ?_
  rintro e w5 ⟨RO, rc, o, rfl, hr, ho, hf⟩
  have F5 := Lib.hid (F4.out.trans hf)
  have P1 := Lib.hid (P1.out.later hf)
  have P2 := Lib.hid (P2.out.later hf)
  have R2 := Lib.hid (fun h0 => ownsRow_q_fr (R2.out h0) hf (fun _ _ h => h))
  have KB := Lib.hid (KB.out.fr0 (S := none') hf (fun h => h))
  have RA := Lib.hid hr
  have HO := Lib.hid ho
  clear hf hr ho
  go_wp2_with fail
  refine (rOrder_any L o a n cap _ HO.out (HP.out.later F5.out) Hl.out (by have := Hn.out; omega)).mono ?_
  rintro e w6 ⟨RP, rd, rfl, hr, hf⟩
  have F6 := Lib.hid (F5.out.trans hf)
  have P1 := Lib.hid (P1.out.later hf)
  have P2 := Lib.hid (P2.out.later hf)
  have R2 := Lib.hid (fun h0 => ownsRow_q_fr (R2.out h0) hf (fun _ _ h => h))
  have KB := Lib.hid (KB.out.fr0 (S := none') hf (fun h => h))
  have RA := Lib.hid (ownsRow_q_fr RA.out hf (fun _ _ h => h))
  have RB := Lib.hid hr
  clear hf hr
  go_wp2_with fail
  refine (sameI_any _ _ n _ _ _ _ o _ (HO.out.len.trans Hl.out) (by have := Hn.out; omega) RA.out RB.out).mono ?_
  rintro e w7 ⟨rfl, hf⟩
  have F7 := Lib.hid (F6.out.trans hf)
  have P1 := Lib.hid (P1.out.later hf)
  have P2 := Lib.hid (P2.out.later hf)
  have R2 := Lib.hid (fun h0 => ownsRow_q_fr (R2.out h0) hf (fun _ _ h => h))
  have KB := Lib.hid (KB.out.fr0 (S := none') hf (fun h => h))
  clear hf RA RB
  go_wp2_with fail
  refine (rSort_any L o a n cap _ HO.out (HP.out.later F7.out) Hl.out (by have := Hn.out; omega)).mono ?_
  rintro e w8 ⟨vS, rfl, hr, hf⟩
  rw [HS.out] at hr
  obtain ⟨aS, cS, rfl, hkS⟩ := KsAt.of_own hr rfl
  rw [Hs.out]
  have F8 := Lib.hid (F7.out.trans hf)
  have P1 := Lib.hid (P1.out.later hf)
  have P2 := Lib.hid (P2.out.later hf)
  have R2 := Lib.hid (fun h0 => ownsRow_q_fr (R2.out h0) hf (fun _ _ h => h))
  have KB := Lib.hid (KB.out.fr0 (S := none') hf (fun h => h))
  have PS := Lib.hid hkS
  clear hf hr hkS
  go_wp2_with fail
  refine (sameKs_any a2 aS s s c2 cS S S _ Hs.out Hs.out (by have := Hsn.out; omega) (by have := Hsn.out; omega) P2.out PS.out).mono ?_
  rintro e w9 ⟨rfl, hf⟩
  rw [show decide (S = S) = true from decide_eq_true rfl]
  have F9 := Lib.hid (F8.out.trans hf)
  have P1 := Lib.hid (P1.out.later hf)
  have P2 := Lib.hid (P2.out.later hf)
  have R2 := Lib.hid (fun h0 => ownsRow_q_fr (R2.out h0) hf (fun _ _ h => h))
  have KB := Lib.hid (KB.out.fr0 (S := none') hf (fun h => h))
  clear hf PS
  have z1 : ((i1 : Int) != (i1 : Int)) = false := by simp
  have z2 : (b1 != b1) = false := by simp
  have z3 : (e1 != e1) = false := by simp
  have z4 := HWe.out
  have y0 := KB.out.cell (i := 0) (by omega)
  have y1 := KB.out.cell (i := 1) (by omega)
  have y2 := KB.out.cell (i := 2) (by omega)
  simp [nth3] at y0 y1 y2
  go_wp2_with fail
  clear z1 z2 z3 z4
  refine (HSe2.out _ _ _ P2.out).mono ?_
  rintro e wA ⟨rfl, hf⟩
  have F10 := Lib.hid (F9.out.trans hf)
  have P1 := Lib.hid (P1.out.later hf)
  have P2 := Lib.hid (P2.out.later hf)
  have R2 := Lib.hid (fun h0 => ownsRow_q_fr (R2.out h0) hf (fun _ _ h => h))
  have KB := Lib.hid (KB.out.fr0 (S := none') hf (fun h => h))
  clear hf
  go_wp2_with fail
  have y0 := KB.out.cell (i := 0) (by omega)
  have y1 := KB.out.cell (i := 1) (by omega)
  have y2 := KB.out.cell (i := 2) (by omega)
  simp [nth3] at y0 y1 y2
  have HX := Lib.hid (show KAt wA p 0 x from ⟨y0, y1, y2⟩)
  clear y0 y1 y2
  refine wp_region_held_drew (S := fun W' => Fr0 none' wA W') (by kernel_rfl) ((Fr0.refl none' wA).drew) (fun hHeld => ?_)
  refine take_on (i := 0) (v := .slice a n cap) rfl (by kernel_rfl) (by kernel_rfl) (by kernel_rfl) (fun _ _ _ h => h) (by kernel_rfl) (fun W' hSW => ?_) (by assumption) ?_
  · clear hSW
    first | (go_simp; done) | exact rfl | (go_simp; rfl) | (go_simp; omega)
  try simp only [Act.put, List.setIfInBounds_toArray, List.set_cons_zero, List.set_cons_succ]
  refine take_on (i := 2) (v := .agg #[.int .i64 (x : Key3).time, .int .i64 (x : Key3).source, .int .i64 (x : Key3).seq]) rfl (by kernel_rfl) (by kernel_rfl) (by kernel_rfl) (fun _ _ _ h => h) (by kernel_rfl) (fun W' hSW => ?_) (by assumption) ?_
  · obtain ⟨x0, x1, x2⟩ := HX.out.later hSW
    clear hSW
    first | (go_simp; done) | exact rfl | (go_simp; rfl) | (go_simp; omega)
  try simp only [Act.put, List.setIfInBounds_toArray, List.set_cons_zero, List.set_cons_succ]
  refine take_call (i := 1) rfl (by kernel_rfl) (by kernel_rfl) (fun K' hK => ?_)
  go_simp
  refine (rSort_any L o a n cap _ HO.out (HP.out.later (F10.out.trans hHeld)) Hl.out (by have := Hn.out; omega)).mono ?_
  rintro e wB ⟨vT, rfl, hr, hf⟩
  rw [HS.out] at hr
  obtain ⟨aT, cT, rfl, hkT⟩ := KsAt.of_own hr rfl
  rw [Hs.out]
  have PT := Lib.hid hkT
  have hB := hHeld.trans hf
  clear hf hr hkT hHeld
  go_wp2_with fail
  refine hK.out _ _ hB (fun hHeld => ?_)
  clear hK K'
  try simp only [Act.put, List.setIfInBounds_toArray, List.set_cons_zero, List.set_cons_succ]
  clear hB
  refine take_call (i := 3) rfl (by kernel_rfl) (by kernel_rfl) (fun K' hK => ?_)
  go_simp
  refine (HRe2.out _ _ _ PT.out).mono ?_
  rintro e wC ⟨rfl, hf⟩
  have hB := hHeld.trans hf
  clear hf hHeld
  go_wp2_with fail
  refine hK.out _ _ hB (fun hHeld => ?_)
  clear hK K'
  try simp only [Act.put, List.setIfInBounds_toArray, List.set_cons_zero, List.set_cons_succ]
  clear hB
  have F12 := Lib.hid (F10.out.trans hHeld)
  have P1 := Lib.hid (P1.out.later hHeld)
  have P2 := Lib.hid (P2.out.later hHeld)
  have R2 := Lib.hid (fun h0 => ownsRow_q_fr (R2.out h0) hHeld (fun _ _ h => h))
  refine take_on (i := 4) (v := .tuple #[.int .i64 (i2 : Int), .bool b2, .int .i64 0]) rfl (by kernel_rfl) (by kernel_rfl) (by kernel_rfl) (fun _ _ _ h => h) (by kernel_rfl) (fun W' hSW => ?_) (by assumption) ?_
  · clear hSW
    first | (go_simp; done) | exact rfl | (go_simp; rfl) | (go_simp; omega)
  try simp only [Act.put, List.setIfInBounds_toArray, List.set_cons_zero, List.set_cons_succ]
  refine take_on (i := 5) (v := .int .i64 (i2 : Int)) rfl (by kernel_rfl) (by kernel_rfl) (by kernel_rfl) (fun _ _ _ h => h) (by kernel_rfl) (fun W' hSW => ?_) (by assumption) ?_
  · clear hSW
    first | (go_simp; done) | exact rfl | (go_simp; rfl) | (go_simp; omega)
  try simp only [Act.put, List.setIfInBounds_toArray, List.set_cons_zero, List.set_cons_succ]
  refine take_on (i := 6) (v := .bool b2) rfl (by kernel_rfl) (by kernel_rfl) (by kernel_rfl) (fun _ _ _ h => h) (by kernel_rfl) (fun W' hSW => ?_) (by assumption) ?_
  · clear hSW
    first | (go_simp; done) | exact rfl | (go_simp; rfl) | (go_simp; omega)
  try simp only [Act.put, List.setIfInBounds_toArray, List.set_cons_zero, List.set_cons_succ]
  refine take_on (i := 7) (v := .int .i64 0) rfl (by kernel_rfl) (by kernel_rfl) (by kernel_rfl) (fun _ _ _ h => h) (by kernel_rfl) (fun W' hSW => ?_) (by assumption) ?_
  · clear hSW
    first | (go_simp; done) | exact rfl | (go_simp; rfl) | (go_simp; omega)
  try simp only [Act.put, List.setIfInBounds_toArray, List.set_cons_zero, List.set_cons_succ]
  refine take_on (i := 8) (v := .int .i64 (i2 : Int)) rfl (by kernel_rfl) (by kernel_rfl) (by kernel_rfl) (fun _ _ _ h => h) (by kernel_rfl) (fun W' hSW => ?_) (by assumption) ?_
  · clear hSW
    first | (go_simp; done) | exact rfl | (go_simp; rfl) | (go_simp; omega)
  try simp only [Act.put, List.setIfInBounds_toArray, List.set_cons_zero, List.set_cons_succ]
  refine take_on (i := 9) (v := .bool b2) rfl (by kernel_rfl) (by kernel_rfl) (by kernel_rfl) (fun _ _ _ h => h) (by kernel_rfl) (fun W' hSW => ?_) (by assumption) ?_
  · clear hSW
    first | (go_simp; done) | exact rfl | (go_simp; rfl) | (go_simp; omega)
  try simp only [Act.put, List.setIfInBounds_toArray, List.set_cons_zero, List.set_cons_succ]
  refine wpAnyH_done (by kernel_rfl) ?_ _
  clear hHeld PT KB HX
  go_wp2_with fail
  go_loopw [13, 79] (fun _ c wr => ∃ j : Nat, c = .int .i64 j ∧ j ≤ s ∧ Hid (RowLeft B a2 s c2 wr) ∧ Hid (Fr0 (fun k => 0 < s ∧ (.slice a2 s c2 : Value).ownBlock = some k) wC wr)) (fun _ c _ => s - (Go.RowKit.intOf c).toNat)
  case atStart => exact ⟨0, rfl, Nat.zero_le _, fun h0 => ⟨S, Hs.out, R2.out h0⟩, Fr0.refl _ _⟩
  case round =>
    obtain ⟨j, rfl, hj, hR, hf⟩ := hrel
    by_cases hlt : j < s
    · have d0 : decide ((j : Int) < (s : Int)) = true := decide_eq_true (by omega)
      have e5 : IntKind.i64.wrap ((j : Int) + 1) = (j : Int) + 1 := IntWalk.i64_in _ (by have := Hsn.out; omega)
      have c01 : (0 : Int) ≤ (j : Int) := by omega
      have c02 : (j : Int) < (s : Int) := by omega
      obtain ⟨X, hX, hr⟩ := hR.out (by omega)
      obtain ⟨g, cap', cur, hv, hgb, _⟩ : ∃ g cap' cur, (.slice a2 s c2 : Value) = .slice (some ⟨g, 0, none⟩) s cap' ∧ B ≤ g ∧ wr.heap[g]? = some cur := by
        rcases hr.2 with ⟨h0, hz⟩ | ⟨g, cap', cur, h1, hb, hh, _⟩
        · omega
        · exact ⟨g, cap', _, h1, hb, hh⟩
      cases hv
      have f0 := row_frozen hr (j * 3)
      have f1 := row_frozen hr (j * 3 + 1)
      have f2 := row_frozen hr (j * 3 + 2)
      obtain ⟨x1, hx1⟩ : ∃ x, X[j]? = some x := ⟨_, List.getElem?_eq_getElem (by rw [hX]; exact hlt)⟩
      obtain ⟨g1, o1, e1', hc⟩ := rowKs hr hX j x1 hx1
      cases e1'
      rw [Nat.zero_add] at hc
      obtain ⟨y0, y1, y2⟩ := hc
      have Hr := Lib.hid hr
      have HX := Lib.hid hX
      have Hlt := Lib.hid hlt
      clear hr hX hx1 hlt
      go_wp2_with fail
      exact ⟨⟨j + 1, by simp, by have := Hlt.out; omega, fun _ => ⟨X.set j ⟨-1, 0, 0⟩, by rw [List.length_set]; exact HX.out, row_setK (x := ⟨-1, 0, 0⟩) Hr.out HX.out Hlt.out⟩, ((hf.out.setCell (fun _ => ⟨by have := Hlt.out; omega, rfl⟩) _).setCell (fun _ => ⟨by have := Hlt.out; omega, rfl⟩) _).setCell (fun _ => ⟨by have := Hlt.out; omega, rfl⟩) _⟩, by simp [Go.RowKit.intOf]; have := Hlt.out; omega⟩
    · obtain rfl : j = s := by omega
      have d0 : decide ((j : Int) < (j : Int)) = false := decide_eq_false (by omega)
      have hgB : ∀ k, k < B → ¬ (0 < j ∧ (.slice a2 j c2 : Value).ownBlock = some k) := fun k hk h => by
        have := ((R2.out h.1).lt k h.2).1
        omega
      have hwB : w.heap.size ≤ B := by rw [← HB.out]; exact F1.out.size
      have PF := Lib.hid (PA1.out.off P1.out hf.out (fun k hk => hgB k (by rw [← HB.out]; exact hk)))
      have PL := Lib.hid (HP.out.off (HP.out.later F12.out) hf.out (fun k hk => hgB k (Nat.lt_of_lt_of_le hk hwB)))
      have FF := Lib.hid (F12.out.trans' hf.out (fun k hk h => hgB k (Nat.lt_of_lt_of_le hk hwB) h))
      have z1 : ((i2 : Int) == (i2 : Int)) = true := by simp
      have z2 : (b2 == b2) = true := by simp
      clear hgB hwB hf hR
      go_wp2_with fail
      refine (sameKs_any a1 a n n c1 cap L L _ Hl.out Hl.out (by have := Hn.out; omega) (by have := Hn.out; omega) PF.out PL.out).mono ?_
      rintro e wD ⟨rfl, hf⟩
      rw [show decide (L = L) = true from decide_eq_true rfl]
      have FE := Lib.hid (FF.out.trans hf)
      clear hf
      go_wp2_with fail
      go_ret
      exact ⟨rfl, FE.out⟩
end Go.Proofs.YtpklgpdlkdlbbaaGreatDoor

/-
  bytes.Compare.
-/
namespace Go.Proofs.YtpklgpdlkdlbbaaGreatDoor
open Go Go.RowKit
attribute [local go_sem ↓] Go.wp_at_zero Go.wp_at_succ

theorem run_bytesOf {w : World} {a : Option Addr} {n cap : Nat} {l : List UInt8} (h : BsIn w a l) (hn : l.length = n) : (Extern.Bytes.bytesOf (.slice a n cap)).run Tryz.prog w = .ok ⟨l.toArray⟩ w := by
  subst hn
  cases l with
  | nil => cases a <;> rfl
  | cons x r =>
    obtain ⟨g, o, rfl, _⟩ := h 0 x rfl
    have hl := Lib.run_loadBytesX (P := Tryz.prog) w ((x :: r).map fun b => (b.toNat : Int)) ⟨g, o, none⟩ .empty (fun j y hy => by
      rw [List.getElem?_map] at hy
      obtain ⟨z, hz, rfl⟩ := Option.map_eq_some_iff.1 hy
      obtain ⟨g', o', e, hc⟩ := h j z hz
      injection e with e
      injection e with e e'
      subst e; subst e'
      unfold Addr.add
      split
      · next h0 => subst h0; exact hc
      · exact hc)
    have he : Lib.bytesOf ((x :: r).map fun b => (b.toNat : Int)) = x :: r := by
      have : ∀ l : List UInt8, Lib.bytesOf (l.map fun b => (b.toNat : Int)) = l := fun l => by
        induction l with
        | nil => rfl
        | cons b l ih => rw [List.map_cons]; unfold Lib.bytesOf at ih ⊢; rw [List.map_cons, ih]; simp
      exact this _
    rw [he, List.length_map] at hl
    refine hl.trans ?_
    congr 1
    apply ByteArray.ext
    show (#[] : Array UInt8) ++ (x :: r).toArray = (x :: r).toArray
    simp
theorem run_compare {w : World} {a b : Option Addr} {n m c d : Nat} {l r : List UInt8} (ha : BsIn w a l) (hl : l.length = n) (hb : BsIn w b r) (hr : r.length = m) :
    (Extern.BytealgCompare.compare #[.slice a n c, .slice b m d]).run Tryz.prog w = .ok (.int .i64 (Lib.compareBytes l r)) w := by
  change Sem.run Tryz.prog (do pure (goInt (Extern.BytealgCompare.cmp (← Extern.Bytes.bytesOf (.slice a n c)) (← Extern.Bytes.bytesOf (.slice b m d))))) w = _
  simp only [Sem.run_bind, run_bytesOf ha hl, run_bytesOf hb hr, Sem.run_pure, Result.andThen]
  rw [Lib.cmp_eq]
  rfl
theorem compareBytes_be : ∀ n x y, x < 256 ^ n → y < 256 ^ n → Lib.compareBytes (beB n x) (beB n y) = cmpI x y
  | 0, x, y, hx, hy => by
    have : x = 0 := by omega
    have : y = 0 := by omega
    subst_vars; rfl
  | n + 1, x, y, hx, hy => by
    have hp : 0 < 256 ^ n := Nat.pos_of_ne_zero (by simp)
    rw [Nat.pow_succ] at hx hy
    have qx : x / 256 ^ n < 256 := by rw [Nat.div_lt_iff_lt_mul hp, Nat.mul_comm]; exact hx
    have qy : y / 256 ^ n < 256 := by rw [Nat.div_lt_iff_lt_mul hp, Nat.mul_comm]; exact hy
    have ih := compareBytes_be n (x % 256 ^ n) (y % 256 ^ n) (Nat.mod_lt _ hp) (Nat.mod_lt _ hp)
    rw [beB_mod n (x % 256 ^ n) x (by rw [Nat.mod_mod]), beB_mod n (y % 256 ^ n) y (by rw [Nat.mod_mod])] at ih
    have dx := Nat.div_add_mod x (256 ^ n)
    have dy := Nat.div_add_mod y (256 ^ n)
    have mx := Nat.mod_lt x hp
    have my := Nat.mod_lt y hp
    have l1 : (UInt8.ofNat (x / 256 ^ n % 256) < UInt8.ofNat (y / 256 ^ n % 256)) ↔ x / 256 ^ n < y / 256 ^ n := by
      rw [UInt8.lt_iff_toNat_lt]; simp [Nat.mod_eq_of_lt qx, Nat.mod_eq_of_lt qy]
    have l2 : (UInt8.ofNat (y / 256 ^ n % 256) < UInt8.ofNat (x / 256 ^ n % 256)) ↔ y / 256 ^ n < x / 256 ^ n := by
      rw [UInt8.lt_iff_toNat_lt]; simp [Nat.mod_eq_of_lt qx, Nat.mod_eq_of_lt qy]
    rw [beB, beB, Lib.compareBytes]
    generalize hX : x / 256 ^ n = X at *
    generalize hY : y / 256 ^ n = Y at *
    generalize hM : 256 ^ n = M at *
    by_cases h1 : X < Y
    · rw [if_pos (l1.2 h1)]
      have : x < y := by
        have : M * (X + 1) ≤ M * Y := Nat.mul_le_mul_left _ h1
        rw [Nat.mul_add] at this; omega
      unfold cmpI; rw [if_pos (by omega)]
    · rw [if_neg (fun h => h1 (l1.1 h))]
      by_cases h2 : Y < X
      · rw [if_pos (l2.2 h2)]
        have : y < x := by
          have : M * (Y + 1) ≤ M * X := Nat.mul_le_mul_left _ h2
          rw [Nat.mul_add] at this; omega
        unfold cmpI; rw [if_neg (by omega), if_pos (by omega)]
      · rw [if_neg (fun h => h2 (l2.1 h)), ih]
        have e : X = Y := by omega
        subst e
        unfold cmpI
        repeat' split
        all_goals omega
theorem compareBytes_append (p q a b : List UInt8) (h : p.length = q.length) : Lib.compareBytes (p ++ a) (q ++ b) = if Lib.compareBytes p q ≠ 0 then Lib.compareBytes p q else Lib.compareBytes a b := by
  induction p generalizing q with
  | nil =>
    cases q with
    | nil => simp [Lib.compareBytes]
    | cons => simp at h
  | cons x p ih =>
    cases q with
    | nil => simp at h
    | cons y q =>
      simp only [List.cons_append, Lib.compareBytes]
      split
      · simp
      · split
        · simp
        · exact ih q (by simpa using h)
/-- The order of the bytes is the order of the keys. -/
theorem compareBytes_key {x y : Key3} (hx : RightK x) (hy : RightK y) : Lib.compareBytes (bytesK x) (bytesK y) = cmpK x y := by
  obtain ⟨x1, x2, x3, x4, x5, x6⟩ := hx
  obtain ⟨y1, y2, y3, y4, y5, y6⟩ := hy
  unfold bytesK
  rw [compareBytes_append _ _ _ _ (by rw [beB_length, beB_length]), compareBytes_append _ _ _ _ (by rw [beB_length, beB_length]),
    compareBytes_be 7 _ _ (by omega) (by omega), compareBytes_be 1 _ _ (by omega) (by omega), compareBytes_be 4 _ _ (by omega) (by omega),
    Int.toNat_of_nonneg x1, Int.toNat_of_nonneg y1, Int.toNat_of_nonneg x3, Int.toNat_of_nonneg y3, Int.toNat_of_nonneg x5, Int.toNat_of_nonneg y5]
  unfold cmpK
  simp only [ne_eq, cmpI_eq]
end Go.Proofs.YtpklgpdlkdlbbaaGreatDoor

/-
  KeyBytes.
-/
namespace Go.Proofs.YtpklgpdlkdlbbaaGreatDoor
open Go Go.RowKit
attribute [local go_sem ↓] Go.wp_at_zero Go.wp_at_succ
attribute [local go_sem] Oper.semAt_some wide_fn wide_depth wide_fnR wide_depthR
attribute [local go_sem high] run_neq_k run_eql_k

theorem Right_drew (k : Key3) (hk : RightK k) (w : World) : Calls Tryz.prog 11 #[keyV k] w fun e w' => e = .returned (.bool true) ∧ Fr0 none' w w' := by
  have h := Right_any k w
  rw [decide_eq_true hk] at h
  exact h
theorem row_caps {w : World} {base g n cap : Nat} {e : TypeId} {xs : List Value} (h : w.ownsRow base e 1 (.slice (some ⟨g, 0, none⟩) n cap) n xs) : n ≤ cap ∧ cap ≤ maxLen := by
  rcases h.2 with ⟨h0, _⟩ | ⟨g', cap', cur, h1, hb, hg, hn, hm, _⟩
  · cases h0
  · cases h1; exact ⟨hn, hm⟩
theorem text_small {k : Key3} (h : RightK k) : (⟨(textK k).toArray⟩ : ByteArray).size ≤ 1000 := by
  have h1 : (textK k).length ≤ 70 := preT_len h (i := 3) (by omega)
  show (textK k).toArray.size ≤ 1000
  rw [List.size_toArray]
  omega
theorem text_eq {x y : Key3} (hx : RightK x) (hy : RightK y) : (textK x == textK y) = sameK x y := by
  rw [Bool.eq_iff_iff]
  unfold sameK
  simp only [beq_iff_eq, decide_eq_true_eq]
  exact ⟨fun h => by have := parseK_text hx; rw [h, parseK_text hy] at this; exact (Option.some.inj this).symm, fun h => by rw [h]⟩
end Go.Proofs.YtpklgpdlkdlbbaaGreatDoor
