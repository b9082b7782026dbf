/-
  Spaces: what each function of the package does, and what the laws make of it.
-/
import Derived.Test.YtieeloealklkgaaGreatDoorJb3
set_option linter.unusedSimpArgs false
set_option linter.unusedVariables false

/-
  What acts do with a space, and with the reference: acts.
-/
namespace Go.Proofs.YtieeloealklkgaaGreatDoor
open Go.RowKit Go.Maps
attribute [local go_sem ↓] Go.wp_at_zero Go.wp_at_succ
attribute [local go_sem high] run_eql_pt run_neq_pt run_neq_rpt

/-- The reference's space in memory, beside a space. -/
structure RSt (w : World) (rb sb mb : Nat) (nv : Value) (lim nx : Int) (L : List Pt) (ra : Option Addr) (rc : Nat) (W0 : World) : Prop where
  hrb : w.heap[rb]? = some (.cells #[.int .i64 lim, .int .i64 nx, .slice ra L.length rc] 65 (0, 0))
  hpt : PtsIn w ra L
  hc1 : L.length ≤ rc
  hc2 : rc ≤ maxLen
  hne : ¬ sfoot sb mb nv rb ∧ W0.heap.size ≤ rb
  hra : ∀ g o s, ra = some ⟨g, o, s⟩ → g ≠ sb ∧ g ≠ mb ∧ g ≠ rb ∧ W0.heap.size ≤ g
theorem RSt.later {w w' : World} {rb sb mb : Nat} {nv : Value} {lim nx : Int} {L : List Pt} {ra : Option Addr} {rc : Nat} {W0 : World} (h : RSt w rb sb mb nv lim nx L ra rc W0) (hf : Fr0 none' w w') : RSt w' rb sb mb nv lim nx L ra rc W0 :=
  ⟨(hf.block rb (Array.getElem?_eq_some_iff.1 h.hrb).1 id).trans h.hrb, h.hpt.later hf, h.hc1, h.hc2, h.hne, h.hra⟩
theorem RSt.step {w w' : World} {rb sb mb : Nat} {nv nv' : Value} {lim nx : Int} {L : List Pt} {ra : Option Addr} {rc : Nat} {W0 : World} (h : RSt w rb sb mb nv lim nx L ra rc W0) (hs : SStep sb mb nv nv' w w') : RSt w' rb sb mb nv' lim nx L ra rc W0 :=
  ⟨(hs.block h.hne.1 (Array.getElem?_eq_some_iff.1 h.hrb).1).trans h.hrb, h.hpt.fr0 hs.fr (fun g o s e k => k.elim (h.hra g o s e).1 (h.hra g o s e).2.1), h.hc1, h.hc2, ⟨hs.not h.hne.1 (Array.getElem?_eq_some_iff.1 h.hrb).1, h.hne.2⟩, h.hra⟩
/-- The copies that were made ahead of an act. -/
structure OldSt (w : World) (cb cm : Nat) (cnv : Value) (wb : Nat) (lim nx : Int) (L : List Pt) (ra : Option Addr) (l rc : Nat) : Prop where
  is : SpaceIs w cb cm cnv lim nx L
  hw : w.heap[wb]? = some (.cells #[.int .i64 lim, .int .i64 nx, .slice ra l rc] 65 (0, 0))
  pt : PtsIn w ra L
theorem OldSt.fr0 {w w' : World} {cb cm : Nat} {cnv : Value} {wb : Nat} {lim nx : Int} {L : List Pt} {ra : Option Addr} {l rc : Nat} {Sx : Nat → Prop} (h : OldSt w cb cm cnv wb lim nx L ra l rc) (hf : Fr0 Sx w w') (h1 : ∀ k, sfoot cb cm cnv k → ¬ Sx k) (h2 : ¬ Sx wb) (h3 : ∀ g o s, ra = some ⟨g, o, s⟩ → ¬ Sx g) : OldSt w' cb cm cnv wb lim nx L ra l rc :=
  ⟨h.is.fr0 hf h1, (hf.block wb (Array.getElem?_eq_some_iff.1 h.hw).1 h2).trans h.hw, h.pt.fr0 hf h3⟩
theorem OldSt.later {w w' : World} {cb cm : Nat} {cnv : Value} {wb : Nat} {lim nx : Int} {L : List Pt} {ra : Option Addr} {l rc : Nat} (h : OldSt w cb cm cnv wb lim nx L ra l rc) (hf : Fr0 none' w w') : OldSt w' cb cm cnv wb lim nx L ra l rc := h.fr0 hf (fun _ _ h => h) (fun h => h) (fun _ _ _ _ h => h)
set_option maxRecDepth 100000 in
set_option maxHeartbeats 16000000 in
theorem acts_any {w : World} {v : Value} {xs : List Act4} (hu : ActsAt w v xs) (lim nx : Int) :
    Calls Tryz.prog 5 #[.int .i64 lim, .int .i64 nx, v] w fun e w' => e = .returned (.bool true) ∧ Fr0 none' w w' := by
  obtain ⟨A, cap, rfl, hA⟩ := hu
  obtain ⟨n, hn⟩ : ∃ n, xs.length = n := ⟨_, rfl⟩
  rw [hn]
  have Hn := Lib.hid hn
  have HA := Lib.hid hA
  clear hn hA
  by_cases h60 : 60 < n
  · have d1 : decide ((60 : Int) < (n : Int)) = true := decide_eq_true (by omega)
    go_enter Tryz.func5, Tryz.ntmps5
    go_wp2
    go_ret
    exact ⟨rfl, Fr0.refl _ _⟩
  · have d1 : decide ((60 : Int) < (n : Int)) = false := decide_eq_false (by omega)
    have d2 : decide (60 < n) = false := decide_eq_false (by omega)
    have hn60 : n ≤ 60 := by omega
    clear h60
    go_enter Tryz.func5, Tryz.ntmps5
    go_wp2_with fail
    go_loopw [32] (fun i wr => ∃ k : Nat, k ≤ n ∧ i = .int .i64 k ∧ Hid (∀ x ∈ xs.take k, x.name.size ≤ 60) ∧ Hid (Fr0 none' w wr)) (fun i _ => n - (Go.RowKit.intOf i).toNat)
    case atStart => exact ⟨0, Nat.zero_le _, rfl, by unfold Hid; simp, Fr0.refl _ _⟩
    case round =>
      obtain ⟨k, hk, rfl, hpre, hfr⟩ := hrel
      by_cases hlt : k < n
      · obtain ⟨x, hx⟩ : ∃ x, xs[k]? = some x := ⟨_, List.getElem?_eq_getElem (by rw [Hn.out]; exact hlt)⟩
        obtain ⟨hok, g, o, rfl, d0, d1', d2', d3⟩ := HA.out k x hx
        have d0 := hfr.out.later d0
        have d1' := hfr.out.later d1'
        have d2' := hfr.out.later d2'
        have d3 := hfr.out.later d3
        obtain ⟨W1, hW1⟩ : ∃ W, wr.alloc (.cells #[.int .u8 x.kind, .string x.name, .int .i64 x.num, .int .i64 x.proc] 23) = W := ⟨_, rfl⟩
        obtain ⟨AB, hAB⟩ : ∃ X, wr.heap.size = X := ⟨_, rfl⟩
        have hxx : W1.heap[AB]? = some (.cells #[.int .u8 x.kind, .string x.name, .int .i64 x.num, .int .i64 x.proc] 23 (0, 0)) := by rw [← hW1, ← hAB]; exact World.alloc_heap_new wr _
        have f1 := Lib.hid (hfr.out.trans (show Fr0 none' wr W1 by rw [← hW1]; exact (Fr0.refl _ _).alloc _))
        have x1 := cells_in hxx 1
        simp at x1
        have k1 : (0 : Int) ≤ (k : Int) := by omega
        have k2 : (k : Int) < (n : Int) := by omega
        by_cases hl : x.name.size ≤ 60
        · have hnext := Lib.hid (show ∀ y ∈ xs.take (k + 1), y.name.size ≤ 60 from fun y hy => by
            rw [List.take_add_one, hx, List.mem_append] at hy
            rcases hy with hy | hy
            · exact hpre.out y hy
            · simp at hy; subst hy; exact hl)
          have e1 : decide ((60 : Int) < (x.name.size : Int)) = false := decide_eq_false (by omega)
          have e2 : decide (60 < x.name.size) = false := decide_eq_false (by omega)
          clear hx hxx hok hl
          go_wp2
          go_roundw
          case rel => exact ⟨k + 1, by omega, by go_num, hnext, f1⟩
          case measure => simp [Go.RowKit.intOf]; omega
        · have e1 : decide ((60 : Int) < (x.name.size : Int)) = true := decide_eq_true (by omega)
          have e2 : decide (60 < x.name.size) = true := decide_eq_true (by omega)
          clear hx hxx hok hl
          go_wp2
          go_ret
          exact ⟨rfl, f1.out⟩
      · have hkn : n = k := by omega
        subst hkn
        rw [List.take_of_length_le (by rw [Hn.out]; exact Nat.le_refl _)] at hpre
        clear hlt hk
        obtain ⟨W0, hW0⟩ : ∃ W, W = wr := ⟨_, rfl⟩
        subst hW0
        by_cases hbad : lim < 0 ∨ 64 < lim ∨ nx < 1 ∨ 4294967295 < nx
        · go_wp2_with fail
          refine (SNew_no lim nx W0 hbad).mono ?_
          rintro e w1 ⟨rfl, rfl⟩
          rcases hbad with h | h | h | h
          all_goals
            have e1 : decide (lim < 0) = decide (lim < 0) := rfl
            by_cases g1 : lim < 0
            · go_wp2
              go_ret
              exact ⟨rfl, hfr.out⟩
            · by_cases g2 : 64 < lim
              · go_wp2
                go_ret
                exact ⟨rfl, hfr.out⟩
              · by_cases g3 : nx < 1
                · go_wp2
                  go_ret
                  exact ⟨rfl, hfr.out⟩
                · have g4 : 4294967295 < nx := by omega
                  go_wp2
                  go_ret
                  exact ⟨rfl, hfr.out⟩
        · have g1 : decide (lim < 0) = false := decide_eq_false (by omega)
          have g2 : decide (64 < lim) = false := decide_eq_false (by omega)
          have g3 : decide (nx < 1) = false := decide_eq_false (by omega)
          have g4 : decide (4294967295 < nx) = false := decide_eq_false (by omega)
          go_wp2_with fail
          refine (new_st lim nx W0 (by omega) (by omega)).mono ?_
          rintro e w1 ⟨sb, mb, rfl, hS⟩
          have S := Lib.hid hS
          clear hS
          go_wp2_with fail
          obtain ⟨W2, hW2⟩ : ∃ W, w1.alloc (.cells #[.int .i64 lim, .int .i64 nx, .slice none 0 0] 65) = W := ⟨_, rfl⟩
          obtain ⟨RB, hRB⟩ : ∃ X, w1.heap.size = X := ⟨_, rfl⟩
          have hrb : W2.heap[RB]? = some (.cells #[.int .i64 lim, .int .i64 nx, .slice none 0 0] 65 (0, 0)) := by rw [← hW2, ← hRB]; exact World.alloc_heap_new w1 _
          have hf := (show Fr0 none' w1 W2 by rw [← hW2]; exact (Fr0.refl _ _).alloc _)
          have R0 := Lib.hid (show RSt W2 RB sb mb (.slice none 0 0) lim nx [] none 0 W0 from ⟨hrb, PtsIn.nil _ _, Nat.le_refl _, by unfold maxLen; omega, ⟨fun h => by have := S.out.is.lt _ h; omega, hRB ▸ S.out.fr.size⟩, fun g o s e => by cases e⟩)
          have S := Lib.hid (S.out.later hf)
          rw [hW2, hRB]
          clear hW2 hRB hrb hf g1 g2 g3 g4 d1 d2
          go_loopw [78] (fun i wr => ∃ (k : Nat) (nx' : Int) (L : List Pt) (nv : Value) (ra : Option Addr) (rc : Nat), k ≤ n ∧ i = .int .i64 k ∧ Hid (SpSt W0 wr sb mb nv lim nx' L []) ∧ Hid (RSt wr RB sb mb nv lim nx' L ra rc W0)) (fun i _ => n - (Go.RowKit.intOf i).toNat)
          case atStart => exact ⟨0, _, _, _, _, _, Nat.zero_le _, rfl, S, R0⟩
          case round =>
            clear S R0
            obtain ⟨k, nxx, L, nv, ra, rc, hk, rfl, S, R⟩ := hrel
            obtain ⟨l, hl⟩ : ∃ l, L.length = l := ⟨_, rfl⟩
            have Hl := Lib.hid hl
            by_cases hlt : k < n
            · obtain ⟨x, hx⟩ : ∃ x, xs[k]? = some x := ⟨_, List.getElem?_eq_getElem (by rw [Hn.out]; exact hlt)⟩
              obtain ⟨hok, g, o, rfl, d0, d1', d2', d3⟩ := HA.out k x hx
              have hfw := hfr.out.trans S.out.fr
              have d0 := hfw.later d0
              have d1' := hfw.later d1'
              have d2' := hfw.later d2'
              have d3 := hfw.later d3
              have hx60 := hpre.out x (List.mem_of_getElem? hx)
              obtain ⟨xk, xn, xm, xp⟩ := x
              obtain ⟨hok1, hok2, hok3⟩ := hok
              simp only at d0 d1' d2' d3 hx60 hok1 hok2 hok3
              obtain ⟨s, rfl⟩ : ∃ s, bs s = xn := ⟨xn.data.toList, by simp [bs]⟩
              have hs60 : s.length ≤ 60 := by rw [size_bs] at hx60; exact hx60
              obtain ⟨W3, hW3⟩ : ∃ W, wr.alloc (.cells #[.int .u8 xk, .string (bs s), .int .i64 xm, .int .i64 xp] 23) = W := ⟨_, rfl⟩
              obtain ⟨AB, hAB⟩ : ∃ X, wr.heap.size = X := ⟨_, rfl⟩
              have hf := (show Fr0 none' wr W3 by rw [← hW3]; exact (Fr0.refl _ _).alloc _)
              have S := Lib.hid (show SpSt W0 W3 sb mb nv lim nxx L ((AB, .cells #[.int .u8 xk, .string (bs s), .int .i64 xm, .int .i64 xp] 23 (0, 0)) :: _) from hW3 ▸ hAB ▸ S.out.alloc _)
              have HAR := Lib.hid (show AB ≠ RB from by have := (Array.getElem?_eq_some_iff.1 R.out.hrb).1; omega)
              have R := Lib.hid (R.out.later hf)
              have Hok := Lib.hid (show (0 ≤ xk ∧ xk < 256) ∧ (-9223372036854775808 ≤ xm ∧ xm ≤ 9223372036854775807) ∧ (-9223372036854775808 ≤ xp ∧ xp ≤ 9223372036854775807) from ⟨hok1, hok2, hok3⟩)
              have k1 : (0 : Int) ≤ (k : Int) := by omega
              have k2 : (k : Int) < (n : Int) := by omega
              have r0 := cells_in R.out.hrb 0
              have r1 := cells_in R.out.hrb 1
              have r2 := cells_in R.out.hrb 2
              simp at r0 r1 r2
              rw [hl] at r2
              clear hx hx60 hf hok1 hok2 hok3 hl hfw
              go_wp2_with fail
              clear hW3 hAB
              have HLT0 := Lib.hid (show sb < W3.heap.size ∧ mb < W3.heap.size ∧ RB < W3.heap.size from ⟨S.out.is.lt sb (.inl rfl), S.out.is.lt mb (.inr (.inl rfl)), (Array.getElem?_eq_some_iff.1 R.out.hrb).1⟩)
              have Skey := Lib.hid (show ∀ W', Fr0 none' W3 W' → W'.cell? ⟨RB, 0, none⟩ = some (.int .i64 lim) ∧ W'.cell? ⟨RB, 1, none⟩ = some (.int .i64 nxx) ∧ W'.cell? ⟨RB, 2, none⟩ = some (.slice ra l rc) from fun W' hf => ⟨hf.later r0, hf.later r1, hf.later r2⟩)
              have X := Lib.hid (Fr0.refl none' W3).drew
              refine wp_region_held_drew (S := fun W' => W'.cell? ⟨RB, 0, none⟩ = some (.int .i64 lim) ∧ W'.cell? ⟨RB, 1, none⟩ = some (.int .i64 nxx) ∧ W'.cell? ⟨RB, 2, none⟩ = some (.slice ra l rc)) (by kernel_rfl) (Skey.out _ X.out) (fun hHeld => ?_)
              obtain ⟨WD, hWD⟩ : ∃ W, W3.drew = W := ⟨_, rfl⟩
              rw [hWD] at X hHeld ⊢
              clear hWD
              refine take_on (i := 0) (v := .pointer (some ⟨sb, 0, none⟩)) rfl (by kernel_rfl) (by kernel_rfl) (by kernel_rfl) (fun _ _ _ h => h) (by kernel_rfl) (fun W' hSW => ?_) (by assumption) ?_
              · (try dsimp only at hSW)
                first | (go_simp; done) | exact rfl | (go_simp; rfl) | (go_simp; omega)
              try simp only [Act.put, List.setIfInBounds_toArray, List.set_cons_zero, List.set_cons_succ]
              refine take_on (i := 2) (v := .agg #[.int .i64 lim, .int .i64 nxx, .slice ra l rc]) rfl (by kernel_rfl) (by kernel_rfl) (by kernel_rfl) (fun _ _ _ h => h) (by kernel_rfl) (fun W' hSW => ?_) (by assumption) ?_
              · (try dsimp only at hSW)
                first | (go_simp; done) | exact rfl | (go_simp; rfl) | (go_simp; omega)
              try simp only [Act.put, List.setIfInBounds_toArray, List.set_cons_zero, List.set_cons_succ]
              refine wpAnyH_ready (rs := [1, 3]) (by kernel_rfl) (by simp) (AllReadyH.cons (op_at rfl) (fun K hK => ?_) (AllReadyH.cons (op_at rfl) (fun K hK => ?_) AllReadyH.nil))
              · rw [if_pos (by kernel_rfl)]
                go_simp
                refine (Copy_is (S.out.later X.out).is).mono ?_
                rintro e w4 ⟨cb, cm, cnv, rfl, hc, hf, hnew⟩
                have C0 := Lib.hid (show SpaceIs w4 cb cm cnv lim nxx L ∧ ∀ k, sfoot cb cm cnv k → W3.heap.size ≤ k from ⟨hc, fun k hk => Nat.le_trans X.out.size (hnew k hk)⟩)
                have X := Lib.hid (X.out.trans hf)
                clear hc hf hnew
                go_wp2_with fail
                refine hK.out _ _ (Skey.out _ X.out) (fun _ => ?_)
                clear hK K
                try simp only [Act.put, List.setIfInBounds_toArray, List.set_cons_zero, List.set_cons_succ]
                refine take_call (i := 3) rfl (by kernel_rfl) (by kernel_rfl) (fun K hK => ?_)
                go_simp
                obtain ⟨V5, hV5⟩ : ∃ W, w4.alloc (.cells #[.int .i64 0, .int .i64 0, .slice none 0 0] 65) = W := ⟨_, rfl⟩
                obtain ⟨WB, hWB⟩ : ∃ X, w4.heap.size = X := ⟨_, rfl⟩
                have hwb : V5.heap[WB]? = some (.cells #[.int .i64 0, .int .i64 0, .slice none 0 0] 65 (0, 0)) := by rw [← hV5, ← hWB]; exact World.alloc_heap_new w4 _
                have fa := Lib.hid (show Fr0 none' w4 V5 by rw [← hV5]; exact (Fr0.refl _ _).alloc _)
                have hwl := Lib.hid (show W3.heap.size ≤ WB from by have := X.out.size; omega)
                have hWBl := Lib.hid (Array.getElem?_eq_some_iff.1 hwb).1
                have X := Lib.hid (X.out.trans fa.out)
                rw [hV5, hWB]
                clear hV5
                refine hK.out _ _ (Skey.out _ X.out) (fun _ => ?_)
                clear hK K
                try simp only [Act.put, List.setIfInBounds_toArray, List.set_cons_zero, List.set_cons_succ]
                have C := Lib.hid (show SpaceIs V5 cb cm cnv lim nxx L ∧ (∀ k, sfoot cb cm cnv k → W3.heap.size ≤ k) ∧ ¬ sfoot cb cm cnv WB from ⟨C0.out.1.later fa.out, C0.out.2, fun h => by have := C0.out.1.lt _ h; omega⟩)
                clear hWB C0
                refine take_call (i := 4) rfl (by kernel_rfl) (by kernel_rfl) (fun K hK => ?_)
                go_simp
                refine hK.out _ _ (Skey.out _ X.out) (fun _ => ?_)
                clear hK K
                try simp only [Act.put, List.setIfInBounds_toArray, List.set_cons_zero, List.set_cons_succ]
                refine take_call (i := 5) rfl (by kernel_rfl) (by kernel_rfl) (fun K hK => ?_)
                have y0 := thaw_in hwb 0
                have y1 := thaw_in hwb 1
                have y2 := thaw_in hwb 2
                have z0 := cells_in hwb 0
                have z1 := cells_in hwb 1
                have z2 := cells_in hwb 2
                simp at z0 z1 z2
                go_simp
                clear y0 y1 y2 z0 z1 z2
                obtain ⟨V6, hV6⟩ : ∃ W, ((V5.setCell ⟨WB, 0, none⟩ (.int .i64 lim)).setCell ⟨WB, 1, none⟩ (.int .i64 nxx)).setCell ⟨WB, 2, none⟩ (.slice ra l rc) = W := ⟨_, rfl⟩
                rw [hV6]
                have hw6 : V6.heap[WB]? = some (.cells #[.int .i64 lim, .int .i64 nxx, .slice ra l rc] 65 (0, 0)) := by
                  rw [← hV6]; simp [World.setCell, Array.getElem?_modify, hwb]
                have f6 := Lib.hid (show Fr0 (fun k => k = WB) V5 V6 by rw [← hV6]; exact (((Fr0.refl (fun k => k = WB) V5).setCell (fun _ => rfl) _).setCell (fun _ => rfl) _).setCell (fun _ => rfl) _)
                have X := Lib.hid (X.out.trans' f6.out (fun k hk e => by have := hwl.out; omega))
                clear hV6
                refine hK.out _ _ (Skey.out _ X.out) (fun _ => ?_)
                clear hK K
                try simp only [Act.put, List.setIfInBounds_toArray, List.set_cons_zero, List.set_cons_succ]
                refine wpAnyH_done (by kernel_rfl) ?_ _
                clear hHeld
                have S := Lib.hid (S.out.later X.out)
                have R := Lib.hid (R.out.later X.out)
                have C := Lib.hid (show SpaceIs V6 cb cm cnv lim nxx L ∧ ∀ k, sfoot cb cm cnv k → W3.heap.size ≤ k from ⟨C.out.1.fr0 f6.out (fun k hk e => C.out.2.2 (e ▸ hk)), C.out.2.1⟩)
                have HWB := Lib.hid (show V6.heap[WB]? = some (.cells #[.int .i64 lim, .int .i64 nxx, .slice ra l rc] 65 (0, 0)) ∧ W3.heap.size ≤ WB from ⟨hw6, hwl.out⟩)
                have HLT := Lib.hid (show sb < W3.heap.size ∧ mb < W3.heap.size ∧ RB < W3.heap.size from HLT0.out)
                clear hw6 f6 fa hwb hwl r0 r1 r2 Skey HLT0
                have O := Lib.hid (show OldSt V6 cb cm cnv WB lim nxx L ra l rc from ⟨C.out.1, HWB.out.1, R.out.hpt⟩)
                have OB := Lib.hid (show (∀ k, sfoot cb cm cnv k → k ≠ sb ∧ k ≠ mb ∧ k ≠ RB) ∧ WB ≠ sb ∧ WB ≠ mb ∧ WB ≠ RB from
                  ⟨fun k hk => by have := C.out.2 k hk; have := HLT.out; omega, by have := HWB.out.2; have := HLT.out; omega⟩)
                have HC1 := Lib.hid (show l ≤ rc ∧ rc ≤ maxLen from ⟨Hl.out ▸ R.out.hc1, R.out.hc2⟩)
                clear C HWB X
                obtain ⟨q, hq⟩ : ∃ q, xk.tmod 6 = q := ⟨_, rfl⟩
                have hq6 : q = 0 ∨ q = 1 ∨ q = 2 ∨ q = 3 ∨ q = 4 ∨ q = 5 := by
                  rw [← hq, Int.tmod_eq_emod_of_nonneg Hok.out.1.1]; omega
                have hqw : IntKind.u8.wrap q = q := by
                  have : ∀ z : Int, z = 0 ∨ z = 1 ∨ z = 2 ∨ z = 3 ∨ z = 4 ∨ z = 5 → IntKind.u8.wrap z = z := by rintro z (rfl | rfl | rfl | rfl | rfl | rfl) <;> decide
                  exact this q hq6
                have xx := (S.out.ex (AB, .cells #[.int .u8 xk, .string (bs s), .int .i64 xm, .int .i64 xp] 23 (0, 0)) (by simp)).1
                have x0 := cells_in xx 0
                have x1 := cells_in xx 1
                have x2 := cells_in xx 2
                have x3 := cells_in xx 3
                simp at x0 x1 x2 x3
                clear xx
                rcases hq6 with rfl | rfl | rfl | rfl | rfl | rfl
                · skip
                  go_wp2_with fail
                  have HC := open_st S.out s (by omega) xp
                  obtain ⟨N, hN⟩ : ∃ N, openN lim nxx L s xp = N := ⟨_, rfl⟩
                  obtain ⟨E, hE⟩ : ∃ N, openE lim nxx L s xp = N := ⟨_, rfl⟩
                  rw [hN, hE] at HC
                  refine HC.mono ?_
                  rintro e w7 ⟨rfl, nv7, hS, hst⟩
                  have R := Lib.hid (R.out.step hst)
                  have O := Lib.hid (O.out.fr0 hst.fr (fun k hk h => h.elim (OB.out.1 k hk).1 (OB.out.1 k hk).2.1) (fun h => h.elim OB.out.2.1 OB.out.2.2.1) (fun g o s e h => h.elim (R.out.hra g o s e).1 (R.out.hra g o s e).2.1))
                  have S0 := S
                  have HW7 := Lib.hid (show sb < w7.heap.size ∧ mb < w7.heap.size ∧ RB < w7.heap.size ∧ W0.heap.size ≤ w7.heap.size from ⟨hS.is.lt sb (.inl rfl), hS.is.lt mb (.inr (.inl rfl)), (Array.getElem?_eq_some_iff.1 R.out.hrb).1, hS.fr.size⟩)
                  have S := Lib.hid hS
                  clear HC hS hst x0 x1 x2 x3
                  have xx := (S.out.ex (AB, .cells #[.int .u8 xk, .string (bs s), .int .i64 xm, .int .i64 xp] 23 (0, 0)) (by simp)).1
                  have x0 := cells_in xx 0
                  have x1 := cells_in xx 1
                  have x2 := cells_in xx 2
                  have x3 := cells_in xx 3
                  simp at x0 x1 x2 x3
                  clear xx
                  have r0 := cells_in R.out.hrb 0
                  have r1 := cells_in R.out.hrb 1
                  have r2 := cells_in R.out.hrb 2
                  simp at r0 r1 r2
                  rw [Hl.out] at r2
                  go_wp2_with fail
                  have HC := rOpen_any lim nxx ra l rc L s xp w7 Hl.out (by have := S0.out.is.ok.small; have := Hl.out; omega) (by have := R.out.hc1; have := Hl.out; omega) R.out.hc2 S0.out.is.ok (by omega) R.out.hpt
                  rw [hN, hE] at HC
                  refine HC.mono ?_
                  rintro e w8 ⟨u, rfl, ⟨ra2, rc2, rfl, hpt2, hc12, hc22, hblk2⟩, hf⟩
                  obtain ⟨nx2, hnx2⟩ : ∃ z, openX lim nxx L s xp = z := ⟨_, rfl⟩
                  obtain ⟨L2, hL2⟩ : ∃ z, openL lim nxx L s xp = z := ⟨_, rfl⟩
                  rw [hnx2, hL2] at S
                  rw [hL2] at hpt2 hc12
                  rw [hnx2, hL2]
                  obtain ⟨l2, hl2⟩ : ∃ z, L2.length = z := ⟨_, rfl⟩
                  have Hl2 := Lib.hid hl2
                  rw [hl2]
                  clear hl2
                  have S := Lib.hid (S.out.later hf)
                  have O := Lib.hid (O.out.later hf)
                  have hrb8 := (hf.block RB (Array.getElem?_eq_some_iff.1 R.out.hrb).1 id).trans R.out.hrb
                  obtain ⟨V8, hV8⟩ : ∃ W, ((w8.setCell ⟨RB, 0, none⟩ (.int .i64 lim)).setCell ⟨RB, 1, none⟩ (.int .i64 nx2)).setCell ⟨RB, 2, none⟩ (.slice ra2 l2 rc2) = W := ⟨_, rfl⟩
                  have f8 := Lib.hid (show Fr0 (fun k => k = RB) w8 V8 by rw [← hV8]; exact (((Fr0.refl (fun k => k = RB) w8).setCell (fun _ => rfl) _).setCell (fun _ => rfl) _).setCell (fun _ => rfl) _)
                  have hrb9 : V8.heap[RB]? = some (.cells #[.int .i64 lim, .int .i64 nx2, .slice ra2 L2.length rc2] 65 (0, 0)) := by
                    rw [← hV8, Hl2.out]; simp [World.setCell, Array.getElem?_modify, hrb8]
                  have hra2 : ∀ g o s, ra2 = some ⟨g, o, s⟩ → g ≠ sb ∧ g ≠ mb ∧ g ≠ RB ∧ W0.heap.size ≤ g := fun g o s e => by
                    rcases hblk2 with h | h
                    · exact R.out.hra g o s (h ▸ e)
                    · have h1 := h g o s e
                      have h4 := HW7.out
                      omega
                  have O := Lib.hid (O.out.fr0 f8.out (fun k hk h => (OB.out.1 k hk).2.2 h) OB.out.2.2.2 (fun g o s e h => (R.out.hra g o s e).2.2.1 h))
                  have S := Lib.hid (S.out.turn f8.out R.out.hne.1 R.out.hne.2 (fun x hx => by simp at hx; subst hx; exact HAR.out))
                  have R := Lib.hid (show RSt V8 RB sb mb nv7 lim nx2 L2 ra2 rc2 W0 from ⟨hrb9, hpt2.fr0 f8.out (fun g o s e h => (hra2 g o s e).2.2.1 h), hc12, hc22, R.out.hne, hra2⟩)
                  have y0 := thaw_in hrb8 0
                  have y1 := thaw_in hrb8 1
                  have y2 := thaw_in hrb8 2
                  have z0 := cells_in hrb8 0
                  have z1 := cells_in hrb8 1
                  have z2 := cells_in hrb8 2
                  simp at z0 z1 z2
                  clear hrb9 hpt2 hblk2 hf hrb8 r0 r1 r2 x0 x1 x2 x3 hra2
                  have xx := (S.out.ex (AB, .cells #[.int .u8 xk, .string (bs s), .int .i64 xm, .int .i64 xp] 23 (0, 0)) (by simp)).1
                  have x0 := cells_in xx 0
                  have x1 := cells_in xx 1
                  have x2 := cells_in xx 2
                  have x3 := cells_in xx 3
                  simp at x0 x1 x2 x3
                  clear xx
                  have r0 := cells_in R.out.hrb 0
                  have r1 := cells_in R.out.hrb 1
                  have r2 := cells_in R.out.hrb 2
                  simp at r0 r1 r2
                  rw [Hl2.out] at r2
                  go_wp2_with fail
                  clear hV8 y0 y1 y2 z0 z1 z2
                  clear hN hE S0
                  have hl2c := S.out.is.ok.small
                  have HC := Tells_any S.out.is ra2 l2 rc2 Hl2.out (Hl2.out ▸ R.out.hc1) R.out.hc2 R.out.hpt s (by omega) xm xp Hok.out.2.1
                  refine HC.mono ?_
                  rintro e w9 ⟨rfl, hf⟩
                  have S := Lib.hid (S.out.later hf)
                  have R := Lib.hid (R.out.later hf)
                  have O := Lib.hid (O.out.later hf)
                  clear HC hf x0 x1 x2 x3 r0 r1 r2
                  have xx := (S.out.ex (AB, .cells #[.int .u8 xk, .string (bs s), .int .i64 xm, .int .i64 xp] 23 (0, 0)) (by simp)).1
                  have x0 := cells_in xx 0
                  have x1 := cells_in xx 1
                  have x2 := cells_in xx 2
                  have x3 := cells_in xx 3
                  simp at x0 x1 x2 x3
                  clear xx
                  have o0 := cells_in O.out.hw 0
                  have o1 := cells_in O.out.hw 1
                  have o2 := cells_in O.out.hw 2
                  simp at o0 o1 o2
                  go_wp2_with fail
                  have HC := Tells_any O.out.is ra l rc Hl.out (by have := HC1.out; omega) HC1.out.2 O.out.pt s (by omega) xm xp Hok.out.2.1
                  refine HC.mono ?_
                  rintro e w10 ⟨rfl, hf⟩
                  have S := Lib.hid ((S.out.later hf).less (fun x hx => by cases hx) : SpSt W0 w10 sb mb _ lim _ _ [])
                  have R := Lib.hid (R.out.later hf)
                  clear HC hf x0 x1 x2 x3 o0 o1 o2 O OB
                  go_wp2
                  go_roundw
                  case rel => exact ⟨k + 1, _, _, _, _, _, by omega, by go_num, S, R⟩
                  case measure => simp [Go.RowKit.intOf]; omega
                · skip
                  go_wp2_with fail
                  have HC := open_st S.out s (by omega) xp
                  obtain ⟨N, hN⟩ : ∃ N, openN lim nxx L s xp = N := ⟨_, rfl⟩
                  obtain ⟨E, hE⟩ : ∃ N, openE lim nxx L s xp = N := ⟨_, rfl⟩
                  rw [hN, hE] at HC
                  refine HC.mono ?_
                  rintro e w7 ⟨rfl, nv7, hS, hst⟩
                  have R := Lib.hid (R.out.step hst)
                  have O := Lib.hid (O.out.fr0 hst.fr (fun k hk h => h.elim (OB.out.1 k hk).1 (OB.out.1 k hk).2.1) (fun h => h.elim OB.out.2.1 OB.out.2.2.1) (fun g o s e h => h.elim (R.out.hra g o s e).1 (R.out.hra g o s e).2.1))
                  have S0 := S
                  have HW7 := Lib.hid (show sb < w7.heap.size ∧ mb < w7.heap.size ∧ RB < w7.heap.size ∧ W0.heap.size ≤ w7.heap.size from ⟨hS.is.lt sb (.inl rfl), hS.is.lt mb (.inr (.inl rfl)), (Array.getElem?_eq_some_iff.1 R.out.hrb).1, hS.fr.size⟩)
                  have S := Lib.hid hS
                  clear HC hS hst x0 x1 x2 x3
                  have xx := (S.out.ex (AB, .cells #[.int .u8 xk, .string (bs s), .int .i64 xm, .int .i64 xp] 23 (0, 0)) (by simp)).1
                  have x0 := cells_in xx 0
                  have x1 := cells_in xx 1
                  have x2 := cells_in xx 2
                  have x3 := cells_in xx 3
                  simp at x0 x1 x2 x3
                  clear xx
                  have r0 := cells_in R.out.hrb 0
                  have r1 := cells_in R.out.hrb 1
                  have r2 := cells_in R.out.hrb 2
                  simp at r0 r1 r2
                  rw [Hl.out] at r2
                  go_wp2_with fail
                  have HC := rOpen_any lim nxx ra l rc L s xp w7 Hl.out (by have := S0.out.is.ok.small; have := Hl.out; omega) (by have := R.out.hc1; have := Hl.out; omega) R.out.hc2 S0.out.is.ok (by omega) R.out.hpt
                  rw [hN, hE] at HC
                  refine HC.mono ?_
                  rintro e w8 ⟨u, rfl, ⟨ra2, rc2, rfl, hpt2, hc12, hc22, hblk2⟩, hf⟩
                  obtain ⟨nx2, hnx2⟩ : ∃ z, openX lim nxx L s xp = z := ⟨_, rfl⟩
                  obtain ⟨L2, hL2⟩ : ∃ z, openL lim nxx L s xp = z := ⟨_, rfl⟩
                  rw [hnx2, hL2] at S
                  rw [hL2] at hpt2 hc12
                  rw [hnx2, hL2]
                  obtain ⟨l2, hl2⟩ : ∃ z, L2.length = z := ⟨_, rfl⟩
                  have Hl2 := Lib.hid hl2
                  rw [hl2]
                  clear hl2
                  have S := Lib.hid (S.out.later hf)
                  have O := Lib.hid (O.out.later hf)
                  have hrb8 := (hf.block RB (Array.getElem?_eq_some_iff.1 R.out.hrb).1 id).trans R.out.hrb
                  obtain ⟨V8, hV8⟩ : ∃ W, ((w8.setCell ⟨RB, 0, none⟩ (.int .i64 lim)).setCell ⟨RB, 1, none⟩ (.int .i64 nx2)).setCell ⟨RB, 2, none⟩ (.slice ra2 l2 rc2) = W := ⟨_, rfl⟩
                  have f8 := Lib.hid (show Fr0 (fun k => k = RB) w8 V8 by rw [← hV8]; exact (((Fr0.refl (fun k => k = RB) w8).setCell (fun _ => rfl) _).setCell (fun _ => rfl) _).setCell (fun _ => rfl) _)
                  have hrb9 : V8.heap[RB]? = some (.cells #[.int .i64 lim, .int .i64 nx2, .slice ra2 L2.length rc2] 65 (0, 0)) := by
                    rw [← hV8, Hl2.out]; simp [World.setCell, Array.getElem?_modify, hrb8]
                  have hra2 : ∀ g o s, ra2 = some ⟨g, o, s⟩ → g ≠ sb ∧ g ≠ mb ∧ g ≠ RB ∧ W0.heap.size ≤ g := fun g o s e => by
                    rcases hblk2 with h | h
                    · exact R.out.hra g o s (h ▸ e)
                    · have h1 := h g o s e
                      have h4 := HW7.out
                      omega
                  have O := Lib.hid (O.out.fr0 f8.out (fun k hk h => (OB.out.1 k hk).2.2 h) OB.out.2.2.2 (fun g o s e h => (R.out.hra g o s e).2.2.1 h))
                  have S := Lib.hid (S.out.turn f8.out R.out.hne.1 R.out.hne.2 (fun x hx => by simp at hx; subst hx; exact HAR.out))
                  have R := Lib.hid (show RSt V8 RB sb mb nv7 lim nx2 L2 ra2 rc2 W0 from ⟨hrb9, hpt2.fr0 f8.out (fun g o s e h => (hra2 g o s e).2.2.1 h), hc12, hc22, R.out.hne, hra2⟩)
                  have y0 := thaw_in hrb8 0
                  have y1 := thaw_in hrb8 1
                  have y2 := thaw_in hrb8 2
                  have z0 := cells_in hrb8 0
                  have z1 := cells_in hrb8 1
                  have z2 := cells_in hrb8 2
                  simp at z0 z1 z2
                  clear hrb9 hpt2 hblk2 hf hrb8 r0 r1 r2 x0 x1 x2 x3 hra2
                  have xx := (S.out.ex (AB, .cells #[.int .u8 xk, .string (bs s), .int .i64 xm, .int .i64 xp] 23 (0, 0)) (by simp)).1
                  have x0 := cells_in xx 0
                  have x1 := cells_in xx 1
                  have x2 := cells_in xx 2
                  have x3 := cells_in xx 3
                  simp at x0 x1 x2 x3
                  clear xx
                  have r0 := cells_in R.out.hrb 0
                  have r1 := cells_in R.out.hrb 1
                  have r2 := cells_in R.out.hrb 2
                  simp at r0 r1 r2
                  rw [Hl2.out] at r2
                  go_wp2_with fail
                  clear hV8 y0 y1 y2 z0 z1 z2
                  clear hN hE S0
                  have hl2c := S.out.is.ok.small
                  have HC := Tells_any S.out.is ra2 l2 rc2 Hl2.out (Hl2.out ▸ R.out.hc1) R.out.hc2 R.out.hpt s (by omega) xm xp Hok.out.2.1
                  refine HC.mono ?_
                  rintro e w9 ⟨rfl, hf⟩
                  have S := Lib.hid (S.out.later hf)
                  have R := Lib.hid (R.out.later hf)
                  have O := Lib.hid (O.out.later hf)
                  clear HC hf x0 x1 x2 x3 r0 r1 r2
                  have xx := (S.out.ex (AB, .cells #[.int .u8 xk, .string (bs s), .int .i64 xm, .int .i64 xp] 23 (0, 0)) (by simp)).1
                  have x0 := cells_in xx 0
                  have x1 := cells_in xx 1
                  have x2 := cells_in xx 2
                  have x3 := cells_in xx 3
                  simp at x0 x1 x2 x3
                  clear xx
                  have o0 := cells_in O.out.hw 0
                  have o1 := cells_in O.out.hw 1
                  have o2 := cells_in O.out.hw 2
                  simp at o0 o1 o2
                  go_wp2_with fail
                  have HC := Tells_any O.out.is ra l rc Hl.out (by have := HC1.out; omega) HC1.out.2 O.out.pt s (by omega) xm xp Hok.out.2.1
                  refine HC.mono ?_
                  rintro e w10 ⟨rfl, hf⟩
                  have S := Lib.hid ((S.out.later hf).less (fun x hx => by cases hx) : SpSt W0 w10 sb mb _ lim _ _ [])
                  have R := Lib.hid (R.out.later hf)
                  clear HC hf x0 x1 x2 x3 o0 o1 o2 O OB
                  go_wp2
                  go_roundw
                  case rel => exact ⟨k + 1, _, _, _, _, _, by omega, by go_num, S, R⟩
                  case measure => simp [Go.RowKit.intOf]; omega
                · skip
                  go_wp2_with fail
                  have HC := open_st S.out s (by omega) xp
                  obtain ⟨N, hN⟩ : ∃ N, openN lim nxx L s xp = N := ⟨_, rfl⟩
                  obtain ⟨E, hE⟩ : ∃ N, openE lim nxx L s xp = N := ⟨_, rfl⟩
                  rw [hN, hE] at HC
                  refine HC.mono ?_
                  rintro e w7 ⟨rfl, nv7, hS, hst⟩
                  have R := Lib.hid (R.out.step hst)
                  have O := Lib.hid (O.out.fr0 hst.fr (fun k hk h => h.elim (OB.out.1 k hk).1 (OB.out.1 k hk).2.1) (fun h => h.elim OB.out.2.1 OB.out.2.2.1) (fun g o s e h => h.elim (R.out.hra g o s e).1 (R.out.hra g o s e).2.1))
                  have S0 := S
                  have HW7 := Lib.hid (show sb < w7.heap.size ∧ mb < w7.heap.size ∧ RB < w7.heap.size ∧ W0.heap.size ≤ w7.heap.size from ⟨hS.is.lt sb (.inl rfl), hS.is.lt mb (.inr (.inl rfl)), (Array.getElem?_eq_some_iff.1 R.out.hrb).1, hS.fr.size⟩)
                  have S := Lib.hid hS
                  clear HC hS hst x0 x1 x2 x3
                  have xx := (S.out.ex (AB, .cells #[.int .u8 xk, .string (bs s), .int .i64 xm, .int .i64 xp] 23 (0, 0)) (by simp)).1
                  have x0 := cells_in xx 0
                  have x1 := cells_in xx 1
                  have x2 := cells_in xx 2
                  have x3 := cells_in xx 3
                  simp at x0 x1 x2 x3
                  clear xx
                  have r0 := cells_in R.out.hrb 0
                  have r1 := cells_in R.out.hrb 1
                  have r2 := cells_in R.out.hrb 2
                  simp at r0 r1 r2
                  rw [Hl.out] at r2
                  go_wp2_with fail
                  have HC := rOpen_any lim nxx ra l rc L s xp w7 Hl.out (by have := S0.out.is.ok.small; have := Hl.out; omega) (by have := R.out.hc1; have := Hl.out; omega) R.out.hc2 S0.out.is.ok (by omega) R.out.hpt
                  rw [hN, hE] at HC
                  refine HC.mono ?_
                  rintro e w8 ⟨u, rfl, ⟨ra2, rc2, rfl, hpt2, hc12, hc22, hblk2⟩, hf⟩
                  obtain ⟨nx2, hnx2⟩ : ∃ z, openX lim nxx L s xp = z := ⟨_, rfl⟩
                  obtain ⟨L2, hL2⟩ : ∃ z, openL lim nxx L s xp = z := ⟨_, rfl⟩
                  rw [hnx2, hL2] at S
                  rw [hL2] at hpt2 hc12
                  rw [hnx2, hL2]
                  obtain ⟨l2, hl2⟩ : ∃ z, L2.length = z := ⟨_, rfl⟩
                  have Hl2 := Lib.hid hl2
                  rw [hl2]
                  clear hl2
                  have S := Lib.hid (S.out.later hf)
                  have O := Lib.hid (O.out.later hf)
                  have hrb8 := (hf.block RB (Array.getElem?_eq_some_iff.1 R.out.hrb).1 id).trans R.out.hrb
                  obtain ⟨V8, hV8⟩ : ∃ W, ((w8.setCell ⟨RB, 0, none⟩ (.int .i64 lim)).setCell ⟨RB, 1, none⟩ (.int .i64 nx2)).setCell ⟨RB, 2, none⟩ (.slice ra2 l2 rc2) = W := ⟨_, rfl⟩
                  have f8 := Lib.hid (show Fr0 (fun k => k = RB) w8 V8 by rw [← hV8]; exact (((Fr0.refl (fun k => k = RB) w8).setCell (fun _ => rfl) _).setCell (fun _ => rfl) _).setCell (fun _ => rfl) _)
                  have hrb9 : V8.heap[RB]? = some (.cells #[.int .i64 lim, .int .i64 nx2, .slice ra2 L2.length rc2] 65 (0, 0)) := by
                    rw [← hV8, Hl2.out]; simp [World.setCell, Array.getElem?_modify, hrb8]
                  have hra2 : ∀ g o s, ra2 = some ⟨g, o, s⟩ → g ≠ sb ∧ g ≠ mb ∧ g ≠ RB ∧ W0.heap.size ≤ g := fun g o s e => by
                    rcases hblk2 with h | h
                    · exact R.out.hra g o s (h ▸ e)
                    · have h1 := h g o s e
                      have h4 := HW7.out
                      omega
                  have O := Lib.hid (O.out.fr0 f8.out (fun k hk h => (OB.out.1 k hk).2.2 h) OB.out.2.2.2 (fun g o s e h => (R.out.hra g o s e).2.2.1 h))
                  have S := Lib.hid (S.out.turn f8.out R.out.hne.1 R.out.hne.2 (fun x hx => by simp at hx; subst hx; exact HAR.out))
                  have R := Lib.hid (show RSt V8 RB sb mb nv7 lim nx2 L2 ra2 rc2 W0 from ⟨hrb9, hpt2.fr0 f8.out (fun g o s e h => (hra2 g o s e).2.2.1 h), hc12, hc22, R.out.hne, hra2⟩)
                  have y0 := thaw_in hrb8 0
                  have y1 := thaw_in hrb8 1
                  have y2 := thaw_in hrb8 2
                  have z0 := cells_in hrb8 0
                  have z1 := cells_in hrb8 1
                  have z2 := cells_in hrb8 2
                  simp at z0 z1 z2
                  clear hrb9 hpt2 hblk2 hf hrb8 r0 r1 r2 x0 x1 x2 x3 hra2
                  have xx := (S.out.ex (AB, .cells #[.int .u8 xk, .string (bs s), .int .i64 xm, .int .i64 xp] 23 (0, 0)) (by simp)).1
                  have x0 := cells_in xx 0
                  have x1 := cells_in xx 1
                  have x2 := cells_in xx 2
                  have x3 := cells_in xx 3
                  simp at x0 x1 x2 x3
                  clear xx
                  have r0 := cells_in R.out.hrb 0
                  have r1 := cells_in R.out.hrb 1
                  have r2 := cells_in R.out.hrb 2
                  simp at r0 r1 r2
                  rw [Hl2.out] at r2
                  go_wp2_with fail
                  clear hV8 y0 y1 y2 z0 z1 z2
                  clear hN hE S0
                  have hl2c := S.out.is.ok.small
                  have HC := Tells_any S.out.is ra2 l2 rc2 Hl2.out (Hl2.out ▸ R.out.hc1) R.out.hc2 R.out.hpt s (by omega) xm xp Hok.out.2.1
                  refine HC.mono ?_
                  rintro e w9 ⟨rfl, hf⟩
                  have S := Lib.hid (S.out.later hf)
                  have R := Lib.hid (R.out.later hf)
                  have O := Lib.hid (O.out.later hf)
                  clear HC hf x0 x1 x2 x3 r0 r1 r2
                  have xx := (S.out.ex (AB, .cells #[.int .u8 xk, .string (bs s), .int .i64 xm, .int .i64 xp] 23 (0, 0)) (by simp)).1
                  have x0 := cells_in xx 0
                  have x1 := cells_in xx 1
                  have x2 := cells_in xx 2
                  have x3 := cells_in xx 3
                  simp at x0 x1 x2 x3
                  clear xx
                  have o0 := cells_in O.out.hw 0
                  have o1 := cells_in O.out.hw 1
                  have o2 := cells_in O.out.hw 2
                  simp at o0 o1 o2
                  go_wp2_with fail
                  have HC := Tells_any O.out.is ra l rc Hl.out (by have := HC1.out; omega) HC1.out.2 O.out.pt s (by omega) xm xp Hok.out.2.1
                  refine HC.mono ?_
                  rintro e w10 ⟨rfl, hf⟩
                  have S := Lib.hid ((S.out.later hf).less (fun x hx => by cases hx) : SpSt W0 w10 sb mb _ lim _ _ [])
                  have R := Lib.hid (R.out.later hf)
                  clear HC hf x0 x1 x2 x3 o0 o1 o2 O OB
                  go_wp2
                  go_roundw
                  case rel => exact ⟨k + 1, _, _, _, _, _, by omega, by go_num, S, R⟩
                  case measure => simp [Go.RowKit.intOf]; omega
                · skip
                  go_wp2_with fail
                  have HC := close_st S.out xm Hok.out.2.1
                  obtain ⟨⟨pa, pb, pc⟩, hP⟩ : ∃ N, getP L xm = N := ⟨_, rfl⟩
                  obtain ⟨E, hE⟩ : ∃ N, getE L xm = N := ⟨_, rfl⟩
                  rw [hP, hE] at HC
                  refine HC.mono ?_
                  rintro e w7 ⟨rfl, nv7, hS, hst⟩
                  simp only [ptV]
                  have R := Lib.hid (R.out.step hst)
                  have O := Lib.hid (O.out.fr0 hst.fr (fun k hk h => h.elim (OB.out.1 k hk).1 (OB.out.1 k hk).2.1) (fun h => h.elim OB.out.2.1 OB.out.2.2.1) (fun g o s e h => h.elim (R.out.hra g o s e).1 (R.out.hra g o s e).2.1))
                  have S0 := S
                  have HW7 := Lib.hid (show sb < w7.heap.size ∧ mb < w7.heap.size ∧ RB < w7.heap.size ∧ W0.heap.size ≤ w7.heap.size from ⟨hS.is.lt sb (.inl rfl), hS.is.lt mb (.inr (.inl rfl)), (Array.getElem?_eq_some_iff.1 R.out.hrb).1, hS.fr.size⟩)
                  have S := Lib.hid hS
                  clear HC hS hst x0 x1 x2 x3
                  obtain ⟨W8, hW8⟩ : ∃ W, w7.alloc (.cells #[.int .i64 pa, .string (bs pb), .int .i64 pc] 43) = W := ⟨_, rfl⟩
                  obtain ⟨PB, hPB⟩ : ∃ X, w7.heap.size = X := ⟨_, rfl⟩
                  have hpb : W8.heap[PB]? = some (.cells #[.int .i64 pa, .string (bs pb), .int .i64 pc] 43 (0, 0)) := by rw [← hW8, ← hPB]; exact World.alloc_heap_new w7 _
                  have f78 := (show Fr0 none' w7 W8 by rw [← hW8]; exact (Fr0.refl _ _).alloc _)
                  obtain ⟨W9, hW9⟩ : ∃ W, W8.alloc (.cells #[.int .i64 0, .string ⟨#[]⟩, .int .i64 0] 68) = W := ⟨_, rfl⟩
                  obtain ⟨QB, hQB⟩ : ∃ X, W8.heap.size = X := ⟨_, rfl⟩
                  have hqb : W9.heap[QB]? = some (.cells #[.int .i64 0, .string ⟨#[]⟩, .int .i64 0] 68 (0, 0)) := by rw [← hW9, ← hQB]; exact World.alloc_heap_new W8 _
                  have f89 := (show Fr0 none' W8 W9 by rw [← hW9]; exact (Fr0.refl _ _).alloc _)
                  have f79 := Lib.hid (f78.trans f89)
                  have hpb := (f89.block PB (Array.getElem?_eq_some_iff.1 hpb).1 id).trans hpb
                  have hW8s : W8.heap.size = w7.heap.size + 1 := by rw [← hW8]; simp
                  have HQ := Lib.hid (show PB < QB ∧ QB < W9.heap.size ∧ w7.heap.size ≤ PB ∧ PB < W9.heap.size from ⟨by omega, (Array.getElem?_eq_some_iff.1 hqb).1, by omega, (Array.getElem?_eq_some_iff.1 hpb).1⟩)
                  clear hW8s
                  have S7 := S
                  have R7 := R
                  have S := Lib.hid (S.out.later f79.out)
                  have R := Lib.hid (R.out.later f79.out)
                  have HPBc := Lib.hid hpb
                  have HQBc := Lib.hid hqb
                  have xx := (S.out.ex (AB, .cells #[.int .u8 xk, .string (bs s), .int .i64 xm, .int .i64 xp] 23 (0, 0)) (by simp)).1
                  have x0 := cells_in xx 0
                  have x1 := cells_in xx 1
                  have x2 := cells_in xx 2
                  have x3 := cells_in xx 3
                  simp at x0 x1 x2 x3
                  clear xx
                  have r0 := cells_in R.out.hrb 0
                  have r1 := cells_in R.out.hrb 1
                  have r2 := cells_in R.out.hrb 2
                  simp at r0 r1 r2
                  rw [Hl.out] at r2
                  clear f78 f89 hpb hqb
                  go_wp2_with fail
                  clear hW8 hPB hW9 hQB
                  have HC := rClose_any lim nxx ra l rc L xm W9 Hl.out (by have := S0.out.is.ok.small; have := Hl.out; omega) (by have := R.out.hc1; have := Hl.out; omega) R.out.hc2 S0.out.is.ok R.out.hpt
                  rw [hP, hE] at HC
                  refine HC.mono ?_
                  rintro e w10 ⟨u, rfl, ⟨ra2, rc2, rfl, hpt2, hc12, hc22, hblk2⟩, hf⟩
                  simp only [ptV]
                  have hdnil : L = [] → delP L xm = [] := fun h => by rw [h]; rfl
                  obtain ⟨L2, hL2⟩ : ∃ z, delP L xm = z := ⟨_, rfl⟩
                  rw [hL2] at S S7 hpt2 hc12 hdnil
                  rw [hL2]
                  obtain ⟨l2, hl2⟩ : ∃ z, L2.length = z := ⟨_, rfl⟩
                  have Hl2 := Lib.hid hl2
                  rw [hl2]
                  clear hl2
                  have hrb8 := (hf.block RB (Array.getElem?_eq_some_iff.1 R.out.hrb).1 id).trans R.out.hrb
                  have hqb8 := (hf.block QB HQ.out.2.1 id).trans HQBc.out
                  have hpb8 := (hf.block PB HQ.out.2.2.2 id).trans HPBc.out
                  have hqr : ¬ QB = RB := fun e => by have := HQ.out; have := HW7.out; omega
                  have hrq : ¬ RB = QB := fun e => hqr e.symm
                  obtain ⟨V8, hV8⟩ : ∃ W, (((((w10.setCell ⟨RB, 0, none⟩ (.int .i64 lim)).setCell ⟨RB, 1, none⟩ (.int .i64 nxx)).setCell ⟨RB, 2, none⟩ (.slice ra2 l2 rc2)).setCell ⟨QB, 0, none⟩ (.int .i64 pa)).setCell ⟨QB, 1, none⟩ (.string (bs pb))).setCell ⟨QB, 2, none⟩ (.int .i64 pc) = W := ⟨_, rfl⟩
                  have f8 := Lib.hid (show Fr0 (fun k => k = RB ∨ k = QB) w10 V8 by rw [← hV8]; exact ((((((Fr0.refl (fun k => k = RB ∨ k = QB) w10).setCell (fun _ => .inl rfl) _).setCell (fun _ => .inl rfl) _).setCell (fun _ => .inl rfl) _).setCell (fun _ => .inr rfl) _).setCell (fun _ => .inr rfl) _).setCell (fun _ => .inr rfl) _)
                  have hrb9 : V8.heap[RB]? = some (.cells #[.int .i64 lim, .int .i64 nxx, .slice ra2 L2.length rc2] 65 (0, 0)) := by
                    rw [← hV8, Hl2.out]; simp [World.setCell, Array.getElem?_modify, hrb8, hqr]
                  have hqb9 : V8.heap[QB]? = some (.cells #[.int .i64 pa, .string (bs pb), .int .i64 pc] 68 (0, 0)) := by
                    rw [← hV8]; simp [World.setCell, Array.getElem?_modify, hqb8, hrq]
                  have hpb9 := (f8.out.block PB (Array.getElem?_eq_some_iff.1 hpb8).1 (fun e => by have := HQ.out; have := HW7.out; rcases e with e | e <;> omega)).trans hpb8
                  have f7 := Lib.hid (show Fr0 (fun k => k = RB) w7 V8 from ((f79.out.trans hf).mono (S' := fun k => k = RB) (fun _ _ h => h.elim)).trans' f8.out (fun k hk e => e.elim id (fun e => by have := HQ.out; omega)))
                  have hra2 : ∀ g o s, ra2 = some ⟨g, o, s⟩ → g ≠ sb ∧ g ≠ mb ∧ g ≠ RB ∧ W0.heap.size ≤ g := fun g o s e => by
                    rcases hblk2 with h | h
                    · exact R.out.hra g o s (h ▸ e)
                    · have h1 := h g o s e
                      have h4 := HW7.out
                      have h5 := HQ.out
                      omega
                  have hptV : PtsIn V8 ra2 L2 := by
                    by_cases hL : L = []
                    · rw [hdnil hL]; exact PtsIn.nil _ _
                    · refine hpt2.fr0 f8.out (fun g o s e h => ?_)
                      have hR := (hra2 g o s e).2.2.1
                      rcases h with h | h
                      · exact hR h
                      · rcases hblk2 with hh | hh
                        · have e' : ra = some ⟨g, o, s⟩ := hh ▸ e
                          obtain ⟨y, hy⟩ : ∃ y, L[0]? = some y := by
                            cases L with
                            | nil => exact absurd rfl hL
                            | cons y r => exact ⟨y, rfl⟩
                          obtain ⟨g', o', e1, hc⟩ := R7.out.hpt 0 y hy
                          rw [e'] at e1
                          injection e1 with e1
                          injection e1 with e1
                          have := World.block_lt_of_cell? _ _ hc.1
                          simp only at this
                          have := HQ.out
                          omega
                        · have h1 := hh g o s e
                          have := HQ.out
                          omega
                  have O := Lib.hid (O.out.fr0 f7.out (fun k hk h => (OB.out.1 k hk).2.2 h) OB.out.2.2.2 (fun g o s e h => (R.out.hra g o s e).2.2.1 h))
                  have S := Lib.hid (S7.out.turn f7.out R.out.hne.1 R.out.hne.2 (fun x hx => by simp at hx; subst hx; exact HAR.out))
                  have R := Lib.hid (show RSt V8 RB sb mb nv7 lim nxx L2 ra2 rc2 W0 from ⟨hrb9, hptV, hc12, hc22, R.out.hne, hra2⟩)
                  have y0 := thaw_in hrb8 0
                  have y1 := thaw_in hrb8 1
                  have y2 := thaw_in hrb8 2
                  have z0 := cells_in hrb8 0
                  have z1 := cells_in hrb8 1
                  have z2 := cells_in hrb8 2
                  have v0 := thaw_in hqb8 0
                  have v1 := thaw_in hqb8 1
                  have v2 := thaw_in hqb8 2
                  have u0 := cells_in hqb8 0
                  have u1 := cells_in hqb8 1
                  have u2 := cells_in hqb8 2
                  have p0 := cells_in hpb9 0
                  have p1 := cells_in hpb9 1
                  have p2 := cells_in hpb9 2
                  have q0 := cells_in hqb9 0
                  have q1 := cells_in hqb9 1
                  have q2 := cells_in hqb9 2
                  simp at z0 z1 z2 u0 u1 u2 p0 p1 p2 q0 q1 q2
                  clear hrb9 hqb9 hpb9 hpt2 hblk2 hf hrb8 hqb8 hpb8 r0 r1 r2 x0 x1 x2 x3 hra2 hptV hdnil
                  have xx := (S.out.ex (AB, .cells #[.int .u8 xk, .string (bs s), .int .i64 xm, .int .i64 xp] 23 (0, 0)) (by simp)).1
                  have x0 := cells_in xx 0
                  have x1 := cells_in xx 1
                  have x2 := cells_in xx 2
                  have x3 := cells_in xx 3
                  simp at x0 x1 x2 x3
                  clear xx
                  have r0 := cells_in R.out.hrb 0
                  have r1 := cells_in R.out.hrb 1
                  have r2 := cells_in R.out.hrb 2
                  simp at r0 r1 r2
                  rw [Hl2.out] at r2
                  have hsp : samePt ⟨pa, pb, pc⟩ ⟨pa, pb, pc⟩ = true := samePt_self _
                  go_wp2_with fail
                  clear hV8 y0 y1 y2 z0 z1 z2 v0 v1 v2 u0 u1 u2 p0 p1 p2 q0 q1 q2 hP hE S0 S7 R7 hsp hqr hrq
                  have hl2c := S.out.is.ok.small
                  have HC := Tells_any S.out.is ra2 l2 rc2 Hl2.out (Hl2.out ▸ R.out.hc1) R.out.hc2 R.out.hpt s (by omega) xm xp Hok.out.2.1
                  refine HC.mono ?_
                  rintro e w9 ⟨rfl, hf⟩
                  have S := Lib.hid (S.out.later hf)
                  have R := Lib.hid (R.out.later hf)
                  have O := Lib.hid (O.out.later hf)
                  clear HC hf x0 x1 x2 x3 r0 r1 r2
                  have xx := (S.out.ex (AB, .cells #[.int .u8 xk, .string (bs s), .int .i64 xm, .int .i64 xp] 23 (0, 0)) (by simp)).1
                  have x0 := cells_in xx 0
                  have x1 := cells_in xx 1
                  have x2 := cells_in xx 2
                  have x3 := cells_in xx 3
                  simp at x0 x1 x2 x3
                  clear xx
                  have o0 := cells_in O.out.hw 0
                  have o1 := cells_in O.out.hw 1
                  have o2 := cells_in O.out.hw 2
                  simp at o0 o1 o2
                  go_wp2_with fail
                  have HC := Tells_any O.out.is ra l rc Hl.out (by have := HC1.out; omega) HC1.out.2 O.out.pt s (by omega) xm xp Hok.out.2.1
                  refine HC.mono ?_
                  rintro e w10 ⟨rfl, hf⟩
                  have S := Lib.hid ((S.out.later hf).less (fun x hx => by cases hx) : SpSt W0 w10 sb mb _ lim _ _ [])
                  have R := Lib.hid (R.out.later hf)
                  clear HC hf x0 x1 x2 x3 o0 o1 o2 O OB
                  go_wp2
                  go_roundw
                  case rel => exact ⟨k + 1, _, _, _, _, _, by omega, by go_num, S, R⟩
                  case measure => simp [Go.RowKit.intOf]; omega
                · skip
                  go_wp2_with fail
                  have HC := rename_st S.out xm Hok.out.2.1 s (by omega)
                  obtain ⟨N, hN⟩ : ∃ N, renT L xm s = N := ⟨_, rfl⟩
                  obtain ⟨E, hE⟩ : ∃ N, renE L xm s = N := ⟨_, rfl⟩
                  rw [hN, hE] at HC
                  refine HC.mono ?_
                  rintro e w7 ⟨rfl, nv7, hS, hst⟩
                  have R := Lib.hid (R.out.step hst)
                  have O := Lib.hid (O.out.fr0 hst.fr (fun k hk h => h.elim (OB.out.1 k hk).1 (OB.out.1 k hk).2.1) (fun h => h.elim OB.out.2.1 OB.out.2.2.1) (fun g o s e h => h.elim (R.out.hra g o s e).1 (R.out.hra g o s e).2.1))
                  have S0 := S
                  have HW7 := Lib.hid (show sb < w7.heap.size ∧ mb < w7.heap.size ∧ RB < w7.heap.size ∧ W0.heap.size ≤ w7.heap.size from ⟨hS.is.lt sb (.inl rfl), hS.is.lt mb (.inr (.inl rfl)), (Array.getElem?_eq_some_iff.1 R.out.hrb).1, hS.fr.size⟩)
                  have S := Lib.hid hS
                  clear HC hS hst x0 x1 x2 x3
                  have xx := (S.out.ex (AB, .cells #[.int .u8 xk, .string (bs s), .int .i64 xm, .int .i64 xp] 23 (0, 0)) (by simp)).1
                  have x0 := cells_in xx 0
                  have x1 := cells_in xx 1
                  have x2 := cells_in xx 2
                  have x3 := cells_in xx 3
                  simp at x0 x1 x2 x3
                  clear xx
                  have r0 := cells_in R.out.hrb 0
                  have r1 := cells_in R.out.hrb 1
                  have r2 := cells_in R.out.hrb 2
                  simp at r0 r1 r2
                  rw [Hl.out] at r2
                  go_wp2_with fail
                  have HC := rRename_any lim nxx ra l rc L xm s w7 Hl.out (by have := S0.out.is.ok.small; have := Hl.out; omega) (by have := R.out.hc1; have := Hl.out; omega) R.out.hc2 S0.out.is.ok (by omega) R.out.hpt
                  rw [hN, hE] at HC
                  refine HC.mono ?_
                  rintro e w8 ⟨u, rfl, ⟨ra2, rc2, rfl, hpt2, hc12, hc22, hblk2⟩, hf⟩
                  have hNN : ((bs N).toList == (bs N).toList) = true := by simp
                  obtain ⟨L2, hL2⟩ : ∃ z, renL L xm s = z := ⟨_, rfl⟩
                  rw [hL2] at S
                  rw [hL2] at hpt2 hc12
                  (try rw [hL2])
                  obtain ⟨l2, hl2⟩ : ∃ z, L2.length = z := ⟨_, rfl⟩
                  have Hl2 := Lib.hid hl2
                  rw [hl2]
                  clear hl2
                  have S := Lib.hid (S.out.later hf)
                  have O := Lib.hid (O.out.later hf)
                  have hrb8 := (hf.block RB (Array.getElem?_eq_some_iff.1 R.out.hrb).1 id).trans R.out.hrb
                  obtain ⟨V8, hV8⟩ : ∃ W, ((w8.setCell ⟨RB, 0, none⟩ (.int .i64 lim)).setCell ⟨RB, 1, none⟩ (.int .i64 nxx)).setCell ⟨RB, 2, none⟩ (.slice ra2 l2 rc2) = W := ⟨_, rfl⟩
                  have f8 := Lib.hid (show Fr0 (fun k => k = RB) w8 V8 by rw [← hV8]; exact (((Fr0.refl (fun k => k = RB) w8).setCell (fun _ => rfl) _).setCell (fun _ => rfl) _).setCell (fun _ => rfl) _)
                  have hrb9 : V8.heap[RB]? = some (.cells #[.int .i64 lim, .int .i64 nxx, .slice ra2 L2.length rc2] 65 (0, 0)) := by
                    rw [← hV8, Hl2.out]; simp [World.setCell, Array.getElem?_modify, hrb8]
                  have hra2 : ∀ g o s, ra2 = some ⟨g, o, s⟩ → g ≠ sb ∧ g ≠ mb ∧ g ≠ RB ∧ W0.heap.size ≤ g := fun g o s e => by
                    rcases hblk2 with h | h
                    · exact R.out.hra g o s (h ▸ e)
                    · have h1 := h g o s e
                      have h4 := HW7.out
                      omega
                  have O := Lib.hid (O.out.fr0 f8.out (fun k hk h => (OB.out.1 k hk).2.2 h) OB.out.2.2.2 (fun g o s e h => (R.out.hra g o s e).2.2.1 h))
                  have S := Lib.hid (S.out.turn f8.out R.out.hne.1 R.out.hne.2 (fun x hx => by simp at hx; subst hx; exact HAR.out))
                  have R := Lib.hid (show RSt V8 RB sb mb nv7 lim nxx L2 ra2 rc2 W0 from ⟨hrb9, hpt2.fr0 f8.out (fun g o s e h => (hra2 g o s e).2.2.1 h), hc12, hc22, R.out.hne, hra2⟩)
                  have y0 := thaw_in hrb8 0
                  have y1 := thaw_in hrb8 1
                  have y2 := thaw_in hrb8 2
                  have z0 := cells_in hrb8 0
                  have z1 := cells_in hrb8 1
                  have z2 := cells_in hrb8 2
                  simp at z0 z1 z2
                  clear hrb9 hpt2 hblk2 hf hrb8 r0 r1 r2 x0 x1 x2 x3 hra2
                  have xx := (S.out.ex (AB, .cells #[.int .u8 xk, .string (bs s), .int .i64 xm, .int .i64 xp] 23 (0, 0)) (by simp)).1
                  have x0 := cells_in xx 0
                  have x1 := cells_in xx 1
                  have x2 := cells_in xx 2
                  have x3 := cells_in xx 3
                  simp at x0 x1 x2 x3
                  clear xx
                  have r0 := cells_in R.out.hrb 0
                  have r1 := cells_in R.out.hrb 1
                  have r2 := cells_in R.out.hrb 2
                  simp at r0 r1 r2
                  rw [Hl2.out] at r2
                  go_wp2_with fail
                  clear hV8 y0 y1 y2 z0 z1 z2
                  clear hN hE S0 hNN
                  have hl2c := S.out.is.ok.small
                  have HC := Tells_any S.out.is ra2 l2 rc2 Hl2.out (Hl2.out ▸ R.out.hc1) R.out.hc2 R.out.hpt s (by omega) xm xp Hok.out.2.1
                  refine HC.mono ?_
                  rintro e w9 ⟨rfl, hf⟩
                  have S := Lib.hid (S.out.later hf)
                  have R := Lib.hid (R.out.later hf)
                  have O := Lib.hid (O.out.later hf)
                  clear HC hf x0 x1 x2 x3 r0 r1 r2
                  have xx := (S.out.ex (AB, .cells #[.int .u8 xk, .string (bs s), .int .i64 xm, .int .i64 xp] 23 (0, 0)) (by simp)).1
                  have x0 := cells_in xx 0
                  have x1 := cells_in xx 1
                  have x2 := cells_in xx 2
                  have x3 := cells_in xx 3
                  simp at x0 x1 x2 x3
                  clear xx
                  have o0 := cells_in O.out.hw 0
                  have o1 := cells_in O.out.hw 1
                  have o2 := cells_in O.out.hw 2
                  simp at o0 o1 o2
                  go_wp2_with fail
                  have HC := Tells_any O.out.is ra l rc Hl.out (by have := HC1.out; omega) HC1.out.2 O.out.pt s (by omega) xm xp Hok.out.2.1
                  refine HC.mono ?_
                  rintro e w10 ⟨rfl, hf⟩
                  have S := Lib.hid ((S.out.later hf).less (fun x hx => by cases hx) : SpSt W0 w10 sb mb _ lim _ _ [])
                  have R := Lib.hid (R.out.later hf)
                  clear HC hf x0 x1 x2 x3 o0 o1 o2 O OB
                  go_wp2
                  go_roundw
                  case rel => exact ⟨k + 1, _, _, _, _, _, by omega, by go_num, S, R⟩
                  case measure => simp [Go.RowKit.intOf]; omega
                · go_wp2_with fail
                  have r0 := cells_in R.out.hrb 0
                  have r1 := cells_in R.out.hrb 1
                  have r2 := cells_in R.out.hrb 2
                  simp at r0 r1 r2
                  rw [Hl.out] at r2
                  have hl2c := S.out.is.ok.small
                  have HC := Tells_any S.out.is ra l rc Hl.out (Hl.out ▸ R.out.hc1) R.out.hc2 R.out.hpt s (by omega) xm xp Hok.out.2.1
                  refine HC.mono ?_
                  rintro e w9 ⟨rfl, hf⟩
                  have S := Lib.hid (S.out.later hf)
                  have R := Lib.hid (R.out.later hf)
                  have O := Lib.hid (O.out.later hf)
                  clear HC hf x0 x1 x2 x3 r0 r1 r2
                  have xx := (S.out.ex (AB, .cells #[.int .u8 xk, .string (bs s), .int .i64 xm, .int .i64 xp] 23 (0, 0)) (by simp)).1
                  have x0 := cells_in xx 0
                  have x1 := cells_in xx 1
                  have x2 := cells_in xx 2
                  have x3 := cells_in xx 3
                  simp at x0 x1 x2 x3
                  clear xx
                  have o0 := cells_in O.out.hw 0
                  have o1 := cells_in O.out.hw 1
                  have o2 := cells_in O.out.hw 2
                  simp at o0 o1 o2
                  go_wp2_with fail
                  have HC := Tells_any O.out.is ra l rc Hl.out (by have := HC1.out; omega) HC1.out.2 O.out.pt s (by omega) xm xp Hok.out.2.1
                  refine HC.mono ?_
                  rintro e w10 ⟨rfl, hf⟩
                  have S := Lib.hid ((S.out.later hf).less (fun x hx => by cases hx) : SpSt W0 w10 sb mb _ lim _ _ [])
                  have R := Lib.hid (R.out.later hf)
                  clear HC hf x0 x1 x2 x3 o0 o1 o2 O OB
                  go_wp2
                  go_roundw
                  case rel => exact ⟨k + 1, _, _, _, _, _, by omega, by go_num, S, R⟩
                  case measure => simp [Go.RowKit.intOf]; omega
              · rw [if_pos (by kernel_rfl)]
                go_simp
                obtain ⟨V5, hV5⟩ : ∃ W, WD.alloc (.cells #[.int .i64 0, .int .i64 0, .slice none 0 0] 65) = W := ⟨_, rfl⟩
                obtain ⟨WB, hWB⟩ : ∃ X, WD.heap.size = X := ⟨_, rfl⟩
                have hwb : V5.heap[WB]? = some (.cells #[.int .i64 0, .int .i64 0, .slice none 0 0] 65 (0, 0)) := by rw [← hV5, ← hWB]; exact World.alloc_heap_new WD _
                have fa := Lib.hid (show Fr0 none' WD V5 by rw [← hV5]; exact (Fr0.refl _ _).alloc _)
                have hwl := Lib.hid (show W3.heap.size ≤ WB from by have := X.out.size; omega)
                have hWBl := Lib.hid (Array.getElem?_eq_some_iff.1 hwb).1
                have X := Lib.hid (X.out.trans fa.out)
                rw [hV5, hWB]
                clear hV5
                refine hK.out _ _ (Skey.out _ X.out) (fun _ => ?_)
                clear hK K
                try simp only [Act.put, List.setIfInBounds_toArray, List.set_cons_zero, List.set_cons_succ]
                refine take_call (i := 1) rfl (by kernel_rfl) (by kernel_rfl) (fun K hK => ?_)
                go_simp
                refine (Copy_is (S.out.later X.out).is).mono ?_
                rintro e w4 ⟨cb, cm, cnv, rfl, hc, hf, hnew⟩
                have hwb := (hf.block WB (Array.getElem?_eq_some_iff.1 hwb).1 id).trans hwb
                have C := Lib.hid (show SpaceIs w4 cb cm cnv lim nxx L ∧ (∀ k, sfoot cb cm cnv k → W3.heap.size ≤ k) ∧ ¬ sfoot cb cm cnv WB from ⟨hc, fun k hk => Nat.le_trans X.out.size (hnew k hk), fun h => by have := hnew _ h; have := fa.out.size; have h3 := hWBl.out; omega⟩)
                have X := Lib.hid (X.out.trans hf)
                clear hc hf hnew hWB
                go_wp2_with fail
                refine hK.out _ _ (Skey.out _ X.out) (fun _ => ?_)
                clear hK K
                try simp only [Act.put, List.setIfInBounds_toArray, List.set_cons_zero, List.set_cons_succ]
                refine take_call (i := 4) rfl (by kernel_rfl) (by kernel_rfl) (fun K hK => ?_)
                go_simp
                refine hK.out _ _ (Skey.out _ X.out) (fun _ => ?_)
                clear hK K
                try simp only [Act.put, List.setIfInBounds_toArray, List.set_cons_zero, List.set_cons_succ]
                refine take_call (i := 5) rfl (by kernel_rfl) (by kernel_rfl) (fun K hK => ?_)
                have y0 := thaw_in hwb 0
                have y1 := thaw_in hwb 1
                have y2 := thaw_in hwb 2
                have z0 := cells_in hwb 0
                have z1 := cells_in hwb 1
                have z2 := cells_in hwb 2
                simp at z0 z1 z2
                go_simp
                clear y0 y1 y2 z0 z1 z2
                obtain ⟨V6, hV6⟩ : ∃ W, ((w4.setCell ⟨WB, 0, none⟩ (.int .i64 lim)).setCell ⟨WB, 1, none⟩ (.int .i64 nxx)).setCell ⟨WB, 2, none⟩ (.slice ra l rc) = W := ⟨_, rfl⟩
                rw [hV6]
                have hw6 : V6.heap[WB]? = some (.cells #[.int .i64 lim, .int .i64 nxx, .slice ra l rc] 65 (0, 0)) := by
                  rw [← hV6]; simp [World.setCell, Array.getElem?_modify, hwb]
                have f6 := Lib.hid (show Fr0 (fun k => k = WB) w4 V6 by rw [← hV6]; exact (((Fr0.refl (fun k => k = WB) w4).setCell (fun _ => rfl) _).setCell (fun _ => rfl) _).setCell (fun _ => rfl) _)
                have X := Lib.hid (X.out.trans' f6.out (fun k hk e => by have := hwl.out; omega))
                clear hV6
                refine hK.out _ _ (Skey.out _ X.out) (fun _ => ?_)
                clear hK K
                try simp only [Act.put, List.setIfInBounds_toArray, List.set_cons_zero, List.set_cons_succ]
                refine wpAnyH_done (by kernel_rfl) ?_ _
                clear hHeld
                have S := Lib.hid (S.out.later X.out)
                have R := Lib.hid (R.out.later X.out)
                have C := Lib.hid (show SpaceIs V6 cb cm cnv lim nxx L ∧ ∀ k, sfoot cb cm cnv k → W3.heap.size ≤ k from ⟨C.out.1.fr0 f6.out (fun k hk e => C.out.2.2 (e ▸ hk)), C.out.2.1⟩)
                have HWB := Lib.hid (show V6.heap[WB]? = some (.cells #[.int .i64 lim, .int .i64 nxx, .slice ra l rc] 65 (0, 0)) ∧ W3.heap.size ≤ WB from ⟨hw6, hwl.out⟩)
                have HLT := Lib.hid (show sb < W3.heap.size ∧ mb < W3.heap.size ∧ RB < W3.heap.size from HLT0.out)
                clear hw6 f6 fa hwb hwl r0 r1 r2 Skey HLT0
                have O := Lib.hid (show OldSt V6 cb cm cnv WB lim nxx L ra l rc from ⟨C.out.1, HWB.out.1, R.out.hpt⟩)
                have OB := Lib.hid (show (∀ k, sfoot cb cm cnv k → k ≠ sb ∧ k ≠ mb ∧ k ≠ RB) ∧ WB ≠ sb ∧ WB ≠ mb ∧ WB ≠ RB from
                  ⟨fun k hk => by have := C.out.2 k hk; have := HLT.out; omega, by have := HWB.out.2; have := HLT.out; omega⟩)
                have HC1 := Lib.hid (show l ≤ rc ∧ rc ≤ maxLen from ⟨Hl.out ▸ R.out.hc1, R.out.hc2⟩)
                clear C HWB X
                obtain ⟨q, hq⟩ : ∃ q, xk.tmod 6 = q := ⟨_, rfl⟩
                have hq6 : q = 0 ∨ q = 1 ∨ q = 2 ∨ q = 3 ∨ q = 4 ∨ q = 5 := by
                  rw [← hq, Int.tmod_eq_emod_of_nonneg Hok.out.1.1]; omega
                have hqw : IntKind.u8.wrap q = q := by
                  have : ∀ z : Int, z = 0 ∨ z = 1 ∨ z = 2 ∨ z = 3 ∨ z = 4 ∨ z = 5 → IntKind.u8.wrap z = z := by rintro z (rfl | rfl | rfl | rfl | rfl | rfl) <;> decide
                  exact this q hq6
                have xx := (S.out.ex (AB, .cells #[.int .u8 xk, .string (bs s), .int .i64 xm, .int .i64 xp] 23 (0, 0)) (by simp)).1
                have x0 := cells_in xx 0
                have x1 := cells_in xx 1
                have x2 := cells_in xx 2
                have x3 := cells_in xx 3
                simp at x0 x1 x2 x3
                clear xx
                rcases hq6 with rfl | rfl | rfl | rfl | rfl | rfl
                · skip
                  go_wp2_with fail
                  have HC := open_st S.out s (by omega) xp
                  obtain ⟨N, hN⟩ : ∃ N, openN lim nxx L s xp = N := ⟨_, rfl⟩
                  obtain ⟨E, hE⟩ : ∃ N, openE lim nxx L s xp = N := ⟨_, rfl⟩
                  rw [hN, hE] at HC
                  refine HC.mono ?_
                  rintro e w7 ⟨rfl, nv7, hS, hst⟩
                  have R := Lib.hid (R.out.step hst)
                  have O := Lib.hid (O.out.fr0 hst.fr (fun k hk h => h.elim (OB.out.1 k hk).1 (OB.out.1 k hk).2.1) (fun h => h.elim OB.out.2.1 OB.out.2.2.1) (fun g o s e h => h.elim (R.out.hra g o s e).1 (R.out.hra g o s e).2.1))
                  have S0 := S
                  have HW7 := Lib.hid (show sb < w7.heap.size ∧ mb < w7.heap.size ∧ RB < w7.heap.size ∧ W0.heap.size ≤ w7.heap.size from ⟨hS.is.lt sb (.inl rfl), hS.is.lt mb (.inr (.inl rfl)), (Array.getElem?_eq_some_iff.1 R.out.hrb).1, hS.fr.size⟩)
                  have S := Lib.hid hS
                  clear HC hS hst x0 x1 x2 x3
                  have xx := (S.out.ex (AB, .cells #[.int .u8 xk, .string (bs s), .int .i64 xm, .int .i64 xp] 23 (0, 0)) (by simp)).1
                  have x0 := cells_in xx 0
                  have x1 := cells_in xx 1
                  have x2 := cells_in xx 2
                  have x3 := cells_in xx 3
                  simp at x0 x1 x2 x3
                  clear xx
                  have r0 := cells_in R.out.hrb 0
                  have r1 := cells_in R.out.hrb 1
                  have r2 := cells_in R.out.hrb 2
                  simp at r0 r1 r2
                  rw [Hl.out] at r2
                  go_wp2_with fail
                  have HC := rOpen_any lim nxx ra l rc L s xp w7 Hl.out (by have := S0.out.is.ok.small; have := Hl.out; omega) (by have := R.out.hc1; have := Hl.out; omega) R.out.hc2 S0.out.is.ok (by omega) R.out.hpt
                  rw [hN, hE] at HC
                  refine HC.mono ?_
                  rintro e w8 ⟨u, rfl, ⟨ra2, rc2, rfl, hpt2, hc12, hc22, hblk2⟩, hf⟩
                  obtain ⟨nx2, hnx2⟩ : ∃ z, openX lim nxx L s xp = z := ⟨_, rfl⟩
                  obtain ⟨L2, hL2⟩ : ∃ z, openL lim nxx L s xp = z := ⟨_, rfl⟩
                  rw [hnx2, hL2] at S
                  rw [hL2] at hpt2 hc12
                  rw [hnx2, hL2]
                  obtain ⟨l2, hl2⟩ : ∃ z, L2.length = z := ⟨_, rfl⟩
                  have Hl2 := Lib.hid hl2
                  rw [hl2]
                  clear hl2
                  have S := Lib.hid (S.out.later hf)
                  have O := Lib.hid (O.out.later hf)
                  have hrb8 := (hf.block RB (Array.getElem?_eq_some_iff.1 R.out.hrb).1 id).trans R.out.hrb
                  obtain ⟨V8, hV8⟩ : ∃ W, ((w8.setCell ⟨RB, 0, none⟩ (.int .i64 lim)).setCell ⟨RB, 1, none⟩ (.int .i64 nx2)).setCell ⟨RB, 2, none⟩ (.slice ra2 l2 rc2) = W := ⟨_, rfl⟩
                  have f8 := Lib.hid (show Fr0 (fun k => k = RB) w8 V8 by rw [← hV8]; exact (((Fr0.refl (fun k => k = RB) w8).setCell (fun _ => rfl) _).setCell (fun _ => rfl) _).setCell (fun _ => rfl) _)
                  have hrb9 : V8.heap[RB]? = some (.cells #[.int .i64 lim, .int .i64 nx2, .slice ra2 L2.length rc2] 65 (0, 0)) := by
                    rw [← hV8, Hl2.out]; simp [World.setCell, Array.getElem?_modify, hrb8]
                  have hra2 : ∀ g o s, ra2 = some ⟨g, o, s⟩ → g ≠ sb ∧ g ≠ mb ∧ g ≠ RB ∧ W0.heap.size ≤ g := fun g o s e => by
                    rcases hblk2 with h | h
                    · exact R.out.hra g o s (h ▸ e)
                    · have h1 := h g o s e
                      have h4 := HW7.out
                      omega
                  have O := Lib.hid (O.out.fr0 f8.out (fun k hk h => (OB.out.1 k hk).2.2 h) OB.out.2.2.2 (fun g o s e h => (R.out.hra g o s e).2.2.1 h))
                  have S := Lib.hid (S.out.turn f8.out R.out.hne.1 R.out.hne.2 (fun x hx => by simp at hx; subst hx; exact HAR.out))
                  have R := Lib.hid (show RSt V8 RB sb mb nv7 lim nx2 L2 ra2 rc2 W0 from ⟨hrb9, hpt2.fr0 f8.out (fun g o s e h => (hra2 g o s e).2.2.1 h), hc12, hc22, R.out.hne, hra2⟩)
                  have y0 := thaw_in hrb8 0
                  have y1 := thaw_in hrb8 1
                  have y2 := thaw_in hrb8 2
                  have z0 := cells_in hrb8 0
                  have z1 := cells_in hrb8 1
                  have z2 := cells_in hrb8 2
                  simp at z0 z1 z2
                  clear hrb9 hpt2 hblk2 hf hrb8 r0 r1 r2 x0 x1 x2 x3 hra2
                  have xx := (S.out.ex (AB, .cells #[.int .u8 xk, .string (bs s), .int .i64 xm, .int .i64 xp] 23 (0, 0)) (by simp)).1
                  have x0 := cells_in xx 0
                  have x1 := cells_in xx 1
                  have x2 := cells_in xx 2
                  have x3 := cells_in xx 3
                  simp at x0 x1 x2 x3
                  clear xx
                  have r0 := cells_in R.out.hrb 0
                  have r1 := cells_in R.out.hrb 1
                  have r2 := cells_in R.out.hrb 2
                  simp at r0 r1 r2
                  rw [Hl2.out] at r2
                  go_wp2_with fail
                  clear hV8 y0 y1 y2 z0 z1 z2
                  clear hN hE S0
                  have hl2c := S.out.is.ok.small
                  have HC := Tells_any S.out.is ra2 l2 rc2 Hl2.out (Hl2.out ▸ R.out.hc1) R.out.hc2 R.out.hpt s (by omega) xm xp Hok.out.2.1
                  refine HC.mono ?_
                  rintro e w9 ⟨rfl, hf⟩
                  have S := Lib.hid (S.out.later hf)
                  have R := Lib.hid (R.out.later hf)
                  have O := Lib.hid (O.out.later hf)
                  clear HC hf x0 x1 x2 x3 r0 r1 r2
                  have xx := (S.out.ex (AB, .cells #[.int .u8 xk, .string (bs s), .int .i64 xm, .int .i64 xp] 23 (0, 0)) (by simp)).1
                  have x0 := cells_in xx 0
                  have x1 := cells_in xx 1
                  have x2 := cells_in xx 2
                  have x3 := cells_in xx 3
                  simp at x0 x1 x2 x3
                  clear xx
                  have o0 := cells_in O.out.hw 0
                  have o1 := cells_in O.out.hw 1
                  have o2 := cells_in O.out.hw 2
                  simp at o0 o1 o2
                  go_wp2_with fail
                  have HC := Tells_any O.out.is ra l rc Hl.out (by have := HC1.out; omega) HC1.out.2 O.out.pt s (by omega) xm xp Hok.out.2.1
                  refine HC.mono ?_
                  rintro e w10 ⟨rfl, hf⟩
                  have S := Lib.hid ((S.out.later hf).less (fun x hx => by cases hx) : SpSt W0 w10 sb mb _ lim _ _ [])
                  have R := Lib.hid (R.out.later hf)
                  clear HC hf x0 x1 x2 x3 o0 o1 o2 O OB
                  go_wp2
                  go_roundw
                  case rel => exact ⟨k + 1, _, _, _, _, _, by omega, by go_num, S, R⟩
                  case measure => simp [Go.RowKit.intOf]; omega
                · skip
                  go_wp2_with fail
                  have HC := open_st S.out s (by omega) xp
                  obtain ⟨N, hN⟩ : ∃ N, openN lim nxx L s xp = N := ⟨_, rfl⟩
                  obtain ⟨E, hE⟩ : ∃ N, openE lim nxx L s xp = N := ⟨_, rfl⟩
                  rw [hN, hE] at HC
                  refine HC.mono ?_
                  rintro e w7 ⟨rfl, nv7, hS, hst⟩
                  have R := Lib.hid (R.out.step hst)
                  have O := Lib.hid (O.out.fr0 hst.fr (fun k hk h => h.elim (OB.out.1 k hk).1 (OB.out.1 k hk).2.1) (fun h => h.elim OB.out.2.1 OB.out.2.2.1) (fun g o s e h => h.elim (R.out.hra g o s e).1 (R.out.hra g o s e).2.1))
                  have S0 := S
                  have HW7 := Lib.hid (show sb < w7.heap.size ∧ mb < w7.heap.size ∧ RB < w7.heap.size ∧ W0.heap.size ≤ w7.heap.size from ⟨hS.is.lt sb (.inl rfl), hS.is.lt mb (.inr (.inl rfl)), (Array.getElem?_eq_some_iff.1 R.out.hrb).1, hS.fr.size⟩)
                  have S := Lib.hid hS
                  clear HC hS hst x0 x1 x2 x3
                  have xx := (S.out.ex (AB, .cells #[.int .u8 xk, .string (bs s), .int .i64 xm, .int .i64 xp] 23 (0, 0)) (by simp)).1
                  have x0 := cells_in xx 0
                  have x1 := cells_in xx 1
                  have x2 := cells_in xx 2
                  have x3 := cells_in xx 3
                  simp at x0 x1 x2 x3
                  clear xx
                  have r0 := cells_in R.out.hrb 0
                  have r1 := cells_in R.out.hrb 1
                  have r2 := cells_in R.out.hrb 2
                  simp at r0 r1 r2
                  rw [Hl.out] at r2
                  go_wp2_with fail
                  have HC := rOpen_any lim nxx ra l rc L s xp w7 Hl.out (by have := S0.out.is.ok.small; have := Hl.out; omega) (by have := R.out.hc1; have := Hl.out; omega) R.out.hc2 S0.out.is.ok (by omega) R.out.hpt
                  rw [hN, hE] at HC
                  refine HC.mono ?_
                  rintro e w8 ⟨u, rfl, ⟨ra2, rc2, rfl, hpt2, hc12, hc22, hblk2⟩, hf⟩
                  obtain ⟨nx2, hnx2⟩ : ∃ z, openX lim nxx L s xp = z := ⟨_, rfl⟩
                  obtain ⟨L2, hL2⟩ : ∃ z, openL lim nxx L s xp = z := ⟨_, rfl⟩
                  rw [hnx2, hL2] at S
                  rw [hL2] at hpt2 hc12
                  rw [hnx2, hL2]
                  obtain ⟨l2, hl2⟩ : ∃ z, L2.length = z := ⟨_, rfl⟩
                  have Hl2 := Lib.hid hl2
                  rw [hl2]
                  clear hl2
                  have S := Lib.hid (S.out.later hf)
                  have O := Lib.hid (O.out.later hf)
                  have hrb8 := (hf.block RB (Array.getElem?_eq_some_iff.1 R.out.hrb).1 id).trans R.out.hrb
                  obtain ⟨V8, hV8⟩ : ∃ W, ((w8.setCell ⟨RB, 0, none⟩ (.int .i64 lim)).setCell ⟨RB, 1, none⟩ (.int .i64 nx2)).setCell ⟨RB, 2, none⟩ (.slice ra2 l2 rc2) = W := ⟨_, rfl⟩
                  have f8 := Lib.hid (show Fr0 (fun k => k = RB) w8 V8 by rw [← hV8]; exact (((Fr0.refl (fun k => k = RB) w8).setCell (fun _ => rfl) _).setCell (fun _ => rfl) _).setCell (fun _ => rfl) _)
                  have hrb9 : V8.heap[RB]? = some (.cells #[.int .i64 lim, .int .i64 nx2, .slice ra2 L2.length rc2] 65 (0, 0)) := by
                    rw [← hV8, Hl2.out]; simp [World.setCell, Array.getElem?_modify, hrb8]
                  have hra2 : ∀ g o s, ra2 = some ⟨g, o, s⟩ → g ≠ sb ∧ g ≠ mb ∧ g ≠ RB ∧ W0.heap.size ≤ g := fun g o s e => by
                    rcases hblk2 with h | h
                    · exact R.out.hra g o s (h ▸ e)
                    · have h1 := h g o s e
                      have h4 := HW7.out
                      omega
                  have O := Lib.hid (O.out.fr0 f8.out (fun k hk h => (OB.out.1 k hk).2.2 h) OB.out.2.2.2 (fun g o s e h => (R.out.hra g o s e).2.2.1 h))
                  have S := Lib.hid (S.out.turn f8.out R.out.hne.1 R.out.hne.2 (fun x hx => by simp at hx; subst hx; exact HAR.out))
                  have R := Lib.hid (show RSt V8 RB sb mb nv7 lim nx2 L2 ra2 rc2 W0 from ⟨hrb9, hpt2.fr0 f8.out (fun g o s e h => (hra2 g o s e).2.2.1 h), hc12, hc22, R.out.hne, hra2⟩)
                  have y0 := thaw_in hrb8 0
                  have y1 := thaw_in hrb8 1
                  have y2 := thaw_in hrb8 2
                  have z0 := cells_in hrb8 0
                  have z1 := cells_in hrb8 1
                  have z2 := cells_in hrb8 2
                  simp at z0 z1 z2
                  clear hrb9 hpt2 hblk2 hf hrb8 r0 r1 r2 x0 x1 x2 x3 hra2
                  have xx := (S.out.ex (AB, .cells #[.int .u8 xk, .string (bs s), .int .i64 xm, .int .i64 xp] 23 (0, 0)) (by simp)).1
                  have x0 := cells_in xx 0
                  have x1 := cells_in xx 1
                  have x2 := cells_in xx 2
                  have x3 := cells_in xx 3
                  simp at x0 x1 x2 x3
                  clear xx
                  have r0 := cells_in R.out.hrb 0
                  have r1 := cells_in R.out.hrb 1
                  have r2 := cells_in R.out.hrb 2
                  simp at r0 r1 r2
                  rw [Hl2.out] at r2
                  go_wp2_with fail
                  clear hV8 y0 y1 y2 z0 z1 z2
                  clear hN hE S0
                  have hl2c := S.out.is.ok.small
                  have HC := Tells_any S.out.is ra2 l2 rc2 Hl2.out (Hl2.out ▸ R.out.hc1) R.out.hc2 R.out.hpt s (by omega) xm xp Hok.out.2.1
                  refine HC.mono ?_
                  rintro e w9 ⟨rfl, hf⟩
                  have S := Lib.hid (S.out.later hf)
                  have R := Lib.hid (R.out.later hf)
                  have O := Lib.hid (O.out.later hf)
                  clear HC hf x0 x1 x2 x3 r0 r1 r2
                  have xx := (S.out.ex (AB, .cells #[.int .u8 xk, .string (bs s), .int .i64 xm, .int .i64 xp] 23 (0, 0)) (by simp)).1
                  have x0 := cells_in xx 0
                  have x1 := cells_in xx 1
                  have x2 := cells_in xx 2
                  have x3 := cells_in xx 3
                  simp at x0 x1 x2 x3
                  clear xx
                  have o0 := cells_in O.out.hw 0
                  have o1 := cells_in O.out.hw 1
                  have o2 := cells_in O.out.hw 2
                  simp at o0 o1 o2
                  go_wp2_with fail
                  have HC := Tells_any O.out.is ra l rc Hl.out (by have := HC1.out; omega) HC1.out.2 O.out.pt s (by omega) xm xp Hok.out.2.1
                  refine HC.mono ?_
                  rintro e w10 ⟨rfl, hf⟩
                  have S := Lib.hid ((S.out.later hf).less (fun x hx => by cases hx) : SpSt W0 w10 sb mb _ lim _ _ [])
                  have R := Lib.hid (R.out.later hf)
                  clear HC hf x0 x1 x2 x3 o0 o1 o2 O OB
                  go_wp2
                  go_roundw
                  case rel => exact ⟨k + 1, _, _, _, _, _, by omega, by go_num, S, R⟩
                  case measure => simp [Go.RowKit.intOf]; omega
                · skip
                  go_wp2_with fail
                  have HC := open_st S.out s (by omega) xp
                  obtain ⟨N, hN⟩ : ∃ N, openN lim nxx L s xp = N := ⟨_, rfl⟩
                  obtain ⟨E, hE⟩ : ∃ N, openE lim nxx L s xp = N := ⟨_, rfl⟩
                  rw [hN, hE] at HC
                  refine HC.mono ?_
                  rintro e w7 ⟨rfl, nv7, hS, hst⟩
                  have R := Lib.hid (R.out.step hst)
                  have O := Lib.hid (O.out.fr0 hst.fr (fun k hk h => h.elim (OB.out.1 k hk).1 (OB.out.1 k hk).2.1) (fun h => h.elim OB.out.2.1 OB.out.2.2.1) (fun g o s e h => h.elim (R.out.hra g o s e).1 (R.out.hra g o s e).2.1))
                  have S0 := S
                  have HW7 := Lib.hid (show sb < w7.heap.size ∧ mb < w7.heap.size ∧ RB < w7.heap.size ∧ W0.heap.size ≤ w7.heap.size from ⟨hS.is.lt sb (.inl rfl), hS.is.lt mb (.inr (.inl rfl)), (Array.getElem?_eq_some_iff.1 R.out.hrb).1, hS.fr.size⟩)
                  have S := Lib.hid hS
                  clear HC hS hst x0 x1 x2 x3
                  have xx := (S.out.ex (AB, .cells #[.int .u8 xk, .string (bs s), .int .i64 xm, .int .i64 xp] 23 (0, 0)) (by simp)).1
                  have x0 := cells_in xx 0
                  have x1 := cells_in xx 1
                  have x2 := cells_in xx 2
                  have x3 := cells_in xx 3
                  simp at x0 x1 x2 x3
                  clear xx
                  have r0 := cells_in R.out.hrb 0
                  have r1 := cells_in R.out.hrb 1
                  have r2 := cells_in R.out.hrb 2
                  simp at r0 r1 r2
                  rw [Hl.out] at r2
                  go_wp2_with fail
                  have HC := rOpen_any lim nxx ra l rc L s xp w7 Hl.out (by have := S0.out.is.ok.small; have := Hl.out; omega) (by have := R.out.hc1; have := Hl.out; omega) R.out.hc2 S0.out.is.ok (by omega) R.out.hpt
                  rw [hN, hE] at HC
                  refine HC.mono ?_
                  rintro e w8 ⟨u, rfl, ⟨ra2, rc2, rfl, hpt2, hc12, hc22, hblk2⟩, hf⟩
                  obtain ⟨nx2, hnx2⟩ : ∃ z, openX lim nxx L s xp = z := ⟨_, rfl⟩
                  obtain ⟨L2, hL2⟩ : ∃ z, openL lim nxx L s xp = z := ⟨_, rfl⟩
                  rw [hnx2, hL2] at S
                  rw [hL2] at hpt2 hc12
                  rw [hnx2, hL2]
                  obtain ⟨l2, hl2⟩ : ∃ z, L2.length = z := ⟨_, rfl⟩
                  have Hl2 := Lib.hid hl2
                  rw [hl2]
                  clear hl2
                  have S := Lib.hid (S.out.later hf)
                  have O := Lib.hid (O.out.later hf)
                  have hrb8 := (hf.block RB (Array.getElem?_eq_some_iff.1 R.out.hrb).1 id).trans R.out.hrb
                  obtain ⟨V8, hV8⟩ : ∃ W, ((w8.setCell ⟨RB, 0, none⟩ (.int .i64 lim)).setCell ⟨RB, 1, none⟩ (.int .i64 nx2)).setCell ⟨RB, 2, none⟩ (.slice ra2 l2 rc2) = W := ⟨_, rfl⟩
                  have f8 := Lib.hid (show Fr0 (fun k => k = RB) w8 V8 by rw [← hV8]; exact (((Fr0.refl (fun k => k = RB) w8).setCell (fun _ => rfl) _).setCell (fun _ => rfl) _).setCell (fun _ => rfl) _)
                  have hrb9 : V8.heap[RB]? = some (.cells #[.int .i64 lim, .int .i64 nx2, .slice ra2 L2.length rc2] 65 (0, 0)) := by
                    rw [← hV8, Hl2.out]; simp [World.setCell, Array.getElem?_modify, hrb8]
                  have hra2 : ∀ g o s, ra2 = some ⟨g, o, s⟩ → g ≠ sb ∧ g ≠ mb ∧ g ≠ RB ∧ W0.heap.size ≤ g := fun g o s e => by
                    rcases hblk2 with h | h
                    · exact R.out.hra g o s (h ▸ e)
                    · have h1 := h g o s e
                      have h4 := HW7.out
                      omega
                  have O := Lib.hid (O.out.fr0 f8.out (fun k hk h => (OB.out.1 k hk).2.2 h) OB.out.2.2.2 (fun g o s e h => (R.out.hra g o s e).2.2.1 h))
                  have S := Lib.hid (S.out.turn f8.out R.out.hne.1 R.out.hne.2 (fun x hx => by simp at hx; subst hx; exact HAR.out))
                  have R := Lib.hid (show RSt V8 RB sb mb nv7 lim nx2 L2 ra2 rc2 W0 from ⟨hrb9, hpt2.fr0 f8.out (fun g o s e h => (hra2 g o s e).2.2.1 h), hc12, hc22, R.out.hne, hra2⟩)
                  have y0 := thaw_in hrb8 0
                  have y1 := thaw_in hrb8 1
                  have y2 := thaw_in hrb8 2
                  have z0 := cells_in hrb8 0
                  have z1 := cells_in hrb8 1
                  have z2 := cells_in hrb8 2
                  simp at z0 z1 z2
                  clear hrb9 hpt2 hblk2 hf hrb8 r0 r1 r2 x0 x1 x2 x3 hra2
                  have xx := (S.out.ex (AB, .cells #[.int .u8 xk, .string (bs s), .int .i64 xm, .int .i64 xp] 23 (0, 0)) (by simp)).1
                  have x0 := cells_in xx 0
                  have x1 := cells_in xx 1
                  have x2 := cells_in xx 2
                  have x3 := cells_in xx 3
                  simp at x0 x1 x2 x3
                  clear xx
                  have r0 := cells_in R.out.hrb 0
                  have r1 := cells_in R.out.hrb 1
                  have r2 := cells_in R.out.hrb 2
                  simp at r0 r1 r2
                  rw [Hl2.out] at r2
                  go_wp2_with fail
                  clear hV8 y0 y1 y2 z0 z1 z2
                  clear hN hE S0
                  have hl2c := S.out.is.ok.small
                  have HC := Tells_any S.out.is ra2 l2 rc2 Hl2.out (Hl2.out ▸ R.out.hc1) R.out.hc2 R.out.hpt s (by omega) xm xp Hok.out.2.1
                  refine HC.mono ?_
                  rintro e w9 ⟨rfl, hf⟩
                  have S := Lib.hid (S.out.later hf)
                  have R := Lib.hid (R.out.later hf)
                  have O := Lib.hid (O.out.later hf)
                  clear HC hf x0 x1 x2 x3 r0 r1 r2
                  have xx := (S.out.ex (AB, .cells #[.int .u8 xk, .string (bs s), .int .i64 xm, .int .i64 xp] 23 (0, 0)) (by simp)).1
                  have x0 := cells_in xx 0
                  have x1 := cells_in xx 1
                  have x2 := cells_in xx 2
                  have x3 := cells_in xx 3
                  simp at x0 x1 x2 x3
                  clear xx
                  have o0 := cells_in O.out.hw 0
                  have o1 := cells_in O.out.hw 1
                  have o2 := cells_in O.out.hw 2
                  simp at o0 o1 o2
                  go_wp2_with fail
                  have HC := Tells_any O.out.is ra l rc Hl.out (by have := HC1.out; omega) HC1.out.2 O.out.pt s (by omega) xm xp Hok.out.2.1
                  refine HC.mono ?_
                  rintro e w10 ⟨rfl, hf⟩
                  have S := Lib.hid ((S.out.later hf).less (fun x hx => by cases hx) : SpSt W0 w10 sb mb _ lim _ _ [])
                  have R := Lib.hid (R.out.later hf)
                  clear HC hf x0 x1 x2 x3 o0 o1 o2 O OB
                  go_wp2
                  go_roundw
                  case rel => exact ⟨k + 1, _, _, _, _, _, by omega, by go_num, S, R⟩
                  case measure => simp [Go.RowKit.intOf]; omega
                · skip
                  go_wp2_with fail
                  have HC := close_st S.out xm Hok.out.2.1
                  obtain ⟨⟨pa, pb, pc⟩, hP⟩ : ∃ N, getP L xm = N := ⟨_, rfl⟩
                  obtain ⟨E, hE⟩ : ∃ N, getE L xm = N := ⟨_, rfl⟩
                  rw [hP, hE] at HC
                  refine HC.mono ?_
                  rintro e w7 ⟨rfl, nv7, hS, hst⟩
                  simp only [ptV]
                  have R := Lib.hid (R.out.step hst)
                  have O := Lib.hid (O.out.fr0 hst.fr (fun k hk h => h.elim (OB.out.1 k hk).1 (OB.out.1 k hk).2.1) (fun h => h.elim OB.out.2.1 OB.out.2.2.1) (fun g o s e h => h.elim (R.out.hra g o s e).1 (R.out.hra g o s e).2.1))
                  have S0 := S
                  have HW7 := Lib.hid (show sb < w7.heap.size ∧ mb < w7.heap.size ∧ RB < w7.heap.size ∧ W0.heap.size ≤ w7.heap.size from ⟨hS.is.lt sb (.inl rfl), hS.is.lt mb (.inr (.inl rfl)), (Array.getElem?_eq_some_iff.1 R.out.hrb).1, hS.fr.size⟩)
                  have S := Lib.hid hS
                  clear HC hS hst x0 x1 x2 x3
                  obtain ⟨W8, hW8⟩ : ∃ W, w7.alloc (.cells #[.int .i64 pa, .string (bs pb), .int .i64 pc] 43) = W := ⟨_, rfl⟩
                  obtain ⟨PB, hPB⟩ : ∃ X, w7.heap.size = X := ⟨_, rfl⟩
                  have hpb : W8.heap[PB]? = some (.cells #[.int .i64 pa, .string (bs pb), .int .i64 pc] 43 (0, 0)) := by rw [← hW8, ← hPB]; exact World.alloc_heap_new w7 _
                  have f78 := (show Fr0 none' w7 W8 by rw [← hW8]; exact (Fr0.refl _ _).alloc _)
                  obtain ⟨W9, hW9⟩ : ∃ W, W8.alloc (.cells #[.int .i64 0, .string ⟨#[]⟩, .int .i64 0] 68) = W := ⟨_, rfl⟩
                  obtain ⟨QB, hQB⟩ : ∃ X, W8.heap.size = X := ⟨_, rfl⟩
                  have hqb : W9.heap[QB]? = some (.cells #[.int .i64 0, .string ⟨#[]⟩, .int .i64 0] 68 (0, 0)) := by rw [← hW9, ← hQB]; exact World.alloc_heap_new W8 _
                  have f89 := (show Fr0 none' W8 W9 by rw [← hW9]; exact (Fr0.refl _ _).alloc _)
                  have f79 := Lib.hid (f78.trans f89)
                  have hpb := (f89.block PB (Array.getElem?_eq_some_iff.1 hpb).1 id).trans hpb
                  have hW8s : W8.heap.size = w7.heap.size + 1 := by rw [← hW8]; simp
                  have HQ := Lib.hid (show PB < QB ∧ QB < W9.heap.size ∧ w7.heap.size ≤ PB ∧ PB < W9.heap.size from ⟨by omega, (Array.getElem?_eq_some_iff.1 hqb).1, by omega, (Array.getElem?_eq_some_iff.1 hpb).1⟩)
                  clear hW8s
                  have S7 := S
                  have R7 := R
                  have S := Lib.hid (S.out.later f79.out)
                  have R := Lib.hid (R.out.later f79.out)
                  have HPBc := Lib.hid hpb
                  have HQBc := Lib.hid hqb
                  have xx := (S.out.ex (AB, .cells #[.int .u8 xk, .string (bs s), .int .i64 xm, .int .i64 xp] 23 (0, 0)) (by simp)).1
                  have x0 := cells_in xx 0
                  have x1 := cells_in xx 1
                  have x2 := cells_in xx 2
                  have x3 := cells_in xx 3
                  simp at x0 x1 x2 x3
                  clear xx
                  have r0 := cells_in R.out.hrb 0
                  have r1 := cells_in R.out.hrb 1
                  have r2 := cells_in R.out.hrb 2
                  simp at r0 r1 r2
                  rw [Hl.out] at r2
                  clear f78 f89 hpb hqb
                  go_wp2_with fail
                  clear hW8 hPB hW9 hQB
                  have HC := rClose_any lim nxx ra l rc L xm W9 Hl.out (by have := S0.out.is.ok.small; have := Hl.out; omega) (by have := R.out.hc1; have := Hl.out; omega) R.out.hc2 S0.out.is.ok R.out.hpt
                  rw [hP, hE] at HC
                  refine HC.mono ?_
                  rintro e w10 ⟨u, rfl, ⟨ra2, rc2, rfl, hpt2, hc12, hc22, hblk2⟩, hf⟩
                  simp only [ptV]
                  have hdnil : L = [] → delP L xm = [] := fun h => by rw [h]; rfl
                  obtain ⟨L2, hL2⟩ : ∃ z, delP L xm = z := ⟨_, rfl⟩
                  rw [hL2] at S S7 hpt2 hc12 hdnil
                  rw [hL2]
                  obtain ⟨l2, hl2⟩ : ∃ z, L2.length = z := ⟨_, rfl⟩
                  have Hl2 := Lib.hid hl2
                  rw [hl2]
                  clear hl2
                  have hrb8 := (hf.block RB (Array.getElem?_eq_some_iff.1 R.out.hrb).1 id).trans R.out.hrb
                  have hqb8 := (hf.block QB HQ.out.2.1 id).trans HQBc.out
                  have hpb8 := (hf.block PB HQ.out.2.2.2 id).trans HPBc.out
                  have hqr : ¬ QB = RB := fun e => by have := HQ.out; have := HW7.out; omega
                  have hrq : ¬ RB = QB := fun e => hqr e.symm
                  obtain ⟨V8, hV8⟩ : ∃ W, (((((w10.setCell ⟨RB, 0, none⟩ (.int .i64 lim)).setCell ⟨RB, 1, none⟩ (.int .i64 nxx)).setCell ⟨RB, 2, none⟩ (.slice ra2 l2 rc2)).setCell ⟨QB, 0, none⟩ (.int .i64 pa)).setCell ⟨QB, 1, none⟩ (.string (bs pb))).setCell ⟨QB, 2, none⟩ (.int .i64 pc) = W := ⟨_, rfl⟩
                  have f8 := Lib.hid (show Fr0 (fun k => k = RB ∨ k = QB) w10 V8 by rw [← hV8]; exact ((((((Fr0.refl (fun k => k = RB ∨ k = QB) w10).setCell (fun _ => .inl rfl) _).setCell (fun _ => .inl rfl) _).setCell (fun _ => .inl rfl) _).setCell (fun _ => .inr rfl) _).setCell (fun _ => .inr rfl) _).setCell (fun _ => .inr rfl) _)
                  have hrb9 : V8.heap[RB]? = some (.cells #[.int .i64 lim, .int .i64 nxx, .slice ra2 L2.length rc2] 65 (0, 0)) := by
                    rw [← hV8, Hl2.out]; simp [World.setCell, Array.getElem?_modify, hrb8, hqr]
                  have hqb9 : V8.heap[QB]? = some (.cells #[.int .i64 pa, .string (bs pb), .int .i64 pc] 68 (0, 0)) := by
                    rw [← hV8]; simp [World.setCell, Array.getElem?_modify, hqb8, hrq]
                  have hpb9 := (f8.out.block PB (Array.getElem?_eq_some_iff.1 hpb8).1 (fun e => by have := HQ.out; have := HW7.out; rcases e with e | e <;> omega)).trans hpb8
                  have f7 := Lib.hid (show Fr0 (fun k => k = RB) w7 V8 from ((f79.out.trans hf).mono (S' := fun k => k = RB) (fun _ _ h => h.elim)).trans' f8.out (fun k hk e => e.elim id (fun e => by have := HQ.out; omega)))
                  have hra2 : ∀ g o s, ra2 = some ⟨g, o, s⟩ → g ≠ sb ∧ g ≠ mb ∧ g ≠ RB ∧ W0.heap.size ≤ g := fun g o s e => by
                    rcases hblk2 with h | h
                    · exact R.out.hra g o s (h ▸ e)
                    · have h1 := h g o s e
                      have h4 := HW7.out
                      have h5 := HQ.out
                      omega
                  have hptV : PtsIn V8 ra2 L2 := by
                    by_cases hL : L = []
                    · rw [hdnil hL]; exact PtsIn.nil _ _
                    · refine hpt2.fr0 f8.out (fun g o s e h => ?_)
                      have hR := (hra2 g o s e).2.2.1
                      rcases h with h | h
                      · exact hR h
                      · rcases hblk2 with hh | hh
                        · have e' : ra = some ⟨g, o, s⟩ := hh ▸ e
                          obtain ⟨y, hy⟩ : ∃ y, L[0]? = some y := by
                            cases L with
                            | nil => exact absurd rfl hL
                            | cons y r => exact ⟨y, rfl⟩
                          obtain ⟨g', o', e1, hc⟩ := R7.out.hpt 0 y hy
                          rw [e'] at e1
                          injection e1 with e1
                          injection e1 with e1
                          have := World.block_lt_of_cell? _ _ hc.1
                          simp only at this
                          have := HQ.out
                          omega
                        · have h1 := hh g o s e
                          have := HQ.out
                          omega
                  have O := Lib.hid (O.out.fr0 f7.out (fun k hk h => (OB.out.1 k hk).2.2 h) OB.out.2.2.2 (fun g o s e h => (R.out.hra g o s e).2.2.1 h))
                  have S := Lib.hid (S7.out.turn f7.out R.out.hne.1 R.out.hne.2 (fun x hx => by simp at hx; subst hx; exact HAR.out))
                  have R := Lib.hid (show RSt V8 RB sb mb nv7 lim nxx L2 ra2 rc2 W0 from ⟨hrb9, hptV, hc12, hc22, R.out.hne, hra2⟩)
                  have y0 := thaw_in hrb8 0
                  have y1 := thaw_in hrb8 1
                  have y2 := thaw_in hrb8 2
                  have z0 := cells_in hrb8 0
                  have z1 := cells_in hrb8 1
                  have z2 := cells_in hrb8 2
                  have v0 := thaw_in hqb8 0
                  have v1 := thaw_in hqb8 1
                  have v2 := thaw_in hqb8 2
                  have u0 := cells_in hqb8 0
                  have u1 := cells_in hqb8 1
                  have u2 := cells_in hqb8 2
                  have p0 := cells_in hpb9 0
                  have p1 := cells_in hpb9 1
                  have p2 := cells_in hpb9 2
                  have q0 := cells_in hqb9 0
                  have q1 := cells_in hqb9 1
                  have q2 := cells_in hqb9 2
                  simp at z0 z1 z2 u0 u1 u2 p0 p1 p2 q0 q1 q2
                  clear hrb9 hqb9 hpb9 hpt2 hblk2 hf hrb8 hqb8 hpb8 r0 r1 r2 x0 x1 x2 x3 hra2 hptV hdnil
                  have xx := (S.out.ex (AB, .cells #[.int .u8 xk, .string (bs s), .int .i64 xm, .int .i64 xp] 23 (0, 0)) (by simp)).1
                  have x0 := cells_in xx 0
                  have x1 := cells_in xx 1
                  have x2 := cells_in xx 2
                  have x3 := cells_in xx 3
                  simp at x0 x1 x2 x3
                  clear xx
                  have r0 := cells_in R.out.hrb 0
                  have r1 := cells_in R.out.hrb 1
                  have r2 := cells_in R.out.hrb 2
                  simp at r0 r1 r2
                  rw [Hl2.out] at r2
                  have hsp : samePt ⟨pa, pb, pc⟩ ⟨pa, pb, pc⟩ = true := samePt_self _
                  go_wp2_with fail
                  clear hV8 y0 y1 y2 z0 z1 z2 v0 v1 v2 u0 u1 u2 p0 p1 p2 q0 q1 q2 hP hE S0 S7 R7 hsp hqr hrq
                  have hl2c := S.out.is.ok.small
                  have HC := Tells_any S.out.is ra2 l2 rc2 Hl2.out (Hl2.out ▸ R.out.hc1) R.out.hc2 R.out.hpt s (by omega) xm xp Hok.out.2.1
                  refine HC.mono ?_
                  rintro e w9 ⟨rfl, hf⟩
                  have S := Lib.hid (S.out.later hf)
                  have R := Lib.hid (R.out.later hf)
                  have O := Lib.hid (O.out.later hf)
                  clear HC hf x0 x1 x2 x3 r0 r1 r2
                  have xx := (S.out.ex (AB, .cells #[.int .u8 xk, .string (bs s), .int .i64 xm, .int .i64 xp] 23 (0, 0)) (by simp)).1
                  have x0 := cells_in xx 0
                  have x1 := cells_in xx 1
                  have x2 := cells_in xx 2
                  have x3 := cells_in xx 3
                  simp at x0 x1 x2 x3
                  clear xx
                  have o0 := cells_in O.out.hw 0
                  have o1 := cells_in O.out.hw 1
                  have o2 := cells_in O.out.hw 2
                  simp at o0 o1 o2
                  go_wp2_with fail
                  have HC := Tells_any O.out.is ra l rc Hl.out (by have := HC1.out; omega) HC1.out.2 O.out.pt s (by omega) xm xp Hok.out.2.1
                  refine HC.mono ?_
                  rintro e w10 ⟨rfl, hf⟩
                  have S := Lib.hid ((S.out.later hf).less (fun x hx => by cases hx) : SpSt W0 w10 sb mb _ lim _ _ [])
                  have R := Lib.hid (R.out.later hf)
                  clear HC hf x0 x1 x2 x3 o0 o1 o2 O OB
                  go_wp2
                  go_roundw
                  case rel => exact ⟨k + 1, _, _, _, _, _, by omega, by go_num, S, R⟩
                  case measure => simp [Go.RowKit.intOf]; omega
                · skip
                  go_wp2_with fail
                  have HC := rename_st S.out xm Hok.out.2.1 s (by omega)
                  obtain ⟨N, hN⟩ : ∃ N, renT L xm s = N := ⟨_, rfl⟩
                  obtain ⟨E, hE⟩ : ∃ N, renE L xm s = N := ⟨_, rfl⟩
                  rw [hN, hE] at HC
                  refine HC.mono ?_
                  rintro e w7 ⟨rfl, nv7, hS, hst⟩
                  have R := Lib.hid (R.out.step hst)
                  have O := Lib.hid (O.out.fr0 hst.fr (fun k hk h => h.elim (OB.out.1 k hk).1 (OB.out.1 k hk).2.1) (fun h => h.elim OB.out.2.1 OB.out.2.2.1) (fun g o s e h => h.elim (R.out.hra g o s e).1 (R.out.hra g o s e).2.1))
                  have S0 := S
                  have HW7 := Lib.hid (show sb < w7.heap.size ∧ mb < w7.heap.size ∧ RB < w7.heap.size ∧ W0.heap.size ≤ w7.heap.size from ⟨hS.is.lt sb (.inl rfl), hS.is.lt mb (.inr (.inl rfl)), (Array.getElem?_eq_some_iff.1 R.out.hrb).1, hS.fr.size⟩)
                  have S := Lib.hid hS
                  clear HC hS hst x0 x1 x2 x3
                  have xx := (S.out.ex (AB, .cells #[.int .u8 xk, .string (bs s), .int .i64 xm, .int .i64 xp] 23 (0, 0)) (by simp)).1
                  have x0 := cells_in xx 0
                  have x1 := cells_in xx 1
                  have x2 := cells_in xx 2
                  have x3 := cells_in xx 3
                  simp at x0 x1 x2 x3
                  clear xx
                  have r0 := cells_in R.out.hrb 0
                  have r1 := cells_in R.out.hrb 1
                  have r2 := cells_in R.out.hrb 2
                  simp at r0 r1 r2
                  rw [Hl.out] at r2
                  go_wp2_with fail
                  have HC := rRename_any lim nxx ra l rc L xm s w7 Hl.out (by have := S0.out.is.ok.small; have := Hl.out; omega) (by have := R.out.hc1; have := Hl.out; omega) R.out.hc2 S0.out.is.ok (by omega) R.out.hpt
                  rw [hN, hE] at HC
                  refine HC.mono ?_
                  rintro e w8 ⟨u, rfl, ⟨ra2, rc2, rfl, hpt2, hc12, hc22, hblk2⟩, hf⟩
                  have hNN : ((bs N).toList == (bs N).toList) = true := by simp
                  obtain ⟨L2, hL2⟩ : ∃ z, renL L xm s = z := ⟨_, rfl⟩
                  rw [hL2] at S
                  rw [hL2] at hpt2 hc12
                  (try rw [hL2])
                  obtain ⟨l2, hl2⟩ : ∃ z, L2.length = z := ⟨_, rfl⟩
                  have Hl2 := Lib.hid hl2
                  rw [hl2]
                  clear hl2
                  have S := Lib.hid (S.out.later hf)
                  have O := Lib.hid (O.out.later hf)
                  have hrb8 := (hf.block RB (Array.getElem?_eq_some_iff.1 R.out.hrb).1 id).trans R.out.hrb
                  obtain ⟨V8, hV8⟩ : ∃ W, ((w8.setCell ⟨RB, 0, none⟩ (.int .i64 lim)).setCell ⟨RB, 1, none⟩ (.int .i64 nxx)).setCell ⟨RB, 2, none⟩ (.slice ra2 l2 rc2) = W := ⟨_, rfl⟩
                  have f8 := Lib.hid (show Fr0 (fun k => k = RB) w8 V8 by rw [← hV8]; exact (((Fr0.refl (fun k => k = RB) w8).setCell (fun _ => rfl) _).setCell (fun _ => rfl) _).setCell (fun _ => rfl) _)
                  have hrb9 : V8.heap[RB]? = some (.cells #[.int .i64 lim, .int .i64 nxx, .slice ra2 L2.length rc2] 65 (0, 0)) := by
                    rw [← hV8, Hl2.out]; simp [World.setCell, Array.getElem?_modify, hrb8]
                  have hra2 : ∀ g o s, ra2 = some ⟨g, o, s⟩ → g ≠ sb ∧ g ≠ mb ∧ g ≠ RB ∧ W0.heap.size ≤ g := fun g o s e => by
                    rcases hblk2 with h | h
                    · exact R.out.hra g o s (h ▸ e)
                    · have h1 := h g o s e
                      have h4 := HW7.out
                      omega
                  have O := Lib.hid (O.out.fr0 f8.out (fun k hk h => (OB.out.1 k hk).2.2 h) OB.out.2.2.2 (fun g o s e h => (R.out.hra g o s e).2.2.1 h))
                  have S := Lib.hid (S.out.turn f8.out R.out.hne.1 R.out.hne.2 (fun x hx => by simp at hx; subst hx; exact HAR.out))
                  have R := Lib.hid (show RSt V8 RB sb mb nv7 lim nxx L2 ra2 rc2 W0 from ⟨hrb9, hpt2.fr0 f8.out (fun g o s e h => (hra2 g o s e).2.2.1 h), hc12, hc22, R.out.hne, hra2⟩)
                  have y0 := thaw_in hrb8 0
                  have y1 := thaw_in hrb8 1
                  have y2 := thaw_in hrb8 2
                  have z0 := cells_in hrb8 0
                  have z1 := cells_in hrb8 1
                  have z2 := cells_in hrb8 2
                  simp at z0 z1 z2
                  clear hrb9 hpt2 hblk2 hf hrb8 r0 r1 r2 x0 x1 x2 x3 hra2
                  have xx := (S.out.ex (AB, .cells #[.int .u8 xk, .string (bs s), .int .i64 xm, .int .i64 xp] 23 (0, 0)) (by simp)).1
                  have x0 := cells_in xx 0
                  have x1 := cells_in xx 1
                  have x2 := cells_in xx 2
                  have x3 := cells_in xx 3
                  simp at x0 x1 x2 x3
                  clear xx
                  have r0 := cells_in R.out.hrb 0
                  have r1 := cells_in R.out.hrb 1
                  have r2 := cells_in R.out.hrb 2
                  simp at r0 r1 r2
                  rw [Hl2.out] at r2
                  go_wp2_with fail
                  clear hV8 y0 y1 y2 z0 z1 z2
                  clear hN hE S0 hNN
                  have hl2c := S.out.is.ok.small
                  have HC := Tells_any S.out.is ra2 l2 rc2 Hl2.out (Hl2.out ▸ R.out.hc1) R.out.hc2 R.out.hpt s (by omega) xm xp Hok.out.2.1
                  refine HC.mono ?_
                  rintro e w9 ⟨rfl, hf⟩
                  have S := Lib.hid (S.out.later hf)
                  have R := Lib.hid (R.out.later hf)
                  have O := Lib.hid (O.out.later hf)
                  clear HC hf x0 x1 x2 x3 r0 r1 r2
                  have xx := (S.out.ex (AB, .cells #[.int .u8 xk, .string (bs s), .int .i64 xm, .int .i64 xp] 23 (0, 0)) (by simp)).1
                  have x0 := cells_in xx 0
                  have x1 := cells_in xx 1
                  have x2 := cells_in xx 2
                  have x3 := cells_in xx 3
                  simp at x0 x1 x2 x3
                  clear xx
                  have o0 := cells_in O.out.hw 0
                  have o1 := cells_in O.out.hw 1
                  have o2 := cells_in O.out.hw 2
                  simp at o0 o1 o2
                  go_wp2_with fail
                  have HC := Tells_any O.out.is ra l rc Hl.out (by have := HC1.out; omega) HC1.out.2 O.out.pt s (by omega) xm xp Hok.out.2.1
                  refine HC.mono ?_
                  rintro e w10 ⟨rfl, hf⟩
                  have S := Lib.hid ((S.out.later hf).less (fun x hx => by cases hx) : SpSt W0 w10 sb mb _ lim _ _ [])
                  have R := Lib.hid (R.out.later hf)
                  clear HC hf x0 x1 x2 x3 o0 o1 o2 O OB
                  go_wp2
                  go_roundw
                  case rel => exact ⟨k + 1, _, _, _, _, _, by omega, by go_num, S, R⟩
                  case measure => simp [Go.RowKit.intOf]; omega
                · go_wp2_with fail
                  have r0 := cells_in R.out.hrb 0
                  have r1 := cells_in R.out.hrb 1
                  have r2 := cells_in R.out.hrb 2
                  simp at r0 r1 r2
                  rw [Hl.out] at r2
                  have hl2c := S.out.is.ok.small
                  have HC := Tells_any S.out.is ra l rc Hl.out (Hl.out ▸ R.out.hc1) R.out.hc2 R.out.hpt s (by omega) xm xp Hok.out.2.1
                  refine HC.mono ?_
                  rintro e w9 ⟨rfl, hf⟩
                  have S := Lib.hid (S.out.later hf)
                  have R := Lib.hid (R.out.later hf)
                  have O := Lib.hid (O.out.later hf)
                  clear HC hf x0 x1 x2 x3 r0 r1 r2
                  have xx := (S.out.ex (AB, .cells #[.int .u8 xk, .string (bs s), .int .i64 xm, .int .i64 xp] 23 (0, 0)) (by simp)).1
                  have x0 := cells_in xx 0
                  have x1 := cells_in xx 1
                  have x2 := cells_in xx 2
                  have x3 := cells_in xx 3
                  simp at x0 x1 x2 x3
                  clear xx
                  have o0 := cells_in O.out.hw 0
                  have o1 := cells_in O.out.hw 1
                  have o2 := cells_in O.out.hw 2
                  simp at o0 o1 o2
                  go_wp2_with fail
                  have HC := Tells_any O.out.is ra l rc Hl.out (by have := HC1.out; omega) HC1.out.2 O.out.pt s (by omega) xm xp Hok.out.2.1
                  refine HC.mono ?_
                  rintro e w10 ⟨rfl, hf⟩
                  have S := Lib.hid ((S.out.later hf).less (fun x hx => by cases hx) : SpSt W0 w10 sb mb _ lim _ _ [])
                  have R := Lib.hid (R.out.later hf)
                  clear HC hf x0 x1 x2 x3 o0 o1 o2 O OB
                  go_wp2
                  go_roundw
                  case rel => exact ⟨k + 1, _, _, _, _, _, by omega, by go_num, S, R⟩
                  case measure => simp [Go.RowKit.intOf]; omega
            · have hkn : n = k := by omega
              subst hkn
              clear hlt hk hl
              have r0 := cells_in R.out.hrb 0
              have r1 := cells_in R.out.hrb 1
              have r2 := cells_in R.out.hrb 2
              simp at r0 r1 r2
              rw [Hl.out] at r2
              go_wp2_with fail
              have HC := Tells_any S.out.is ra l rc Hl.out (Hl.out ▸ R.out.hc1) R.out.hc2 R.out.hpt [97] (by decide) 1 1 (by omega)
              refine HC.mono ?_
              rintro e w9 ⟨rfl, hf⟩
              have F := Lib.hid (hfr.out.trans (S.out.fr.trans hf))
              clear HC hf
              go_wp2
              go_ret
              exact ⟨rfl, F.out⟩
end Go.Proofs.YtieeloealklkgaaGreatDoor
