/-
  Keys: what each function of the package does, and what the laws make of it.
-/
import Derived.Test.YtkohmodnjcoapaaGreatDoorJb1
import Derived.Test.YtkohmodnjcoapaaGreatDoorJb2
set_option linter.unusedSimpArgs false
set_option linter.unusedVariables false

/-
  key.Ends.
-/
namespace Go.Proofs.YtkohmodnjcoapaaGreatDoor
open Go Go.RowKit
attribute [local go_sem ↓] Go.wp_at_zero Go.wp_at_succ
attribute [local go_sem] Oper.semAt_some wide_fn wide_depth wide_fnR wide_depthR

/-- The first and the last key of a time. -/
def endsV (t : Int) : Key3 × Key3 × Int := if 0 ≤ t ∧ t ≤ 281474976710656 then (⟨t, 0, 0⟩, ⟨t, 16, 4294967295⟩, 0) else (zeroK, zeroK, 2)
def keyO (k : Key3) : Obj := .cells #[.int .i64 k.time, .int .i64 k.source, .int .i64 k.seq] 28
theorem ends_post {w W : World} {A C : Key3} {m : Int} (k1 : KeyAt W w.heap.size A) (k2 : KeyAt W (w.heap.size + 1) C) (F : Fr0 none' w W) {f : Act} (hd : f.defers = []) (h2 : f.tmps[2]? = some (.pointer (some ⟨w.heap.size, 0, none⟩))) (h3 : f.tmps[3]? = some (.pointer (some ⟨w.heap.size + 1, 0, none⟩))) (h4 : f.tmps[4]? = some (.int .i64 m)) :
    bodyPost Tryz.prog Tryz.f15 (fun e w' => e = Ending.returned (.tuple #[keyV A, keyV C, .int .i64 m]) ∧ Fr0 none' w w') Exit.ret f W := by
  have d0 := k1.cell (i := 0) (by omega)
  have d1 := k1.cell (i := 1) (by omega)
  have d2 := k1.cell (i := 2) (by omega)
  have e0 := k2.cell (i := 0) (by omega)
  have e1 := k2.cell (i := 1) (by omega)
  have e2 := k2.cell (i := 2) (by omega)
  simp [nth3] at d0 d1 d2 e0 e1 e2
  refine bodyPost_ret (v := .tuple #[keyV A, keyV C, .int .i64 m]) ?_ hd ⟨rfl, F⟩
  simp [results, Tryz.results15, go_sem, d0, d1, d2, e0, e1, e2, keyV, h2, h3, h4]
set_option maxRecDepth 100000 in
set_option maxHeartbeats 4000000 in
theorem Ends_any (t : Int) (w : World) : Calls Tryz.prog 15 #[.int .i64 t] w fun e w' => e = .returned (.tuple #[keyV (endsV t).1, keyV (endsV t).2.1, .int .i64 (endsV t).2.2]) ∧ Fr0 none' w w' := by
  unfold endsV
  by_cases h0 : t < 0
  · have d0 : decide (t < 0) = true := decide_eq_true h0
    rw [if_neg (by omega)]
    clear h0
    go_enter Tryz.func15, Tryz.ntmps15
    go_wp2_with fail
    refine ends_post (A := zeroK) (C := zeroK) ?_ ?_ ((((Fr0.refl _ w).alloc _).alloc _)) rfl ?_ ?_ ?_
    · exact KeyAt.alloc (k := zeroK) (World.alloc_heap_new w _) _
    · have := World.alloc_heap_new (w.alloc (keyO zeroK)) (keyO zeroK)
      rw [World.size_alloc] at this
      exact this
    · rfl
    · rfl
    · rfl
  · have d0 : decide (t < 0) = false := decide_eq_false h0
    by_cases h1 : 281474976710656 < t
    · have d1 : decide (281474976710656 < t) = true := decide_eq_true h1
      rw [if_neg (by omega)]
      clear h0 h1
      go_enter Tryz.func15, Tryz.ntmps15
      go_wp2_with fail
      refine ends_post (A := zeroK) (C := zeroK) ?_ ?_ ((((Fr0.refl _ w).alloc _).alloc _)) rfl ?_ ?_ ?_
      · exact KeyAt.alloc (k := zeroK) (World.alloc_heap_new w _) _
      · have := World.alloc_heap_new (w.alloc (keyO zeroK)) (keyO zeroK)
        rw [World.size_alloc] at this
        exact this
      · rfl
      · rfl
      · rfl
    · have d1 : decide (281474976710656 < t) = false := decide_eq_false h1
      rw [if_pos (by omega)]
      clear h0 h1
      go_enter Tryz.func15, Tryz.ntmps15
      go_wp2_with fail
      refine ends_post (A := (⟨t, 0, 0⟩ : Key3)) (C := (⟨t, 16, 4294967295⟩ : Key3)) ?_ ?_ ((((Fr0.refl _ w).alloc _).alloc _)) rfl ?_ ?_ ?_
      · exact KeyAt.alloc (k := (⟨t, 0, 0⟩ : Key3)) (World.alloc_heap_new w _) _
      · have := World.alloc_heap_new (w.alloc (keyO (⟨t, 0, 0⟩ : Key3))) (keyO (⟨t, 16, 4294967295⟩ : Key3))
        rw [World.size_alloc] at this
        exact this
      · rfl
      · rfl
      · rfl
end Go.Proofs.YtkohmodnjcoapaaGreatDoor

/-
  The order of keys, the next key and the one before: the plain laws.
-/
namespace Go.Proofs.YtkohmodnjcoapaaGreatDoor
open Go Go.RowKit

theorem cmpK_le (a b : Key3) : cmpK a b ≤ 0 ↔ ¬ (b.time < a.time ∨ (b.time = a.time ∧ (b.source < a.source ∨ (b.source = a.source ∧ b.seq < a.seq)))) := by
  rw [← cmpK_lt, cmpK_anti b a]; omega
theorem cmpK_gt (a b : Key3) : 0 < cmpK a b ↔ (b.time < a.time ∨ (b.time = a.time ∧ (b.source < a.source ∨ (b.source = a.source ∧ b.seq < a.seq)))) := by
  rw [← cmpK_lt, cmpK_anti b a]; omega
theorem cmpK_ge (a b : Key3) : 0 ≤ cmpK a b ↔ ¬ (a.time < b.time ∨ (a.time = b.time ∧ (a.source < b.source ∨ (a.source = b.source ∧ a.seq < b.seq)))) := by
  rw [← cmpK_lt]; omega
theorem cmpI_in (a b : Int) : cmpI a b = -1 ∨ cmpI a b = 0 ∨ cmpI a b = 1 := by
  unfold cmpI
  repeat' split
  all_goals omega
theorem cmpK_in (a b : Key3) : cmpK a b = -1 ∨ cmpK a b = 0 ∨ cmpK a b = 1 := by
  unfold cmpK
  repeat' split
  all_goals exact cmpI_in _ _
theorem cmpK_neg (a b : Key3) : cmpK a b = -1 ↔ (a.time < b.time ∨ (a.time = b.time ∧ (a.source < b.source ∨ (a.source = b.source ∧ a.seq < b.seq)))) := by
  rw [← cmpK_lt]
  have := cmpK_in a b
  omega
theorem nextK_some {x n : Key3} (hx : RightK x) (h : nextK x = some n) : RightK n ∧ backK n = some x ∧ cmpK x n = -1 ∧ ∀ y, RightK y → cmpK x y < 0 → cmpK n y ≤ 0 := by
  obtain ⟨t, s, q⟩ := x
  unfold nextK at h
  obtain ⟨h1, h2, h3, h4, h5, h6⟩ := hx
  dsimp only at *
  split at h
  · injection h with h; subst h
    refine ⟨by unfold RightK; dsimp only; omega, ?_, by rw [cmpK_neg]; dsimp only; omega, fun y hy hl => ?_⟩
    · unfold backK; dsimp only; rw [if_pos (by omega)]; simp
    · obtain ⟨y1, y2, y3, y4, y5, y6⟩ := hy
      rw [cmpK_lt] at hl; rw [cmpK_le]; dsimp only at *; omega
  · split at h
    · injection h with h; subst h
      refine ⟨by unfold RightK; dsimp only; omega, ?_, by rw [cmpK_neg]; dsimp only; omega, fun y hy hl => ?_⟩
      · unfold backK; dsimp only; rw [if_neg (by omega), if_pos (by omega)]; simp; omega
      · obtain ⟨y1, y2, y3, y4, y5, y6⟩ := hy
        rw [cmpK_lt] at hl; rw [cmpK_le]; dsimp only at *; omega
    · split at h
      · injection h with h; subst h
        refine ⟨by unfold RightK; dsimp only; omega, ?_, by rw [cmpK_neg]; dsimp only; omega, fun y hy hl => ?_⟩
        · unfold backK; dsimp only; rw [if_neg (by omega), if_neg (by omega), if_pos (by omega)]; simp; omega
        · obtain ⟨y1, y2, y3, y4, y5, y6⟩ := hy
          rw [cmpK_lt] at hl; rw [cmpK_le]; dsimp only at *; omega
      · cases h
theorem nextK_none {x : Key3} (hx : RightK x) (h : nextK x = none) (y : Key3) (hy : RightK y) : ¬ cmpK x y < 0 := by
  obtain ⟨t, s, q⟩ := x
  unfold nextK at h
  obtain ⟨h1, h2, h3, h4, h5, h6⟩ := hx
  obtain ⟨y1, y2, y3, y4, y5, y6⟩ := hy
  rw [cmpK_lt]
  dsimp only at *
  repeat' split at h
  all_goals first | (cases h; done) | omega
theorem backK_some {x n : Key3} (hx : RightK x) (h : backK x = some n) : RightK n ∧ nextK n = some x ∧ cmpK n x = -1 ∧ ∀ y, RightK y → 0 < cmpK x y → 0 ≤ cmpK n y := by
  obtain ⟨t, s, q⟩ := x
  unfold backK at h
  obtain ⟨h1, h2, h3, h4, h5, h6⟩ := hx
  dsimp only at *
  split at h
  · injection h with h; subst h
    refine ⟨by unfold RightK; dsimp only; omega, ?_, by rw [cmpK_neg]; dsimp only; omega, fun y hy hl => ?_⟩
    · unfold nextK; dsimp only; rw [if_pos (by omega)]; simp
    · obtain ⟨y1, y2, y3, y4, y5, y6⟩ := hy
      rw [cmpK_gt] at hl; rw [cmpK_ge]; dsimp only at *; omega
  · split at h
    · injection h with h; subst h
      refine ⟨by unfold RightK; dsimp only; omega, ?_, by rw [cmpK_neg]; dsimp only; omega, fun y hy hl => ?_⟩
      · unfold nextK; dsimp only; rw [if_neg (by omega), if_pos (by omega)]; simp; omega
      · obtain ⟨y1, y2, y3, y4, y5, y6⟩ := hy
        rw [cmpK_gt] at hl; rw [cmpK_ge]; dsimp only at *; omega
    · split at h
      · injection h with h; subst h
        refine ⟨by unfold RightK; dsimp only; omega, ?_, by rw [cmpK_neg]; dsimp only; omega, fun y hy hl => ?_⟩
        · unfold nextK; dsimp only; rw [if_neg (by omega), if_neg (by omega), if_pos (by omega)]; simp; omega
        · obtain ⟨y1, y2, y3, y4, y5, y6⟩ := hy
          rw [cmpK_gt] at hl; rw [cmpK_ge]; dsimp only at *; omega
      · cases h
theorem backK_none {x : Key3} (hx : RightK x) (h : backK x = none) (y : Key3) (hy : RightK y) : ¬ 0 < cmpK x y := by
  obtain ⟨t, s, q⟩ := x
  unfold backK at h
  obtain ⟨h1, h2, h3, h4, h5, h6⟩ := hx
  obtain ⟨y1, y2, y3, y4, y5, y6⟩ := hy
  rw [cmpK_gt]
  dsimp only at *
  repeat' split at h
  all_goals first | (cases h; done) | omega
theorem ends_time {x y : Key3} (hy : RightK y) : (cmpK ⟨x.time, 0, 0⟩ y ≤ 0 ∧ cmpK y ⟨x.time, 16, 4294967295⟩ ≤ 0) ↔ x.time = y.time := by
  obtain ⟨y1, y2, y3, y4, y5, y6⟩ := hy
  rw [cmpK_le, cmpK_le]
  dsimp only at *
  omega
end Go.Proofs.YtkohmodnjcoapaaGreatDoor

/-
  Two keys made: what is kept; the ground of the laws with two keys.
-/
namespace Go.Proofs.YtkohmodnjcoapaaGreatDoor
open Go Go.RowKit
attribute [local go_sem ↓] Go.wp_at_zero Go.wp_at_succ
attribute [local go_sem] Oper.semAt_some wide_fn wide_depth wide_fnR wide_depthR
attribute [local go_sem high] run_neq_k

theorem next_lit0 (k : Key3) (hk : RightK k) (hn : nextK k = none) (w : World) : Calls Tryz.prog 12 #[keyV k] w fun e w' => e = .returned (.tuple #[.agg #[.int .i64 0, .int .i64 0, .int .i64 0], .int .i64 6]) ∧ Fr0 none' w w' := by
  have h := Next_any k w
  rw [if_pos hk, hn] at h
  exact h
theorem back_lit0 (k : Key3) (hk : RightK k) (hn : backK k = none) (w : World) : Calls Tryz.prog 13 #[keyV k] w fun e w' => e = .returned (.tuple #[.agg #[.int .i64 0, .int .i64 0, .int .i64 0], .int .i64 6]) ∧ Fr0 none' w w' := by
  have h := Back_any k w
  rw [if_pos hk, hn] at h
  exact h
def C3 (W : World) (b : Nat) (k : Key3) : Prop := W.cell? ⟨b, 0, none⟩ = some (.int .i64 k.time) ∧ W.cell? ⟨b, 1, none⟩ = some (.int .i64 k.source) ∧ W.cell? ⟨b, 2, none⟩ = some (.int .i64 k.seq)
/-- The cells of a small key. -/
def SmAt (W : World) (b : Nat) (x : Num3) : Prop := W.cell? ⟨b, 0, none⟩ = some (.int .u64 x.t) ∧ W.cell? ⟨b, 1, none⟩ = some (.int .u32 x.s) ∧ W.cell? ⟨b, 2, none⟩ = some (.int .u32 x.q)
theorem SmAt.later {W W' : World} {b : Nat} {x : Num3} (h : SmAt W b x) (hf : Fr0 none' W W') : SmAt W' b x := ⟨hf.later h.1, hf.later h.2.1, hf.later h.2.2⟩
theorem SmAt.of_block {W : World} {b : Nat} {x : Num3} {ty : TypeId} (h : W.heap[b]? = some (.cells #[.int .u64 x.t, .int .u32 x.s, .int .u32 x.q] ty (0, 0))) : SmAt W b x := by
  refine ⟨?_, ?_, ?_⟩ <;> rw [cellsK_at h] <;> rfl
/-- What is kept while two keys are made. -/
structure St2 (x y : Num3) (b : Nat) (w W : World) : Prop where
  sx : SmAt W b x
  sy : SmAt W (b + 1) y
  fr : Fr0 none' w W
  sx0 : SmAt w b x
  sy0 : SmAt w (b + 1) y
theorem St2.later {x y : Num3} {b : Nat} {w W W' : World} (h : St2 x y b w W) (hf : Fr0 none' W W') : St2 x y b w W' := ⟨h.sx.later hf, h.sy.later hf, h.fr.trans hf, h.sx0, h.sy0⟩
theorem St2.both {x y : Num3} {b : Nat} {w W : World} (h : St2 x y b w W) : SmAt W b x ∧ SmAt W (b + 1) y := ⟨h.sx, h.sy⟩
structure NewK (w W : World) (b : Nat) (k : Key3) : Prop where
  key : KeyAt W b k
  ge : w.heap.size ≤ b
theorem NewK.lt {w W : World} {b : Nat} {k : Key3} (h : NewK w W b k) : b < W.heap.size := (Array.getElem?_eq_some_iff.1 h.key).1
theorem NewK.cells {w W : World} {b : Nat} {k : Key3} (h : NewK w W b k) : W.cell? ⟨b, 0, none⟩ = some (.int .i64 k.time) ∧ W.cell? ⟨b, 1, none⟩ = some (.int .i64 k.source) ∧ W.cell? ⟨b, 2, none⟩ = some (.int .i64 k.seq) :=
  ⟨h.key.cell (i := 0) (by omega), h.key.cell (i := 1) (by omega), h.key.cell (i := 2) (by omega)⟩
theorem NewK.frozen {w W : World} {b : Nat} {k : Key3} (h : NewK w W b k) : W.frozen? ⟨b, 0, none⟩ = false ∧ W.frozen? ⟨b, 1, none⟩ = false ∧ W.frozen? ⟨b, 2, none⟩ = false := ⟨h.key.frozen _, h.key.frozen _, h.key.frozen _⟩
theorem NewK.later {w W W' : World} {b : Nat} {k : Key3} (h : NewK w W b k) (hf : Fr0 none' W W') : NewK w W' b k := ⟨h.key.fr0 hf id, h.ge⟩
def put3 (W : World) (b : Nat) (k : Key3) : World := ((W.setCell ⟨b, 0, none⟩ (.int .i64 k.time)).setCell ⟨b, 1, none⟩ (.int .i64 k.source)).setCell ⟨b, 2, none⟩ (.int .i64 k.seq)
theorem NewK.put {w W : World} {b : Nat} {k : Key3} (h : NewK w W b k) (x : Key3) : NewK w (put3 W b x) b x := ⟨((h.key.set0 x.time).set1 x.source).set2 x.seq, h.ge⟩
theorem NewK.other {w W : World} {a b : Nat} {k : Key3} (h : NewK w W a k) (hne : a ≠ b) (x : Key3) : NewK w (put3 W b x) a k := ⟨((h.key.setOther hne _).setOther hne _).setOther hne _, h.ge⟩
theorem St2.put {x y : Num3} {b c : Nat} {w W : World} (h : St2 x y b w W) (hc : w.heap.size ≤ c) (k : Key3) : St2 x y b w (put3 W c k) := by
  have hf : Fr0 none' w (put3 W c k) := ((h.fr.setCell (fun h => absurd h (by omega)) _).setCell (fun h => absurd h (by omega)) _).setCell (fun h => absurd h (by omega)) _
  exact ⟨h.sx0.later hf, h.sy0.later hf, hf, h.sx0, h.sy0⟩
theorem via {P : Program} {c : Code} {K : Act → World → Prop} {Q : Exit → Act → World → Prop} {a : Act} {w : World} (F : Nat → Nat → World → Prop) (d1 d2 s1 s2 s3 s4 : Nat) (v1 v2 v3 v4 : Value)
    (t : ∀ pa pb W, F pa pb W → K ((((((a.put (some s1) v1).put (some s2) v2).put (some s3) v3).put (some s4) v4).put (some d1) (.pointer (some ⟨pa, 0, none⟩))).put (some d2) (.pointer (some ⟨pb, 0, none⟩))) W)
    (h : (∀ pa pb W, F pa pb W → K ((((((a.put (some s1) v1).put (some s2) v2).put (some s3) v3).put (some s4) v4).put (some d1) (.pointer (some ⟨pa, 0, none⟩))).put (some d2) (.pointer (some ⟨pb, 0, none⟩))) W) → c.wp P (Exit.then K Q) a w) : c.wp P (Exit.then K Q) a w := h t
end Go.Proofs.YtkohmodnjcoapaaGreatDoor
