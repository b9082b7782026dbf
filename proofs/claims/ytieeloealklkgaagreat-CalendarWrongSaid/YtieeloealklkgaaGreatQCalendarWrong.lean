/- CalendarWrong: the statement: for any input the law returns true, and the arguments read as before; no condition. -/
import Derived.Test.YtieeloealklkgaaGreatJb1
import Derived.Test.YtieeloealklkgaaGreatJb2
import Derived.Test.YtieeloealklkgaaGreatJb4
set_option linter.unusedSimpArgs false
set_option linter.unusedVariables false

/-
  slices.Insert at acts, of one act, into an own row.
-/
namespace Go.Proofs.YtieeloealklkgaaGreat
open Go Go.RowKit
attribute [local go_sem ↓] Go.wp_at_zero Go.wp_at_succ
attribute [local go_sem] Oper.semAt_some wide_fn wide_depth wide_fnR wide_depthR

theorem flatCa_append (a b : List Ca) : flatCa (a ++ b) = flatCa a ++ flatCa b := by simp [flatCa]
theorem flatCa_cons (x : Ca) (b : List Ca) : flatCa (x :: b) = caL x ++ flatCa b := by simp [flatCa, caL]
theorem flatCa_single (x : Ca) : flatCa [x] = caL x := by simp [flatCa, caL]
theorem flatCa_take (L : List Ca) : ∀ i, flatCa (L.take i) = (flatCa L).take (i * 7) := by
 induction L with
 | nil => intro i; simp [flatCa]
 | cons x r ih =>
  intro i
  cases i with
  | zero => simp [flatCa]
  | succ i =>
   rw [List.take_succ_cons, flatCa_cons, flatCa_cons, ih, show (i + 1) * 7 = (caL x).length + i * 7 by rw [caL_len]; omega, List.take_length_add_append]
theorem flatCa_drop (L : List Ca) : ∀ i, flatCa (L.drop i) = (flatCa L).drop (i * 7) := by
 induction L with
 | nil => intro i; simp [flatCa]
 | cons x r ih =>
  intro i
  cases i with
  | zero => simp
  | succ i =>
   rw [List.drop_succ_cons, flatCa_cons, ih, show (i + 1) * 7 = (caL x).length + i * 7 by rw [caL_len]; omega, List.drop_length_add_append]
theorem CasIn.of_cells {w : World} {g n : Nat} {cu : Array Value} {ty : TypeId} {L : List Ca} (hg : w.heap[g]? = some (.cells cu ty (0, 0))) (ht : cu.toList.take (n * 7) = flatCa L) : CasIn w (some ⟨g, 0, none⟩) L := CasIn.of_flat (fun j u hj => by
 rw [Nat.zero_add, cells_in hg, ← Array.getElem?_toList]
 rw [← ht, List.getElem?_take] at hj
 split at hj
 ·exact hj
 ·cases hj)
theorem size_act : (Tryz.prog.info? 33).map (·.size) = some 7 := by kernel_rfl
theorem row_cells7 {w : World} {base : Nat} {e : TypeId} {g n cap : Nat} {xs : List Value} (h : w.ownsRow base e 7 (.slice (some ⟨g, 0, none⟩) n cap) n xs) :
  ∃ cur : Array Value, base ≤ g ∧ w.heap[g]? = some (.cells cur e (0, 0)) ∧ n ≤ cap ∧ cap ≤ maxLen ∧ cur.size = cap * 7 ∧ xs.length = n * 7 ∧ cur.toList.take (n * 7) = xs := by
 rcases h.2 with ⟨h0, _⟩ | ⟨g', cap', cur, h1, hb, hg, hn, hm, hs, ht⟩
 ·cases h0
 ·cases h1
  exact ⟨cur, hb, hg, hn, hm, hs, h.1, ht⟩
theorem own_setRow7 {w : World} {base g n cap : Nat} {e : TypeId} {cur : Array Value} {R xs D : List Value} (hg : w.heap[g]? = some (.cells cur e (0, 0))) (hb : base ≤ g) (hR : R = xs ++ D) (hx : xs.length = n * 7) (hl : R.length = cap * 7) (hn : n ≤ cap) (hc : cap ≤ maxLen) :
  (w.setRow g R.toArray).ownsRow base e 7 (.slice (some ⟨g, 0, none⟩) n cap) n xs := by
 refine ⟨hx, .inr ⟨g, cap, R.toArray, rfl, hb, setRow_heap w g cur _ e _ hg, hn, hc, by simpa using hl, ?_⟩⟩
 show R.take (n * 7) = xs
 rw [hR, ← hx, List.take_left]
set_option maxHeartbeats 4000000 in
set_option maxRecDepth 100000 in
theorem InsertA_shift {w : World} {base g n c i : Nat} (L : List Ca) (hrow : w.ownsRow base 33 7 (.slice (some ⟨g, 0, none⟩) n c) n (flatCa L)) (hi : i < n) (hroom : n + 1 ≤ c) (hn : n ≤ 100000) (x : Ca) {vb : Nat} (hx : w.heap[vb]? = some (.cells (caL x).toArray 33 (0, 0))) (hvb : vb ≠ g) :
  Calls Tryz.prog 23 #[.slice (some ⟨g, 0, none⟩) n c, .int .i64 i, .slice (some ⟨vb, 0, none⟩) 1 1] w fun e w' => e = .returned (.slice (some ⟨g, 0, none⟩) (n + 1) c) ∧ w'.ownsRow base 33 7 (.slice (some ⟨g, 0, none⟩) (n + 1) c) (n + 1) (flatCa (L.take i ++ x :: L.drop i)) ∧ Fr0 (fun k => k = g) w w' := by
 obtain ⟨cur, hbg, hg, hnc, hcm, hs, hxl, ht⟩ := row_cells7 hrow
 have hL : L.length = n := by rw [flatCa_length] at hxl; omega
 obtain ⟨R1, hR1⟩ : ∃ R1, R1 = cur.toList.take ((i + 1) * 7) ++ flatCa (L.drop i) ++ cur.toList.drop ((i + 1) * 7 + (flatCa (L.drop i)).length) := ⟨_, rfl⟩
 have hd : (flatCa (L.drop i)).length = (n - i) * 7 := by rw [flatCa_length, List.length_drop, hL]
 have htk : (flatCa (L.take i)).length = i * 7 := by rw [flatCa_length, List.length_take, hL, Nat.min_eq_left (by omega)]
 have hE : w.drew.heap[g]? = some (.cells cur 33 (0, 0)) := hg
 have hcp1 : ∀ ty dc sc, (Builtin.copy_ #[23, 23] ty #[.slice (some ⟨g, (i + 1) * 7, none⟩) (n - i) dc, .slice (some ⟨g, i * 7, none⟩) (n + 1 - i) sc]).run Tryz.prog w.drew = .ok (goInt ((n - i : Nat) : Int)) (w.drew.setRow g R1.toArray) := fun ty dc sc => by
  rw [hR1]
  refine run_copy_row_k w.drew _ _ ty 33 g ((i + 1) * 7) (n - i) dc ⟨g, i * 7, none⟩ (n + 1 - i) sc cur 33 (flatCa (L.drop i)) 7 (n - i) Tryz.underlying23 size_act hE (by simp only [Nat.min_def]; split <;> omega) hd (fun j v hj => ?_) (by rw [hd, hs]; omega) (flatCa_one _)
  rw [Addr.add_lit, cells_in hE]
  rw [flatCa_drop, List.getElem?_drop, ← ht, List.getElem?_take] at hj
  split at hj
  ·rw [← Array.getElem?_toList]; exact hj
  ·cases hj
 have hl1 : R1.length = c * 7 := by rw [hR1]; simp only [List.length_append, List.length_take, List.length_drop, Array.length_toList, hd, hs]; omega
 obtain ⟨W1, hW1⟩ : ∃ W1, W1 = w.drew.setRow g R1.toArray := ⟨_, rfl⟩
 rw [← hW1] at hcp1
 have hg1 : W1.heap[g]? = some (.cells R1.toArray 33 (0, 0)) := by rw [hW1]; exact setRow_heap w.drew g cur _ _ _ hE
 have hx1 : W1.heap[vb]? = some (.cells (caL x).toArray 33 (0, 0)) := by rw [hW1]; exact (setRow_other w.drew g vb _ hvb).trans hx
 obtain ⟨R2, hR2⟩ : ∃ R2, R2 = R1.take (i * 7) ++ caL x ++ R1.drop (i * 7 + (caL x).length) := ⟨_, rfl⟩
 have hcp2 : ∀ (W : World), W.heap = W1.heap → ∀ ty dc, (Builtin.copy_ #[23, 23] ty #[.slice (some ⟨g, i * 7, none⟩) (n + 1 - i) dc, .slice (some ⟨vb, 0, none⟩) 1 1]).run Tryz.prog W = .ok (goInt 1) (W.setRow g R2.toArray) := fun W hW ty dc => by
  have := run_copy_row_k (P := Tryz.prog) W 23 23 ty 33 g (i * 7) (n + 1 - i) dc ⟨vb, 0, none⟩ 1 1 R1.toArray 33 (caL x) 7 1 Tryz.underlying23 size_act (by rw [hW]; exact hg1) (by simp only [Nat.min_def]; split <;> omega) rfl (fun j v hj => by
   rw [Addr.add_lit, cells_in (hW ▸ hx1), Nat.zero_add, List.getElem?_toArray]; exact hj) (by simp only [List.size_toArray, hl1, caL_len]; omega) (by rw [← flatCa_single]; exact flatCa_one _)
  rw [hR2]
  exact this
 obtain ⟨D, hD, hDl⟩ := ins_row (cu := cur.toList) (A := flatCa (L.take i)) (B := flatCa (L.drop i)) (X := caL x) (a := i * 7) (b := (n - i) * 7) (x := 7) (by rw [show i * 7 + (n - i) * 7 = n * 7 by omega, ht, ← flatCa_append, List.take_append_drop]) htk hd rfl (by rw [Array.length_toList, hs]; omega)
 have hR2' : R2 = flatCa (L.take i ++ x :: L.drop i) ++ D := by
  rw [hR2, hR1, flatCa_append, flatCa_cons, caL_len, hd, show (i + 1) * 7 = i * 7 + 7 by omega, hD]
  simp
 have hfl : (flatCa (L.take i ++ x :: L.drop i)).length = (n + 1) * 7 := by rw [flatCa_length, List.length_append, List.length_cons, List.length_take, List.length_drop, hL]; omega
 have hl2 : R2.length = c * 7 := by rw [hR2', List.length_append, hfl]; rw [show cur.toList.length = c * 7 by rw [Array.length_toList, hs]] at hDl; omega
 have hfin : ∀ W : World, W.heap = W1.heap → W.os = W1.os → W.tape = W1.tape → W.output = W1.output → (W.setRow g R2.toArray).ownsRow base 33 7 (.slice (some ⟨g, 0, none⟩) (n + 1) c) (n + 1) (flatCa (L.take i ++ x :: L.drop i)) ∧ Fr0 (fun k => k = g) w (W.setRow g R2.toArray) := fun W e1 e2 e3 e4 => by
  refine ⟨own_setRow7 (cur := R1.toArray) (by rw [e1]; exact hg1) hbg hR2' hfl hl2 hroom hcm, ?_⟩
  have f1 : Fr0 (fun k => k = g) w W1 := by rw [hW1]; exact ((Fr0.refl (fun k => k = g) w).drew).setRow (fun _ => rfl) _
  have f2 : Fr0 (fun k => k = g) w W := ⟨e2.trans f1.os, e3.trans f1.tape, e4.trans f1.output, by rw [e1]; exact f1.size, fun k hk hs => by rw [e1]; exact f1.block k hk hs⟩
  exact f2.setRow (fun _ => rfl) _
 have hov : ∀ lb cb, (callFunc 55 #[.slice (some ⟨vb, 0, none⟩) 1 1, .slice (some ⟨g, (i + 1) * 7, none⟩) lb cb]).run Tryz.prog w = .ok (.value (.bool false)) w := fun lb cb => by
  rw [run_callFunc_extern Tryz.func55 (by kernel_rfl) (by kernel_rfl) (by kernel_rfl) (e := Extern.SlicesOverlaps.overlaps #[23, 23] #[4]) (by kernel_rfl),
   Lib.run_overlaps_apart w 23 4 33 Tryz.underlying23 7 Tryz.sizeOf33 ⟨vb, 0, none⟩ ⟨g, (i + 1) * 7, none⟩ 1 1 lb cb hvb 33 33 7 cur.size (by simp [World.shape?, hx, caL]) (by simp [World.shape?, hg]) (by rw [hs]; omega) (by simp [World.frozen?, hx]) (by simp [World.frozen?, hx])]
  rfl
 have mixed : Tryz.prog.follows Departure.mixedOrders = true := by kernel_rfl
 have hz1 : ¬ ((1 : Int) = 0) := by omega
 have hz2 : ¬ ((i : Int) = (n : Int)) := by omega
 have hw1 : IntKind.i64.wrap ((i : Int) + 1) = (i : Int) + 1 := by rw [IntKind.wrap_i64]; omega
 have hb1 : (0 : Int) ≤ (i : Int) + 1 := by omega
 have hin : i ≤ n := by omega
 have htn : ((i : Int) + 1).toNat = i + 1 := by omega
 have hb2 : ¬ (c = i + 1) := by omega
 have hb3 : (i : Int) ≤ (n : Int) := by omega
 have hb5 : (i : Int) ≤ (n : Int) + 1 := by omega
 have hb4 : ¬ (c = i) := by omega
 have HF := Lib.hid hfin
 have HE := Lib.hid hcp2
 clear hfin hcp2 hD hDl hR2' hfl hl2 hR2 hg1 hx1 hW1 hl1 hE hd htk hR1 hL hxl ht hs hg hrow hx
 go_enter Tryz.func23, Tryz.ntmps23
 go_wp2_with (simp only [hov])
 go_region_law_o (refine step_copy_runI rfl _ _ 23 23 rfl _ _ (by simp [Act.eval, Act.put]) (by simp [Act.eval, Act.put]) (hcp1 _ _ _) ?_)
 have hcp2 := HE.out W1 rfl
 go_wp2
 go_ret
 exact ⟨rfl, HF.out W1 rfl rfl rfl rfl⟩
set_option maxHeartbeats 4000000 in
set_option maxRecDepth 100000 in
theorem InsertA_end {w : World} {base n : Nat} {v : Value} (L : List Ca) (hrow : w.ownsRow base 33 7 v n (flatCa L)) (hn : n ≤ 100000) (x : Ca) {vb : Nat} (hx : w.heap[vb]? = some (.cells (caL x).toArray 33 (0, 0))) (hb : base ≤ w.heap.size) :
  Calls Tryz.prog 23 #[v, .int .i64 n, .slice (some ⟨vb, 0, none⟩) 1 1] w fun e w' => ∃ v', e = .returned v' ∧ w'.ownsRow base 33 7 v' (n + 1) (flatCa (L ++ [x])) ∧ Fr0 (fun k => v.ownBlock = some k) w w' ∧ (v'.ownBlock = v.ownBlock ∨ v'.ownBlock = some w.heap.size) := by
 obtain ⟨i0, hi0, hz0, hz1, hz2⟩ := info_parts info_act0
 have hxs : CasIn w (some ⟨vb, 0, none⟩) [x] := CasIn.of_cells (n := 1) hx (by simp [flatCa, caL])
 have hsrc := Lib.hid (hxs.src (n := 1) rfl 1 Tryz.underlying23)
 obtain ⟨a, cap, rfl, hl, _, _⟩ := CasIn.of_own hrow
 have Hrow := Lib.hid hrow
 have hz : ¬ ((1 : Int) = 0) := by omega
 have q1 : ((n : Int) == (n : Int)) = true := by simp
 have q2 : (n : Int) ≤ (n : Int) := Int.le_refl _
 clear hrow hx hxs hl
 go_enter Tryz.func23, Tryz.ntmps23
 go_wp2_with (at_builtin; refine wpList_append_k rfl _ _ 23 23 rfl base 33 i0 (.agg #[.int .u8 0, .int .i64 0, .int .i64 0, .int .i64 0, .int .i64 0, .int .i64 0, .int .i64 0]) 7 56 Tryz.underlying23 hi0 hz0 hz1 hz2 rfl (by decide) (.slice a n cap) n _ rfl Hrow.out (.slice (some ⟨vb, 0, none⟩) 1 1) 1 _ rfl hsrc.out (by unfold maxLen; omega) (by omega) hb ?_; intro v' w1 hown hgrow hdr hob)
 all_goals
  go_ret
  refine ⟨_, rfl, ?_, (Fr0.refl _ w).grown hgrow (fun k hk _ => by cases a <;> exact hk), by cases a <;> exact hob⟩
  rw [flatCa_append]
  exact hown
set_option maxHeartbeats 4000000 in
set_option maxRecDepth 100000 in
theorem InsertA_grow {w : World} {base g n c i : Nat} (L : List Ca) (hrow : w.ownsRow base 33 7 (.slice (some ⟨g, 0, none⟩) n c) n (flatCa L)) (hi : i < n) (hroom : ¬ n + 1 ≤ c) (hn : n ≤ 100000) (x : Ca) {vb : Nat} (hx : w.heap[vb]? = some (.cells (caL x).toArray 33 (0, 0))) (hbs : base ≤ w.heap.size) :
  Calls Tryz.prog 23 #[.slice (some ⟨g, 0, none⟩) n c, .int .i64 i, .slice (some ⟨vb, 0, none⟩) 1 1] w fun e w' => ∃ c', e = .returned (.slice (some ⟨w.heap.size, 0, none⟩) (n + 1) c') ∧ w'.ownsRow base 33 7 (.slice (some ⟨w.heap.size, 0, none⟩) (n + 1) c') (n + 1) (flatCa (L.take i ++ x :: L.drop i)) ∧ Fr0 none' w w' := by
 obtain ⟨cur, hbg, hg, hnc, hcm, hs, hxl, ht⟩ := row_cells7 hrow
 obtain ⟨i0, hi0, hz0, hz1, hz2⟩ := info_parts info_act0
 have hL : L.length = n := by rw [flatCa_length] at hxl; omega
 have hd : (flatCa (L.drop i)).length = (n - i) * 7 := by rw [flatCa_length, List.length_drop, hL]
 have htk : (flatCa (L.take i)).length = i * 7 := by rw [flatCa_length, List.length_take, hL, Nat.min_eq_left (by omega)]
 have hgl : g < w.heap.size := (Array.getElem?_eq_some_iff.1 hg).1
 have hvl : vb < w.heap.size := (Array.getElem?_eq_some_iff.1 hx).1
 have hcell : ∀ j v, (flatCa L)[j]? = some v → w.cell? ⟨g, j, none⟩ = some v := fun j v hj => by
  rw [cells_in hg, ← Array.getElem?_toList]
  rw [← ht, List.getElem?_take] at hj
  split at hj
  ·exact hj
  ·cases hj
 obtain ⟨G, hG⟩ : ∃ G, G = grownCap w (n + 1) c 33 := ⟨_, rfl⟩
 obtain ⟨z, hz⟩ : ∃ z : Value, z = .agg #[.int .u8 0, .int .i64 0, .int .i64 0, .int .i64 0, .int .i64 0, .int .i64 0, .int .i64 0] := ⟨_, rfl⟩
 have hGn : n + 1 ≤ G := by rw [hG]; exact grownCap_ge w _ _ _
 have hGm : G ≤ maxLen := by rw [hG]; exact grownCap_le_maxLen w (n + 1) c 33 (by unfold maxLen; omega)
 obtain ⟨Z, hZ⟩ : ∃ Z : List Value, Z = (Builtin.zeroCells z.cells (n + 1 - i) ++ Builtin.zeroCells z.cells (G - (n + 1))).toList := ⟨_, rfl⟩
 have hZl : Z.length = (G - i) * 7 := by
  rw [hZ, Array.length_toList, Array.size_append, size_zeroCells, size_zeroCells, hz]
  simp only [Value.cells, List.size_toArray, List.length_cons, List.length_nil]
  omega
 have hkk : (n : Int) + 1 - (i : Int) = ((n + 1 - i : Nat) : Int) := by omega
 have hik : i + (n + 1 - i) = n + 1 := by omega
 have hold : (Builtin.firstCells i0.size i (.slice (some ⟨g, 0, none⟩) i c)).run Tryz.prog w.drew = .ok (flatCa (L.take i)).toArray w.drew := by
  rw [hz1]
  refine run_firstCells_some w.drew 7 i ⟨g, 0, none⟩ i c (flatCa (L.take i)) htk (fun j v hj => ?_)
  rw [Addr.add_lit, Nat.zero_add]
  rw [flatCa_take, List.getElem?_take] at hj
  split at hj
  ·exact hcell j v hj
  ·cases hj
 have hrz : ∀ ty, (Builtin.append_ #[23, 3] ty #[.slice (some ⟨g, 0, none⟩) i c, .int .i64 ((n : Int) + 1 - (i : Int))]).run Tryz.prog w =
   .ok (.slice (some ⟨w.heap.size, 0, none⟩) (n + 1) G) (w.drew.alloc (.cells (flatCa (L.take i) ++ Z).toArray 33)) := fun ty => by
  have h := Lib.run_append_grow_zeros w 23 3 ty 33 i0 _ .i64 .i64 Tryz.underlying23 Tryz.underlying3 hi0 hz0 (some ⟨g, 0, none⟩) i c (flatCa (L.take i)) hold (n + 1 - i) (by omega) (by omega) (by omega) (by omega) (by rw [hz2]; omega) (by rw [hz2, hik]; exact growslice_fits (by omega) (by omega))
  rw [hik, ← hG, ← hz] at h
  rw [hkk, h, hZ]
  congr 3
  simp
 have hNr : ∀ (W : World), W.heap = (w.drew.alloc (.cells (flatCa (L.take i) ++ Z).toArray 33)).heap → W.heap[w.heap.size]? = some (.cells (flatCa (L.take i) ++ Z).toArray 33 (0, 0)) ∧ W.heap[vb]? = w.heap[vb]? ∧ W.heap[g]? = w.heap[g]? := fun W hW => by
  rw [hW]
  exact ⟨World.alloc_heap_new w.drew _, Below.heap_alloc w.drew _ vb hvl, Below.heap_alloc w.drew _ g hgl⟩
 obtain ⟨R1, hR1⟩ : ∃ R1, R1 = (flatCa (L.take i) ++ Z).take (i * 7) ++ caL x ++ (flatCa (L.take i) ++ Z).drop (i * 7 + 7) := ⟨_, rfl⟩
 obtain ⟨R2, hR2⟩ : ∃ R2, R2 = R1.take (i * 7 + 7) ++ flatCa (L.drop i) ++ R1.drop (i * 7 + 7 + (n - i) * 7) := ⟨_, rfl⟩
 have hcpA : ∀ (W : World), W.heap = (w.drew.alloc (.cells (flatCa (L.take i) ++ Z).toArray 33)).heap → ∀ ty dc, (Builtin.copy_ #[23, 23] ty #[.slice (some ⟨w.heap.size, i * 7, none⟩) (n + 1 - i) dc, .slice (some ⟨vb, 0, none⟩) 1 1]).run Tryz.prog W = .ok (goInt 1) (W.setRow w.heap.size R1.toArray) := fun W hW ty dc => by
  obtain ⟨h1, h2, h3⟩ := hNr W hW
  have := run_copy_row_k (P := Tryz.prog) W 23 23 ty 33 w.heap.size (i * 7) (n + 1 - i) dc ⟨vb, 0, none⟩ 1 1 _ 33 (caL x) 7 1 Tryz.underlying23 size_act h1 (by simp only [Nat.min_def]; split <;> omega) rfl (fun j v hj => by
   rw [Addr.add_lit, cells_in (h2.trans hx), Nat.zero_add, List.getElem?_toArray]; exact hj) (by simp only [List.size_toArray, List.length_append, htk, hZl, caL_len]; omega) (by rw [← flatCa_single]; exact flatCa_one _)
  rw [hR1]
  exact this
 have hl1 : R1.length = G * 7 := by
  rw [hR1]; simp only [List.length_append, List.length_take, List.length_drop, htk, hZl, caL_len]; omega
 have hcpB : ∀ (W V : World), V.heap = (w.drew.alloc (.cells (flatCa (L.take i) ++ Z).toArray 33)).heap → W.heap = (V.setRow w.heap.size R1.toArray).heap → ∀ ty dc sc, (Builtin.copy_ #[23, 23] ty #[.slice (some ⟨w.heap.size, (i + 1) * 7, none⟩) (n - i) dc, .slice (some ⟨g, i * 7, none⟩) (n - i) sc]).run Tryz.prog W = .ok (goInt ((n - i : Nat) : Int)) (W.setRow w.heap.size R2.toArray) := fun W V hV hW ty dc sc => by
  obtain ⟨h1, h2, h3⟩ := hNr V hV
  have e1 : W.heap[w.heap.size]? = some (.cells R1.toArray 33 (0, 0)) := by rw [hW]; exact setRow_heap V _ _ _ _ _ h1
  have e2 : W.heap[g]? = some (.cells cur 33 (0, 0)) := by rw [hW]; exact (setRow_other V _ g _ (by omega)).trans (h3.trans hg)
  have := run_copy_row_k (P := Tryz.prog) W 23 23 ty 33 w.heap.size ((i + 1) * 7) (n - i) dc ⟨g, i * 7, none⟩ (n - i) sc _ 33 (flatCa (L.drop i)) 7 (n - i) Tryz.underlying23 size_act e1 (by simp only [Nat.min_def]; split <;> omega) hd (fun j v hj => by
   rw [Addr.add_lit, cells_in e2, ← Array.getElem?_toList]
   rw [flatCa_drop, List.getElem?_drop, ← ht, List.getElem?_take] at hj
   split at hj
   ·exact hj
   ·cases hj) (by simp only [List.size_toArray, hl1, hd]; omega) (flatCa_one _)
  rw [this, hR2, hd, show (i + 1) * 7 = i * 7 + 7 by omega]
 obtain ⟨D, hD, hDl⟩ := ins_row2 (Z := Z) (A := flatCa (L.take i)) (B := flatCa (L.drop i)) (X := caL x) (a := i * 7) (b := (n - i) * 7) (x := 7) htk hd rfl (by rw [hZl]; omega)
 have hR2' : R2 = flatCa (L.take i ++ x :: L.drop i) ++ D := by
  rw [hR2, hR1, flatCa_append, flatCa_cons, hD]
  simp
 have hfl : (flatCa (L.take i ++ x :: L.drop i)).length = (n + 1) * 7 := by rw [flatCa_length, List.length_append, List.length_cons, List.length_take, List.length_drop, hL]; omega
 have hl2 : R2.length = G * 7 := by rw [hR2', List.length_append, hfl]; rw [hZl] at hDl; omega
 have hfin : ∀ (W V : World), V.heap = (w.drew.alloc (.cells (flatCa (L.take i) ++ Z).toArray 33)).heap → W.heap = (V.setRow w.heap.size R1.toArray).heap → W.os = w.os → W.tape = w.tape → W.output = w.output → (W.setRow w.heap.size R2.toArray).ownsRow base 33 7 (.slice (some ⟨w.heap.size, 0, none⟩) (n + 1) G) (n + 1) (flatCa (L.take i ++ x :: L.drop i)) ∧ Fr0 none' w (W.setRow w.heap.size R2.toArray) := fun W V hV hW e1 e2 e3 => by
  obtain ⟨h1, h2, h3⟩ := hNr V hV
  have g1 : W.heap[w.heap.size]? = some (.cells R1.toArray 33 (0, 0)) := by rw [hW]; exact setRow_heap V _ _ _ _ _ h1
  refine ⟨own_setRow7 (cur := R1.toArray) g1 hbs hR2' hfl hl2 hGn hGm, ?_⟩
  have f1 : Fr0 none' w (w.drew.alloc (.cells (flatCa (L.take i) ++ Z).toArray 33)) := (Fr0.refl _ w).drew.alloc _
  have f2 : Fr0 none' w W := ⟨e1, e2, e3, by rw [hW]; have := f1.size; rw [← hV] at this; simpa using this, fun k hk _ => by rw [hW]; exact (setRow_other V _ k _ (by omega)).trans (by rw [hV]; exact f1.block k hk id)⟩
  exact f2.setRow (fun h => absurd h (Nat.lt_irrefl _)) _
 have mixed : Tryz.prog.follows Departure.mixedOrders = true := by kernel_rfl
 have hy1 : ¬ ((1 : Int) = 0) := by omega
 have hy2 : ¬ ((i : Int) = (n : Int)) := by omega
 have hy3 : (c : Int) < (n : Int) + 1 := by omega
 have hw1 : IntKind.i64.wrap ((i : Int) + 1) = (i : Int) + 1 := by rw [IntKind.wrap_i64]; omega
 have hb1 : (0 : Int) ≤ (i : Int) + 1 := by omega
 have hin : i ≤ n := by omega
 have hin2 : i ≤ c := by omega
 have htn : ((i : Int) + 1).toNat = i + 1 := by omega
 have hb3 : (i : Int) ≤ (n : Int) := by omega
 have hb5 : (i : Int) ≤ (n : Int) + 1 := by omega
 have hGi : ¬ (G = i) := by omega
 have hGim : ¬ (G = i + 1) := by omega
 have hci : ¬ (c = i) := by omega
 have HF := Lib.hid hfin
 have HA := Lib.hid hcpA
 have HB := Lib.hid hcpB
 clear hfin hcpA hcpB hD hDl hR2' hfl hl2 hR2 hNr hl1 hR1 hold hik hkk hZl hZ hz hG hcell hd htk hL hxl ht hs hg hrow hx hi0 hz0 hz1 hz2
 go_enter Tryz.func23, Tryz.ntmps23
 obtain ⟨V, hV⟩ : ∃ V, w.drew.alloc (.cells (flatCa (L.take i) ++ Z).toArray 33) = V := ⟨_, rfl⟩
 rw [hV] at hrz HA HB HF
 have hca := HA.out V rfl
 have hcb := HB.out (V.setRow w.heap.size R1.toArray).drew V rfl rfl
 go_wp2_with (first
  | (at_builtin; refine Lib.wpList_append_run _ rfl _ _ _ _ rfl _ _ rfl rfl _ _ (hrz _) ?_))
 go_region_law_o (refine step_copy_runI rfl _ _ 23 23 rfl _ _ (by simp [Act.eval, Act.put]) (by simp [Act.eval, Act.put]) (hcb _ _ _) ?_)
 go_wp2
 go_ret
 exact ⟨G, rfl, HF.out (V.setRow w.heap.size R1.toArray).drew V rfl rfl (by rw [← hV]; rfl) (by rw [← hV]; rfl) (by rw [← hV]; rfl)⟩
/-- slices.Insert of one event. -/
theorem InsertA {w : World} {base n i : Nat} {v : Value} (L : List Ca) (hrow : w.ownsRow base 33 7 v n (flatCa L)) (hi : i ≤ n) (hn : n ≤ 100000) (x : Ca) {vb : Nat} (hx : w.heap[vb]? = some (.cells (caL x).toArray 33 (0, 0))) (hvb : v.ownBlock ≠ some vb) (hbs : base ≤ w.heap.size) :
  Calls Tryz.prog 23 #[v, .int .i64 i, .slice (some ⟨vb, 0, none⟩) 1 1] w fun e w' => ∃ v', e = .returned v' ∧ w'.ownsRow base 33 7 v' (n + 1) (flatCa (L.take i ++ x :: L.drop i)) ∧ Fr0 (fun k => v.ownBlock = some k) w w' ∧ (v'.ownBlock = v.ownBlock ∨ v'.ownBlock = some w.heap.size) := by
 obtain ⟨a, c, rfl, hl, _, _⟩ := CasIn.of_own hrow
 by_cases h : i = n
 ·subst h
  have := InsertA_end L hrow hn x hx hbs
  rwa [← hl, List.take_length, List.drop_length, hl]
 ·rcases hrow.2 with ⟨h0, h1⟩ | ⟨g, c', cur, h1, _⟩
  ·omega
  ·injection h1 with h1 _ h2
   subst h1; subst h2
   by_cases hc : n + 1 ≤ c
   ·refine (InsertA_shift L hrow (by omega) hc hn x hx (fun e => hvb (by rw [e]; rfl))).mono ?_
    rintro e w' ⟨rfl, h3, h4⟩
    exact ⟨_, rfl, h3, h4.mono (fun k _ hk => by rw [hk]; rfl), .inl rfl⟩
   ·refine (InsertA_grow L hrow (by omega) hc hn x hx hbs).mono ?_
    rintro e w' ⟨c', rfl, h3, h4⟩
    exact ⟨_, rfl, h3, h4.mono (fun _ _ h => h.elim), .inr rfl⟩
end Go.Proofs.YtieeloealklkgaaGreat

/-
  CalendarWrong, in plain words: events named by their places; calendars with one thing that is not right; acts of no kind.
-/
namespace Go.Proofs.YtieeloealklkgaaGreat
open Go Go.RowKit

/-- Events named by their places. -/
def namE (L : List Ev) : List Ev := L.mapIdx (fun i x => ⟨⟨x.key.time, x.key.source, i⟩, x.to, x.value⟩)
theorem namE_length (L : List Ev) : (namE L).length = L.length := by unfold namE; rw [List.length_mapIdx]
theorem namE_snoc {L : List Ev} {k : Nat} {x : Ev} (h : L[k]? = some x) : namE (L.take (k + 1)) = namE (L.take k) ++ [⟨⟨x.key.time, x.key.source, k⟩, x.to, x.value⟩] := by
 have hk := (List.getElem?_eq_some_iff.1 h).1
 rw [List.take_add_one, h, Option.toList_some]
 unfold namE
 rw [List.mapIdx_concat, List.length_take, Nat.min_eq_left (by omega)]
theorem namE_pair (L : List Ev) : (namE L).Pairwise (fun x y => x.key.seq ≠ y.key.seq) := by
 unfold namE
 rw [List.pairwise_iff_getElem]
 intro i j hi hj hij
 rw [List.getElem_mapIdx, List.getElem_mapIdx]
 simp only
 omega
theorem namE_keys (L : List Ev) : (namE L).Pairwise (fun x y => x.key ≠ y.key) := (namE_pair L).imp (fun h e => h (by rw [e]))
theorem namE_once (L : List Ev) : OnceE (namE L) := by
 unfold OnceE List.Nodup
 rw [List.pairwise_map]
 exact (namE_pair L).imp (fun h e => h (by unfold Ev.name at e; exact (Prod.mk.inj e).2))
theorem namE_right {L : List Ev} (h : ∀ x ∈ L, RightE x) (hl : L.length ≤ 1000) : ∀ x ∈ namE L, RightE x := fun y hy => by
 unfold namE at hy
 obtain ⟨i, hi, rfl⟩ := List.mem_mapIdx.1 hy
 have h1 := h L[i] (List.getElem_mem hi)
 unfold RightE RightK at h1 ⊢
 simp only at h1 ⊢
 omega
theorem namE_r64 {L : List Ev} (h : ∀ x ∈ L, R64K x.key) (hl : L.length ≤ 1000) : ∀ x ∈ namE L, R64K x.key := fun y hy => by
 unfold namE at hy
 obtain ⟨i, hi, rfl⟩ := List.mem_mapIdx.1 hy
 have h1 := h L[i] (List.getElem_mem hi)
 unfold R64K R64 at h1 ⊢
 simp only at h1 ⊢
 omega
/-- Puts of what is in order. -/
theorem puts_asc {S : List Ev} (ha : AscE S) (ho : OnceE S) : putsE S [] = S := by
 have h1 : OnceE (S ++ []) := by rwa [List.append_nil]
 refine asc_ext (putsE_asc List.Pairwise.nil h1) ha ?_
 have := putsE_perm S []
 rwa [List.append_nil] at this
/-- One act of no kind among right ones. -/
theorem odd_ins {A : List Ca} (h : ∀ a ∈ A, 1 ≤ a.kind ∧ a.kind ≤ 5) {k : Nat} (hk : k ≤ A.length) {x : Ca} (hx : ¬ (1 ≤ x.kind ∧ x.kind ≤ 5)) (B : List Ca) : oddC ((A.take k ++ x :: A.drop k) ++ B) = k := by
 have hl : (A.take k).length = k := by rw [List.length_take]; omega
 refine oddC_at (a := x) (fun b hb => ?_) ?_ hx
 ·rw [List.append_assoc, List.take_append_of_le_length (by omega), List.take_of_length_le (by omega)] at hb
  exact h b (List.mem_of_mem_take hb)
 ·rw [List.append_assoc, List.getElem?_append_right (by omega), hl, Nat.sub_self]
  rfl
/-- The one that is added. -/
def lastE : Ev := ⟨⟨99, 16, 99⟩, 1, 0⟩
/-- The calendars with one thing that is not right. -/
theorem bad0 {S : List Ev} {c t : Int} (ht : 17 ≤ t) : ¬ RightC (S ++ [⟨⟨99, 16, 99⟩, t, 0⟩]) c := fun h => by
 have := h.2.2.2.1 ⟨⟨99, 16, 99⟩, t, 0⟩ (List.mem_append_right _ List.mem_cons_self)
 unfold RightE RightK at this
 simp only at this
 omega
theorem bad1 {S : List Ev} {c t : Int} (ht : 4294967296 ≤ t) : ¬ RightC (S ++ [⟨⟨99, 16, t⟩, 1, 0⟩]) c := fun h => by
 have := h.2.2.2.1 ⟨⟨99, 16, t⟩, 1, 0⟩ (List.mem_append_right _ List.mem_cons_self)
 unfold RightE RightK at this
 simp only at this
 omega
theorem bad2 {S : List Ev} {c : Int} {x : Ev} (hx : x ∈ S) : ¬ RightC (S ++ [x]) c := fun h => by
 have h1 := h.2.2.2.2
 unfold OnceE at h1
 rw [List.map_append, List.nodup_append] at h1
 exact h1.2.2 x.name (List.mem_map.2 ⟨x, hx, rfl⟩) x.name (by simp) rfl
theorem bad3 {S : List Ev} {c : Int} : ¬ RightC ((S ++ [lastE]) ++ [⟨⟨100, 16, 99⟩, 1, 0⟩]) c := fun h => by
 have h1 := h.2.2.2.2
 unfold OnceE at h1
 rw [List.map_append, List.nodup_append] at h1
 exact h1.2.2 (16, 99) (List.mem_map.2 ⟨lastE, List.mem_append_right _ List.mem_cons_self, rfl⟩) (16, 99) (by simp [Ev.name]) rfl
theorem bad4 {S : List Ev} {c : Int} (h : c ≤ S.length) (x : Ev) : ¬ RightC (S ++ [x]) c := fun hr => by
 have := hr.2.1
 rw [List.length_append, List.length_singleton] at this
 omega
theorem bad5 {S : List Ev} {c : Int} (h : 257 ≤ c) : ¬ RightC S c := fun hr => by have := hr.1; omega
end Go.Proofs.YtieeloealklkgaaGreat

/-
  CalendarQueue.
-/
namespace Go.Proofs.YtieeloealklkgaaGreat
open Go Go.RowKit Go.ChangeMaps
attribute [local go_sem ↓] Go.wp_at_zero Go.wp_at_succ
attribute [local go_sem] Oper.semAt_some wide_fn wide_depth wide_fnR wide_depthR

theorem acts_i64 (l : List Smc) : ∀ a ∈ l.map actC, I64 a.x.name.1 ∧ I64 a.x.name.2 := fun a ha => by
 obtain ⟨x, _, rfl⟩ := List.mem_map.1 ha
 unfold I64 Ev.name actC madeV
 simp only
 omega
theorem CasIn.one {w : World} {g : Nat} {x : Ca} (h : w.heap[g]? = some (.cells #[.int .u8 x.kind, .int .i64 x.x.key.time, .int .i64 x.x.key.source, .int .i64 x.x.key.seq, .int .i64 x.x.to, .int .i64 x.x.value, .int .i64 x.time] 33 (0, 0))) : CasIn w (some ⟨g, 0, none⟩) [x] := CasIn.of_flat (fun j u hj => by
 rw [Nat.zero_add, cells_in h, ← Array.getElem?_toList]
 exact hj)
theorem TdEv.own {W : World} {base : Nat} {y : Td} (h : W.ownsRow base 30 5 y.v y.evs.length (flatEv y.evs)) (hm : y.evs.length ≤ 10000) : EsIn W y.sa y.evs ∧ y.evs.length = y.sn ∧ y.sn ≤ 10000 := by
 obtain ⟨p, cp, e1, e2, e3⟩ := EsIn.of_own h
 unfold Td.v at e1
 injection e1 with f1 f2 f3
 rw [f1]
 exact ⟨e3, f2.symm, by omega⟩
end Go.Proofs.YtieeloealklkgaaGreat

/-
  CalendarWrong: the walk.
-/
namespace Go.Proofs.YtieeloealklkgaaGreat
open Go Go.RowKit Go.ChangeMaps
attribute [local go_sem ↓] Go.wp_at_zero Go.wp_at_succ
attribute [local go_sem] Oper.semAt_some wide_fn wide_depth wide_fnR wide_depthR

theorem make_events0 (n : Nat) (hn : n ≤ 1000000) (w : World) : (Go.Instr.makeSlice 22 (.int .i64 0) (.int .i64 n)).run Tryz.prog w = .ok (.slice (some ⟨w.heap.size, 0, none⟩) 0 n) (w.alloc (.cells (madeCells #[.int .i64 0, .int .i64 0, .int .i64 0, .int .i64 0, .int .i64 0] (n * 5)) 30)) := by
 obtain ⟨i0, hi, hz0, hz1, hz2⟩ := info_parts3 info_event0
 have := run_make (P := Tryz.prog) w 22 30 i0 _ Tryz.underlying22 hi hz0 .i64 .i64 (0 : Int) (n : Int) (Int.le_refl _) (by omega) (by rw [hz2]; omega) (by omega)
 rw [this, hz1]
 simp only [Int.toNat_natCast, Int.toNat_zero, Value.cells]
/-- Where a walk is made to stand. -/
def Stop (p : Prop) : Prop := p
theorem unstop {p : Prop} (h : Stop p) : p := h
theorem restart {p : Prop} (h : p) : Stop p := h
theorem cellS {w : World} {g j : Nat} {u v : Value} (h : w.cell? ⟨g, j, none⟩ = some u) : (w.setCell ⟨g, j, none⟩ v).cell? ⟨g, j, none⟩ = some v := by
 obtain ⟨cs, t, fz, hg⟩ : ∃ cs t fz, w.heap[g]? = some (.cells cs t fz) := by
  unfold World.cell? at h
  simp only at h
  split at h
  ·exact ⟨_, _, _, by assumption⟩
  ·cases h
 have hj : j < cs.size := by
  simp only [World.cell?, hg] at h
  exact (Array.getElem?_eq_some_iff.1 h).1
 simp [World.cell?, World.setCell, Array.getElem?_modify, hg, hj]
theorem cellO {w : World} {g j i : Nat} {v : Value} (h : i ≠ j) : (w.setCell ⟨g, j, none⟩ v).cell? ⟨g, i, none⟩ = w.cell? ⟨g, i, none⟩ := by
 cases hg : w.heap[g]? with
 | none => simp [World.cell?, World.setCell, Array.getElem?_modify, hg]
 | some ob =>
  cases ob <;> simp [World.cell?, World.setCell, Array.getElem?_modify, hg, Array.getElem?_setIfInBounds, Ne.symm h]
/-- The last one of a row. -/
theorem EsIn.last {w : World} {g k : Nat} {S : List Ev} {x : Ev} (h : EsIn w (some ⟨g, 0, none⟩) (S ++ [x])) (hk : S.length = k) : EAt w g (k * 5) x := by
 obtain ⟨g', o, e, hc⟩ := h k x (by rw [List.getElem?_append_right (by omega), hk, Nat.sub_self]; rfl)
 injection e with e
 injection e with e1 e2
 subst e1 e2
 rw [Nat.zero_add] at hc
 exact hc
theorem EsIn.set_last {w : World} {g k j : Nat} {S : List Ev} {x x' : Ev} {v : Value} (h : EsIn w (some ⟨g, 0, none⟩) (S ++ [x])) (hk : S.length = k) (hx : EAt (w.setCell ⟨g, k * 5 + j, none⟩ v) g (k * 5) x') : EsIn (w.setCell ⟨g, k * 5 + j, none⟩ v) (some ⟨g, 0, none⟩) (S ++ [x']) := fun i y hy => by
 by_cases hi : i < k
 ·have hy' : (S ++ [x])[i]? = some y := by
   rw [List.getElem?_append_left (by omega)] at hy ⊢
   exact hy
  obtain ⟨g', o, e, c0, c1, c2, c3, c4⟩ := h i y hy'
  injection e with e
  injection e with e1 e2
  subst e1 e2
  exact ⟨g, 0, rfl, (cellO (by omega)).trans c0, (cellO (by omega)).trans c1, (cellO (by omega)).trans c2, (cellO (by omega)).trans c3, (cellO (by omega)).trans c4⟩
 ·have hik : i = k := by
   have := (List.getElem?_eq_some_iff.1 hy).1
   rw [List.length_append, List.length_singleton] at this
   omega
  subst hik
  rw [List.getElem?_append_right (by omega), hk, Nat.sub_self] at hy
  have hy : some x' = some y := hy
  injection hy with hy
  subst hy
  exact ⟨g, 0, rfl, by rw [Nat.zero_add]; exact hx⟩
theorem evsR_r64 {l : List Sm5} (h : ∀ x ∈ l, x.ok) (most : Nat) : ∀ y ∈ evsK l most, R64K y.key := fun y hy => by
 have hy := dedK_sub _ y hy
 obtain ⟨x, hx, rfl⟩ := List.mem_map.1 hy
 exact madeV_r64 (h x (List.mem_of_mem_take hx))
set_option maxRecDepth 100000 in
set_option maxHeartbeats 4000000 in
theorem CalendarWrong_any {w : World} {a aa : Option Addr} {m cap M ca : Nat} {way wh n : Int} (xs : List Sm5) (h : Sm5sIn w a xs) (hl : xs.length = m) (hc : m ≤ cap) (l : List Smc) (hA : SmcsIn w aa l) (hAl : l.length = M) (hAc : M ≤ ca) (hw0 : 0 ≤ way ∧ way < 256) (hwh : 0 ≤ wh ∧ wh < 256) (hn : -9223372036854775808 ≤ n ∧ n ≤ 9223372036854775807) :
  Calls Tryz.prog 6 #[.slice a m cap, .slice aa M ca, .int .u8 way, .int .u8 wh, .int .i64 n] w fun e w' => e = .returned (.bool true) ∧ Fr0 none' w w' := by
 obtain ⟨i0, hi, hz0, hz1, hz2⟩ := info_parts info_event0
 have HAw := Lib.hid (fun (W : World) => cawake_any W)
 have HEv := Lib.hid (fun (W : World) (hf : Fr0 none' w W) => events11_any (most := 20) xs (h.later hf) hl hc (by omega))
 have HAc := Lib.hid (fun (W : World) (hf : Fr0 none' w W) => Acts_any (most := 40) l (hA.later hf) hAl hAc (by omega))
 have HOK := Lib.hid (show ∀ x ∈ xs, x.ok from fun x hx => by obtain ⟨i, hi⟩ := List.getElem?_of_mem hx; exact (h i x hi).1)
 have Hw0 := Lib.hid hw0
 have Hwh := Lib.hid hwh
 have hmk : ∀ W : World, (Go.Instr.makeSlice 22 (.int .i64 0) (.int .i64 21)).run Tryz.prog W = .ok (.slice (some ⟨W.heap.size, 0, none⟩) 0 21) (W.alloc (.cells (madeCells #[.int .i64 0, .int .i64 0, .int .i64 0, .int .i64 0, .int .i64 0] (21 * 5)) 30)) := make_events0 21 (by omega)
 clear h hl hc hA hAl hAc hw0 hwh
 go_enter Tryz.func6, Tryz.ntmps6
 go_wp2_with fail
 refine (HAw.out _).mono ?_
 rintro e w1 ⟨rfl, hf⟩
 have F := Lib.hid hf
 clear hf HAw
 go_wp2_with fail
 clear hmk
 obtain ⟨N, hN⟩ : ∃ N, w1.heap.size = N := ⟨_, rfl⟩
 obtain ⟨W2, hW2⟩ : ∃ W, w1.alloc (.cells (madeCells #[.int .i64 0, .int .i64 0, .int .i64 0, .int .i64 0, .int .i64 0] (21 * 5)) 30) = W := ⟨_, rfl⟩
 have f2 : Fr0 none' w1 W2 := by rw [← hW2]; exact (Fr0.refl _ _).alloc _
 have hrow0 : W2.ownsRow N 30 5 (.slice (some ⟨N, 0, none⟩) 0 21) 0 (flatEv []) := by
  have hb : W2.heap[N]? = some (.cells (madeCells #[.int .i64 0, .int .i64 0, .int .i64 0, .int .i64 0, .int .i64 0] (21 * 5)) 30 (0, 0)) := by rw [← hW2, ← hN]; exact World.alloc_heap_new w1 _
  exact ⟨by simp [flatEv], .inr ⟨N, 21, _, rfl, Nat.le_refl _, hb, Nat.zero_le _, by unfold maxLen; omega, by simp [madeCells], by simp [flatEv]⟩⟩
 have F1s := F.out.size
 have F := Lib.hid (F.out.trans f2)
 have HN := Lib.hid (show N < W2.heap.size by rw [← hW2, World.size_alloc, hN]; omega)
 have HwN := Lib.hid (show w.heap.size ≤ N by rw [← hN]; exact F1s)
 rw [hW2]
 try rw [hN]
 clear hW2 hN f2 F1s
 refine (HEv.out _ F.out).mono ?_
 rintro e w3 ⟨r, rfl, hr, hf⟩
 obtain ⟨E0, hE0⟩ : ∃ E, evsK xs 20 = E := ⟨_, rfl⟩
 have hrt : ∀ x ∈ E0, RightE x := by rw [← hE0]; exact evsK_right
 have hr64 : ∀ x ∈ E0, R64K x.key := by rw [← hE0]; exact evsR_r64 HOK.out 20
 have hle : E0.length ≤ 20 := by rw [← hE0]; exact evsK_le xs 20
 rw [hE0] at hr
 obtain ⟨m0, hm0⟩ : ∃ k, E0.length = k := ⟨_, rfl⟩
 rw [hm0] at hr hle
 obtain ⟨ea, ec, rfl, hel, hei⟩ := EsIn.of_own hr
 have HE := Lib.hid hei
 have HEb := Lib.hid (show ∀ g o s, ea = some ⟨g, o, s⟩ → N < g ∧ g < w3.heap.size from fun g o s e => by have := hr.lt g (by rw [e]; rfl); have := HN.out; omega)
 have Hm0 := Lib.hid hm0
 have HRt := Lib.hid hrt
 have HR64 := Lib.hid hr64
 have F := Lib.hid (F.out.trans hf)
 have HR0 := Lib.hid (ownsRow_fr0 hrow0 hf (fun _ _ h => h))
 have HN3 := Lib.hid (show N < w3.heap.size by have := HN.out; have := hf.size; omega)
 clear hE0 hrt hr64 hm0 hr hei hf hrow0 HEv HOK hel
 go_wp2_with fail
 go_loopw [11, 12, 13, 37] (fun gd _ _ i wr => ∃ k : Nat, k ≤ m0 ∧ i = .int .i64 k ∧ Hid (wr.ownsRow N 30 5 gd k (flatEv (namE (E0.take k)))) ∧ Hid (∀ g, gd.ownBlock = some g → g = N ∨ w3.heap.size ≤ g) ∧ Hid (Fr0 (fun j => j = N) w3 wr)) (fun _ _ _ i _ => m0 - (Go.RowKit.intOf i).toNat)
 case atStart => exact ⟨0, Nat.zero_le _, rfl, HR0, fun g hg => .inl (Option.some.inj hg).symm, Fr0.refl _ _⟩
 case round =>
  obtain ⟨k, hk, rfl, hown, hgb, hfr⟩ := hrel
  by_cases hlt : k < m0
  ·obtain ⟨x, hx⟩ : ∃ x, E0[k]? = some x := ⟨_, List.getElem?_eq_getElem (by rw [Hm0.out]; exact hlt)⟩
   have hEr : EsIn wr ea E0 := HE.out.fr0 hfr.out (fun g o s e h => by have := HEb.out g o s e; omega)
   obtain ⟨g2, o, rfl, hxc⟩ := hEr k x hx
   obtain ⟨x0, x1, x2, x3, x4⟩ := hxc
   have k1 : (0 : Int) ≤ (k : Int) := by omega
   have k2 : (k : Int) < (m0 : Int) := by omega
   have hns := namE_snoc hx
   have HNS := Lib.hid hns
   obtain ⟨xb, hxb⟩ : ∃ q, wr.heap.size = q := ⟨_, rfl⟩
   obtain ⟨W4, hW4⟩ : ∃ W, wr.alloc (.cells #[.int .i64 x.key.time, .int .i64 x.key.source, .int .i64 x.key.seq, .int .i64 x.to, .int .i64 x.value] 30) = W := ⟨_, rfl⟩
   have f4 : Fr0 none' wr W4 := by rw [← hW4]; exact (Fr0.refl _ _).alloc _
   have b4 : W4.heap[xb]? = some (.cells #[.int .i64 x.key.time, .int .i64 x.key.source, .int .i64 x.key.seq, .int .i64 x.to, .int .i64 x.value] 30 (0, 0)) := by rw [← hW4, ← hxb]; exact World.alloc_heap_new _ _
   have t2 := thaw_in b4 2
   have y2 := cells_in b4 2
   simp at y2
   have b5 := heap_set_cell (o := 2) b4 (.int .i64 (k : Int))
   obtain ⟨W5, hW5⟩ : ∃ W, W4.setCell ⟨xb, 2, none⟩ (.int .i64 (k : Int)) = W := ⟨_, rfl⟩
   rw [hW5] at b5
   have f5 : Fr0 none' wr W5 := by rw [← hW5]; exact f4.setCell (fun h => by omega) _
   have z0 := cells_in b5 0
   have z1 := cells_in b5 1
   have z2 := cells_in b5 2
   have z3 := cells_in b5 3
   have z4 := cells_in b5 4
   simp at z0 z1 z2 z3 z4
   have hsrc := Src.newRow (P := Tryz.prog) (size := 5) (tx := 22) (ty := 30) W5 Tryz.underlying22 1 1 [.int .i64 x.key.time, .int .i64 x.key.source, .int .i64 (k : Int), .int .i64 x.to, .int .i64 x.value] rfl (by simp [Value.oneCell'])
   have Hsrc := Lib.hid hsrc
   have hrow5 := ownsRow_fr0 hown.out f5 (fun _ _ h => h)
   have Hrow5 := Lib.hid (hrow5.alloc (.cells [Value.int .i64 x.key.time, .int .i64 x.key.source, .int .i64 (k : Int), .int .i64 x.to, .int .i64 x.value].toArray 30))
   have hN5 : N ≤ W5.heap.size := by have := f5.size; have := hfr.out.size; have := HN3.out; omega
   have F5 := Lib.hid (show Fr0 (fun j => j = N) w3 W5 from hfr.out.trans (f5.mono (fun _ _ h => h.elim)))
   have HS5 := Lib.hid (show w3.heap.size ≤ W5.heap.size from F5.out.size)
   obtain ⟨va, vc, rfl⟩ : ∃ va vc, u11 = .slice va k vc := by
    rcases hown.out.2 with ⟨rfl, h0⟩ | ⟨g, cap, cur, rfl, _⟩
    ·exact ⟨none, 0, by rw [h0]⟩
    ·exact ⟨_, cap, rfl⟩
   clear hx hEr hns f4 b4 f5 b5 hsrc hrow5
   go_wp2_with (at_builtin; refine wpList_append_k rfl _ _ 22 22 rfl N 30 i0 (.agg #[.int .i64 0, .int .i64 0, .int .i64 0, .int .i64 0, .int .i64 0]) 5 40 Tryz.underlying22 hi hz0 hz1 hz2 rfl (by decide) (.slice va k vc) k _ rfl Hrow5.out (.slice (some ⟨W5.heap.size, 0, none⟩) 1 1) 1 _ rfl Hsrc.out (by unfold maxLen; omega) (by omega) (by simp; omega) ?_; intro v' w6 hown' hgrow hdr hob)
   have hfg : Fr0 (fun i => (Value.slice va k vc).ownBlock = some i) W5 w6 := ((Fr0.refl _ W5).alloc _).grown hgrow (fun i hi _ => hi)
   have F6 := Lib.hid (show Fr0 (fun j => j = N) w3 w6 from F5.out.trans' hfg (fun j hj hs => (hgb.out j hs).resolve_right (by omega)))
   have hst4 : flatEv (namE (E0.take (k + 1))) = flatEv (namE (E0.take k)) ++ [Value.int .i64 x.key.time, .int .i64 x.key.source, .int .i64 (k : Int), .int .i64 x.to, .int .i64 x.value] := by rw [HNS.out, flatEv_append, flatEv_single]; rfl
   rw [← hst4] at hown'
   have hgb6 : ∀ g, v'.ownBlock = some g → g = N ∨ w3.heap.size ≤ g := fun g hg => by
    rcases hob with hob | hob
    ·exact hgb.out g (by rw [← hob]; exact hg)
    ·rw [hg] at hob
     injection hob with hob
     rw [World.size_alloc] at hob
     have := HS5.out
     omega
   have HG6 := Lib.hid hgb6
   have Hown' := Lib.hid hown'
   obtain ⟨g', cap', rfl⟩ := ownsRow_k_succ hown'
   clear hgrow hdr hob hown' hfg hst4 hgb6 z0 z1 z2 z3 z4 x0 x1 x2 x3 x4
   go_wp2
   go_roundw
   case rel => exact ⟨k + 1, by omega, by go_num, Hown', HG6, F6⟩
   case measure => simp [Go.RowKit.intOf]; omega
  ·have hkm : k = m0 := by omega
   subst hkm
   rw [List.take_of_length_le (by rw [Hm0.out]; exact Nat.le_refl _)] at hown
   obtain ⟨ga, gc, rfl, hgl, hgi⟩ := EsIn.of_own hown.out
   have hgc := own_cap hown.out rfl
   have hnl : (namE E0).length = k := by rw [namE_length, Hm0.out]
   have HSo := Lib.hid (MSort_any (w := wr) (cap := gc) (namE E0) hgi hnl hgc (by omega) (fun ad e => by rw [e] at hown; exact (hown.out.lt ad.block rfl).2) (namE_keys E0) (namE_r64 HR64.out (by rw [Hm0.out]; omega)))
   have F := Lib.hid (show Fr0 none' w wr from F.out.trans' hfr.out (fun j hj hs => by have hs : j = N := hs; have := HwN.out; omega))
   clear hown hgb hfr hgi hgc HE HEb
   go_wp2_with fail
   refine HSo.out.mono ?_
   clear HSo
   rintro e w4 ⟨sv, S, rfl, hSp, hSa, hs, hf⟩
   have hSl : S.length = k := by rw [hSp.length_eq, hnl]
   have hSg : GoodE 20 S := ⟨hSa, (namE_once E0).perm hSp.symm, fun x hx => namE_right HRt.out (by rw [Hm0.out]; omega) x (hSp.mem_iff.1 hx), by omega⟩
   obtain ⟨sa, sc, rfl, _, hsi⟩ := EsIn.of_own hs
   have hsc := own_cap hs rfl
   have F := Lib.hid (F.out.trans hf)
   have HSl := Lib.hid hSl
   have HSg := Lib.hid hSg
   have HS := Lib.hid hsi
   have HR := Lib.hid (CRight_any (w := w4) (c := 20) (cap := sc) S hsi hSl (by omega) hsc)
   have HSb := Lib.hid (show ∀ g o s, sa = some ⟨g, o, s⟩ → g < w4.heap.size from fun g o s e => (hs.lt g (by rw [e]; rfl)).2)
   have Hsc := Lib.hid hsc
   clear hSp hSa hs hf hSl hSg hsi hsc hnl HR64 HRt Hm0 HR0 HN HN3 HwN
   go_wp2_with fail
   refine HR.out.mono ?_
   clear HR
   rintro e w5 ⟨b, rfl, hb, hf⟩
   obtain rfl : b = true := hb.2 (HSg.out.rightC (by omega))
   have F := Lib.hid (F.out.trans hf)
   have HS := Lib.hid (HS.out.later hf)
   have HSb := Lib.hid (show ∀ g o s, sa = some ⟨g, o, s⟩ → g < w5.heap.size from fun g o s e => Nat.lt_of_lt_of_le (HSb.out g o s e) hf.size)
   clear hb hf
   go_wp2_with fail
   refine (HAc.out _ F.out).mono ?_
   clear HAc
   rintro e w6 ⟨v, rfl, hr, hf⟩
   obtain ⟨A, hA⟩ : ∃ A, (l.take 40).map actC = A := ⟨_, rfl⟩
   have hk1 : ∀ x ∈ A, 1 ≤ x.kind ∧ x.kind ≤ 5 := by rw [← hA]; exact kinds_acts _
   have hi64 : ∀ x ∈ A, I64 x.x.name.1 ∧ I64 x.x.name.2 := by rw [← hA]; exact acts_i64 _
   have hM : A.length ≤ 40 := by rw [← hA, List.length_map, List.length_take]; omega
   rw [hA] at hr
   obtain ⟨M1, hMl⟩ : ∃ M, A.length = M := ⟨_, rfl⟩
   rw [hMl] at hr hM
   obtain ⟨xa, xc, rfl, _, hac, hin⟩ := CasIn.of_own hr
   have F := Lib.hid (F.out.trans hf)
   have HS := Lib.hid (HS.out.later hf)
   have HSb := Lib.hid (show ∀ g o s, sa = some ⟨g, o, s⟩ → g < w6.heap.size from fun g o s e => Nat.lt_of_lt_of_le (HSb.out g o s e) hf.size)
   have HI := Lib.hid hin
   have HK := Lib.hid hk1
   have HI64 := Lib.hid hi64
   have Hl := Lib.hid hMl
   obtain ⟨kk, hkk⟩ : ∃ kk : Nat, wh % ((M1 + 1 : Nat) : Int) = (kk : Int) := ⟨(wh % ((M1 + 1 : Nat) : Int)).toNat, by have := Int.emod_nonneg wh (show ((M1 + 1 : Nat) : Int) ≠ 0 by omega); omega⟩
   have hkM : kk ≤ M1 := by have := Int.emod_lt_of_pos wh (show 0 < ((M1 + 1 : Nat) : Int) by omega); omega
   have q2 : wrap64 wh = wh := IntWalk.wrap64_in wh (by have := Hwh.out; omega)
   have q3 : Int.tmod wh ((M1 : Int) + 1) = (kk : Int) := by rw [Int.tmod_eq_emod_of_nonneg Hwh.out.1, ← hkk]; push_cast; rfl
   have HCl := Lib.hid (fun (W : World) (hf : Fr0 none' w6 W) => CloneA (cap := xc) A (hin.later hf) hMl (by omega))
   clear hA hk1 hr hMl hin hf hi64 hkk hac
   go_wp2_with fail
   refine (HCl.out _ (Fr0.refl _ _)).mono ?_
   clear HCl
   rintro e w7 ⟨cv, rfl, hcv, hf⟩
   obtain ⟨cva, cvc, rfl, _, _, _⟩ := CasIn.of_own hcv
   obtain ⟨mx, hmx⟩ : ∃ mx, max way 6 = mx := ⟨_, rfl⟩
   have hmx6 : 6 ≤ mx ∧ mx < 256 := by have := Hw0.out; omega
   have S6w := Lib.hid F.out.size
   have F := Lib.hid (F.out.trans hf)
   have HS := Lib.hid (HS.out.later hf)
   have S67 := Lib.hid hf.size
   have FC := Lib.hid hf
   have HCV := Lib.hid hcv
   have Hmx := Lib.hid hmx
   clear hf hcv q2 q3
   go_wp2_with fail
   try rw [Hmx.out]
   obtain ⟨lb, hlb⟩ : ∃ b, w7.heap.size = b := ⟨_, rfl⟩
   obtain ⟨W8, hW8⟩ : ∃ V, w7.alloc (.cells #[.int .u8 mx, .int .i64 0, .int .i64 0, .int .i64 0, .int .i64 0, .int .i64 0, .int .i64 0] 33) = V := ⟨_, rfl⟩
   have f8 : Fr0 none' w7 W8 := by rw [← hW8]; exact (Fr0.refl _ _).alloc _
   have b8 : W8.heap[lb]? = some (.cells (caL ⟨mx, zeroE, 0⟩).toArray 33 (0, 0)) := by rw [← hW8, ← hlb]; exact World.alloc_heap_new _ _
   rw [hW8]
   try rw [hlb]
   have HIn := InsertA (i := kk) A (ownsRow_fr0 HCV.out f8 (fun _ _ h => h)) hkM (by omega) ⟨mx, zeroE, 0⟩ b8 (fun e => by have := (HCV.out.lt lb e).2; omega) (Nat.le_trans S67.out f8.size)
   refine HIn.mono ?_
   clear HIn
   rintro e w9 ⟨iv, rfl, hiv, hf, _⟩
   have S6 := Lib.hid (show Fr0 none' w6 w9 from (FC.out.trans f8).trans' hf (fun j hj hs => by have := (HCV.out.lt j hs).1; omega))
   obtain ⟨iva, ivc, rfl, _, _, _⟩ := CasIn.of_own hiv
   have HS := Lib.hid ((HS.out.later f8).fr0 hf (fun g o s e h => by have h1 := HSb.out g o s e; have := (HCV.out.lt g h).1; omega))
   have F := Lib.hid ((F.out.trans f8).trans' hf (fun j hj hs => by have := (HCV.out.lt j hs).1; have := S6w.out; omega))
   have HIV := Lib.hid hiv
   obtain ⟨ia0, hia, hza0, hza1, hza2⟩ := info_parts info_act0
   have hsrc := Src.newRow (P := Tryz.prog) (size := 7) (tx := 23) (ty := 33) w9 Tryz.underlying23 1 1 [.int .u8 0, .int .i64 0, .int .i64 0, .int .i64 0, .int .i64 0, .int .i64 0, .int .i64 0] rfl (by simp [Value.oneCell'])
   have Hsrc := Lib.hid hsrc
   have Hrow9 := Lib.hid (hiv.alloc (.cells [Value.int .u8 0, .int .i64 0, .int .i64 0, .int .i64 0, .int .i64 0, .int .i64 0, .int .i64 0].toArray 33))
   have hN9 : w6.heap.size ≤ w9.heap.size := S6.out.size
   have Hkk := Lib.hid hkM
   clear hiv hf f8 b8 hW8 hlb hsrc hkM HCV FC
   go_wp2_with (at_builtin; refine wpList_append_k rfl _ _ 23 23 rfl w6.heap.size 33 ia0 (.agg #[.int .u8 0, .int .i64 0, .int .i64 0, .int .i64 0, .int .i64 0, .int .i64 0, .int .i64 0]) 7 56 Tryz.underlying23 hia hza0 hza1 hza2 rfl (by decide) (.slice iva (M1 + 1) ivc) (M1 + 1) _ rfl Hrow9.out (.slice (some ⟨w9.heap.size, 0, none⟩) 1 1) 1 _ rfl Hsrc.out (by unfold maxLen; omega) (by omega) (by simp; omega) ?_; intro v' w10 hown' hgrow hdr hob; refine unstop ?_)
   refine restart ?_
   have hfg : Fr0 (fun i => (Value.slice iva (M1 + 1) ivc).ownBlock = some i) w9 w10 := ((Fr0.refl _ w9).alloc _).grown hgrow (fun i hi _ => hi)
   have hl3 : flatCa ((A.take kk ++ (⟨mx, zeroE, 0⟩ : Ca) :: A.drop kk) ++ [⟨0, zeroE, 0⟩]) = flatCa (A.take kk ++ (⟨mx, zeroE, 0⟩ : Ca) :: A.drop kk) ++ [Value.int .u8 0, .int .i64 0, .int .i64 0, .int .i64 0, .int .i64 0, .int .i64 0, .int .i64 0] := by rw [flatCa_append, flatCa_single]; rfl
   rw [← hl3] at hown'
   have hodd := odd_ins HK.out (k := kk) (by rw [Hl.out]; exact Hkk.out) (x := ⟨mx, zeroE, 0⟩) (by have := hmx6; simp only; omega) [⟨0, zeroE, 0⟩]
   have hkO : ∀ x ∈ (A.take kk ++ (⟨mx, zeroE, 0⟩ : Ca) :: A.drop kk) ++ [⟨0, zeroE, 0⟩], (0 ≤ x.kind ∧ x.kind < 256) ∧ I64 x.x.name.1 ∧ I64 x.x.name.2 := fun x hx => by
    rw [List.mem_append, List.mem_append, List.mem_cons, List.mem_singleton] at hx
    have hz : I64 zeroE.name.1 ∧ I64 zeroE.name.2 := ⟨by unfold I64; decide, by unfold I64; decide⟩
    have ho : ∀ y ∈ A, (0 ≤ y.kind ∧ y.kind < 256) ∧ I64 y.x.name.1 ∧ I64 y.x.name.2 := fun y hy => ⟨by have := HK.out y hy; omega, HI64.out y hy⟩
    rcases hx with (hx | rfl | hx) | rfl
    ·exact ho x (List.mem_of_mem_take hx)
    ·exact ⟨⟨by simp only; omega, by simp only; omega⟩, hz⟩
    ·exact ho x (List.mem_of_mem_drop hx)
    ·exact ⟨⟨by decide, by decide⟩, hz⟩
   obtain ⟨OD, hOD⟩ : ∃ O, (A.take kk ++ (⟨mx, zeroE, 0⟩ : Ca) :: A.drop kk) ++ [⟨0, zeroE, 0⟩] = O := ⟨_, rfl⟩
   rw [hOD] at hown' hodd hkO
   obtain ⟨oda, odc, rfl, hodl, hodm, hodi⟩ := CasIn.of_own hown'
   have HOD := Lib.hid hodi
   have HODl := Lib.hid hodl
   have Hodd := Lib.hid hodd
   have HkO := Lib.hid hkO
   have HODb := Lib.hid (show ∀ g o s, oda = some ⟨g, o, s⟩ → g < w10.heap.size from fun g o s e => (hown'.lt g (by rw [e]; rfl)).2)
   have HS := Lib.hid (HS.out.fr0 hfg (fun g o s e h => by have h1 := HSb.out g o s e; have := (HIV.out.lt g h).1; omega))
   have F := Lib.hid (F.out.trans' hfg (fun j hj hs => by have := (HIV.out.lt j hs).1; have := S6w.out; omega))
   have HSb := Lib.hid (show ∀ g o s, sa = some ⟨g, o, s⟩ → g < w10.heap.size from fun g o s e => by have := HSb.out g o s e; have := S6.out.size; have := hfg.size; omega)
   have S10w := Lib.hid (show w.heap.size ≤ w10.heap.size from F.out.size)
   clear hgrow hdr hob hown' hl3 hodd hkO hOD hodl hodi hfg HIV Hrow9 S6w hN9
   go_wp2_with fail
   have HP := Play_told (w := w10) (c := 20) (n := k) (cap := sc) (m := M1 + 1 + 1) (ca := odc) (playC_odd (HSg.out.rightC (by omega)) (by rw [Hodd.out]; omega)) HS.out HSl.out (by omega) Hsc.out HOD.out HODl.out (by omega) (fun x hx => (HkO.out x hx).1)
   rw [Hodd.out] at HP
   refine HP.mono ?_
   clear HP
   rintro e w11 ⟨va9, vc9, ua9, uc9, ys9, rfl, _, _, _, _, _, hf⟩
   simp only [List.length_nil]
   have HS := Lib.hid (HS.out.later hf)
   have HOD := Lib.hid (HOD.out.later hf)
   have F := Lib.hid (F.out.trans hf)
   have S11 := Lib.hid hf.size
   have z1 : ((kk : Int) != (kk : Int)) = false := by simp
   clear hf
   go_wp2_with fail
   refine (show Calls Tryz.prog 14 #[.int .i64 20] w11 _ from QNew_is 20 (by omega) w11).mono ?_
   rintro e w12 ⟨qb, ft, rfl, hq, hf, hge⟩
   have HS := Lib.hid (HS.out.later hf)
   have HOD := Lib.hid (HOD.out.later hf)
   have F := Lib.hid (F.out.trans hf)
   have HQ := Lib.hid hq
   have HGE := Lib.hid (show ∀ j, ft j → w10.heap.size ≤ j from fun j hj => by have := hge j hj; have := S11.out; omega)
   have S12 := Lib.hid (show w10.heap.size ≤ w12.heap.size by have := S11.out; have := hf.size; omega)
   clear hq hf hge
   go_wp2_with fail
   have hall := all_ok (n := 20) (E := []) (l := S) HSg.out.right (by rw [List.append_nil]; exact HSg.out.once) (by have := HSl.out; simp only [List.length_nil]; omega)
   have HP := HQ.out.putAll (cap := sc) S HS.out HSl.out (by omega) (by omega) (fun g o s e hg => by have := HSb.out g o s e; have := HGE.out g hg; omega)
   rw [hall.1, hall.2, puts_asc HSg.out.asc HSg.out.once] at HP
   refine HP.mono ?_
   clear HP hall
   rintro e w13 ⟨rfl, hq, hf⟩
   have HS := Lib.hid (HS.out.fr0 hf (fun g o s e hg => by have := HSb.out g o s e; have := HGE.out g hg; omega))
   have HOD := Lib.hid (HOD.out.fr0 hf (fun g o s e hg => by have := HODb.out g o s e; have := HGE.out g hg; omega))
   have F := Lib.hid (F.out.trans' hf (fun j hj hs => by have := HGE.out j hs; have := S10w.out; omega))
   have HGE := Lib.hid (show ∀ j, qgrow ft w12 w13 j → w10.heap.size ≤ j from fun j hj => hj.elim (HGE.out j) (fun h => by have := S12.out; omega))
   have HQ := Lib.hid hq
   have S13 := Lib.hid (show w10.heap.size ≤ w13.heap.size by have := S12.out; have := hf.size; omega)
   clear hq hf
   go_wp2_with fail
   have HQu := Lib.hid (Queue_any (w := w13) (m := M1 + 1 + 1) (ca := odc) OD HQ.out (by omega) HOD.out HODl.out (by omega) (fun x hx => (HkO.out x hx).1) (fun x hx => (HkO.out x hx).2) (fun _ g o s e hg => by have := HODb.out g o s e; have := HGE.out g hg; omega))
   unfold EndQ at HQu
   rw [queC_odd (by rw [Hodd.out]; omega), Hodd.out] at HQu
   refine HQu.out.mono ?_
   clear HQu
   rintro e w14 ⟨u, ys, ft', rfl, hu, _, hq, hft', _, hf⟩
   have hu : w14.ownsRow w13.heap.size 56 2 u 0 (flatTd ys) := hu
   obtain ⟨ua, uc, rfl, _, _⟩ := TdsIn.of_own hu
   have HS := Lib.hid (HS.out.fr0 hf (fun g o s e hg => by have := HSb.out g o s e; have := HGE.out g hg; omega))
   have HOD := Lib.hid (HOD.out.fr0 hf (fun g o s e hg => by have := HODb.out g o s e; have := HGE.out g hg; omega))
   have F := Lib.hid (F.out.trans' hf (fun j hj hs => by have := HGE.out j hs; have := S10w.out; omega))
   have HQ := Lib.hid (show QIs w14 qb 20 _ S ft' from hq)
   have S14 := Lib.hid hf.size
   clear hq hf hft' hu
   go_wp2_with fail
   refine HQ.out.all.mono ?_
   rintro e w15 ⟨v, rfl, hv, hf⟩
   obtain ⟨va, vc, rfl, _, hvi⟩ := EsIn.of_own hv
   rw [HSl.out]
   have HS := Lib.hid (HS.out.later hf)
   have HOD := Lib.hid (HOD.out.later hf)
   have F := Lib.hid (F.out.trans hf)
   have HV := Lib.hid hvi
   have hf15 := Lib.hid hf.size
   clear hv hvi hf
   go_wp2_with fail
   have HSa := Same_any va sa k k vc sc S S w15 HSl.out HSl.out (by omega) (by omega) HV.out HS.out
   rw [decide_eq_true rfl] at HSa
   refine HSa.mono ?_
   clear HSa
   rintro e w16 ⟨rfl, hf⟩
   have HS := Lib.hid (HS.out.later hf)
   have HOD := Lib.hid (HOD.out.later hf)
   have F := Lib.hid (F.out.trans hf)
   have S16 := Lib.hid (show w10.heap.size ≤ w16.heap.size by have := S13.out; have := S14.out; have := hf15.out; have := hf.size; omega)
   clear hf z1 HV HQ HGE
   go_wp2_with fail
   refine (CloneE (cap := sc) S HS.out HSl.out (by omega)).mono ?_
   rintro e w17 ⟨v, rfl, hv, hf⟩
   obtain ⟨cla, clc, rfl, _, _⟩ := EsIn.of_own hv
   have HOD := Lib.hid (HOD.out.later hf)
   have Sw16 := Lib.hid F.out.size
   have F := Lib.hid (F.out.trans hf)
   have S17 := Lib.hid hf.size
   have hsrc := Src.newRow (P := Tryz.prog) (size := 5) (tx := 22) (ty := 30) w17 Tryz.underlying22 1 1 [.int .i64 99, .int .i64 16, .int .i64 99, .int .i64 1, .int .i64 0] rfl (by simp [Value.oneCell'])
   have Hsrc := Lib.hid hsrc
   have Hrow17 := Lib.hid (hv.alloc (.cells [Value.int .i64 99, .int .i64 16, .int .i64 99, .int .i64 1, .int .i64 0].toArray 30))
   have HODb := Lib.hid (show ∀ g o s, oda = some ⟨g, o, s⟩ → g < w16.heap.size from fun g o s e => by have := HODb.out g o s e; have := S16.out; omega)
   have hN17 := hf.size
   clear hsrc hv hf HS
   go_wp2_with (at_builtin; refine wpList_append_k rfl _ _ 22 22 rfl w16.heap.size 30 i0 (.agg #[.int .i64 0, .int .i64 0, .int .i64 0, .int .i64 0, .int .i64 0]) 5 40 Tryz.underlying22 hi hz0 hz1 hz2 rfl (by decide) (.slice cla k clc) k _ rfl Hrow17.out (.slice (some ⟨w17.heap.size, 0, none⟩) 1 1) 1 _ rfl Hsrc.out (by unfold maxLen; omega) (by omega) (by simp; omega) ?_; intro v' w18 hown' hgrow hdr hob; refine unstop ?_)
   have hfg : Fr0 (fun i => (Value.slice cla k clc).ownBlock = some i) w17 w18 := ((Fr0.refl _ w17).alloc _).grown hgrow (fun i hi _ => hi)
   have hl5 : flatEv (S ++ [lastE]) = flatEv S ++ [Value.int .i64 99, .int .i64 16, .int .i64 99, .int .i64 1, .int .i64 0] := by rw [flatEv_append, flatEv_single]; rfl
   rw [← hl5] at hown'
   have hBb := hown'.lt
   obtain ⟨g, bc, rfl⟩ := ownsRow_k_succ hown'
   have hbi := EsIn.of_own' hown'
   have HBR := Lib.hid hown'
   have HB := Lib.hid hbi
   have HOD := Lib.hid (HOD.out.fr0 hfg (fun g o s e h => by have := HODb.out g o s e; have := (Hrow17.out.lt g h).1; omega))
   have F := Lib.hid (F.out.trans' hfg (fun j hj hs => by have := (Hrow17.out.lt j hs).1; have := Sw16.out; omega))
   have Hg := Lib.hid (show w16.heap.size ≤ g ∧ g < w18.heap.size from hBb g rfl)
   have hbc := own_cap hown' rfl
   obtain ⟨cur, hcur⟩ : ∃ cur, w18.heap[g]? = some (.cells cur 30 (0, 0)) := by
    rcases hown'.2 with ⟨e, _⟩ | ⟨g', cap', cur, e, _, hg', _⟩
    ·cases e
    ·cases e; exact ⟨cur, hg'⟩
   have Hbl := Lib.hid (show (S ++ [lastE]).length = k + 1 by rw [List.length_append, HSl.out]; rfl)
   obtain ⟨r, hr⟩ : ∃ r, way % 6 = r := ⟨_, rfl⟩
   have t6 : Int.tmod way 6 = r := by rw [Int.tmod_eq_emod_of_nonneg Hw0.out.1, hr]
   have hr6 : r = 0 ∨ r = 1 ∨ r = 2 ∨ r = 3 ∨ r = 4 ∨ r = 5 := by omega
   have Hn := Lib.hid hn
   clear hgrow hdr hob hown' hl5 hbi hBb Hrow17 Hsrc HSb HSg hr hn hfg
   rcases hr6 with rfl | rfl | rfl | rfl | rfl | rfl
   ·obtain ⟨tv, htv⟩ : ∃ t, max n 17 = t := ⟨_, rfl⟩
    have ht17 : 17 ≤ tv := by omega
    obtain ⟨c0, c1, c2, c3, c4⟩ := HB.out.last HSl.out
    have th := thaw_in hcur ((k * 5) + 3)
    obtain ⟨W19, hW19⟩ : ∃ W, w18.setCell ⟨g, k * 5 + 3, none⟩ (.int .i64 tv) = W := ⟨_, rfl⟩
    have HBX := Lib.hid (show EsIn W19 (some ⟨g, 0, none⟩) (S ++ [⟨⟨99, 16, 99⟩, tv, 0⟩]) by rw [← hW19]; exact HB.out.set_last HSl.out ⟨(cellO (by omega)).trans c0, (cellO (by omega)).trans c1, (cellO (by omega)).trans c2, cellS c3, (cellO (by omega)).trans c4⟩)
    have HBXl := Lib.hid (show (S ++ [(⟨⟨99, 16, 99⟩, tv, 0⟩ : Ev)]).length = k + 1 by rw [List.length_append, HSl.out]; rfl)
    have f19 : Fr0 (fun j => j = g) w18 W19 := by rw [← hW19]; exact (Fr0.refl (fun j => j = g) w18).setCell (fun _ => rfl) _
    have HOD := Lib.hid (HOD.out.fr0 f19 (fun g' o s e h => by have := HODb.out g' o s e; have h : g' = g := h; have := Hg.out; omega))
    have F := Lib.hid (F.out.trans' f19 (fun j hj hs => by have hs : j = g := hs; have := Hg.out; have := Sw16.out; omega))
    have HBad := Lib.hid (bad0 (S := S) (c := 21) ht17)
    have Htv := Lib.hid htv
    clear f19 ht17
    refine restart ?_
    go_wp2_with fail
    clear hW19 htv
    have HP := Play_told (w := W19) (c := 21) (n := k + 1) (cap := bc) (m := M1 + 1 + 1) (ca := odc) (playC_wrong HBad.out) HBX.out HBXl.out (by omega) hbc HOD.out HODl.out (by omega) (fun x hx => (HkO.out x hx).1)
    refine HP.mono ?_
    clear HP
    rintro e w20 ⟨vb2, vd2, ub2, ud2, ys2, rfl, _, _, _, _, _, hf⟩
    simp only [List.length_nil]
    have HBX := Lib.hid (HBX.out.later hf)
    have F := Lib.hid (F.out.trans hf)
    clear hf
    go_wp2_with fail
    have HD := Do_any (w := w20) (c := 21) (n := k + 1) (cap := bc) (S ++ [⟨⟨99, 16, 99⟩, tv, 0⟩]) ⟨5, zeroE, 0⟩ HBX.out HBXl.out (by omega) hbc ⟨by decide, by decide⟩
    unfold EndD actCV doT at HD
    rw [playC_wrong HBad.out] at HD
    refine HD.mono ?_
    clear HD
    rintro e w21 ⟨nv, z, rfl, hnv, hzt, hzr, _, hf⟩
    have hnv : w21.ownsRow w20.heap.size 30 5 nv 0 (flatEv []) := hnv
    obtain ⟨na, nc, rfl, _, _⟩ := EsIn.of_own hnv
    obtain ⟨ze, zsa, zsn, zsc, zev⟩ := z
    have hev : zev = [] := congrArg Tl.evs hzt
    have hsn : zsn = 0 := by
     obtain ⟨p, cp, e1, _, _⟩ := EsIn.of_own hzr
     unfold Td.v at e1
     injection e1 with f1 f2 f3
     simp only [hev, List.length_nil] at f2
     exact f2
    subst hsn
    have HBX := Lib.hid (HBX.out.later hf)
    have F := Lib.hid (F.out.trans hf)
    clear hf hnv hzt hzr hev
    unfold Td.val
    simp only [List.length_nil]
    obtain ⟨tb, htb⟩ : ∃ b, w21.heap.size = b := ⟨_, rfl⟩
    obtain ⟨W22, hW22⟩ : ∃ V, w21.alloc (.cells #[.int .i64 ze, .slice zsa 0 zsc] 56) = V := ⟨_, rfl⟩
    have f22 : Fr0 none' w21 W22 := by rw [← hW22]; exact (Fr0.refl _ _).alloc _
    have b22 : W22.heap[tb]? = some (.cells #[.int .i64 ze, .slice zsa 0 zsc] 56 (0, 0)) := by rw [← hW22, ← htb]; exact World.alloc_heap_new _ _
    have HB22 := Lib.hid b22
    have HBX := Lib.hid (HBX.out.later f22)
    have F := Lib.hid (F.out.trans f22)
    have HR := Lib.hid (CRight_any (w := W22) (c := 21) (n := k + 1) (cap := bc) (S ++ [⟨⟨99, 16, 99⟩, tv, 0⟩]) HBX.out HBXl.out (by omega) hbc)
    clear f22 b22
    go_wp2_with fail
    clear hW22 htb
    refine HR.out.mono ?_
    clear HR
    rintro e w23 ⟨b, rfl, hb, hf⟩
    obtain rfl : b = false := by
     cases b with
     | false => rfl
     | true => exact absurd (hb.1 rfl) HBad.out
    have b23 := (hf.block tb (Array.getElem?_eq_some_iff.1 HB22.out).1 id).trans HB22.out
    have t0 := cells_in b23 0
    have t1 := cells_in b23 1
    simp at t0 t1
    have F := Lib.hid (F.out.trans hf)
    clear hf hb b23
    go_wp2
    go_ret
    exact ⟨rfl, F.out⟩
   ·obtain ⟨tv, htv⟩ : ∃ t, max n 4294967296 = t := ⟨_, rfl⟩
    have ht17 : 4294967296 ≤ tv := by omega
    obtain ⟨c0, c1, c2, c3, c4⟩ := HB.out.last HSl.out
    have th := thaw_in hcur ((k * 5) + 2)
    obtain ⟨W19, hW19⟩ : ∃ W, w18.setCell ⟨g, k * 5 + 2, none⟩ (.int .i64 tv) = W := ⟨_, rfl⟩
    have HBX := Lib.hid (show EsIn W19 (some ⟨g, 0, none⟩) (S ++ [⟨⟨99, 16, tv⟩, 1, 0⟩]) by rw [← hW19]; exact HB.out.set_last HSl.out ⟨(cellO (by omega)).trans c0, (cellO (by omega)).trans c1, cellS c2, (cellO (by omega)).trans c3, (cellO (by omega)).trans c4⟩)
    have HBXl := Lib.hid (show (S ++ [(⟨⟨99, 16, tv⟩, 1, 0⟩ : Ev)]).length = k + 1 by rw [List.length_append, HSl.out]; rfl)
    have f19 : Fr0 (fun j => j = g) w18 W19 := by rw [← hW19]; exact (Fr0.refl (fun j => j = g) w18).setCell (fun _ => rfl) _
    have HOD := Lib.hid (HOD.out.fr0 f19 (fun g' o s e h => by have := HODb.out g' o s e; have h : g' = g := h; have := Hg.out; omega))
    have F := Lib.hid (F.out.trans' f19 (fun j hj hs => by have hs : j = g := hs; have := Hg.out; have := Sw16.out; omega))
    have HBad := Lib.hid (bad1 (S := S) (c := 21) ht17)
    have Htv := Lib.hid htv
    clear f19 ht17
    refine restart ?_
    go_wp2_with fail
    clear hW19 htv
    have HP := Play_told (w := W19) (c := 21) (n := k + 1) (cap := bc) (m := M1 + 1 + 1) (ca := odc) (playC_wrong HBad.out) HBX.out HBXl.out (by omega) hbc HOD.out HODl.out (by omega) (fun x hx => (HkO.out x hx).1)
    refine HP.mono ?_
    clear HP
    rintro e w20 ⟨vb2, vd2, ub2, ud2, ys2, rfl, _, _, _, _, _, hf⟩
    simp only [List.length_nil]
    have HBX := Lib.hid (HBX.out.later hf)
    have F := Lib.hid (F.out.trans hf)
    clear hf
    go_wp2_with fail
    have HD := Do_any (w := w20) (c := 21) (n := k + 1) (cap := bc) (S ++ [⟨⟨99, 16, tv⟩, 1, 0⟩]) ⟨5, zeroE, 0⟩ HBX.out HBXl.out (by omega) hbc ⟨by decide, by decide⟩
    unfold EndD actCV doT at HD
    rw [playC_wrong HBad.out] at HD
    refine HD.mono ?_
    clear HD
    rintro e w21 ⟨nv, z, rfl, hnv, hzt, hzr, _, hf⟩
    have hnv : w21.ownsRow w20.heap.size 30 5 nv 0 (flatEv []) := hnv
    obtain ⟨na, nc, rfl, _, _⟩ := EsIn.of_own hnv
    obtain ⟨ze, zsa, zsn, zsc, zev⟩ := z
    have hev : zev = [] := congrArg Tl.evs hzt
    have hsn : zsn = 0 := by
     obtain ⟨p, cp, e1, _, _⟩ := EsIn.of_own hzr
     unfold Td.v at e1
     injection e1 with f1 f2 f3
     simp only [hev, List.length_nil] at f2
     exact f2
    subst hsn
    have HBX := Lib.hid (HBX.out.later hf)
    have F := Lib.hid (F.out.trans hf)
    clear hf hnv hzt hzr hev
    unfold Td.val
    simp only [List.length_nil]
    obtain ⟨tb, htb⟩ : ∃ b, w21.heap.size = b := ⟨_, rfl⟩
    obtain ⟨W22, hW22⟩ : ∃ V, w21.alloc (.cells #[.int .i64 ze, .slice zsa 0 zsc] 56) = V := ⟨_, rfl⟩
    have f22 : Fr0 none' w21 W22 := by rw [← hW22]; exact (Fr0.refl _ _).alloc _
    have b22 : W22.heap[tb]? = some (.cells #[.int .i64 ze, .slice zsa 0 zsc] 56 (0, 0)) := by rw [← hW22, ← htb]; exact World.alloc_heap_new _ _
    have HB22 := Lib.hid b22
    have HBX := Lib.hid (HBX.out.later f22)
    have F := Lib.hid (F.out.trans f22)
    have HR := Lib.hid (CRight_any (w := W22) (c := 21) (n := k + 1) (cap := bc) (S ++ [⟨⟨99, 16, tv⟩, 1, 0⟩]) HBX.out HBXl.out (by omega) hbc)
    clear f22 b22
    go_wp2_with fail
    clear hW22 htb
    refine HR.out.mono ?_
    clear HR
    rintro e w23 ⟨b, rfl, hb, hf⟩
    obtain rfl : b = false := by
     cases b with
     | false => rfl
     | true => exact absurd (hb.1 rfl) HBad.out
    have b23 := (hf.block tb (Array.getElem?_eq_some_iff.1 HB22.out).1 id).trans HB22.out
    have t0 := cells_in b23 0
    have t1 := cells_in b23 1
    simp at t0 t1
    have F := Lib.hid (F.out.trans hf)
    clear hf hb b23
    go_wp2
    go_ret
    exact ⟨rfl, F.out⟩
   ·obtain ⟨b0, hb0⟩ : ∃ b, (S ++ [lastE])[0]? = some b := ⟨_, List.getElem?_eq_getElem (by rw [Hbl.out]; omega)⟩
    obtain ⟨y0, y1, y2, y3, y4⟩ : EAt w18 g 0 b0 := by
     obtain ⟨g', o, e, hc⟩ := HB.out 0 b0 hb0
     injection e with e
     injection e with e1 e2
     subst e1 e2
     simpa using hc
    have Hb0 := Lib.hid (List.mem_of_getElem? hb0)
    have k0 : (0 : Int) < (k : Int) + 1 := by omega
    clear hb0
    have hsrc := Src.newRow (P := Tryz.prog) (size := 5) (tx := 22) (ty := 30) w18 Tryz.underlying22 1 1 [.int .i64 b0.key.time, .int .i64 b0.key.source, .int .i64 b0.key.seq, .int .i64 b0.to, .int .i64 b0.value] rfl (by simp [Value.oneCell'])
    have Hsrc := Lib.hid hsrc
    have Hrow18 := Lib.hid (HBR.out.alloc (.cells [Value.int .i64 b0.key.time, .int .i64 b0.key.source, .int .i64 b0.key.seq, .int .i64 b0.to, .int .i64 b0.value].toArray 30))
    have hN18 : w16.heap.size ≤ w18.heap.size := by have := Hg.out; omega
    clear hsrc
    refine restart ?_
    go_wp2_with (at_builtin; refine wpList_append_k rfl _ _ 22 22 rfl w16.heap.size 30 i0 (.agg #[.int .i64 0, .int .i64 0, .int .i64 0, .int .i64 0, .int .i64 0]) 5 40 Tryz.underlying22 hi hz0 hz1 hz2 rfl (by decide) (.slice (some ⟨g, 0, none⟩) (k + 1) bc) (k + 1) _ rfl Hrow18.out (.slice (some ⟨w18.heap.size, 0, none⟩) 1 1) 1 _ rfl Hsrc.out (by unfold maxLen; omega) (by omega) (by simp; omega) ?_; intro v' w19 hown' hgrow hdr hob; refine unstop ?_)
    have hfg : Fr0 (fun i => (Value.slice (some ⟨g, 0, none⟩) (k + 1) bc).ownBlock = some i) w18 w19 := ((Fr0.refl _ w18).alloc _).grown hgrow (fun i hi _ => hi)
    have hl6 : flatEv ((S ++ [lastE]) ++ [b0]) = flatEv (S ++ [lastE]) ++ [Value.int .i64 b0.key.time, .int .i64 b0.key.source, .int .i64 b0.key.seq, .int .i64 b0.to, .int .i64 b0.value] := by rw [flatEv_append, flatEv_single]; rfl
    rw [← hl6] at hown'
    obtain ⟨g3, bd, rfl⟩ := ownsRow_k_succ hown'
    have HBX := Lib.hid (EsIn.of_own' hown')
    have hbd := own_cap hown' rfl
    have HBXl := Lib.hid (show ((S ++ [lastE]) ++ [b0]).length = k + 1 + 1 by rw [List.length_append, Hbl.out]; rfl)
    have HOD := Lib.hid (HOD.out.fr0 hfg (fun g' o s e h => by have := HODb.out g' o s e; have h : g = g' := Option.some.inj h; have := Hg.out; omega))
    have F := Lib.hid (F.out.trans' hfg (fun j hj hs => by have hs : g = j := Option.some.inj hs; have := Hg.out; have := Sw16.out; omega))
    have HBad := Lib.hid (bad2 (c := 21) Hb0.out)
    clear hgrow hdr hob hown' hl6 hfg Hrow18 Hsrc
    refine restart ?_
    go_wp2_with fail
    have HP := Play_told (w := w19) (c := 21) (n := k + 1 + 1) (cap := bd) (m := M1 + 1 + 1) (ca := odc) (playC_wrong HBad.out) HBX.out HBXl.out (by omega) hbd HOD.out HODl.out (by omega) (fun x hx => (HkO.out x hx).1)
    refine HP.mono ?_
    clear HP
    rintro e w20 ⟨vb2, vd2, ub2, ud2, ys2, rfl, _, _, _, _, _, hf⟩
    simp only [List.length_nil]
    have HBX := Lib.hid (HBX.out.later hf)
    have F := Lib.hid (F.out.trans hf)
    clear hf
    go_wp2_with fail
    have HD := Do_any (w := w20) (c := 21) (n := k + 1 + 1) (cap := bd) ((S ++ [lastE]) ++ [b0]) ⟨5, zeroE, 0⟩ HBX.out HBXl.out (by omega) hbd ⟨by decide, by decide⟩
    unfold EndD actCV doT at HD
    rw [playC_wrong HBad.out] at HD
    refine HD.mono ?_
    clear HD
    rintro e w21 ⟨nv, z, rfl, hnv, hzt, hzr, _, hf⟩
    have hnv : w21.ownsRow w20.heap.size 30 5 nv 0 (flatEv []) := hnv
    obtain ⟨na, nc, rfl, _, _⟩ := EsIn.of_own hnv
    obtain ⟨ze, zsa, zsn, zsc, zev⟩ := z
    have hev : zev = [] := congrArg Tl.evs hzt
    have hsn : zsn = 0 := by
     obtain ⟨p, cp, e1, _, _⟩ := EsIn.of_own hzr
     unfold Td.v at e1
     injection e1 with f1 f2 f3
     simp only [hev, List.length_nil] at f2
     exact f2
    subst hsn
    have HBX := Lib.hid (HBX.out.later hf)
    have F := Lib.hid (F.out.trans hf)
    clear hf hnv hzt hzr hev
    unfold Td.val
    simp only [List.length_nil]
    obtain ⟨tb, htb⟩ : ∃ b, w21.heap.size = b := ⟨_, rfl⟩
    obtain ⟨W22, hW22⟩ : ∃ V, w21.alloc (.cells #[.int .i64 ze, .slice zsa 0 zsc] 56) = V := ⟨_, rfl⟩
    have f22 : Fr0 none' w21 W22 := by rw [← hW22]; exact (Fr0.refl _ _).alloc _
    have b22 : W22.heap[tb]? = some (.cells #[.int .i64 ze, .slice zsa 0 zsc] 56 (0, 0)) := by rw [← hW22, ← htb]; exact World.alloc_heap_new _ _
    have HB22 := Lib.hid b22
    have HBX := Lib.hid (HBX.out.later f22)
    have F := Lib.hid (F.out.trans f22)
    have HR := Lib.hid (CRight_any (w := W22) (c := 21) (n := k + 1 + 1) (cap := bd) ((S ++ [lastE]) ++ [b0]) HBX.out HBXl.out (by omega) hbd)
    clear f22 b22
    go_wp2_with fail
    clear hW22 htb
    refine HR.out.mono ?_
    clear HR
    rintro e w23 ⟨b, rfl, hb, hf⟩
    obtain rfl : b = false := by
     cases b with
     | false => rfl
     | true => exact absurd (hb.1 rfl) HBad.out
    have b23 := (hf.block tb (Array.getElem?_eq_some_iff.1 HB22.out).1 id).trans HB22.out
    have t0 := cells_in b23 0
    have t1 := cells_in b23 1
    simp at t0 t1
    have F := Lib.hid (F.out.trans hf)
    clear hf hb b23
    go_wp2
    go_ret
    exact ⟨rfl, F.out⟩
   ·skip
    have hsrc := Src.newRow (P := Tryz.prog) (size := 5) (tx := 22) (ty := 30) w18 Tryz.underlying22 1 1 [.int .i64 100, .int .i64 16, .int .i64 99, .int .i64 1, .int .i64 0] rfl (by simp [Value.oneCell'])
    have Hsrc := Lib.hid hsrc
    have Hrow18 := Lib.hid (HBR.out.alloc (.cells [Value.int .i64 100, .int .i64 16, .int .i64 99, .int .i64 1, .int .i64 0].toArray 30))
    have hN18 : w16.heap.size ≤ w18.heap.size := by have := Hg.out; omega
    clear hsrc
    refine restart ?_
    go_wp2_with (at_builtin; refine wpList_append_k rfl _ _ 22 22 rfl w16.heap.size 30 i0 (.agg #[.int .i64 0, .int .i64 0, .int .i64 0, .int .i64 0, .int .i64 0]) 5 40 Tryz.underlying22 hi hz0 hz1 hz2 rfl (by decide) (.slice (some ⟨g, 0, none⟩) (k + 1) bc) (k + 1) _ rfl Hrow18.out (.slice (some ⟨w18.heap.size, 0, none⟩) 1 1) 1 _ rfl Hsrc.out (by unfold maxLen; omega) (by omega) (by simp; omega) ?_; intro v' w19 hown' hgrow hdr hob; refine unstop ?_)
    have hfg : Fr0 (fun i => (Value.slice (some ⟨g, 0, none⟩) (k + 1) bc).ownBlock = some i) w18 w19 := ((Fr0.refl _ w18).alloc _).grown hgrow (fun i hi _ => hi)
    have hl6 : flatEv ((S ++ [lastE]) ++ [(⟨⟨100, 16, 99⟩, 1, 0⟩ : Ev)]) = flatEv (S ++ [lastE]) ++ [Value.int .i64 100, .int .i64 16, .int .i64 99, .int .i64 1, .int .i64 0] := by rw [flatEv_append, flatEv_single]; rfl
    rw [← hl6] at hown'
    obtain ⟨g3, bd, rfl⟩ := ownsRow_k_succ hown'
    have HBX := Lib.hid (EsIn.of_own' hown')
    have hbd := own_cap hown' rfl
    have HBXl := Lib.hid (show ((S ++ [lastE]) ++ [(⟨⟨100, 16, 99⟩, 1, 0⟩ : Ev)]).length = k + 1 + 1 by rw [List.length_append, Hbl.out]; rfl)
    have HOD := Lib.hid (HOD.out.fr0 hfg (fun g' o s e h => by have := HODb.out g' o s e; have h : g = g' := Option.some.inj h; have := Hg.out; omega))
    have F := Lib.hid (F.out.trans' hfg (fun j hj hs => by have hs : g = j := Option.some.inj hs; have := Hg.out; have := Sw16.out; omega))
    have HBad := Lib.hid (bad3 (S := S) (c := 21))
    clear hgrow hdr hob hown' hl6 hfg Hrow18 Hsrc
    refine restart ?_
    go_wp2_with fail
    have HP := Play_told (w := w19) (c := 21) (n := k + 1 + 1) (cap := bd) (m := M1 + 1 + 1) (ca := odc) (playC_wrong HBad.out) HBX.out HBXl.out (by omega) hbd HOD.out HODl.out (by omega) (fun x hx => (HkO.out x hx).1)
    refine HP.mono ?_
    clear HP
    rintro e w20 ⟨vb2, vd2, ub2, ud2, ys2, rfl, _, _, _, _, _, hf⟩
    simp only [List.length_nil]
    have HBX := Lib.hid (HBX.out.later hf)
    have F := Lib.hid (F.out.trans hf)
    clear hf
    go_wp2_with fail
    have HD := Do_any (w := w20) (c := 21) (n := k + 1 + 1) (cap := bd) ((S ++ [lastE]) ++ [(⟨⟨100, 16, 99⟩, 1, 0⟩ : Ev)]) ⟨5, zeroE, 0⟩ HBX.out HBXl.out (by omega) hbd ⟨by decide, by decide⟩
    unfold EndD actCV doT at HD
    rw [playC_wrong HBad.out] at HD
    refine HD.mono ?_
    clear HD
    rintro e w21 ⟨nv, z, rfl, hnv, hzt, hzr, _, hf⟩
    have hnv : w21.ownsRow w20.heap.size 30 5 nv 0 (flatEv []) := hnv
    obtain ⟨na, nc, rfl, _, _⟩ := EsIn.of_own hnv
    obtain ⟨ze, zsa, zsn, zsc, zev⟩ := z
    have hev : zev = [] := congrArg Tl.evs hzt
    have hsn : zsn = 0 := by
     obtain ⟨p, cp, e1, _, _⟩ := EsIn.of_own hzr
     unfold Td.v at e1
     injection e1 with f1 f2 f3
     simp only [hev, List.length_nil] at f2
     exact f2
    subst hsn
    have HBX := Lib.hid (HBX.out.later hf)
    have F := Lib.hid (F.out.trans hf)
    clear hf hnv hzt hzr hev
    unfold Td.val
    simp only [List.length_nil]
    obtain ⟨tb, htb⟩ : ∃ b, w21.heap.size = b := ⟨_, rfl⟩
    obtain ⟨W22, hW22⟩ : ∃ V, w21.alloc (.cells #[.int .i64 ze, .slice zsa 0 zsc] 56) = V := ⟨_, rfl⟩
    have f22 : Fr0 none' w21 W22 := by rw [← hW22]; exact (Fr0.refl _ _).alloc _
    have b22 : W22.heap[tb]? = some (.cells #[.int .i64 ze, .slice zsa 0 zsc] 56 (0, 0)) := by rw [← hW22, ← htb]; exact World.alloc_heap_new _ _
    have HB22 := Lib.hid b22
    have HBX := Lib.hid (HBX.out.later f22)
    have F := Lib.hid (F.out.trans f22)
    have HR := Lib.hid (CRight_any (w := W22) (c := 21) (n := k + 1 + 1) (cap := bd) ((S ++ [lastE]) ++ [(⟨⟨100, 16, 99⟩, 1, 0⟩ : Ev)]) HBX.out HBXl.out (by omega) hbd)
    clear f22 b22
    go_wp2_with fail
    clear hW22 htb
    refine HR.out.mono ?_
    clear HR
    rintro e w23 ⟨b, rfl, hb, hf⟩
    obtain rfl : b = false := by
     cases b with
     | false => rfl
     | true => exact absurd (hb.1 rfl) HBad.out
    have b23 := (hf.block tb (Array.getElem?_eq_some_iff.1 HB22.out).1 id).trans HB22.out
    have t0 := cells_in b23 0
    have t1 := cells_in b23 1
    simp at t0 t1
    have F := Lib.hid (F.out.trans hf)
    clear hf hb b23
    go_wp2
    go_ret
    exact ⟨rfl, F.out⟩
   ·obtain ⟨tv, htv⟩ : ∃ t, min n (k : Int) = t := ⟨_, rfl⟩
    have HBad := Lib.hid (bad4 (S := S) (c := tv) (by rw [HSl.out]; omega) lastE)
    have HBX := HB
    have HBXl := Hbl
    refine restart ?_
    go_wp2_with fail
    clear htv
    have HP := Play_told (w := w18) (c := tv) (n := k + 1) (cap := bc) (m := M1 + 1 + 1) (ca := odc) (playC_wrong HBad.out) HBX.out HBXl.out (by omega) hbc HOD.out HODl.out (by omega) (fun x hx => (HkO.out x hx).1)
    refine HP.mono ?_
    clear HP
    rintro e w20 ⟨vb2, vd2, ub2, ud2, ys2, rfl, _, _, _, _, _, hf⟩
    simp only [List.length_nil]
    have HBX := Lib.hid (HBX.out.later hf)
    have F := Lib.hid (F.out.trans hf)
    clear hf
    go_wp2_with fail
    have HD := Do_any (w := w20) (c := tv) (n := k + 1) (cap := bc) (S ++ [lastE]) ⟨5, zeroE, 0⟩ HBX.out HBXl.out (by omega) hbc ⟨by decide, by decide⟩
    unfold EndD actCV doT at HD
    rw [playC_wrong HBad.out] at HD
    refine HD.mono ?_
    clear HD
    rintro e w21 ⟨nv, z, rfl, hnv, hzt, hzr, _, hf⟩
    have hnv : w21.ownsRow w20.heap.size 30 5 nv 0 (flatEv []) := hnv
    obtain ⟨na, nc, rfl, _, _⟩ := EsIn.of_own hnv
    obtain ⟨ze, zsa, zsn, zsc, zev⟩ := z
    have hev : zev = [] := congrArg Tl.evs hzt
    have hsn : zsn = 0 := by
     obtain ⟨p, cp, e1, _, _⟩ := EsIn.of_own hzr
     unfold Td.v at e1
     injection e1 with f1 f2 f3
     simp only [hev, List.length_nil] at f2
     exact f2
    subst hsn
    have HBX := Lib.hid (HBX.out.later hf)
    have F := Lib.hid (F.out.trans hf)
    clear hf hnv hzt hzr hev
    unfold Td.val
    simp only [List.length_nil]
    obtain ⟨tb, htb⟩ : ∃ b, w21.heap.size = b := ⟨_, rfl⟩
    obtain ⟨W22, hW22⟩ : ∃ V, w21.alloc (.cells #[.int .i64 ze, .slice zsa 0 zsc] 56) = V := ⟨_, rfl⟩
    have f22 : Fr0 none' w21 W22 := by rw [← hW22]; exact (Fr0.refl _ _).alloc _
    have b22 : W22.heap[tb]? = some (.cells #[.int .i64 ze, .slice zsa 0 zsc] 56 (0, 0)) := by rw [← hW22, ← htb]; exact World.alloc_heap_new _ _
    have HB22 := Lib.hid b22
    have HBX := Lib.hid (HBX.out.later f22)
    have F := Lib.hid (F.out.trans f22)
    have HR := Lib.hid (CRight_any (w := W22) (c := tv) (n := k + 1) (cap := bc) (S ++ [lastE]) HBX.out HBXl.out (by omega) hbc)
    clear f22 b22
    go_wp2_with fail
    clear hW22 htb
    refine HR.out.mono ?_
    clear HR
    rintro e w23 ⟨b, rfl, hb, hf⟩
    obtain rfl : b = false := by
     cases b with
     | false => rfl
     | true => exact absurd (hb.1 rfl) HBad.out
    have b23 := (hf.block tb (Array.getElem?_eq_some_iff.1 HB22.out).1 id).trans HB22.out
    have t0 := cells_in b23 0
    have t1 := cells_in b23 1
    simp at t0 t1
    have F := Lib.hid (F.out.trans hf)
    clear hf hb b23
    go_wp2
    go_ret
    exact ⟨rfl, F.out⟩
   ·obtain ⟨tv, htv⟩ : ∃ t, max n 257 = t := ⟨_, rfl⟩
    have HBad := Lib.hid (bad5 (S := S ++ [lastE]) (c := tv) (by omega))
    have HBX := HB
    have HBXl := Hbl
    refine restart ?_
    go_wp2_with fail
    clear htv
    have HP := Play_told (w := w18) (c := tv) (n := k + 1) (cap := bc) (m := M1 + 1 + 1) (ca := odc) (playC_wrong HBad.out) HBX.out HBXl.out (by omega) hbc HOD.out HODl.out (by omega) (fun x hx => (HkO.out x hx).1)
    refine HP.mono ?_
    clear HP
    rintro e w20 ⟨vb2, vd2, ub2, ud2, ys2, rfl, _, _, _, _, _, hf⟩
    simp only [List.length_nil]
    have HBX := Lib.hid (HBX.out.later hf)
    have F := Lib.hid (F.out.trans hf)
    clear hf
    go_wp2_with fail
    have HD := Do_any (w := w20) (c := tv) (n := k + 1) (cap := bc) (S ++ [lastE]) ⟨5, zeroE, 0⟩ HBX.out HBXl.out (by omega) hbc ⟨by decide, by decide⟩
    unfold EndD actCV doT at HD
    rw [playC_wrong HBad.out] at HD
    refine HD.mono ?_
    clear HD
    rintro e w21 ⟨nv, z, rfl, hnv, hzt, hzr, _, hf⟩
    have hnv : w21.ownsRow w20.heap.size 30 5 nv 0 (flatEv []) := hnv
    obtain ⟨na, nc, rfl, _, _⟩ := EsIn.of_own hnv
    obtain ⟨ze, zsa, zsn, zsc, zev⟩ := z
    have hev : zev = [] := congrArg Tl.evs hzt
    have hsn : zsn = 0 := by
     obtain ⟨p, cp, e1, _, _⟩ := EsIn.of_own hzr
     unfold Td.v at e1
     injection e1 with f1 f2 f3
     simp only [hev, List.length_nil] at f2
     exact f2
    subst hsn
    have HBX := Lib.hid (HBX.out.later hf)
    have F := Lib.hid (F.out.trans hf)
    clear hf hnv hzt hzr hev
    unfold Td.val
    simp only [List.length_nil]
    obtain ⟨tb, htb⟩ : ∃ b, w21.heap.size = b := ⟨_, rfl⟩
    obtain ⟨W22, hW22⟩ : ∃ V, w21.alloc (.cells #[.int .i64 ze, .slice zsa 0 zsc] 56) = V := ⟨_, rfl⟩
    have f22 : Fr0 none' w21 W22 := by rw [← hW22]; exact (Fr0.refl _ _).alloc _
    have b22 : W22.heap[tb]? = some (.cells #[.int .i64 ze, .slice zsa 0 zsc] 56 (0, 0)) := by rw [← hW22, ← htb]; exact World.alloc_heap_new _ _
    have HB22 := Lib.hid b22
    have HBX := Lib.hid (HBX.out.later f22)
    have F := Lib.hid (F.out.trans f22)
    have HR := Lib.hid (CRight_any (w := W22) (c := tv) (n := k + 1) (cap := bc) (S ++ [lastE]) HBX.out HBXl.out (by omega) hbc)
    clear f22 b22
    go_wp2_with fail
    clear hW22 htb
    refine HR.out.mono ?_
    clear HR
    rintro e w23 ⟨b, rfl, hb, hf⟩
    obtain rfl : b = false := by
     cases b with
     | false => rfl
     | true => exact absurd (hb.1 rfl) HBad.out
    have b23 := (hf.block tb (Array.getElem?_eq_some_iff.1 HB22.out).1 id).trans HB22.out
    have t0 := cells_in b23 0
    have t1 := cells_in b23 1
    simp at t0 t1
    have F := Lib.hid (F.out.trans hf)
    clear hf hb b23
    go_wp2
    go_ret
    exact ⟨rfl, F.out⟩
end Go.Proofs.YtieeloealklkgaaGreat

/-
  A slice of small acts among the arguments.
-/
namespace Go.Proofs.YtieeloealklkgaaGreat
open Go.ChangeShapes Go.WideShapes Go.ChangeAt Go.RowKit Go.Deep Go.Joins

set_option maxRecDepth 100000 in
theorem sm5_field {H : Type} {enc : TypeId × Value → H} {w : World} {n : Nat} {v0 v1 v2 v3 v4 : Value} {y : DataW H × List MemPlace} (h : DataW.trod enc Tryz.prog w 0 (fun _ => true) true n 97 [v0, v1, v2, v3, v4] = some y) : ∃ x : Sm5, x.ok ∧ v0 = .int .u8 x.t ∧ v1 = .int .u8 x.s ∧ v2 = .int .u8 x.q ∧ v3 = .int .u8 x.o ∧ v4 = .int .u8 x.l := by
 obtain ⟨ys, k, _, _, _, hyl, hfl⟩ := DataW.trod_struct Tryz.underlying97 h
 have hone : Tryz.prog.cellsOf 5 = 1 := by kernel_rfl
 have f0 : DataW.trod enc Tryz.prog w 0 (fun _ => true) true k 5 (([v0, v1, v2, v3, v4].drop 0).take (Tryz.prog.cellsOf 5)) = ys[0]? := hfl 0 _ rfl
 have f1 : DataW.trod enc Tryz.prog w 0 (fun _ => true) true k 5 (([v0, v1, v2, v3, v4].drop 1).take (Tryz.prog.cellsOf 5)) = ys[1]? := hfl 1 _ rfl
 have f2 : DataW.trod enc Tryz.prog w 0 (fun _ => true) true k 5 (([v0, v1, v2, v3, v4].drop 2).take (Tryz.prog.cellsOf 5)) = ys[2]? := hfl 2 _ rfl
 have f3 : DataW.trod enc Tryz.prog w 0 (fun _ => true) true k 5 (([v0, v1, v2, v3, v4].drop 3).take (Tryz.prog.cellsOf 5)) = ys[3]? := hfl 3 _ rfl
 have f4 : DataW.trod enc Tryz.prog w 0 (fun _ => true) true k 5 (([v0, v1, v2, v3, v4].drop 4).take (Tryz.prog.cellsOf 5)) = ys[4]? := hfl 4 _ rfl
 rw [hone] at f0 f1 f2 f3 f4
 have yl : ys.length = 5 := hyl
 have t0 : DataW.trod enc Tryz.prog w 0 (fun _ => true) true k 5 [v0] = some (ys[0]'(by omega)) := f0.trans (List.getElem?_eq_getElem _)
 have t1 : DataW.trod enc Tryz.prog w 0 (fun _ => true) true k 5 [v1] = some (ys[1]'(by omega)) := f1.trans (List.getElem?_eq_getElem _)
 have t2 : DataW.trod enc Tryz.prog w 0 (fun _ => true) true k 5 [v2] = some (ys[2]'(by omega)) := f2.trans (List.getElem?_eq_getElem _)
 have t3 : DataW.trod enc Tryz.prog w 0 (fun _ => true) true k 5 [v3] = some (ys[3]'(by omega)) := f3.trans (List.getElem?_eq_getElem _)
 have t4 : DataW.trod enc Tryz.prog w 0 (fun _ => true) true k 5 [v4] = some (ys[4]'(by omega)) := f4.trans (List.getElem?_eq_getElem _)
 obtain ⟨a0, rfl, l0, m0⟩ := smallC t0
 obtain ⟨a1, rfl, l1, m1⟩ := smallC t1
 obtain ⟨a2, rfl, l2, m2⟩ := smallC t2
 obtain ⟨a3, rfl, l3, m3⟩ := smallC t3
 obtain ⟨a4, rfl, l4, m4⟩ := smallC t4
 exact ⟨⟨a0, a1, a2, a3, a4⟩, ⟨⟨l0, m0⟩, ⟨l1, m1⟩, ⟨l2, m2⟩, ⟨l3, m3⟩, l4, m4⟩, rfl, rfl, rfl, rfl, rfl⟩
set_option maxRecDepth 100000 in
/-- A slice of small acts, opened. -/
theorem smcs_arg {base : Nat} {H : Type} {enc : TypeId × Value → H} {W : World} {v : Value} {d : DataW H} {ps : List MemPlace}
  (hval : Value.okWide Tryz.prog W .any base 48 v) (h : DataW.Trod enc Tryz.prog W 0 (fun _ => true) true 48 v d ps) : ∃ a n cap xs, v = .slice a n cap ∧ xs.length = n ∧ n ≤ cap ∧ SmcsIn W a xs := by
 obtain ⟨A, n, cap, rfl⟩ := okWide_slice Tryz.underlying48 hval
 obtain ⟨fuel, hf⟩ := h
 rcases open_slice Tryz.underlying48 hf with ⟨hcs, _⟩ | ⟨a, len, cap', m, _, D, Pl, hcs, _, hl, hm, hz, _, hi⟩
 ·simp [Value.cells] at hcs
  obtain ⟨rfl, rfl, rfl⟩ := hcs
  exact ⟨none, 0, 0, [], rfl, rfl, Nat.le_refl _, fun j x hj => by simp at hj⟩
 ·simp [Value.cells] at hcs
  obtain ⟨rfl, rfl, rfl⟩ := hcs
  have hmn : n ≤ m := by rw [hz]; split <;> omega
  have key : ∀ i, i < n → ∃ x : Smc, x.ok ∧ ∃ g o, a = ⟨g, o, none⟩ ∧ W.cell? ⟨g, o + i * 6, none⟩ = some (.int .u8 x.kind) ∧ W.cell? ⟨g, o + i * 6 + 1, none⟩ = some (.int .u8 x.x.t) ∧ W.cell? ⟨g, o + i * 6 + 2, none⟩ = some (.int .u8 x.x.s) ∧ W.cell? ⟨g, o + i * 6 + 3, none⟩ = some (.int .u8 x.x.q) ∧ W.cell? ⟨g, o + i * 6 + 4, none⟩ = some (.int .u8 x.x.o) ∧ W.cell? ⟨g, o + i * 6 + 5, none⟩ = some (.int .u8 x.x.l) := fun i hin => by
   obtain ⟨cs, hc, ht⟩ := hi i (by omega)
   rw [show Tryz.prog.cellsOf 99 = 6 by kernel_rfl] at hc
   obtain ⟨ys, k, _, _, _, hyl, hfl⟩ := DataW.trod_struct Tryz.underlying99 ht
   obtain ⟨_, hcl, hat⟩ := World.cells?_some hc
   have hone : Tryz.prog.cellsOf 5 = 1 := by kernel_rfl
   have hfive : Tryz.prog.cellsOf 97 = 5 := by kernel_rfl
   match cs, hcl with
   | [v0, v1, v2, v3, v4, v5], _ =>
   have c0 := hat 0 (by omega)
   have c1 := hat 1 (by omega)
   have c2 := hat 2 (by omega)
   have c3 := hat 3 (by omega)
   have c4 := hat 4 (by omega)
   have c5 := hat 5 (by omega)
   have f0 : DataW.trod enc Tryz.prog W 0 (fun _ => true) true k 5 (([v0, v1, v2, v3, v4, v5].drop 0).take (Tryz.prog.cellsOf 5)) = ys[0]? := hfl 0 _ rfl
   have f1 : DataW.trod enc Tryz.prog W 0 (fun _ => true) true k 97 (([v0, v1, v2, v3, v4, v5].drop 1).take (Tryz.prog.cellsOf 97)) = ys[1]? := hfl 1 _ rfl
   rw [hone] at f0
   rw [hfive] at f1
   have yl : ys.length = 2 := hyl
   have t0 : DataW.trod enc Tryz.prog W 0 (fun _ => true) true k 5 [v0] = some (ys[0]'(by omega)) := f0.trans (List.getElem?_eq_getElem _)
   have t1 : DataW.trod enc Tryz.prog W 0 (fun _ => true) true k 97 [v1, v2, v3, v4, v5] = some (ys[1]'(by omega)) := f1.trans (List.getElem?_eq_getElem _)
   obtain ⟨a0, rfl, l0, m0⟩ := smallC t0
   obtain ⟨x, hx, rfl, rfl, rfl, rfl, rfl⟩ := sm5_field t1
   obtain ⟨cs', hc', _⟩ := hi 0 (by omega)
   rw [show Tryz.prog.cellsOf 99 = 6 by kernel_rfl] at hc'
   obtain ⟨_, hcl', hat'⟩ := World.cells?_some hc'
   have z0 := hat' 0 (by omega)
   rw [List.getElem?_eq_getElem (by omega)] at z0
   obtain ⟨b, off, spot⟩ := a
   have hspot : spot = none := by simpa [Addr.add] using World.cell?_spot z0
   subst hspot
   rw [Addr.add_mid, Addr.add_mid] at c0 c1 c2 c3 c4 c5
   exact ⟨⟨a0, x⟩, ⟨⟨l0, m0⟩, hx⟩, b, off, rfl, c0, c1, c2, c3, c4, c5⟩
  obtain ⟨xs, hxl, hx⟩ := listC n key
  refine ⟨some a, n, cap, xs, rfl, hxl, by simpa using hl, fun j x hj => ?_⟩
  obtain ⟨hok, g, o, rfl, q0, q1, q2, q3, q4, q5⟩ := hx j x hj
  exact ⟨hok, g, o, rfl, q0, q1, q2, q3, q4, q5⟩
end Go.Proofs.YtieeloealklkgaaGreat

/-
  A slice of small events (layer 11) among the arguments.
-/
namespace Go.Proofs.YtieeloealklkgaaGreat
open Go.ChangeShapes Go.WideShapes Go.ChangeAt Go.RowKit Go.Deep Go.Joins

set_option maxRecDepth 100000 in
/-- A slice of small events, opened. -/
theorem sm5s_arg {base : Nat} {H : Type} {enc : TypeId × Value → H} {W : World} {v : Value} {d : DataW H} {ps : List MemPlace}
  (hval : Value.okWide Tryz.prog W .any base 63 v) (h : DataW.Trod enc Tryz.prog W 0 (fun _ => true) true 63 v d ps) : ∃ a n cap xs, v = .slice a n cap ∧ xs.length = n ∧ n ≤ cap ∧ Sm5sIn W a xs := by
 obtain ⟨A, n, cap, rfl⟩ := okWide_slice Tryz.underlying63 hval
 obtain ⟨fuel, hf⟩ := h
 rcases open_slice Tryz.underlying63 hf with ⟨hcs, _⟩ | ⟨a, len, cap', m, _, D, Pl, hcs, _, hl, hm, hz, _, hi⟩
 ·simp [Value.cells] at hcs
  obtain ⟨rfl, rfl, rfl⟩ := hcs
  exact ⟨none, 0, 0, [], rfl, rfl, Nat.le_refl _, fun j x hj => by simp at hj⟩
 ·simp [Value.cells] at hcs
  obtain ⟨rfl, rfl, rfl⟩ := hcs
  have hmn : n ≤ m := by rw [hz]; split <;> omega
  have key : ∀ i, i < n → ∃ x : Sm5, x.ok ∧ ∃ g o, a = ⟨g, o, none⟩ ∧ W.cell? ⟨g, o + i * 5, none⟩ = some (.int .u8 x.t) ∧ W.cell? ⟨g, o + i * 5 + 1, none⟩ = some (.int .u8 x.s) ∧ W.cell? ⟨g, o + i * 5 + 2, none⟩ = some (.int .u8 x.q) ∧ W.cell? ⟨g, o + i * 5 + 3, none⟩ = some (.int .u8 x.o) ∧ W.cell? ⟨g, o + i * 5 + 4, none⟩ = some (.int .u8 x.l) := fun i hin => by
   obtain ⟨cs, hc, ht⟩ := hi i (by omega)
   rw [show Tryz.prog.cellsOf 97 = 5 by kernel_rfl] at hc
   obtain ⟨_, hcl, hat⟩ := World.cells?_some hc
   match cs, hcl with
   | [v0, v1, v2, v3, v4], _ =>
   have c0 := hat 0 (by omega)
   have c1 := hat 1 (by omega)
   have c2 := hat 2 (by omega)
   have c3 := hat 3 (by omega)
   have c4 := hat 4 (by omega)
   obtain ⟨x, hx, rfl, rfl, rfl, rfl, rfl⟩ := sm5_field ht
   obtain ⟨cs', hc', _⟩ := hi 0 (by omega)
   rw [show Tryz.prog.cellsOf 97 = 5 by kernel_rfl] at hc'
   obtain ⟨_, hcl', hat'⟩ := World.cells?_some hc'
   have z0 := hat' 0 (by omega)
   rw [List.getElem?_eq_getElem (by omega)] at z0
   obtain ⟨b, off, spot⟩ := a
   have hspot : spot = none := by simpa [Addr.add] using World.cell?_spot z0
   subst hspot
   rw [Addr.add_mid, Addr.add_mid] at c0 c1 c2 c3 c4
   exact ⟨x, hx, b, off, rfl, c0, c1, c2, c3, c4⟩
  obtain ⟨xs, hxl, hx⟩ := listC n key
  refine ⟨some a, n, cap, xs, rfl, hxl, by simpa using hl, fun j x hj => ?_⟩
  obtain ⟨hok, g, o, rfl, q0, q1, q2, q3, q4⟩ := hx j x hj
  exact ⟨hok, g, o, rfl, q0, q1, q2, q3, q4⟩
end Go.Proofs.YtieeloealklkgaaGreat

namespace Go.Proofs.YtieeloealklkgaaGreat.calendarWrong
open Go.ChangeShapes Go.WideShapes Go.ChangeAt Go.RowKit Go.Proofs.YtieeloealklkgaaGreat

set_option maxRecDepth 100000 in
theorem lifted (os : Os) (started : os.Started) (H : Type) (enc : TypeId × Value → H) :
  ReturnsInHanded {} Tryz.checked os 6 .any (Rows.calendarWrongSpec.pre6 enc Tryz.prog Tryz.f6 Rows.calendarWrongRow.domain false) (Rows.calendarWrongSpec.post enc Tryz.prog Tryz.f6 false true false false) := by
 refine returnsInHanded_of_change (C := Tryz.checked) knobC started (by kernel_rfl) Tryz.func6
  (ChangeSpec.witness6 (enc := enc) (C := Tryz.checked) false ⟨#[], #[.slice none 0 0, .slice none 0 0, .int .u8 0, .int .u8 0, .int .i64 0], []⟩ 8 (by kernel_rfl) (by kernel_rfl) (by kernel_rfl) (by kernel_rfl)) ?_
 intro W base args ds gs before hval0 hW hcnd _
 have hval : ∀ (j : Nat) t v, Tryz.f6.params[j]? = some t → args[j]? = some v → Value.okWide Tryz.prog W .any base t v := hval0
 have hW' := hW
 obtain ⟨p, q, hA0, hV, rfl, hfz, hnd⟩ := hW
 have hA : DataW.TrodAll enc Tryz.prog W 0 (fun _ => true) true Tryz.f6.params.toList args.toList ds p := hA0
 rw [Tryz.params6] at hA hval
 obtain ⟨v0, vs0, d0, ds0, p0, q0, hargs, rfl, rfl, h0, r0⟩ := trodAll_cons hA
 obtain ⟨v1, vs1, d1, ds1, p1, q1, rfl, rfl, rfl, h1, r1⟩ := trodAll_cons r0
 obtain ⟨v2, vs2, d2, ds2, p2, q2, rfl, rfl, rfl, h2, r2⟩ := trodAll_cons r1
 obtain ⟨v3, vs3, d3, ds3, p3, q3, rfl, rfl, rfl, h3, r3⟩ := trodAll_cons r2
 obtain ⟨v4, vs4, d4, ds4, p4, q4, rfl, rfl, rfl, h4, r4⟩ := trodAll_cons r3
 obtain ⟨rfl, rfl, rfl⟩ := trodAll_nil r4
 obtain rfl : args = #[v0, v1, v2, v3, v4] := by cases args; simp_all
 obtain ⟨rfl, rfl⟩ := trodVars_none hV
 clear hA0 hval0
 simp only [List.append_nil] at hW'
 have l0 : ∀ x ∈ p0, x.block < W.heap.size := fun x hx => hW'.lt x (by simp [hx])
 have t0 := fun W' (hb : Below W.heap.size W W') => Below.trod laidC (by kernel_rfl) (of_decide_eq_true (by kernel_rfl)) h0 hb l0
 have l1 : ∀ x ∈ p1, x.block < W.heap.size := fun x hx => hW'.lt x (by simp [hx])
 have t1 := fun W' (hb : Below W.heap.size W W') => Below.trod laidC (by kernel_rfl) (of_decide_eq_true (by kernel_rfl)) h1 hb l1
 have l2 : ∀ x ∈ p2, x.block < W.heap.size := fun x hx => hW'.lt x (by simp [hx])
 have t2 := fun W' (hb : Below W.heap.size W W') => Below.trod laidC (by kernel_rfl) (of_decide_eq_true (by kernel_rfl)) h2 hb l2
 have l3 : ∀ x ∈ p3, x.block < W.heap.size := fun x hx => hW'.lt x (by simp [hx])
 have t3 := fun W' (hb : Below W.heap.size W W') => Below.trod laidC (by kernel_rfl) (of_decide_eq_true (by kernel_rfl)) h3 hb l3
 have l4 : ∀ x ∈ p4, x.block < W.heap.size := fun x hx => hW'.lt x (by simp [hx])
 have t4 := fun W' (hb : Below W.heap.size W W') => Below.trod laidC (by kernel_rfl) (of_decide_eq_true (by kernel_rfl)) h4 hb l4
 obtain ⟨a0, n0, c0, xs0, rfl, hl0, hc0, hx0⟩ := sm5s_arg (hval 0 63 v0 rfl rfl) h0
 obtain ⟨a1, n1, c1, xs1, rfl, hl1, hc1, hx1⟩ := smcs_arg (hval 1 48 v1 rfl rfl) h1
 obtain ⟨a2, rfl, _, _, w2⟩ := open_int Tryz.underlying5 (hval 2 5 v2 rfl rfl) h2
 have b2 : 0 ≤ a2 ∧ a2 < 256 := by
  have := bounds_u8 w2
  omega
 obtain ⟨a3, rfl, _, _, w3⟩ := open_int Tryz.underlying5 (hval 3 5 v3 rfl rfl) h3
 have b3 : 0 ≤ a3 ∧ a3 < 256 := by
  have := bounds_u8 w3
  omega
 obtain ⟨a4, rfl, _, _, w4⟩ := open_int Tryz.underlying3 (hval 4 3 v4 rfl rfl) h4
 have b4 := bounds_i64 w4
 refine (CalendarWrong_any xs0 hx0 hl0 hc0 xs1 hx1 hl1 hc1 b2 b3 b4).mono fun e W' ⟨he, hf⟩ => ?_
 have hg : Below W.heap.size W W' := hf.below (Nat.le_refl _) (fun _ _ h => h)
 subst he
 exact ⟨_, rfl, post_belowC (pa := p0 ++ (p1 ++ (p2 ++ (p3 ++ (p4 ++ ([])))))) (pv := []) hW' (fun _ _ _ => (trodAll_cons_mk (shut_bool Tryz.underlying4 _) trodAll_mk0)) (trodAll_cons_mk (t0 _ hg) (trodAll_cons_mk (t1 _ hg) (trodAll_cons_mk (t2 _ hg) (trodAll_cons_mk (t3 _ hg) (trodAll_cons_mk (t4 _ hg) trodAll_mk0))))) (fun _ _ => rfl) hg⟩

theorem over : Rows.calendarWrongRow.holds Tryz.pinned (OpenSpec.ofChange Rows.calendarWrongSpec) :=
 OpenClaim.holds_of_wide 6 Tryz.f6 rfl rfl rfl rfl rfl rfl rfl ⟨rfl, rfl, rfl, rfl, rfl⟩ rfl rfl rfl rfl rfl (by kernel_rfl) Tryz.func6 (by kernel_rfl)
  (of_decide_eq_true (by kernel_rfl)) (by unfold Func.isWrapper; first | (rw [if_pos (by decide +kernel)]; kernel_rfl) | (rw [if_neg (by decide +kernel)]; exact ⟨rfl, rfl⟩))
  (fun os started H enc _ => lifted os started H enc)

theorem proved : Rows.CalendarWrongSaid := over
#print axioms proved
end Go.Proofs.YtieeloealklkgaaGreat.calendarWrong
