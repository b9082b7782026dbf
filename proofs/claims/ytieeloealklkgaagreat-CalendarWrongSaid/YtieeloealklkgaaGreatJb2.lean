/-
  Spaces: what each function of the package does, and what the laws make of it.
-/
import Derived.Test.YtieeloealklkgaaGreatJb1
import Derived.Handy
import Derived.Test.YtieeloealklkgaaGreatJa1
import Derived.Scope
import Derived.Control
import Derived.Maps.AppendAt
import Derived.Test.YtieeloealklkgaaGreatShelf
import Derived.Lib.OwnBridge
set_option linter.unusedSimpArgs false
set_option linter.unusedVariables false

/-
  calendar: do with a list.
-/
namespace Go.Proofs.YtieeloealklkgaaGreat
open Go Go.RowKit
attribute [local go_sem ↓] Go.wp_at_zero Go.wp_at_succ
attribute [local go_sem] Oper.semAt_some wide_fn wide_depth wide_fnR wide_depthR

def actCV (a : Ca) : Value := .agg #[.int .u8 a.kind, .int .i64 a.x.key.time, .int .i64 a.x.key.source, .int .i64 a.x.key.seq, .int .i64 a.x.to, .int .i64 a.x.value, .int .i64 a.time]
/-- What an act tells, and what it leaves. -/
def DoT (w : World) (ft : Nat → Prop) (t : Tl) (K : (Nat → Prop) → World → Prop) (e : Ending) (w' : World) : Prop :=
 ∃ v ft', e = .returned (.agg #[.int .i64 t.err, v]) ∧ w'.ownsRow w.heap.size 30 5 v t.evs.length (flatEv t.evs) ∧ K ft' w' ∧ (∀ k, ft' k → ft k ∨ w.heap.size ≤ k) ∧ (∀ g, v.ownBlock = some g → ¬ ft' g) ∧ Fr0 ft w w'
set_option maxRecDepth 100000 in
set_option maxHeartbeats 2000000 in
theorem do_list1 {w : World} {lb n : Nat} {E : List Ev} {ft : Nat → Prop} (h : LIs w lb n E ft) (x : Ev) (t : Int) :
  Calls Tryz.prog 70 #[.iface 105 (.pointer (some ⟨lb, 0, none⟩)), actCV ⟨1, x, t⟩] w (DoT w ft (doC n E ⟨1, x, t⟩).2 (fun ft' w' => LIs w' lb n (doC n E ⟨1, x, t⟩).1 ft')) := by
 have H := Lib.hid h
 clear h
 unfold actCV doC
 rw [if_pos rfl]
 obtain ⟨V1, hV1⟩ : ∃ V, w.alloc (.cells #[.int .u8 1, .int .i64 x.key.time, .int .i64 x.key.source, .int .i64 x.key.seq, .int .i64 x.to, .int .i64 x.value, .int .i64 t] 33) = V := ⟨_, rfl⟩
 have z1 : V1.heap.size = w.heap.size + 1 := by rw [← hV1, World.size_alloc]
 have f1 : Fr0 none' w V1 := by rw [← hV1]; exact (Fr0.refl _ _).alloc _
 have a1 : V1.heap[w.heap.size]? = some (.cells #[.int .u8 1, .int .i64 x.key.time, .int .i64 x.key.source, .int .i64 x.key.seq, .int .i64 x.to, .int .i64 x.value, .int .i64 t] 33 (0, 0)) := by rw [← hV1]; exact World.alloc_heap_new _ _
 obtain ⟨V2, hV2⟩ : ∃ V, V1.alloc (.cells #[.int .i64 0, .slice none 0 0] 56) = V := ⟨_, rfl⟩
 have f2 : Fr0 none' V1 V2 := by rw [← hV2]; exact (Fr0.refl _ _).alloc _
 have b2 : V2.heap[w.heap.size + 1]? = some (.cells #[.int .i64 0, .slice none 0 0] 56 (0, 0)) := by rw [← hV2, ← z1]; exact World.alloc_heap_new _ _
 have a2 := (f2.block w.heap.size (by omega) id).trans a1
 have Z2 := Lib.hid (show V2.heap.size = w.heap.size + 2 by rw [← hV2, World.size_alloc, z1])
 have F2 := Lib.hid (f1.trans f2)
 have B2 := Lib.hid b2
 have A2 := Lib.hid a2
 have H2 := Lib.hid (H.out.later F2.out)
 have HRB := Lib.hid (show ∀ k, ft k → k < w.heap.size from H.out.lt)
 clear f1 a1 f2 b2 a2 z1
 have HP := Lib.hid (H2.out.put x)
 obtain ⟨c, hc⟩ : ∃ c, (allV n E [x]).2 = c := ⟨_, rfl⟩
 rw [hc] at HP
 have Hc := Lib.hid hc
 clear hc
 unfold evV at HP
 subst hV2
 subst hV1
 go_enter Tryz.func70, Tryz.ntmps70
 go_wp2_with fail
 refine HP.out.mono ?_
 rintro e w3 ⟨rfl, ft', hl, hft, hf⟩
 have b3 := (hf.block (w.heap.size + 1) (Array.getElem?_eq_some_iff.1 B2.out).1 (fun hk => by have := HRB.out _ hk; omega)).trans B2.out
 have t0 := thaw_in b3 0
 have t1 := thaw_in b3 1
 have u0 := cells_in b3 0
 have u1 := cells_in b3 1
 simp at u0 u1
 have B3 := Lib.hid b3
 clear b3
 have HL := Lib.hid hl
 have HF := Lib.hid hf
 have HT := Lib.hid hft
 clear hl hf hft
 go_wp2_with fail
 have e6 : ((w3.setCell ⟨w.heap.size + 1, 0, none⟩ (.int .i64 c)).setCell ⟨w.heap.size + 1, 1, none⟩ (.slice none 0 0)).heap[w.heap.size + 1]? = some (.cells #[.int .i64 c, .slice none 0 0] 56 (0, 0)) := heap_set_cell (heap_set_cell B3.out _) _
 have f6 : Fr0 (fun k => k = w.heap.size + 1) w3 ((w3.setCell ⟨w.heap.size + 1, 0, none⟩ (.int .i64 c)).setCell ⟨w.heap.size + 1, 1, none⟩ (.slice none 0 0)) := ((Fr0.refl (fun k => k = w.heap.size + 1) w3).setCell (fun _ => rfl) _).setCell (fun _ => rfl) _
 generalize (w3.setCell ⟨w.heap.size + 1, 0, none⟩ (.int .i64 c)).setCell ⟨w.heap.size + 1, 1, none⟩ (.slice none 0 0) = VV at e6 f6 ⊢
 have y0 := cells_in e6 0
 have y1 := cells_in e6 1
 simp at y0 y1
 have hne : ∀ k, ft' k → ¬ (k = w.heap.size + 1) := fun k hk e => by
  rcases HT.out k hk with h | h
  ·have := HRB.out k h; omega
  ·have := Z2.out; omega
 have hft9 : ∀ k, ft' k → ft k ∨ w.heap.size ≤ k := fun k hk => (HT.out k hk).imp id (fun h => by have := Z2.out; omega)
 have hfr9 : Fr0 ft w VV := ((F2.out.mono (S' := ft) (fun _ _ h => h.elim)).trans HF.out).trans' f6 (fun k hk e => by have e : k = w.heap.size + 1 := e; omega)
 exact bodyPost_ret (v := .agg #[.int .i64 c, .slice none 0 0]) (by simp [results, Tryz.results70, go_sem, y0, y1]) rfl ⟨.slice none 0 0, ft', by rw [Hc.out], World.ownsRow_nil _ _ _ _, HL.out.fr0 f6 hne, hft9, (fun g e => by cases e), hfr9⟩
set_option maxRecDepth 100000 in
set_option maxHeartbeats 2000000 in
theorem do_list2 {w : World} {lb n : Nat} {E : List Ev} {ft : Nat → Prop} (h : LIs w lb n E ft) (x : Ev) (t : Int) :
  Calls Tryz.prog 70 #[.iface 105 (.pointer (some ⟨lb, 0, none⟩)), actCV ⟨2, x, t⟩] w (DoT w ft (doC n E ⟨2, x, t⟩).2 (fun ft' w' => LIs w' lb n (doC n E ⟨2, x, t⟩).1 ft')) := by
 have H := Lib.hid h
 clear h
 have hdo : doC n E ⟨2, x, t⟩ = takeC E := by unfold doC; simp
 rw [hdo]
 clear hdo
 unfold actCV
 obtain ⟨V1, hV1⟩ : ∃ V, w.alloc (.cells #[.int .u8 2, .int .i64 x.key.time, .int .i64 x.key.source, .int .i64 x.key.seq, .int .i64 x.to, .int .i64 x.value, .int .i64 t] 33) = V := ⟨_, rfl⟩
 have z1 : V1.heap.size = w.heap.size + 1 := by rw [← hV1, World.size_alloc]
 have f1 : Fr0 none' w V1 := by rw [← hV1]; exact (Fr0.refl _ _).alloc _
 have a1 : V1.heap[w.heap.size]? = some (.cells #[.int .u8 2, .int .i64 x.key.time, .int .i64 x.key.source, .int .i64 x.key.seq, .int .i64 x.to, .int .i64 x.value, .int .i64 t] 33 (0, 0)) := by rw [← hV1]; exact World.alloc_heap_new _ _
 obtain ⟨V2, hV2⟩ : ∃ V, V1.alloc (.cells #[.int .i64 0, .slice none 0 0] 56) = V := ⟨_, rfl⟩
 have f2 : Fr0 none' V1 V2 := by rw [← hV2]; exact (Fr0.refl _ _).alloc _
 have b2 : V2.heap[w.heap.size + 1]? = some (.cells #[.int .i64 0, .slice none 0 0] 56 (0, 0)) := by rw [← hV2, ← z1]; exact World.alloc_heap_new _ _
 have a2 := (f2.block w.heap.size (by omega) id).trans a1
 have Z2 := Lib.hid (show V2.heap.size = w.heap.size + 2 by rw [← hV2, World.size_alloc, z1])
 have F2 := Lib.hid (f1.trans f2)
 have B2 := Lib.hid b2
 have A2 := Lib.hid a2
 have H2 := Lib.hid (H.out.later F2.out)
 have HRB := Lib.hid (show ∀ k, ft k → k < w.heap.size from H.out.lt)
 clear f1 a1 f2 b2 a2 z1
 have HP := Lib.hid (H2.out.take)
 have ht := (takeC_one E)
 obtain ⟨R, hR⟩ : ∃ R, takeC E = R := ⟨_, rfl⟩
 rw [hR] at HP ht ⊢
 clear hR
 have HO := Lib.hid (fun W => one_told ht W)
 clear ht
 have HPP := HP
 unfold evV at HP HO
 skip
 subst hV2
 subst hV1
 go_enter Tryz.func70, Tryz.ntmps70
 go_wp2_with fail
 refine HP.out.mono ?_
 rintro e w3 ⟨rfl, hl, hf⟩
 have HL := Lib.hid hl
 have HF := Lib.hid hf
 clear hl hf
 go_wp2_with fail
 refine (HO.out w3).mono ?_
 rintro e w4 ⟨v, rfl, hrow, hf4⟩
 have HF4 := Lib.hid (HF.out.trans' hf4 (fun _ _ h => h.elim))
 have b3 := (HF4.out.block (w.heap.size + 1) (Array.getElem?_eq_some_iff.1 B2.out).1 (fun hk => by have := HRB.out _ hk; omega)).trans B2.out
 have t0 := thaw_in b3 0
 have t1 := thaw_in b3 1
 have u0 := cells_in b3 0
 have u1 := cells_in b3 1
 simp at u0 u1
 have B3 := Lib.hid b3
 clear b3
 have HR := Lib.hid hrow
 have HL := Lib.hid (HL.out.later hf4)
 have HS := Lib.hid HF.out.size
 obtain ⟨ra, rc, hv, _, _⟩ := EsIn.of_own hrow
 clear hrow hf4
 subst hv
 go_wp2_with fail
 have e6 : ((w4.setCell ⟨w.heap.size + 1, 0, none⟩ (.int .i64 R.2.err)).setCell ⟨w.heap.size + 1, 1, none⟩ (.slice ra R.2.evs.length rc)).heap[w.heap.size + 1]? = some (.cells #[.int .i64 R.2.err, .slice ra R.2.evs.length rc] 56 (0, 0)) := heap_set_cell (heap_set_cell B3.out _) _
 have f6 : Fr0 (fun k => k = w.heap.size + 1) w4 ((w4.setCell ⟨w.heap.size + 1, 0, none⟩ (.int .i64 R.2.err)).setCell ⟨w.heap.size + 1, 1, none⟩ (.slice ra R.2.evs.length rc)) := ((Fr0.refl (fun k => k = w.heap.size + 1) w4).setCell (fun _ => rfl) _).setCell (fun _ => rfl) _
 generalize (w4.setCell ⟨w.heap.size + 1, 0, none⟩ (.int .i64 R.2.err)).setCell ⟨w.heap.size + 1, 1, none⟩ (.slice ra R.2.evs.length rc) = VV at e6 f6 ⊢
 have y0 := cells_in e6 0
 have y1 := cells_in e6 1
 simp at y0 y1
 have hs3 : w.heap.size + 2 ≤ w3.heap.size := by have := Z2.out; have := HS.out; omega
 have hne : ∀ k, ft k → ¬ (k = w.heap.size + 1) := fun k hk e => by have := HRB.out k hk; omega
 have hfr9 : Fr0 ft w VV := ((F2.out.mono (S' := ft) (fun _ _ h => h.elim)).trans HF4.out).trans' f6 (fun k hk e => by have e : k = w.heap.size + 1 := e; omega)
 have hrow9 : VV.ownsRow w.heap.size 30 5 (.slice ra R.2.evs.length rc) R.2.evs.length (flatEv R.2.evs) := ownsRow_k_mono (ownsRow_fr0 HR.out f6 (fun g hg e => by have := (HR.out.lt g hg).1; have e : g = w.heap.size + 1 := e; omega)) (by omega)
 exact bodyPost_ret (v := .agg #[.int .i64 R.2.err, .slice ra R.2.evs.length rc]) (by simp [results, Tryz.results70, go_sem, y0, y1]) rfl ⟨_, ft, rfl, hrow9, HL.out.fr0 f6 hne, fun k hk => .inl hk, (fun g hg hk => by have := (HR.out.lt g hg).1; have := HRB.out g hk; omega), hfr9⟩
set_option maxRecDepth 100000 in
set_option maxHeartbeats 2000000 in
theorem do_list4 {w : World} {lb n : Nat} {E : List Ev} {ft : Nat → Prop} (h : LIs w lb n E ft) (x : Ev) (t : Int) :
  Calls Tryz.prog 70 #[.iface 105 (.pointer (some ⟨lb, 0, none⟩)), actCV ⟨4, x, t⟩] w (DoT w ft (doC n E ⟨4, x, t⟩).2 (fun ft' w' => LIs w' lb n (doC n E ⟨4, x, t⟩).1 ft')) := by
 have H := Lib.hid h
 clear h
 have hdo : doC n E ⟨4, x, t⟩ = cancelC x.name E := by unfold doC; simp
 rw [hdo]
 clear hdo
 unfold actCV
 obtain ⟨V1, hV1⟩ : ∃ V, w.alloc (.cells #[.int .u8 4, .int .i64 x.key.time, .int .i64 x.key.source, .int .i64 x.key.seq, .int .i64 x.to, .int .i64 x.value, .int .i64 t] 33) = V := ⟨_, rfl⟩
 have z1 : V1.heap.size = w.heap.size + 1 := by rw [← hV1, World.size_alloc]
 have f1 : Fr0 none' w V1 := by rw [← hV1]; exact (Fr0.refl _ _).alloc _
 have a1 : V1.heap[w.heap.size]? = some (.cells #[.int .u8 4, .int .i64 x.key.time, .int .i64 x.key.source, .int .i64 x.key.seq, .int .i64 x.to, .int .i64 x.value, .int .i64 t] 33 (0, 0)) := by rw [← hV1]; exact World.alloc_heap_new _ _
 obtain ⟨V2, hV2⟩ : ∃ V, V1.alloc (.cells #[.int .i64 0, .slice none 0 0] 56) = V := ⟨_, rfl⟩
 have f2 : Fr0 none' V1 V2 := by rw [← hV2]; exact (Fr0.refl _ _).alloc _
 have b2 : V2.heap[w.heap.size + 1]? = some (.cells #[.int .i64 0, .slice none 0 0] 56 (0, 0)) := by rw [← hV2, ← z1]; exact World.alloc_heap_new _ _
 have a2 := (f2.block w.heap.size (by omega) id).trans a1
 have Z2 := Lib.hid (show V2.heap.size = w.heap.size + 2 by rw [← hV2, World.size_alloc, z1])
 have F2 := Lib.hid (f1.trans f2)
 have B2 := Lib.hid b2
 have A2 := Lib.hid a2
 have H2 := Lib.hid (H.out.later F2.out)
 have HRB := Lib.hid (show ∀ k, ft k → k < w.heap.size from H.out.lt)
 clear f1 a1 f2 b2 a2 z1
 have HP := Lib.hid (H2.out.cancel x.name)
 have ht := (cancelC_one x.name E)
 obtain ⟨R, hR⟩ : ∃ R, cancelC x.name E = R := ⟨_, rfl⟩
 rw [hR] at HP ht ⊢
 clear hR
 have HO := Lib.hid (fun W => one_told ht W)
 clear ht
 have HPP := HP
 unfold evV at HP HO
 unfold Ev.name at HP
 subst hV2
 subst hV1
 go_enter Tryz.func70, Tryz.ntmps70
 go_wp2_with fail
 refine HP.out.mono ?_
 rintro e w3 ⟨rfl, hl, hf⟩
 have HL := Lib.hid hl
 have HF := Lib.hid hf
 clear hl hf
 go_wp2_with fail
 refine (HO.out w3).mono ?_
 rintro e w4 ⟨v, rfl, hrow, hf4⟩
 have HF4 := Lib.hid (HF.out.trans' hf4 (fun _ _ h => h.elim))
 have b3 := (HF4.out.block (w.heap.size + 1) (Array.getElem?_eq_some_iff.1 B2.out).1 (fun hk => by have := HRB.out _ hk; omega)).trans B2.out
 have t0 := thaw_in b3 0
 have t1 := thaw_in b3 1
 have u0 := cells_in b3 0
 have u1 := cells_in b3 1
 simp at u0 u1
 have B3 := Lib.hid b3
 clear b3
 have HR := Lib.hid hrow
 have HL := Lib.hid (HL.out.later hf4)
 have HS := Lib.hid HF.out.size
 obtain ⟨ra, rc, hv, _, _⟩ := EsIn.of_own hrow
 clear hrow hf4
 subst hv
 go_wp2_with fail
 have e6 : ((w4.setCell ⟨w.heap.size + 1, 0, none⟩ (.int .i64 R.2.err)).setCell ⟨w.heap.size + 1, 1, none⟩ (.slice ra R.2.evs.length rc)).heap[w.heap.size + 1]? = some (.cells #[.int .i64 R.2.err, .slice ra R.2.evs.length rc] 56 (0, 0)) := heap_set_cell (heap_set_cell B3.out _) _
 have f6 : Fr0 (fun k => k = w.heap.size + 1) w4 ((w4.setCell ⟨w.heap.size + 1, 0, none⟩ (.int .i64 R.2.err)).setCell ⟨w.heap.size + 1, 1, none⟩ (.slice ra R.2.evs.length rc)) := ((Fr0.refl (fun k => k = w.heap.size + 1) w4).setCell (fun _ => rfl) _).setCell (fun _ => rfl) _
 generalize (w4.setCell ⟨w.heap.size + 1, 0, none⟩ (.int .i64 R.2.err)).setCell ⟨w.heap.size + 1, 1, none⟩ (.slice ra R.2.evs.length rc) = VV at e6 f6 ⊢
 have y0 := cells_in e6 0
 have y1 := cells_in e6 1
 simp at y0 y1
 have hs3 : w.heap.size + 2 ≤ w3.heap.size := by have := Z2.out; have := HS.out; omega
 have hne : ∀ k, ft k → ¬ (k = w.heap.size + 1) := fun k hk e => by have := HRB.out k hk; omega
 have hfr9 : Fr0 ft w VV := ((F2.out.mono (S' := ft) (fun _ _ h => h.elim)).trans HF4.out).trans' f6 (fun k hk e => by have e : k = w.heap.size + 1 := e; omega)
 have hrow9 : VV.ownsRow w.heap.size 30 5 (.slice ra R.2.evs.length rc) R.2.evs.length (flatEv R.2.evs) := ownsRow_k_mono (ownsRow_fr0 HR.out f6 (fun g hg e => by have := (HR.out.lt g hg).1; have e : g = w.heap.size + 1 := e; omega)) (by omega)
 exact bodyPost_ret (v := .agg #[.int .i64 R.2.err, .slice ra R.2.evs.length rc]) (by simp [results, Tryz.results70, go_sem, y0, y1]) rfl ⟨_, ft, rfl, hrow9, HL.out.fr0 f6 hne, fun k hk => .inl hk, (fun g hg hk => by have := (HR.out.lt g hg).1; have := HRB.out g hk; omega), hfr9⟩
set_option maxRecDepth 100000 in
set_option maxHeartbeats 2000000 in
theorem do_list3 {w : World} {lb n : Nat} {E : List Ev} {ft : Nat → Prop} (h : LIs w lb n E ft) (x : Ev) (t : Int) :
  Calls Tryz.prog 70 #[.iface 105 (.pointer (some ⟨lb, 0, none⟩)), actCV ⟨3, x, t⟩] w (DoT w ft (doC n E ⟨3, x, t⟩).2 (fun ft' w' => LIs w' lb n (doC n E ⟨3, x, t⟩).1 ft')) := by
 have H := Lib.hid h
 clear h
 have hdo : doC n E ⟨3, x, t⟩ = (aftE t E, ⟨0, befE t E⟩) := by unfold doC; simp
 rw [hdo]
 clear hdo
 unfold actCV
 obtain ⟨V1, hV1⟩ : ∃ V, w.alloc (.cells #[.int .u8 3, .int .i64 x.key.time, .int .i64 x.key.source, .int .i64 x.key.seq, .int .i64 x.to, .int .i64 x.value, .int .i64 t] 33) = V := ⟨_, rfl⟩
 have z1 : V1.heap.size = w.heap.size + 1 := by rw [← hV1, World.size_alloc]
 have f1 : Fr0 none' w V1 := by rw [← hV1]; exact (Fr0.refl _ _).alloc _
 have a1 : V1.heap[w.heap.size]? = some (.cells #[.int .u8 3, .int .i64 x.key.time, .int .i64 x.key.source, .int .i64 x.key.seq, .int .i64 x.to, .int .i64 x.value, .int .i64 t] 33 (0, 0)) := by rw [← hV1]; exact World.alloc_heap_new _ _
 obtain ⟨V2, hV2⟩ : ∃ V, V1.alloc (.cells #[.int .i64 0, .slice none 0 0] 56) = V := ⟨_, rfl⟩
 have f2 : Fr0 none' V1 V2 := by rw [← hV2]; exact (Fr0.refl _ _).alloc _
 have b2 : V2.heap[w.heap.size + 1]? = some (.cells #[.int .i64 0, .slice none 0 0] 56 (0, 0)) := by rw [← hV2, ← z1]; exact World.alloc_heap_new _ _
 have a2 := (f2.block w.heap.size (by omega) id).trans a1
 have Z2 := Lib.hid (show V2.heap.size = w.heap.size + 2 by rw [← hV2, World.size_alloc, z1])
 have F2 := Lib.hid (f1.trans f2)
 have B2 := Lib.hid b2
 have A2 := Lib.hid a2
 have H2 := Lib.hid (H.out.later F2.out)
 have HRB := Lib.hid (show ∀ k, ft k → k < w.heap.size from H.out.lt)
 clear f1 a1 f2 b2 a2 z1
 have HP := Lib.hid (H2.out.takeBefore t)
 subst hV2
 subst hV1
 go_enter Tryz.func70, Tryz.ntmps70
 go_wp2_with fail
 refine HP.out.mono ?_
 rintro e w3 ⟨v, ft', rfl, hrow, hl, hft, hd, hf⟩
 have b3 := (hf.block (w.heap.size + 1) (Array.getElem?_eq_some_iff.1 B2.out).1 (fun hk => by have := HRB.out _ hk; omega)).trans B2.out
 have t0 := thaw_in b3 0
 have t1 := thaw_in b3 1
 have u0 := cells_in b3 0
 have u1 := cells_in b3 1
 simp at u0 u1
 have B3 := Lib.hid b3
 clear b3
 have HL := Lib.hid hl
 have HF := Lib.hid hf
 have HT := Lib.hid hft
 have HR := Lib.hid hrow
 have HD := Lib.hid hd
 obtain ⟨ra, rc, hv, _, _⟩ := EsIn.of_own hrow
 obtain ⟨m, hm⟩ : ∃ m, (befE t E).length = m := ⟨_, rfl⟩
 have Hm := Lib.hid hm
 rw [hm] at hv
 clear hrow hl hf hft hd hm
 subst hv
 go_wp2_with fail
 have e6 : ((w3.setCell ⟨w.heap.size + 1, 0, none⟩ (.int .i64 0)).setCell ⟨w.heap.size + 1, 1, none⟩ (.slice ra m rc)).heap[w.heap.size + 1]? = some (.cells #[.int .i64 0, .slice ra m rc] 56 (0, 0)) := heap_set_cell (heap_set_cell B3.out _) _
 have f6 : Fr0 (fun k => k = w.heap.size + 1) w3 ((w3.setCell ⟨w.heap.size + 1, 0, none⟩ (.int .i64 0)).setCell ⟨w.heap.size + 1, 1, none⟩ (.slice ra m rc)) := ((Fr0.refl (fun k => k = w.heap.size + 1) w3).setCell (fun _ => rfl) _).setCell (fun _ => rfl) _
 generalize (w3.setCell ⟨w.heap.size + 1, 0, none⟩ (.int .i64 0)).setCell ⟨w.heap.size + 1, 1, none⟩ (.slice ra m rc) = VV at e6 f6 ⊢
 have y0 := cells_in e6 0
 have y1 := cells_in e6 1
 simp at y0 y1
 have hne : ∀ k, ft' k → ¬ (k = w.heap.size + 1) := fun k hk e => by
  rcases HT.out k hk with h | h
  ·have := HRB.out k h; omega
  ·have := Z2.out; omega
 have hft9 : ∀ k, ft' k → ft k ∨ w.heap.size ≤ k := fun k hk => (HT.out k hk).imp id (fun h => by have := Z2.out; omega)
 have hfr9 : Fr0 ft w VV := ((F2.out.mono (S' := ft) (fun _ _ h => h.elim)).trans HF.out).trans' f6 (fun k hk e => by have e : k = w.heap.size + 1 := e; omega)
 have hrow9 : VV.ownsRow w.heap.size 30 5 (.slice ra m rc) (befE t E).length (flatEv (befE t E)) := ownsRow_k_mono (ownsRow_fr0 HR.out f6 (fun g hg e => by have := (HR.out.lt g hg).1; have := Z2.out; have e : g = w.heap.size + 1 := e; omega)) (by have := Z2.out; omega)
 exact bodyPost_ret (v := .agg #[.int .i64 0, .slice ra m rc]) (by simp [results, Tryz.results70, go_sem, y0, y1]) rfl ⟨_, ft', rfl, hrow9, HL.out.fr0 f6 hne, hft9, HD.out, hfr9⟩
set_option maxRecDepth 100000 in
set_option maxHeartbeats 2000000 in
theorem do_list5 {w : World} {lb n : Nat} {E : List Ev} {ft : Nat → Prop} (h : LIs w lb n E ft) (x : Ev) (t : Int) :
  Calls Tryz.prog 70 #[.iface 105 (.pointer (some ⟨lb, 0, none⟩)), actCV ⟨5, x, t⟩] w (DoT w ft (doC n E ⟨5, x, t⟩).2 (fun ft' w' => LIs w' lb n (doC n E ⟨5, x, t⟩).1 ft')) := by
 have H := Lib.hid h
 clear h
 have hdo : doC n E ⟨5, x, t⟩ = ([], ⟨0, E⟩) := by unfold doC; simp
 rw [hdo]
 clear hdo
 unfold actCV
 obtain ⟨V1, hV1⟩ : ∃ V, w.alloc (.cells #[.int .u8 5, .int .i64 x.key.time, .int .i64 x.key.source, .int .i64 x.key.seq, .int .i64 x.to, .int .i64 x.value, .int .i64 t] 33) = V := ⟨_, rfl⟩
 have z1 : V1.heap.size = w.heap.size + 1 := by rw [← hV1, World.size_alloc]
 have f1 : Fr0 none' w V1 := by rw [← hV1]; exact (Fr0.refl _ _).alloc _
 have a1 : V1.heap[w.heap.size]? = some (.cells #[.int .u8 5, .int .i64 x.key.time, .int .i64 x.key.source, .int .i64 x.key.seq, .int .i64 x.to, .int .i64 x.value, .int .i64 t] 33 (0, 0)) := by rw [← hV1]; exact World.alloc_heap_new _ _
 obtain ⟨V2, hV2⟩ : ∃ V, V1.alloc (.cells #[.int .i64 0, .slice none 0 0] 56) = V := ⟨_, rfl⟩
 have f2 : Fr0 none' V1 V2 := by rw [← hV2]; exact (Fr0.refl _ _).alloc _
 have b2 : V2.heap[w.heap.size + 1]? = some (.cells #[.int .i64 0, .slice none 0 0] 56 (0, 0)) := by rw [← hV2, ← z1]; exact World.alloc_heap_new _ _
 have a2 := (f2.block w.heap.size (by omega) id).trans a1
 have Z2 := Lib.hid (show V2.heap.size = w.heap.size + 2 by rw [← hV2, World.size_alloc, z1])
 have F2 := Lib.hid (f1.trans f2)
 have B2 := Lib.hid b2
 have A2 := Lib.hid a2
 have H2 := Lib.hid (H.out.later F2.out)
 have HRB := Lib.hid (show ∀ k, ft k → k < w.heap.size from H.out.lt)
 clear f1 a1 f2 b2 a2 z1
 have HP := Lib.hid (H2.out.all)
 subst hV2
 subst hV1
 go_enter Tryz.func70, Tryz.ntmps70
 go_wp2_with fail
 refine HP.out.mono ?_
 rintro e w3 ⟨v, rfl, hrow, hf⟩
 have HL := Lib.hid (H2.out.later hf)
 have HF := Lib.hid hf
 have HR := Lib.hid hrow
 clear hrow hf
 go_wp2_with fail
 refine (HL.out.clear).mono ?_
 rintro e w4 ⟨rfl, hl, hf4⟩
 have HF4 := Lib.hid ((HF.out.mono (S' := ft) (fun _ _ h => h.elim)).trans hf4)
 have b3 := (HF4.out.block (w.heap.size + 1) (Array.getElem?_eq_some_iff.1 B2.out).1 (fun hk => by have := HRB.out _ hk; omega)).trans B2.out
 have t0 := thaw_in b3 0
 have t1 := thaw_in b3 1
 have u0 := cells_in b3 0
 have u1 := cells_in b3 1
 simp at u0 u1
 have B3 := Lib.hid b3
 clear b3
 have hng : ∀ g, v.ownBlock = some g → ¬ ft g := fun g hg hk => by have := (HR.out.lt g hg).1; have := HRB.out g hk; have := Z2.out; omega
 have HR := Lib.hid (ownsRow_fr0 HR.out hf4 hng)
 have HNG := Lib.hid hng
 have HL := Lib.hid hl
 obtain ⟨ra, rc, hv, _, _⟩ := EsIn.of_own HR.out
 obtain ⟨m, hm⟩ : ∃ m, E.length = m := ⟨_, rfl⟩
 rw [hm] at hv ⊢
 rw [hm] at HR
 clear hl hf4 hng
 subst hv
 go_wp2_with fail
 have e6 : ((w4.setCell ⟨w.heap.size + 1, 0, none⟩ (.int .i64 0)).setCell ⟨w.heap.size + 1, 1, none⟩ (.slice ra m rc)).heap[w.heap.size + 1]? = some (.cells #[.int .i64 0, .slice ra m rc] 56 (0, 0)) := heap_set_cell (heap_set_cell B3.out _) _
 have f6 : Fr0 (fun k => k = w.heap.size + 1) w4 ((w4.setCell ⟨w.heap.size + 1, 0, none⟩ (.int .i64 0)).setCell ⟨w.heap.size + 1, 1, none⟩ (.slice ra m rc)) := ((Fr0.refl (fun k => k = w.heap.size + 1) w4).setCell (fun _ => rfl) _).setCell (fun _ => rfl) _
 generalize (w4.setCell ⟨w.heap.size + 1, 0, none⟩ (.int .i64 0)).setCell ⟨w.heap.size + 1, 1, none⟩ (.slice ra m rc) = VV at e6 f6 ⊢
 have y0 := cells_in e6 0
 have y1 := cells_in e6 1
 simp at y0 y1
 have hne : ∀ k, ft k → ¬ (k = w.heap.size + 1) := fun k hk e => by have := HRB.out k hk; omega
 have hfr9 : Fr0 ft w VV := ((F2.out.mono (S' := ft) (fun _ _ h => h.elim)).trans HF4.out).trans' f6 (fun k hk e => by have e : k = w.heap.size + 1 := e; omega)
 have hrow9 : VV.ownsRow w.heap.size 30 5 (.slice ra m rc) E.length (flatEv E) := by
  rw [hm]
  exact ownsRow_k_mono (ownsRow_fr0 HR.out f6 (fun g hg e => by have := (HR.out.lt g hg).1; have := Z2.out; have e : g = w.heap.size + 1 := e; omega)) (by have := Z2.out; omega)
 exact bodyPost_ret (v := .agg #[.int .i64 0, .slice ra m rc]) (by simp [results, Tryz.results70, go_sem, y0, y1]) rfl ⟨_, ft, rfl, hrow9, HL.out.fr0 f6 hne, fun k hk => .inl hk, HNG.out, hfr9⟩
theorem do_list {w : World} {lb n : Nat} {E : List Ev} {ft : Nat → Prop} (h : LIs w lb n E ft) (a : Ca) (hk : 1 ≤ a.kind ∧ a.kind ≤ 5) :
  Calls Tryz.prog 70 #[.iface 105 (.pointer (some ⟨lb, 0, none⟩)), actCV a] w (DoT w ft (doC n E a).2 (fun ft' w' => LIs w' lb n (doC n E a).1 ft')) := by
 obtain ⟨kd, x, t⟩ := a
 simp only at hk
 have h5 : kd = 1 ∨ kd = 2 ∨ kd = 3 ∨ kd = 4 ∨ kd = 5 := by omega
 rcases h5 with rfl | rfl | rfl | rfl | rfl
 ·exact do_list1 h x t
 ·exact do_list2 h x t
 ·exact do_list3 h x t
 ·exact do_list4 h x t
 ·exact do_list5 h x t
end Go.Proofs.YtieeloealklkgaaGreat

/-
  Ranges over functions whose values are known only when they come: an iterator hands on blocks of its own with each value, and tells at its end what it has become.
-/
namespace Go.Proofs.YtieeloealklkgaaGreat
open Go.RowKit

/-- Like IterX0. 'R i x X Z W': x may come as the value with number i, when the iterator's own blocks are X; those that are not in Z go to the body with it. 'Fin X W': what the iterator has become at its end. -/
def IterR {α : Type} (P : Program) (gf : Nat) (lb : Array Value) (encs : α → Array Value) (n : Nat) (R : Nat → α → (Nat → Prop) → (Nat → Prop) → World → Prop) (Fin : (Nat → Prop) → World → Prop) (own rd : Nat → Prop) (w : World) : Prop :=
 ∀ (l : Nat) (J : Nat → (Nat → Prop) → World → Prop) (Jx : World → Prop) (W : World), Keep rd w W →
  (∀ i X Y W1 W2, J i X W1 → Fr0 (fun k => own k ∨ X k) W1 W2 → (∀ k, Y k → X k ∨ (W1.heap.size ≤ k ∧ k < W2.heap.size)) → J i Y W2) →
  (∀ W1 W2, Jx W1 → Fr0 own W1 W2 → Jx W2) →
  (∀ i x X Z W1, R i x X Z W1 → J i X W1 → YieldAt Fence.wide 0 P l (encs x) W1 fun e W2 =>
   (e = .returned (.bool true) ∧ J (i + 1) Z W2 ∧ Keep (fun k => rd k ∨ Z k) W1 W2) ∨ (e = .returned (.bool false) ∧ Jx W2)) →
  J 0 none' W →
  CallsIn Fence.wide 0 P gf (#[.func (.yield l) #[] #[]] ++ lb) W fun e W' => (∃ v, e = .returned v) ∧ ((∃ X, J n X W' ∧ Fin X W') ∨ Jx W')

variable {P : Program}

/-- THE LAW. 'I i W': i values have come. It must outlive turns of 'own' and of the loop's two blocks. The body must turn none of 'rd' and none of the loop's two blocks. -/
theorem wpIn_iterR {α : Type} {g : Operand} {ps : Array Tmp} {assign body : Code} {Q : Exit → Act → World → Prop} {a : Act} {w : World}
  {gf : Nat} {lb : Array Value} (hg : a.eval g = .func (.func gf) #[] lb) (eg : ∀ args w, (callFunc gf args).run P w = .ok (.enter gf args) w)
  {encs : α → Array Value} {n : Nat} {R : Nat → α → (Nat → Prop) → (Nat → Prop) → World → Prop} {Fin : (Nat → Prop) → World → Prop} {own rd : Nat → Prop} {w0 : World} (hseq : IterR P gf lb encs n R Fin own rd w0)
  (hRZ : ∀ i x X Z W, R i x X Z W → ∀ k, Z k → X k) (hRf : ∀ i x X Z W1 W2, R i x X Z W1 → (∀ k, X k → w.heap.size + 1 < k) → Fr0 (fun k => k = w.heap.size + 1) W1 W2 → R i x X Z W2)
  (hFin : ∀ X W1 W2, Fin X W1 → (∀ k, X k → w.heap.size + 1 < k) → Fr0 (fun k => k = w.heap.size ∨ k = w.heap.size + 1) W1 W2 → Fin X W2) (hb0 : Keep rd w0 w) (hps : ∀ x, (encs x).size = ps.size)
  (hown : ∀ k, own k → k < w.heap.size) (hrd : ∀ k, rd k → k < w.heap.size)
  (I : Nat → (Nat → Prop) → World → Prop) (Ix : Code → World → Prop)
  (hI : ∀ i X Y W1 W2, I i X W1 → (∀ k, X k → w.heap.size + 1 < k ∧ k < W1.heap.size) → Fr0 (fun k => own k ∨ X k ∨ k = w.heap.size ∨ k = w.heap.size + 1) W1 W2 → (∀ k, Y k → X k ∨ (W1.heap.size ≤ k ∧ k < W2.heap.size)) → I i Y W2)
  (hIx : ∀ c W1 W2, Ix c W1 → Fr0 (fun k => own k ∨ k = w.heap.size ∨ k = w.heap.size + 1) W1 W2 → Ix c W2) (h0 : I 0 none' w) (a₁ : α → World → Act → Prop)
  (hassign : ∀ (l : Nat) (x : α) (W : World) (K : Act → World → Prop), w.heap.size + 1 < W.heap.size → (∀ a' W', a₁ x W' a' → Fr0 none' W W' → K a' W') →
   assign.wpIn (Fence.wide.inRound l) 0 P (Exit.then K (fun _ _ _ => False)) { tmps := (ps.zip (encs x)).foldl (fun t (p, v) => t.setIfInBounds p v) a.tmps, defers := [] } W)
  (ha₁ : ∀ x W1 W2 a', a₁ x W1 a' → Fr0 (fun k => k = w.heap.size + 1) W1 W2 → a₁ x W2 a')
  (hbody : ∀ (l i : Nat) (x : α) (X Z : Nat → Prop) (W : World) (a' : Act) (r : Loop), R i x X Z W → I i X W → (∀ k, X k → w.heap.size + 1 < k ∧ k < W.heap.size) → a₁ x W a' → W.heap[w.heap.size]? = some (.deferred (some [])) → W.heap[w.heap.size + 1]? = some (.loop r) →
   body.wpIn (Fence.wide.inRound l) 0 P (iterPost0 (fun k => rd k ∨ Z k ∨ k = w.heap.size ∨ k = w.heap.size + 1) (fun i => I i Z) Ix (i + 1) W) a' W)
  (hdone : ∀ (D : Nat) (X : Nat → Prop) (W : World), D = w.heap.size → I n X W → (∀ k, X k → w.heap.size + 1 < k ∧ k < W.heap.size) → Fin X W → W.heap[D]? = some (.deferred (some [])) → Q .normal { a with defers := { target := .collected D, args := #[] } :: a.defers } W)
  (hstop : ∀ (D : Nat) (c : Code) (W : World), D = w.heap.size → Ix c W → W.heap[D]? = some (.deferred (some [])) → c.wpIn Fence.wide 0 P Q { a with defers := { target := .collected D, args := #[] } :: a.defers } W) :
  (Code.rangeFunc g ps assign body).wpIn Fence.wide 0 P Q a w := by
 refine wpIn_rangeFunc ?_
 intro fn hfn
 obtain ⟨rec, hrec⟩ : ∃ rec : LoopState → Option Code → Loop, rec = fun st pe => { state := st, pending := pe, fn, tmps := a.tmps, params := ps, assign, body, defers := w.heap.size } := ⟨_, rfl⟩
 obtain ⟨B, hB⟩ : ∃ B, w.heap.size = B := ⟨_, rfl⟩
 obtain ⟨W1, hW1⟩ : ∃ W1, (w.alloc (.deferred (some []))).alloc (.loop (rec .ready none)) = W1 := ⟨_, rfl⟩
 have hf1 : Fr0 none' w W1 := by rw [← hW1]; exact ((Fr0.refl _ _).alloc _).alloc _
 have hL1 : W1.heap[B + 1]? = some (.loop (rec .ready none)) := by
  rw [← hW1, ← hB]; have := World.alloc_heap_new (w.alloc (.deferred (some []))) (.loop (rec .ready none)); rwa [World.size_alloc] at this
 have hK1 : W1.heap[B]? = some (.deferred (some [])) := by
  rw [← hW1, ← hB]; exact (Below.heap_alloc _ _ _ (by simp)).trans (World.alloc_heap_new w _)
 rw [hB] at hI hIx hbody hdone hstop hassign ha₁ hown hrd hRf hFin
 have hI1 : I 0 none' W1 := hI _ _ none' _ _ h0 (fun k h => h.elim) (hf1.mono (fun k _ h => h.elim)) (fun k h => h.elim)
 refine ⟨B + 1, [{ target := .collected B, args := #[] }], W1, { target := .fn (.func gf) lb, args := #[.func (.yield (B + 1)) #[] #[]] }, W1, gf,
  #[.func (.yield (B + 1)) #[] #[]] ++ lb, W1, ?_, ?_, fun _ _ => trivial, ?_, fun h => by simp [Fence.wide] at h, ?_⟩
 ·have := run_enterLoop_outer (P := P) (w := w) fn a.tmps ps assign body
  rw [← hW1, hrec]
  simp only [hB] at this ⊢
  exact this
 ·simp only [resolve, hg]
  simp [go_sem]
 ·simp [invoke, go_sem, eg]
 ·refine CallsIn.mono ((hseq (B + 1)
   (fun i X W => I i X W ∧ (∀ k, X k → B + 1 < k ∧ k < W.heap.size) ∧ W.heap[B + 1]? = some (.loop (rec .ready none)) ∧ W.heap[B]? = some (.deferred (some [])))
   (fun W => ∃ c, Ix c W ∧ W.heap[B + 1]? = some (.loop (rec .done (some c))) ∧ W.heap[B]? = some (.deferred (some [])))
   W1 (hb0.trans (hf1.keep (fun k hk => ⟨by rw [hB]; exact hrd k hk, id⟩)))
   ?_ ?_ ?_ ⟨hI1, fun k h => h.elim, hL1, hK1⟩)) ?_
  ·rintro i X Y A C ⟨hi, hX, hl, hk⟩ hf hY
   have l1 := (Array.getElem?_eq_some_iff.1 hl).1
   have l2 := hf.size
   refine ⟨hI i X Y A C hi hX (hf.mono (fun k _ h => h.elim .inl (fun h => .inr (.inl h)))) hY, fun k hk => ?_, (hf.block _ l1 (fun h => ?_)).trans hl, (hf.block _ (by omega) (fun h => ?_)).trans hk⟩
   ·rcases hY k hk with h | h
    ·have := hX k h; omega
    ·omega
   ·rcases h with h | h
    ·have := hown _ h; omega
    ·have := hX _ h; omega
   ·rcases h with h | h
    ·have := hown _ h; omega
    ·have := hX _ h; omega
  ·rintro A C ⟨c, hi, hl, hk⟩ hf
   have l1 := (Array.getElem?_eq_some_iff.1 hl).1
   exact ⟨c, hIx c A C hi (hf.mono (fun k _ h => .inl h)), (hf.block _ l1 (fun h => by have := hown _ h; omega)).trans hl, (hf.block _ (by omega) (fun h => by have := hown _ h; omega)).trans hk⟩
  ·rintro i x X Z W hx ⟨hi, hX, hl, hk⟩
   have hZ := hRZ _ _ _ _ _ hx
   have hlt : B + 1 < W.heap.size := (Array.getElem?_eq_some_iff.1 hl).1
   have hy := run_yield (P := P) (args := encs x) hl (by rw [hrec]; exact hps x)
   rw [hrec] at hy
   refine ⟨fn, _, assign, body, hy, roundIn_of_wpIn (n := 0) hfn (hassign _ x W _ hlt ?_)⟩
   intro a' W' ha' hf'
   have hl' : W'.heap[B + 1]? = some (.loop (rec .ready none)) := (hf'.block _ hlt id).trans hl
   have hk' : W'.heap[B]? = some (.deferred (some [])) := (hf'.block _ (by omega) id).trans hk
   have hlt' : B + 1 < W'.heap.size := (Array.getElem?_eq_some_iff.1 hl').1
   refine ⟨_, run_beginRound hl' (by rw [hrec]), ?_⟩
   obtain ⟨W2, hW2⟩ : ∃ W2, W'.putObj (B + 1) (.loop { rec .ready none with state := .busy }) = W2 := ⟨_, rfl⟩
   have hf2 : Fr0 (fun k => k = B + 1) W' W2 := by rw [← hW2]; exact Fr0.putNew _ _ rfl
   have hl2 : W2.heap[B + 1]? = some (.loop { rec .ready none with state := .busy }) := by rw [← hW2]; exact World.putObj_heap_same hlt'
   have hk2 : W2.heap[B]? = some (.deferred (some [])) := (hf2.block _ (by omega) (by omega)).trans hk'
   rw [hW2]
   have hX' : ∀ k, X k → B + 1 < k ∧ k < W'.heap.size := fun k hk => ⟨(hX k hk).1, Nat.lt_of_lt_of_le (hX k hk).2 hf'.size⟩
   have hX2 : ∀ k, X k → B + 1 < k ∧ k < W2.heap.size := fun k hk => ⟨(hX k hk).1, Nat.lt_of_lt_of_le (hX' k hk).2 hf2.size⟩
   have hi2 : I i X W2 := hI _ _ _ _ _ (hI _ _ _ _ _ hi hX (hf'.mono (fun k _ h => h.elim)) (fun k h => .inl h)) hX' (hf2.mono (fun k _ h => .inr (.inr (.inr h)))) (fun k h => .inl h)
   have hx2 : R i x X Z W2 := hRf _ _ _ _ _ _ (hRf _ _ _ _ _ _ hx (fun k hk => (hX k hk).1) (hf'.mono (fun k _ h => h.elim))) (fun k hk => (hX k hk).1) hf2
   have hrx : ∀ k, (rd k ∨ Z k) → k < W.heap.size ∧ k ≠ B ∧ k ≠ B + 1 := fun k h => by
    rcases h with h | h
    ·have := hrd k h; omega
    ·have := hX k (hZ k h); omega
   have z1 := hf'.size
   have z2 := hf2.size
   have kW2 : Keep (fun k => rd k ∨ Z k) W W2 := (hf'.keep (fun k hk => ⟨(hrx k hk).1, id⟩)).trans (hf2.keep (fun k hk => ⟨by have := hrx k hk; omega, (hrx k hk).2.2⟩))
   refine wpIn_mono (hbody _ i x X Z W2 a' _ hx2 hi2 hX2 (ha₁ _ _ _ _ ha' hf2) hk2 hl2) ?_
   have fin : ∀ (jump : Option Code) (W3 : World) (S' : Nat → Prop), Fr0 S' W2 W3 → (∀ k, S' k → (rd k ∨ Z k ∨ k = B ∨ k = B + 1) → False) →
     (Instr.endRound (B + 1) jump).run P W3 = .ok (.bool jump.isNone) (W3.putObj (B + 1) (.loop (rec (if jump.isNone then .ready else .done) jump))) ∧
     (W3.putObj (B + 1) (.loop (rec (if jump.isNone then .ready else .done) jump))).heap[B + 1]? = some (.loop (rec (if jump.isNone then .ready else .done) jump)) ∧
     (W3.putObj (B + 1) (.loop (rec (if jump.isNone then .ready else .done) jump))).heap[B]? = some (.deferred (some [])) ∧
     Fr0 (fun k => own k ∨ k = B ∨ k = B + 1) W3 (W3.putObj (B + 1) (.loop (rec (if jump.isNone then .ready else .done) jump))) ∧
     Keep (fun k => rd k ∨ Z k) W (W3.putObj (B + 1) (.loop (rec (if jump.isNone then .ready else .done) jump))) := by
    intro jump W3 S' hf3 hS'
    have l2 := (Array.getElem?_eq_some_iff.1 hl2).1
    have hl3 := (hf3.block _ l2 (fun h => hS' _ h (.inr (.inr (.inr rfl))))).trans hl2
    have hk3 := (hf3.block _ (by omega) (fun h => hS' _ h (.inr (.inr (.inl rfl))))).trans hk2
    have l3 := (Array.getElem?_eq_some_iff.1 hl3).1
    have := run_endRound (P := P) jump hl3
    rw [hrec] at this ⊢
    refine ⟨this, World.putObj_heap_same l3, (World.putObj_heap_other (by omega)).trans hk3, Fr0.putNew _ _ (.inr (.inr rfl)), ?_⟩
    have z3 := hf3.size
    refine (kW2.trans (hf3.keep (fun k hk => ⟨by have := hrx k hk; omega, fun h => hS' _ h (hk.elim .inl (fun h => .inr (.inl h)))⟩))).trans ?_
    exact (Fr0.putNew (S := fun k => k = B + 1) _ _ rfl).keep (fun k hk => ⟨by have := hrx k hk; omega, (hrx k hk).2.2⟩)
   rintro e a3 W3 hp
   cases e with
   | normal =>
    obtain ⟨S', hf3, hS', hi3⟩ := hp
    obtain ⟨hr, hl4, hk4, hf4, hk5⟩ := fin none W3 S' hf3 hS'
    have z3 := hf3.size
    have z4 := hf4.size
    exact ⟨_, _, hr, .inl ⟨rfl, ⟨hI _ _ _ _ _ hi3 (fun k hk => ⟨(hX k (hZ k hk)).1, by have := hX2 k (hZ k hk); omega⟩) (hf4.mono (fun k _ h => h.elim .inl (fun h => .inr (.inr h)))) (fun k h => .inl h), fun k hk => ⟨(hX k (hZ k hk)).1, by have := hX2 k (hZ k hk); omega⟩, hl4, hk4⟩, hk5⟩⟩
   | ret =>
    obtain ⟨S', hf3, hS', hi3⟩ := hp
    obtain ⟨hr, hl4, hk4, hf4, hk5⟩ := fin (some .ret) W3 S' hf3 hS'
    exact ⟨_, _, hr, .inr ⟨rfl, .ret, hIx _ _ _ hi3 hf4, hl4, hk4⟩⟩
   | exit id =>
    obtain ⟨S', hf3, hS', hi3⟩ := hp
    obtain ⟨hr, hl4, hk4, hf4, hk5⟩ := fin (some (.exit id)) W3 S' hf3 hS'
    exact ⟨_, _, hr, .inr ⟨rfl, .exit id, hIx _ _ _ hi3 hf4, hl4, hk4⟩⟩
   | goto t =>
    obtain ⟨S', hf3, hS', hi3⟩ := hp
    obtain ⟨hr, hl4, hk4, hf4, hk5⟩ := fin (some (.goto t)) W3 S' hf3 hS'
    exact ⟨_, _, hr, .inr ⟨rfl, .goto t, hIx _ _ _ hi3 hf4, hl4, hk4⟩⟩
   | panic ch => exact hp.elim
   | outgrown => exact hp.elim
  ·rintro e W2 ⟨⟨v, rfl⟩, (⟨X, ⟨hi, hX, hl, hk⟩, hfin⟩ | ⟨c, hi, hl, hk⟩)⟩
   ·exact ⟨none, _, by have := run_endLoop (P := P) hl (by rw [hrec]; simp); rw [hrec] at this; exact this, hdone _ X _ rfl (hI _ _ _ _ _ hi hX (Fr0.putNew _ _ (.inr (.inr (.inr rfl)))) (fun k h => .inl h)) (fun k hk => ⟨(hX k hk).1, by rw [World.putObj_size]; exact (hX k hk).2⟩) (hFin X _ _ hfin (fun k hk => (hX k hk).1) (Fr0.putNew _ _ (.inr rfl))) ((World.putObj_heap_other (by omega)).trans hk)⟩
   ·exact ⟨some c, _, by have := run_endLoop (P := P) hl (by rw [hrec]; simp); rw [hrec] at this; exact this, hstop _ c _ rfl (hIx c _ _ hi (Fr0.putNew _ _ (.inr (.inr rfl)))) ((World.putObj_heap_other (by omega)).trans hk)⟩
end Go.Proofs.YtieeloealklkgaaGreat

/-
  calendar: told with a list.
-/
namespace Go.Proofs.YtieeloealklkgaaGreat
open Go Go.RowKit
attribute [local go_sem ↓] Go.wp_at_zero Go.wp_at_succ
attribute [local go_sem] Oper.semAt_some wide_fn wide_depth wide_fnR wide_depthR

/-- Acts in memory. -/
def CaAt (w : World) (g o : Nat) (a : Ca) : Prop := w.cell? ⟨g, o, none⟩ = some (.int .u8 a.kind) ∧ w.cell? ⟨g, o + 1, none⟩ = some (.int .i64 a.x.key.time) ∧ w.cell? ⟨g, o + 2, none⟩ = some (.int .i64 a.x.key.source) ∧ w.cell? ⟨g, o + 3, none⟩ = some (.int .i64 a.x.key.seq) ∧ w.cell? ⟨g, o + 4, none⟩ = some (.int .i64 a.x.to) ∧ w.cell? ⟨g, o + 5, none⟩ = some (.int .i64 a.x.value) ∧ w.cell? ⟨g, o + 6, none⟩ = some (.int .i64 a.time)
def CasIn (w : World) (a : Option Addr) (L : List Ca) : Prop := ∀ i x, L[i]? = some x → ∃ g o, a = some ⟨g, o, none⟩ ∧ CaAt w g (o + i * 7) x
theorem CaAt.fr0 {S : Nat → Prop} {w w' : World} {g o : Nat} {a : Ca} (h : CaAt w g o a) (hf : Fr0 S w w') (hS : ¬ S g) : CaAt w' g o a := by
 obtain ⟨h0, h1, h2, h3, h4, h5, h6⟩ := h
 have hlt := World.block_lt_of_cell? _ _ h0
 have key : ∀ o' v, w.cell? ⟨g, o', none⟩ = some v → w'.cell? ⟨g, o', none⟩ = some v := fun o' v hc => (hf.cell (p := ⟨g, o', none⟩) hlt hS).trans hc
 exact ⟨key _ _ h0, key _ _ h1, key _ _ h2, key _ _ h3, key _ _ h4, key _ _ h5, key _ _ h6⟩
theorem CasIn.fr0 {S : Nat → Prop} {w w' : World} {a : Option Addr} {L : List Ca} (h : CasIn w a L) (hf : Fr0 S w w') (hS : ∀ g o s, a = some ⟨g, o, s⟩ → ¬ S g) : CasIn w' a L := fun i x hx => by
 obtain ⟨g, o, e, hc⟩ := h i x hx
 exact ⟨g, o, e, hc.fr0 hf (hS g o none e)⟩
theorem CasIn.later {w w' : World} {a : Option Addr} {L : List Ca} (h : CasIn w a L) (hf : Fr0 none' w w') : CasIn w' a L := h.fr0 hf (fun _ _ _ _ h => h)
theorem CasIn.kept {w w' : World} {a : Option Addr} {L : List Ca} (h : CasIn w a L) (hk : ∀ g o s, a = some ⟨g, o, s⟩ → w'.heap[g]? = w.heap[g]?) : CasIn w' a L := fun i x hx => by
 obtain ⟨g, o, e, h0, h1, h2, h3, h4, h5, h6⟩ := h i x hx
 have key : ∀ o' v, w.cell? ⟨g, o', none⟩ = some v → w'.cell? ⟨g, o', none⟩ = some v := fun o' v hc => (World.cell?_of_block (w := w) (hk g o none e)).trans hc
 exact ⟨g, o, e, key _ _ h0, key _ _ h1, key _ _ h2, key _ _ h3, key _ _ h4, key _ _ h5, key _ _ h6⟩
theorem CasIn.lt {w : World} {a : Option Addr} {L : List Ca} (h : CasIn w a L) (h0 : L ≠ []) : ∀ g o s, a = some ⟨g, o, s⟩ → g < w.heap.size := by
 intro g o s e
 cases L with
 | nil => exact absurd rfl h0
 | cons y r =>
  obtain ⟨g', o', e', hc, _⟩ := h 0 y rfl
  rw [e] at e'
  injection e' with e'
  injection e' with e1 e2 e3
  subst e1
  exact World.block_lt_of_cell? _ _ hc
/-- A list outlives whatever keeps its blocks. -/
theorem LIs.kept {w W : World} {lb n : Nat} {E : List Ev} {ft : Nat → Prop} (h : LIs w lb n E ft) (hs : w.heap.size ≤ W.heap.size) (hk : ∀ k, ft k → W.heap[k]? = w.heap[k]?) : LIs W lb n E ft := by
 obtain ⟨W0, hW0⟩ : ∃ W0 : World, W0 = { W with os := w.os, tape := w.tape, output := w.output } := ⟨_, rfl⟩
 have hf : Fr0 (fun k => ¬ ft k) w W0 := by
  subst hW0
  exact ⟨rfl, rfl, rfl, hs, fun k _ hn => hk k (Classical.not_not.1 hn)⟩
 have h0 := h.fr0 hf (fun k h1 h2 => h2 h1)
 have hh : W0.heap = W.heap := by rw [hW0]
 obtain ⟨v, h1, h2, h3, h4⟩ := h0.row
 refine ⟨⟨v, hh ▸ h1, ?_, h3, h4⟩, h0.good, h0.small, h0.foot, fun k hk => hh ▸ h0.lt k hk⟩
 refine ⟨h2.1, h2.2.imp id ?_⟩
 rintro ⟨g, cap, cur, e1, e2, e3, e4, e5, e6, e7⟩
 exact ⟨g, cap, cur, e1, e2, hh ▸ e3, e4, e5, e6, e7⟩
/-- What is told, with the slice that holds it. -/
structure Td where
 err : Int
 sa : Option Addr
 sn : Nat
 sc : Nat
 evs : List Ev
def Td.v (y : Td) : Value := .slice y.sa y.sn y.sc
def Td.tl (y : Td) : Tl := ⟨y.err, y.evs⟩
def Td.val (y : Td) : Value := .agg #[.int .i64 y.err, .slice y.sa y.sn y.sc]
def Td.cells (y : Td) : List Value := [.int .i64 y.err, .slice y.sa y.sn y.sc]
/-- y may come as the value with number i. -/
def ToldR (T : List Tl) (i : Nat) (y : Td) (X Z : Nat → Prop) (W : World) : Prop :=
 T[i]? = some y.tl ∧ W.ownsRow 0 30 5 y.v y.evs.length (flatEv y.evs) ∧ (∀ g, y.v.ownBlock = some g → X g ∧ ¬ Z g) ∧ ∀ k, Z k → X k
/-- What the list has become. -/
def ListF (lb n : Nat) (E : List Ev) (own X : Nat → Prop) (W : World) : Prop := ∃ ft, LIs W lb n E ft ∧ ∀ k, ft k → own k ∨ X k
set_option maxRecDepth 100000 in
set_option maxHeartbeats 4000000 in
theorem told_list {w : World} {lb n m cap ab sb : Nat} {E : List Ev} {ft : Nat → Prop} {a : Option Addr} {L : List Ca} (h : LIs w lb n E ft) (hL : CasIn w a L) (hl : L.length = m) (hm : m ≤ 100000) (hk : ∀ a ∈ L, 1 ≤ a.kind ∧ a.kind ≤ 5)
  (hab : Box w ab (.slice a m cap)) (hsb : Box w sb (.iface 105 (.pointer (some ⟨lb, 0, none⟩)))) (hna : L ≠ [] → ∀ g o s, a = some ⟨g, o, s⟩ → ¬ ft g) (hnab : ¬ ft ab) (hnsb : ¬ ft sb) :
  IterR Tryz.prog 69 #[.pointer (some ⟨ab, 0, none⟩), .pointer (some ⟨sb, 0, none⟩)] (fun y : Td => #[y.val]) m (ToldR (tlC n E L)) (ListF lb n (stC n E L) ft) ft (fun k => k = ab ∨ k = sb ∨ (∃ o s, a = some ⟨k, o, s⟩ ∧ L ≠ []) ∨ ft k) w := by
 intro l J Jx W hK hJ hJx hY h0
 have H := Lib.hid (h.kept hK.1 (fun k hk => hK.2 k (.inr (.inr (.inr hk)))))
 have HL := Lib.hid (show L ≠ [] → CasIn W a L from fun hne => hL.kept (fun g o s e => hK.2 g (.inr (.inr (.inl ⟨o, s, e, hne⟩)))))
 have HA := Lib.hid (hab.of_block (hK.2 ab (.inl rfl)))
 have HS := Lib.hid (hsb.of_block (hK.2 sb (.inr (.inl rfl))))
 have HNA := Lib.hid hna
 have Hnab := Lib.hid hnab
 have Hnsb := Lib.hid hnsb
 have HJ := Lib.hid hJ
 have HY := Lib.hid hY
 have Hl := Lib.hid hl
 have Hk := Lib.hid hk
 have H0 := Lib.hid h0
 have c0 := HA.out.cell
 clear h hL hab hsb hna hnab hnsb hJ hY hK hk hl h0
 refine callsIn_of_wp Tryz.func69 rfl trivial ?_ rfl
 simp only [Tryz.ntmps69, List.size_toArray, List.length_cons, List.length_nil, Nat.reduceAdd, Nat.reduceSub, Array.replicate_succ, Array.replicate_zero, List.push_toArray, List.append_toArray, List.nil_append, List.cons_append]
 gi_wp2_with fail
 gi_loopw [5, 8] (fun _ i wr => ∃ (k : Nat) (X fk : Nat → Prop), k ≤ m ∧ i = .int .i64 k ∧ Hid (J k X wr) ∧ Hid (LIs wr lb n (stC n E (L.take k)) fk ∧ ∀ j, fk j → ft j ∨ X j) ∧ Hid (Keep (fun b => b = ab ∨ b = sb ∨ ∃ o s, a = some ⟨b, o, s⟩ ∧ L ≠ []) W wr) ∧ Hid (∀ j, X j → W.heap.size ≤ j)) (fun _ i _ => m - (Go.RowKit.intOf i).toNat)
 case atStart => exact ⟨0, none', ft, Nat.zero_le _, rfl, H0.out, ⟨H.out, fun j hj => .inl hj⟩, Keep.refl _ _, fun j hj => hj.elim⟩
 case round =>
  clear H0
  obtain ⟨k, X, fk, hk, rfl, hj, hS, hKp, hX⟩ := hrel
  by_cases hlt : k < m
  ·have hne : L ≠ [] := fun e => by have := Hl.out; rw [e] at this; simp at this; omega
   obtain ⟨x, hx⟩ : ∃ x, L[k]? = some x := ⟨_, List.getElem?_eq_getElem (by rw [Hl.out]; exact hlt)⟩
   obtain ⟨g2, o, rfl, _⟩ := HL.out hne k x hx
   have hcas : CasIn wr (some ⟨g2, o, none⟩) L := (HL.out hne).kept (fun g o' s e => hKp.out.2 g (.inr (.inr ⟨o', s, e, hne⟩)))
   obtain ⟨g3, o3, e3, hxc⟩ := hcas k x hx
   injection e3 with e3
   injection e3 with e3 e4
   subst e3 e4
   obtain ⟨x0, x1, x2, x3, x4, x5, x6⟩ := hxc
   have k1 : (0 : Int) ≤ (k : Int) := by omega
   have k2 : (k : Int) < (m : Int) := by omega
   have z5 : IntKind.i64.wrap ((k : Int) + 1) = (k : Int) + 1 := IntWalk.i64_in _ (by omega)
   obtain ⟨W2, hW2⟩ : ∃ V, wr.alloc (.cells #[.int .u8 x.kind, .int .i64 x.x.key.time, .int .i64 x.x.key.source, .int .i64 x.x.key.seq, .int .i64 x.x.to, .int .i64 x.x.value, .int .i64 x.time] 33) = V := ⟨_, rfl⟩
   have f2 : Fr0 none' wr W2 := by rw [← hW2]; exact (Fr0.refl _ _).alloc _
   have hS2 := hS.out.1.later f2
   have hj2 : J k X W2 := HJ.out k X X wr W2 hj.out (f2.mono (fun _ _ h => h.elim)) (fun _ h => .inl h)
   have hsb2 : Box W2 sb (.iface 105 (.pointer (some ⟨lb, 0, none⟩))) := (HS.out.of_block (hKp.out.2 sb (.inr (.inl rfl)))).fr0 f2 id
   have cS := hsb2.cell
   have HD := Lib.hid (do_list hS2 x (Hk.out x (List.mem_of_getElem? hx)))
   have Hx := Lib.hid hx
   have HS2 := Lib.hid hS2
   have F2 := Lib.hid f2
   have Hj2 := Lib.hid hj2
   have Hne := Lib.hid hne
   unfold actCV at HD
   clear hcas hx hS2 hj2 hsb2 f2 hne
   subst hW2
   gi_wp2_with fail
   refine (callsIn_wide.2 HD.out).mono ?_
   rintro e W3 ⟨v, ft', rfl, hrow, hl', hft', hnv, hf3⟩
   obtain ⟨va, vc, hv9, _, _⟩ := EsIn.of_own hrow
   obtain ⟨vn, hvn⟩ : ∃ vn, (doC n (stC n E (L.take k)) x).2.evs.length = vn := ⟨_, rfl⟩
   rw [hvn] at hv9
   subst hv9
   clear hvn
   obtain ⟨T, hT⟩ : ∃ T, (doC n (stC n E (L.take k)) x).2 = T := ⟨_, rfl⟩
   rw [hT] at hrow ⊢
   rw [← stC_snoc Hx.out] at hl'
   have htl := tlC_at (n := n) (E := E) Hx.out
   rw [hT] at htl
   obtain ⟨W2, hW2⟩ : ∃ V, wr.alloc (.cells #[.int .u8 x.kind, .int .i64 x.x.key.time, .int .i64 x.x.key.source, .int .i64 x.x.key.seq, .int .i64 x.x.to, .int .i64 x.x.value, .int .i64 x.time] 33) = V := ⟨_, rfl⟩
   rw [hW2] at hrow hft' hf3 HS2 F2 Hj2
   clear hW2 HD
   obtain ⟨Y, hY⟩ : ∃ Y : Nat → Prop, Y = fun j => X j ∨ (W2.heap.size ≤ j ∧ j < W3.heap.size) := ⟨_, rfl⟩
   obtain ⟨Z, hZ⟩ : ∃ Z : Nat → Prop, Z = fun j => Y j ∧ (Value.slice va vn vc).ownBlock ≠ some j := ⟨_, rfl⟩
   have hj3 : J k Y W3 := HJ.out k X Y W2 W3 Hj2.out (hf3.mono (fun j _ h => hS.out.2 j h)) (fun j h => by rw [hY] at h; exact h)
   have hfoot : ∀ j, ft' j → ft j ∨ Z j := fun j hj => by
    have hlt3 := hl'.lt j hj
    have hv := fun e => hnv j e hj
    rcases hft' j hj with h | h
    ·rcases hS.out.2 j h with h | h
     ·exact .inl h
     ·exact .inr (by rw [hZ]; exact ⟨by rw [hY]; exact .inl h, hv⟩)
    ·exact .inr (by rw [hZ]; exact ⟨by rw [hY]; exact .inr ⟨h, hlt3⟩, hv⟩)
   obtain ⟨fn, tmps, assign, body, hyy, hR⟩ := HY.out k ⟨T.err, va, vn, vc, T.evs⟩ Y Z W3 ⟨htl, ownsRow_k_mono hrow (Nat.zero_le _), fun g hg => ⟨by rw [hY]; exact .inr (hrow.lt g hg), fun hz => by rw [hZ] at hz; exact hz.2 hg⟩, fun j hj => by rw [hZ] at hj; exact hj.1⟩ hj3
   unfold Td.val at hyy
   have HR := Lib.hid hR
   have HLI := Lib.hid hl'
   have HFo := Lib.hid hfoot
   have HF3 := Lib.hid hf3
   have hXY : ∀ j, Z j → W.heap.size ≤ j := fun j hj => by
    rw [hZ] at hj
    have hj := hj.1
    rw [hY] at hj
    rcases hj with h | h
    ·exact hX.out j h
    ·have := hKp.out.1
     have := F2.out.size
     omega
   have HXY := Lib.hid hXY
   have hK3 : Keep (fun b => b = ab ∨ b = sb ∨ ∃ o' s, (some ⟨g2, o, none⟩ : Option Addr) = some ⟨b, o', s⟩ ∧ L ≠ []) W W3 := by
    have hno : ∀ b, b < W.heap.size → ¬ ft b → ¬ fk b := fun b hb h1 h2 => (hS.out.2 b h2).elim h1 (fun h => by have := hX.out b h; omega)
    refine hKp.out.trans (((F2.out.mono (S' := fk) (fun _ _ h => h.elim)).trans hf3).keep (fun b hb => ?_))
    have hsz := hKp.out.1
    rcases hb with rfl | rfl | ⟨o', s, e, h⟩
    ·exact ⟨Nat.lt_of_lt_of_le HA.out.lt hsz, hno _ HA.out.lt Hnab.out⟩
    ·exact ⟨Nat.lt_of_lt_of_le HS.out.lt hsz, hno _ HS.out.lt Hnsb.out⟩
    ·have hb := (HL.out h).lt h b o' s e
     exact ⟨Nat.lt_of_lt_of_le hb hsz, hno _ hb (HNA.out h b o' s e)⟩
   have HK3 := Lib.hid hK3
   clear hrow hl' hft' hnv hf3 htl hj3 hfoot hR hXY hK3 hY hZ hT
   gi_wp2_with fail
   refine HR.out.mono ?_
   rintro e W4 (⟨rfl, hJ4, hk4⟩ | ⟨rfl, hJx4⟩)
   ·have hli := HLI.out.kept hk4.1 (fun j hj => hk4.2 j ((HFo.out j hj).elim (fun h => .inl (.inr (.inr (.inr h)))) .inr))
    have hkk : Keep (fun b => b = ab ∨ b = sb ∨ ∃ o' s, (some ⟨g2, o, none⟩ : Option Addr) = some ⟨b, o', s⟩ ∧ L ≠ []) W W4 := HK3.out.trans ⟨hk4.1, fun b hb => hk4.2 b (.inl (hb.imp id (fun h => h.imp id .inl)))⟩
    have HLI := Lib.hid hli
    have HKK := Lib.hid hkk
    have HJ4 := Lib.hid hJ4
    clear hli hkk hk4 hJ4
    gi_wp2
    go_roundw
    case rel => exact ⟨k + 1, Z, ft', by omega, by go_num, HJ4, ⟨HLI.out, HFo.out⟩, HKK, HXY⟩
    case measure => simp [Go.RowKit.intOf]; omega
   ·gi_wp2
    refine bodyPost_ret (results_none rfl _ _ _) rfl ?_
    exact ⟨⟨_, rfl⟩, .inr hJx4⟩
  ·have hkm : k = m := by omega
   subst hkm
   have hfin : ListF lb n (stC n E L) ft X wr := ⟨fk, by rw [← List.take_of_length_le (l := L) (i := k) (by rw [Hl.out]; exact Nat.le_refl _)]; exact hS.out.1, hS.out.2⟩
   have HJF := Lib.hid hj.out
   have HFin := Lib.hid hfin
   clear hj hfin
   gi_wp2
   go_end0
   exact ⟨⟨_, rfl⟩, .inl ⟨X, HJF.out, HFin.out⟩⟩
end Go.Proofs.YtieeloealklkgaaGreat

/-
  calendar: odd, Right.
-/
namespace Go.Proofs.YtieeloealklkgaaGreat
open Go Go.RowKit
attribute [local go_sem ↓] Go.wp_at_zero Go.wp_at_succ
attribute [local go_sem] Oper.semAt_some wide_fn wide_depth wide_fnR wide_depthR

set_option maxRecDepth 100000 in
set_option maxHeartbeats 2000000 in
theorem odd_any {w : World} {a : Option Addr} {m cap : Nat} (L : List Ca) (h : CasIn w a L) (hl : L.length = m) (hm : m ≤ 100000) (hk : ∀ x ∈ L, 0 ≤ x.kind ∧ x.kind < 256) :
  Calls Tryz.prog 40 #[.slice a m cap] w fun e w' => e = .returned (.int .i64 (oddC L)) ∧ Fr0 none' w w' := by
 have H := Lib.hid h
 have Hl := Lib.hid hl
 have Hk := Lib.hid hk
 obtain ⟨R, hR⟩ : ∃ R, oddC L = R := ⟨_, rfl⟩
 rw [hR]
 have HR := Lib.hid hR
 clear h hl hk hR
 go_enter Tryz.func40, Tryz.ntmps40
 go_wp2_with fail
 apply wp_scope_straight
 go_wp2_with fail
 apply wp_label
 go_wp2_with fail
 go_loopw [3, 4, 5, 8] (fun at_ _ _ i wr => ∃ k : Nat, k ≤ m ∧ at_ = .int .i64 (-1) ∧ i = .int .i64 k ∧ Hid (∀ b ∈ L.take k, 1 ≤ b.kind ∧ b.kind ≤ 5) ∧ Hid (Fr0 none' w wr)) (fun _ _ _ i _ => m - (Go.RowKit.intOf i).toNat)
 case atStart => exact ⟨0, Nat.zero_le _, rfl, rfl, by unfold Hid; simp, Fr0.refl _ _⟩
 case round =>
  obtain ⟨k, hk, rfl, rfl, hpre, hfr⟩ := hrel
  by_cases hlt : k < m
  ·obtain ⟨x, hx⟩ : ∃ x, L[k]? = some x := ⟨_, List.getElem?_eq_getElem (by rw [Hl.out]; exact hlt)⟩
   obtain ⟨g, o, rfl, hxc⟩ := (H.out.later hfr.out) k x hx
   obtain ⟨x0, x1, x2, x3, x4, x5, x6⟩ := hxc
   have k1 : (0 : Int) ≤ (k : Int) := by omega
   have k2 : (k : Int) < (m : Int) := by omega
   have Hkx := Lib.hid (Hk.out x (List.mem_of_getElem? hx))
   have Hx := Lib.hid hx
   obtain ⟨kd, y, t⟩ := x
   simp only at x0 x1 x2 x3 x4 x5 x6 Hkx
   have HF := Lib.hid (hfr.out.trans ((Fr0.refl none' wr).alloc (.cells #[.int .u8 kd, .int .i64 y.key.time, .int .i64 y.key.source, .int .i64 y.key.seq, .int .i64 y.to, .int .i64 y.value, .int .i64 t] 33)))
   clear hx
   by_cases hkd : 1 ≤ kd ∧ kd ≤ 5
   ·have hnext := Lib.hid (show ∀ b ∈ L.take (k + 1), 1 ≤ b.kind ∧ b.kind ≤ 5 from fun b hb => by
     rw [List.take_add_one, Hx.out, List.mem_append] at hb
     rcases hb with hb | hb
     ·exact hpre.out b hb
     ·simp at hb; subst hb; exact hkd)
    have h5 : kd = 1 ∨ kd = 2 ∨ kd = 3 ∨ kd = 4 ∨ kd = 5 := by omega
    clear hkd
    rcases h5 with rfl | rfl | rfl | rfl | rfl
    all_goals
     go_wp2_with fail
     go_roundw
     case rel => exact ⟨k + 1, by omega, rfl, by go_num, hnext, HF⟩
     case measure => simp [Go.RowKit.intOf]; omega
   ·have e1 : (kd == 1) = false := beq_eq_false_iff_ne.2 (by omega)
    have e2 : (kd == 2) = false := beq_eq_false_iff_ne.2 (by omega)
    have e3 : (kd == 3) = false := beq_eq_false_iff_ne.2 (by omega)
    have e4 : (kd == 4) = false := beq_eq_false_iff_ne.2 (by omega)
    have e5 : (kd == 5) = false := beq_eq_false_iff_ne.2 (by omega)
    have hres := Lib.hid (show (k : Int) = R by rw [← HR.out]; exact (oddC_at hpre.out Hx.out hkd).symm)
    clear hkd
    go_wp2_with fail
    simp only [Exit.noGoto]
    go_ret
    exact ⟨by rw [hres.out]; rfl, HF.out⟩
  ·have hres := Lib.hid (show (-1 : Int) = R by
    rw [← HR.out]
    exact (oddC_none (fun b hb => hpre.out b (by rw [List.take_of_length_le (by rw [Hl.out]; omega)]; exact hb))).symm)
   go_wp2_with fail
   simp only [Exit.noGoto]
   go_ret
   exact ⟨by rw [hres.out]; rfl, hfr.out⟩
theorem OnceE_snoc {L : List Ev} {k : Nat} {x : Ev} (hx : L[k]? = some x) (h : OnceE (L.take k)) (hn : ∀ y ∈ L.take k, y.name ≠ x.name) : OnceE (L.take (k + 1)) := by
 unfold OnceE at h ⊢
 rw [List.take_add_one, hx, List.map_append, List.nodup_append]
 refine ⟨h, by simp, ?_⟩
 intro a ha b hb
 simp at hb
 subst hb
 obtain ⟨y, hy, rfl⟩ := List.mem_map.1 ha
 exact hn y hy
/-- What Right has seen. -/
def SeenC (L : List Ev) (k : Nat) : Prop := (∀ x ∈ L.take k, RightE x) ∧ OnceE (L.take k)
theorem SeenC.step {L : List Ev} {k : Nat} {x : Ev} (hx : L[k]? = some x) (h : SeenC L k) (hr : RightE x) (hn : ∀ y ∈ L.take k, y.name ≠ x.name) : SeenC L (k + 1) := by
 refine ⟨fun y hy => ?_, OnceE_snoc hx h.2 hn⟩
 rw [List.take_add_one, hx, List.mem_append] at hy
 rcases hy with hy | hy
 ·exact h.1 y hy
 ·simp at hy; subst hy; exact hr
theorem SeenC.twice {L : List Ev} {k : Nat} {x : Ev} (hx : L[k]? = some x) {y : Ev} (hy : y ∈ L.take k) (hn : y.name = x.name) : ¬ OnceE L := fun h => by
 unfold OnceE at h
 have hk : k < L.length := (List.getElem?_eq_some_iff.1 hx).1
 rw [← List.take_append_drop k L, List.map_append, List.nodup_append] at h
 refine h.2.2 _ (List.mem_map.2 ⟨y, hy, rfl⟩) _ (List.mem_map.2 ⟨x, ?_, rfl⟩) hn
 rw [List.drop_eq_getElem_cons hk, ← (List.getElem?_eq_some_iff.1 hx).2]
 exact List.mem_cons_self
def EndR (L : List Ev) (c : Int) (w : World) (e : Ending) (w' : World) : Prop := ∃ b, e = .returned (.bool b) ∧ (b = true ↔ RightC L c) ∧ Fr0 none' w w'
theorem EndR.of {L : List Ev} {c : Int} {w w' : World} {e : Ending} {b : Bool} (he : e = .returned (.bool b)) (hb : b = true ↔ RightC L c) (hf : Fr0 none' w w') : EndR L c w e w' := ⟨b, he, hb, hf⟩
set_option maxRecDepth 100000 in
set_option maxHeartbeats 2000000 in
theorem CRight_any {w : World} {a : Option Addr} {n cap : Nat} {c : Int} (L : List Ev) (h : EsIn w a L) (hl : L.length = n) (hn : n ≤ 10000) (hcap : n ≤ cap) :
  Calls Tryz.prog 16 #[.slice a n cap, .int .i64 c] w fun e w' => EndR L c w e w' := by
 have HS := Lib.hid (Sorted_any (cap := cap) L h hl hn)
 have H := Lib.hid h
 have Hl := Lib.hid hl
 clear h hl
 by_cases g1 : c < 0
 ·have hb : Hid (false = true ↔ RightC L c) := Lib.hid ⟨fun h => by simp at h, fun h => by have := h.1.1; omega⟩
  have d1 : decide (c < 0) = true := decide_eq_true g1
  clear HS g1
  go_enter Tryz.func16, Tryz.ntmps16
  go_wp2_with fail
  go_ret
  exact EndR.of rfl hb.out (Fr0.refl _ _)
 by_cases g2 : c > 256
 ·have hb : Hid (false = true ↔ RightC L c) := Lib.hid ⟨fun h => by simp at h, fun h => by have := h.1.2; omega⟩
  have d1 : decide (c < 0) = false := decide_eq_false g1
  have d2 : decide (c > 256) = true := decide_eq_true g2
  have d2' : decide (256 < c) = true := decide_eq_true g2
  clear HS g1 g2
  go_enter Tryz.func16, Tryz.ntmps16
  go_wp2_with fail
  go_ret
  exact EndR.of rfl hb.out (Fr0.refl _ _)
 have d1 : decide (c < 0) = false := decide_eq_false g1
 have d2 : decide (c > 256) = false := decide_eq_false g2
 have d2' : decide (256 < c) = false := decide_eq_false g2
 by_cases g3 : (n : Int) > c
 ·have hb : Hid (false = true ↔ RightC L c) := Lib.hid ⟨fun h => by simp at h, fun h => by have := h.2.1; rw [Hl.out] at this; omega⟩
  have d3 : decide ((n : Int) > c) = true := decide_eq_true g3
  have d3' : decide (c < (n : Int)) = true := decide_eq_true g3
  clear HS g1 g2 g3
  go_enter Tryz.func16, Tryz.ntmps16
  go_wp2_with fail
  go_ret
  exact EndR.of rfl hb.out (Fr0.refl _ _)
 have d3 : decide ((n : Int) > c) = false := decide_eq_false g3
 have d3' : decide (c < (n : Int)) = false := decide_eq_false g3
 have Hc := Lib.hid (show (0 ≤ c ∧ c ≤ 256) ∧ (L.length : Int) ≤ c from ⟨⟨by omega, by omega⟩, by rw [Hl.out]; omega⟩)
 clear g1 g2 g3
 by_cases ho : AscE L
 ·rw [show decide (AscE L) = true from decide_eq_true ho] at HS
  have Ho := Lib.hid ho
  clear ho
  go_enter Tryz.func16, Tryz.ntmps16
  go_wp2_with fail
  refine HS.out.mono ?_
  rintro e w1 ⟨rfl, hf⟩
  have F1 := Lib.hid hf
  have H1 := Lib.hid (H.out.later hf)
  clear hf
  go_wp2_with fail
  go_loopw [26] (fun i wr => ∃ k : Nat, k ≤ n ∧ i = .int .i64 k ∧ Hid (SeenC L k) ∧ Hid (Fr0 none' w wr)) (fun i _ => n - (Go.RowKit.intOf i).toNat)
  case atStart => exact ⟨0, Nat.zero_le _, rfl, Lib.hid ⟨by simp, by simp [OnceE]⟩, F1⟩
  case round =>
   obtain ⟨k, hk, rfl, hseen, hfr⟩ := hrel
   by_cases hlt : k < n
   ·obtain ⟨x, hx⟩ : ∃ x, L[k]? = some x := ⟨_, List.getElem?_eq_getElem (by rw [Hl.out]; exact hlt)⟩
    obtain ⟨g, o, rfl, hxc⟩ := (H.out.later hfr.out) k x hx
    obtain ⟨x0, x1, x2, x3, x4⟩ := hxc
    have k1 : (0 : Int) ≤ (k : Int) := by omega
    have k2 : (k : Int) < (n : Int) := by omega
    have k3 : (k : Int) ≤ (cap : Int) := by omega
    obtain ⟨W1, hW1⟩ : ∃ W, wr.alloc (.cells #[.int .i64 x.key.time, .int .i64 x.key.source, .int .i64 x.key.seq, .int .i64 x.to, .int .i64 x.value] 30) = W := ⟨_, rfl⟩
    have hf1 : Fr0 none' wr W1 := by rw [← hW1]; exact (Fr0.refl _ _).alloc _
    have hb := (show W1.heap[wr.heap.size]? = some (.cells #[.int .i64 x.key.time, .int .i64 x.key.source, .int .i64 x.key.seq, .int .i64 x.to, .int .i64 x.value] 30 (0, 0)) by rw [← hW1]; exact World.alloc_heap_new _ _)
    have y0 := cells_in hb 0
    have y1 := cells_in hb 1
    have y2 := cells_in hb 2
    have y3 := cells_in hb 3
    have y4 := cells_in hb 4
    simp at y0 y1 y2 y3 y4
    have HZ := Lib.hid (fun (W' : World) (hf : Fr0 none' W1 W') => (⟨hf.later y0, hf.later y1, hf.later y2, hf.later y3, hf.later y4⟩ : W'.cell? ⟨wr.heap.size, 0, none⟩ = some (.int .i64 x.key.time) ∧ W'.cell? ⟨wr.heap.size, 1, none⟩ = some (.int .i64 x.key.source) ∧ W'.cell? ⟨wr.heap.size, 2, none⟩ = some (.int .i64 x.key.seq) ∧ W'.cell? ⟨wr.heap.size, 3, none⟩ = some (.int .i64 x.to) ∧ W'.cell? ⟨wr.heap.size, 4, none⟩ = some (.int .i64 x.value)))
    have HFW := Lib.hid (hfr.out.trans hf1)
    have HR := Lib.hid (QRight_is x)
    have Hx := Lib.hid hx
    have HFI := Lib.hid (fun (W : World) (hW : Fr0 none' W1 W) => findC_any (n := k) (cap := cap) (L.take k) (((H.out.later (hfr.out.trans hf1)).later hW).take k) (by rw [List.length_take]; have := Hl.out; omega) (by omega) x.name)
    unfold Ev.name at HFI
    clear hb y0 y1 y2 y3 y4 hx hf1
    by_cases hr : RightE x
    ·rw [show decide (RightE x) = true from decide_eq_true hr] at HR
     have Hr := Lib.hid hr
     unfold evV at HR
     clear hr
     rcases idxI_cases (fun y : Ev => y.name == x.name) (L.take k) with ⟨hi, hnone⟩ | ⟨j, hi, _, y, hy, hyn, _⟩
     ·unfold Ev.name at hi
      rw [hi] at HFI
      have hstep := Lib.hid (hseen.out.step Hx.out Hr.out (fun y hy => by have := hnone y hy; simpa using this))
      clear hi hnone
      go_wp2_with fail
      refine wp_region_held_drew (S := fun W' => Fr0 none' W1 W') (by kernel_rfl) ((Fr0.refl none' W1).drew) (fun hHeld => ?_)
      refine tkn (i := 0) (v := evV x) (fun W' hSW => ?_) ?_
      ·obtain ⟨y0, y1, y2, y3, y4⟩ := HZ.out W' hSW
       first | (go_simp; done) | exact rfl | (go_simp; rfl) | (go_simp; omega)
      try simp only [pUt, pUn, sEt, sEz, sEs]
      refine take_call (i := 1) rfl (by kernel_rfl) (by kernel_rfl) (fun K hK => ?_)
      go_simp
      refine (HR.out _).mono ?_
      rintro e w2 ⟨rfl, hf⟩
      have F2 := Lib.hid (hHeld.trans hf)
      clear hf
      go_wp2_with fail
      refine hK.out _ _ F2.out (fun hHeld => ?_)
      clear hK K
      try simp only [pUt, pUn, sEt, sEz, sEs]
      refine tkn (i := 2) (v := .bool false) (fun W' hSW => ?_) ?_
      ·first | (go_simp; done) | exact rfl | (go_simp; rfl) | (go_simp; omega)
      try simp only [pUt, pUn, sEt, sEz, sEs]
      refine tkn (i := 3) (v := .bool false) (fun W' hSW => ?_) ?_
      ·first | (go_simp; done) | exact rfl | (go_simp; rfl) | (go_simp; omega)
      try simp only [pUt, pUn, sEt, sEz, sEs]
      refine tkn (i := 4) (v := .slice (some ⟨g, o, none⟩) n cap) (fun W' hSW => ?_) ?_
      ·first | (go_simp; done) | exact rfl | (go_simp; rfl) | (go_simp; omega)
      try simp only [pUt, pUn, sEt, sEz, sEs]
      refine tkn (i := 5) (v := .int .i64 (k : Int)) (fun W' hSW => ?_) ?_
      ·first | (go_simp; done) | exact rfl | (go_simp; rfl) | (go_simp; omega)
      try simp only [pUt, pUn, sEt, sEz, sEs]
      refine tkn (i := 6) (v := .slice (some ⟨g, o, none⟩) k cap) (fun W' hSW => ?_) ?_
      ·first | (go_simp; done) | exact rfl | (go_simp; rfl) | (go_simp; omega)
      try simp only [pUt, pUn, sEt, sEz, sEs]
      refine tkn (i := 7) (v := .pointer (some ⟨wr.heap.size, 0, none⟩)) (fun W' hSW => ?_) ?_
      ·obtain ⟨y0, y1, y2, y3, y4⟩ := HZ.out W' hSW
       first | (go_simp; done) | exact rfl | (go_simp; rfl) | (go_simp; omega)
      try simp only [pUt, pUn, sEt, sEz, sEs]
      refine tkn (i := 8) (v := .pointer (some ⟨wr.heap.size, 1, none⟩)) (fun W' hSW => ?_) ?_
      ·obtain ⟨y0, y1, y2, y3, y4⟩ := HZ.out W' hSW
       first | (go_simp; done) | exact rfl | (go_simp; rfl) | (go_simp; omega)
      try simp only [pUt, pUn, sEt, sEz, sEs]
      refine tkn (i := 9) (v := .int .i64 x.key.source) (fun W' hSW => ?_) ?_
      ·obtain ⟨y0, y1, y2, y3, y4⟩ := HZ.out W' hSW
       first | (go_simp; done) | exact rfl | (go_simp; rfl) | (go_simp; omega)
      try simp only [pUt, pUn, sEt, sEz, sEs]
      refine tkn (i := 10) (v := .pointer (some ⟨wr.heap.size, 0, none⟩)) (fun W' hSW => ?_) ?_
      ·obtain ⟨y0, y1, y2, y3, y4⟩ := HZ.out W' hSW
       first | (go_simp; done) | exact rfl | (go_simp; rfl) | (go_simp; omega)
      try simp only [pUt, pUn, sEt, sEz, sEs]
      refine tkn (i := 11) (v := .pointer (some ⟨wr.heap.size, 2, none⟩)) (fun W' hSW => ?_) ?_
      ·obtain ⟨y0, y1, y2, y3, y4⟩ := HZ.out W' hSW
       first | (go_simp; done) | exact rfl | (go_simp; rfl) | (go_simp; omega)
      try simp only [pUt, pUn, sEt, sEz, sEs]
      refine tkn (i := 12) (v := .int .i64 x.key.seq) (fun W' hSW => ?_) ?_
      ·obtain ⟨y0, y1, y2, y3, y4⟩ := HZ.out W' hSW
       first | (go_simp; done) | exact rfl | (go_simp; rfl) | (go_simp; omega)
      try simp only [pUt, pUn, sEt, sEz, sEs]
      refine take_call (i := 13) rfl (by kernel_rfl) (by kernel_rfl) (fun K hK => ?_)
      go_simp
      refine (HFI.out _ hHeld).mono ?_
      rintro e w3 ⟨rfl, hf⟩
      have F3 := Lib.hid (hHeld.trans hf)
      clear hf
      go_wp2_with fail
      refine hK.out _ _ F3.out (fun hHeld => ?_)
      clear hK K
      try simp only [pUt, pUn, sEt, sEz, sEs]
      refine tkn (i := 14) (v := .bool false) (fun W' hSW => ?_) ?_
      ·first | (go_simp; done) | exact rfl | (go_simp; rfl) | (go_simp; omega)
      try simp only [pUt, pUn, sEt, sEz, sEs]
      refine tkn (i := 15) (v := .bool false) (fun W' hSW => ?_) ?_
      ·first | (go_simp; done) | exact rfl | (go_simp; rfl) | (go_simp; omega)
      try simp only [pUt, pUn, sEt, sEz, sEs]
      refine wpAnyH_done (by kernel_rfl) ?_ _
      have F4 := Lib.hid (HFW.out.trans hHeld)
      clear hHeld F2 F3
      go_wp2_with fail
      go_roundw
      case rel => exact ⟨k + 1, by omega, by go_num, hstep, F4⟩
      case measure => simp [Go.RowKit.intOf]; omega
     ·unfold Ev.name at hi
      rw [hi] at HFI
      have d1 : decide ((j : Int) ≥ 0) = true := decide_eq_true (by omega)
      have d2 : decide ((0 : Int) ≤ (j : Int)) = true := decide_eq_true (by omega)
      have hres : Hid (false = true ↔ RightC L c) := Lib.hid ⟨fun h => by simp at h, fun h => absurd h.2.2.2.2 (SeenC.twice Hx.out (List.mem_of_getElem? hy) (by simpa using hyn))⟩
      clear hi hy hyn
      go_wp2_with fail
      refine wp_region_held_drew (S := fun W' => Fr0 none' W1 W') (by kernel_rfl) ((Fr0.refl none' W1).drew) (fun hHeld => ?_)
      refine tkn (i := 0) (v := evV x) (fun W' hSW => ?_) ?_
      ·obtain ⟨y0, y1, y2, y3, y4⟩ := HZ.out W' hSW
       first | (go_simp; done) | exact rfl | (go_simp; rfl) | (go_simp; omega)
      try simp only [pUt, pUn, sEt, sEz, sEs]
      refine take_call (i := 1) rfl (by kernel_rfl) (by kernel_rfl) (fun K hK => ?_)
      go_simp
      refine (HR.out _).mono ?_
      rintro e w2 ⟨rfl, hf⟩
      have F2 := Lib.hid (hHeld.trans hf)
      clear hf
      go_wp2_with fail
      refine hK.out _ _ F2.out (fun hHeld => ?_)
      clear hK K
      try simp only [pUt, pUn, sEt, sEz, sEs]
      refine tkn (i := 2) (v := .bool false) (fun W' hSW => ?_) ?_
      ·first | (go_simp; done) | exact rfl | (go_simp; rfl) | (go_simp; omega)
      try simp only [pUt, pUn, sEt, sEz, sEs]
      refine tkn (i := 3) (v := .bool false) (fun W' hSW => ?_) ?_
      ·first | (go_simp; done) | exact rfl | (go_simp; rfl) | (go_simp; omega)
      try simp only [pUt, pUn, sEt, sEz, sEs]
      refine tkn (i := 4) (v := .slice (some ⟨g, o, none⟩) n cap) (fun W' hSW => ?_) ?_
      ·first | (go_simp; done) | exact rfl | (go_simp; rfl) | (go_simp; omega)
      try simp only [pUt, pUn, sEt, sEz, sEs]
      refine tkn (i := 5) (v := .int .i64 (k : Int)) (fun W' hSW => ?_) ?_
      ·first | (go_simp; done) | exact rfl | (go_simp; rfl) | (go_simp; omega)
      try simp only [pUt, pUn, sEt, sEz, sEs]
      refine tkn (i := 6) (v := .slice (some ⟨g, o, none⟩) k cap) (fun W' hSW => ?_) ?_
      ·first | (go_simp; done) | exact rfl | (go_simp; rfl) | (go_simp; omega)
      try simp only [pUt, pUn, sEt, sEz, sEs]
      refine tkn (i := 7) (v := .pointer (some ⟨wr.heap.size, 0, none⟩)) (fun W' hSW => ?_) ?_
      ·obtain ⟨y0, y1, y2, y3, y4⟩ := HZ.out W' hSW
       first | (go_simp; done) | exact rfl | (go_simp; rfl) | (go_simp; omega)
      try simp only [pUt, pUn, sEt, sEz, sEs]
      refine tkn (i := 8) (v := .pointer (some ⟨wr.heap.size, 1, none⟩)) (fun W' hSW => ?_) ?_
      ·obtain ⟨y0, y1, y2, y3, y4⟩ := HZ.out W' hSW
       first | (go_simp; done) | exact rfl | (go_simp; rfl) | (go_simp; omega)
      try simp only [pUt, pUn, sEt, sEz, sEs]
      refine tkn (i := 9) (v := .int .i64 x.key.source) (fun W' hSW => ?_) ?_
      ·obtain ⟨y0, y1, y2, y3, y4⟩ := HZ.out W' hSW
       first | (go_simp; done) | exact rfl | (go_simp; rfl) | (go_simp; omega)
      try simp only [pUt, pUn, sEt, sEz, sEs]
      refine tkn (i := 10) (v := .pointer (some ⟨wr.heap.size, 0, none⟩)) (fun W' hSW => ?_) ?_
      ·obtain ⟨y0, y1, y2, y3, y4⟩ := HZ.out W' hSW
       first | (go_simp; done) | exact rfl | (go_simp; rfl) | (go_simp; omega)
      try simp only [pUt, pUn, sEt, sEz, sEs]
      refine tkn (i := 11) (v := .pointer (some ⟨wr.heap.size, 2, none⟩)) (fun W' hSW => ?_) ?_
      ·obtain ⟨y0, y1, y2, y3, y4⟩ := HZ.out W' hSW
       first | (go_simp; done) | exact rfl | (go_simp; rfl) | (go_simp; omega)
      try simp only [pUt, pUn, sEt, sEz, sEs]
      refine tkn (i := 12) (v := .int .i64 x.key.seq) (fun W' hSW => ?_) ?_
      ·obtain ⟨y0, y1, y2, y3, y4⟩ := HZ.out W' hSW
       first | (go_simp; done) | exact rfl | (go_simp; rfl) | (go_simp; omega)
      try simp only [pUt, pUn, sEt, sEz, sEs]
      refine take_call (i := 13) rfl (by kernel_rfl) (by kernel_rfl) (fun K hK => ?_)
      go_simp
      refine (HFI.out _ hHeld).mono ?_
      rintro e w3 ⟨rfl, hf⟩
      have F3 := Lib.hid (hHeld.trans hf)
      clear hf
      go_wp2_with fail
      refine hK.out _ _ F3.out (fun hHeld => ?_)
      clear hK K
      try simp only [pUt, pUn, sEt, sEz, sEs]
      refine tkn (i := 14) (v := .bool true) (fun W' hSW => ?_) ?_
      ·first | (go_simp; done) | exact rfl | (go_simp; rfl) | (go_simp; omega)
      try simp only [pUt, pUn, sEt, sEz, sEs]
      refine tkn (i := 15) (v := .bool true) (fun W' hSW => ?_) ?_
      ·first | (go_simp; done) | exact rfl | (go_simp; rfl) | (go_simp; omega)
      try simp only [pUt, pUn, sEt, sEz, sEs]
      refine wpAnyH_done (by kernel_rfl) ?_ _
      have F4 := Lib.hid (HFW.out.trans hHeld)
      clear hHeld F2 F3
      go_wp2_with fail
      go_ret
      exact EndR.of rfl hres.out (F4.out)
    ·rw [show decide (RightE x) = false from decide_eq_false hr] at HR
     have hres : Hid (false = true ↔ RightC L c) := Lib.hid ⟨fun h => by simp at h, fun h => absurd (h.2.2.2.1 x (List.mem_of_getElem? Hx.out)) hr⟩
     unfold evV at HR
     clear hr
     go_wp2_with fail
     refine wp_region_held_drew (S := fun W' => Fr0 none' W1 W') (by kernel_rfl) ((Fr0.refl none' W1).drew) (fun hHeld => ?_)
     refine tkn (i := 0) (v := evV x) (fun W' hSW => ?_) ?_
     ·obtain ⟨y0, y1, y2, y3, y4⟩ := HZ.out W' hSW
      first | (go_simp; done) | exact rfl | (go_simp; rfl) | (go_simp; omega)
     try simp only [pUt, pUn, sEt, sEz, sEs]
     refine take_call (i := 1) rfl (by kernel_rfl) (by kernel_rfl) (fun K hK => ?_)
     go_simp
     refine (HR.out _).mono ?_
     rintro e w2 ⟨rfl, hf⟩
     have F2 := Lib.hid (hHeld.trans hf)
     clear hf
     go_wp2_with fail
     refine hK.out _ _ F2.out (fun hHeld => ?_)
     clear hK K
     try simp only [pUt, pUn, sEt, sEz, sEs]
     refine tkn (i := 2) (v := .bool true) (fun W' hSW => ?_) ?_
     ·first | (go_simp; done) | exact rfl | (go_simp; rfl) | (go_simp; omega)
     try simp only [pUt, pUn, sEt, sEz, sEs]
     refine tkn (i := 3) (v := .bool true) (fun W' hSW => ?_) ?_
     ·first | (go_simp; done) | exact rfl | (go_simp; rfl) | (go_simp; omega)
     try simp only [pUt, pUn, sEt, sEz, sEs]
     refine take_off (i := 4) rfl (by kernel_rfl) (by kernel_rfl) (by kernel_rfl) (fun _ _ _ h => h) (by kernel_rfl) (by assumption) ?_
     try simp only [pUt, pUn, sEt, sEz, sEs]
     refine take_off (i := 5) rfl (by kernel_rfl) (by kernel_rfl) (by kernel_rfl) (fun _ _ _ h => h) (by kernel_rfl) (by assumption) ?_
     try simp only [pUt, pUn, sEt, sEz, sEs]
     refine take_off (i := 6) rfl (by kernel_rfl) (by kernel_rfl) (by kernel_rfl) (fun _ _ _ h => h) (by kernel_rfl) (by assumption) ?_
     try simp only [pUt, pUn, sEt, sEz, sEs]
     refine take_off (i := 7) rfl (by kernel_rfl) (by kernel_rfl) (by kernel_rfl) (fun _ _ _ h => h) (by kernel_rfl) (by assumption) ?_
     try simp only [pUt, pUn, sEt, sEz, sEs]
     refine take_off (i := 8) rfl (by kernel_rfl) (by kernel_rfl) (by kernel_rfl) (fun _ _ _ h => h) (by kernel_rfl) (by assumption) ?_
     try simp only [pUt, pUn, sEt, sEz, sEs]
     refine take_off (i := 9) rfl (by kernel_rfl) (by kernel_rfl) (by kernel_rfl) (fun _ _ _ h => h) (by kernel_rfl) (by assumption) ?_
     try simp only [pUt, pUn, sEt, sEz, sEs]
     refine take_off (i := 10) rfl (by kernel_rfl) (by kernel_rfl) (by kernel_rfl) (fun _ _ _ h => h) (by kernel_rfl) (by assumption) ?_
     try simp only [pUt, pUn, sEt, sEz, sEs]
     refine take_off (i := 11) rfl (by kernel_rfl) (by kernel_rfl) (by kernel_rfl) (fun _ _ _ h => h) (by kernel_rfl) (by assumption) ?_
     try simp only [pUt, pUn, sEt, sEz, sEs]
     refine take_off (i := 12) rfl (by kernel_rfl) (by kernel_rfl) (by kernel_rfl) (fun _ _ _ h => h) (by kernel_rfl) (by assumption) ?_
     try simp only [pUt, pUn, sEt, sEz, sEs]
     refine take_off (i := 13) rfl (by kernel_rfl) (by kernel_rfl) (by kernel_rfl) (fun _ _ _ h => h) (by kernel_rfl) (by assumption) ?_
     try simp only [pUt, pUn, sEt, sEz, sEs]
     refine take_off (i := 14) rfl (by kernel_rfl) (by kernel_rfl) (by kernel_rfl) (fun _ _ _ h => h) (by kernel_rfl) (by assumption) ?_
     try simp only [pUt, pUn, sEt, sEz, sEs]
     refine tkn (i := 15) (v := .bool true) (fun W' hSW => ?_) ?_
     ·first | (go_simp; done) | exact rfl | (go_simp; rfl) | (go_simp; omega)
     try simp only [pUt, pUn, sEt, sEz, sEs]
     refine wpAnyH_done (by kernel_rfl) ?_ _
     have F4 := Lib.hid (HFW.out.trans hHeld)
     clear hHeld F2
     go_wp2_with fail
     go_ret
     exact EndR.of rfl hres.out (F4.out)
   ·have hres : Hid (true = true ↔ RightC L c) := Lib.hid ⟨fun _ => ⟨Hc.out.1, Hc.out.2, Ho.out, fun x hx => hseen.out.1 x (by rw [List.take_of_length_le (by rw [Hl.out]; omega)]; exact hx), by have := hseen.out.2; rw [List.take_of_length_le (by rw [Hl.out]; omega)] at this; exact this⟩, fun _ => rfl⟩
    go_wp2_with fail
    go_ret
    exact EndR.of rfl (by simpa using hres.out) hfr.out
 ·rw [show decide (AscE L) = false from decide_eq_false ho] at HS
  have hb : Hid (false = true ↔ RightC L c) := Lib.hid ⟨fun h => by simp at h, fun h => absurd h.2.2.1 ho⟩
  clear ho
  go_enter Tryz.func16, Tryz.ntmps16
  go_wp2_with fail
  refine HS.out.mono ?_
  rintro e w1 ⟨rfl, hf⟩
  have F1 := Lib.hid hf
  clear hf
  go_wp2_with fail
  go_ret
  exact EndR.of rfl hb.out (F1.out)
end Go.Proofs.YtieeloealklkgaaGreat

/-
  slices.Collect at what acts told.
-/
namespace Go.Proofs.YtieeloealklkgaaGreat
open Go.RowKit
attribute [local go_sem] Oper.semAt_some wide_fn wide_depth wide_fnR wide_depthR

theorem info_told : (Tryz.prog.info? 56).map (fun i => (i.zero, i.size, i.bytes)) = some (some (.agg #[.int .i64 0, .slice none 0 0]), 2, 32) := by kernel_rfl
def flatTd (l : List Td) : List Value := l.flatMap Td.cells
theorem flatTd_snoc (l : List Td) (x : Td) : flatTd (l ++ [x]) = flatTd l ++ x.cells := by simp [flatTd]
/-- What was told, each in a row of its own, apart from S. -/
structure TdsOk (W : World) (T : List Tl) (ys : List Td) (v : Value) (base : Nat) (S : Nat → Prop) : Prop where
 tl : ys.map Td.tl = T
 row : ∀ y ∈ ys, W.ownsRow 0 30 5 y.v y.evs.length (flatEv y.evs)
 out : ∀ y ∈ ys, ∀ g, y.v.ownBlock = some g → ¬ S g ∧ v.ownBlock ≠ some g ∧ base ≤ g
 two : ys.Pairwise (fun a b => ∀ g, a.v.ownBlock = some g → b.v.ownBlock ≠ some g)
theorem TdsOk.nil (W : World) (v : Value) (base : Nat) (S : Nat → Prop) : TdsOk W [] [] v base S := ⟨rfl, fun _ h => by simp at h, fun _ h => by simp at h, List.Pairwise.nil⟩
theorem TdsOk.lt {W : World} {T : List Tl} {ys : List Td} {v : Value} {base : Nat} {S : Nat → Prop} (h : TdsOk W T ys v base S) : ∀ y ∈ ys, ∀ g, y.v.ownBlock = some g → g < W.heap.size := fun y hy g hg => ((h.row y hy).lt g hg).2
theorem TdsOk.fr0 {W W' : World} {T : List Tl} {ys : List Td} {v : Value} {base : Nat} {S S' : Nat → Prop} (h : TdsOk W T ys v base S) (hf : Fr0 S' W W') (hS : ∀ y ∈ ys, ∀ g, y.v.ownBlock = some g → ¬ S' g) : TdsOk W' T ys v base S :=
 ⟨h.tl, fun y hy => ownsRow_fr0 (h.row y hy) hf (fun g hg => hS y hy g hg), h.out, h.two⟩
theorem TdsOk.later {W W' : World} {T : List Tl} {ys : List Td} {v : Value} {base : Nat} {S : Nat → Prop} (h : TdsOk W T ys v base S) (hf : Fr0 none' W W') : TdsOk W' T ys v base S := h.fr0 hf (fun _ _ _ _ h => h)
theorem TdsOk.mono {W : World} {T : List Tl} {ys : List Td} {v v' : Value} {base base' : Nat} {S S' : Nat → Prop} (h : TdsOk W T ys v base S) (hS : ∀ g, g < W.heap.size → S' g → S g) (hv : ∀ g, g < W.heap.size → base ≤ g → v'.ownBlock = some g → v.ownBlock = some g) (hb : base' ≤ base) : TdsOk W T ys v' base' S' :=
 ⟨h.tl, h.row, fun y hy g hg => ⟨fun hs => (h.out y hy g hg).1 (hS g (h.lt y hy g hg) hs), fun e => (h.out y hy g hg).2.1 (hv g (h.lt y hy g hg) (h.out y hy g hg).2.2 e), Nat.le_trans hb (h.out y hy g hg).2.2⟩, h.two⟩
theorem TdsOk.snoc {W : World} {T : List Tl} {ys : List Td} {v : Value} {base : Nat} {S : Nat → Prop} (h : TdsOk W T ys v base S) {y : Td} (hr : W.ownsRow 0 30 5 y.v y.evs.length (flatEv y.evs)) (ho : ∀ g, y.v.ownBlock = some g → ¬ S g ∧ v.ownBlock ≠ some g ∧ base ≤ g) (hn : ∀ x ∈ ys, ∀ g, x.v.ownBlock = some g → y.v.ownBlock ≠ some g) : TdsOk W (T ++ [y.tl]) (ys ++ [y]) v base S :=
 ⟨by rw [List.map_append, h.tl]; rfl, fun x hx => (List.mem_append.1 hx).elim (h.row x) (fun e => by rw [List.mem_singleton.1 e]; exact hr), fun x hx => (List.mem_append.1 hx).elim (h.out x) (fun e => by rw [List.mem_singleton.1 e]; exact ho),
  List.pairwise_append.2 ⟨h.two, List.pairwise_singleton _ _, fun a ha b hb => by rw [List.mem_singleton.1 hb]; exact hn a ha⟩⟩
set_option maxRecDepth 100000 in
set_option maxHeartbeats 4000000 in
theorem AppendSeqT (gf : Nat) (lb : Array Value) (T : List Tl) (Fin : (Nat → Prop) → World → Prop) (own rd : Nat → Prop) (w : World) (eg : ∀ args w, (callFunc gf args).run Tryz.prog w = .ok (.enter gf args) w)
  (hit : IterR Tryz.prog gf lb (fun y : Td => #[y.val]) T.length (ToldR T) Fin own rd w) (hFin : ∀ X W1 W2 S, Fin X W1 → Fr0 S W1 W2 → (∀ k, own k ∨ X k → ¬ S k) → Fin X W2) (ho : ∀ k, own k → k < w.heap.size) (hr : ∀ k, rd k → k < w.heap.size) (hlen : T.length ≤ 1000000) :
  CallsIn Fence.wide 0 Tryz.prog 68 #[.slice none 0 0, .func (.func gf) #[] lb] w fun e w' =>
   ∃ v ys X, e = .returned v ∧ w'.ownsRow w.heap.size 56 2 v T.length (flatTd ys) ∧ TdsOk w' T ys v w.heap.size (fun k => own k ∨ X k) ∧ (∀ g, v.ownBlock = some g → ¬ X g) ∧ (∀ k, X k → w.heap.size ≤ k) ∧ Fin X w' ∧ Fr0 own w w' := by
 obtain ⟨i0, hi, hz0, hz1, hz2⟩ := info_parts info_told
 refine callsIn_of_wp_marks Tryz.func68 rfl trivial ?_ rfl
 simp only [Tryz.ntmps68, List.size_toArray, List.length_cons, List.length_nil, Nat.reduceAdd, Nat.reduceSub, Array.replicate_succ, Array.replicate_zero, List.push_toArray, List.append_toArray, List.nil_append, List.cons_append]
 gi_wp2_with fail
 refine wpIn_iterR (gf := gf) (lb := lb) rfl eg hit (fun i x X Z W h => h.2.2.2) ?hRf ?hFin (Fr0.keep ((Fr0.refl none' w).alloc _) (fun k hk => ⟨hr k hk, id⟩)) (fun _ => rfl) (fun k hk => by have := ho k hk; simp; omega) (fun k hk => by have := hr k hk; simp; omega)
  (fun i X W => ∃ v ys, Box W w.heap.size v ∧ W.ownsRow (w.heap.size + 3) 56 2 v i (flatTd ys) ∧ TdsOk W (T.take i) ys v (w.heap.size + 3) (fun k => own k ∨ X k) ∧ Fr0 own w W ∧ ∀ g, v.ownBlock = some g → ¬ X g)
  (fun _ _ => False) ?hI (fun _ _ _ h _ => h.elim) ?h0
  (fun x W a' => ∃ B, a' = { tmps := #[.slice none 0 0, .func (.func gf) #[] lb, .pointer (some ⟨w.heap.size, 0, none⟩), undef, .slice none 0 0, .pointer (some ⟨B, 0, none⟩), .func (.func gf) #[] lb, x.val, undef, undef, undef, undef, undef], defers := [] } ∧ w.heap.size + 2 < B ∧ W.heap[B]? = some (.cells x.cells.toArray 56 (0, 0)))
  ?assign ?keep ?body ?done (fun _ _ _ _ h _ => h.elim)
 case hRf =>
  rintro i x X Z W1 W2 ⟨h1, h2, h3, h4⟩ hX hf
  exact ⟨h1, ownsRow_fr0 h2 hf (fun g hg e => by have := hX g (h3 g hg).1; have e : g = _ := e; omega), h3, h4⟩
 case hFin =>
  intro X W1 W2 h hX hf
  refine hFin X W1 W2 _ h hf (fun k hk e => ?_)
  simp only [World.size_alloc] at e hX
  rcases hk with hk | hk
  ·have := ho k hk; omega
  ·have := hX k hk; omega
 case hI =>
  rintro i X Y W1 W2 ⟨v, ys, hb, hrow, hT, hfr, hX⟩ hXb hf hY
  simp only [World.size_alloc] at hf hXb
  refine ⟨v, ys, hb.fr0 hf (fun h => ?_), ownsRow_fr0 hrow hf (fun g hg h => ?_), (hT.mono (S' := fun k => own k ∨ Y k) (fun g hg h => ?_) (fun _ _ _ h => h) (Nat.le_refl _)).fr0 hf (fun y hy g hg h => ?_), hfr.trans' hf (fun k hk h => ?_), fun g hg hy => ?_⟩
  ·rcases h with h | h | h | h
   ·have := ho _ h; omega
   ·have := hXb _ h; omega
   ·omega
   ·omega
  ·have hlt := hrow.lt g hg
   rcases h with h | h | h | h
   ·have := ho _ h; omega
   ·exact hX g hg h
   ·omega
   ·omega
  ·rcases h with h | h
   ·exact .inl h
   ·rcases hY g h with h | h
    ·exact .inr h
    ·omega
  ·have h9 := hT.out y hy g hg
   rcases h with h | h | h | h
   ·exact h9.1 (.inl h)
   ·exact h9.1 (.inr h)
   ·omega
   ·omega
  ·rcases h with h | h | h | h
   ·exact h
   ·have := hXb _ h; omega
   ·omega
   ·omega
  ·rcases hY g hy with h | h
   ·exact hX g hg h
   ·have := hrow.lt g hg; omega
 case h0 =>
  exact ⟨_, [], Box.new w _ _, World.ownsRow_nil _ _ _ _, TdsOk.nil _ _ _ _, (Fr0.refl _ _).alloc _, fun g hg => by cases hg⟩
 case keep =>
  rintro x W1 W2 a' ⟨B, rfl, hB, hc⟩ hf
  refine ⟨B, rfl, hB, (hf.block B (Array.getElem?_eq_some_iff.1 hc).1 (by simp; omega)).trans hc⟩
 case assign =>
  intro l x W K hlt hK
  simp only [World.size_alloc] at hlt
  simp only [Td.val]
  gi_wp2
  exact hK _ _ ⟨W.heap.size, by simp [Td.val], by omega, World.alloc_heap_new W _⟩ ((Fr0.refl _ _).alloc _)
 case body =>
  rintro l i x X Z W a' r ⟨hxi, hxr, hxo, hZX⟩ ⟨v, ys, hb, hrow, hT, hfr, hX⟩ hXb ⟨B, rfl, hB, hcB⟩ hD hL
  have hlt : i < T.length := (List.getElem?_eq_some_iff.1 hxi).1
  have hsz : w.heap.size + 2 < W.heap.size := by have := (Array.getElem?_eq_some_iff.1 hL).1; simpa using this
  have hc := hb.cell
  have hf := hb.frozen
  simp only [World.size_alloc] at hXb
  have b0 := cells_of hcB 0
  have b1 := cells_of hcB 1
  simp [Td.cells] at b0 b1
  have HX := Lib.hid hX
  have HXb := Lib.hid hXb
  have Hxi := Lib.hid hxi
  have Hxr := Lib.hid hxr
  have Hxo := Lib.hid hxo
  have HZX := Lib.hid hZX
  have HT := Lib.hid hT
  clear hxi hxr hxo hZX hT hD hL hcB hX hXb
  have hsrc := Src.newRow (P := Tryz.prog) (size := 2) (tx := 44) (ty := 56) W Tryz.underlying44 1 1 x.cells rfl (by simp [Value.oneCell', Td.cells])
  simp only [Td.cells] at hsrc
  simp only [Td.val]
  gi_wp2_with (gi_at_builtin; refine wpListIn_append_k rfl _ _ 44 44 rfl (w.heap.size + 3) 56 i0 (.agg #[.int .i64 0, .slice none 0 0]) 2 32 Tryz.underlying44 hi hz0 hz1 hz2 rfl (by decide) v i _ rfl (hrow.alloc _) (.slice (some ⟨W.heap.size, 0, none⟩) 1 1) 1 _ rfl hsrc (by unfold maxLen; omega) (by omega) (by simp; omega) ?_; intro v' w1 hown' hgrow hdr hob; obtain ⟨g', cap', rfl⟩ := ownsRow_k_succ hown'; have hfg := ((Fr0.refl (fun k => v.ownBlock = some k) W).alloc _).grown hgrow (fun k hk _ => hk); have hb1 := hb.fr0 hfg (fun h => by have := (hrow.lt _ h).1; omega); have hc1 := hb1.cell; have hf1 := hb1.frozen)
  have hb2 := hb1.set (.slice (some ⟨g', 0, none⟩) (i + 1) cap')
  have hf2 := (hfg.mono (S' := fun k => k = w.heap.size ∨ v.ownBlock = some k) (fun k _ h => .inr h)).setCell (b := w.heap.size) (o := 0) (fun _ => .inl rfl) (.slice (some ⟨g', 0, none⟩) (i + 1) cap')
  have hnb : ∀ g, g < W.heap.size → w.heap.size + 3 ≤ g → (Value.slice (some ⟨g', 0, none⟩) (i + 1) cap').ownBlock = some g → v.ownBlock = some g := fun g hg _ e => by
   rcases hob with h | h
   ·exact h.symm.trans e
   ·rw [h] at e
    have e := Option.some.inj e
    rw [World.size_alloc] at e
    omega
  have hxb : ∀ g, x.v.ownBlock = some g → w.heap.size + 2 < g ∧ g < W.heap.size := fun g hg => by
   have := HXb.out g (Hxo.out g hg).1
   omega
  refine ⟨_, hf2, ?_, ⟨_, ys ++ [x], hb2, ?_, ?_, ?_, ?_⟩⟩
  ·intro k h1 h2
   simp only [World.size_alloc] at h2
   rcases h1 with h1 | h1
   ·rcases h2 with h | h | h | h
    ·have := hr _ h; omega
    ·have := HXb.out _ (HZX.out _ h); omega
    ·omega
    ·omega
   ·have h3 := hrow.lt _ h1
    rcases h2 with h | h | h | h
    ·have := hr _ h; omega
    ·exact HX.out _ h1 (HZX.out _ h)
    ·omega
    ·omega
  ·have h3 := ownsRow_setCell_below hown' (a := ⟨w.heap.size, 0, none⟩) (by simp) (.slice (some ⟨g', 0, none⟩) (i + 1) cap')
   rw [flatTd_snoc]
   exact h3
  ·have htk : T.take (i + 1) = T.take i ++ [x.tl] := by rw [List.take_add_one, Hxi.out]; rfl
   rw [htk]
   have h1 := (HT.out.mono (S' := fun k => own k ∨ Z k) (fun g _ h => h.imp id (HZX.out g)) hnb (Nat.le_refl _))
   have h2 := h1.snoc (y := x) Hxr.out (fun g hg => ⟨fun h => by
     rcases h with h | h
     ·have := ho g h; have := hxb g hg; omega
     ·exact (Hxo.out g hg).2 h, fun e => HX.out g (hnb g (hxb g hg).2 (by have := hxb g hg; omega) e) (Hxo.out g hg).1, by have := hxb g hg; omega⟩) (fun y hy g hg e => (HT.out.out y hy g hg).1 (.inr (Hxo.out g e).1))
   refine h2.fr0 hf2 (fun y hy g hg h => ?_)
   rcases List.mem_append.1 hy with hy | hy
   ·have h9 := HT.out.out y hy g hg
    rcases h with h | h
    ·omega
    ·exact h9.2.1 h
   ·rw [List.mem_singleton.1 hy] at hg
    rcases h with h | h
    ·have := hxb g hg; omega
    ·exact HX.out g h (Hxo.out g hg).1
  ·exact hfr.trans' hf2 (fun k hk h => by
    rcases h with h | h
    ·omega
    ·have := hrow.lt _ h; omega)
  ·intro g hg hZg
   rcases hob with h | h
   ·rw [hg] at h; exact HX.out _ h.symm (HZX.out _ hZg)
   ·rw [hg] at h
    injection h with h
    have := HXb.out _ (HZX.out _ hZg)
    simp at h; omega
 case done =>
  rintro D X W hDe ⟨v, ys, hb, hrow, hT, hfr, hX⟩ hXb hfin hK
  obtain rfl : D = w.heap.size + 1 := by simpa using hDe
  have hc := hb.cell
  rw [List.take_of_length_le (Nat.le_refl _)] at hT
  simp only [World.size_alloc] at hXb
  have hD : w.heap.size + 1 < W.heap.size := by have := (Array.getElem?_eq_some_iff.1 hK).1; simpa using this
  have hfp : Fr0 (fun k => k = w.heap.size + 1) W (W.putObj (w.heap.size + 1) (.deferred none)) := Fr0.putNew _ _ rfl
  have hfe : Fr0 own w (W.putObj (w.heap.size + 1) (.deferred none)) := hfr.putObj (fun h => by omega) _
  have hrow' := ownsRow_fr0 (ownsRow_k_mono hrow (by omega : w.heap.size ≤ w.heap.size + 3)) hfp (fun g hg h => by have := (hrow.lt g hg).1; have h : g = w.heap.size + 1 := h; omega)
  have hT' := (hT.fr0 hfp (fun y hy g hg h => by have := (hT.out y hy g hg).2.2; have h : g = w.heap.size + 1 := h; omega)).mono (S' := fun k => own k ∨ X k) (v' := v) (fun _ _ h => h) (fun _ _ _ h => h) (by omega : w.heap.size ≤ w.heap.size + 3)
  have hfin' := hFin X _ _ _ hfin hfp (fun k hk e => by
   have e : k = w.heap.size + 1 := e
   rcases hk with hk | hk
   ·have := ho k hk; omega
   ·have := hXb k hk; omega)
  have HP := Lib.hid (show (W.putObj (w.heap.size + 1) (.deferred none)).ownsRow w.heap.size 56 2 v T.length (flatTd ys) ∧ TdsOk (W.putObj (w.heap.size + 1) (.deferred none)) T ys v w.heap.size (fun k => own k ∨ X k) ∧ (∀ g, v.ownBlock = some g → ¬ X g) ∧ (∀ k, X k → w.heap.size ≤ k) ∧ Fin X (W.putObj (w.heap.size + 1) (.deferred none)) ∧ Fr0 own w (W.putObj (w.heap.size + 1) (.deferred none)) from ⟨hrow', hT', hX, fun k hk => by have := hXb k hk; omega, hfin', hfe⟩)
  have hK' := hK
  have hfv : ∃ a n c, v = .slice a n c := by
   rcases hrow.2 with ⟨rfl, _⟩ | ⟨g, cap, cur, rfl, _⟩
   ·exact ⟨_, _, _, rfl⟩
   ·exact ⟨_, _, _, rfl⟩
  clear hrow hb hfr hK hT hX hXb hfin hfp hfe hrow' hT' hfin'
  obtain ⟨sa, sn, sc, rfl⟩ := hfv
  gi_wp2
  refine ⟨by simp, .inl ⟨_, _, rfl, run_takeDeferred hK', ?_⟩⟩
  refine ⟨_, results_tmp rfl _ _ _, .slice sa sn sc, ys, X, rfl, ?_⟩
  exact HP.out
set_option maxRecDepth 100000 in
set_option maxHeartbeats 2000000 in
theorem CollectT (gf : Nat) (lb : Array Value) (T : List Tl) (Fin : (Nat → Prop) → World → Prop) (own rd : Nat → Prop) (w : World) (eg : ∀ args w, (callFunc gf args).run Tryz.prog w = .ok (.enter gf args) w)
  (hit : IterR Tryz.prog gf lb (fun y : Td => #[y.val]) T.length (ToldR T) Fin own rd w) (hFin : ∀ X W1 W2 S, Fin X W1 → Fr0 S W1 W2 → (∀ k, own k ∨ X k → ¬ S k) → Fin X W2) (ho : ∀ k, own k → k < w.heap.size) (hr : ∀ k, rd k → k < w.heap.size) (hlen : T.length ≤ 1000000) :
  Calls Tryz.prog 41 #[.func (.func gf) #[] lb] w fun e w' =>
   ∃ v ys X, e = .returned v ∧ w'.ownsRow w.heap.size 56 2 v T.length (flatTd ys) ∧ TdsOk w' T ys v w.heap.size (fun k => own k ∨ X k) ∧ (∀ g, v.ownBlock = some g → ¬ X g) ∧ (∀ k, X k → w.heap.size ≤ k) ∧ Fin X w' ∧ Fr0 own w w' := by
 have HC := Lib.hid (callsIn_wide.1 (AppendSeqT gf lb T Fin own rd w eg hit hFin ho hr hlen))
 clear hit
 go_enter Tryz.func41, Tryz.ntmps41
 go_wp2_with fail
 refine HC.out.mono ?_
 rintro e w1 ⟨v, ys, X, rfl, h1, h2, h3, h4, h5, h6⟩
 go_wp2
 go_ret
 exact ⟨_, ys, X, rfl, h1, h2, h3, h4, h5, h6⟩
end Go.Proofs.YtieeloealklkgaaGreat

/-
  calendar: told, Play.
-/
namespace Go.Proofs.YtieeloealklkgaaGreat
open Go Go.RowKit
attribute [local go_sem ↓] Go.wp_at_zero Go.wp_at_succ
attribute [local go_sem] Oper.semAt_some wide_fn wide_depth wide_fnR wide_depthR

set_option maxRecDepth 100000 in
theorem told_any (s : Value) (T : TypeId) (aa : Option Addr) (m ca : Nat) (w : World) :
  Calls Tryz.prog 42 #[.iface T s, .slice aa m ca] w fun e w' => ∃ ab sb, e = .returned (.func (.func 69) #[] #[.pointer (some ⟨ab, 0, none⟩), .pointer (some ⟨sb, 0, none⟩)]) ∧ Box w' ab (.slice aa m ca) ∧ Box w' sb (.iface T s) ∧ w.heap.size ≤ ab ∧ w.heap.size ≤ sb ∧ Fr0 none' w w' := by
 obtain ⟨W1, hW1⟩ : ∃ W, (w.alloc (.cells #[.iface T s] 140)).alloc (.cells #[.slice aa m ca] 23) = W := ⟨_, rfl⟩
 have hf : Fr0 none' w W1 := by rw [← hW1]; exact ((Fr0.refl _ _).alloc _).alloc _
 have hb0 : Box (w.alloc (.cells #[.iface T s] 140)) w.heap.size (.iface T s) := Box.new w _ _
 have hb1 : Box W1 w.heap.size (.iface T s) := by rw [← hW1]; exact hb0.fr0 ((Fr0.refl none' _).alloc _) id
 have hb2 := Box.new (w.alloc (.cells #[.iface T s] 140)) (.slice aa m ca) 23
 rw [World.size_alloc, hW1] at hb2
 have HB := Lib.hid hb1
 have HA := Lib.hid hb2
 have HF := Lib.hid hf
 clear hf hb0 hb1 hb2
 go_enter Tryz.func42, Tryz.ntmps42
 subst hW1
 go_wp2_with fail
 go_ret
 exact ⟨_, _, rfl, HA.out, HB.out, by omega, by omega, HF.out⟩
theorem results_tmp4 {fn : Func} {t u v x : Tmp} (h : fn.results = #[.tmp t, .tmp u, .tmp v, .tmp x]) (tmps : Array Value) (P : Program) (w : World) :
  (results fn tmps).run P w = .ok (.tuple #[tmps.getD t undef, tmps.getD u undef, tmps.getD v undef, tmps.getD x undef]) w := by
 simp [results, h]
/-- The end of Play. -/
def EndP (L : List Ev) (c : Int) (A : List Ca) (w : World) (e : Ending) (w' : World) : Prop :=
 ∃ v u ys, e = .returned (.tuple #[v, u, .int .i64 (playC L c A).2.2.1, .int .i64 (playC L c A).2.2.2]) ∧ w'.ownsRow w.heap.size 30 5 v (playC L c A).1.length (flatEv (playC L c A).1) ∧ w'.ownsRow w.heap.size 56 2 u (playC L c A).2.1.length (flatTd ys) ∧ TdsOk w' (playC L c A).2.1 ys u w.heap.size (fun k => v.ownBlock = some k) ∧ (∀ g, u.ownBlock = some g → v.ownBlock ≠ some g) ∧ Fr0 none' w w'
theorem EndP.none {L : List Ev} {c : Int} {A : List Ca} {w w' : World} {i f : Int} {e : Ending} (he : e = .returned (.tuple #[.slice none 0 0, .slice none 0 0, .int .i64 i, .int .i64 f])) (h : playC L c A = ([], [], i, f)) (hf : Fr0 none' w w') : EndP L c A w e w' := by
 unfold EndP
 rw [h]
 exact ⟨_, _, [], he, World.ownsRow_nil _ _ _ _, World.ownsRow_nil _ _ _ _, TdsOk.nil _ _ _ _, (fun g hg => by cases hg), hf⟩
theorem playC_wrong {L : List Ev} {c : Int} {A : List Ca} (h : ¬ RightC L c) : playC L c A = ([], [], -1, 120) := by
 unfold playC
 rw [if_neg h]
theorem playC_odd {L : List Ev} {c : Int} {A : List Ca} (h : RightC L c) (ho : 0 ≤ oddC A) : playC L c A = ([], [], oddC A, 121) := by
 unfold playC
 rw [if_pos h, if_pos ho]
theorem playC_right {L : List Ev} {c : Int} {A : List Ca} (h : RightC L c) (ho : ¬ 0 ≤ oddC A) : playC L c A = (stC c.toNat L A, tlC c.toNat L A, -1, 0) := by
 unfold playC
 rw [if_pos h, if_neg ho]
theorem oddC_ge (A : List Ca) : -1 ≤ oddC A := by
 rcases oddC_cases A with ⟨h, _⟩ | ⟨k, h, _⟩ <;> omega
theorem oddC_neg {A : List Ca} (h : ¬ 0 ≤ oddC A) : ∀ a ∈ A, 1 ≤ a.kind ∧ a.kind ≤ 5 := by
 rcases oddC_cases A with ⟨_, h2⟩ | ⟨k, h1, _⟩
 ·exact h2
 ·omega
set_option maxRecDepth 100000 in
set_option maxHeartbeats 2000000 in
theorem Play_any {w : World} {a aa : Option Addr} {n cap m ca : Nat} {c : Int} (L : List Ev) (A : List Ca) (h : EsIn w a L) (hl : L.length = n) (hn : n ≤ 10000) (hcap : n ≤ cap) (hA : CasIn w aa A) (hAl : A.length = m) (hm : m ≤ 100000) (hk : ∀ x ∈ A, 0 ≤ x.kind ∧ x.kind < 256) :
  Calls Tryz.prog 15 #[.slice a n cap, .int .i64 c, .slice aa m ca] w fun e w' => EndP L c A w e w' := by
 have HR := Lib.hid (CRight_any (c := c) L h hl hn hcap)
 have HO := Lib.hid (fun (W : World) (hW : Fr0 none' w W) => odd_any (cap := ca) A (hA.later hW) hAl hm hk)
 have HC := Lib.hid (fun (W : World) (hW : Fr0 none' w W) => CloneE (cap := cap) L (h.later hW) hl (by omega))
 have HL := Lib.hid h
 have HA := Lib.hid hA
 have Hl := Lib.hid hl
 have HAl := Lib.hid hAl
 have HK := Lib.hid hk
 clear h hl hA hAl hk
 go_enter Tryz.func15, Tryz.ntmps15
 go_wp2_with fail
 refine HR.out.mono ?_
 rintro e w1 ⟨b, rfl, hb, hf1⟩
 have F1 := Lib.hid hf1
 have HO1 := Lib.hid (HO.out _ hf1)
 clear HO hf1 HR
 cases b with
 | false =>
  have Hp := Lib.hid (playC_wrong (A := A) (fun h => by simpa using hb.2 h))
  clear hb HO1
  go_wp2_with fail
  try simp only [Exit.inBlock, Exit.then]
  refine bodyPost_ret (results_tmp4 rfl _ _ _) rfl ?_
  exact EndP.none rfl Hp.out F1.out
 | true =>
  have Hrc := Lib.hid (hb.1 rfl)
  clear hb
  obtain ⟨R, hR⟩ : ∃ R, oddC A = R := ⟨_, rfl⟩
  rw [hR] at HO1
  have hR1 : -1 ≤ R := by rw [← hR]; exact oddC_ge A
  by_cases h0 : 0 ≤ R
  ·have Hp := Lib.hid (playC_odd Hrc.out (by rw [hR]; exact h0))
   rw [hR] at Hp
   have d1 : decide (R ≥ 0) = true := decide_eq_true h0
   have d2 : decide (0 ≤ R) = true := decide_eq_true h0
   clear hR h0
   go_wp2_with fail
   refine HO1.out.mono ?_
   rintro e w2 ⟨rfl, hf⟩
   have F2 := Lib.hid (F1.out.trans hf)
   clear hf
   go_wp2_with fail
   try simp only [Exit.inBlock, Exit.then]
   refine bodyPost_ret (results_tmp4 rfl _ _ _) rfl ?_
   exact EndP.none rfl Hp.out F2.out
  ·have Hp := Lib.hid (playC_right Hrc.out (by rw [hR]; exact h0))
   have HK1 := Lib.hid (oddC_neg (by rw [hR]; exact h0))
   obtain rfl : R = -1 := by omega
   clear hR h0 hR1
   go_wp2_with fail
   refine HO1.out.mono ?_
   rintro e w2 ⟨rfl, hf⟩
   have F2 := Lib.hid (F1.out.trans hf)
   clear hf
   go_wp2_with fail
   refine (HC.out _ F2.out).mono ?_
   rintro e w3 ⟨v1, rfl, hrow, hf⟩
   obtain ⟨va, vc, rfl⟩ : ∃ va vc, v1 = .slice va n vc := by
    rcases hrow.2 with ⟨rfl, h0⟩ | ⟨g, cap, cur, rfl, _⟩
    ·exact ⟨none, 0, by rw [h0]⟩
    ·exact ⟨_, cap, rfl⟩
   have F3 := Lib.hid (F2.out.trans hf)
   have HRow := Lib.hid hrow
   have F2s := Lib.hid F2.out.size
   obtain ⟨W4, hW4⟩ : ∃ V, w3.alloc (.cells #[.slice va n vc, .int .i64 c] 107) = V := ⟨_, rfl⟩
   have f4 : Fr0 none' w3 W4 := by rw [← hW4]; exact (Fr0.refl _ _).alloc _
   have b4 : W4.heap[w3.heap.size]? = some (.cells #[.slice va n vc, .int .i64 c] 107 (0, 0)) := by rw [← hW4]; exact World.alloc_heap_new _ _
   have s4 : W4.heap.size = w3.heap.size + 1 := by rw [← hW4]; exact World.size_alloc _ _
   have hc0 : 0 ≤ c ∧ c ≤ 256 := Hrc.out.1
   obtain ⟨N, rfl⟩ : ∃ N : Nat, c = (N : Int) := ⟨c.toNat, by omega⟩
   have hli : LIs W4 w3.heap.size N L (fun k => k = w3.heap.size ∨ (Value.slice va n vc).ownBlock = some k) :=
    ⟨⟨_, b4, by rw [Hl.out]; exact ownsRow_k_mono (ownsRow_fr0 hrow f4 (fun _ _ h => h)) (Nat.zero_le _), fun e => by have := (hrow.lt _ e).2; omega, fun g hg => .inr hg⟩, Hrc.out.good, by omega, .inl rfl, fun k hk => by
     rcases hk with rfl | hk
     ·omega
     ·have := (hrow.lt k hk).2; omega⟩
   have HLI := Lib.hid hli
   have HTO := Lib.hid (told_any (.pointer (some ⟨w3.heap.size, 0, none⟩)) 105 aa m ca W4)
   have F4 := Lib.hid (F3.out.trans f4)
   clear hrow hf f4 b4 hli
   go_wp2_with fail
   refine HTO.out.mono ?_
   rintro e w5 ⟨ab, sb, rfl, hab, hsb, hab0, hsb0, hf5⟩
   have F5 := Lib.hid (F4.out.trans hf5)
   have hs5 := hf5.size
   obtain ⟨ft, hft⟩ : ∃ ft : Nat → Prop, ft = fun k => k = w3.heap.size ∨ (Value.slice va n vc).ownBlock = some k := ⟨_, rfl⟩
   have hli5 := HLI.out.later hf5
   rw [← hft] at hli5
   have hft1 : ∀ k, ft k → w.heap.size ≤ k ∧ k < w3.heap.size + 1 := fun k hk => by
    rw [hft] at hk
    have := F2s.out
    rcases hk with rfl | hk
    ·have := F3.out.size; omega
    ·have := HRow.out.lt k hk; omega
   have HCo := Lib.hid (CollectT 69 #[.pointer (some ⟨ab, 0, none⟩), .pointer (some ⟨sb, 0, none⟩)] (tlC N L A) (ListF w3.heap.size N (stC N L A) ft) ft (fun k => k = ab ∨ k = sb ∨ (∃ o s, aa = some ⟨k, o, s⟩ ∧ A ≠ []) ∨ ft k) w5 (fun _ _ => rfl)
    (by rw [tlC_length, HAl.out]; exact told_list hli5 (HA.out.later F5.out) HAl.out hm HK1.out hab hsb (fun h0 g o s e h => by have := (HA.out.lt h0 g o s e); have := hft1 g h; omega) (fun h => by have := hft1 _ h; omega) (fun h => by have := hft1 _ h; omega))
    (fun X W1 W2 S hF hf hS => by obtain ⟨f', h1, h2⟩ := hF; exact ⟨f', h1.fr0 hf (fun k hk => hS k (h2 k hk)), h2⟩)
    (fun k hk => hli5.lt k hk)
    (fun k hk => by
     rcases hk with rfl | rfl | ⟨o, s, e, h0⟩ | hk
     ·exact hab.lt
     ·exact hsb.lt
     ·have := HA.out.lt h0 k o s e; have := F5.out.size; omega
     ·exact hli5.lt k hk)
    (by rw [tlC_length, HAl.out]; omega))
   have HFT := Lib.hid hft1
   have Hs5 := Lib.hid (show w3.heap.size + 1 ≤ w5.heap.size by omega)
   clear hab hsb hab0 hsb0 hf5 hs5 hft hli5 hft1 HLI
   go_wp2_with fail
   refine HCo.out.mono ?_
   rintro e w6 ⟨u, ys, X, rfl, hu, hT, huX, hX0, ⟨ft', hl6, hft'⟩, hf6⟩
   obtain ⟨v6, h1, h2, h3, h4⟩ := hl6.row
   obtain ⟨va6, vc6, hv6, _, _⟩ := EsIn.of_own h2
   obtain ⟨vn6, hvn6⟩ : ∃ k, (stC N L A).length = k := ⟨_, rfl⟩
   rw [hvn6] at hv6
   subst hv6
   have hul : ∃ a b c, u = .slice a b c := by
    rcases hu.2 with ⟨rfl, _⟩ | ⟨g, cap, cur, rfl, _⟩
    ·exact ⟨_, _, _, rfl⟩
    ·exact ⟨_, _, _, rfl⟩
   obtain ⟨ua, un, uc, rfl⟩ := hul
   have c0 := cells_in h1 0
   simp at c0
   have hs6 := F5.out.size
   have hblk : ∀ g, (Value.slice va6 vn6 vc6).ownBlock = some g → (ft g ∨ X g) ∧ w.heap.size ≤ g := fun g hg => by
    have := hft' g (h4 g hg)
    rcases this with h | h
    ·exact ⟨.inl h, (HFT.out g h).1⟩
    ·exact ⟨.inr h, by have := hX0 g h; omega⟩
   have HE := Lib.hid (show EndP L N A w (.returned (.tuple #[.slice va6 vn6 vc6, .slice ua un uc, .int .i64 (-1), .int .i64 0])) w6 from by
    unfold EndP
    rw [Hp.out, Int.toNat_natCast]
    refine ⟨_, _, ys, rfl, ownsRow_k_raise h2 (fun g hg => (hblk g hg).2), ownsRow_k_mono hu (by omega), hT.mono (fun g _ hg => (hblk g hg).1) (fun _ _ _ h => h) (by omega), fun g hg e => ?_, F5.out.trans' hf6 (fun k hk h => by have := (HFT.out k h).1; omega)⟩
    have hg5 := (hu.lt g hg).1
    rcases (hblk g e).1 with h | h
    ·have := HFT.out g h; have := Hs5.out; omega
    ·exact huX g hg h)
   clear hu hT huX hX0 hl6 hft' hf6 h1 h2 h3 h4 hvn6 hs6 hblk
   go_wp2_with fail
   try simp only [Exit.inBlock, Exit.then]
   refine bodyPost_ret (results_tmp4 rfl _ _ _) rfl ?_
   exact HE.out
end Go.Proofs.YtieeloealklkgaaGreat

/-
  calendar: Count.
-/
namespace Go.Proofs.YtieeloealklkgaaGreat
open Go Go.RowKit
attribute [local go_sem ↓] Go.wp_at_zero Go.wp_at_succ
attribute [local go_sem] Oper.semAt_some wide_fn wide_depth wide_fnR wide_depthR

/-- How many come from a time to another one. -/
def btwE (f t : Int) (L : List Ev) : Nat := L.countP (fun x => decide (f ≤ x.key.time) && decide (x.key.time < t))
def countC (L : List Ev) (f t : Int) : Int × Int := if AscE L then (((btwE f t L : Nat) : Int), 0) else (0, 110)
theorem btwE_snoc {f t : Int} {L : List Ev} {k : Nat} {x : Ev} (h : L[k]? = some x) : btwE f t (L.take (k + 1)) = btwE f t (L.take k) + (if f ≤ x.key.time ∧ x.key.time < t then 1 else 0) := by
 unfold btwE
 rw [List.take_add_one, h, List.countP_append]
 by_cases h1 : f ≤ x.key.time <;> by_cases h2 : x.key.time < t <;> simp [h1, h2]
theorem btwE_le (f t : Int) (L : List Ev) : btwE f t L ≤ L.length := List.countP_le_length
set_option maxRecDepth 100000 in
set_option maxHeartbeats 2000000 in
theorem Count_any {w : World} {a : Option Addr} {n cap : Nat} {f t : Int} (L : List Ev) (h : EsIn w a L) (hl : L.length = n) (hn : n ≤ 10000) :
  Calls Tryz.prog 32 #[.slice a n cap, .int .i64 f, .int .i64 t] w fun e w' => e = .returned (.tuple #[.int .i64 (countC L f t).1, .int .i64 (countC L f t).2]) ∧ Fr0 none' w w' := by
 have HS := Lib.hid (Sorted_any (cap := cap) L h hl hn)
 have H := Lib.hid h
 have Hl := Lib.hid hl
 clear h hl
 by_cases ho : AscE L
 ·rw [show decide (AscE L) = true from decide_eq_true ho] at HS
  have hR : countC L f t = (((btwE f t L : Nat) : Int), 0) := by unfold countC; rw [if_pos ho]
  rw [hR]
  clear ho hR
  simp only
  obtain ⟨R, hR⟩ : ∃ R, btwE f t L = R := ⟨_, rfl⟩
  rw [hR]
  have HR := Lib.hid hR
  clear hR
  go_enter Tryz.func32, Tryz.ntmps32
  go_wp2_with fail
  refine HS.out.mono ?_
  rintro e w1 ⟨rfl, hf⟩
  have F1 := Lib.hid hf
  have H1 := Lib.hid (H.out.later hf)
  clear hf
  go_wp2_with fail
  go_loopw [8, 16] (fun q i wr => ∃ k : Nat, k ≤ n ∧ q = .int .i64 (btwE f t (L.take k) : Nat) ∧ i = .int .i64 k ∧ Hid (Fr0 none' w wr)) (fun _ i _ => n - (Go.RowKit.intOf i).toNat)
  case atStart => exact ⟨0, Nat.zero_le _, by simp [btwE], rfl, F1⟩
  case round =>
   obtain ⟨k, hk, rfl, rfl, hfr⟩ := hrel
   have hql := btwE_le f t (L.take k)
   rw [List.length_take] at hql
   have HSN : ∀ x, L[k]? = some x → btwE f t (L.take (k + 1)) = btwE f t (L.take k) + (if f ≤ x.key.time ∧ x.key.time < t then 1 else 0) := fun x hx => btwE_snoc hx
   obtain ⟨q, hq⟩ : ∃ q, btwE f t (L.take k) = q := ⟨_, rfl⟩
   simp only [hq] at hql HSN ⊢
   have Hq := Lib.hid hq
   clear hq
   by_cases hlt : k < n
   ·obtain ⟨x, hx⟩ : ∃ x, L[k]? = some x := ⟨_, List.getElem?_eq_getElem (by rw [Hl.out]; exact hlt)⟩
    obtain ⟨g, o, rfl, hxc⟩ := (H.out.later hfr.out) k x hx
    obtain ⟨x0, x1, x2, x3, x4⟩ := hxc
    have k1 : (0 : Int) ≤ (k : Int) := by omega
    have k2 : (k : Int) < (n : Int) := by omega
    have hst := HSN x hx
    have HFW := Lib.hid (hfr.out.trans ((Fr0.refl none' wr).alloc (.cells #[.int .i64 x.key.time, .int .i64 x.key.source, .int .i64 x.key.seq, .int .i64 x.to, .int .i64 x.value] 30)))
    clear HSN hx
    by_cases g1 : f ≤ x.key.time
    ·have d1 : decide (f ≤ x.key.time) = true := decide_eq_true g1
     have d1' : decide (x.key.time ≥ f) = true := decide_eq_true g1
     by_cases g2 : x.key.time < t
     ·have d2 : decide (x.key.time < t) = true := decide_eq_true g2
      rw [if_pos ⟨g1, g2⟩] at hst
      have Hst := Lib.hid hst
      clear hst g1 g2
      go_wp2_with fail
      go_roundw
      case rel => exact ⟨k + 1, by omega, by rw [Hst.out]; go_num, by go_num, HFW⟩
      case measure => simp [Go.RowKit.intOf]; omega
     ·have d2 : decide (x.key.time < t) = false := decide_eq_false g2
      rw [if_neg (fun h => g2 h.2), Nat.add_zero] at hst
      have Hst := Lib.hid hst
      clear hst g1 g2
      go_wp2_with fail
      go_roundw
      case rel => exact ⟨k + 1, by omega, by rw [Hst.out, Nat.add_zero], by go_num, HFW⟩
      case measure => simp [Go.RowKit.intOf]; omega
    ·have d1 : decide (f ≤ x.key.time) = false := decide_eq_false g1
     have d1' : decide (x.key.time ≥ f) = false := decide_eq_false g1
     rw [if_neg (fun h => g1 h.1), Nat.add_zero] at hst
     have Hst := Lib.hid hst
     clear hst g1
     go_wp2_with fail
     go_roundw
     case rel => exact ⟨k + 1, by omega, by rw [Hst.out, Nat.add_zero], by go_num, HFW⟩
     case measure => simp [Go.RowKit.intOf]; omega
   ·have hres : (q : Int) = (R : Int) := by
     rw [← HR.out, ← Hq.out, List.take_of_length_le (by rw [Hl.out]; omega)]
    have Hres := Lib.hid hres
    clear hres HSN
    go_wp2_with fail
    go_ret2
    exact ⟨by simp [Hres.out], hfr.out⟩
 ·rw [show decide (AscE L) = false from decide_eq_false ho] at HS
  have hR : countC L f t = (0, 110) := by unfold countC; rw [if_neg ho]
  rw [hR]
  clear ho hR
  go_enter Tryz.func32, Tryz.ntmps32
  go_wp2_with fail
  refine HS.out.mono ?_
  rintro e w1 ⟨rfl, hf⟩
  have F1 := Lib.hid hf
  clear hf
  go_wp2_with fail
  go_ret2
  exact ⟨rfl, F1.out⟩
end Go.Proofs.YtieeloealklkgaaGreat

/-
  calendar: Do.
-/
namespace Go.Proofs.YtieeloealklkgaaGreat
open Go Go.RowKit
attribute [local go_sem ↓] Go.wp_at_zero Go.wp_at_succ
attribute [local go_sem] Oper.semAt_some wide_fn wide_depth wide_fnR wide_depthR

/-! ### Rows of what was told -/
def TdAt (w : World) (g o : Nat) (y : Td) : Prop := w.cell? ⟨g, o, none⟩ = some (.int .i64 y.err) ∧ w.cell? ⟨g, o + 1, none⟩ = some (.slice y.sa y.sn y.sc)
def TdsIn (w : World) (a : Option Addr) (L : List Td) : Prop := ∀ i x, L[i]? = some x → ∃ g o, a = some ⟨g, o, none⟩ ∧ TdAt w g (o + i * 2) x
theorem TdAt.fr0 {S : Nat → Prop} {w w' : World} {g o : Nat} {x : Td} (h : TdAt w g o x) (hf : Fr0 S w w') (hS : ¬ S g) : TdAt w' g o x := by
 have hl := World.block_lt_of_cell? _ _ h.1
 exact ⟨(hf.cell (p := ⟨g, o, none⟩) hl hS).trans h.1, (hf.cell (p := ⟨g, o + 1, none⟩) hl hS).trans h.2⟩
theorem TdsIn.fr0 {S : Nat → Prop} {w w' : World} {a : Option Addr} {L : List Td} (h : TdsIn w a L) (hf : Fr0 S w w') (hS : ∀ g o s, a = some ⟨g, o, s⟩ → ¬ S g) : TdsIn w' a L := fun i x hx => by
 obtain ⟨g, o, rfl, hc⟩ := h i x hx
 exact ⟨g, o, rfl, hc.fr0 hf (hS g o none rfl)⟩
theorem TdsIn.later {w w' : World} {a : Option Addr} {L : List Td} (h : TdsIn w a L) (hf : Fr0 none' w w') : TdsIn w' a L := h.fr0 hf (fun _ _ _ _ h => h)
theorem td_len : ∀ x : Td, x.cells.length = 2 := fun _ => rfl
theorem flatTd_length (L : List Td) : (flatTd L).length = L.length * 2 := by
 induction L with
 | nil => rfl
 | cons x r ih =>
  have e : flatTd (x :: r) = x.cells ++ flatTd r := rfl
  rw [e, List.length_append, ih, td_len, List.length_cons]; omega
theorem TdsIn.of_flat {w : World} {g o : Nat} {L : List Td} (h : ∀ j u, (flatTd L)[j]? = some u → w.cell? ⟨g, o + j, none⟩ = some u) : TdsIn w (some ⟨g, o, none⟩) L := fun i x hx => by
 refine ⟨g, o, rfl, ?_, ?_⟩
 ·exact h (i * 2) _ (flat_some td_len hx (j := 0) (by omega) rfl)
 ·rw [Nat.add_assoc]; exact h (i * 2 + 1) _ (flat_some td_len hx (j := 1) (by omega) rfl)
theorem TdsIn.of_own {w : World} {base : Nat} {v : Value} {n : Nat} {L : List Td} (h : w.ownsRow base 56 2 v n (flatTd L)) : ∃ a cap, v = .slice a n cap ∧ L.length = n ∧ TdsIn w a L := by
 have hl : L.length = n := by have := h.1; rw [flatTd_length] at this; omega
 rcases h.2 with ⟨rfl, h0⟩ | ⟨g, cap, cur, rfl, hb, hg, hn', hcm, hs, ht⟩
 ·have : L = [] := List.eq_nil_of_length_eq_zero (by omega)
  subst this
  exact ⟨none, 0, by rw [h0], hl, fun i x h => by simp at h⟩
 ·exact ⟨_, cap, rfl, hl, TdsIn.of_flat (fun j u hj => by
   rw [Nat.zero_add, cells_in hg, ← Array.getElem?_toList]
   rw [← ht, List.getElem?_take] at hj
   split at hj
   ·exact hj
   ·cases hj)⟩
/-- What Do tells. -/
noncomputable def doT (L : List Ev) (c : Int) (x : Ca) : Tl := ((playC L c [x]).2.1).headD ⟨0, []⟩
/-- The end of Do. -/
def EndD (L : List Ev) (c : Int) (x : Ca) (w : World) (e : Ending) (w' : World) : Prop :=
 ∃ (v : Value) (y : Td), e = .returned (.tuple #[v, y.val, .int .i64 (playC L c [x]).2.2.2]) ∧ w'.ownsRow w.heap.size 30 5 v (playC L c [x]).1.length (flatEv (playC L c [x]).1) ∧ y.tl = doT L c x ∧ w'.ownsRow w.heap.size 30 5 y.v y.evs.length (flatEv y.evs) ∧ (∀ g, v.ownBlock = some g → y.v.ownBlock ≠ some g) ∧ Fr0 none' w w'
theorem playC_none {L : List Ev} {c : Int} {A : List Ca} (h : (playC L c A).2.2.2 ≠ 0) : (playC L c A).1 = [] ∧ (playC L c A).2.1 = [] := by
 unfold playC at h ⊢
 split
 ·split
  ·exact ⟨rfl, rfl⟩
  ·rename_i h1 h2
   rw [if_pos h1, if_neg h2] at h
   exact absurd rfl h
 ·exact ⟨rfl, rfl⟩
theorem playC_told {L : List Ev} {c : Int} {A : List Ca} (h : (playC L c A).2.2.2 = 0) : RightC L c ∧ (∀ a ∈ A, 1 ≤ a.kind ∧ a.kind ≤ 5) ∧ playC L c A = (stC c.toNat L A, tlC c.toNat L A, -1, 0) := by
 by_cases h1 : RightC L c
 ·by_cases h2 : 0 ≤ oddC A
  ·rw [playC_odd h1 h2] at h
   cases h
  ·exact ⟨h1, oddC_neg h2, playC_right h1 h2⟩
 ·rw [playC_wrong h1] at h
  cases h
set_option maxRecDepth 100000 in
set_option maxHeartbeats 2000000 in
theorem Do_any {w : World} {a : Option Addr} {n cap : Nat} {c : Int} (L : List Ev) (x : Ca) (h : EsIn w a L) (hl : L.length = n) (hn : n ≤ 10000) (hcap : n ≤ cap) (hk : 0 ≤ x.kind ∧ x.kind < 256) :
  Calls Tryz.prog 17 #[.slice a n cap, .int .i64 c, actCV x] w fun e w' => EndD L c x w e w' := by
 obtain ⟨W3, hW3⟩ : ∃ V, ((w.alloc (.cells #[.int .u8 x.kind, .int .i64 x.x.key.time, .int .i64 x.x.key.source, .int .i64 x.x.key.seq, .int .i64 x.x.to, .int .i64 x.x.value, .int .i64 x.time] 33)).alloc (.cells #[.int .i64 0, .slice none 0 0] 56)).alloc (.cells #[.int .u8 x.kind, .int .i64 x.x.key.time, .int .i64 x.x.key.source, .int .i64 x.x.key.seq, .int .i64 x.x.to, .int .i64 x.x.value, .int .i64 x.time] 33) = V := ⟨_, rfl⟩
 have f3 : Fr0 none' w W3 := by rw [← hW3]; exact (((Fr0.refl _ _).alloc _).alloc _).alloc _
 have b3 : W3.heap[w.heap.size + 1]? = some (.cells #[.int .i64 0, .slice none 0 0] 56 (0, 0)) := by
  have h1 := World.alloc_heap_new (w.alloc (.cells #[.int .u8 x.kind, .int .i64 x.x.key.time, .int .i64 x.x.key.source, .int .i64 x.x.key.seq, .int .i64 x.x.to, .int .i64 x.x.value, .int .i64 x.time] 33)) (.cells #[.int .i64 0, .slice none 0 0] 56)
  rw [World.size_alloc] at h1
  rw [← hW3]
  exact (((Fr0.refl none' _).alloc _).block (w.heap.size + 1) (by rw [World.size_alloc, World.size_alloc]; omega) id).trans h1
 have a3 : W3.heap[w.heap.size + 1 + 1]? = some (.cells #[.int .u8 x.kind, .int .i64 x.x.key.time, .int .i64 x.x.key.source, .int .i64 x.x.key.seq, .int .i64 x.x.to, .int .i64 x.x.value, .int .i64 x.time] 33 (0, 0)) := by
  have := World.alloc_heap_new ((w.alloc (.cells #[.int .u8 x.kind, .int .i64 x.x.key.time, .int .i64 x.x.key.source, .int .i64 x.x.key.seq, .int .i64 x.x.to, .int .i64 x.x.value, .int .i64 x.time] 33)).alloc (.cells #[.int .i64 0, .slice none 0 0] 56)) (.cells #[.int .u8 x.kind, .int .i64 x.x.key.time, .int .i64 x.x.key.source, .int .i64 x.x.key.seq, .int .i64 x.x.to, .int .i64 x.x.value, .int .i64 x.time] 33)
  rw [hW3, World.size_alloc, World.size_alloc] at this
  exact this
 have s3 : W3.heap.size = w.heap.size + 1 + 1 + 1 := by rw [← hW3, World.size_alloc, World.size_alloc, World.size_alloc]
 have hcas : CasIn W3 (some ⟨w.heap.size + 1 + 1, 0, none⟩) [x] := fun i y hy => by
  cases i with
  | zero =>
   obtain rfl : x = y := by simpa using hy
   exact ⟨_, _, rfl, cells_in a3 0, cells_in a3 1, cells_in a3 2, cells_in a3 3, cells_in a3 4, cells_in a3 5, cells_in a3 6⟩
  | succ i => simp at hy
 have HP := Lib.hid (Play_any (c := c) (m := 1) (ca := 1) L [x] (h.later f3) hl hn hcap hcas rfl (by omega) (by simpa using hk))
 have B3 := Lib.hid b3
 have S3 := Lib.hid s3
 have F3 := Lib.hid f3
 clear h hl hk f3 b3 a3 s3 hcas
 unfold actCV
 go_enter Tryz.func17, Tryz.ntmps17
 subst hW3
 go_wp2_with fail
 refine HP.out.mono ?_
 obtain ⟨W3, hW3⟩ : ∃ V, ((w.alloc (.cells #[.int .u8 x.kind, .int .i64 x.x.key.time, .int .i64 x.x.key.source, .int .i64 x.x.key.seq, .int .i64 x.x.to, .int .i64 x.x.value, .int .i64 x.time] 33)).alloc (.cells #[.int .i64 0, .slice none 0 0] 56)).alloc (.cells #[.int .u8 x.kind, .int .i64 x.x.key.time, .int .i64 x.x.key.source, .int .i64 x.x.key.seq, .int .i64 x.x.to, .int .i64 x.x.value, .int .i64 x.time] 33) = V := ⟨_, rfl⟩
 rw [hW3] at B3 S3 F3 ⊢
 clear hW3 HP
 rintro e w1 ⟨v, u, ys, rfl, hv, hu, hT, hd, hf⟩
 have b1 := (hf.block (w.heap.size + 1) (by rw [S3.out]; omega) id).trans B3.out
 obtain ⟨va, vc, hve, _, _⟩ := EsIn.of_own hv
 obtain ⟨ua, uc, hue, hul, hui⟩ := TdsIn.of_own hu
 obtain ⟨f, hf0⟩ : ∃ f, (playC L c [x]).2.2.2 = f := ⟨_, rfl⟩
 obtain ⟨i, hi0⟩ : ∃ i, (playC L c [x]).2.2.1 = i := ⟨_, rfl⟩
 obtain ⟨vn, hvn⟩ : ∃ i, (playC L c [x]).1.length = i := ⟨_, rfl⟩
 rw [hf0, hi0]
 rw [hvn] at hve
 by_cases h0 : f = 0
 ·rw [h0] at hf0 ⊢
  obtain ⟨hrc, hkk, hp⟩ := playC_told hf0
  rw [hp] at hul
  obtain ⟨y, rfl⟩ : ∃ y, ys = [y] := by
   cases ys with
   | nil => simp [tlC] at hul
   | cons y r =>
    cases r with
    | nil => exact ⟨y, rfl⟩
    | cons z r => simp [tlC] at hul
  obtain ⟨g, o, rfl, t0, t1⟩ := hui 0 y rfl
  have hty : y.tl = doT L c x := by
   have := hT.tl
   rw [hp] at this
   unfold doT
   rw [hp]
   simp [tlC] at this ⊢
   exact this
  have hyr := hT.row y (by simp)
  have hyo := hT.out y (by simp)
  subst hve
  have hun : (playC L c [x]).2.1.length = 1 := by rw [hp]; simp [tlC_length]
  rw [hun] at hue
  subst hue
  rw [Nat.zero_mul, Nat.add_zero] at t0 t1
  have hgt : g ≠ w.heap.size + 1 := fun e => by
   have := (hu.lt g rfl).1
   have := S3.out; omega
  have HZ := Lib.hid (fun (W' : World) (hfz : Fr0 (fun k => k = w.heap.size + 1) w1 W') => (⟨(hfz.cell (p := ⟨g, o, none⟩) (World.block_lt_of_cell? _ _ t0) hgt).trans t0, (hfz.cell (p := ⟨g, o + 1, none⟩) (World.block_lt_of_cell? _ _ t1) hgt).trans t1⟩ : W'.cell? ⟨g, o, none⟩ = some (.int .i64 y.err) ∧ W'.cell? ⟨g, o + 1, none⟩ = some (.slice y.sa y.sn y.sc)))
  have B1 := Lib.hid b1
  have HV := Lib.hid hv
  have HY := Lib.hid hyr
  have HYO := Lib.hid hyo
  have HTY := Lib.hid hty
  have HD := Lib.hid hd
  have HF := Lib.hid hf
  have HF0 := Lib.hid hf0
  clear b1 hv hyr hyo hty hd hf hu hT hui hul t0 t1 hf0 h0 hkk hrc hgt
  go_wp2_with fail
  refine wp_region_held_drew (S := fun W' => Fr0 (fun k => k = w.heap.size + 1) w1 W') (by kernel_rfl) ((Fr0.refl _ w1).drew) (fun hHeld => ?_)
  refine tkn (i := 0) (v := .slice va vn vc) (fun W' hSW => ?_) ?_
  ·first | (go_simp; done) | exact rfl | (go_simp; rfl) | (go_simp; omega)
  try simp only [pUt, pUn, sEt, sEz, sEs]
  refine tkn (i := 1) (v := .slice (some ⟨g, o, none⟩) 1 uc) (fun W' hSW => ?_) ?_
  ·first | (go_simp; done) | exact rfl | (go_simp; rfl) | (go_simp; omega)
  try simp only [pUt, pUn, sEt, sEz, sEs]
  refine tkn (i := 2) (v := .pointer (some ⟨g, o, none⟩)) (fun W' hSW => ?_) ?_
  ·first | (go_simp; done) | exact rfl | (go_simp; rfl) | (go_simp; omega)
  try simp only [pUt, pUn, sEt, sEz, sEs]
  refine tkn (i := 3) (v := .agg #[.int .i64 y.err, .slice y.sa y.sn y.sc]) (fun W' hSW => ?_) ?_
  ·obtain ⟨t0, t1⟩ := HZ.out W' hSW
   first | (go_simp; done) | exact rfl | (go_simp; rfl) | (go_simp; omega)
  try simp only [pUt, pUn, sEt, sEz, sEs]
  refine tkn (i := 4) (v := .slice va vn vc) (fun W' hSW => ?_) ?_
  ·first | (go_simp; done) | exact rfl | (go_simp; rfl) | (go_simp; omega)
  try simp only [pUt, pUn, sEt, sEz, sEs]
  have b2 := ((Fr0.refl none' w1).drew.block (w.heap.size + 1) (Array.getElem?_eq_some_iff.1 B1.out).1 id).trans B1.out
  have th0 := thaw_in b2 0
  have th1 := thaw_in b2 1
  have c0 := cells_in B1.out 0
  have c1 := cells_in B1.out 1
  simp at c0 c1
  have u0 := thaw_in B1.out 0
  have u1 := thaw_in B1.out 1
  clear b2
  refine take_call (i := 5) rfl (by kernel_rfl) (by kernel_rfl) (fun K hK => ?_)
  go_simp
  have e5 : ((w1.setCell ⟨w.heap.size + 1, 0, none⟩ (.int .i64 y.err)).setCell ⟨w.heap.size + 1, 1, none⟩ (.slice y.sa y.sn y.sc)).heap[w.heap.size + 1]? = some (.cells #[.int .i64 y.err, .slice y.sa y.sn y.sc] 56 (0, 0)) := heap_set_cell (heap_set_cell B1.out _) _
  have f5 : Fr0 (fun k => k = w.heap.size + 1) w1 ((w1.setCell ⟨w.heap.size + 1, 0, none⟩ (.int .i64 y.err)).setCell ⟨w.heap.size + 1, 1, none⟩ (.slice y.sa y.sn y.sc)) := ((Fr0.refl (fun k => k = w.heap.size + 1) w1).setCell (fun _ => rfl) _).setCell (fun _ => rfl) _
  have e6 := ((Fr0.refl none' ((w1.setCell ⟨w.heap.size + 1, 0, none⟩ (.int .i64 y.err)).setCell ⟨w.heap.size + 1, 1, none⟩ (.slice y.sa y.sn y.sc))).drew.block (w.heap.size + 1) (Array.getElem?_eq_some_iff.1 e5).1 id).trans e5
  have F6 := Lib.hid f5.drew
  have E6 := Lib.hid e6
  clear e5 f5 e6 c0 c1 th0 th1 u0 u1
  refine hK.out _ _ F6.out (fun hHeld => ?_)
  clear hK K
  try simp only [pUt, pUn, sEt, sEz, sEs]
  refine tkn (i := 6) (v := .int .i64 0) (fun W' hSW => ?_) ?_
  ·first | (go_simp; done) | exact rfl | (go_simp; rfl) | (go_simp; omega)
  try simp only [pUt, pUn, sEt, sEz, sEs]
  refine wpAnyH_done (by kernel_rfl) ?_ _
  clear hHeld
  generalize ((w1.setCell ⟨w.heap.size + 1, 0, none⟩ (.int .i64 y.err)).setCell ⟨w.heap.size + 1, 1, none⟩ (.slice y.sa y.sn y.sc)).drew = VV at F6 E6 ⊢
  go_wp2_with fail
  have y0 := cells_in E6.out 0
  have y1 := cells_in E6.out 1
  simp at y0 y1
  have hs := F3.out.size
  have hsw := S3.out
  refine bodyPost_ret (v := .tuple #[.slice va vn vc, y.val, .int .i64 0]) (by simp [results, Tryz.results17, go_sem, y0, y1, Td.val]) rfl ⟨_, y, by rw [HF0.out], ?_, HTY.out, ?_, fun g hg e => (HYO.out g e).1 hg, (F3.out.trans HF.out).trans' F6.out (fun k hk h => by have h : k = w.heap.size + 1 := h; omega)⟩
  ·exact ownsRow_k_mono (ownsRow_fr0 HV.out F6.out (fun g hg h => by have := (HV.out.lt g hg).1; have h : g = w.heap.size + 1 := h; omega)) (by omega)
  ·exact ownsRow_k_raise (ownsRow_fr0 HY.out F6.out (fun g hg h => by have := (HYO.out g hg).2.2; have h : g = w.heap.size + 1 := h; omega)) (fun g hg => by have := (HYO.out g hg).2.2; omega)
 ·obtain ⟨hn1, hn2⟩ := playC_none (by rw [hf0]; exact h0)
  obtain ⟨un, hun⟩ : ∃ k, (playC L c [x]).2.1.length = k := ⟨_, rfl⟩
  rw [hun] at hue
  subst hve
  subst hue
  have B1 := Lib.hid b1
  have HF := Lib.hid hf
  have HF0 := Lib.hid hf0
  have HN1 := Lib.hid hn1
  have HN2 := Lib.hid hn2
  have HV := Lib.hid hv
  have d1 : (f == 0) = false := beq_eq_false_iff_ne.2 h0
  have c0 := cells_in B1.out 0
  have c1 := cells_in B1.out 1
  simp at c0 c1
  have u0 := thaw_in B1.out 0
  have u1 := thaw_in B1.out 1
  clear b1 hv hd hf hu hT hui hul hf0 h0 hun hvn hi0 hn1 hn2
  go_wp2_with fail
  have e5 : ((w1.setCell ⟨w.heap.size + 1, 0, none⟩ (.int .i64 0)).setCell ⟨w.heap.size + 1, 1, none⟩ (.slice none 0 0)).heap[w.heap.size + 1]? = some (.cells #[.int .i64 0, .slice none 0 0] 56 (0, 0)) := heap_set_cell (heap_set_cell B1.out _) _
  have f5 : Fr0 (fun k => k = w.heap.size + 1) w1 ((w1.setCell ⟨w.heap.size + 1, 0, none⟩ (.int .i64 0)).setCell ⟨w.heap.size + 1, 1, none⟩ (.slice none 0 0)) := ((Fr0.refl (fun k => k = w.heap.size + 1) w1).setCell (fun _ => rfl) _).setCell (fun _ => rfl) _
  generalize ((w1.setCell ⟨w.heap.size + 1, 0, none⟩ (.int .i64 0)).setCell ⟨w.heap.size + 1, 1, none⟩ (.slice none 0 0)) = VV at e5 f5 ⊢
  have y0 := cells_in e5 0
  have y1 := cells_in e5 1
  simp at y0 y1
  have hs := F3.out.size
  have hsw := S3.out
  refine bodyPost_ret (v := .tuple #[.slice none 0 0, .agg #[.int .i64 0, .slice none 0 0], .int .i64 f]) (by simp [results, Tryz.results17, go_sem, y0, y1]) rfl ⟨_, ⟨0, none, 0, 0, []⟩, by rw [HF0.out]; rfl, ?_, by unfold doT; rw [HN2.out]; rfl, World.ownsRow_nil _ _ _ _, (fun g hg e => by cases hg), (F3.out.trans HF.out).trans' f5 (fun k hk h => by have h : k = w.heap.size + 1 := h; omega)⟩
  rw [HN1.out]
  exact World.ownsRow_nil _ _ _ _
end Go.Proofs.YtieeloealklkgaaGreat

/-
  slices.Sort and slices.Compact at a row of ints.
-/
namespace Go.Proofs.YtieeloealklkgaaGreat
open Go Go.RowKit Go.Sort

theorem fr_putR {enc : Int → Value} {w : World} {g q : Nat} {d : Array Int} : Fr0 (fun k => k = g) w (putRow enc (Sort.ahead w q) g 0 d) := by
 refine ⟨rfl, rfl, rfl, by simp [putRow, mapBlock, Sort.ahead], fun k hk hs => ?_⟩
 simp [putRow, mapBlock, Sort.ahead, Array.getElem?_modify, show g ≠ k from fun e => hs e.symm]
theorem compact_row {w : World} {base g cap n : Nat} (L : List Int) (h : w.ownsRow base 3 1 (.slice (some ⟨g, 0, none⟩) n cap) n (L.map (Value.int .i64))) (hn : n ≤ 1000000) :
  Calls Tryz.prog 65 #[.slice (some ⟨g, 0, none⟩) n cap] w fun e w' => e = .returned (.slice (some ⟨g, 0, none⟩) (Lib.compact L).length cap) ∧ w'.ownsRow base 3 1 (.slice (some ⟨g, 0, none⟩) (Lib.compact L).length cap) (Lib.compact L).length ((Lib.compact L).map (Value.int .i64)) ∧ Fr0 (fun k => k = g) w w' := by
 obtain ⟨g', cap', hv, _, hlt, hcap, _, hl, hH⟩ := Lib.holds_of_ownsRow h (by intro e; cases e)
 injection hv with h1 _ h3
 injection h1 with h1
 injection h1 with h1
 subst h1
 subst h3
 have hc := Tryz.slices_Compact_int g 0 cap L w hH (by omega) (by omega)
 rw [hl] at hc
 refine hc.mono ?_
 rintro e w' ⟨rfl, q, rfl⟩
 have hle : (Lib.compact L).length ≤ n := by
  unfold Lib.compact Lib.compactUpTo
  rw [List.length_map]
  refine Nat.le_trans (List.length_filter_le _ _) ?_
  rw [List.length_range, hl]
  exact Nat.le_refl _
 have hp := Lib.ownsRow_putRow (q := q) (ys := Lib.compact L ++ List.replicate (n - (Lib.compact L).length) 0) h (by rw [List.length_append, List.length_replicate]; omega) hle
 rw [List.take_left' rfl] at hp
 exact ⟨rfl, hp, fr_putR⟩
end Go.Proofs.YtieeloealklkgaaGreat

/-
  calendar: Times.
-/
namespace Go.Proofs.YtieeloealklkgaaGreat
open Go Go.RowKit
attribute [local go_sem ↓] Go.wp_at_zero Go.wp_at_succ
attribute [local go_sem] Oper.semAt_some wide_fn wide_depth wide_fnR wide_depthR

theorem info_intC : (Tryz.prog.info? 3).map (fun i => (i.zero, i.size, i.bytes)) = some (some (.int .i64 0), 1, 8) := by kernel_rfl
def timesE (L : List Ev) : List Int := L.map (·.key.time)
/-- The times, each once. -/
def timesC (L : List Ev) : List Int := Lib.compact (timesE L)
theorem timesE_snoc {L : List Ev} {k : Nat} {x : Ev} (h : L[k]? = some x) : (timesE (L.take (k + 1))).map (Value.int .i64) = (timesE (L.take k)).map (Value.int .i64) ++ [Value.int .i64 x.key.time] := by
 unfold timesE
 rw [List.take_add_one, h]
 simp
theorem Compact_zeroI (a : Option Addr) (cap : Nat) (w : World) : Calls Tryz.prog 65 #[.slice a 0 cap] w fun e w' => e = .returned (.slice a 0 cap) ∧ w = w' := by
 go_enter Tryz.func65, Tryz.ntmps65
 go_wp2
 go_ret
 exact ⟨rfl, rfl⟩
set_option maxRecDepth 100000 in
set_option maxHeartbeats 2000000 in
theorem Times_any {w : World} {a : Option Addr} {n cap : Nat} (L : List Ev) (h : EsIn w a L) (hl : L.length = n) (hn : n ≤ 10000) :
  Calls Tryz.prog 33 #[.slice a n cap] w fun e w' => ∃ v, e = .returned (.tuple #[v, .int .i64 (if AscE L then 0 else 110)]) ∧ w'.ownsRow w.heap.size 3 1 v (if AscE L then (timesC L).length else 0) ((if AscE L then timesC L else []).map (Value.int .i64)) ∧ Fr0 none' w w' := by
 obtain ⟨i0, hi, hz0, hz1, hz2⟩ := info_parts info_intC
 have HS := Lib.hid (Sorted_any (cap := cap) L h hl hn)
 have H := Lib.hid h
 have Hl := Lib.hid hl
 obtain ⟨N, hN⟩ : ∃ N, w.heap.size = N := ⟨_, rfl⟩
 have HN := Lib.hid hN
 rw [hN]
 clear h hl hN
 by_cases ho : AscE L
 ·rw [show decide (AscE L) = true from decide_eq_true ho] at HS
  simp only [if_pos ho]
  clear ho
  go_enter Tryz.func33, Tryz.ntmps33
  go_wp2_with fail
  refine HS.out.mono ?_
  rintro e w1 ⟨rfl, hf⟩
  have F1 := Lib.hid hf
  have H1 := Lib.hid (H.out.later hf)
  clear hf
  go_wp2_with fail
  go_loopw [4, 12] (fun out i wr => ∃ k : Nat, k ≤ n ∧ i = .int .i64 k ∧ Hid (wr.ownsRow N 3 1 out k ((timesE (L.take k)).map (Value.int .i64))) ∧ Hid (Fr0 none' w wr)) (fun _ i _ => n - (Go.RowKit.intOf i).toNat)
  case atStart => exact ⟨0, Nat.zero_le _, rfl, World.ownsRow_nil _ _ _ _, F1⟩
  case round =>
   obtain ⟨k, hk, rfl, hown, hfr⟩ := hrel
   by_cases hlt : k < n
   ·obtain ⟨x, hx⟩ : ∃ x, L[k]? = some x := ⟨_, List.getElem?_eq_getElem (by rw [Hl.out]; exact hlt)⟩
    obtain ⟨g, o, rfl, hxc⟩ := (H.out.later hfr.out) k x hx
    obtain ⟨x0, x1, x2, x3, x4⟩ := hxc
    have k1 : (0 : Int) ≤ (k : Int) := by omega
    have k2 : (k : Int) < (n : Int) := by omega
    have hsrc := Src.newRow (P := Tryz.prog) (size := 1) (tx := 35) (ty := 3) (wr.alloc (.cells #[.int .i64 x.key.time, .int .i64 x.key.source, .int .i64 x.key.seq, .int .i64 x.to, .int .i64 x.value] 30)) Tryz.underlying35 1 1 [.int .i64 x.key.time] rfl (by simp [Value.oneCell'])
    rw [World.size_alloc] at hsrc
    have hNr : N ≤ wr.heap.size := by rw [← HN.out]; exact hfr.out.size
    have Hst := Lib.hid (timesE_snoc hx)
    have Hown2 := Lib.hid ((hown.out.alloc (.cells #[.int .i64 x.key.time, .int .i64 x.key.source, .int .i64 x.key.seq, .int .i64 x.to, .int .i64 x.value] 30)).alloc (.cells [Value.int .i64 x.key.time].toArray 3))
    have Fr2 := Lib.hid ((hfr.out.alloc (.cells #[.int .i64 x.key.time, .int .i64 x.key.source, .int .i64 x.key.seq, .int .i64 x.to, .int .i64 x.value] 30)).alloc (.cells [Value.int .i64 x.key.time].toArray 3))
    have Hsrc := Lib.hid hsrc
    obtain ⟨va, vc, rfl⟩ : ∃ va vc, u4 = .slice va k vc := by
     rcases hown.out.2 with ⟨rfl, h0⟩ | ⟨g, cap, cur, rfl, _⟩
     ·exact ⟨none, 0, by rw [h0]⟩
     ·exact ⟨_, cap, rfl⟩
    clear hx hsrc hown hfr
    go_wp2_with (at_builtin; refine wpList_append_k rfl _ _ 35 35 rfl N 3 i0 (.int .i64 0) 1 8 Tryz.underlying35 hi hz0 hz1 hz2 rfl (by decide) _ k _ rfl Hown2.out (.slice (some ⟨wr.heap.size + 1, 0, none⟩) 1 1) 1 _ rfl Hsrc.out (by unfold maxLen; omega) (by omega) (by simp; omega) ?_; intro v' w2 hown' hgrow hdr hob)
    have Hfin := Lib.hid (Fr2.out.grown hgrow (fun j hj hl => by
     have h1 := (Hown2.out.lt j hj).1
     rw [HN.out] at hl; omega))
    rw [← Hst.out] at hown'
    have Hown' := Lib.hid hown'
    obtain ⟨g', cap', rfl⟩ := ownsRow_k_succ hown'
    clear hgrow hdr hob hown'
    go_wp2
    go_roundw
    case rel => exact ⟨k + 1, by omega, by go_num, Hown', Hfin⟩
    case measure => simp [Go.RowKit.intOf]; omega
   ·have hkm : k = n := by omega
    subst hkm
    have hfin : wr.ownsRow N 3 1 u4 k ((timesE L).map (Value.int .i64)) := by
     have h1 := hown.out
     rw [List.take_of_length_le (by rw [Hl.out]; exact Nat.le_refl _)] at h1
     exact h1
    have Hf := Lib.hid hfin
    rcases hfin.2 with ⟨rfl, h0⟩ | ⟨g, cu, cur, rfl, _⟩
    ·have hLn : Hid (timesC L = []) := by
      have : L = [] := List.eq_nil_of_length_eq_zero (by rw [Hl.out]; exact h0)
      rw [this]; rfl
     have HZ := Lib.hid (Compact_zeroI none 0 wr)
     clear hown hfin h0
     go_wp2_with fail
     refine HZ.out.mono ?_
     rintro e w2 ⟨rfl, rfl⟩
     go_wp2_with fail
     go_ret2
     exact ⟨_, rfl, by rw [hLn.out]; exact World.ownsRow_nil _ _ _ _, hfr.out⟩
    ·have HC := Lib.hid (compact_row (timesE L) hfin (by omega))
     have Hlt := Lib.hid hfin.lt
     clear hown hfin
     go_wp2_with fail
     refine HC.out.mono ?_
     rintro e w2 ⟨rfl, hrow, hf2⟩
     have HR := Lib.hid hrow
     have HF := Lib.hid (hfr.out.trans' hf2 (fun k hk h => by have h1 := (Hlt.out g rfl).1; have h : k = g := h; rw [← HN.out] at h1; omega))
     clear hrow hf2
     go_wp2_with fail
     go_ret2
     exact ⟨_, rfl, HR.out, HF.out⟩
 ·rw [show decide (AscE L) = false from decide_eq_false ho] at HS
  simp only [if_neg ho]
  clear ho
  go_enter Tryz.func33, Tryz.ntmps33
  go_wp2_with fail
  refine HS.out.mono ?_
  rintro e w1 ⟨rfl, hf⟩
  have F1 := Lib.hid hf
  clear hf
  go_wp2_with fail
  go_ret2
  exact ⟨_, rfl, World.ownsRow_nil _ _ _ _, F1.out⟩
end Go.Proofs.YtieeloealklkgaaGreat

/-
  slices.Equal at ints.
-/
namespace Go.Proofs.YtieeloealklkgaaGreat
open Go Go.RowKit
attribute [local go_sem ↓] Go.wp_at_zero Go.wp_at_succ

/-- Ints in memory. -/
def IsIn (w : World) (a : Option Addr) (L : List Int) : Prop := ∀ i x, L[i]? = some x → ∃ g o, a = some ⟨g, o, none⟩ ∧ w.cell? ⟨g, o + i, none⟩ = some (.int .i64 x)
theorem IsIn.fr0 {S : Nat → Prop} {w w' : World} {a : Option Addr} {L : List Int} (h : IsIn w a L) (hf : Fr0 S w w') (hS : ∀ g o s, a = some ⟨g, o, s⟩ → ¬ S g) : IsIn w' a L := fun i x hx => by
 obtain ⟨g, o, rfl, hc⟩ := h i x hx
 exact ⟨g, o, rfl, (hf.cell (p := ⟨g, o + i, none⟩) (World.block_lt_of_cell? _ _ hc) (hS g o none rfl)).trans hc⟩
theorem IsIn.later {w w' : World} {a : Option Addr} {L : List Int} (h : IsIn w a L) (hf : Fr0 none' w w') : IsIn w' a L := h.fr0 hf (fun _ _ _ _ h => h)
theorem IsIn.of_own {w : World} {base : Nat} {v : Value} {n : Nat} {L : List Int} (h : w.ownsRow base 3 1 v n (L.map (Value.int .i64))) : ∃ a cap, v = .slice a n cap ∧ L.length = n ∧ IsIn w a L := by
 have hl : L.length = n := by have := h.1; rw [List.length_map] at this; omega
 rcases h.2 with ⟨rfl, h0⟩ | ⟨g, cap, cur, rfl, hb, hg, hn', hcm, hs, ht⟩
 ·have : L = [] := List.eq_nil_of_length_eq_zero (by omega)
  subst this
  exact ⟨none, 0, by rw [h0], hl, fun i x h => by simp at h⟩
 ·refine ⟨_, cap, rfl, hl, fun i x hx => ⟨g, 0, rfl, ?_⟩⟩
  have hj : (L.map (Value.int .i64))[i]? = some (.int .i64 x) := by rw [List.getElem?_map, hx]; rfl
  rw [Nat.zero_add, cells_in hg, ← Array.getElem?_toList]
  rw [← ht, List.getElem?_take] at hj
  split at hj
  ·exact hj
  ·cases hj
set_option maxRecDepth 100000 in
set_option maxHeartbeats 2000000 in
theorem sameIs_any (a a' : Option Addr) (n n' cap cap' : Nat) (xs ys : List Int) (w : World) (hn : xs.length = n) (hn' : ys.length = n') (hm : n ≤ 1000000) (hm' : n' ≤ 1000000)
  (hc : IsIn w a xs) (hc' : IsIn w a' ys) :
  Calls Tryz.prog 34 #[.slice a n cap, .slice a' n' cap'] w fun e w' => e = .returned (.bool (decide (xs = ys))) ∧ Fr0 none' w w' := by
 obtain ⟨R, hR⟩ : ∃ R, decide (xs = ys) = R := ⟨_, rfl⟩
 rw [hR]
 have HR := Lib.hid hR
 have Hn := Lib.hid hn
 have Hn' := Lib.hid hn'
 have Hc := Lib.hid hc
 have Hc' := Lib.hid hc'
 clear hR hn hn' hc hc'
 by_cases hnn : n = n'
 ·subst hnn
  have d0 : ((n : Int) != (n : Int)) = false := by simp
  go_enter Tryz.func34, Tryz.ntmps34
  go_wp2
  clear d0
  go_loopw [13] (fun i wr => ∃ k : Nat, k ≤ n ∧ i = .int .i64 k ∧ Hid (xs.take k = ys.take k) ∧ Hid (Fr0 none' w wr)) (fun i _ => n - (Go.RowKit.intOf i).toNat)
  case atStart => exact ⟨0, Nat.zero_le _, rfl, rfl, Fr0.refl _ _⟩
  case round =>
   obtain ⟨k, hk, rfl, hpre, hb⟩ := hrel
   by_cases hlt : k < n
   ·have h1 : k < xs.length := by rw [Hn.out]; exact hlt
    have h2 : k < ys.length := by rw [Hn'.out]; exact hlt
    obtain ⟨x, hx⟩ : ∃ x, xs[k]? = some x := ⟨_, List.getElem?_eq_getElem h1⟩
    obtain ⟨y, hy⟩ : ∃ y, ys[k]? = some y := ⟨_, List.getElem?_eq_getElem h2⟩
    obtain ⟨g, o, rfl, hcx⟩ := Hc.out k x hx
    obtain ⟨g', o', rfl, hcy⟩ := Hc'.out k y hy
    have x0 := hb.out.later hcx
    have y0 := hb.out.later hcy
    have hx' := Lib.hid hx
    have hy' := Lib.hid hy
    have FW := hb
    clear hx hy h1 h2 hcx hcy
    have c1 : (0 : Int) ≤ (k : Int) := by omega
    have c2 : (k : Int) < (n : Int) := by omega
    by_cases hxy : x = y
    ·subst hxy
     have d1 : (x == x) = true := beq_self_eq_true x
     have d2 : (x != x) = false := by simp
     go_wp2
     go_quiet (fail)

     go_wp2
     refine ⟨⟨k + 1, by omega, by go_num, by unfold Hid; rw [List.take_add_one, List.take_add_one, hpre.out, hx'.out, hy'.out], by first | exact FW | exact ⟨FW.out.os, FW.out.tape, FW.out.output, FW.out.size, FW.out.block⟩⟩, ?_⟩
     simp [Go.RowKit.intOf]; omega
    ·have d1 : (x == y) = false := beq_eq_false_iff_ne.2 hxy
     have d2 : (x != y) = true := bne_iff_ne.2 hxy
     have hres : Hid (false = R) := by
      unfold Hid; rw [← HR.out]
      refine (decide_eq_false (fun h => hxy ?_)).symm
      have := hx'.out; rw [h, hy'.out] at this; exact (Option.some.inj this).symm
     clear hxy
     go_wp2
     go_quiet (fail)

     go_wp2
     go_ret
     exact ⟨ret_bool hres.out, by first | exact FW.out | exact ⟨FW.out.os, FW.out.tape, FW.out.output, FW.out.size, FW.out.block⟩⟩
   ·have hres : Hid (true = R) := by
     unfold Hid; rw [← HR.out]
     refine (decide_eq_true ?_).symm
     have := hpre.out
     rwa [List.take_of_length_le (by rw [Hn.out]; omega), List.take_of_length_le (by rw [Hn'.out]; omega)] at this
    go_wp2
    go_ret
    exact ⟨ret_bool hres.out, hb⟩
 ·have hres : Hid (false = R) := by
   unfold Hid; rw [← HR.out]
   refine (decide_eq_false (fun h => hnn ?_)).symm
   rw [← Hn.out, ← Hn'.out, h]
  have d0 : ((n : Int) != (n' : Int)) = true := by simp; omega
  clear hnn
  go_enter Tryz.func34, Tryz.ntmps34
  go_wp2
  go_ret
  exact ⟨ret_bool hres.out, Fr0.refl _ _⟩
end Go.Proofs.YtieeloealklkgaaGreat

/-
  The example of the chapter calendar.
-/
namespace Go.Proofs.YtieeloealklkgaaGreat
open Go Go.RowKit
attribute [local go_sem ↓] Go.wp_at_zero Go.wp_at_succ
attribute [local go_sem] Oper.semAt_some wide_fn wide_depth wide_fnR wide_depthR

set_option maxRecDepth 100000 in
set_option maxHeartbeats 1000000 in
theorem cat_any (a b c : Int) (w : World) : Calls Tryz.prog 9 #[.int .i64 a, .int .i64 b, .int .i64 c] w fun e w' => e = .returned (evV ⟨⟨a, b, c⟩, 1, 0⟩) ∧ Fr0 none' w w' := by
 unfold evV
 go_enter Tryz.func9, Tryz.ntmps9
 go_wp2_with fail
 obtain ⟨V, hV⟩ : ∃ V, (w.alloc (.cells #[.int .i64 a, .int .i64 b, .int .i64 c, .int .i64 1, .int .i64 0] 30)) = V := ⟨_, rfl⟩
 have hf : Fr0 none' w V := by rw [← hV]; exact (Fr0.refl _ _).alloc _
 have hb : V.heap[w.heap.size]? = some (.cells #[.int .i64 a, .int .i64 b, .int .i64 c, .int .i64 1, .int .i64 0] 30 (0, 0)) := by
  rw [← hV]
  exact World.alloc_heap_new w _
 rw [hV]
 have y0 := cells_in hb 0
 have y1 := cells_in hb 1
 have y2 := cells_in hb 2
 have y3 := cells_in hb 3
 have y4 := cells_in hb 4
 simp at y0 y1 y2 y3 y4
 exact bodyPost_ret (v := .agg #[.int .i64 a, .int .i64 b, .int .i64 c, .int .i64 1, .int .i64 0]) (by simp [results, Tryz.results9, go_sem, y0, y1, y2, y3, y4]) rfl ⟨rfl, hf⟩
theorem own_cap {w : World} {base : Nat} {e : TypeId} {size : Nat} {v : Value} {n : Nat} {xs : List Value} (h : w.ownsRow base e size v n xs) {a : Option Addr} {m c : Nat} (hv : v = .slice a m c) : n ≤ c := by
 rcases h.2 with ⟨rfl, h0⟩ | ⟨g, cap, cur, rfl, _, _, hn, _⟩
 ·injection hv with h1 h2 h3; omega
 ·injection hv with h1 h2 h3; omega
/-- Do at what it is known to do. -/
theorem Do_told {w : World} {a : Option Addr} {n cap : Nat} {c : Int} {L E : List Ev} {x : Ca} {T : Tl} {i f : Int} (hp : playC L c [x] = (E, [T], i, f)) (h : EsIn w a L) (hl : L.length = n) (hn : n ≤ 10000) (hcap : n ≤ cap) (hk : 0 ≤ x.kind ∧ x.kind < 256) :
  Calls Tryz.prog 17 #[.slice a n cap, .int .i64 c, actCV x] w fun e w' => ∃ va vc ya yc, e = .returned (.tuple #[.slice va E.length vc, .agg #[.int .i64 T.err, .slice ya T.evs.length yc], .int .i64 f]) ∧ E.length ≤ vc ∧ EsIn w' va E ∧ EsIn w' ya T.evs ∧ Fr0 none' w w' := by
 refine (Do_any (c := c) L x h hl hn hcap hk).mono ?_
 rintro e w' ⟨v, y, rfl, hv, hy, hyr, _, hf⟩
 unfold doT at hy
 rw [hp] at hv hy ⊢
 simp only [List.headD_cons] at hy
 subst hy
 obtain ⟨va, vc, rfl, _, h1⟩ := EsIn.of_own hv
 obtain ⟨ya, yc, hye, _, h2⟩ := EsIn.of_own hyr
 refine ⟨va, vc, ya, yc, ?_, own_cap hv rfl, h1, h2, hf⟩
 unfold Td.v at hye
 unfold Td.val Td.tl
 rw [hye]
/-- Play at what it is known to do. -/
theorem Play_told {w : World} {a aa : Option Addr} {n cap m ca : Nat} {c : Int} {L E : List Ev} {A : List Ca} {T : List Tl} {i f : Int} (hp : playC L c A = (E, T, i, f)) (h : EsIn w a L) (hl : L.length = n) (hn : n ≤ 10000) (hcap : n ≤ cap) (hA : CasIn w aa A) (hAl : A.length = m) (hm : m ≤ 100000) (hk : ∀ x ∈ A, 0 ≤ x.kind ∧ x.kind < 256) :
  Calls Tryz.prog 15 #[.slice a n cap, .int .i64 c, .slice aa m ca] w fun e w' => ∃ va vc ua uc ys, e = .returned (.tuple #[.slice va E.length vc, .slice ua T.length uc, .int .i64 i, .int .i64 f]) ∧ E.length ≤ vc ∧ EsIn w' va E ∧ TdsIn w' ua ys ∧ ys.map Td.tl = T ∧ (∀ y ∈ ys, EsIn w' y.sa y.evs ∧ y.sn = y.evs.length) ∧ Fr0 none' w w' := by
 refine (Play_any (c := c) L A h hl hn hcap hA hAl hm hk).mono ?_
 rintro e w' ⟨v, u, ys, rfl, hv, hu, hT, _, hf⟩
 rw [hp] at hv hu hT ⊢
 obtain ⟨va, vc, rfl, _, h1⟩ := EsIn.of_own hv
 obtain ⟨ua, uc, rfl, _, h2⟩ := TdsIn.of_own hu
 refine ⟨va, vc, ua, uc, ys, rfl, own_cap hv rfl, h1, h2, hT.tl, fun y hy => ?_, hf⟩
 obtain ⟨ya, yc, hye, _, h3⟩ := EsIn.of_own (hT.row y hy)
 unfold Td.v at hye
 injection hye with e1 e2 e3
 exact ⟨by rw [e1]; exact h3, e2⟩
theorem three_of {α β : Type} {f : α → β} {ys : List α} {a b c : β} (h : ys.map f = [a, b, c]) : ∃ x y z, ys = [x, y, z] := by
 have hl : ys.length = 3 := by rw [← List.length_map (f := f), h]; rfl
 cases ys with
 | nil => simp at hl
 | cons x r =>
  cases r with
  | nil => simp at hl
  | cons y r =>
   cases r with
   | nil => simp at hl
   | cons z r =>
    cases r with
    | nil => exact ⟨x, y, z, rfl⟩
    | cons _ _ => simp at hl
def caA : Ev := ⟨⟨5, 1, 0⟩, 1, 0⟩
def caB : Ev := ⟨⟨3, 2, 0⟩, 1, 0⟩
def caC : Ev := ⟨⟨9, 3, 3⟩, 1, 0⟩
def evZ : Ev := ⟨⟨0, 0, 0⟩, 0, 0⟩
theorem goodA : GoodE 2 [caA] := ⟨by decide, by unfold OnceE; decide, by intro x hx; simp at hx; subst hx; decide, by decide⟩
theorem goodBA : GoodE 2 [caB, caA] := ⟨by decide, by unfold OnceE; decide, by intro x hx; simp at hx; rcases hx with rfl | rfl <;> decide, by decide⟩
theorem awake_p1 : playC [caA] 2 [⟨1, caB, 0⟩] = ([caB, caA], [⟨0, []⟩], -1, 0) := by
 rw [show (2 : Int) = ((2 : Nat) : Int) from rfl, playC_ok goodA (by omega) (by intro a ha; simp at ha; subst ha; decide)]
 decide
theorem awake_p2 : playC [caB, caA] 2 [⟨1, caC, 0⟩] = ([caB, caA], [⟨4, []⟩], -1, 0) := by
 rw [show (2 : Int) = ((2 : Nat) : Int) from rfl, playC_ok goodBA (by omega) (by intro a ha; simp at ha; subst ha; decide)]
 decide
theorem awake_p3 : playC [caB, caA] 2 [⟨3, evZ, 5⟩, ⟨4, caA, 0⟩, ⟨2, evZ, 0⟩] = ([], [⟨0, [caB]⟩, ⟨0, [caA]⟩, ⟨6, []⟩], -1, 0) := by
 rw [show (2 : Int) = ((2 : Nat) : Int) from rfl, playC_ok goodBA (by omega) (by intro a ha; simp at ha; rcases ha with rfl | rfl | rfl <;> decide)]
 decide
theorem awake_c : countC [caB, caA] 3 5 = (1, 0) := by unfold countC; rw [if_pos (by decide)]; rfl
theorem awake_t : timesC [caB, caA] = [3, 5] := by decide
set_option maxRecDepth 100000 in
set_option maxHeartbeats 4000000 in
theorem cawake_any (w : World) : Calls Tryz.prog 8 #[] w fun e w' => e = .returned (.bool true) ∧ Fr0 none' w w' := by
 go_enter Tryz.func8, Tryz.ntmps8
 have F := Lib.hid (Fr0.refl none' w)
 go_wp2_with fail
 refine (cat_any 5 1 0 _).mono ?_
 rintro e wA ⟨rfl, hfA⟩
 have F := Lib.hid (F.out.trans hfA)
 clear hfA
 simp only [evV]
 go_wp2_with fail
 refine (cat_any 3 2 0 _).mono ?_
 rintro e wA ⟨rfl, hfA⟩
 have F := Lib.hid (F.out.trans hfA)
 clear hfA
 simp only [evV]
 go_wp2_with fail
 obtain ⟨ab, hab⟩ : ∃ b, wA.heap.size = b := ⟨_, rfl⟩
 obtain ⟨W1, hW1⟩ : ∃ W, ((wA.alloc (.cells #[.int .i64 5, .int .i64 1, .int .i64 0, .int .i64 1, .int .i64 0] 30)).alloc (.cells #[.int .i64 3, .int .i64 2, .int .i64 0, .int .i64 1, .int .i64 0] 30)).alloc (.cells #[.int .i64 5, .int .i64 1, .int .i64 0, .int .i64 1, .int .i64 0] 30) = W := ⟨_, rfl⟩
 have hA : W1.heap[ab]? = some (.cells #[.int .i64 5, .int .i64 1, .int .i64 0, .int .i64 1, .int .i64 0] 30 (0, 0)) := by
  rw [← hW1, ← hab]
  exact ((((Fr0.refl none' _).alloc _).alloc _).block _ (by rw [World.size_alloc]; omega) id).trans (World.alloc_heap_new wA _)
 have hB : W1.heap[ab + 1]? = some (.cells #[.int .i64 3, .int .i64 2, .int .i64 0, .int .i64 1, .int .i64 0] 30 (0, 0)) := by
  have h1 := World.alloc_heap_new (wA.alloc (.cells #[.int .i64 5, .int .i64 1, .int .i64 0, .int .i64 1, .int .i64 0] 30)) (.cells #[.int .i64 3, .int .i64 2, .int .i64 0, .int .i64 1, .int .i64 0] 30)
  rw [World.size_alloc, hab] at h1
  rw [← hW1]
  exact (((Fr0.refl none' _).alloc _).block _ (by rw [World.size_alloc, World.size_alloc, hab]; omega) id).trans h1
 have hl : EsIn W1 (some ⟨ab + 1 + 1, 0, none⟩) [caA] := by
  have h1 := World.alloc_heap_new ((wA.alloc (.cells #[.int .i64 5, .int .i64 1, .int .i64 0, .int .i64 1, .int .i64 0] 30)).alloc (.cells #[.int .i64 3, .int .i64 2, .int .i64 0, .int .i64 1, .int .i64 0] 30)) (.cells #[.int .i64 5, .int .i64 1, .int .i64 0, .int .i64 1, .int .i64 0] 30)
  rw [World.size_alloc, World.size_alloc, hab, hW1] at h1
  exact EsIn.of_cells (n := 1) h1 (by simp [flatEv, cev, caA])
 have HA := Lib.hid hA
 have HB := Lib.hid hB
 have F := Lib.hid (F.out.trans (show Fr0 none' wA W1 by rw [← hW1]; exact (((Fr0.refl _ _).alloc _).alloc _).alloc _))
 rw [hW1]
 try rw [hab]
 clear hA hB hW1 hab
 have HD := Do_told (n := 1) (cap := 1) awake_p1 hl rfl (by omega) (by omega) (by decide)
 simp only [actCV] at HD
 rw [show caB.key.time = 3 from rfl, show caB.key.source = 2 from rfl, show caB.key.seq = 0 from rfl, show caB.to = 1 from rfl, show caB.value = 0 from rfl] at HD
 refine HD.mono ?_
 clear hl HD
 rintro e w2 ⟨va, vc, ya, yc, rfl, hvc, hv, hy, hf⟩
 simp only [List.length_cons, List.length_nil, Nat.zero_add, Nat.reduceAdd] at hvc
 have HA := Lib.hid ((hf.block ab (Array.getElem?_eq_some_iff.1 HA.out).1 id).trans HA.out)
 have HB := Lib.hid ((hf.block (ab + 1) (Array.getElem?_eq_some_iff.1 HB.out).1 id).trans HB.out)
 have F := Lib.hid (F.out.trans hf)
 have HV := Lib.hid hv
 clear hv hy hf
 simp only [List.length_cons, List.length_nil, Nat.zero_add, Nat.reduceAdd]
 go_wp2_with fail
 obtain ⟨tb, htb⟩ : ∃ b, w2.heap.size = b := ⟨_, rfl⟩
 obtain ⟨W, hW⟩ : ∃ W, w2.alloc (.cells #[.int .i64 0, .slice ya 0 yc] 56) = W := ⟨_, rfl⟩
 have hf : Fr0 none' w2 W := by rw [← hW]; exact (Fr0.refl _ _).alloc _
 have hnew : W.heap[tb]? = some (.cells #[.int .i64 0, .slice ya 0 yc] 56 (0, 0)) := by rw [← hW, ← htb]; exact World.alloc_heap_new _ _
 rw [hW]
 try rw [htb]
 have HA := Lib.hid ((hf.block _ (Array.getElem?_eq_some_iff.1 HA.out).1 id).trans HA.out)
 have HB := Lib.hid ((hf.block _ (Array.getElem?_eq_some_iff.1 HB.out).1 id).trans HB.out)
 have HV := Lib.hid (HV.out.later hf)
 have F := Lib.hid (F.out.trans hf)
 try have HT := Lib.hid ((hf.block _ (Array.getElem?_eq_some_iff.1 HT.out).1 id).trans HT.out)
 try have HU := Lib.hid ((hf.block _ (Array.getElem?_eq_some_iff.1 HU.out).1 id).trans HU.out)
 try have HS := Lib.hid (HS.out.later hf)
 clear hf hW htb
 have HT := Lib.hid hnew
 clear hnew
 refine (cat_any 9 3 3 _).mono ?_
 rintro e wC ⟨rfl, hf⟩
 have HA := Lib.hid ((hf.block _ (Array.getElem?_eq_some_iff.1 HA.out).1 id).trans HA.out)
 have HB := Lib.hid ((hf.block _ (Array.getElem?_eq_some_iff.1 HB.out).1 id).trans HB.out)
 have HV := Lib.hid (HV.out.later hf)
 have F := Lib.hid (F.out.trans hf)
 try have HT := Lib.hid ((hf.block _ (Array.getElem?_eq_some_iff.1 HT.out).1 id).trans HT.out)
 try have HU := Lib.hid ((hf.block _ (Array.getElem?_eq_some_iff.1 HU.out).1 id).trans HU.out)
 try have HS := Lib.hid (HS.out.later hf)
 clear hf
 simp only [evV]
 go_wp2_with fail
 have HD := Do_told (n := 2) (cap := vc) awake_p2 HV.out rfl (by omega) hvc (by decide)
 simp only [actCV] at HD
 rw [show caC.key.time = 9 from rfl, show caC.key.source = 3 from rfl, show caC.key.seq = 3 from rfl, show caC.to = 1 from rfl, show caC.value = 0 from rfl] at HD
 refine HD.mono ?_
 clear HD
 rintro e w3 ⟨sa, sc, za, zc, rfl, hsc, hs, hz, hf⟩
 simp only [List.length_cons, List.length_nil, Nat.zero_add, Nat.reduceAdd] at hsc
 have HA := Lib.hid ((hf.block _ (Array.getElem?_eq_some_iff.1 HA.out).1 id).trans HA.out)
 have HB := Lib.hid ((hf.block _ (Array.getElem?_eq_some_iff.1 HB.out).1 id).trans HB.out)
 have HV := Lib.hid (HV.out.later hf)
 have F := Lib.hid (F.out.trans hf)
 try have HT := Lib.hid ((hf.block _ (Array.getElem?_eq_some_iff.1 HT.out).1 id).trans HT.out)
 try have HU := Lib.hid ((hf.block _ (Array.getElem?_eq_some_iff.1 HU.out).1 id).trans HU.out)
 try have HS := Lib.hid (HS.out.later hf)
 have HS := Lib.hid hs
 clear hs hz hf
 simp only [List.length_cons, List.length_nil, Nat.zero_add, Nat.reduceAdd]
 obtain ⟨ub, hub⟩ : ∃ b, w3.heap.size = b := ⟨_, rfl⟩
 obtain ⟨W, hW⟩ : ∃ W, w3.alloc (.cells #[.int .i64 4, .slice za 0 zc] 56) = W := ⟨_, rfl⟩
 have hf : Fr0 none' w3 W := by rw [← hW]; exact (Fr0.refl _ _).alloc _
 have hnew : W.heap[ub]? = some (.cells #[.int .i64 4, .slice za 0 zc] 56 (0, 0)) := by rw [← hW, ← hub]; exact World.alloc_heap_new _ _
 have HA := Lib.hid ((hf.block _ (Array.getElem?_eq_some_iff.1 HA.out).1 id).trans HA.out)
 have HB := Lib.hid ((hf.block _ (Array.getElem?_eq_some_iff.1 HB.out).1 id).trans HB.out)
 have HV := Lib.hid (HV.out.later hf)
 have F := Lib.hid (F.out.trans hf)
 try have HT := Lib.hid ((hf.block _ (Array.getElem?_eq_some_iff.1 HT.out).1 id).trans HT.out)
 try have HU := Lib.hid ((hf.block _ (Array.getElem?_eq_some_iff.1 HU.out).1 id).trans HU.out)
 try have HS := Lib.hid (HS.out.later hf)
 have HU := Lib.hid hnew
 clear hnew hf
 have a0 := cells_in HA.out 0
 have a1 := cells_in HA.out 1
 have a2 := cells_in HA.out 2
 have a3 := cells_in HA.out 3
 have a4 := cells_in HA.out 4
 simp at a0 a1 a2 a3 a4
 go_wp2_with fail
 clear a0 a1 a2 a3 a4
 try rw [hub]
 clear hW hub
 obtain ⟨lb, hlb⟩ : ∃ b, W.heap.size = b := ⟨_, rfl⟩
 obtain ⟨V, hV⟩ : ∃ V, W.alloc (.cells #[.int .u8 3, .int .i64 0, .int .i64 0, .int .i64 0, .int .i64 0, .int .i64 0, .int .i64 5, .int .u8 4, .int .i64 5, .int .i64 1, .int .i64 0, .int .i64 1, .int .i64 0, .int .i64 0, .int .u8 2, .int .i64 0, .int .i64 0, .int .i64 0, .int .i64 0, .int .i64 0, .int .i64 0] 33) = V := ⟨_, rfl⟩
 have hf : Fr0 none' W V := by rw [← hV]; exact (Fr0.refl _ _).alloc _
 have hnew : V.heap[lb]? = some (.cells #[.int .u8 3, .int .i64 0, .int .i64 0, .int .i64 0, .int .i64 0, .int .i64 0, .int .i64 5, .int .u8 4, .int .i64 5, .int .i64 1, .int .i64 0, .int .i64 1, .int .i64 0, .int .i64 0, .int .u8 2, .int .i64 0, .int .i64 0, .int .i64 0, .int .i64 0, .int .i64 0, .int .i64 0] 33 (0, 0)) := by rw [← hV, ← hlb]; exact World.alloc_heap_new _ _
 rw [hV]
 try rw [hlb]
 have HA := Lib.hid ((hf.block _ (Array.getElem?_eq_some_iff.1 HA.out).1 id).trans HA.out)
 have HB := Lib.hid ((hf.block _ (Array.getElem?_eq_some_iff.1 HB.out).1 id).trans HB.out)
 have HV := Lib.hid (HV.out.later hf)
 have F := Lib.hid (F.out.trans hf)
 try have HT := Lib.hid ((hf.block _ (Array.getElem?_eq_some_iff.1 HT.out).1 id).trans HT.out)
 try have HU := Lib.hid ((hf.block _ (Array.getElem?_eq_some_iff.1 HU.out).1 id).trans HU.out)
 try have HS := Lib.hid (HS.out.later hf)
 have hcas : CasIn V (some ⟨lb, 0, none⟩) [⟨3, evZ, 5⟩, ⟨4, caA, 0⟩, ⟨2, evZ, 0⟩] := fun i y hy => by
  match i with
  | 0 =>
   obtain rfl : _ = y := by simpa using hy
   exact ⟨_, _, rfl, cells_in hnew 0, cells_in hnew 1, cells_in hnew 2, cells_in hnew 3, cells_in hnew 4, cells_in hnew 5, cells_in hnew 6⟩
  | 1 =>
   obtain rfl : _ = y := by simpa using hy
   exact ⟨_, _, rfl, cells_in hnew 7, cells_in hnew 8, cells_in hnew 9, cells_in hnew 10, cells_in hnew 11, cells_in hnew 12, cells_in hnew 13⟩
  | 2 =>
   obtain rfl : _ = y := by simpa using hy
   exact ⟨_, _, rfl, cells_in hnew 14, cells_in hnew 15, cells_in hnew 16, cells_in hnew 17, cells_in hnew 18, cells_in hnew 19, cells_in hnew 20⟩
  | i + 3 => simp at hy
 have HP := Play_told (n := 2) (cap := vc) (m := 3) (ca := 3) awake_p3 HV.out rfl (by omega) hvc hcas rfl (by omega) (by intro x hx; simp at hx; rcases hx with rfl | rfl | rfl <;> decide)
 refine HP.mono ?_
 clear hnew hf hcas hV hlb HP
 rintro e w4 ⟨pa, pc, ua, uc, ys, rfl, _, hp, hu, hys, hyr, hf⟩
 have HA := Lib.hid ((hf.block _ (Array.getElem?_eq_some_iff.1 HA.out).1 id).trans HA.out)
 have HB := Lib.hid ((hf.block _ (Array.getElem?_eq_some_iff.1 HB.out).1 id).trans HB.out)
 have HV := Lib.hid (HV.out.later hf)
 have F := Lib.hid (F.out.trans hf)
 try have HT := Lib.hid ((hf.block _ (Array.getElem?_eq_some_iff.1 HT.out).1 id).trans HT.out)
 try have HU := Lib.hid ((hf.block _ (Array.getElem?_eq_some_iff.1 HU.out).1 id).trans HU.out)
 try have HS := Lib.hid (HS.out.later hf)
 obtain ⟨y0, y1, y2, rfl⟩ := three_of hys
 simp only [List.map_cons, List.map_nil, List.cons.injEq, and_true] at hys
 obtain ⟨t0, t1, t2⟩ := hys
 obtain ⟨m0, n0⟩ := hyr y0 (by simp)
 obtain ⟨m1, n1⟩ := hyr y1 (by simp)
 obtain ⟨m2, n2⟩ := hyr y2 (by simp)
 obtain ⟨e0, a0, k0, c0, v0⟩ := y0
 obtain ⟨e1, a1, k1, c1, v1⟩ := y1
 obtain ⟨e2, a2, k2, c2, v2⟩ := y2
 simp only [Td.tl, Tl.mk.injEq] at t0 t1 t2
 obtain ⟨rfl, rfl⟩ := t0
 obtain ⟨rfl, rfl⟩ := t1
 obtain ⟨rfl, rfl⟩ := t2
 simp only [List.length_cons, List.length_nil, Nat.zero_add] at n0 n1 n2
 subst n0 n1 n2
 simp only at m0 m1 m2
 have HM0 := Lib.hid m0
 have HM1 := Lib.hid m1
 have HTD := Lib.hid hu
 clear hf hyr hp m0 m1 m2 hu
 simp only [List.length_cons, List.length_nil, Nat.zero_add, Nat.reduceAdd]
 go_wp2_with fail
 refine (Count_any (n := 2) (cap := vc) (f := 3) (t := 5) [caB, caA] HV.out rfl (by omega)).mono ?_
 rw [awake_c]
 rintro e w5 ⟨rfl, hf⟩
 have HA := Lib.hid ((hf.block _ (Array.getElem?_eq_some_iff.1 HA.out).1 id).trans HA.out)
 have HB := Lib.hid ((hf.block _ (Array.getElem?_eq_some_iff.1 HB.out).1 id).trans HB.out)
 have HV := Lib.hid (HV.out.later hf)
 have F := Lib.hid (F.out.trans hf)
 try have HT := Lib.hid ((hf.block _ (Array.getElem?_eq_some_iff.1 HT.out).1 id).trans HT.out)
 try have HU := Lib.hid ((hf.block _ (Array.getElem?_eq_some_iff.1 HU.out).1 id).trans HU.out)
 try have HS := Lib.hid (HS.out.later hf)
 have HM0 := Lib.hid (HM0.out.later hf)
 have HM1 := Lib.hid (HM1.out.later hf)
 have HTD := Lib.hid (HTD.out.later hf)
 clear hf
 go_wp2_with fail
 refine (Times_any (n := 2) (cap := vc) [caB, caA] HV.out rfl (by omega)).mono ?_
 rw [if_pos (by decide), if_pos (by decide), if_pos (by decide), awake_t]
 rintro e w6 ⟨v, rfl, ht, hf⟩
 have HA := Lib.hid ((hf.block _ (Array.getElem?_eq_some_iff.1 HA.out).1 id).trans HA.out)
 have HB := Lib.hid ((hf.block _ (Array.getElem?_eq_some_iff.1 HB.out).1 id).trans HB.out)
 have HV := Lib.hid (HV.out.later hf)
 have F := Lib.hid (F.out.trans hf)
 try have HT := Lib.hid ((hf.block _ (Array.getElem?_eq_some_iff.1 HT.out).1 id).trans HT.out)
 try have HU := Lib.hid ((hf.block _ (Array.getElem?_eq_some_iff.1 HU.out).1 id).trans HU.out)
 try have HS := Lib.hid (HS.out.later hf)
 have HM0 := Lib.hid (HM0.out.later hf)
 have HM1 := Lib.hid (HM1.out.later hf)
 have HTD := Lib.hid (HTD.out.later hf)
 have HTI := Lib.hid ht
 clear hf ht
 go_wp2_with fail
 obtain ⟨g, o, rfl, d0⟩ := HTD.out 0 _ rfl
 obtain ⟨_, _, hg1, d1⟩ := HTD.out 1 _ rfl
 injection hg1 with hg1
 injection hg1 with hg1 ho1
 subst hg1 ho1
 obtain ⟨_, _, hg2, d2⟩ := HTD.out 2 _ rfl
 injection hg2 with hg2
 injection hg2 with hg2 ho2
 subst hg2 ho2
 obtain ⟨_, d0⟩ := d0
 obtain ⟨_, d1⟩ := d1
 obtain ⟨d2, _⟩ := d2
 simp only [Nat.zero_mul, Nat.add_zero, Nat.one_mul, Nat.reduceMul] at d0 d1 d2
 have z0 := cells_in HA.out 0
 have z1 := cells_in HA.out 1
 have z2 := cells_in HA.out 2
 have z3 := cells_in HA.out 3
 have z4 := cells_in HA.out 4
 have y0 := cells_in HB.out 0
 have y1 := cells_in HB.out 1
 have y2 := cells_in HB.out 2
 have y3 := cells_in HB.out 3
 have y4 := cells_in HB.out 4
 have t0 := cells_in HT.out 0
 have u0 := cells_in HU.out 0
 simp at z0 z1 z2 z3 z4 y0 y1 y2 y3 y4 t0 u0
 have HZ := Lib.hid (fun (W' : World) (hf : Fr0 none' w6 W') => And.intro (hf.later z0) <| And.intro (hf.later z1) <| And.intro (hf.later z2) <| And.intro (hf.later z3) <| And.intro (hf.later z4) <| And.intro (hf.later y0) <| And.intro (hf.later y1) <| And.intro (hf.later y2) <| And.intro (hf.later y3) <| And.intro (hf.later y4) <| And.intro (hf.later t0) <| And.intro (hf.later u0) <| And.intro (hf.later d0) <| And.intro (hf.later d1) (hf.later d2))
 clear z0 z1 z2 z3 z4 y0 y1 y2 y3 y4 t0 u0 d0 d1 d2
 obtain ⟨ti, tc, rfl, _, hti⟩ := IsIn.of_own HTI.out
 have HTX := Lib.hid hti
 clear hti
 refine wp_region_held_drew (S := fun W' => Fr0 none' w6 W') (by kernel_rfl) ((Fr0.refl none' w6).drew) (fun hHeld => ?_)
 generalize w6.drew = WD at hHeld ⊢
 refine tkn (i := 0) (v := .int .i64 0) (fun W' hSW => ?_) ?_
 ·first | (go_simp; done) | exact rfl | (go_simp; rfl) | (go_simp; omega)
 try simp only [pUt, pUn, sEt, sEz, sEs]
 refine tkn (i := 1) (v := .int .i64 0) (fun W' hSW => ?_) ?_
 ·first | (go_simp; done) | exact rfl | (go_simp; rfl) | (go_simp; omega)
 try simp only [pUt, pUn, sEt, sEz, sEs]
 refine tkn (i := 2) (v := .int .i64 0) (fun W' hSW => ?_) ?_
 ·first | (go_simp; done) | exact rfl | (go_simp; rfl) | (go_simp; omega)
 try simp only [pUt, pUn, sEt, sEz, sEs]
 refine tkn (i := 3) (v := .int .i64 0) (fun W' hSW => ?_) ?_
 ·first | (go_simp; done) | exact rfl | (go_simp; rfl) | (go_simp; omega)
 try simp only [pUt, pUn, sEt, sEz, sEs]
 refine tkn (i := 4) (v := .int .i64 0) (fun W' hSW => ?_) ?_
 ·first | (go_simp; done) | exact rfl | (go_simp; rfl) | (go_simp; omega)
 try simp only [pUt, pUn, sEt, sEz, sEs]
 refine tkn (i := 5) (v := .int .i64 0) (fun W' hSW => ?_) ?_
 ·first | (go_simp; done) | exact rfl | (go_simp; rfl) | (go_simp; omega)
 try simp only [pUt, pUn, sEt, sEz, sEs]
 refine tkn (i := 6) (v := .int .i64 0) (fun W' hSW => ?_) ?_
 ·first | (go_simp; done) | exact rfl | (go_simp; rfl) | (go_simp; omega)
 try simp only [pUt, pUn, sEt, sEz, sEs]
 refine tkn (i := 7) (v := .int .i64 0) (fun W' hSW => ?_) ?_
 ·first | (go_simp; done) | exact rfl | (go_simp; rfl) | (go_simp; omega)
 try simp only [pUt, pUn, sEt, sEz, sEs]
 refine tkn (i := 8) (v := .int .i64 0) (fun W' hSW => ?_) ?_
 ·first | (go_simp; done) | exact rfl | (go_simp; rfl) | (go_simp; omega)
 try simp only [pUt, pUn, sEt, sEz, sEs]
 refine tkn (i := 9) (v := .bool true) (fun W' hSW => ?_) ?_
 ·first | (go_simp; done) | exact rfl | (go_simp; rfl) | (go_simp; omega)
 try simp only [pUt, pUn, sEt, sEz, sEs]
 refine tkn (i := 10) (v := .bool true) (fun W' hSW => ?_) ?_
 ·first | (go_simp; done) | exact rfl | (go_simp; rfl) | (go_simp; omega)
 try simp only [pUt, pUn, sEt, sEz, sEs]
 refine tkn (i := 11) (v := .slice va 2 vc) (fun W' hSW => ?_) ?_
 ·first | (go_simp; done) | exact rfl | (go_simp; rfl) | (go_simp; omega)
 try simp only [pUt, pUn, sEt, sEz, sEs]
 refine tkn (i := 12) (v := .agg #[.int .i64 3, .int .i64 2, .int .i64 0, .int .i64 1, .int .i64 0]) (fun W' hSW => ?_) ?_
 ·obtain ⟨z0, z1, z2, z3, z4, y0, y1, y2, y3, y4, t0, u0, d0, d1, d2⟩ := HZ.out W' hSW
  first | (go_simp; done) | exact rfl | (go_simp; rfl) | (go_simp; omega)
 try simp only [pUt, pUn, sEt, sEz, sEs]
 refine tkn (i := 13) (v := .agg #[.int .i64 5, .int .i64 1, .int .i64 0, .int .i64 1, .int .i64 0]) (fun W' hSW => ?_) ?_
 ·obtain ⟨z0, z1, z2, z3, z4, y0, y1, y2, y3, y4, t0, u0, d0, d1, d2⟩ := HZ.out W' hSW
  first | (go_simp; done) | exact rfl | (go_simp; rfl) | (go_simp; omega)
 try simp only [pUt, pUn, sEt, sEz, sEs]
 refine take_call (i := 14) rfl (by kernel_rfl) (by kernel_rfl) (fun K hK => ?_)
 go_simp
 obtain ⟨nb, hnb⟩ : ∃ b, WD.heap.size = b := ⟨_, rfl⟩
 obtain ⟨W2, hW2⟩ : ∃ W2, WD.alloc (.cells #[.int .i64 3, .int .i64 2, .int .i64 0, .int .i64 1, .int .i64 0, .int .i64 5, .int .i64 1, .int .i64 0, .int .i64 1, .int .i64 0] 30) = W2 := ⟨_, rfl⟩
 have hn2 : W2.heap[nb]? = some (.cells #[.int .i64 3, .int .i64 2, .int .i64 0, .int .i64 1, .int .i64 0, .int .i64 5, .int .i64 1, .int .i64 0, .int .i64 1, .int .i64 0] 30 (0, 0)) := by rw [← hW2, ← hnb]; exact World.alloc_heap_new _ _
 have F2 := Lib.hid (hHeld.trans (show Fr0 none' WD W2 by rw [← hW2]; exact (Fr0.refl _ _).alloc _))
 rw [hW2]
 try rw [hnb]
 clear hW2 hnb
 refine hK.out _ _ F2.out (fun hHeld => ?_)
 clear hK K
 try simp only [pUt, pUn, sEt, sEz, sEs]
 refine take_call (i := 15) rfl (by kernel_rfl) (by kernel_rfl) (fun K hK => ?_)
 go_simp
 have HSM := Same_any va (some ⟨nb, 0, none⟩) 2 2 vc 2 [caB, caA] [caB, caA] W2 rfl rfl (by omega) (by omega) (HV.out.later hHeld) (EsIn.of_cells (n := 2) hn2 (by simp [flatEv, cev, caA, caB]))
 rw [show decide (([caB, caA] : List Ev) = [caB, caA]) = true by decide] at HSM
 refine HSM.mono ?_
 clear HSM
 rintro e WD ⟨rfl, hfA⟩
 have FA := Lib.hid (hHeld.trans hfA)
 clear hfA
 go_wp2_with fail
 refine hK.out _ _ FA.out (fun hHeld => ?_)
 clear hK K
 try simp only [pUt, pUn, sEt, sEz, sEs]
 refine tkn (i := 16) (v := .bool true) (fun W' hSW => ?_) ?_
 ·first | (go_simp; done) | exact rfl | (go_simp; rfl) | (go_simp; omega)
 try simp only [pUt, pUn, sEt, sEz, sEs]
 refine tkn (i := 17) (v := .bool true) (fun W' hSW => ?_) ?_
 ·first | (go_simp; done) | exact rfl | (go_simp; rfl) | (go_simp; omega)
 try simp only [pUt, pUn, sEt, sEz, sEs]
 refine tkn (i := 18) (v := .pointer (some ⟨tb, 0, none⟩)) (fun W' hSW => ?_) ?_
 ·obtain ⟨z0, z1, z2, z3, z4, y0, y1, y2, y3, y4, t0, u0, d0, d1, d2⟩ := HZ.out W' hSW
  first | (go_simp; done) | exact rfl | (go_simp; rfl) | (go_simp; omega)
 try simp only [pUt, pUn, sEt, sEz, sEs]
 refine tkn (i := 19) (v := .int .i64 0) (fun W' hSW => ?_) ?_
 ·obtain ⟨z0, z1, z2, z3, z4, y0, y1, y2, y3, y4, t0, u0, d0, d1, d2⟩ := HZ.out W' hSW
  first | (go_simp; done) | exact rfl | (go_simp; rfl) | (go_simp; omega)
 try simp only [pUt, pUn, sEt, sEz, sEs]
 refine tkn (i := 20) (v := .bool true) (fun W' hSW => ?_) ?_
 ·first | (go_simp; done) | exact rfl | (go_simp; rfl) | (go_simp; omega)
 try simp only [pUt, pUn, sEt, sEz, sEs]
 refine tkn (i := 21) (v := .bool true) (fun W' hSW => ?_) ?_
 ·first | (go_simp; done) | exact rfl | (go_simp; rfl) | (go_simp; omega)
 try simp only [pUt, pUn, sEt, sEz, sEs]
 refine tkn (i := 22) (v := .bool true) (fun W' hSW => ?_) ?_
 ·first | (go_simp; done) | exact rfl | (go_simp; rfl) | (go_simp; omega)
 try simp only [pUt, pUn, sEt, sEz, sEs]
 refine tkn (i := 23) (v := .pointer (some ⟨ub, 0, none⟩)) (fun W' hSW => ?_) ?_
 ·obtain ⟨z0, z1, z2, z3, z4, y0, y1, y2, y3, y4, t0, u0, d0, d1, d2⟩ := HZ.out W' hSW
  first | (go_simp; done) | exact rfl | (go_simp; rfl) | (go_simp; omega)
 try simp only [pUt, pUn, sEt, sEz, sEs]
 refine tkn (i := 24) (v := .int .i64 4) (fun W' hSW => ?_) ?_
 ·obtain ⟨z0, z1, z2, z3, z4, y0, y1, y2, y3, y4, t0, u0, d0, d1, d2⟩ := HZ.out W' hSW
  first | (go_simp; done) | exact rfl | (go_simp; rfl) | (go_simp; omega)
 try simp only [pUt, pUn, sEt, sEz, sEs]
 refine tkn (i := 25) (v := .bool true) (fun W' hSW => ?_) ?_
 ·first | (go_simp; done) | exact rfl | (go_simp; rfl) | (go_simp; omega)
 try simp only [pUt, pUn, sEt, sEz, sEs]
 refine tkn (i := 26) (v := .bool true) (fun W' hSW => ?_) ?_
 ·first | (go_simp; done) | exact rfl | (go_simp; rfl) | (go_simp; omega)
 try simp only [pUt, pUn, sEt, sEz, sEs]
 refine tkn (i := 27) (v := .bool true) (fun W' hSW => ?_) ?_
 ·first | (go_simp; done) | exact rfl | (go_simp; rfl) | (go_simp; omega)
 try simp only [pUt, pUn, sEt, sEz, sEs]
 refine tkn (i := 28) (v := .slice sa 2 sc) (fun W' hSW => ?_) ?_
 ·first | (go_simp; done) | exact rfl | (go_simp; rfl) | (go_simp; omega)
 try simp only [pUt, pUn, sEt, sEz, sEs]
 refine tkn (i := 29) (v := .slice va 2 vc) (fun W' hSW => ?_) ?_
 ·first | (go_simp; done) | exact rfl | (go_simp; rfl) | (go_simp; omega)
 try simp only [pUt, pUn, sEt, sEz, sEs]
 refine take_call (i := 30) rfl (by kernel_rfl) (by kernel_rfl) (fun K hK => ?_)
 go_simp
 have HSM := Same_any sa va 2 2 sc vc [caB, caA] [caB, caA] WD rfl rfl (by omega) (by omega) (HS.out.later hHeld) (HV.out.later hHeld)
 rw [show decide (([caB, caA] : List Ev) = [caB, caA]) = true by decide] at HSM
 refine HSM.mono ?_
 clear HSM
 rintro e WD ⟨rfl, hfA⟩
 have FA := Lib.hid (hHeld.trans hfA)
 clear hfA
 go_wp2_with fail
 refine hK.out _ _ FA.out (fun hHeld => ?_)
 clear hK K
 try simp only [pUt, pUn, sEt, sEz, sEs]
 refine tkn (i := 31) (v := .bool true) (fun W' hSW => ?_) ?_
 ·first | (go_simp; done) | exact rfl | (go_simp; rfl) | (go_simp; omega)
 try simp only [pUt, pUn, sEt, sEz, sEs]
 refine tkn (i := 32) (v := .bool true) (fun W' hSW => ?_) ?_
 ·first | (go_simp; done) | exact rfl | (go_simp; rfl) | (go_simp; omega)
 try simp only [pUt, pUn, sEt, sEz, sEs]
 refine tkn (i := 33) (v := .slice pa 0 pc) (fun W' hSW => ?_) ?_
 ·first | (go_simp; done) | exact rfl | (go_simp; rfl) | (go_simp; omega)
 try simp only [pUt, pUn, sEt, sEz, sEs]
 refine tkn (i := 34) (v := .int .i64 0) (fun W' hSW => ?_) ?_
 ·first | (go_simp; done) | exact rfl | (go_simp; rfl) | (go_simp; omega)
 try simp only [pUt, pUn, sEt, sEz, sEs]
 refine tkn (i := 35) (v := .bool true) (fun W' hSW => ?_) ?_
 ·first | (go_simp; done) | exact rfl | (go_simp; rfl) | (go_simp; omega)
 try simp only [pUt, pUn, sEt, sEz, sEs]
 refine tkn (i := 36) (v := .bool true) (fun W' hSW => ?_) ?_
 ·first | (go_simp; done) | exact rfl | (go_simp; rfl) | (go_simp; omega)
 try simp only [pUt, pUn, sEt, sEz, sEs]
 refine tkn (i := 37) (v := .bool true) (fun W' hSW => ?_) ?_
 ·first | (go_simp; done) | exact rfl | (go_simp; rfl) | (go_simp; omega)
 try simp only [pUt, pUn, sEt, sEz, sEs]
 refine tkn (i := 38) (v := .int .i64 (-1)) (fun W' hSW => ?_) ?_
 ·first | (go_simp; done) | exact rfl | (go_simp; rfl) | (go_simp; omega)
 try simp only [pUt, pUn, sEt, sEz, sEs]
 refine tkn (i := 39) (v := .bool true) (fun W' hSW => ?_) ?_
 ·first | (go_simp; done) | exact rfl | (go_simp; rfl) | (go_simp; omega)
 try simp only [pUt, pUn, sEt, sEz, sEs]
 refine tkn (i := 40) (v := .bool true) (fun W' hSW => ?_) ?_
 ·first | (go_simp; done) | exact rfl | (go_simp; rfl) | (go_simp; omega)
 try simp only [pUt, pUn, sEt, sEz, sEs]
 refine tkn (i := 41) (v := .bool true) (fun W' hSW => ?_) ?_
 ·first | (go_simp; done) | exact rfl | (go_simp; rfl) | (go_simp; omega)
 try simp only [pUt, pUn, sEt, sEz, sEs]
 refine tkn (i := 42) (v := .slice (some ⟨g, o, none⟩) 3 uc) (fun W' hSW => ?_) ?_
 ·first | (go_simp; done) | exact rfl | (go_simp; rfl) | (go_simp; omega)
 try simp only [pUt, pUn, sEt, sEz, sEs]
 refine tkn (i := 43) (v := .int .i64 3) (fun W' hSW => ?_) ?_
 ·first | (go_simp; done) | exact rfl | (go_simp; rfl) | (go_simp; omega)
 try simp only [pUt, pUn, sEt, sEz, sEs]
 refine tkn (i := 44) (v := .bool true) (fun W' hSW => ?_) ?_
 ·first | (go_simp; done) | exact rfl | (go_simp; rfl) | (go_simp; omega)
 try simp only [pUt, pUn, sEt, sEz, sEs]
 refine tkn (i := 45) (v := .bool true) (fun W' hSW => ?_) ?_
 ·first | (go_simp; done) | exact rfl | (go_simp; rfl) | (go_simp; omega)
 try simp only [pUt, pUn, sEt, sEz, sEs]
 refine tkn (i := 46) (v := .bool true) (fun W' hSW => ?_) ?_
 ·first | (go_simp; done) | exact rfl | (go_simp; rfl) | (go_simp; omega)
 try simp only [pUt, pUn, sEt, sEz, sEs]
 refine tkn (i := 47) (v := .slice (some ⟨g, o, none⟩) 3 uc) (fun W' hSW => ?_) ?_
 ·first | (go_simp; done) | exact rfl | (go_simp; rfl) | (go_simp; omega)
 try simp only [pUt, pUn, sEt, sEz, sEs]
 refine tkn (i := 48) (v := .pointer (some ⟨g, o, none⟩)) (fun W' hSW => ?_) ?_
 ·first | (go_simp; done) | exact rfl | (go_simp; rfl) | (go_simp; omega)
 try simp only [pUt, pUn, sEt, sEz, sEs]
 refine tkn (i := 49) (v := .pointer (some ⟨g, o + 1, none⟩)) (fun W' hSW => ?_) ?_
 ·first | (go_simp; done) | exact rfl | (go_simp; rfl) | (go_simp; omega)
 try simp only [pUt, pUn, sEt, sEz, sEs]
 refine tkn (i := 50) (v := .slice a0 1 c0) (fun W' hSW => ?_) ?_
 ·obtain ⟨z0, z1, z2, z3, z4, y0, y1, y2, y3, y4, t0, u0, d0, d1, d2⟩ := HZ.out W' hSW
  first | (go_simp; done) | exact rfl | (go_simp; rfl) | (go_simp; omega)
 try simp only [pUt, pUn, sEt, sEz, sEs]
 refine tkn (i := 51) (v := .agg #[.int .i64 3, .int .i64 2, .int .i64 0, .int .i64 1, .int .i64 0]) (fun W' hSW => ?_) ?_
 ·obtain ⟨z0, z1, z2, z3, z4, y0, y1, y2, y3, y4, t0, u0, d0, d1, d2⟩ := HZ.out W' hSW
  first | (go_simp; done) | exact rfl | (go_simp; rfl) | (go_simp; omega)
 try simp only [pUt, pUn, sEt, sEz, sEs]
 refine take_call (i := 52) rfl (by kernel_rfl) (by kernel_rfl) (fun K hK => ?_)
 go_simp
 obtain ⟨nb, hnb⟩ : ∃ b, WD.heap.size = b := ⟨_, rfl⟩
 obtain ⟨W2, hW2⟩ : ∃ W2, WD.alloc (.cells #[.int .i64 3, .int .i64 2, .int .i64 0, .int .i64 1, .int .i64 0] 30) = W2 := ⟨_, rfl⟩
 have hn2 : W2.heap[nb]? = some (.cells #[.int .i64 3, .int .i64 2, .int .i64 0, .int .i64 1, .int .i64 0] 30 (0, 0)) := by rw [← hW2, ← hnb]; exact World.alloc_heap_new _ _
 have F2 := Lib.hid (hHeld.trans (show Fr0 none' WD W2 by rw [← hW2]; exact (Fr0.refl _ _).alloc _))
 rw [hW2]
 try rw [hnb]
 clear hW2 hnb
 refine hK.out _ _ F2.out (fun hHeld => ?_)
 clear hK K
 try simp only [pUt, pUn, sEt, sEz, sEs]
 refine take_call (i := 53) rfl (by kernel_rfl) (by kernel_rfl) (fun K hK => ?_)
 go_simp
 have HSM := Same_any a0 (some ⟨nb, 0, none⟩) 1 1 c0 1 [caB] [caB] W2 rfl rfl (by omega) (by omega) (HM0.out.later hHeld) (EsIn.of_cells (n := 1) hn2 (by simp [flatEv, cev, caB]))
 rw [show decide (([caB] : List Ev) = [caB]) = true by decide] at HSM
 refine HSM.mono ?_
 clear HSM
 rintro e WD ⟨rfl, hfA⟩
 have FA := Lib.hid (hHeld.trans hfA)
 clear hfA
 go_wp2_with fail
 refine hK.out _ _ FA.out (fun hHeld => ?_)
 clear hK K
 try simp only [pUt, pUn, sEt, sEz, sEs]
 refine tkn (i := 54) (v := .bool true) (fun W' hSW => ?_) ?_
 ·first | (go_simp; done) | exact rfl | (go_simp; rfl) | (go_simp; omega)
 try simp only [pUt, pUn, sEt, sEz, sEs]
 refine tkn (i := 55) (v := .bool true) (fun W' hSW => ?_) ?_
 ·first | (go_simp; done) | exact rfl | (go_simp; rfl) | (go_simp; omega)
 try simp only [pUt, pUn, sEt, sEz, sEs]
 refine tkn (i := 56) (v := .slice (some ⟨g, o, none⟩) 3 uc) (fun W' hSW => ?_) ?_
 ·first | (go_simp; done) | exact rfl | (go_simp; rfl) | (go_simp; omega)
 try simp only [pUt, pUn, sEt, sEz, sEs]
 refine tkn (i := 57) (v := .pointer (some ⟨g, o + 2, none⟩)) (fun W' hSW => ?_) ?_
 ·first | (go_simp; done) | exact rfl | (go_simp; rfl) | (go_simp; omega)
 try simp only [pUt, pUn, sEt, sEz, sEs]
 refine tkn (i := 58) (v := .pointer (some ⟨g, o + 2 + 1, none⟩)) (fun W' hSW => ?_) ?_
 ·first | (go_simp; done) | exact rfl | (go_simp; rfl) | (go_simp; omega)
 try simp only [pUt, pUn, sEt, sEz, sEs]
 refine tkn (i := 59) (v := .slice a1 1 c1) (fun W' hSW => ?_) ?_
 ·obtain ⟨z0, z1, z2, z3, z4, y0, y1, y2, y3, y4, t0, u0, d0, d1, d2⟩ := HZ.out W' hSW
  first | (go_simp; done) | exact rfl | (go_simp; rfl) | (go_simp; omega)
 try simp only [pUt, pUn, sEt, sEz, sEs]
 refine tkn (i := 60) (v := .agg #[.int .i64 5, .int .i64 1, .int .i64 0, .int .i64 1, .int .i64 0]) (fun W' hSW => ?_) ?_
 ·obtain ⟨z0, z1, z2, z3, z4, y0, y1, y2, y3, y4, t0, u0, d0, d1, d2⟩ := HZ.out W' hSW
  first | (go_simp; done) | exact rfl | (go_simp; rfl) | (go_simp; omega)
 try simp only [pUt, pUn, sEt, sEz, sEs]
 refine take_call (i := 61) rfl (by kernel_rfl) (by kernel_rfl) (fun K hK => ?_)
 go_simp
 obtain ⟨nb, hnb⟩ : ∃ b, WD.heap.size = b := ⟨_, rfl⟩
 obtain ⟨W2, hW2⟩ : ∃ W2, WD.alloc (.cells #[.int .i64 5, .int .i64 1, .int .i64 0, .int .i64 1, .int .i64 0] 30) = W2 := ⟨_, rfl⟩
 have hn2 : W2.heap[nb]? = some (.cells #[.int .i64 5, .int .i64 1, .int .i64 0, .int .i64 1, .int .i64 0] 30 (0, 0)) := by rw [← hW2, ← hnb]; exact World.alloc_heap_new _ _
 have F2 := Lib.hid (hHeld.trans (show Fr0 none' WD W2 by rw [← hW2]; exact (Fr0.refl _ _).alloc _))
 rw [hW2]
 try rw [hnb]
 clear hW2 hnb
 refine hK.out _ _ F2.out (fun hHeld => ?_)
 clear hK K
 try simp only [pUt, pUn, sEt, sEz, sEs]
 refine take_call (i := 62) rfl (by kernel_rfl) (by kernel_rfl) (fun K hK => ?_)
 go_simp
 have HSM := Same_any a1 (some ⟨nb, 0, none⟩) 1 1 c1 1 [caA] [caA] W2 rfl rfl (by omega) (by omega) (HM1.out.later hHeld) (EsIn.of_cells (n := 1) hn2 (by simp [flatEv, cev, caA]))
 rw [show decide (([caA] : List Ev) = [caA]) = true by decide] at HSM
 refine HSM.mono ?_
 clear HSM
 rintro e WD ⟨rfl, hfA⟩
 have FA := Lib.hid (hHeld.trans hfA)
 clear hfA
 go_wp2_with fail
 refine hK.out _ _ FA.out (fun hHeld => ?_)
 clear hK K
 try simp only [pUt, pUn, sEt, sEz, sEs]
 refine tkn (i := 63) (v := .bool true) (fun W' hSW => ?_) ?_
 ·first | (go_simp; done) | exact rfl | (go_simp; rfl) | (go_simp; omega)
 try simp only [pUt, pUn, sEt, sEz, sEs]
 refine tkn (i := 64) (v := .bool true) (fun W' hSW => ?_) ?_
 ·first | (go_simp; done) | exact rfl | (go_simp; rfl) | (go_simp; omega)
 try simp only [pUt, pUn, sEt, sEz, sEs]
 refine tkn (i := 65) (v := .slice (some ⟨g, o, none⟩) 3 uc) (fun W' hSW => ?_) ?_
 ·first | (go_simp; done) | exact rfl | (go_simp; rfl) | (go_simp; omega)
 try simp only [pUt, pUn, sEt, sEz, sEs]
 refine tkn (i := 66) (v := .pointer (some ⟨g, o + 4, none⟩)) (fun W' hSW => ?_) ?_
 ·first | (go_simp; done) | exact rfl | (go_simp; rfl) | (go_simp; omega)
 try simp only [pUt, pUn, sEt, sEz, sEs]
 refine tkn (i := 67) (v := .pointer (some ⟨g, o + 4, none⟩)) (fun W' hSW => ?_) ?_
 ·first | (go_simp; done) | exact rfl | (go_simp; rfl) | (go_simp; omega)
 try simp only [pUt, pUn, sEt, sEz, sEs]
 refine tkn (i := 68) (v := .int .i64 6) (fun W' hSW => ?_) ?_
 ·obtain ⟨z0, z1, z2, z3, z4, y0, y1, y2, y3, y4, t0, u0, d0, d1, d2⟩ := HZ.out W' hSW
  first | (go_simp; done) | exact rfl | (go_simp; rfl) | (go_simp; omega)
 try simp only [pUt, pUn, sEt, sEz, sEs]
 refine tkn (i := 69) (v := .bool true) (fun W' hSW => ?_) ?_
 ·first | (go_simp; done) | exact rfl | (go_simp; rfl) | (go_simp; omega)
 try simp only [pUt, pUn, sEt, sEz, sEs]
 refine tkn (i := 70) (v := .bool true) (fun W' hSW => ?_) ?_
 ·first | (go_simp; done) | exact rfl | (go_simp; rfl) | (go_simp; omega)
 try simp only [pUt, pUn, sEt, sEz, sEs]
 refine tkn (i := 71) (v := .bool true) (fun W' hSW => ?_) ?_
 ·first | (go_simp; done) | exact rfl | (go_simp; rfl) | (go_simp; omega)
 try simp only [pUt, pUn, sEt, sEz, sEs]
 refine tkn (i := 72) (v := .int .i64 1) (fun W' hSW => ?_) ?_
 ·first | (go_simp; done) | exact rfl | (go_simp; rfl) | (go_simp; omega)
 try simp only [pUt, pUn, sEt, sEz, sEs]
 refine tkn (i := 73) (v := .bool true) (fun W' hSW => ?_) ?_
 ·first | (go_simp; done) | exact rfl | (go_simp; rfl) | (go_simp; omega)
 try simp only [pUt, pUn, sEt, sEz, sEs]
 refine tkn (i := 74) (v := .bool true) (fun W' hSW => ?_) ?_
 ·first | (go_simp; done) | exact rfl | (go_simp; rfl) | (go_simp; omega)
 try simp only [pUt, pUn, sEt, sEz, sEs]
 refine tkn (i := 75) (v := .bool true) (fun W' hSW => ?_) ?_
 ·first | (go_simp; done) | exact rfl | (go_simp; rfl) | (go_simp; omega)
 try simp only [pUt, pUn, sEt, sEz, sEs]
 refine tkn (i := 76) (v := .slice ti 2 tc) (fun W' hSW => ?_) ?_
 ·first | (go_simp; done) | exact rfl | (go_simp; rfl) | (go_simp; omega)
 try simp only [pUt, pUn, sEt, sEz, sEs]
 refine take_call (i := 77) rfl (by kernel_rfl) (by kernel_rfl) (fun K hK => ?_)
 go_simp
 obtain ⟨nb, hnb⟩ : ∃ b, WD.heap.size = b := ⟨_, rfl⟩
 obtain ⟨W2, hW2⟩ : ∃ W2, WD.alloc (.cells #[.int .i64 3, .int .i64 5] 3) = W2 := ⟨_, rfl⟩
 have hn2 : W2.heap[nb]? = some (.cells #[.int .i64 3, .int .i64 5] 3 (0, 0)) := by rw [← hW2, ← hnb]; exact World.alloc_heap_new _ _
 have F2 := Lib.hid (hHeld.trans (show Fr0 none' WD W2 by rw [← hW2]; exact (Fr0.refl _ _).alloc _))
 rw [hW2]
 try rw [hnb]
 clear hW2 hnb
 refine hK.out _ _ F2.out (fun hHeld => ?_)
 clear hK K
 try simp only [pUt, pUn, sEt, sEz, sEs]
 have hii : IsIn W2 (some ⟨nb, 0, none⟩) [3, 5] := fun i x hx => by
  match i with
  | 0 =>
   obtain rfl : _ = x := by simpa using hx
   exact ⟨_, _, rfl, cells_in hn2 0⟩
  | 1 =>
   obtain rfl : _ = x := by simpa using hx
   exact ⟨_, _, rfl, cells_in hn2 1⟩
  | i + 2 => simp at hx
 refine take_call (i := 78) rfl (by kernel_rfl) (by kernel_rfl) (fun K hK => ?_)
 go_simp
 have HSM := sameIs_any ti (some ⟨nb, 0, none⟩) 2 2 tc 2 [3, 5] [3, 5] W2 rfl rfl (by omega) (by omega) (HTX.out.later hHeld) hii
 rw [show decide (([3, 5] : List Int) = [3, 5]) = true by decide] at HSM
 refine HSM.mono ?_
 clear HSM
 rintro e WD ⟨rfl, hfA⟩
 have FA := Lib.hid (hHeld.trans hfA)
 clear hfA
 go_wp2_with fail
 refine hK.out _ _ FA.out (fun hHeld => ?_)
 clear hK K
 try simp only [pUt, pUn, sEt, sEz, sEs]
 refine tkn (i := 79) (v := .bool true) (fun W' hSW => ?_) ?_
 ·first | (go_simp; done) | exact rfl | (go_simp; rfl) | (go_simp; omega)
 try simp only [pUt, pUn, sEt, sEz, sEs]
 refine tkn (i := 80) (v := .bool true) (fun W' hSW => ?_) ?_
 ·first | (go_simp; done) | exact rfl | (go_simp; rfl) | (go_simp; omega)
 try simp only [pUt, pUn, sEt, sEz, sEs]
 refine wpAnyH_done (by kernel_rfl) ?_ _
 have FE := Lib.hid (F.out.trans hHeld)
 clear hHeld
 go_wp2_with fail
 go_ret
 exact ⟨rfl, FE.out⟩
end Go.Proofs.YtieeloealklkgaaGreat

/-
  Acts of small numbers.
-/
namespace Go.Proofs.YtieeloealklkgaaGreat
open Go Go.RowKit
attribute [local go_sem ↓] Go.wp_at_zero Go.wp_at_succ
attribute [local go_sem] Oper.semAt_some wide_fn wide_depth wide_fnR wide_depthR

/-- An event in small numbers (layer 11). -/
structure Sm5 where
 t : Int
 s : Int
 q : Int
 o : Int
 l : Int
def Sm5.ok (x : Sm5) : Prop := (0 ≤ x.t ∧ x.t < 256) ∧ (0 ≤ x.s ∧ x.s < 256) ∧ (0 ≤ x.q ∧ x.q < 256) ∧ (0 ≤ x.o ∧ x.o < 256) ∧ (0 ≤ x.l ∧ x.l < 256)
def sm5V (x : Sm5) : Value := .agg #[.int .u8 x.t, .int .u8 x.s, .int .u8 x.q, .int .u8 x.o, .int .u8 x.l]
def madeV (x : Sm5) : Ev := ⟨⟨x.t % 16, x.s % 5, x.q % 32⟩, 1 + x.o % 16, x.t - x.o⟩
theorem madeV_right {x : Sm5} : RightE (madeV x) := by
 unfold RightE RightK madeV
 simp only
 omega
set_option maxRecDepth 100000 in
set_option maxHeartbeats 1000000 in
theorem made11_any (x : Sm5) (hx : x.ok) (w : World) : Calls Tryz.prog 43 #[sm5V x] w fun e w' => e = .returned (evV (madeV x)) ∧ Fr0 none' w w' := by
 obtain ⟨⟨a1, a2⟩, ⟨b1, b2⟩, ⟨c1, c2⟩, ⟨d1, d2⟩, e1, e2⟩ := hx
 obtain ⟨r, hr⟩ : ∃ r, madeV x = r := ⟨_, rfl⟩
 rw [hr]
 have HR := Lib.hid hr
 clear hr
 unfold sm5V evV
 go_enter Tryz.func43, Tryz.ntmps43
 go_wp2_with fail
 obtain ⟨V, hV⟩ : ∃ V, ((w.alloc (.cells #[.int .u8 x.t, .int .u8 x.s, .int .u8 x.q, .int .u8 x.o, .int .u8 x.l] 97)).alloc (.cells #[.int .i64 (x.t % 16), .int .i64 (x.s % 5), .int .i64 (x.q % 32), .int .i64 (1 + x.o % 16), .int .i64 (x.t - x.o)] 30)) = V := ⟨_, rfl⟩
 have hf : Fr0 none' w V := by rw [← hV]; exact ((Fr0.refl _ _).alloc _).alloc _
 have hb : V.heap[w.heap.size + 1]? = some (.cells #[.int .i64 (x.t % 16), .int .i64 (x.s % 5), .int .i64 (x.q % 32), .int .i64 (1 + x.o % 16), .int .i64 (x.t - x.o)] 30 (0, 0)) := by
  rw [← hV]
  have := World.alloc_heap_new (w.alloc (.cells #[.int .u8 x.t, .int .u8 x.s, .int .u8 x.q, .int .u8 x.o, .int .u8 x.l] 97)) (.cells #[.int .i64 (x.t % 16), .int .i64 (x.s % 5), .int .i64 (x.q % 32), .int .i64 (1 + x.o % 16), .int .i64 (x.t - x.o)] 30)
  rwa [World.size_alloc] at this
 rw [hV]
 have y0 := cells_in hb 0
 have y1 := cells_in hb 1
 have y2 := cells_in hb 2
 have y3 := cells_in hb 3
 have y4 := cells_in hb 4
 simp at y0 y1 y2 y3 y4
 have hr := HR.out
 unfold madeV at hr
 subst hr
 exact bodyPost_ret (v := .agg #[.int .i64 (x.t % 16), .int .i64 (x.s % 5), .int .i64 (x.q % 32), .int .i64 (1 + x.o % 16), .int .i64 (x.t - x.o)]) (by simp [results, Tryz.results43, go_sem, y0, y1, y2, y3, y4]) rfl ⟨rfl, hf⟩
/-- An act in small numbers. -/
structure Smc where
 kind : Int
 x : Sm5
def Smc.ok (x : Smc) : Prop := (0 ≤ x.kind ∧ x.kind < 256) ∧ x.x.ok
def kindC (k : Int) : Int := if k % 16 ≤ 2 then 2 else if k % 16 = 3 then 3 else if k % 16 ≤ 5 then 4 else if k % 16 = 6 ∧ 200 < k then 5 else 1
def actC (x : Smc) : Ca := ⟨kindC x.kind, madeV x.x, x.x.o % 20⟩
theorem kindC_ok (k : Int) : 1 ≤ kindC k ∧ kindC k ≤ 5 := by
 unfold kindC
 split
 ·omega
 ·split
  ·omega
  ·split
   ·omega
   ·split <;> omega
end Go.Proofs.YtieeloealklkgaaGreat

/-
  Acts.
-/
namespace Go.Proofs.YtieeloealklkgaaGreat
open Go Go.RowKit
attribute [local go_sem ↓] Go.wp_at_zero Go.wp_at_succ
attribute [local go_sem] Oper.semAt_some wide_fn wide_depth wide_fnR wide_depthR

def SmcsIn (w : World) (a : Option Addr) (L : List Smc) : Prop := ∀ j x, L[j]? = some x → x.ok ∧ ∃ g o, a = some ⟨g, o, none⟩ ∧ w.cell? ⟨g, o + j * 6, none⟩ = some (.int .u8 x.kind) ∧ w.cell? ⟨g, o + j * 6 + 1, none⟩ = some (.int .u8 x.x.t) ∧ w.cell? ⟨g, o + j * 6 + 2, none⟩ = some (.int .u8 x.x.s) ∧ w.cell? ⟨g, o + j * 6 + 3, none⟩ = some (.int .u8 x.x.q) ∧ w.cell? ⟨g, o + j * 6 + 4, none⟩ = some (.int .u8 x.x.o) ∧ w.cell? ⟨g, o + j * 6 + 5, none⟩ = some (.int .u8 x.x.l)
theorem SmcsIn.later {w w' : World} {a : Option Addr} {L : List Smc} (h : SmcsIn w a L) (hf : Fr0 none' w w') : SmcsIn w' a L := by
 intro j x hj
 obtain ⟨h1, g, o, h2, c0, c1, c2, c3, c4, c5⟩ := h j x hj
 exact ⟨h1, g, o, h2, hf.later c0, hf.later c1, hf.later c2, hf.later c3, hf.later c4, hf.later c5⟩
def flatCa (L : List Ca) : List Value := L.flatMap fun a => [.int .u8 a.kind, .int .i64 a.x.key.time, .int .i64 a.x.key.source, .int .i64 a.x.key.seq, .int .i64 a.x.to, .int .i64 a.x.value, .int .i64 a.time]
theorem flatCa_snoc (L : List Ca) (a : Ca) : flatCa (L ++ [a]) = flatCa L ++ [.int .u8 a.kind, .int .i64 a.x.key.time, .int .i64 a.x.key.source, .int .i64 a.x.key.seq, .int .i64 a.x.to, .int .i64 a.x.value, .int .i64 a.time] := by simp [flatCa]
theorem set7_at {w : World} {b : Nat} {v0 v1 v2 v3 v4 v5 v6 : Value} {ty : TypeId} (h : w.heap[b]? = some (.cells #[v0, v1, v2, v3, v4, v5, v6] ty (0, 0))) (a0 a1 a2 a3 a4 a5 a6 : Value) :
  (((((((w.setCell ⟨b, 0, none⟩ a0).setCell ⟨b, 1, none⟩ a1).setCell ⟨b, 2, none⟩ a2).setCell ⟨b, 3, none⟩ a3).setCell ⟨b, 4, none⟩ a4).setCell ⟨b, 5, none⟩ a5).setCell ⟨b, 6, none⟩ a6).heap[b]? = some (.cells #[a0, a1, a2, a3, a4, a5, a6] ty (0, 0)) := by
 have h0 := heap_set_cell (o := 0) h a0
 have h1 := heap_set_cell (o := 1) h0 a1
 have h2 := heap_set_cell (o := 2) h1 a2
 have h3 := heap_set_cell (o := 3) h2 a3
 have h4 := heap_set_cell (o := 4) h3 a4
 have h5 := heap_set_cell (o := 5) h4 a5
 have h6 := heap_set_cell (o := 6) h5 a6
 simpa using h6
theorem set7_fr {S : Nat → Prop} {w W : World} (h : Fr0 S w W) {b : Nat} (hb : b < w.heap.size → S b) (a0 a1 a2 a3 a4 a5 a6 : Value) :
  Fr0 S w (((((((W.setCell ⟨b, 0, none⟩ a0).setCell ⟨b, 1, none⟩ a1).setCell ⟨b, 2, none⟩ a2).setCell ⟨b, 3, none⟩ a3).setCell ⟨b, 4, none⟩ a4).setCell ⟨b, 5, none⟩ a5).setCell ⟨b, 6, none⟩ a6) :=
 ((((((h.setCell hb _).setCell hb _).setCell hb _).setCell hb _).setCell hb _).setCell hb _).setCell hb _
theorem info_act0 : (Tryz.prog.info? 33).map (fun i => (i.zero, i.size, i.bytes)) = some (some (.agg #[.int .u8 0, .int .i64 0, .int .i64 0, .int .i64 0, .int .i64 0, .int .i64 0, .int .i64 0]), 7, 56) := by kernel_rfl
theorem viaC {T : Type} {P : Program} {c : Code} {K : Act → World → Prop} {Q : Exit → Act → World → Prop} {a : Act} {w : World} (F : T → World → Prop) (vs : T → List (Nat × Value))
  (t : ∀ q W, F q W → K ((vs q).foldl (fun a p => a.put (some p.1) p.2) a) W)
  (h : (∀ q W, F q W → K ((vs q).foldl (fun a p => a.put (some p.1) p.2) a) W) → c.wp P (Exit.then K Q) a w) : c.wp P (Exit.then K Q) a w := h t
theorem stepCa {L : List Smc} {j : Nat} {x : Smc} (h : L[j]? = some x) : flatCa ((L.take (j + 1)).map actC) = flatCa ((L.take j).map actC) ++ [.int .u8 (kindC x.kind), .int .i64 (x.x.t % 16), .int .i64 (x.x.s % 5), .int .i64 (x.x.q % 32), .int .i64 (1 + x.x.o % 16), .int .i64 (x.x.t - x.x.o), .int .i64 (x.x.o % 20)] := by
 rw [List.take_add_one, h, List.map_append, Option.toList_some, List.map_cons, List.map_nil, flatCa_snoc]
 rfl
set_option maxRecDepth 100000 in
set_option maxHeartbeats 4000000 in
theorem Acts_any {w : World} {a : Option Addr} {n cap most : Nat} (L : List Smc) (h : SmcsIn w a L) (hl : L.length = n) (hc : n ≤ cap) (hm : most ≤ 100) :
  Calls Tryz.prog 13 #[.slice a n cap, .int .i64 most] w fun e w' => ∃ v, e = .returned v ∧ w'.ownsRow w.heap.size 33 7 v ((L.take most).map actC).length (flatCa ((L.take most).map actC)) ∧ Fr0 none' w w' := by
 obtain ⟨i0, hi, hz0, hz1, hz2⟩ := info_parts info_act0
 obtain ⟨k, hk⟩ : ∃ k, min n most = k := ⟨_, rfl⟩
 have hk1 : ((if (n : Int) ≤ (most : Int) then (n : Int) else (most : Int)) : Int) = (k : Int) := by split <;> omega
 have H := Lib.hid h
 have Hl := Lib.hid hl
 have HK := Lib.hid hk
 obtain ⟨N, hN⟩ : ∃ N, w.heap.size = N := ⟨_, rfl⟩
 have HN := Lib.hid hN
 rw [hN]
 clear h hl hk hN
 go_enter Tryz.func13, Tryz.ntmps13
 go_wp2_with fail
 have e1 : min (n : Int) (most : Int) = (k : Int) := by have := HK.out; omega
 have e2 : max (k : Int) 0 = (k : Int) := by omega
 rw [e1, e2, Int.toNat_natCast]
 go_loopw [5, 16] (fun out i wr => ∃ j : Nat, j ≤ k ∧ i = .int .i64 j ∧ Hid (wr.ownsRow N 33 7 out j (flatCa ((L.take j).map actC))) ∧ Hid (Fr0 none' w wr)) (fun _ i _ => k - (Go.RowKit.intOf i).toNat)
 case atStart => exact ⟨0, Nat.zero_le _, rfl, World.ownsRow_nil _ _ _ _, Fr0.refl _ _⟩
 case round =>
  obtain ⟨j, hj, rfl, hown, hfr⟩ := hrel
  by_cases hlt : j < k
  ·obtain ⟨x, hx⟩ : ∃ x, L[j]? = some x := ⟨_, List.getElem?_eq_getElem (by rw [Hl.out]; have := HK.out; omega)⟩
   obtain ⟨hxo, g, o, rfl, c0, c1, c2, c3, c4, c5⟩ := (H.out.later hfr.out) j x hx
   obtain ⟨va, vc, rfl⟩ : ∃ va vc, u5 = .slice va j vc := by
    rcases hown.out.2 with ⟨rfl, h0⟩ | ⟨g, cap, cur, rfl, _⟩
    ·exact ⟨none, 0, by rw [h0]⟩
    ·exact ⟨_, cap, rfl⟩
   have k1 : (0 : Int) ≤ (j : Int) := by omega
   have k2 : (j : Int) < (k : Int) := by omega
   obtain ⟨xb, hxb⟩ : ∃ b, wr.heap.size = b := ⟨_, rfl⟩
   obtain ⟨W1, hW1⟩ : ∃ W, wr.alloc (.cells #[.int .u8 x.kind, .int .u8 x.x.t, .int .u8 x.x.s, .int .u8 x.x.q, .int .u8 x.x.o, .int .u8 x.x.l] 99) = W := ⟨_, rfl⟩
   have hf1 : Fr0 none' wr W1 := by rw [← hW1]; exact (Fr0.refl _ _).alloc _
   have hb : W1.heap[xb]? = some (.cells #[.int .u8 x.kind, .int .u8 x.x.t, .int .u8 x.x.s, .int .u8 x.x.q, .int .u8 x.x.o, .int .u8 x.x.l] 99 (0, 0)) := by rw [← hW1, ← hxb]; exact World.alloc_heap_new _ _
   have z0 := cells_in hb 0
   have z1 := cells_in hb 1
   have z2 := cells_in hb 2
   have z3 := cells_in hb 3
   have z4 := cells_in hb 4
   have z5 := cells_in hb 5
   simp at z0 z1 z2 z3 z4 z5
   have HZ := Lib.hid (fun (W' : World) (hf : Fr0 none' W1 W') => And.intro (hf.later z0) <| And.intro (hf.later z1) <| And.intro (hf.later z2) <| And.intro (hf.later z3) <| And.intro (hf.later z4) (hf.later z5))
   have HM := Lib.hid (fun (W : World) => made11_any x.x hxo.2 W)
   have Hxo := Lib.hid hxo
   obtain ⟨q1, q2⟩ := hxo.2.2.2.2.1
   obtain ⟨q3, q4⟩ := hxo.1
   have q5 : Int.tmod x.x.o 20 = x.x.o % 20 := Int.tmod_eq_emod_of_nonneg q1
   have q6 : IntKind.i64.wrap (x.x.o % 20) = x.x.o % 20 := IntWalk.i64_in _ (by omega)
   have Hx := Lib.hid hx
   have HO1 := Lib.hid (ownsRow_fr0 hown.out hf1 (fun _ _ h => h))
   have FW1 := Lib.hid (hfr.out.trans hf1)
   have hxB : xb < W1.heap.size := (Array.getElem?_eq_some_iff.1 hb).1
   simp only [sm5V, evV, madeV] at HM
   clear hx hxo hb z0 z1 z2 z3 z4 z5 hf1 hown hfr
   go_wp2_with fail
   try rw [hxb]
   clear hxb hW1 c0 c1 c2 c3 c4 c5
   refine viaC (T := (Nat → Value) × Nat) (fun q W => W.heap[q.2]? = some (.cells #[.int .u8 1, .int .i64 (x.x.t % 16), .int .i64 (x.x.s % 5), .int .i64 (x.x.q % 32), .int .i64 (1 + x.x.o % 16), .int .i64 (x.x.t - x.x.o), .int .i64 (x.x.o % 20)] 33 (0, 0)) ∧ W1.heap.size ≤ q.2 ∧ Fr0 none' W1 W)
    (fun q => [(20, q.1 0), (21, q.1 1), (22, q.1 2), (23, q.1 3), (24, q.1 4), (25, q.1 5), (26, q.1 6), (27, q.1 7), (28, q.1 8), (8, .pointer (some ⟨q.2, 0, none⟩))]) (fun q W hF => ?_) (fun hT => ?_)
   ·simp only [List.foldl, Act.put, List.setIfInBounds_toArray, List.set_cons_zero, List.set_cons_succ]
    obtain ⟨us, ab⟩ := q
    obtain ⟨hab, habn, hf⟩ := hF
    simp only at hab habn ⊢
    obtain ⟨z0, z1, z2, z3, z4, z5⟩ := HZ.out W hf
    have b0 := cells_in hab 0
    have b1 := cells_in hab 1
    have b2 := cells_in hab 2
    have b3 := cells_in hab 3
    have b4 := cells_in hab 4
    have b5 := cells_in hab 5
    have b6 := cells_in hab 6
    simp at b0 b1 b2 b3 b4 b5 b6
    have u0 := thaw_in hab 0
    have q7 : Int.tmod x.kind 16 = x.kind % 16 := Int.tmod_eq_emod_of_nonneg q3
    have hor := ownsRow_fr0 HO1.out hf (fun _ _ h => h)
    have hfa := FW1.out.trans hf
    have hoff : ∀ kd : Value, (W.setCell ⟨ab, 0, none⟩ kd).ownsRow N 33 7 (.slice va j vc) j (flatCa ((L.take j).map actC)) ∧ Fr0 none' w (W.setCell ⟨ab, 0, none⟩ kd) := fun kd =>
     ⟨ownsRow_fr0 hor ((Fr0.refl (fun k => k = ab) W).setCell (fun _ => rfl) kd) (fun g hg e => by have := (HO1.out.lt g hg).2; have e : g = ab := e; omega), hfa.trans' ((Fr0.refl (fun k => k = ab) W).setCell (fun _ => rfl) kd) (fun i h1 h2 => by have := FW1.out.size; have h2 : i = ab := h2; omega)⟩
    have Hoff := Lib.hid hoff
    have HO2 := Lib.hid hor
    have FW2 := Lib.hid hfa
    clear hab habn hf hor hfa hoff
    obtain ⟨m, hm⟩ : ∃ m, x.kind % 16 = m := ⟨_, rfl⟩
    rw [hm] at q7
    have Hm := Lib.hid hm
    have hm0 : 0 ≤ m := by omega
    clear hm
    have hcs : m = 0 ∨ m = 1 ∨ m = 2 ∨ m = 3 ∨ m = 4 ∨ m = 5 ∨ m = 6 ∨ 7 ≤ m := by omega
    rcases hcs with rfl | rfl | rfl | rfl | rfl | rfl | rfl | h7
    ·skip
     have HO2 := Lib.hid (Hoff.out (.int .u8 2)).1
     have FW2 := Lib.hid (Hoff.out (.int .u8 2)).2
     clear Hoff
     have hsrc := Src.newRow (P := Tryz.prog) (size := 7) (tx := 23) (ty := 33) (W.setCell ⟨ab, 0, none⟩ (.int .u8 2)) Tryz.underlying23 1 1 [.int .u8 2, .int .i64 (x.x.t % 16), .int .i64 (x.x.s % 5), .int .i64 (x.x.q % 32), .int .i64 (1 + x.x.o % 16), .int .i64 (x.x.t - x.x.o), .int .i64 (x.x.o % 20)] rfl (by simp [Value.oneCell'])
     have Hown2 := Lib.hid (HO2.out.alloc (.cells [Value.int .u8 2, .int .i64 (x.x.t % 16), .int .i64 (x.x.s % 5), .int .i64 (x.x.q % 32), .int .i64 (1 + x.x.o % 16), .int .i64 (x.x.t - x.x.o), .int .i64 (x.x.o % 20)].toArray 33))
     have Fr2 := Lib.hid (FW2.out.alloc (.cells [Value.int .u8 2, .int .i64 (x.x.t % 16), .int .i64 (x.x.s % 5), .int .i64 (x.x.q % 32), .int .i64 (1 + x.x.o % 16), .int .i64 (x.x.t - x.x.o), .int .i64 (x.x.o % 20)].toArray 33))
     have Hsrc := Lib.hid hsrc
     have hNW : N ≤ (W.setCell ⟨ab, 0, none⟩ (.int .u8 2)).heap.size := by rw [← HN.out]; exact FW2.out.size
     try simp only [World.size_setCell] at hsrc hNW
     have Hsrc := Lib.hid hsrc
     clear hsrc
     go_wp2_with (at_builtin; refine wpList_append_k rfl _ _ 23 23 rfl N 33 i0 (.agg #[.int .u8 0, .int .i64 0, .int .i64 0, .int .i64 0, .int .i64 0, .int .i64 0, .int .i64 0]) 7 56 Tryz.underlying23 hi hz0 hz1 hz2 rfl (by decide) _ j _ rfl Hown2.out (.slice (some ⟨W.heap.size, 0, none⟩) 1 1) 1 _ rfl Hsrc.out (by unfold maxLen; omega) (by omega) (by simp; omega) ?_; intro v' w2 hown' hgrow hdr hob)
     have hkd : kindC x.kind = 2 := by
      have := Hm.out
      unfold kindC
      (repeat' split) <;> omega
     have hfin := Fr2.out.grown hgrow (fun i hi hl => by
      have h1 := (Hown2.out.lt i hi).1
      rw [HN.out] at hl; omega)
     have hstp := stepCa Hx.out
     rw [hkd] at hstp
     refine ⟨⟨j + 1, by omega, by go_num, Lib.hid (by rw [hstp]; exact hown'), Lib.hid hfin⟩, ?_⟩
     simp [Go.RowKit.intOf]; omega
    ·skip
     have HO2 := Lib.hid (Hoff.out (.int .u8 2)).1
     have FW2 := Lib.hid (Hoff.out (.int .u8 2)).2
     clear Hoff
     have hsrc := Src.newRow (P := Tryz.prog) (size := 7) (tx := 23) (ty := 33) (W.setCell ⟨ab, 0, none⟩ (.int .u8 2)) Tryz.underlying23 1 1 [.int .u8 2, .int .i64 (x.x.t % 16), .int .i64 (x.x.s % 5), .int .i64 (x.x.q % 32), .int .i64 (1 + x.x.o % 16), .int .i64 (x.x.t - x.x.o), .int .i64 (x.x.o % 20)] rfl (by simp [Value.oneCell'])
     have Hown2 := Lib.hid (HO2.out.alloc (.cells [Value.int .u8 2, .int .i64 (x.x.t % 16), .int .i64 (x.x.s % 5), .int .i64 (x.x.q % 32), .int .i64 (1 + x.x.o % 16), .int .i64 (x.x.t - x.x.o), .int .i64 (x.x.o % 20)].toArray 33))
     have Fr2 := Lib.hid (FW2.out.alloc (.cells [Value.int .u8 2, .int .i64 (x.x.t % 16), .int .i64 (x.x.s % 5), .int .i64 (x.x.q % 32), .int .i64 (1 + x.x.o % 16), .int .i64 (x.x.t - x.x.o), .int .i64 (x.x.o % 20)].toArray 33))
     have Hsrc := Lib.hid hsrc
     have hNW : N ≤ (W.setCell ⟨ab, 0, none⟩ (.int .u8 2)).heap.size := by rw [← HN.out]; exact FW2.out.size
     try simp only [World.size_setCell] at hsrc hNW
     have Hsrc := Lib.hid hsrc
     clear hsrc
     go_wp2_with (at_builtin; refine wpList_append_k rfl _ _ 23 23 rfl N 33 i0 (.agg #[.int .u8 0, .int .i64 0, .int .i64 0, .int .i64 0, .int .i64 0, .int .i64 0, .int .i64 0]) 7 56 Tryz.underlying23 hi hz0 hz1 hz2 rfl (by decide) _ j _ rfl Hown2.out (.slice (some ⟨W.heap.size, 0, none⟩) 1 1) 1 _ rfl Hsrc.out (by unfold maxLen; omega) (by omega) (by simp; omega) ?_; intro v' w2 hown' hgrow hdr hob)
     have hkd : kindC x.kind = 2 := by
      have := Hm.out
      unfold kindC
      (repeat' split) <;> omega
     have hfin := Fr2.out.grown hgrow (fun i hi hl => by
      have h1 := (Hown2.out.lt i hi).1
      rw [HN.out] at hl; omega)
     have hstp := stepCa Hx.out
     rw [hkd] at hstp
     refine ⟨⟨j + 1, by omega, by go_num, Lib.hid (by rw [hstp]; exact hown'), Lib.hid hfin⟩, ?_⟩
     simp [Go.RowKit.intOf]; omega
    ·skip
     have HO2 := Lib.hid (Hoff.out (.int .u8 2)).1
     have FW2 := Lib.hid (Hoff.out (.int .u8 2)).2
     clear Hoff
     have hsrc := Src.newRow (P := Tryz.prog) (size := 7) (tx := 23) (ty := 33) (W.setCell ⟨ab, 0, none⟩ (.int .u8 2)) Tryz.underlying23 1 1 [.int .u8 2, .int .i64 (x.x.t % 16), .int .i64 (x.x.s % 5), .int .i64 (x.x.q % 32), .int .i64 (1 + x.x.o % 16), .int .i64 (x.x.t - x.x.o), .int .i64 (x.x.o % 20)] rfl (by simp [Value.oneCell'])
     have Hown2 := Lib.hid (HO2.out.alloc (.cells [Value.int .u8 2, .int .i64 (x.x.t % 16), .int .i64 (x.x.s % 5), .int .i64 (x.x.q % 32), .int .i64 (1 + x.x.o % 16), .int .i64 (x.x.t - x.x.o), .int .i64 (x.x.o % 20)].toArray 33))
     have Fr2 := Lib.hid (FW2.out.alloc (.cells [Value.int .u8 2, .int .i64 (x.x.t % 16), .int .i64 (x.x.s % 5), .int .i64 (x.x.q % 32), .int .i64 (1 + x.x.o % 16), .int .i64 (x.x.t - x.x.o), .int .i64 (x.x.o % 20)].toArray 33))
     have Hsrc := Lib.hid hsrc
     have hNW : N ≤ (W.setCell ⟨ab, 0, none⟩ (.int .u8 2)).heap.size := by rw [← HN.out]; exact FW2.out.size
     try simp only [World.size_setCell] at hsrc hNW
     have Hsrc := Lib.hid hsrc
     clear hsrc
     go_wp2_with (at_builtin; refine wpList_append_k rfl _ _ 23 23 rfl N 33 i0 (.agg #[.int .u8 0, .int .i64 0, .int .i64 0, .int .i64 0, .int .i64 0, .int .i64 0, .int .i64 0]) 7 56 Tryz.underlying23 hi hz0 hz1 hz2 rfl (by decide) _ j _ rfl Hown2.out (.slice (some ⟨W.heap.size, 0, none⟩) 1 1) 1 _ rfl Hsrc.out (by unfold maxLen; omega) (by omega) (by simp; omega) ?_; intro v' w2 hown' hgrow hdr hob)
     have hkd : kindC x.kind = 2 := by
      have := Hm.out
      unfold kindC
      (repeat' split) <;> omega
     have hfin := Fr2.out.grown hgrow (fun i hi hl => by
      have h1 := (Hown2.out.lt i hi).1
      rw [HN.out] at hl; omega)
     have hstp := stepCa Hx.out
     rw [hkd] at hstp
     refine ⟨⟨j + 1, by omega, by go_num, Lib.hid (by rw [hstp]; exact hown'), Lib.hid hfin⟩, ?_⟩
     simp [Go.RowKit.intOf]; omega
    ·skip
     have HO2 := Lib.hid (Hoff.out (.int .u8 3)).1
     have FW2 := Lib.hid (Hoff.out (.int .u8 3)).2
     clear Hoff
     have hsrc := Src.newRow (P := Tryz.prog) (size := 7) (tx := 23) (ty := 33) (W.setCell ⟨ab, 0, none⟩ (.int .u8 3)) Tryz.underlying23 1 1 [.int .u8 3, .int .i64 (x.x.t % 16), .int .i64 (x.x.s % 5), .int .i64 (x.x.q % 32), .int .i64 (1 + x.x.o % 16), .int .i64 (x.x.t - x.x.o), .int .i64 (x.x.o % 20)] rfl (by simp [Value.oneCell'])
     have Hown2 := Lib.hid (HO2.out.alloc (.cells [Value.int .u8 3, .int .i64 (x.x.t % 16), .int .i64 (x.x.s % 5), .int .i64 (x.x.q % 32), .int .i64 (1 + x.x.o % 16), .int .i64 (x.x.t - x.x.o), .int .i64 (x.x.o % 20)].toArray 33))
     have Fr2 := Lib.hid (FW2.out.alloc (.cells [Value.int .u8 3, .int .i64 (x.x.t % 16), .int .i64 (x.x.s % 5), .int .i64 (x.x.q % 32), .int .i64 (1 + x.x.o % 16), .int .i64 (x.x.t - x.x.o), .int .i64 (x.x.o % 20)].toArray 33))
     have Hsrc := Lib.hid hsrc
     have hNW : N ≤ (W.setCell ⟨ab, 0, none⟩ (.int .u8 3)).heap.size := by rw [← HN.out]; exact FW2.out.size
     try simp only [World.size_setCell] at hsrc hNW
     have Hsrc := Lib.hid hsrc
     clear hsrc
     go_wp2_with (at_builtin; refine wpList_append_k rfl _ _ 23 23 rfl N 33 i0 (.agg #[.int .u8 0, .int .i64 0, .int .i64 0, .int .i64 0, .int .i64 0, .int .i64 0, .int .i64 0]) 7 56 Tryz.underlying23 hi hz0 hz1 hz2 rfl (by decide) _ j _ rfl Hown2.out (.slice (some ⟨W.heap.size, 0, none⟩) 1 1) 1 _ rfl Hsrc.out (by unfold maxLen; omega) (by omega) (by simp; omega) ?_; intro v' w2 hown' hgrow hdr hob)
     have hkd : kindC x.kind = 3 := by
      have := Hm.out
      unfold kindC
      (repeat' split) <;> omega
     have hfin := Fr2.out.grown hgrow (fun i hi hl => by
      have h1 := (Hown2.out.lt i hi).1
      rw [HN.out] at hl; omega)
     have hstp := stepCa Hx.out
     rw [hkd] at hstp
     refine ⟨⟨j + 1, by omega, by go_num, Lib.hid (by rw [hstp]; exact hown'), Lib.hid hfin⟩, ?_⟩
     simp [Go.RowKit.intOf]; omega
    ·skip
     have HO2 := Lib.hid (Hoff.out (.int .u8 4)).1
     have FW2 := Lib.hid (Hoff.out (.int .u8 4)).2
     clear Hoff
     have hsrc := Src.newRow (P := Tryz.prog) (size := 7) (tx := 23) (ty := 33) (W.setCell ⟨ab, 0, none⟩ (.int .u8 4)) Tryz.underlying23 1 1 [.int .u8 4, .int .i64 (x.x.t % 16), .int .i64 (x.x.s % 5), .int .i64 (x.x.q % 32), .int .i64 (1 + x.x.o % 16), .int .i64 (x.x.t - x.x.o), .int .i64 (x.x.o % 20)] rfl (by simp [Value.oneCell'])
     have Hown2 := Lib.hid (HO2.out.alloc (.cells [Value.int .u8 4, .int .i64 (x.x.t % 16), .int .i64 (x.x.s % 5), .int .i64 (x.x.q % 32), .int .i64 (1 + x.x.o % 16), .int .i64 (x.x.t - x.x.o), .int .i64 (x.x.o % 20)].toArray 33))
     have Fr2 := Lib.hid (FW2.out.alloc (.cells [Value.int .u8 4, .int .i64 (x.x.t % 16), .int .i64 (x.x.s % 5), .int .i64 (x.x.q % 32), .int .i64 (1 + x.x.o % 16), .int .i64 (x.x.t - x.x.o), .int .i64 (x.x.o % 20)].toArray 33))
     have Hsrc := Lib.hid hsrc
     have hNW : N ≤ (W.setCell ⟨ab, 0, none⟩ (.int .u8 4)).heap.size := by rw [← HN.out]; exact FW2.out.size
     try simp only [World.size_setCell] at hsrc hNW
     have Hsrc := Lib.hid hsrc
     clear hsrc
     go_wp2_with (at_builtin; refine wpList_append_k rfl _ _ 23 23 rfl N 33 i0 (.agg #[.int .u8 0, .int .i64 0, .int .i64 0, .int .i64 0, .int .i64 0, .int .i64 0, .int .i64 0]) 7 56 Tryz.underlying23 hi hz0 hz1 hz2 rfl (by decide) _ j _ rfl Hown2.out (.slice (some ⟨W.heap.size, 0, none⟩) 1 1) 1 _ rfl Hsrc.out (by unfold maxLen; omega) (by omega) (by simp; omega) ?_; intro v' w2 hown' hgrow hdr hob)
     have hkd : kindC x.kind = 4 := by
      have := Hm.out
      unfold kindC
      (repeat' split) <;> omega
     have hfin := Fr2.out.grown hgrow (fun i hi hl => by
      have h1 := (Hown2.out.lt i hi).1
      rw [HN.out] at hl; omega)
     have hstp := stepCa Hx.out
     rw [hkd] at hstp
     refine ⟨⟨j + 1, by omega, by go_num, Lib.hid (by rw [hstp]; exact hown'), Lib.hid hfin⟩, ?_⟩
     simp [Go.RowKit.intOf]; omega
    ·skip
     have HO2 := Lib.hid (Hoff.out (.int .u8 4)).1
     have FW2 := Lib.hid (Hoff.out (.int .u8 4)).2
     clear Hoff
     have hsrc := Src.newRow (P := Tryz.prog) (size := 7) (tx := 23) (ty := 33) (W.setCell ⟨ab, 0, none⟩ (.int .u8 4)) Tryz.underlying23 1 1 [.int .u8 4, .int .i64 (x.x.t % 16), .int .i64 (x.x.s % 5), .int .i64 (x.x.q % 32), .int .i64 (1 + x.x.o % 16), .int .i64 (x.x.t - x.x.o), .int .i64 (x.x.o % 20)] rfl (by simp [Value.oneCell'])
     have Hown2 := Lib.hid (HO2.out.alloc (.cells [Value.int .u8 4, .int .i64 (x.x.t % 16), .int .i64 (x.x.s % 5), .int .i64 (x.x.q % 32), .int .i64 (1 + x.x.o % 16), .int .i64 (x.x.t - x.x.o), .int .i64 (x.x.o % 20)].toArray 33))
     have Fr2 := Lib.hid (FW2.out.alloc (.cells [Value.int .u8 4, .int .i64 (x.x.t % 16), .int .i64 (x.x.s % 5), .int .i64 (x.x.q % 32), .int .i64 (1 + x.x.o % 16), .int .i64 (x.x.t - x.x.o), .int .i64 (x.x.o % 20)].toArray 33))
     have Hsrc := Lib.hid hsrc
     have hNW : N ≤ (W.setCell ⟨ab, 0, none⟩ (.int .u8 4)).heap.size := by rw [← HN.out]; exact FW2.out.size
     try simp only [World.size_setCell] at hsrc hNW
     have Hsrc := Lib.hid hsrc
     clear hsrc
     go_wp2_with (at_builtin; refine wpList_append_k rfl _ _ 23 23 rfl N 33 i0 (.agg #[.int .u8 0, .int .i64 0, .int .i64 0, .int .i64 0, .int .i64 0, .int .i64 0, .int .i64 0]) 7 56 Tryz.underlying23 hi hz0 hz1 hz2 rfl (by decide) _ j _ rfl Hown2.out (.slice (some ⟨W.heap.size, 0, none⟩) 1 1) 1 _ rfl Hsrc.out (by unfold maxLen; omega) (by omega) (by simp; omega) ?_; intro v' w2 hown' hgrow hdr hob)
     have hkd : kindC x.kind = 4 := by
      have := Hm.out
      unfold kindC
      (repeat' split) <;> omega
     have hfin := Fr2.out.grown hgrow (fun i hi hl => by
      have h1 := (Hown2.out.lt i hi).1
      rw [HN.out] at hl; omega)
     have hstp := stepCa Hx.out
     rw [hkd] at hstp
     refine ⟨⟨j + 1, by omega, by go_num, Lib.hid (by rw [hstp]; exact hown'), Lib.hid hfin⟩, ?_⟩
     simp [Go.RowKit.intOf]; omega
    ·by_cases hg : 200 < x.kind
     ·have d1 : decide (x.kind > 200) = true := decide_eq_true hg
      have d2 : decide (200 < x.kind) = true := decide_eq_true hg
      have HO2 := Lib.hid (Hoff.out (.int .u8 5)).1
      have FW2 := Lib.hid (Hoff.out (.int .u8 5)).2
      clear Hoff
      have hsrc := Src.newRow (P := Tryz.prog) (size := 7) (tx := 23) (ty := 33) (W.setCell ⟨ab, 0, none⟩ (.int .u8 5)) Tryz.underlying23 1 1 [.int .u8 5, .int .i64 (x.x.t % 16), .int .i64 (x.x.s % 5), .int .i64 (x.x.q % 32), .int .i64 (1 + x.x.o % 16), .int .i64 (x.x.t - x.x.o), .int .i64 (x.x.o % 20)] rfl (by simp [Value.oneCell'])
      have Hown2 := Lib.hid (HO2.out.alloc (.cells [Value.int .u8 5, .int .i64 (x.x.t % 16), .int .i64 (x.x.s % 5), .int .i64 (x.x.q % 32), .int .i64 (1 + x.x.o % 16), .int .i64 (x.x.t - x.x.o), .int .i64 (x.x.o % 20)].toArray 33))
      have Fr2 := Lib.hid (FW2.out.alloc (.cells [Value.int .u8 5, .int .i64 (x.x.t % 16), .int .i64 (x.x.s % 5), .int .i64 (x.x.q % 32), .int .i64 (1 + x.x.o % 16), .int .i64 (x.x.t - x.x.o), .int .i64 (x.x.o % 20)].toArray 33))
      have Hsrc := Lib.hid hsrc
      have hNW : N ≤ (W.setCell ⟨ab, 0, none⟩ (.int .u8 5)).heap.size := by rw [← HN.out]; exact FW2.out.size
      try simp only [World.size_setCell] at hsrc hNW
      have Hsrc := Lib.hid hsrc
      clear hsrc
      go_wp2_with (at_builtin; refine wpList_append_k rfl _ _ 23 23 rfl N 33 i0 (.agg #[.int .u8 0, .int .i64 0, .int .i64 0, .int .i64 0, .int .i64 0, .int .i64 0, .int .i64 0]) 7 56 Tryz.underlying23 hi hz0 hz1 hz2 rfl (by decide) _ j _ rfl Hown2.out (.slice (some ⟨W.heap.size, 0, none⟩) 1 1) 1 _ rfl Hsrc.out (by unfold maxLen; omega) (by omega) (by simp; omega) ?_; intro v' w2 hown' hgrow hdr hob)
      have hkd : kindC x.kind = 5 := by
       have := Hm.out
       unfold kindC
       (repeat' split) <;> omega
      have hfin := Fr2.out.grown hgrow (fun i hi hl => by
       have h1 := (Hown2.out.lt i hi).1
       rw [HN.out] at hl; omega)
      have hstp := stepCa Hx.out
      rw [hkd] at hstp
      refine ⟨⟨j + 1, by omega, by go_num, Lib.hid (by rw [hstp]; exact hown'), Lib.hid hfin⟩, ?_⟩
      simp [Go.RowKit.intOf]; omega
     ·have d1 : decide (x.kind > 200) = false := decide_eq_false hg
      have d2 : decide (200 < x.kind) = false := decide_eq_false hg
      have hsrc := Src.newRow (P := Tryz.prog) (size := 7) (tx := 23) (ty := 33) (W) Tryz.underlying23 1 1 [.int .u8 1, .int .i64 (x.x.t % 16), .int .i64 (x.x.s % 5), .int .i64 (x.x.q % 32), .int .i64 (1 + x.x.o % 16), .int .i64 (x.x.t - x.x.o), .int .i64 (x.x.o % 20)] rfl (by simp [Value.oneCell'])
      have Hown2 := Lib.hid (HO2.out.alloc (.cells [Value.int .u8 1, .int .i64 (x.x.t % 16), .int .i64 (x.x.s % 5), .int .i64 (x.x.q % 32), .int .i64 (1 + x.x.o % 16), .int .i64 (x.x.t - x.x.o), .int .i64 (x.x.o % 20)].toArray 33))
      have Fr2 := Lib.hid (FW2.out.alloc (.cells [Value.int .u8 1, .int .i64 (x.x.t % 16), .int .i64 (x.x.s % 5), .int .i64 (x.x.q % 32), .int .i64 (1 + x.x.o % 16), .int .i64 (x.x.t - x.x.o), .int .i64 (x.x.o % 20)].toArray 33))
      have Hsrc := Lib.hid hsrc
      have hNW : N ≤ (W).heap.size := by rw [← HN.out]; exact FW2.out.size
      try simp only [World.size_setCell] at hsrc hNW
      have Hsrc := Lib.hid hsrc
      clear hsrc
      go_wp2_with (at_builtin; refine wpList_append_k rfl _ _ 23 23 rfl N 33 i0 (.agg #[.int .u8 0, .int .i64 0, .int .i64 0, .int .i64 0, .int .i64 0, .int .i64 0, .int .i64 0]) 7 56 Tryz.underlying23 hi hz0 hz1 hz2 rfl (by decide) _ j _ rfl Hown2.out (.slice (some ⟨W.heap.size, 0, none⟩) 1 1) 1 _ rfl Hsrc.out (by unfold maxLen; omega) (by omega) (by simp; omega) ?_; intro v' w2 hown' hgrow hdr hob)
      have hkd : kindC x.kind = 1 := by
       have := Hm.out
       unfold kindC
       (repeat' split) <;> omega
      have hfin := Fr2.out.grown hgrow (fun i hi hl => by
       have h1 := (Hown2.out.lt i hi).1
       rw [HN.out] at hl; omega)
      have hstp := stepCa Hx.out
      rw [hkd] at hstp
      refine ⟨⟨j + 1, by omega, by go_num, Lib.hid (by rw [hstp]; exact hown'), Lib.hid hfin⟩, ?_⟩
      simp [Go.RowKit.intOf]; omega
    ·have e0 : (m == 0) = false := beq_eq_false_iff_ne.2 (by omega)
     have e1 : (m == 1) = false := beq_eq_false_iff_ne.2 (by omega)
     have e2 : (m == 2) = false := beq_eq_false_iff_ne.2 (by omega)
     have e3 : (m == 3) = false := beq_eq_false_iff_ne.2 (by omega)
     have e4 : (m == 4) = false := beq_eq_false_iff_ne.2 (by omega)
     have e5 : (m == 5) = false := beq_eq_false_iff_ne.2 (by omega)
     have e6 : (m == 6) = false := beq_eq_false_iff_ne.2 (by omega)
     have hsrc := Src.newRow (P := Tryz.prog) (size := 7) (tx := 23) (ty := 33) (W) Tryz.underlying23 1 1 [.int .u8 1, .int .i64 (x.x.t % 16), .int .i64 (x.x.s % 5), .int .i64 (x.x.q % 32), .int .i64 (1 + x.x.o % 16), .int .i64 (x.x.t - x.x.o), .int .i64 (x.x.o % 20)] rfl (by simp [Value.oneCell'])
     have Hown2 := Lib.hid (HO2.out.alloc (.cells [Value.int .u8 1, .int .i64 (x.x.t % 16), .int .i64 (x.x.s % 5), .int .i64 (x.x.q % 32), .int .i64 (1 + x.x.o % 16), .int .i64 (x.x.t - x.x.o), .int .i64 (x.x.o % 20)].toArray 33))
     have Fr2 := Lib.hid (FW2.out.alloc (.cells [Value.int .u8 1, .int .i64 (x.x.t % 16), .int .i64 (x.x.s % 5), .int .i64 (x.x.q % 32), .int .i64 (1 + x.x.o % 16), .int .i64 (x.x.t - x.x.o), .int .i64 (x.x.o % 20)].toArray 33))
     have Hsrc := Lib.hid hsrc
     have hNW : N ≤ (W).heap.size := by rw [← HN.out]; exact FW2.out.size
     try simp only [World.size_setCell] at hsrc hNW
     have Hsrc := Lib.hid hsrc
     clear hsrc
     go_wp2_with (at_builtin; refine wpList_append_k rfl _ _ 23 23 rfl N 33 i0 (.agg #[.int .u8 0, .int .i64 0, .int .i64 0, .int .i64 0, .int .i64 0, .int .i64 0, .int .i64 0]) 7 56 Tryz.underlying23 hi hz0 hz1 hz2 rfl (by decide) _ j _ rfl Hown2.out (.slice (some ⟨W.heap.size, 0, none⟩) 1 1) 1 _ rfl Hsrc.out (by unfold maxLen; omega) (by omega) (by simp; omega) ?_; intro v' w2 hown' hgrow hdr hob)
     have hkd : kindC x.kind = 1 := by
      have := Hm.out
      unfold kindC
      (repeat' split) <;> omega
     have hfin := Fr2.out.grown hgrow (fun i hi hl => by
      have h1 := (Hown2.out.lt i hi).1
      rw [HN.out] at hl; omega)
     have hstp := stepCa Hx.out
     rw [hkd] at hstp
     refine ⟨⟨j + 1, by omega, by go_num, Lib.hid (by rw [hstp]; exact hown'), Lib.hid hfin⟩, ?_⟩
     simp [Go.RowKit.intOf]; omega
   ·refine wp_region_held_drew (S := fun W' => Fr0 none' W1 W') (by kernel_rfl) ((Fr0.refl none' W1).drew) (fun hHeld => ?_)
    generalize W1.drew = WD at hHeld ⊢
    refine tkn (i := 0) (v := .pointer (some ⟨xb, 1, none⟩)) (fun W' hSW => ?_) ?_
    ·obtain ⟨z0, z1, z2, z3, z4, z5⟩ := HZ.out W' hSW
     first | (go_simp; done) | exact rfl | (go_simp; rfl) | (go_simp; omega)
    try simp only [pUt, pUn, sEt, sEz, sEs]
    refine tkn (i := 1) (v := .agg #[.int .u8 x.x.t, .int .u8 x.x.s, .int .u8 x.x.q, .int .u8 x.x.o, .int .u8 x.x.l]) (fun W' hSW => ?_) ?_
    ·obtain ⟨z0, z1, z2, z3, z4, z5⟩ := HZ.out W' hSW
     first | (go_simp; done) | exact rfl | (go_simp; rfl) | (go_simp; omega)
    try simp only [pUt, pUn, sEt, sEz, sEs]
    refine tkn (i := 3) (v := .pointer (some ⟨xb, 1, none⟩)) (fun W' hSW => ?_) ?_
    ·first | (go_simp; done) | exact rfl | (go_simp; rfl) | (go_simp; omega)
    try simp only [pUt, pUn, sEt, sEz, sEs]
    refine tkn (i := 4) (v := .pointer (some ⟨xb, 4, none⟩)) (fun W' hSW => ?_) ?_
    ·first | (go_simp; done) | exact rfl | (go_simp; rfl) | (go_simp; omega)
    try simp only [pUt, pUn, sEt, sEz, sEs]
    refine tkn (i := 5) (v := .int .u8 x.x.o) (fun W' hSW => ?_) ?_
    ·obtain ⟨z0, z1, z2, z3, z4, z5⟩ := HZ.out W' hSW
     first | (go_simp; done) | exact rfl | (go_simp; rfl) | (go_simp; omega)
    try simp only [pUt, pUn, sEt, sEz, sEs]
    refine tkn (i := 6) (v := .int .u8 (x.x.o % 20)) (fun W' hSW => ?_) ?_
    ·first | (go_simp; done) | exact rfl | (go_simp; rfl) | (go_simp; omega)
    try simp only [pUt, pUn, sEt, sEz, sEs]
    refine tkn (i := 7) (v := .int .i64 (x.x.o % 20)) (fun W' hSW => ?_) ?_
    ·first | (go_simp; done) | exact rfl | (go_simp; rfl) | (go_simp; omega)
    try simp only [pUt, pUn, sEt, sEz, sEs]
    refine wpAnyH_ready (rs := [2, 9]) (by kernel_rfl) (by simp) (AllReadyH.cons (op_at rfl) (fun K hK => ?_) (AllReadyH.cons (op_at rfl) (fun K hK => ?_) AllReadyH.nil))
    ·rw [if_pos (by kernel_rfl)]
     go_simp
     refine (HM.out _).mono ?_
     rintro e WA ⟨rfl, hf⟩
     have hHeld := hHeld.trans hf
     clear hf
     go_wp2_with fail
     refine hK.out _ _ hHeld (fun hS => ?_)
     clear hK K
     try simp only [pUt, pUn, sEt, sEz, sEs]
     refine tkn (i := 8) (v := .agg #[.int .u8 1, .int .i64 (x.x.t % 16), .int .i64 (x.x.s % 5), .int .i64 (x.x.q % 32), .int .i64 (1 + x.x.o % 16), .int .i64 (x.x.t - x.x.o), .int .i64 (x.x.o % 20)]) (fun W' hSW => ?_) ?_
     ·first | (go_simp; done) | exact rfl | (go_simp; rfl) | (go_simp; omega)
     try simp only [pUt, pUn, sEt, sEz, sEs]
     refine take_call (i := 9) rfl (by kernel_rfl) (by kernel_rfl) (fun K hK => ?_)
     go_simp
     obtain ⟨ab, hab⟩ : ∃ b, WA.heap.size = b := ⟨_, rfl⟩
     obtain ⟨VB, hVA⟩ : ∃ V, WA.alloc (.cells #[.int .u8 0, .int .i64 0, .int .i64 0, .int .i64 0, .int .i64 0, .int .i64 0, .int .i64 0] 33) = V := ⟨_, rfl⟩
     have hfA : Fr0 none' WA VB := by rw [← hVA]; exact (Fr0.refl _ _).alloc _
     have HB0 := Lib.hid (show VB.heap[ab]? = some (.cells #[.int .u8 0, .int .i64 0, .int .i64 0, .int .i64 0, .int .i64 0, .int .i64 0, .int .i64 0] 33 (0, 0)) by rw [← hVA, ← hab]; exact World.alloc_heap_new _ _)
     have Hab := Lib.hid (show W1.heap.size ≤ ab by rw [← hab]; exact hHeld.size)
     have hHeld := hHeld.trans hfA
     rw [hVA]
     try rw [hab]
     clear hVA hab hfA
     refine hK.out _ _ hHeld (fun hS => ?_)
     clear hK K
     try simp only [pUt, pUn, sEt, sEz, sEs]
     have b0 := cells_in HB0.out 0
     have b1 := cells_in HB0.out 1
     have b2 := cells_in HB0.out 2
     have b3 := cells_in HB0.out 3
     have b4 := cells_in HB0.out 4
     have b5 := cells_in HB0.out 5
     have b6 := cells_in HB0.out 6
     simp at b0 b1 b2 b3 b4 b5 b6
     have u0 := thaw_in HB0.out 0
     have u1 := thaw_in HB0.out 1
     have u2 := thaw_in HB0.out 2
     have u3 := thaw_in HB0.out 3
     have u4 := thaw_in HB0.out 4
     have u5 := thaw_in HB0.out 5
     have u6 := thaw_in HB0.out 6
     refine take_call (i := 10) rfl (by kernel_rfl) (by kernel_rfl) (fun K hK => ?_)
     go_simp
     have h7 := set7_at HB0.out (.int .u8 1) (.int .i64 (x.x.t % 16)) (.int .i64 (x.x.s % 5)) (.int .i64 (x.x.q % 32)) (.int .i64 (1 + x.x.o % 16)) (.int .i64 (x.x.t - x.x.o)) (.int .i64 (x.x.o % 20))
     have f7 := set7_fr (S := none') (w := W1) hHeld (b := ab) (fun h => absurd h (by have := Hab.out; omega)) (.int .u8 1) (.int .i64 (x.x.t % 16)) (.int .i64 (x.x.s % 5)) (.int .i64 (x.x.q % 32)) (.int .i64 (1 + x.x.o % 16)) (.int .i64 (x.x.t - x.x.o)) (.int .i64 (x.x.o % 20))
     have H7 := Lib.hid h7
     have F7 := Lib.hid f7
     clear b0 b1 b2 b3 b4 b5 b6 u0 u1 u2 u3 u4 u5 u6 h7 f7
     refine hK.out _ _ F7.out (fun hS => ?_)
     clear hK K
     try simp only [pUt, pUn, sEt, sEz, sEs]
     refine wpAnyH_done (by kernel_rfl) ?_ _
     simp only [Exit.then]
     have hU := hT (fun i => [.pointer (some ⟨xb, 1, none⟩), .agg #[.int .u8 x.x.t, .int .u8 x.x.s, .int .u8 x.x.q, .int .u8 x.x.o, .int .u8 x.x.l], .agg #[.int .i64 (x.x.t % 16), .int .i64 (x.x.s % 5), .int .i64 (x.x.q % 32), .int .i64 (1 + x.x.o % 16), .int .i64 (x.x.t - x.x.o)], .pointer (some ⟨xb, 1, none⟩), .pointer (some ⟨xb, 4, none⟩), .int .u8 x.x.o, .int .u8 (x.x.o % 20), .int .i64 (x.x.o % 20), .agg #[.int .u8 1, .int .i64 (x.x.t % 16), .int .i64 (x.x.s % 5), .int .i64 (x.x.q % 32), .int .i64 (1 + x.x.o % 16), .int .i64 (x.x.t - x.x.o), .int .i64 (x.x.o % 20)]].getD i undef, ab) _ ⟨H7.out, Hab.out, F7.out⟩
     simp only [List.foldl, Act.put, List.setIfInBounds_toArray, List.set_cons_zero, List.set_cons_succ, List.getD_cons_zero, List.getD_cons_succ] at hU
     exact hU
    ·rw [if_pos (by kernel_rfl)]
     go_simp
     obtain ⟨ab, hab⟩ : ∃ b, WD.heap.size = b := ⟨_, rfl⟩
     obtain ⟨VB, hVA⟩ : ∃ V, WD.alloc (.cells #[.int .u8 0, .int .i64 0, .int .i64 0, .int .i64 0, .int .i64 0, .int .i64 0, .int .i64 0] 33) = V := ⟨_, rfl⟩
     have hfA : Fr0 none' WD VB := by rw [← hVA]; exact (Fr0.refl _ _).alloc _
     have HB0 := Lib.hid (show VB.heap[ab]? = some (.cells #[.int .u8 0, .int .i64 0, .int .i64 0, .int .i64 0, .int .i64 0, .int .i64 0, .int .i64 0] 33 (0, 0)) by rw [← hVA, ← hab]; exact World.alloc_heap_new _ _)
     have Hab := Lib.hid (show W1.heap.size ≤ ab by rw [← hab]; exact hHeld.size)
     have hHeld := hHeld.trans hfA
     rw [hVA]
     try rw [hab]
     clear hVA hab hfA
     refine hK.out _ _ hHeld (fun hS => ?_)
     clear hK K
     try simp only [pUt, pUn, sEt, sEz, sEs]
     refine take_call (i := 2) rfl (by kernel_rfl) (by kernel_rfl) (fun K hK => ?_)
     go_simp
     refine (HM.out _).mono ?_
     rintro e WA ⟨rfl, hf⟩
     have hHeld := hHeld.trans hf
     have HB0 := Lib.hid ((hf.block ab (Array.getElem?_eq_some_iff.1 HB0.out).1 id).trans HB0.out)
     clear hf
     go_wp2_with fail
     refine hK.out _ _ hHeld (fun hS => ?_)
     clear hK K
     try simp only [pUt, pUn, sEt, sEz, sEs]
     refine tkn (i := 8) (v := .agg #[.int .u8 1, .int .i64 (x.x.t % 16), .int .i64 (x.x.s % 5), .int .i64 (x.x.q % 32), .int .i64 (1 + x.x.o % 16), .int .i64 (x.x.t - x.x.o), .int .i64 (x.x.o % 20)]) (fun W' hSW => ?_) ?_
     ·first | (go_simp; done) | exact rfl | (go_simp; rfl) | (go_simp; omega)
     try simp only [pUt, pUn, sEt, sEz, sEs]
     have b0 := cells_in HB0.out 0
     have b1 := cells_in HB0.out 1
     have b2 := cells_in HB0.out 2
     have b3 := cells_in HB0.out 3
     have b4 := cells_in HB0.out 4
     have b5 := cells_in HB0.out 5
     have b6 := cells_in HB0.out 6
     simp at b0 b1 b2 b3 b4 b5 b6
     have u0 := thaw_in HB0.out 0
     have u1 := thaw_in HB0.out 1
     have u2 := thaw_in HB0.out 2
     have u3 := thaw_in HB0.out 3
     have u4 := thaw_in HB0.out 4
     have u5 := thaw_in HB0.out 5
     have u6 := thaw_in HB0.out 6
     refine take_call (i := 10) rfl (by kernel_rfl) (by kernel_rfl) (fun K hK => ?_)
     go_simp
     have h7 := set7_at HB0.out (.int .u8 1) (.int .i64 (x.x.t % 16)) (.int .i64 (x.x.s % 5)) (.int .i64 (x.x.q % 32)) (.int .i64 (1 + x.x.o % 16)) (.int .i64 (x.x.t - x.x.o)) (.int .i64 (x.x.o % 20))
     have f7 := set7_fr (S := none') (w := W1) hHeld (b := ab) (fun h => absurd h (by have := Hab.out; omega)) (.int .u8 1) (.int .i64 (x.x.t % 16)) (.int .i64 (x.x.s % 5)) (.int .i64 (x.x.q % 32)) (.int .i64 (1 + x.x.o % 16)) (.int .i64 (x.x.t - x.x.o)) (.int .i64 (x.x.o % 20))
     have H7 := Lib.hid h7
     have F7 := Lib.hid f7
     clear b0 b1 b2 b3 b4 b5 b6 u0 u1 u2 u3 u4 u5 u6 h7 f7
     refine hK.out _ _ F7.out (fun hS => ?_)
     clear hK K
     try simp only [pUt, pUn, sEt, sEz, sEs]
     refine wpAnyH_done (by kernel_rfl) ?_ _
     simp only [Exit.then]
     have hU := hT (fun i => [.pointer (some ⟨xb, 1, none⟩), .agg #[.int .u8 x.x.t, .int .u8 x.x.s, .int .u8 x.x.q, .int .u8 x.x.o, .int .u8 x.x.l], .agg #[.int .i64 (x.x.t % 16), .int .i64 (x.x.s % 5), .int .i64 (x.x.q % 32), .int .i64 (1 + x.x.o % 16), .int .i64 (x.x.t - x.x.o)], .pointer (some ⟨xb, 1, none⟩), .pointer (some ⟨xb, 4, none⟩), .int .u8 x.x.o, .int .u8 (x.x.o % 20), .int .i64 (x.x.o % 20), .agg #[.int .u8 1, .int .i64 (x.x.t % 16), .int .i64 (x.x.s % 5), .int .i64 (x.x.q % 32), .int .i64 (1 + x.x.o % 16), .int .i64 (x.x.t - x.x.o), .int .i64 (x.x.o % 20)]].getD i undef, ab) _ ⟨H7.out, Hab.out, F7.out⟩
     simp only [List.foldl, Act.put, List.setIfInBounds_toArray, List.set_cons_zero, List.set_cons_succ, List.getD_cons_zero, List.getD_cons_succ] at hU
     exact hU
  ·have hjk : j = k := by omega
   subst hjk
   have htk : L.take j = L.take most := by
    have := HK.out
    by_cases h : n ≤ most
    ·rw [List.take_of_length_le (by rw [Hl.out]; omega), List.take_of_length_le (by rw [Hl.out]; omega)]
    ·rw [show j = most by omega]
   have hle : ((L.take most).map actC).length = j := by
    have := HK.out
    rw [List.length_map, List.length_take, Hl.out]; omega
   have Hfin := Lib.hid (show wr.ownsRow N 33 7 u5 ((L.take most).map actC).length (flatCa ((L.take most).map actC)) by rw [hle, ← htk]; exact hown.out)
   clear hown htk hle
   go_wp2_with fail
   go_ret
   exact ⟨_, rfl, Hfin.out, hfr.out⟩
end Go.Proofs.YtieeloealklkgaaGreat

/-
  alike: what acts told, compared.
-/
namespace Go.Proofs.YtieeloealklkgaaGreat
open Go Go.RowKit
attribute [local go_sem ↓] Go.wp_at_zero Go.wp_at_succ
attribute [local go_sem] Oper.semAt_some wide_fn wide_depth wide_fnR wide_depthR

/-- What was told, its events in memory. -/
def TdEv (w : World) (xs : List Td) : Prop := ∀ x ∈ xs, EsIn w x.sa x.evs ∧ x.evs.length = x.sn ∧ x.sn ≤ 10000
theorem TdEv.later {w w' : World} {xs : List Td} (h : TdEv w xs) (hf : Fr0 none' w w') : TdEv w' xs := fun x hx => ⟨(h x hx).1.later hf, (h x hx).2⟩
end Go.Proofs.YtieeloealklkgaaGreat

/-
  A row of acts, read.
-/
namespace Go.Proofs.YtieeloealklkgaaGreat
open Go Go.RowKit

def caL (a : Ca) : List Value := [.int .u8 a.kind, .int .i64 a.x.key.time, .int .i64 a.x.key.source, .int .i64 a.x.key.seq, .int .i64 a.x.to, .int .i64 a.x.value, .int .i64 a.time]
theorem caL_len : ∀ a : Ca, (caL a).length = 7 := fun _ => rfl
theorem flatCa_length (L : List Ca) : (flatCa L).length = L.length * 7 := by
 induction L with
 | nil => rfl
 | cons x r ih =>
  have e : flatCa (x :: r) = caL x ++ flatCa r := rfl
  rw [e, List.length_append, ih, caL_len, List.length_cons]; omega
theorem CasIn.of_flat {w : World} {g o : Nat} {L : List Ca} (h : ∀ j u, (flatCa L)[j]? = some u → w.cell? ⟨g, o + j, none⟩ = some u) : CasIn w (some ⟨g, o, none⟩) L := fun i x hx => by
 refine ⟨g, o, rfl, ?_, ?_, ?_, ?_, ?_, ?_, ?_⟩
 ·exact h (i * 7) _ (flat_some caL_len hx (j := 0) (by omega) rfl)
 ·rw [Nat.add_assoc]; exact h (i * 7 + 1) _ (flat_some caL_len hx (j := 1) (by omega) rfl)
 ·rw [Nat.add_assoc]; exact h (i * 7 + 2) _ (flat_some caL_len hx (j := 2) (by omega) rfl)
 ·rw [Nat.add_assoc]; exact h (i * 7 + 3) _ (flat_some caL_len hx (j := 3) (by omega) rfl)
 ·rw [Nat.add_assoc]; exact h (i * 7 + 4) _ (flat_some caL_len hx (j := 4) (by omega) rfl)
 ·rw [Nat.add_assoc]; exact h (i * 7 + 5) _ (flat_some caL_len hx (j := 5) (by omega) rfl)
 ·rw [Nat.add_assoc]; exact h (i * 7 + 6) _ (flat_some caL_len hx (j := 6) (by omega) rfl)
theorem CasIn.of_own {w : World} {base : Nat} {v : Value} {n : Nat} {L : List Ca} (h : w.ownsRow base 33 7 v n (flatCa L)) : ∃ a cap, v = .slice a n cap ∧ L.length = n ∧ n ≤ cap ∧ CasIn w a L := by
 have hl : L.length = n := by have := h.1; rw [flatCa_length] at this; omega
 rcases h.2 with ⟨rfl, h0⟩ | ⟨g, cap, cur, rfl, hb, hg, hn', hcm, hs, ht⟩
 ·have : L = [] := List.eq_nil_of_length_eq_zero (by omega)
  subst this
  exact ⟨none, 0, by rw [h0], hl, by omega, fun i x h => by simp at h⟩
 ·exact ⟨_, cap, rfl, hl, hn', CasIn.of_flat (fun j u hj => by
   rw [Nat.zero_add, cells_in hg, ← Array.getElem?_toList]
   rw [← ht, List.getElem?_take] at hj
   split at hj
   ·exact hj
   ·cases hj)⟩
theorem CasIn.take {w : World} {a : Option Addr} {L : List Ca} (h : CasIn w a L) (i : Nat) : CasIn w a (L.take i) := fun j x hx => by
 rw [List.getElem?_take] at hx
 split at hx
 ·exact h j x hx
 ·cases hx
theorem CasIn.drop {w : World} {g o : Nat} {L : List Ca} (h : CasIn w (some ⟨g, o, none⟩) L) (i : Nat) : CasIn w (some ⟨g, o + i * 7, none⟩) (L.drop i) := fun j x hx => by
 rw [List.getElem?_drop] at hx
 obtain ⟨g', o', e, hc⟩ := h (i + j) x hx
 injection e with e
 injection e with e1 e2
 subst e1 e2
 refine ⟨g, o + i * 7, rfl, ?_⟩
 rw [show o + i * 7 + j * 7 = o + (i + j) * 7 by omega]
 exact hc
end Go.Proofs.YtieeloealklkgaaGreat

/-
  slices.Clone and slices.Equal at acts.
-/
namespace Go.Proofs.YtieeloealklkgaaGreat
open Go Go.RowKit
attribute [local go_sem ↓] Go.wp_at_zero Go.wp_at_succ
attribute [local go_sem] Oper.semAt_some wide_fn wide_depth wide_fnR wide_depthR

theorem flatCa_one (L : List Ca) : ∀ v ∈ flatCa L, v.oneCell' = true := fun v hv => by
 simp only [flatCa, List.mem_flatMap] at hv
 obtain ⟨p, _, hv⟩ := hv
 simp only [List.mem_cons, List.not_mem_nil, or_false] at hv
 rcases hv with rfl | rfl | rfl | rfl | rfl | rfl | rfl <;> rfl
theorem CasIn.flat {w : World} {g o : Nat} {L : List Ca} (h : CasIn w (some ⟨g, o, none⟩) L) (j : Nat) (u : Value) (hj : (flatCa L)[j]? = some u) : w.cell? ⟨g, o + j, none⟩ = some u := by
 have hlt : j < L.length * 7 := by rw [← flatCa_length]; exact (List.getElem?_eq_some_iff.1 hj).1
 have hk : j / 7 < L.length := by omega
 obtain ⟨g', o', e, c0, c1, c2, c3, c4, c5, c6⟩ := h (j / 7) L[j / 7] (List.getElem?_eq_getElem hk)
 injection e with e
 injection e with e1 e2
 subst e1; subst e2
 have h3 := flat_at caL_len L (j / 7) (j % 7) (by omega)
 rw [show j / 7 * 7 + j % 7 = j by omega, List.getElem?_eq_getElem hk] at h3
 have h3 : some u = (caL L[j / 7])[j % 7]? := hj.symm.trans h3
 have : j % 7 = 0 ∨ j % 7 = 1 ∨ j % 7 = 2 ∨ j % 7 = 3 ∨ j % 7 = 4 ∨ j % 7 = 5 ∨ j % 7 = 6 := by omega
 rcases this with h | h | h | h | h | h | h
 ·rw [h] at h3; rw [show o + j = o + j / 7 * 7 by omega, h3]; exact c0
 ·rw [h] at h3; rw [show o + j = o + j / 7 * 7 + 1 by omega, h3]; exact c1
 ·rw [h] at h3; rw [show o + j = o + j / 7 * 7 + 2 by omega, h3]; exact c2
 ·rw [h] at h3; rw [show o + j = o + j / 7 * 7 + 3 by omega, h3]; exact c3
 ·rw [h] at h3; rw [show o + j = o + j / 7 * 7 + 4 by omega, h3]; exact c4
 ·rw [h] at h3; rw [show o + j = o + j / 7 * 7 + 5 by omega, h3]; exact c5
 ·rw [h] at h3; rw [show o + j = o + j / 7 * 7 + 6 by omega, h3]; exact c6
theorem CasIn.src {w : World} {a : Option Addr} {L : List Ca} {n : Nat} (h : CasIn w a L) (hn : L.length = n) (cap : Nat) {tx e' : TypeId} (hk : Tryz.prog.underlying tx = some (.slice e')) : Src Tryz.prog 7 tx (.slice a n cap) n (flatCa L) w := by
 cases a with
 | none =>
  have hL : L = [] := by
   clear hn
   cases L with
   | nil => rfl
   | cons p r => obtain ⟨g, o, e, _⟩ := h 0 p rfl; cases e
  subst hL
  have hn : 0 = n := hn
  subst hn
  exact Src.ofNil w hk cap
 | some ad =>
  refine Src.ofSlice w hk ad n cap (flatCa L) (by rw [flatCa_length, hn]) (fun j u hj => ?_) (flatCa_one L)
  obtain ⟨g, o, s⟩ := ad
  obtain ⟨p, hp⟩ : ∃ p, L[0]? = some p := by
   cases L with
   | nil => simp [flatCa] at hj
   | cons p r => exact ⟨p, rfl⟩
  obtain ⟨g', o', e, _⟩ := h 0 p hp
  cases e
  rw [Addr.add_lit]
  exact h.flat j u hj
set_option maxRecDepth 100000 in
set_option maxHeartbeats 2000000 in
/-- Clone of a list of acts at any address. -/
theorem CloneA {w : World} {a : Option Addr} {n cap : Nat} (L : List Ca) (h : CasIn w a L) (hl : L.length = n) (hn : n ≤ 1000000) :
  Calls Tryz.prog 24 #[.slice a n cap] w fun e w' => ∃ v, e = .returned v ∧ w'.ownsRow w.heap.size 33 7 v n (flatCa L) ∧ Fr0 none' w w' := by
 obtain ⟨i0, hi0, hz0, hz1, hz2⟩ := info_parts info_act0
 have q22 : ∀ (w : World) (a : Option Addr) (n c n' c' : Nat), (binOp .eql 23 (.slice a n c) (.slice none n' c')).run Tryz.prog w = .ok (.bool a.isNone) w := fun w a n c n' c' => Lib.run_eql_slice_nil w _ _ a n c n' c' Tryz.underlying23
 cases a with
 | none =>
  have hL : L = [] := by
   cases L with
   | nil => rfl
   | cons p r => obtain ⟨g, o, e, _⟩ := h 0 p rfl; cases e
  subst hL
  obtain rfl : n = 0 := by rw [← hl]; rfl
  go_enter Tryz.func24, Tryz.ntmps24
  go_wp2
  go_ret
  exact ⟨_, rfl, World.ownsRow_nil _ _ _ _, Fr0.refl _ _⟩
 | some a =>
  have hsrc := Lib.hid (fun (W : World) (hf : Fr0 none' w W) => (h.later hf).src hl cap Tryz.underlying23)
  clear h hl
  go_enter Tryz.func24, Tryz.ntmps24
  go_wp2_with (at_builtin; refine wpList_append_k rfl _ _ 23 23 rfl w.heap.size 33 i0 (.agg #[.int .u8 0, .int .i64 0, .int .i64 0, .int .i64 0, .int .i64 0, .int .i64 0, .int .i64 0]) 7 56 Tryz.underlying23 hi0 hz0 hz1 hz2 rfl (by decide) (.slice (some ⟨w.heap.size, 0, none⟩) 0 0) 0 _ rfl (World.ownsRow_made w #[] 0 (Nat.le_refl _) (Nat.zero_le _) (by simp)) (.slice (some a) n cap) n _ rfl (hsrc.out _ ((Fr0.refl _ _).alloc _)) (by unfold maxLen; omega) (by omega) (by simp) ?_; intro v' w1 hown hgrow hdr hob)
  go_wp2
  go_ret
  exact ⟨_, rfl, by simpa using hown, ((Fr0.refl none' w).alloc _).grown hgrow (fun k hk hlt => by have : w.heap.size = k := Option.some.inj hk; omega)⟩
set_option maxRecDepth 100000 in
set_option maxHeartbeats 1000000 in
theorem run_neq_ca (k a b c d e f : Int) (w : World) : (binOp .neq 33 (.agg #[.int .u8 k, .int .i64 a, .int .i64 b, .int .i64 c, .int .i64 d, .int .i64 e, .int .i64 f]) (.agg #[.int .u8 k, .int .i64 a, .int .i64 b, .int .i64 c, .int .i64 d, .int .i64 e, .int .i64 f])).run Tryz.prog w = .ok (.bool false) w := by
 go_simp
section
attribute [local go_sem high] run_neq_ca
end
end Go.Proofs.YtieeloealklkgaaGreat

/-
  The table of places: none, Look, Live, Take, Give, New.
-/
namespace Go.Proofs.YtieeloealklkgaaGreat
open Go Go.RowKit
attribute [local go_sem ↓] Go.wp_at_zero Go.wp_at_succ
attribute [local go_sem] Oper.semAt_some wide_fn wide_depth wide_fnR wide_depthR
variable {w w' : World} {sb pb n : Nat} {P : List Pl} {first : Int}

set_option maxRecDepth 100000 in
theorem snone_is (h : SlotsIs w sb pb n P first) : Calls Tryz.prog 105 #[.pointer (some ⟨sb, 0, none⟩)] w fun e w' => e = .returned (.bool false) ∧ w = w' := by
 have c1 := h.c1
 clear h
 go_enter Tryz.func105, Tryz.ntmps105
 go_wp2
 go_ret
 exact ⟨rfl, rfl⟩
set_option maxRecDepth 100000 in
set_option maxHeartbeats 1000000 in
theorem SLook_is (h : SlotsIs w sb pb n P first) {p : Nat} {x : Pl} (hx : P[p]? = some x) (hn : n ≤ 1000000) :
  Calls Tryz.prog 166 #[.pointer (some ⟨sb, 0, none⟩), .int .i64 p] w fun e w' => e = .returned (.tuple #[.int .i64 x.life, .bool x.taken]) ∧ Fr0 none' w w' := by
 have hp : p < n := by rw [← h.len]; exact (List.getElem?_eq_some_iff.1 hx).1
 have c0 := h.c0
 obtain ⟨y0, y1, y2⟩ := h.place hx
 have d1 : decide ((p : Int) < 0) = false := decide_eq_false (by omega)
 have d2 : decide ((p : Int) ≥ (n : Int)) = false := decide_eq_false (by omega)
 have d3 : decide (n ≤ p) = false := decide_eq_false (by omega)
 have d4 : decide ((n : Int) ≤ (p : Int)) = false := decide_eq_false (by omega)
 have b1 : (0 : Int) ≤ (p : Int) := by omega
 have b2 : (p : Int) < (n : Int) := by omega
 have H := Lib.hid h
 clear h hx
 go_enter Tryz.func166, Tryz.ntmps166
 go_wp2_with (go_at_call 105; refine (snone_is H.out).mono ?_; rintro e w' ⟨rfl, rfl⟩)
 go_quiet (fail)
 go_wp2
 go_ret2
 exact ⟨rfl, ((Fr.refl none' _).drewN _).to0⟩
set_option maxRecDepth 100000 in
set_option maxHeartbeats 1000000 in
theorem SLive_is (h : SlotsIs w sb pb n P first) {p : Nat} {x : Pl} (hx : P[p]? = some x) (ht : x.taken = true) (hn : n ≤ 1000000) :
  Calls Tryz.prog 164 #[.pointer (some ⟨sb, 0, none⟩), .agg #[.int .i64 p, .int .i64 x.life]] w fun e w' => e = .returned (.bool true) ∧ Fr0 none' w w' := by
 have HL := Lib.hid (fun (W : World) (hf : Fr0 none' w W) => SLook_is (h.later hf) hx hn)
 rw [ht] at HL
 clear h hx ht
 go_enter Tryz.func164, Tryz.ntmps164
 go_wp2_with fail
 obtain ⟨q, hq⟩ : ∃ q, w.heap.size = q := ⟨_, rfl⟩
 obtain ⟨W1, hW1⟩ : ∃ W, w.alloc (.cells #[.int .i64 p, .int .i64 x.life] 161) = W := ⟨_, rfl⟩
 have hb : W1.heap[q]? = some (.cells #[.int .i64 p, .int .i64 x.life] 161 (0, 0)) := by rw [← hW1, ← hq]; exact World.alloc_heap_new w _
 have F1 := Lib.hid (show Fr0 none' w W1 by rw [← hW1]; exact (Fr0.refl _ _).alloc _)
 rw [hW1]
 try rw [hq]
 clear hW1 hq
 refine (HL.out _ F1.out).mono ?_
 rintro e w2 ⟨rfl, hf⟩
 have hb2 := (hf.block q (Array.getElem?_eq_some_iff.1 hb).1 id).trans hb
 have y0 := cells_in hb2 0
 have y1 := cells_in hb2 1
 simp at y0 y1
 have F2 := Lib.hid (F1.out.trans hf)
 clear hf hb hb2
 go_wp2_with fail
 go_ret
 exact ⟨rfl, F2.out⟩
set_option maxRecDepth 100000 in
set_option maxHeartbeats 1000000 in
theorem SGive_is (h : SlotsIs w sb pb n P first) {p : Nat} {x : Pl} (hx : P[p]? = some x) (ht : x.taken = true) (hl : x.life < 4294967296) (hn : n ≤ 1000000) :
  Calls Tryz.prog 161 #[.pointer (some ⟨sb, 0, none⟩), .agg #[.int .i64 p, .int .i64 x.life]] w fun e w' => e = .returned (.int .i64 0) ∧ SlotsIs w' sb pb n (P.set p ⟨x.life, false, first⟩) p ∧ Fr0 (lfoot sb pb) w w' := by
 have hp : p < n := by rw [← h.len]; exact (List.getElem?_eq_some_iff.1 hx).1
 have H := Lib.hid h
 have Hx := Lib.hid hx
 have HL := Lib.hid (fun (W : World) (hf : Fr0 none' w W) => SLive_is (h.later hf) hx ht hn)
 have HN := Lib.hid (fun (W : World) (hf : Fr0 none' w W) => snone_is (h.later hf))
 clear h hx
 go_enter Tryz.func161, Tryz.ntmps161
 go_wp2_with fail
 obtain ⟨q, hq⟩ : ∃ q, w.heap.size = q := ⟨_, rfl⟩
 obtain ⟨W1, hW1⟩ : ∃ W, w.alloc (.cells #[.int .i64 p, .int .i64 x.life] 161) = W := ⟨_, rfl⟩
 have hb := Lib.hid (show W1.heap[q]? = some (.cells #[.int .i64 p, .int .i64 x.life] 161 (0, 0)) by rw [← hW1, ← hq]; exact World.alloc_heap_new w _)
 have F1 := Lib.hid (show Fr0 none' w W1 by rw [← hW1]; exact (Fr0.refl _ _).alloc _)
 have Hq := Lib.hid hq
 rw [hW1]
 try rw [hq]
 clear hW1 hq
 refine (HN.out _ F1.out).mono ?_
 rintro e w1 ⟨rfl, rfl⟩
 have y0 := cells_in hb.out 0
 have y1 := cells_in hb.out 1
 simp at y0 y1
 go_wp2_with fail
 refine (HL.out _ F1.out).mono ?_
 rintro e w2 ⟨rfl, hf⟩
 have F2 := Lib.hid (F1.out.trans hf)
 have hb2 := Lib.hid ((hf.block q (Array.getElem?_eq_some_iff.1 hb.out).1 id).trans hb.out)
 clear hf y0 y1
 have H2 := Lib.hid (H.out.later F2.out)
 have y0 := cells_in hb2.out 0
 have y1 := cells_in hb2.out 1
 simp at y0 y1
 have c0 := H2.out.c0
 have c1 := H2.out.c1
 have c2 := H2.out.c2
 obtain ⟨z0, z1, z2⟩ := H2.out.place Hx.out
 have f0 := H2.out.thaw (p * 3)
 have f1 := H2.out.thaw (p * 3 + 1)
 have f2 := H2.out.thaw (p * 3 + 2)
 have g2 := H2.out.thawS 2
 have b1 : (0 : Int) ≤ (p : Int) := by omega
 have b2 : (p : Int) < (n : Int) := by omega
 have d1 : decide ((x.life : Int) < 4294967296) = true := decide_eq_true (by omega)
 have d1n : decide (x.life < 4294967296) = true := decide_eq_true hl
 go_wp2_with fail
 go_quiet (fail)
 go_wp2_with fail
 obtain ⟨W3, hW3⟩ : ∃ W, ((w2.drewN nq).setCell ⟨pb, p * 3 + 1, none⟩ (.bool false)) = W := ⟨_, rfl⟩
 rw [hW3]
 have hf3 : Fr0 (lfoot sb pb) w2 W3 := by rw [← hW3]; exact (((Fr.refl none' w2).drewN _).to0.mono (fun _ _ h => h.elim)).setCell (fun _ => .inr rfl) _
 have H3 := Lib.hid (show SlotsIs W3 sb pb n (P.set p ⟨x.life, false, x.next⟩) first by rw [← hW3]; exact (H2.out.later ((Fr.refl none' w2).drewN _).to0).put Hx.out (by omega) rfl)
 have F3 := Lib.hid hf3
 have hx3 : (P.set p ⟨x.life, false, x.next⟩)[p]? = some ⟨x.life, false, x.next⟩ := by rw [List.getElem?_set_self]; rw [H.out.len]; exact hp
 have Hx3 := Lib.hid hx3
 clear hW3 hf3 hx3 y0 y1 c0 c1 c2 z0 z1 z2 f0 f1 f2 g2
 have c0 := H3.out.c0
 have c1 := H3.out.c1
 have c2 := H3.out.c2
 obtain ⟨z0, z1, z2⟩ := H3.out.place Hx3.out
 have f2 := H3.out.thaw (p * 3 + 2)
 have g2 := H3.out.thawS 2
 go_quiet (fail)
 go_wp2_with fail
 have hq4 : q ≠ sb ∧ q ≠ pb := by
  have e1 := Hq.out
  have e2 := H.out.lt sb (.inl rfl)
  have e3 := H.out.lt pb (.inr rfl)
  omega
 have hqf : ¬ lfoot sb pb q := fun h => h.elim hq4.1 hq4.2
 obtain ⟨WD, hWD⟩ : ∃ W, (W3.drewN nq).drew = W := ⟨_, rfl⟩
 have f4 := Lib.hid (show Fr0 none' W3 WD by rw [← hWD]; exact (((Fr.refl none' W3).drewN _).to0).drew)
 have hb3 := Lib.hid ((f4.out.block q (Array.getElem?_eq_some_iff.1 ((F3.out.block q (Array.getElem?_eq_some_iff.1 hb2.out).1 hqf).trans hb2.out)).1 id).trans ((F3.out.block q (Array.getElem?_eq_some_iff.1 hb2.out).1 hqf).trans hb2.out))
 have H4 := Lib.hid (H3.out.later f4.out)
 have Hqf := Lib.hid hqf
 have Hqn := Lib.hid hq4
 clear hqf hq4 c0 c1 c2 z0 z1 z2 f2 g2
 refine wp_region_Z (z := 13) (S := fun W' => W'.cell? ⟨sb, 2, none⟩ = some (.int .i64 first) ∧ W'.cell? ⟨q, 0, none⟩ = some (.int .i64 p) ∧ W'.frozen? ⟨pb, p * 3 + 2, none⟩ = false ∧ W'.frozen? ⟨sb, 2, none⟩ = false) (by kernel_rfl) ?_
 rw [hWD]
 have hHeld : WD.cell? ⟨sb, 2, none⟩ = some (.int .i64 first) ∧ WD.cell? ⟨q, 0, none⟩ = some (.int .i64 p) ∧ WD.frozen? ⟨pb, p * 3 + 2, none⟩ = false ∧ WD.frozen? ⟨sb, 2, none⟩ = false := ⟨H4.out.c2, by rw [cells_in hb3.out]; rfl, H4.out.thaw _, H4.out.thawS _⟩
 clear hWD
 refine takeZ_on (i := 0) (v := .pointer (some ⟨pb, p * 3, none⟩)) rfl (by kernel_rfl) (by kernel_rfl) (by kernel_rfl) (by kernel_rfl) (fun _ _ _ h => h) (by kernel_rfl) (fun W' hSW => ?_) (by assumption) ?_
 ·(try dsimp only at hSW)
  first | (go_simp; done) | exact rfl | (go_simp; rfl) | (go_simp; omega)
 try simp only [pUt, pUn, sEt, sEz, sEs]
 refine takeZ_on (i := 1) (v := .pointer (some ⟨sb, 0, none⟩)) rfl (by kernel_rfl) (by kernel_rfl) (by kernel_rfl) (by kernel_rfl) (fun _ _ _ h => h) (by kernel_rfl) (fun W' hSW => ?_) (by assumption) ?_
 ·(try dsimp only at hSW)
  first | (go_simp; done) | exact rfl | (go_simp; rfl) | (go_simp; omega)
 try simp only [pUt, pUn, sEt, sEz, sEs]
 refine takeZ_on (i := 2) (v := .pointer (some ⟨sb, 0, none⟩)) rfl (by kernel_rfl) (by kernel_rfl) (by kernel_rfl) (by kernel_rfl) (fun _ _ _ h => h) (by kernel_rfl) (fun W' hSW => ?_) (by assumption) ?_
 ·(try dsimp only at hSW)
  first | (go_simp; done) | exact rfl | (go_simp; rfl) | (go_simp; omega)
 try simp only [pUt, pUn, sEt, sEz, sEs]
 refine takeZ_on (i := 3) (v := .pointer (some ⟨sb, 0, none⟩)) rfl (by kernel_rfl) (by kernel_rfl) (by kernel_rfl) (by kernel_rfl) (fun _ _ _ h => h) (by kernel_rfl) (fun W' hSW => ?_) (by assumption) ?_
 ·(try dsimp only at hSW)
  first | (go_simp; done) | exact rfl | (go_simp; rfl) | (go_simp; omega)
 try simp only [pUt, pUn, sEt, sEz, sEs]
 refine takeZ_on (i := 4) (v := .pointer (some ⟨sb, 2, none⟩)) rfl (by kernel_rfl) (by kernel_rfl) (by kernel_rfl) (by kernel_rfl) (fun _ _ _ h => h) (by kernel_rfl) (fun W' hSW => ?_) (by assumption) ?_
 ·(try dsimp only at hSW)
  first | (go_simp; done) | exact rfl | (go_simp; rfl) | (go_simp; omega)
 try simp only [pUt, pUn, sEt, sEz, sEs]
 refine takeZ_on (i := 5) (v := .int .i64 first) rfl (by kernel_rfl) (by kernel_rfl) (by kernel_rfl) (by kernel_rfl) (fun _ _ _ h => h) (by kernel_rfl) (fun W' hSW => ?_) (by assumption) ?_
 ·(try dsimp only at hSW)
  first | (go_simp; done) | exact rfl | (go_simp; rfl) | (go_simp; omega)
 try simp only [pUt, pUn, sEt, sEz, sEs]
 refine takeZ_on (i := 6) (v := .pointer (some ⟨q, 0, none⟩)) rfl (by kernel_rfl) (by kernel_rfl) (by kernel_rfl) (by kernel_rfl) (fun _ _ _ h => h) (by kernel_rfl) (fun W' hSW => ?_) (by assumption) ?_
 ·(try dsimp only at hSW)
  first | (go_simp; done) | exact rfl | (go_simp; rfl) | (go_simp; omega)
 try simp only [pUt, pUn, sEt, sEz, sEs]
 refine takeZ_on (i := 7) (v := .int .i64 p) rfl (by kernel_rfl) (by kernel_rfl) (by kernel_rfl) (by kernel_rfl) (fun _ _ _ h => h) (by kernel_rfl) (fun W' hSW => ?_) (by assumption) ?_
 ·(try dsimp only at hSW)
  first | (go_simp; done) | exact rfl | (go_simp; rfl) | (go_simp; omega)
 try simp only [pUt, pUn, sEt, sEz, sEs]
 refine takeZ_on (i := 8) (v := .pointer (some ⟨pb, p * 3, none⟩)) rfl (by kernel_rfl) (by kernel_rfl) (by kernel_rfl) (by kernel_rfl) (fun _ _ _ h => h) (by kernel_rfl) (fun W' hSW => ?_) (by assumption) ?_
 ·(try dsimp only at hSW)
  first | (go_simp; done) | exact rfl | (go_simp; rfl) | (go_simp; omega)
 try simp only [pUt, pUn, sEt, sEz, sEs]
 refine takeZ_on (i := 9) (v := .pointer (some ⟨pb, p * 3 + 2, none⟩)) rfl (by kernel_rfl) (by kernel_rfl) (by kernel_rfl) (by kernel_rfl) (fun _ _ _ h => h) (by kernel_rfl) (fun W' hSW => ?_) (by assumption) ?_
 ·(try dsimp only at hSW)
  first | (go_simp; done) | exact rfl | (go_simp; rfl) | (go_simp; omega)
 try simp only [pUt, pUn, sEt, sEz, sEs]
 refine takeZ_call (i := 10) rfl (by kernel_rfl) (by kernel_rfl) (fun K hK => ?_)
 have c2 := hHeld.2.2.1
 have c3 := (H4.out.place Hx3.out).2.2
 go_simp
 clear c2 c3
 obtain ⟨W5, hW5⟩ : ∃ W, (WD.setCell ⟨pb, p * 3 + 2, none⟩ (.int .i64 first)) = W := ⟨_, rfl⟩
 rw [hW5]
 have f5 := Lib.hid (show Fr0 (lfoot sb pb) WD W5 by rw [← hW5]; exact (Fr0.refl _ _).setCell (fun _ => .inr rfl) _)
 have H5 := Lib.hid (show SlotsIs W5 sb pb n ((P.set p ⟨x.life, false, x.next⟩).set p ⟨x.life, false, first⟩) first by rw [← hW5]; exact H4.out.put Hx3.out (by omega) rfl)
 have hHeld5 : W5.cell? ⟨sb, 2, none⟩ = some (.int .i64 first) ∧ W5.cell? ⟨q, 0, none⟩ = some (.int .i64 p) ∧ W5.frozen? ⟨pb, p * 3 + 2, none⟩ = false ∧ W5.frozen? ⟨sb, 2, none⟩ = false := ⟨H5.out.c2, by rw [cells_in ((f5.out.block q (Array.getElem?_eq_some_iff.1 hb3.out).1 Hqf.out).trans hb3.out)]; rfl, H5.out.thaw _, H5.out.thawS _⟩
 clear hW5
 refine hK.out _ _ (.inr hHeld5) ?_
 clear hK K hHeld
 try simp only [pUt, pUn, sEt, sEz, sEs]
 refine takeZ_call (i := 11) rfl (by kernel_rfl) (by kernel_rfl) (fun K hK => ?_)
 go_simp
 refine hK.out _ _ (.inr hHeld5) ?_
 clear hK K
 try simp only [pUt, pUn, sEt, sEz, sEs]
 refine takeZ_call (i := 12) rfl (by kernel_rfl) (by kernel_rfl) (fun K hK => ?_)
 go_simp
 refine hK.out _ _ (.inr hHeld5) ?_
 clear hK K
 try simp only [pUt, pUn, sEt, sEz, sEs]
 refine takeZ_call (i := 13) rfl (by kernel_rfl) (by kernel_rfl) (fun K hK => ?_)
 have c2 := hHeld5.2.2.2
 have c3 := hHeld5.1
 go_simp
 clear c2 c3
 refine hK.out _ _ (.inl rfl) ?_
 clear hK K hHeld5
 try simp only [pUt, pUn, sEt, sEz, sEs]
 refine wpAnyZ_done (by kernel_rfl) ?_ _
 go_wp2_with fail
 go_ret
 rw [List.set_set] at H5
 refine ⟨rfl, H5.out.putF _, ?_⟩
 exact ((((F2.out.mono (fun _ _ h => h.elim)).trans F3.out).trans (f4.out.mono (fun _ _ h => h.elim))).trans f5.out).setCell (fun _ => .inl rfl) _
end Go.Proofs.YtieeloealklkgaaGreat
