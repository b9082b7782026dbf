/-
  Spaces: what each function of the package does, and what the laws make of it.
-/
import Derived.Test.YtieeloealklkgaaGreatJb1
import Derived.Handy
import Derived.Test.YtieeloealklkgaaGreatJa1
import Derived.Laws.MakeOwn
import Derived.WideKeyEntry
import Derived.Maps.OwnSet
import Derived.Maps.Views
import Derived.Test.YtieeloealklkgaaGreatJa2
import Derived.Maps.AppendAt
import Derived.DeepKeys4
import Derived.WideKeyPair
set_option linter.unusedSimpArgs false
set_option linter.unusedVariables false
set_option maxRecDepth 100000

/-
  calendar: do with a list.
-/
namespace Go.Proofs.YtieeloealklkgaaGreat
open Go Go.RowKit
attribute [local go_sem ↓] Go.wp_at_zero Go.wp_at_succ
attribute [local go_sem] Oper.semAt_some wide_fn wide_depth wide_fnR wide_depthR

def actCV (a : Ca) : Value := .agg #[.int .u8 a.kind, .int .i64 a.x.key.time, .int .i64 a.x.key.source, .int .i64 a.x.key.seq, .int .i64 a.x.to, .int .i64 a.x.value, .int .i64 a.time]
/-- What an act tells, and what it leaves. -/
def DoT (w : World) (ft : Nat → Prop) (t : Tl) (K : (Nat → Prop) → World → Prop) (e : Ending) (w' : World) : Prop :=
 ∃ v ft', e = .returned (.agg #[.int .i64 t.err, v]) ∧ w'.ownsRow w.heap.size 30 5 v t.evs.length (flatEv t.evs) ∧ K ft' w' ∧ (∀ k, ft' k → ft k ∨ w.heap.size ≤ k) ∧ (∀ g, v.ownBlock = some g → ¬ ft' g) ∧ Fr0 ft w w'
set_option maxHeartbeats 2000000 in
theorem do_list1 {w : World} {lb n : Nat} {E : List Ev} {ft : Nat → Prop} (h : LIs w lb n E ft) (x : Ev) (t : Int) :
  Calls Tryz.prog 70 #[.iface 105 (.pointer (some ⟨lb, 0, none⟩)), actCV ⟨1, x, t⟩] w (DoT w ft (doC n E ⟨1, x, t⟩).2 (fun ft' w' => LIs w' lb n (doC n E ⟨1, x, t⟩).1 ft')) := by
 have H := Lib.hid h
 clear h
 unfold actCV doC
 rw [if_pos rfl]
 obtain ⟨V1, hV1⟩ : ∃ V, w.alloc (.cells #[.int .u8 1, .int .i64 x.key.time, .int .i64 x.key.source, .int .i64 x.key.seq, .int .i64 x.to, .int .i64 x.value, .int .i64 t] 33) = V := ⟨_, rfl⟩
 have z1 : V1.heap.size = w.heap.size + 1 := by rw [← hV1, World.size_alloc]
 have f1 : Fr0 none' w V1 := by rw [← hV1]; exact (Fr0.refl _ _).alloc _
 have a1 : V1.heap[w.heap.size]? = some (.cells #[.int .u8 1, .int .i64 x.key.time, .int .i64 x.key.source, .int .i64 x.key.seq, .int .i64 x.to, .int .i64 x.value, .int .i64 t] 33 (0, 0)) := by rw [← hV1]; exact World.alloc_heap_new _ _
 obtain ⟨V2, hV2⟩ : ∃ V, V1.alloc (.cells #[.int .i64 0, .slice none 0 0] 56) = V := ⟨_, rfl⟩
 have f2 : Fr0 none' V1 V2 := by rw [← hV2]; exact (Fr0.refl _ _).alloc _
 have b2 : V2.heap[w.heap.size + 1]? = some (.cells #[.int .i64 0, .slice none 0 0] 56 (0, 0)) := by rw [← hV2, ← z1]; exact World.alloc_heap_new _ _
 have a2 := (f2.block w.heap.size (by omega) id).trans a1
 have Z2 := Lib.hid (show V2.heap.size = w.heap.size + 2 by rw [← hV2, World.size_alloc, z1])
 have F2 := Lib.hid (f1.trans f2)
 have B2 := Lib.hid b2
 have A2 := Lib.hid a2
 have H2 := Lib.hid (H.out.later F2.out)
 have HRB := Lib.hid (show ∀ k, ft k → k < w.heap.size from H.out.lt)
 clear f1 a1 f2 b2 a2 z1
 have HP := Lib.hid (H2.out.put x)
 obtain ⟨c, hc⟩ : ∃ c, (allV n E [x]).2 = c := ⟨_, rfl⟩
 rw [hc] at HP
 have Hc := Lib.hid hc
 clear hc
 unfold evV at HP
 subst hV2
 subst hV1
 go_enter Tryz.func70, Tryz.ntmps70
 go_wp2_with fail
 refine HP.out.mono ?_
 rintro e w3 ⟨rfl, ft', hl, hft, hf⟩
 have b3 := (hf.block (w.heap.size + 1) (Array.getElem?_eq_some_iff.1 B2.out).1 (fun hk => by have := HRB.out _ hk; omega)).trans B2.out
 have t0 := thaw_in b3 0
 have t1 := thaw_in b3 1
 have u0 := cells_in b3 0
 have u1 := cells_in b3 1
 simp at u0 u1
 have B3 := Lib.hid b3
 clear b3
 have HL := Lib.hid hl
 have HF := Lib.hid hf
 have HT := Lib.hid hft
 clear hl hf hft
 go_wp2_with fail
 have e6 : ((w3.setCell ⟨w.heap.size + 1, 0, none⟩ (.int .i64 c)).setCell ⟨w.heap.size + 1, 1, none⟩ (.slice none 0 0)).heap[w.heap.size + 1]? = some (.cells #[.int .i64 c, .slice none 0 0] 56 (0, 0)) := heap_set_cell (heap_set_cell B3.out _) _
 have f6 : Fr0 (fun k => k = w.heap.size + 1) w3 ((w3.setCell ⟨w.heap.size + 1, 0, none⟩ (.int .i64 c)).setCell ⟨w.heap.size + 1, 1, none⟩ (.slice none 0 0)) := ((Fr0.refl (fun k => k = w.heap.size + 1) w3).setCell (fun _ => rfl) _).setCell (fun _ => rfl) _
 generalize (w3.setCell ⟨w.heap.size + 1, 0, none⟩ (.int .i64 c)).setCell ⟨w.heap.size + 1, 1, none⟩ (.slice none 0 0) = VV at e6 f6 ⊢
 have y0 := cells_in e6 0
 have y1 := cells_in e6 1
 simp at y0 y1
 have hne : ∀ k, ft' k → ¬ (k = w.heap.size + 1) := fun k hk e => by
  rcases HT.out k hk with h | h
  ·have := HRB.out k h; omega
  ·have := Z2.out; omega
 have hft9 : ∀ k, ft' k → ft k ∨ w.heap.size ≤ k := fun k hk => (HT.out k hk).imp id (fun h => by have := Z2.out; omega)
 have hfr9 : Fr0 ft w VV := ((F2.out.mono (S' := ft) (fun _ _ h => h.elim)).trans HF.out).trans' f6 (fun k hk e => by have e : k = w.heap.size + 1 := e; omega)
 exact bodyPost_ret (v := .agg #[.int .i64 c, .slice none 0 0]) (by simp [results, Tryz.results70, go_sem, y0, y1]) rfl ⟨.slice none 0 0, ft', by rw [Hc.out], World.ownsRow_nil _ _ _ _, HL.out.fr0 f6 hne, hft9, (fun g e => by cases e), hfr9⟩
set_option maxHeartbeats 2000000 in
theorem do_list2 {w : World} {lb n : Nat} {E : List Ev} {ft : Nat → Prop} (h : LIs w lb n E ft) (x : Ev) (t : Int) :
  Calls Tryz.prog 70 #[.iface 105 (.pointer (some ⟨lb, 0, none⟩)), actCV ⟨2, x, t⟩] w (DoT w ft (doC n E ⟨2, x, t⟩).2 (fun ft' w' => LIs w' lb n (doC n E ⟨2, x, t⟩).1 ft')) := by
 have H := Lib.hid h
 clear h
 have hdo : doC n E ⟨2, x, t⟩ = takeC E := by unfold doC; simp
 rw [hdo]
 clear hdo
 unfold actCV
 obtain ⟨V1, hV1⟩ : ∃ V, w.alloc (.cells #[.int .u8 2, .int .i64 x.key.time, .int .i64 x.key.source, .int .i64 x.key.seq, .int .i64 x.to, .int .i64 x.value, .int .i64 t] 33) = V := ⟨_, rfl⟩
 have z1 : V1.heap.size = w.heap.size + 1 := by rw [← hV1, World.size_alloc]
 have f1 : Fr0 none' w V1 := by rw [← hV1]; exact (Fr0.refl _ _).alloc _
 have a1 : V1.heap[w.heap.size]? = some (.cells #[.int .u8 2, .int .i64 x.key.time, .int .i64 x.key.source, .int .i64 x.key.seq, .int .i64 x.to, .int .i64 x.value, .int .i64 t] 33 (0, 0)) := by rw [← hV1]; exact World.alloc_heap_new _ _
 obtain ⟨V2, hV2⟩ : ∃ V, V1.alloc (.cells #[.int .i64 0, .slice none 0 0] 56) = V := ⟨_, rfl⟩
 have f2 : Fr0 none' V1 V2 := by rw [← hV2]; exact (Fr0.refl _ _).alloc _
 have b2 : V2.heap[w.heap.size + 1]? = some (.cells #[.int .i64 0, .slice none 0 0] 56 (0, 0)) := by rw [← hV2, ← z1]; exact World.alloc_heap_new _ _
 have a2 := (f2.block w.heap.size (by omega) id).trans a1
 have Z2 := Lib.hid (show V2.heap.size = w.heap.size + 2 by rw [← hV2, World.size_alloc, z1])
 have F2 := Lib.hid (f1.trans f2)
 have B2 := Lib.hid b2
 have A2 := Lib.hid a2
 have H2 := Lib.hid (H.out.later F2.out)
 have HRB := Lib.hid (show ∀ k, ft k → k < w.heap.size from H.out.lt)
 clear f1 a1 f2 b2 a2 z1
 have HP := Lib.hid (H2.out.take)
 have ht := (takeC_one E)
 obtain ⟨R, hR⟩ : ∃ R, takeC E = R := ⟨_, rfl⟩
 rw [hR] at HP ht ⊢
 clear hR
 have HO := Lib.hid (fun W => one_told ht W)
 clear ht
 have HPP := HP
 unfold evV at HP HO
 skip
 subst hV2
 subst hV1
 go_enter Tryz.func70, Tryz.ntmps70
 go_wp2_with fail
 refine HP.out.mono ?_
 rintro e w3 ⟨rfl, hl, hf⟩
 have HL := Lib.hid hl
 have HF := Lib.hid hf
 clear hl hf
 go_wp2_with fail
 refine (HO.out w3).mono ?_
 rintro e w4 ⟨v, rfl, hrow, hf4⟩
 have HF4 := Lib.hid (HF.out.trans' hf4 (fun _ _ h => h.elim))
 have b3 := (HF4.out.block (w.heap.size + 1) (Array.getElem?_eq_some_iff.1 B2.out).1 (fun hk => by have := HRB.out _ hk; omega)).trans B2.out
 have t0 := thaw_in b3 0
 have t1 := thaw_in b3 1
 have u0 := cells_in b3 0
 have u1 := cells_in b3 1
 simp at u0 u1
 have B3 := Lib.hid b3
 clear b3
 have HR := Lib.hid hrow
 have HL := Lib.hid (HL.out.later hf4)
 have HS := Lib.hid HF.out.size
 obtain ⟨ra, rc, hv, _, _⟩ := EsIn.of_own hrow
 clear hrow hf4
 subst hv
 go_wp2_with fail
 have e6 : ((w4.setCell ⟨w.heap.size + 1, 0, none⟩ (.int .i64 R.2.err)).setCell ⟨w.heap.size + 1, 1, none⟩ (.slice ra R.2.evs.length rc)).heap[w.heap.size + 1]? = some (.cells #[.int .i64 R.2.err, .slice ra R.2.evs.length rc] 56 (0, 0)) := heap_set_cell (heap_set_cell B3.out _) _
 have f6 : Fr0 (fun k => k = w.heap.size + 1) w4 ((w4.setCell ⟨w.heap.size + 1, 0, none⟩ (.int .i64 R.2.err)).setCell ⟨w.heap.size + 1, 1, none⟩ (.slice ra R.2.evs.length rc)) := ((Fr0.refl (fun k => k = w.heap.size + 1) w4).setCell (fun _ => rfl) _).setCell (fun _ => rfl) _
 generalize (w4.setCell ⟨w.heap.size + 1, 0, none⟩ (.int .i64 R.2.err)).setCell ⟨w.heap.size + 1, 1, none⟩ (.slice ra R.2.evs.length rc) = VV at e6 f6 ⊢
 have y0 := cells_in e6 0
 have y1 := cells_in e6 1
 simp at y0 y1
 have hs3 : w.heap.size + 2 ≤ w3.heap.size := by have := Z2.out; have := HS.out; omega
 have hne : ∀ k, ft k → ¬ (k = w.heap.size + 1) := fun k hk e => by have := HRB.out k hk; omega
 have hfr9 : Fr0 ft w VV := ((F2.out.mono (S' := ft) (fun _ _ h => h.elim)).trans HF4.out).trans' f6 (fun k hk e => by have e : k = w.heap.size + 1 := e; omega)
 have hrow9 : VV.ownsRow w.heap.size 30 5 (.slice ra R.2.evs.length rc) R.2.evs.length (flatEv R.2.evs) := ownsRow_k_mono (ownsRow_fr0 HR.out f6 (fun g hg e => by have := (HR.out.lt g hg).1; have e : g = w.heap.size + 1 := e; omega)) (by omega)
 exact bodyPost_ret (v := .agg #[.int .i64 R.2.err, .slice ra R.2.evs.length rc]) (by simp [results, Tryz.results70, go_sem, y0, y1]) rfl ⟨_, ft, rfl, hrow9, HL.out.fr0 f6 hne, fun k hk => .inl hk, (fun g hg hk => by have := (HR.out.lt g hg).1; have := HRB.out g hk; omega), hfr9⟩
set_option maxHeartbeats 2000000 in
theorem do_list4 {w : World} {lb n : Nat} {E : List Ev} {ft : Nat → Prop} (h : LIs w lb n E ft) (x : Ev) (t : Int) :
  Calls Tryz.prog 70 #[.iface 105 (.pointer (some ⟨lb, 0, none⟩)), actCV ⟨4, x, t⟩] w (DoT w ft (doC n E ⟨4, x, t⟩).2 (fun ft' w' => LIs w' lb n (doC n E ⟨4, x, t⟩).1 ft')) := by
 have H := Lib.hid h
 clear h
 have hdo : doC n E ⟨4, x, t⟩ = cancelC x.name E := by unfold doC; simp
 rw [hdo]
 clear hdo
 unfold actCV
 obtain ⟨V1, hV1⟩ : ∃ V, w.alloc (.cells #[.int .u8 4, .int .i64 x.key.time, .int .i64 x.key.source, .int .i64 x.key.seq, .int .i64 x.to, .int .i64 x.value, .int .i64 t] 33) = V := ⟨_, rfl⟩
 have z1 : V1.heap.size = w.heap.size + 1 := by rw [← hV1, World.size_alloc]
 have f1 : Fr0 none' w V1 := by rw [← hV1]; exact (Fr0.refl _ _).alloc _
 have a1 : V1.heap[w.heap.size]? = some (.cells #[.int .u8 4, .int .i64 x.key.time, .int .i64 x.key.source, .int .i64 x.key.seq, .int .i64 x.to, .int .i64 x.value, .int .i64 t] 33 (0, 0)) := by rw [← hV1]; exact World.alloc_heap_new _ _
 obtain ⟨V2, hV2⟩ : ∃ V, V1.alloc (.cells #[.int .i64 0, .slice none 0 0] 56) = V := ⟨_, rfl⟩
 have f2 : Fr0 none' V1 V2 := by rw [← hV2]; exact (Fr0.refl _ _).alloc _
 have b2 : V2.heap[w.heap.size + 1]? = some (.cells #[.int .i64 0, .slice none 0 0] 56 (0, 0)) := by rw [← hV2, ← z1]; exact World.alloc_heap_new _ _
 have a2 := (f2.block w.heap.size (by omega) id).trans a1
 have Z2 := Lib.hid (show V2.heap.size = w.heap.size + 2 by rw [← hV2, World.size_alloc, z1])
 have F2 := Lib.hid (f1.trans f2)
 have B2 := Lib.hid b2
 have A2 := Lib.hid a2
 have H2 := Lib.hid (H.out.later F2.out)
 have HRB := Lib.hid (show ∀ k, ft k → k < w.heap.size from H.out.lt)
 clear f1 a1 f2 b2 a2 z1
 have HP := Lib.hid (H2.out.cancel x.name)
 have ht := (cancelC_one x.name E)
 obtain ⟨R, hR⟩ : ∃ R, cancelC x.name E = R := ⟨_, rfl⟩
 rw [hR] at HP ht ⊢
 clear hR
 have HO := Lib.hid (fun W => one_told ht W)
 clear ht
 have HPP := HP
 unfold evV at HP HO
 unfold Ev.name at HP
 subst hV2
 subst hV1
 go_enter Tryz.func70, Tryz.ntmps70
 go_wp2_with fail
 refine HP.out.mono ?_
 rintro e w3 ⟨rfl, hl, hf⟩
 have HL := Lib.hid hl
 have HF := Lib.hid hf
 clear hl hf
 go_wp2_with fail
 refine (HO.out w3).mono ?_
 rintro e w4 ⟨v, rfl, hrow, hf4⟩
 have HF4 := Lib.hid (HF.out.trans' hf4 (fun _ _ h => h.elim))
 have b3 := (HF4.out.block (w.heap.size + 1) (Array.getElem?_eq_some_iff.1 B2.out).1 (fun hk => by have := HRB.out _ hk; omega)).trans B2.out
 have t0 := thaw_in b3 0
 have t1 := thaw_in b3 1
 have u0 := cells_in b3 0
 have u1 := cells_in b3 1
 simp at u0 u1
 have B3 := Lib.hid b3
 clear b3
 have HR := Lib.hid hrow
 have HL := Lib.hid (HL.out.later hf4)
 have HS := Lib.hid HF.out.size
 obtain ⟨ra, rc, hv, _, _⟩ := EsIn.of_own hrow
 clear hrow hf4
 subst hv
 go_wp2_with fail
 have e6 : ((w4.setCell ⟨w.heap.size + 1, 0, none⟩ (.int .i64 R.2.err)).setCell ⟨w.heap.size + 1, 1, none⟩ (.slice ra R.2.evs.length rc)).heap[w.heap.size + 1]? = some (.cells #[.int .i64 R.2.err, .slice ra R.2.evs.length rc] 56 (0, 0)) := heap_set_cell (heap_set_cell B3.out _) _
 have f6 : Fr0 (fun k => k = w.heap.size + 1) w4 ((w4.setCell ⟨w.heap.size + 1, 0, none⟩ (.int .i64 R.2.err)).setCell ⟨w.heap.size + 1, 1, none⟩ (.slice ra R.2.evs.length rc)) := ((Fr0.refl (fun k => k = w.heap.size + 1) w4).setCell (fun _ => rfl) _).setCell (fun _ => rfl) _
 generalize (w4.setCell ⟨w.heap.size + 1, 0, none⟩ (.int .i64 R.2.err)).setCell ⟨w.heap.size + 1, 1, none⟩ (.slice ra R.2.evs.length rc) = VV at e6 f6 ⊢
 have y0 := cells_in e6 0
 have y1 := cells_in e6 1
 simp at y0 y1
 have hs3 : w.heap.size + 2 ≤ w3.heap.size := by have := Z2.out; have := HS.out; omega
 have hne : ∀ k, ft k → ¬ (k = w.heap.size + 1) := fun k hk e => by have := HRB.out k hk; omega
 have hfr9 : Fr0 ft w VV := ((F2.out.mono (S' := ft) (fun _ _ h => h.elim)).trans HF4.out).trans' f6 (fun k hk e => by have e : k = w.heap.size + 1 := e; omega)
 have hrow9 : VV.ownsRow w.heap.size 30 5 (.slice ra R.2.evs.length rc) R.2.evs.length (flatEv R.2.evs) := ownsRow_k_mono (ownsRow_fr0 HR.out f6 (fun g hg e => by have := (HR.out.lt g hg).1; have e : g = w.heap.size + 1 := e; omega)) (by omega)
 exact bodyPost_ret (v := .agg #[.int .i64 R.2.err, .slice ra R.2.evs.length rc]) (by simp [results, Tryz.results70, go_sem, y0, y1]) rfl ⟨_, ft, rfl, hrow9, HL.out.fr0 f6 hne, fun k hk => .inl hk, (fun g hg hk => by have := (HR.out.lt g hg).1; have := HRB.out g hk; omega), hfr9⟩
set_option maxHeartbeats 2000000 in
theorem do_list3 {w : World} {lb n : Nat} {E : List Ev} {ft : Nat → Prop} (h : LIs w lb n E ft) (x : Ev) (t : Int) :
  Calls Tryz.prog 70 #[.iface 105 (.pointer (some ⟨lb, 0, none⟩)), actCV ⟨3, x, t⟩] w (DoT w ft (doC n E ⟨3, x, t⟩).2 (fun ft' w' => LIs w' lb n (doC n E ⟨3, x, t⟩).1 ft')) := by
 have H := Lib.hid h
 clear h
 have hdo : doC n E ⟨3, x, t⟩ = (aftE t E, ⟨0, befE t E⟩) := by unfold doC; simp
 rw [hdo]
 clear hdo
 unfold actCV
 obtain ⟨V1, hV1⟩ : ∃ V, w.alloc (.cells #[.int .u8 3, .int .i64 x.key.time, .int .i64 x.key.source, .int .i64 x.key.seq, .int .i64 x.to, .int .i64 x.value, .int .i64 t] 33) = V := ⟨_, rfl⟩
 have z1 : V1.heap.size = w.heap.size + 1 := by rw [← hV1, World.size_alloc]
 have f1 : Fr0 none' w V1 := by rw [← hV1]; exact (Fr0.refl _ _).alloc _
 have a1 : V1.heap[w.heap.size]? = some (.cells #[.int .u8 3, .int .i64 x.key.time, .int .i64 x.key.source, .int .i64 x.key.seq, .int .i64 x.to, .int .i64 x.value, .int .i64 t] 33 (0, 0)) := by rw [← hV1]; exact World.alloc_heap_new _ _
 obtain ⟨V2, hV2⟩ : ∃ V, V1.alloc (.cells #[.int .i64 0, .slice none 0 0] 56) = V := ⟨_, rfl⟩
 have f2 : Fr0 none' V1 V2 := by rw [← hV2]; exact (Fr0.refl _ _).alloc _
 have b2 : V2.heap[w.heap.size + 1]? = some (.cells #[.int .i64 0, .slice none 0 0] 56 (0, 0)) := by rw [← hV2, ← z1]; exact World.alloc_heap_new _ _
 have a2 := (f2.block w.heap.size (by omega) id).trans a1
 have Z2 := Lib.hid (show V2.heap.size = w.heap.size + 2 by rw [← hV2, World.size_alloc, z1])
 have F2 := Lib.hid (f1.trans f2)
 have B2 := Lib.hid b2
 have A2 := Lib.hid a2
 have H2 := Lib.hid (H.out.later F2.out)
 have HRB := Lib.hid (show ∀ k, ft k → k < w.heap.size from H.out.lt)
 clear f1 a1 f2 b2 a2 z1
 have HP := Lib.hid (H2.out.takeBefore t)
 subst hV2
 subst hV1
 go_enter Tryz.func70, Tryz.ntmps70
 go_wp2_with fail
 refine HP.out.mono ?_
 rintro e w3 ⟨v, ft', rfl, hrow, hl, hft, hd, hf⟩
 have b3 := (hf.block (w.heap.size + 1) (Array.getElem?_eq_some_iff.1 B2.out).1 (fun hk => by have := HRB.out _ hk; omega)).trans B2.out
 have t0 := thaw_in b3 0
 have t1 := thaw_in b3 1
 have u0 := cells_in b3 0
 have u1 := cells_in b3 1
 simp at u0 u1
 have B3 := Lib.hid b3
 clear b3
 have HL := Lib.hid hl
 have HF := Lib.hid hf
 have HT := Lib.hid hft
 have HR := Lib.hid hrow
 have HD := Lib.hid hd
 obtain ⟨ra, rc, hv, _, _⟩ := EsIn.of_own hrow
 obtain ⟨m, hm⟩ : ∃ m, (befE t E).length = m := ⟨_, rfl⟩
 have Hm := Lib.hid hm
 rw [hm] at hv
 clear hrow hl hf hft hd hm
 subst hv
 go_wp2_with fail
 have e6 : ((w3.setCell ⟨w.heap.size + 1, 0, none⟩ (.int .i64 0)).setCell ⟨w.heap.size + 1, 1, none⟩ (.slice ra m rc)).heap[w.heap.size + 1]? = some (.cells #[.int .i64 0, .slice ra m rc] 56 (0, 0)) := heap_set_cell (heap_set_cell B3.out _) _
 have f6 : Fr0 (fun k => k = w.heap.size + 1) w3 ((w3.setCell ⟨w.heap.size + 1, 0, none⟩ (.int .i64 0)).setCell ⟨w.heap.size + 1, 1, none⟩ (.slice ra m rc)) := ((Fr0.refl (fun k => k = w.heap.size + 1) w3).setCell (fun _ => rfl) _).setCell (fun _ => rfl) _
 generalize (w3.setCell ⟨w.heap.size + 1, 0, none⟩ (.int .i64 0)).setCell ⟨w.heap.size + 1, 1, none⟩ (.slice ra m rc) = VV at e6 f6 ⊢
 have y0 := cells_in e6 0
 have y1 := cells_in e6 1
 simp at y0 y1
 have hne : ∀ k, ft' k → ¬ (k = w.heap.size + 1) := fun k hk e => by
  rcases HT.out k hk with h | h
  ·have := HRB.out k h; omega
  ·have := Z2.out; omega
 have hft9 : ∀ k, ft' k → ft k ∨ w.heap.size ≤ k := fun k hk => (HT.out k hk).imp id (fun h => by have := Z2.out; omega)
 have hfr9 : Fr0 ft w VV := ((F2.out.mono (S' := ft) (fun _ _ h => h.elim)).trans HF.out).trans' f6 (fun k hk e => by have e : k = w.heap.size + 1 := e; omega)
 have hrow9 : VV.ownsRow w.heap.size 30 5 (.slice ra m rc) (befE t E).length (flatEv (befE t E)) := ownsRow_k_mono (ownsRow_fr0 HR.out f6 (fun g hg e => by have := (HR.out.lt g hg).1; have := Z2.out; have e : g = w.heap.size + 1 := e; omega)) (by have := Z2.out; omega)
 exact bodyPost_ret (v := .agg #[.int .i64 0, .slice ra m rc]) (by simp [results, Tryz.results70, go_sem, y0, y1]) rfl ⟨_, ft', rfl, hrow9, HL.out.fr0 f6 hne, hft9, HD.out, hfr9⟩
set_option maxHeartbeats 2000000 in
theorem do_list5 {w : World} {lb n : Nat} {E : List Ev} {ft : Nat → Prop} (h : LIs w lb n E ft) (x : Ev) (t : Int) :
  Calls Tryz.prog 70 #[.iface 105 (.pointer (some ⟨lb, 0, none⟩)), actCV ⟨5, x, t⟩] w (DoT w ft (doC n E ⟨5, x, t⟩).2 (fun ft' w' => LIs w' lb n (doC n E ⟨5, x, t⟩).1 ft')) := by
 have H := Lib.hid h
 clear h
 have hdo : doC n E ⟨5, x, t⟩ = ([], ⟨0, E⟩) := by unfold doC; simp
 rw [hdo]
 clear hdo
 unfold actCV
 obtain ⟨V1, hV1⟩ : ∃ V, w.alloc (.cells #[.int .u8 5, .int .i64 x.key.time, .int .i64 x.key.source, .int .i64 x.key.seq, .int .i64 x.to, .int .i64 x.value, .int .i64 t] 33) = V := ⟨_, rfl⟩
 have z1 : V1.heap.size = w.heap.size + 1 := by rw [← hV1, World.size_alloc]
 have f1 : Fr0 none' w V1 := by rw [← hV1]; exact (Fr0.refl _ _).alloc _
 have a1 : V1.heap[w.heap.size]? = some (.cells #[.int .u8 5, .int .i64 x.key.time, .int .i64 x.key.source, .int .i64 x.key.seq, .int .i64 x.to, .int .i64 x.value, .int .i64 t] 33 (0, 0)) := by rw [← hV1]; exact World.alloc_heap_new _ _
 obtain ⟨V2, hV2⟩ : ∃ V, V1.alloc (.cells #[.int .i64 0, .slice none 0 0] 56) = V := ⟨_, rfl⟩
 have f2 : Fr0 none' V1 V2 := by rw [← hV2]; exact (Fr0.refl _ _).alloc _
 have b2 : V2.heap[w.heap.size + 1]? = some (.cells #[.int .i64 0, .slice none 0 0] 56 (0, 0)) := by rw [← hV2, ← z1]; exact World.alloc_heap_new _ _
 have a2 := (f2.block w.heap.size (by omega) id).trans a1
 have Z2 := Lib.hid (show V2.heap.size = w.heap.size + 2 by rw [← hV2, World.size_alloc, z1])
 have F2 := Lib.hid (f1.trans f2)
 have B2 := Lib.hid b2
 have A2 := Lib.hid a2
 have H2 := Lib.hid (H.out.later F2.out)
 have HRB := Lib.hid (show ∀ k, ft k → k < w.heap.size from H.out.lt)
 clear f1 a1 f2 b2 a2 z1
 have HP := Lib.hid (H2.out.all)
 subst hV2
 subst hV1
 go_enter Tryz.func70, Tryz.ntmps70
 go_wp2_with fail
 refine HP.out.mono ?_
 rintro e w3 ⟨v, rfl, hrow, hf⟩
 have HL := Lib.hid (H2.out.later hf)
 have HF := Lib.hid hf
 have HR := Lib.hid hrow
 clear hrow hf
 go_wp2_with fail
 refine (HL.out.clear).mono ?_
 rintro e w4 ⟨rfl, hl, hf4⟩
 have HF4 := Lib.hid ((HF.out.mono (S' := ft) (fun _ _ h => h.elim)).trans hf4)
 have b3 := (HF4.out.block (w.heap.size + 1) (Array.getElem?_eq_some_iff.1 B2.out).1 (fun hk => by have := HRB.out _ hk; omega)).trans B2.out
 have t0 := thaw_in b3 0
 have t1 := thaw_in b3 1
 have u0 := cells_in b3 0
 have u1 := cells_in b3 1
 simp at u0 u1
 have B3 := Lib.hid b3
 clear b3
 have hng : ∀ g, v.ownBlock = some g → ¬ ft g := fun g hg hk => by have := (HR.out.lt g hg).1; have := HRB.out g hk; have := Z2.out; omega
 have HR := Lib.hid (ownsRow_fr0 HR.out hf4 hng)
 have HNG := Lib.hid hng
 have HL := Lib.hid hl
 obtain ⟨ra, rc, hv, _, _⟩ := EsIn.of_own HR.out
 obtain ⟨m, hm⟩ : ∃ m, E.length = m := ⟨_, rfl⟩
 rw [hm] at hv ⊢
 rw [hm] at HR
 clear hl hf4 hng
 subst hv
 go_wp2_with fail
 have e6 : ((w4.setCell ⟨w.heap.size + 1, 0, none⟩ (.int .i64 0)).setCell ⟨w.heap.size + 1, 1, none⟩ (.slice ra m rc)).heap[w.heap.size + 1]? = some (.cells #[.int .i64 0, .slice ra m rc] 56 (0, 0)) := heap_set_cell (heap_set_cell B3.out _) _
 have f6 : Fr0 (fun k => k = w.heap.size + 1) w4 ((w4.setCell ⟨w.heap.size + 1, 0, none⟩ (.int .i64 0)).setCell ⟨w.heap.size + 1, 1, none⟩ (.slice ra m rc)) := ((Fr0.refl (fun k => k = w.heap.size + 1) w4).setCell (fun _ => rfl) _).setCell (fun _ => rfl) _
 generalize (w4.setCell ⟨w.heap.size + 1, 0, none⟩ (.int .i64 0)).setCell ⟨w.heap.size + 1, 1, none⟩ (.slice ra m rc) = VV at e6 f6 ⊢
 have y0 := cells_in e6 0
 have y1 := cells_in e6 1
 simp at y0 y1
 have hne : ∀ k, ft k → ¬ (k = w.heap.size + 1) := fun k hk e => by have := HRB.out k hk; omega
 have hfr9 : Fr0 ft w VV := ((F2.out.mono (S' := ft) (fun _ _ h => h.elim)).trans HF4.out).trans' f6 (fun k hk e => by have e : k = w.heap.size + 1 := e; omega)
 have hrow9 : VV.ownsRow w.heap.size 30 5 (.slice ra m rc) E.length (flatEv E) := by
  rw [hm]
  exact ownsRow_k_mono (ownsRow_fr0 HR.out f6 (fun g hg e => by have := (HR.out.lt g hg).1; have := Z2.out; have e : g = w.heap.size + 1 := e; omega)) (by have := Z2.out; omega)
 exact bodyPost_ret (v := .agg #[.int .i64 0, .slice ra m rc]) (by simp [results, Tryz.results70, go_sem, y0, y1]) rfl ⟨_, ft, rfl, hrow9, HL.out.fr0 f6 hne, fun k hk => .inl hk, HNG.out, hfr9⟩
theorem do_list {w : World} {lb n : Nat} {E : List Ev} {ft : Nat → Prop} (h : LIs w lb n E ft) (a : Ca) (hk : 1 ≤ a.kind ∧ a.kind ≤ 5) :
  Calls Tryz.prog 70 #[.iface 105 (.pointer (some ⟨lb, 0, none⟩)), actCV a] w (DoT w ft (doC n E a).2 (fun ft' w' => LIs w' lb n (doC n E a).1 ft')) := by
 obtain ⟨kd, x, t⟩ := a
 simp only at hk
 have h5 : kd = 1 ∨ kd = 2 ∨ kd = 3 ∨ kd = 4 ∨ kd = 5 := by omega
 rcases h5 with rfl | rfl | rfl | rfl | rfl
 ·exact do_list1 h x t
 ·exact do_list2 h x t
 ·exact do_list3 h x t
 ·exact do_list4 h x t
 ·exact do_list5 h x t
end Go.Proofs.YtieeloealklkgaaGreat

/-
  Ranges over functions whose values are known only when they come: an iterator hands on blocks of its own with each value, and tells at its end what it has become.
-/
namespace Go.Proofs.YtieeloealklkgaaGreat
open Go.RowKit

/-- Like IterX0. 'R i x X Z W': x may come as the value with number i, when the iterator's own blocks are X; those that are not in Z go to the body with it. 'Fin X W': what the iterator has become at its end. -/
def IterR {α : Type} (P : Program) (gf : Nat) (lb : Array Value) (encs : α → Array Value) (n : Nat) (R : Nat → α → (Nat → Prop) → (Nat → Prop) → World → Prop) (Fin : (Nat → Prop) → World → Prop) (own rd : Nat → Prop) (w : World) : Prop :=
 ∀ (l : Nat) (J : Nat → (Nat → Prop) → World → Prop) (Jx : World → Prop) (W : World), Keep rd w W →
  (∀ i X Y W1 W2, J i X W1 → Fr0 (fun k => own k ∨ X k) W1 W2 → (∀ k, Y k → X k ∨ (W1.heap.size ≤ k ∧ k < W2.heap.size)) → J i Y W2) →
  (∀ W1 W2, Jx W1 → Fr0 own W1 W2 → Jx W2) →
  (∀ i x X Z W1, R i x X Z W1 → J i X W1 → YieldAt Fence.wide 0 P l (encs x) W1 fun e W2 =>
   (e = .returned (.bool true) ∧ J (i + 1) Z W2 ∧ Keep (fun k => rd k ∨ Z k) W1 W2) ∨ (e = .returned (.bool false) ∧ Jx W2)) →
  J 0 none' W →
  CallsIn Fence.wide 0 P gf (#[.func (.yield l) #[] #[]] ++ lb) W fun e W' => (∃ v, e = .returned v) ∧ ((∃ X, J n X W' ∧ Fin X W') ∨ Jx W')

variable {P : Program}

/-- THE LAW. 'I i W': i values have come. It must outlive turns of 'own' and of the loop's two blocks. The body must turn none of 'rd' and none of the loop's two blocks. -/
theorem wpIn_iterR {α : Type} {g : Operand} {ps : Array Tmp} {assign body : Code} {Q : Exit → Act → World → Prop} {a : Act} {w : World}
  {gf : Nat} {lb : Array Value} (hg : a.eval g = .func (.func gf) #[] lb) (eg : ∀ args w, (callFunc gf args).run P w = .ok (.enter gf args) w)
  {encs : α → Array Value} {n : Nat} {R : Nat → α → (Nat → Prop) → (Nat → Prop) → World → Prop} {Fin : (Nat → Prop) → World → Prop} {own rd : Nat → Prop} {w0 : World} (hseq : IterR P gf lb encs n R Fin own rd w0)
  (hRZ : ∀ i x X Z W, R i x X Z W → ∀ k, Z k → X k) (hRf : ∀ i x X Z W1 W2, R i x X Z W1 → (∀ k, X k → w.heap.size + 1 < k) → Fr0 (fun k => k = w.heap.size + 1) W1 W2 → R i x X Z W2)
  (hFin : ∀ X W1 W2, Fin X W1 → (∀ k, X k → w.heap.size + 1 < k) → Fr0 (fun k => k = w.heap.size ∨ k = w.heap.size + 1) W1 W2 → Fin X W2) (hb0 : Keep rd w0 w) (hps : ∀ x, (encs x).size = ps.size)
  (hown : ∀ k, own k → k < w.heap.size) (hrd : ∀ k, rd k → k < w.heap.size)
  (I : Nat → (Nat → Prop) → World → Prop) (Ix : Code → World → Prop)
  (hI : ∀ i X Y W1 W2, I i X W1 → (∀ k, X k → w.heap.size + 1 < k ∧ k < W1.heap.size) → Fr0 (fun k => own k ∨ X k ∨ k = w.heap.size ∨ k = w.heap.size + 1) W1 W2 → (∀ k, Y k → X k ∨ (W1.heap.size ≤ k ∧ k < W2.heap.size)) → I i Y W2)
  (hIx : ∀ c W1 W2, Ix c W1 → Fr0 (fun k => own k ∨ k = w.heap.size ∨ k = w.heap.size + 1) W1 W2 → Ix c W2) (h0 : I 0 none' w) (a₁ : α → World → Act → Prop)
  (hassign : ∀ (l : Nat) (x : α) (W : World) (K : Act → World → Prop), w.heap.size + 1 < W.heap.size → (∀ a' W', a₁ x W' a' → Fr0 none' W W' → K a' W') →
   assign.wpIn (Fence.wide.inRound l) 0 P (Exit.then K (fun _ _ _ => False)) { tmps := (ps.zip (encs x)).foldl (fun t (p, v) => t.setIfInBounds p v) a.tmps, defers := [] } W)
  (ha₁ : ∀ x W1 W2 a', a₁ x W1 a' → Fr0 (fun k => k = w.heap.size + 1) W1 W2 → a₁ x W2 a')
  (hbody : ∀ (l i : Nat) (x : α) (X Z : Nat → Prop) (W : World) (a' : Act) (r : Loop), R i x X Z W → I i X W → (∀ k, X k → w.heap.size + 1 < k ∧ k < W.heap.size) → a₁ x W a' → W.heap[w.heap.size]? = some (.deferred (some [])) → W.heap[w.heap.size + 1]? = some (.loop r) →
   body.wpIn (Fence.wide.inRound l) 0 P (iterPost0 (fun k => rd k ∨ Z k ∨ k = w.heap.size ∨ k = w.heap.size + 1) (fun i => I i Z) Ix (i + 1) W) a' W)
  (hdone : ∀ (D : Nat) (X : Nat → Prop) (W : World), D = w.heap.size → I n X W → (∀ k, X k → w.heap.size + 1 < k ∧ k < W.heap.size) → Fin X W → W.heap[D]? = some (.deferred (some [])) → Q .normal { a with defers := { target := .collected D, args := #[] } :: a.defers } W)
  (hstop : ∀ (D : Nat) (c : Code) (W : World), D = w.heap.size → Ix c W → W.heap[D]? = some (.deferred (some [])) → c.wpIn Fence.wide 0 P Q { a with defers := { target := .collected D, args := #[] } :: a.defers } W) :
  (Code.rangeFunc g ps assign body).wpIn Fence.wide 0 P Q a w := by
 refine wpIn_rangeFunc ?_
 intro fn hfn
 obtain ⟨rec, hrec⟩ : ∃ rec : LoopState → Option Code → Loop, rec = fun st pe => { state := st, pending := pe, fn, tmps := a.tmps, params := ps, assign, body, defers := w.heap.size } := ⟨_, rfl⟩
 obtain ⟨B, hB⟩ : ∃ B, w.heap.size = B := ⟨_, rfl⟩
 obtain ⟨W1, hW1⟩ : ∃ W1, (w.alloc (.deferred (some []))).alloc (.loop (rec .ready none)) = W1 := ⟨_, rfl⟩
 have hf1 : Fr0 none' w W1 := by rw [← hW1]; exact ((Fr0.refl _ _).alloc _).alloc _
 have hL1 : W1.heap[B + 1]? = some (.loop (rec .ready none)) := by
  rw [← hW1, ← hB]; have := World.alloc_heap_new (w.alloc (.deferred (some []))) (.loop (rec .ready none)); rwa [World.size_alloc] at this
 have hK1 : W1.heap[B]? = some (.deferred (some [])) := by
  rw [← hW1, ← hB]; exact (Below.heap_alloc _ _ _ (by simp)).trans (World.alloc_heap_new w _)
 rw [hB] at hI hIx hbody hdone hstop hassign ha₁ hown hrd hRf hFin
 have hI1 : I 0 none' W1 := hI _ _ none' _ _ h0 (fun k h => h.elim) (hf1.mono (fun k _ h => h.elim)) (fun k h => h.elim)
 refine ⟨B + 1, [{ target := .collected B, args := #[] }], W1, { target := .fn (.func gf) lb, args := #[.func (.yield (B + 1)) #[] #[]] }, W1, gf,
  #[.func (.yield (B + 1)) #[] #[]] ++ lb, W1, ?_, ?_, fun _ _ => trivial, ?_, fun h => by simp [Fence.wide] at h, ?_⟩
 ·have := run_enterLoop_outer (P := P) (w := w) fn a.tmps ps assign body
  rw [← hW1, hrec]
  simp only [hB] at this ⊢
  exact this
 ·simp only [resolve, hg]
  simp [go_sem]
 ·simp [invoke, go_sem, eg]
 ·refine CallsIn.mono ((hseq (B + 1)
   (fun i X W => I i X W ∧ (∀ k, X k → B + 1 < k ∧ k < W.heap.size) ∧ W.heap[B + 1]? = some (.loop (rec .ready none)) ∧ W.heap[B]? = some (.deferred (some [])))
   (fun W => ∃ c, Ix c W ∧ W.heap[B + 1]? = some (.loop (rec .done (some c))) ∧ W.heap[B]? = some (.deferred (some [])))
   W1 (hb0.trans (hf1.keep (fun k hk => ⟨by rw [hB]; exact hrd k hk, id⟩)))
   ?_ ?_ ?_ ⟨hI1, fun k h => h.elim, hL1, hK1⟩)) ?_
  ·rintro i X Y A C ⟨hi, hX, hl, hk⟩ hf hY
   have l1 := (Array.getElem?_eq_some_iff.1 hl).1
   have l2 := hf.size
   refine ⟨hI i X Y A C hi hX (hf.mono (fun k _ h => h.elim .inl (fun h => .inr (.inl h)))) hY, fun k hk => ?_, (hf.block _ l1 (fun h => ?_)).trans hl, (hf.block _ (by omega) (fun h => ?_)).trans hk⟩
   ·rcases hY k hk with h | h
    ·have := hX k h; omega
    ·omega
   ·rcases h with h | h
    ·have := hown _ h; omega
    ·have := hX _ h; omega
   ·rcases h with h | h
    ·have := hown _ h; omega
    ·have := hX _ h; omega
  ·rintro A C ⟨c, hi, hl, hk⟩ hf
   have l1 := (Array.getElem?_eq_some_iff.1 hl).1
   exact ⟨c, hIx c A C hi (hf.mono (fun k _ h => .inl h)), (hf.block _ l1 (fun h => by have := hown _ h; omega)).trans hl, (hf.block _ (by omega) (fun h => by have := hown _ h; omega)).trans hk⟩
  ·rintro i x X Z W hx ⟨hi, hX, hl, hk⟩
   have hZ := hRZ _ _ _ _ _ hx
   have hlt : B + 1 < W.heap.size := (Array.getElem?_eq_some_iff.1 hl).1
   have hy := run_yield (P := P) (args := encs x) hl (by rw [hrec]; exact hps x)
   rw [hrec] at hy
   refine ⟨fn, _, assign, body, hy, roundIn_of_wpIn (n := 0) hfn (hassign _ x W _ hlt ?_)⟩
   intro a' W' ha' hf'
   have hl' : W'.heap[B + 1]? = some (.loop (rec .ready none)) := (hf'.block _ hlt id).trans hl
   have hk' : W'.heap[B]? = some (.deferred (some [])) := (hf'.block _ (by omega) id).trans hk
   have hlt' : B + 1 < W'.heap.size := (Array.getElem?_eq_some_iff.1 hl').1
   refine ⟨_, run_beginRound hl' (by rw [hrec]), ?_⟩
   obtain ⟨W2, hW2⟩ : ∃ W2, W'.putObj (B + 1) (.loop { rec .ready none with state := .busy }) = W2 := ⟨_, rfl⟩
   have hf2 : Fr0 (fun k => k = B + 1) W' W2 := by rw [← hW2]; exact Fr0.putNew _ _ rfl
   have hl2 : W2.heap[B + 1]? = some (.loop { rec .ready none with state := .busy }) := by rw [← hW2]; exact World.putObj_heap_same hlt'
   have hk2 : W2.heap[B]? = some (.deferred (some [])) := (hf2.block _ (by omega) (by omega)).trans hk'
   rw [hW2]
   have hX' : ∀ k, X k → B + 1 < k ∧ k < W'.heap.size := fun k hk => ⟨(hX k hk).1, Nat.lt_of_lt_of_le (hX k hk).2 hf'.size⟩
   have hX2 : ∀ k, X k → B + 1 < k ∧ k < W2.heap.size := fun k hk => ⟨(hX k hk).1, Nat.lt_of_lt_of_le (hX' k hk).2 hf2.size⟩
   have hi2 : I i X W2 := hI _ _ _ _ _ (hI _ _ _ _ _ hi hX (hf'.mono (fun k _ h => h.elim)) (fun k h => .inl h)) hX' (hf2.mono (fun k _ h => .inr (.inr (.inr h)))) (fun k h => .inl h)
   have hx2 : R i x X Z W2 := hRf _ _ _ _ _ _ (hRf _ _ _ _ _ _ hx (fun k hk => (hX k hk).1) (hf'.mono (fun k _ h => h.elim))) (fun k hk => (hX k hk).1) hf2
   have hrx : ∀ k, (rd k ∨ Z k) → k < W.heap.size ∧ k ≠ B ∧ k ≠ B + 1 := fun k h => by
    rcases h with h | h
    ·have := hrd k h; omega
    ·have := hX k (hZ k h); omega
   have z1 := hf'.size
   have z2 := hf2.size
   have kW2 : Keep (fun k => rd k ∨ Z k) W W2 := (hf'.keep (fun k hk => ⟨(hrx k hk).1, id⟩)).trans (hf2.keep (fun k hk => ⟨by have := hrx k hk; omega, (hrx k hk).2.2⟩))
   refine wpIn_mono (hbody _ i x X Z W2 a' _ hx2 hi2 hX2 (ha₁ _ _ _ _ ha' hf2) hk2 hl2) ?_
   have fin : ∀ (jump : Option Code) (W3 : World) (S' : Nat → Prop), Fr0 S' W2 W3 → (∀ k, S' k → (rd k ∨ Z k ∨ k = B ∨ k = B + 1) → False) →
     (Instr.endRound (B + 1) jump).run P W3 = .ok (.bool jump.isNone) (W3.putObj (B + 1) (.loop (rec (if jump.isNone then .ready else .done) jump))) ∧
     (W3.putObj (B + 1) (.loop (rec (if jump.isNone then .ready else .done) jump))).heap[B + 1]? = some (.loop (rec (if jump.isNone then .ready else .done) jump)) ∧
     (W3.putObj (B + 1) (.loop (rec (if jump.isNone then .ready else .done) jump))).heap[B]? = some (.deferred (some [])) ∧
     Fr0 (fun k => own k ∨ k = B ∨ k = B + 1) W3 (W3.putObj (B + 1) (.loop (rec (if jump.isNone then .ready else .done) jump))) ∧
     Keep (fun k => rd k ∨ Z k) W (W3.putObj (B + 1) (.loop (rec (if jump.isNone then .ready else .done) jump))) := by
    intro jump W3 S' hf3 hS'
    have l2 := (Array.getElem?_eq_some_iff.1 hl2).1
    have hl3 := (hf3.block _ l2 (fun h => hS' _ h (.inr (.inr (.inr rfl))))).trans hl2
    have hk3 := (hf3.block _ (by omega) (fun h => hS' _ h (.inr (.inr (.inl rfl))))).trans hk2
    have l3 := (Array.getElem?_eq_some_iff.1 hl3).1
    have := run_endRound (P := P) jump hl3
    rw [hrec] at this ⊢
    refine ⟨this, World.putObj_heap_same l3, (World.putObj_heap_other (by omega)).trans hk3, Fr0.putNew _ _ (.inr (.inr rfl)), ?_⟩
    have z3 := hf3.size
    refine (kW2.trans (hf3.keep (fun k hk => ⟨by have := hrx k hk; omega, fun h => hS' _ h (hk.elim .inl (fun h => .inr (.inl h)))⟩))).trans ?_
    exact (Fr0.putNew (S := fun k => k = B + 1) _ _ rfl).keep (fun k hk => ⟨by have := hrx k hk; omega, (hrx k hk).2.2⟩)
   rintro e a3 W3 hp
   cases e with
   | normal =>
    obtain ⟨S', hf3, hS', hi3⟩ := hp
    obtain ⟨hr, hl4, hk4, hf4, hk5⟩ := fin none W3 S' hf3 hS'
    have z3 := hf3.size
    have z4 := hf4.size
    exact ⟨_, _, hr, .inl ⟨rfl, ⟨hI _ _ _ _ _ hi3 (fun k hk => ⟨(hX k (hZ k hk)).1, by have := hX2 k (hZ k hk); omega⟩) (hf4.mono (fun k _ h => h.elim .inl (fun h => .inr (.inr h)))) (fun k h => .inl h), fun k hk => ⟨(hX k (hZ k hk)).1, by have := hX2 k (hZ k hk); omega⟩, hl4, hk4⟩, hk5⟩⟩
   | ret =>
    obtain ⟨S', hf3, hS', hi3⟩ := hp
    obtain ⟨hr, hl4, hk4, hf4, hk5⟩ := fin (some .ret) W3 S' hf3 hS'
    exact ⟨_, _, hr, .inr ⟨rfl, .ret, hIx _ _ _ hi3 hf4, hl4, hk4⟩⟩
   | exit id =>
    obtain ⟨S', hf3, hS', hi3⟩ := hp
    obtain ⟨hr, hl4, hk4, hf4, hk5⟩ := fin (some (.exit id)) W3 S' hf3 hS'
    exact ⟨_, _, hr, .inr ⟨rfl, .exit id, hIx _ _ _ hi3 hf4, hl4, hk4⟩⟩
   | goto t =>
    obtain ⟨S', hf3, hS', hi3⟩ := hp
    obtain ⟨hr, hl4, hk4, hf4, hk5⟩ := fin (some (.goto t)) W3 S' hf3 hS'
    exact ⟨_, _, hr, .inr ⟨rfl, .goto t, hIx _ _ _ hi3 hf4, hl4, hk4⟩⟩
   | panic ch => exact hp.elim
   | outgrown => exact hp.elim
  ·rintro e W2 ⟨⟨v, rfl⟩, (⟨X, ⟨hi, hX, hl, hk⟩, hfin⟩ | ⟨c, hi, hl, hk⟩)⟩
   ·exact ⟨none, _, by have := run_endLoop (P := P) hl (by rw [hrec]; simp); rw [hrec] at this; exact this, hdone _ X _ rfl (hI _ _ _ _ _ hi hX (Fr0.putNew _ _ (.inr (.inr (.inr rfl)))) (fun k h => .inl h)) (fun k hk => ⟨(hX k hk).1, by rw [World.putObj_size]; exact (hX k hk).2⟩) (hFin X _ _ hfin (fun k hk => (hX k hk).1) (Fr0.putNew _ _ (.inr rfl))) ((World.putObj_heap_other (by omega)).trans hk)⟩
   ·exact ⟨some c, _, by have := run_endLoop (P := P) hl (by rw [hrec]; simp); rw [hrec] at this; exact this, hstop _ c _ rfl (hIx c _ _ hi (Fr0.putNew _ _ (.inr (.inr rfl)))) ((World.putObj_heap_other (by omega)).trans hk)⟩
end Go.Proofs.YtieeloealklkgaaGreat

/-
  calendar: told with a list.
-/
namespace Go.Proofs.YtieeloealklkgaaGreat
open Go Go.RowKit
attribute [local go_sem ↓] Go.wp_at_zero Go.wp_at_succ
attribute [local go_sem] Oper.semAt_some wide_fn wide_depth wide_fnR wide_depthR

/-- Acts in memory. -/
def CaAt (w : World) (g o : Nat) (a : Ca) : Prop := w.cell? ⟨g, o, none⟩ = some (.int .u8 a.kind) ∧ w.cell? ⟨g, o + 1, none⟩ = some (.int .i64 a.x.key.time) ∧ w.cell? ⟨g, o + 2, none⟩ = some (.int .i64 a.x.key.source) ∧ w.cell? ⟨g, o + 3, none⟩ = some (.int .i64 a.x.key.seq) ∧ w.cell? ⟨g, o + 4, none⟩ = some (.int .i64 a.x.to) ∧ w.cell? ⟨g, o + 5, none⟩ = some (.int .i64 a.x.value) ∧ w.cell? ⟨g, o + 6, none⟩ = some (.int .i64 a.time)
def CasIn (w : World) (a : Option Addr) (L : List Ca) : Prop := ∀ i x, L[i]? = some x → ∃ g o, a = some ⟨g, o, none⟩ ∧ CaAt w g (o + i * 7) x
theorem CaAt.fr0 {S : Nat → Prop} {w w' : World} {g o : Nat} {a : Ca} (h : CaAt w g o a) (hf : Fr0 S w w') (hS : ¬ S g) : CaAt w' g o a := by
 obtain ⟨h0, h1, h2, h3, h4, h5, h6⟩ := h
 have hlt := World.block_lt_of_cell? _ _ h0
 have key : ∀ o' v, w.cell? ⟨g, o', none⟩ = some v → w'.cell? ⟨g, o', none⟩ = some v := fun o' v hc => (hf.cell (p := ⟨g, o', none⟩) hlt hS).trans hc
 exact ⟨key _ _ h0, key _ _ h1, key _ _ h2, key _ _ h3, key _ _ h4, key _ _ h5, key _ _ h6⟩
theorem CasIn.fr0 {S : Nat → Prop} {w w' : World} {a : Option Addr} {L : List Ca} (h : CasIn w a L) (hf : Fr0 S w w') (hS : ∀ g o s, a = some ⟨g, o, s⟩ → ¬ S g) : CasIn w' a L := fun i x hx => by
 obtain ⟨g, o, e, hc⟩ := h i x hx
 exact ⟨g, o, e, hc.fr0 hf (hS g o none e)⟩
theorem CasIn.later {w w' : World} {a : Option Addr} {L : List Ca} (h : CasIn w a L) (hf : Fr0 none' w w') : CasIn w' a L := h.fr0 hf (fun _ _ _ _ h => h)
theorem CasIn.kept {w w' : World} {a : Option Addr} {L : List Ca} (h : CasIn w a L) (hk : ∀ g o s, a = some ⟨g, o, s⟩ → w'.heap[g]? = w.heap[g]?) : CasIn w' a L := fun i x hx => by
 obtain ⟨g, o, e, h0, h1, h2, h3, h4, h5, h6⟩ := h i x hx
 have key : ∀ o' v, w.cell? ⟨g, o', none⟩ = some v → w'.cell? ⟨g, o', none⟩ = some v := fun o' v hc => (World.cell?_of_block (w := w) (hk g o none e)).trans hc
 exact ⟨g, o, e, key _ _ h0, key _ _ h1, key _ _ h2, key _ _ h3, key _ _ h4, key _ _ h5, key _ _ h6⟩
theorem CasIn.lt {w : World} {a : Option Addr} {L : List Ca} (h : CasIn w a L) (h0 : L ≠ []) : ∀ g o s, a = some ⟨g, o, s⟩ → g < w.heap.size := by
 intro g o s e
 cases L with
 | nil => exact absurd rfl h0
 | cons y r =>
  obtain ⟨g', o', e', hc, _⟩ := h 0 y rfl
  rw [e] at e'
  injection e' with e'
  injection e' with e1 e2 e3
  subst e1
  exact World.block_lt_of_cell? _ _ hc
/-- A list outlives whatever keeps its blocks. -/
theorem LIs.kept {w W : World} {lb n : Nat} {E : List Ev} {ft : Nat → Prop} (h : LIs w lb n E ft) (hs : w.heap.size ≤ W.heap.size) (hk : ∀ k, ft k → W.heap[k]? = w.heap[k]?) : LIs W lb n E ft := by
 obtain ⟨W0, hW0⟩ : ∃ W0 : World, W0 = { W with os := w.os, tape := w.tape, output := w.output } := ⟨_, rfl⟩
 have hf : Fr0 (fun k => ¬ ft k) w W0 := by
  subst hW0
  exact ⟨rfl, rfl, rfl, hs, fun k _ hn => hk k (Classical.not_not.1 hn)⟩
 have h0 := h.fr0 hf (fun k h1 h2 => h2 h1)
 have hh : W0.heap = W.heap := by rw [hW0]
 obtain ⟨v, h1, h2, h3, h4⟩ := h0.row
 refine ⟨⟨v, hh ▸ h1, ?_, h3, h4⟩, h0.good, h0.small, h0.foot, fun k hk => hh ▸ h0.lt k hk⟩
 refine ⟨h2.1, h2.2.imp id ?_⟩
 rintro ⟨g, cap, cur, e1, e2, e3, e4, e5, e6, e7⟩
 exact ⟨g, cap, cur, e1, e2, hh ▸ e3, e4, e5, e6, e7⟩
/-- What is told, with the slice that holds it. -/
structure Td where
 err : Int
 sa : Option Addr
 sn : Nat
 sc : Nat
 evs : List Ev
def Td.v (y : Td) : Value := .slice y.sa y.sn y.sc
def Td.tl (y : Td) : Tl := ⟨y.err, y.evs⟩
def Td.val (y : Td) : Value := .agg #[.int .i64 y.err, .slice y.sa y.sn y.sc]
def Td.cells (y : Td) : List Value := [.int .i64 y.err, .slice y.sa y.sn y.sc]
/-- y may come as the value with number i. -/
def ToldR (T : List Tl) (i : Nat) (y : Td) (X Z : Nat → Prop) (W : World) : Prop :=
 T[i]? = some y.tl ∧ W.ownsRow 0 30 5 y.v y.evs.length (flatEv y.evs) ∧ (∀ g, y.v.ownBlock = some g → X g ∧ ¬ Z g) ∧ ∀ k, Z k → X k
/-- What the list has become. -/
def ListF (lb n : Nat) (E : List Ev) (own X : Nat → Prop) (W : World) : Prop := ∃ ft, LIs W lb n E ft ∧ ∀ k, ft k → own k ∨ X k
set_option maxHeartbeats 4000000 in
theorem told_list {w : World} {lb n m cap ab sb : Nat} {E : List Ev} {ft : Nat → Prop} {a : Option Addr} {L : List Ca} (h : LIs w lb n E ft) (hL : CasIn w a L) (hl : L.length = m) (hm : m ≤ 100000) (hk : ∀ a ∈ L, 1 ≤ a.kind ∧ a.kind ≤ 5)
  (hab : Box w ab (.slice a m cap)) (hsb : Box w sb (.iface 105 (.pointer (some ⟨lb, 0, none⟩)))) (hna : L ≠ [] → ∀ g o s, a = some ⟨g, o, s⟩ → ¬ ft g) (hnab : ¬ ft ab) (hnsb : ¬ ft sb) :
  IterR Tryz.prog 69 #[.pointer (some ⟨ab, 0, none⟩), .pointer (some ⟨sb, 0, none⟩)] (fun y : Td => #[y.val]) m (ToldR (tlC n E L)) (ListF lb n (stC n E L) ft) ft (fun k => k = ab ∨ k = sb ∨ (∃ o s, a = some ⟨k, o, s⟩ ∧ L ≠ []) ∨ ft k) w := by
 intro l J Jx W hK hJ hJx hY h0
 have H := Lib.hid (h.kept hK.1 (fun k hk => hK.2 k (.inr (.inr (.inr hk)))))
 have HL := Lib.hid (show L ≠ [] → CasIn W a L from fun hne => hL.kept (fun g o s e => hK.2 g (.inr (.inr (.inl ⟨o, s, e, hne⟩)))))
 have HA := Lib.hid (hab.of_block (hK.2 ab (.inl rfl)))
 have HS := Lib.hid (hsb.of_block (hK.2 sb (.inr (.inl rfl))))
 have HNA := Lib.hid hna
 have Hnab := Lib.hid hnab
 have Hnsb := Lib.hid hnsb
 have HJ := Lib.hid hJ
 have HY := Lib.hid hY
 have Hl := Lib.hid hl
 have Hk := Lib.hid hk
 have H0 := Lib.hid h0
 have c0 := HA.out.cell
 clear h hL hab hsb hna hnab hnsb hJ hY hK hk hl h0
 refine callsIn_of_wp Tryz.func69 rfl trivial ?_ rfl
 simp only [Tryz.ntmps69, List.size_toArray, List.length_cons, List.length_nil, Nat.reduceAdd, Nat.reduceSub, Array.replicate_succ, Array.replicate_zero, List.push_toArray, List.append_toArray, List.nil_append, List.cons_append]
 gi_wp2_with fail
 gi_loopw [5, 8] (fun _ i wr => ∃ (k : Nat) (X fk : Nat → Prop), k ≤ m ∧ i = .int .i64 k ∧ Hid (J k X wr) ∧ Hid (LIs wr lb n (stC n E (L.take k)) fk ∧ ∀ j, fk j → ft j ∨ X j) ∧ Hid (Keep (fun b => b = ab ∨ b = sb ∨ ∃ o s, a = some ⟨b, o, s⟩ ∧ L ≠ []) W wr) ∧ Hid (∀ j, X j → W.heap.size ≤ j)) (fun _ i _ => m - (Go.RowKit.intOf i).toNat)
 case atStart => exact ⟨0, none', ft, Nat.zero_le _, rfl, H0.out, ⟨H.out, fun j hj => .inl hj⟩, Keep.refl _ _, fun j hj => hj.elim⟩
 case round =>
  clear H0
  obtain ⟨k, X, fk, hk, rfl, hj, hS, hKp, hX⟩ := hrel
  by_cases hlt : k < m
  ·have hne : L ≠ [] := fun e => by have := Hl.out; rw [e] at this; simp at this; omega
   obtain ⟨x, hx⟩ : ∃ x, L[k]? = some x := ⟨_, List.getElem?_eq_getElem (by rw [Hl.out]; exact hlt)⟩
   obtain ⟨g2, o, rfl, _⟩ := HL.out hne k x hx
   have hcas : CasIn wr (some ⟨g2, o, none⟩) L := (HL.out hne).kept (fun g o' s e => hKp.out.2 g (.inr (.inr ⟨o', s, e, hne⟩)))
   obtain ⟨g3, o3, e3, hxc⟩ := hcas k x hx
   injection e3 with e3
   injection e3 with e3 e4
   subst e3 e4
   obtain ⟨x0, x1, x2, x3, x4, x5, x6⟩ := hxc
   have k1 : (0 : Int) ≤ (k : Int) := by omega
   have k2 : (k : Int) < (m : Int) := by omega
   have z5 : IntKind.i64.wrap ((k : Int) + 1) = (k : Int) + 1 := IntWalk.i64_in _ (by omega)
   obtain ⟨W2, hW2⟩ : ∃ V, wr.alloc (.cells #[.int .u8 x.kind, .int .i64 x.x.key.time, .int .i64 x.x.key.source, .int .i64 x.x.key.seq, .int .i64 x.x.to, .int .i64 x.x.value, .int .i64 x.time] 33) = V := ⟨_, rfl⟩
   have f2 : Fr0 none' wr W2 := by rw [← hW2]; exact (Fr0.refl _ _).alloc _
   have hS2 := hS.out.1.later f2
   have hj2 : J k X W2 := HJ.out k X X wr W2 hj.out (f2.mono (fun _ _ h => h.elim)) (fun _ h => .inl h)
   have hsb2 : Box W2 sb (.iface 105 (.pointer (some ⟨lb, 0, none⟩))) := (HS.out.of_block (hKp.out.2 sb (.inr (.inl rfl)))).fr0 f2 id
   have cS := hsb2.cell
   have HD := Lib.hid (do_list hS2 x (Hk.out x (List.mem_of_getElem? hx)))
   have Hx := Lib.hid hx
   have HS2 := Lib.hid hS2
   have F2 := Lib.hid f2
   have Hj2 := Lib.hid hj2
   have Hne := Lib.hid hne
   unfold actCV at HD
   clear hcas hx hS2 hj2 hsb2 f2 hne
   subst hW2
   gi_wp2_with fail
   refine (callsIn_wide.2 HD.out).mono ?_
   rintro e W3 ⟨v, ft', rfl, hrow, hl', hft', hnv, hf3⟩
   obtain ⟨va, vc, hv9, _, _⟩ := EsIn.of_own hrow
   obtain ⟨vn, hvn⟩ : ∃ vn, (doC n (stC n E (L.take k)) x).2.evs.length = vn := ⟨_, rfl⟩
   rw [hvn] at hv9
   subst hv9
   clear hvn
   obtain ⟨T, hT⟩ : ∃ T, (doC n (stC n E (L.take k)) x).2 = T := ⟨_, rfl⟩
   rw [hT] at hrow ⊢
   rw [← stC_snoc Hx.out] at hl'
   have htl := tlC_at (n := n) (E := E) Hx.out
   rw [hT] at htl
   obtain ⟨W2, hW2⟩ : ∃ V, wr.alloc (.cells #[.int .u8 x.kind, .int .i64 x.x.key.time, .int .i64 x.x.key.source, .int .i64 x.x.key.seq, .int .i64 x.x.to, .int .i64 x.x.value, .int .i64 x.time] 33) = V := ⟨_, rfl⟩
   rw [hW2] at hrow hft' hf3 HS2 F2 Hj2
   clear hW2 HD
   obtain ⟨Y, hY⟩ : ∃ Y : Nat → Prop, Y = fun j => X j ∨ (W2.heap.size ≤ j ∧ j < W3.heap.size) := ⟨_, rfl⟩
   obtain ⟨Z, hZ⟩ : ∃ Z : Nat → Prop, Z = fun j => Y j ∧ (Value.slice va vn vc).ownBlock ≠ some j := ⟨_, rfl⟩
   have hj3 : J k Y W3 := HJ.out k X Y W2 W3 Hj2.out (hf3.mono (fun j _ h => hS.out.2 j h)) (fun j h => by rw [hY] at h; exact h)
   have hfoot : ∀ j, ft' j → ft j ∨ Z j := fun j hj => by
    have hlt3 := hl'.lt j hj
    have hv := fun e => hnv j e hj
    rcases hft' j hj with h | h
    ·rcases hS.out.2 j h with h | h
     ·exact .inl h
     ·exact .inr (by rw [hZ]; exact ⟨by rw [hY]; exact .inl h, hv⟩)
    ·exact .inr (by rw [hZ]; exact ⟨by rw [hY]; exact .inr ⟨h, hlt3⟩, hv⟩)
   obtain ⟨fn, tmps, assign, body, hyy, hR⟩ := HY.out k ⟨T.err, va, vn, vc, T.evs⟩ Y Z W3 ⟨htl, ownsRow_k_mono hrow (Nat.zero_le _), fun g hg => ⟨by rw [hY]; exact .inr (hrow.lt g hg), fun hz => by rw [hZ] at hz; exact hz.2 hg⟩, fun j hj => by rw [hZ] at hj; exact hj.1⟩ hj3
   unfold Td.val at hyy
   have HR := Lib.hid hR
   have HLI := Lib.hid hl'
   have HFo := Lib.hid hfoot
   have HF3 := Lib.hid hf3
   have hXY : ∀ j, Z j → W.heap.size ≤ j := fun j hj => by
    rw [hZ] at hj
    have hj := hj.1
    rw [hY] at hj
    rcases hj with h | h
    ·exact hX.out j h
    ·have := hKp.out.1
     have := F2.out.size
     omega
   have HXY := Lib.hid hXY
   have hK3 : Keep (fun b => b = ab ∨ b = sb ∨ ∃ o' s, (some ⟨g2, o, none⟩ : Option Addr) = some ⟨b, o', s⟩ ∧ L ≠ []) W W3 := by
    have hno : ∀ b, b < W.heap.size → ¬ ft b → ¬ fk b := fun b hb h1 h2 => (hS.out.2 b h2).elim h1 (fun h => by have := hX.out b h; omega)
    refine hKp.out.trans (((F2.out.mono (S' := fk) (fun _ _ h => h.elim)).trans hf3).keep (fun b hb => ?_))
    have hsz := hKp.out.1
    rcases hb with rfl | rfl | ⟨o', s, e, h⟩
    ·exact ⟨Nat.lt_of_lt_of_le HA.out.lt hsz, hno _ HA.out.lt Hnab.out⟩
    ·exact ⟨Nat.lt_of_lt_of_le HS.out.lt hsz, hno _ HS.out.lt Hnsb.out⟩
    ·have hb := (HL.out h).lt h b o' s e
     exact ⟨Nat.lt_of_lt_of_le hb hsz, hno _ hb (HNA.out h b o' s e)⟩
   have HK3 := Lib.hid hK3
   clear hrow hl' hft' hnv hf3 htl hj3 hfoot hR hXY hK3 hY hZ hT
   gi_wp2_with fail
   refine HR.out.mono ?_
   rintro e W4 (⟨rfl, hJ4, hk4⟩ | ⟨rfl, hJx4⟩)
   ·have hli := HLI.out.kept hk4.1 (fun j hj => hk4.2 j ((HFo.out j hj).elim (fun h => .inl (.inr (.inr (.inr h)))) .inr))
    have hkk : Keep (fun b => b = ab ∨ b = sb ∨ ∃ o' s, (some ⟨g2, o, none⟩ : Option Addr) = some ⟨b, o', s⟩ ∧ L ≠ []) W W4 := HK3.out.trans ⟨hk4.1, fun b hb => hk4.2 b (.inl (hb.imp id (fun h => h.imp id .inl)))⟩
    have HLI := Lib.hid hli
    have HKK := Lib.hid hkk
    have HJ4 := Lib.hid hJ4
    clear hli hkk hk4 hJ4
    gi_wp2
    go_roundw
    case rel => exact ⟨k + 1, Z, ft', by omega, by go_num, HJ4, ⟨HLI.out, HFo.out⟩, HKK, HXY⟩
    case measure => simp [Go.RowKit.intOf]; omega
   ·gi_wp2
    refine bodyPost_ret (results_none rfl _ _ _) rfl ?_
    exact ⟨⟨_, rfl⟩, .inr hJx4⟩
  ·have hkm : k = m := by omega
   subst hkm
   have hfin : ListF lb n (stC n E L) ft X wr := ⟨fk, by rw [← List.take_of_length_le (l := L) (i := k) (by rw [Hl.out]; exact Nat.le_refl _)]; exact hS.out.1, hS.out.2⟩
   have HJF := Lib.hid hj.out
   have HFin := Lib.hid hfin
   clear hj hfin
   gi_wp2
   go_end0
   exact ⟨⟨_, rfl⟩, .inl ⟨X, HJF.out, HFin.out⟩⟩
/-
  The table of places: none, Look, Live, Take, Give, New.
-/
variable {w w' : World} {sb pb n : Nat} {P : List Pl} {first : Int}

theorem snone_is (h : SlotsIs w sb pb n P first) : Calls Tryz.prog 105 #[.pointer (some ⟨sb, 0, none⟩)] w fun e w' => e = .returned (.bool false) ∧ w = w' := by
 have c1 := h.c1
 clear h
 go_enter Tryz.func105, Tryz.ntmps105
 go_wp2
 go_ret
 exact ⟨rfl, rfl⟩
set_option maxHeartbeats 1000000 in
theorem SLook_is (h : SlotsIs w sb pb n P first) {p : Nat} {x : Pl} (hx : P[p]? = some x) (hn : n ≤ 1000000) :
  Calls Tryz.prog 166 #[.pointer (some ⟨sb, 0, none⟩), .int .i64 p] w fun e w' => e = .returned (.tuple #[.int .i64 x.life, .bool x.taken]) ∧ Fr0 none' w w' := by
 have hp : p < n := by rw [← h.len]; exact (List.getElem?_eq_some_iff.1 hx).1
 have c0 := h.c0
 obtain ⟨y0, y1, y2⟩ := h.place hx
 have d1 : decide ((p : Int) < 0) = false := decide_eq_false (by omega)
 have d2 : decide ((p : Int) ≥ (n : Int)) = false := decide_eq_false (by omega)
 have d3 : decide (n ≤ p) = false := decide_eq_false (by omega)
 have d4 : decide ((n : Int) ≤ (p : Int)) = false := decide_eq_false (by omega)
 have b1 : (0 : Int) ≤ (p : Int) := by omega
 have b2 : (p : Int) < (n : Int) := by omega
 have H := Lib.hid h
 clear h hx
 go_enter Tryz.func166, Tryz.ntmps166
 go_wp2_with (go_at_call 105; refine (snone_is H.out).mono ?_; rintro e w' ⟨rfl, rfl⟩)
 go_quiet (fail)
 go_wp2
 go_ret2
 exact ⟨rfl, ((Fr.refl none' _).drewN _).to0⟩
set_option maxHeartbeats 1000000 in
theorem SLive_is (h : SlotsIs w sb pb n P first) {p : Nat} {x : Pl} (hx : P[p]? = some x) (ht : x.taken = true) (hn : n ≤ 1000000) :
  Calls Tryz.prog 164 #[.pointer (some ⟨sb, 0, none⟩), .agg #[.int .i64 p, .int .i64 x.life]] w fun e w' => e = .returned (.bool true) ∧ Fr0 none' w w' := by
 have HL := Lib.hid (fun (W : World) (hf : Fr0 none' w W) => SLook_is (h.later hf) hx hn)
 rw [ht] at HL
 clear h hx ht
 go_enter Tryz.func164, Tryz.ntmps164
 go_wp2_with fail
 obtain ⟨q, hq⟩ : ∃ q, w.heap.size = q := ⟨_, rfl⟩
 obtain ⟨W1, hW1⟩ : ∃ W, w.alloc (.cells #[.int .i64 p, .int .i64 x.life] 161) = W := ⟨_, rfl⟩
 have hb : W1.heap[q]? = some (.cells #[.int .i64 p, .int .i64 x.life] 161 (0, 0)) := by rw [← hW1, ← hq]; exact World.alloc_heap_new w _
 have F1 := Lib.hid (show Fr0 none' w W1 by rw [← hW1]; exact (Fr0.refl _ _).alloc _)
 rw [hW1]
 try rw [hq]
 clear hW1 hq
 refine (HL.out _ F1.out).mono ?_
 rintro e w2 ⟨rfl, hf⟩
 have hb2 := (hf.block q (Array.getElem?_eq_some_iff.1 hb).1 id).trans hb
 have y0 := cells_in hb2 0
 have y1 := cells_in hb2 1
 simp at y0 y1
 have F2 := Lib.hid (F1.out.trans hf)
 clear hf hb hb2
 go_wp2_with fail
 go_ret
 exact ⟨rfl, F2.out⟩
set_option maxHeartbeats 1000000 in
theorem SGive_is (h : SlotsIs w sb pb n P first) {p : Nat} {x : Pl} (hx : P[p]? = some x) (ht : x.taken = true) (hl : x.life < 4294967296) (hn : n ≤ 1000000) :
  Calls Tryz.prog 161 #[.pointer (some ⟨sb, 0, none⟩), .agg #[.int .i64 p, .int .i64 x.life]] w fun e w' => e = .returned (.int .i64 0) ∧ SlotsIs w' sb pb n (P.set p ⟨x.life, false, first⟩) p ∧ Fr0 (lfoot sb pb) w w' := by
 have hp : p < n := by rw [← h.len]; exact (List.getElem?_eq_some_iff.1 hx).1
 have H := Lib.hid h
 have Hx := Lib.hid hx
 have HL := Lib.hid (fun (W : World) (hf : Fr0 none' w W) => SLive_is (h.later hf) hx ht hn)
 have HN := Lib.hid (fun (W : World) (hf : Fr0 none' w W) => snone_is (h.later hf))
 clear h hx
 go_enter Tryz.func161, Tryz.ntmps161
 go_wp2_with fail
 obtain ⟨q, hq⟩ : ∃ q, w.heap.size = q := ⟨_, rfl⟩
 obtain ⟨W1, hW1⟩ : ∃ W, w.alloc (.cells #[.int .i64 p, .int .i64 x.life] 161) = W := ⟨_, rfl⟩
 have hb := Lib.hid (show W1.heap[q]? = some (.cells #[.int .i64 p, .int .i64 x.life] 161 (0, 0)) by rw [← hW1, ← hq]; exact World.alloc_heap_new w _)
 have F1 := Lib.hid (show Fr0 none' w W1 by rw [← hW1]; exact (Fr0.refl _ _).alloc _)
 have Hq := Lib.hid hq
 rw [hW1]
 try rw [hq]
 clear hW1 hq
 refine (HN.out _ F1.out).mono ?_
 rintro e w1 ⟨rfl, rfl⟩
 have y0 := cells_in hb.out 0
 have y1 := cells_in hb.out 1
 simp at y0 y1
 go_wp2_with fail
 refine (HL.out _ F1.out).mono ?_
 rintro e w2 ⟨rfl, hf⟩
 have F2 := Lib.hid (F1.out.trans hf)
 have hb2 := Lib.hid ((hf.block q (Array.getElem?_eq_some_iff.1 hb.out).1 id).trans hb.out)
 clear hf y0 y1
 have H2 := Lib.hid (H.out.later F2.out)
 have y0 := cells_in hb2.out 0
 have y1 := cells_in hb2.out 1
 simp at y0 y1
 have c0 := H2.out.c0
 have c1 := H2.out.c1
 have c2 := H2.out.c2
 obtain ⟨z0, z1, z2⟩ := H2.out.place Hx.out
 have f0 := H2.out.thaw (p * 3)
 have f1 := H2.out.thaw (p * 3 + 1)
 have f2 := H2.out.thaw (p * 3 + 2)
 have g2 := H2.out.thawS 2
 have b1 : (0 : Int) ≤ (p : Int) := by omega
 have b2 : (p : Int) < (n : Int) := by omega
 have d1 : decide ((x.life : Int) < 4294967296) = true := decide_eq_true (by omega)
 have d1n : decide (x.life < 4294967296) = true := decide_eq_true hl
 go_wp2_with fail
 go_quiet (fail)
 go_wp2_with fail
 obtain ⟨W3, hW3⟩ : ∃ W, ((w2.drewN nq).setCell ⟨pb, p * 3 + 1, none⟩ (.bool false)) = W := ⟨_, rfl⟩
 rw [hW3]
 have hf3 : Fr0 (lfoot sb pb) w2 W3 := by rw [← hW3]; exact (((Fr.refl none' w2).drewN _).to0.mono (fun _ _ h => h.elim)).setCell (fun _ => .inr rfl) _
 have H3 := Lib.hid (show SlotsIs W3 sb pb n (P.set p ⟨x.life, false, x.next⟩) first by rw [← hW3]; exact (H2.out.later ((Fr.refl none' w2).drewN _).to0).put Hx.out (by omega) rfl)
 have F3 := Lib.hid hf3
 have hx3 : (P.set p ⟨x.life, false, x.next⟩)[p]? = some ⟨x.life, false, x.next⟩ := by rw [List.getElem?_set_self]; rw [H.out.len]; exact hp
 have Hx3 := Lib.hid hx3
 clear hW3 hf3 hx3 y0 y1 c0 c1 c2 z0 z1 z2 f0 f1 f2 g2
 have c0 := H3.out.c0
 have c1 := H3.out.c1
 have c2 := H3.out.c2
 obtain ⟨z0, z1, z2⟩ := H3.out.place Hx3.out
 have f2 := H3.out.thaw (p * 3 + 2)
 have g2 := H3.out.thawS 2
 go_quiet (fail)
 go_wp2_with fail
 have hq4 : q ≠ sb ∧ q ≠ pb := by
  have e1 := Hq.out
  have e2 := H.out.lt sb (.inl rfl)
  have e3 := H.out.lt pb (.inr rfl)
  omega
 have hqf : ¬ lfoot sb pb q := fun h => h.elim hq4.1 hq4.2
 obtain ⟨WD, hWD⟩ : ∃ W, (W3.drewN nq).drew = W := ⟨_, rfl⟩
 have f4 := Lib.hid (show Fr0 none' W3 WD by rw [← hWD]; exact (((Fr.refl none' W3).drewN _).to0).drew)
 have hb3 := Lib.hid ((f4.out.block q (Array.getElem?_eq_some_iff.1 ((F3.out.block q (Array.getElem?_eq_some_iff.1 hb2.out).1 hqf).trans hb2.out)).1 id).trans ((F3.out.block q (Array.getElem?_eq_some_iff.1 hb2.out).1 hqf).trans hb2.out))
 have H4 := Lib.hid (H3.out.later f4.out)
 have Hqf := Lib.hid hqf
 have Hqn := Lib.hid hq4
 clear hqf hq4 c0 c1 c2 z0 z1 z2 f2 g2
 refine wp_region_Z (z := 13) (S := fun W' => W'.cell? ⟨sb, 2, none⟩ = some (.int .i64 first) ∧ W'.cell? ⟨q, 0, none⟩ = some (.int .i64 p) ∧ W'.frozen? ⟨pb, p * 3 + 2, none⟩ = false ∧ W'.frozen? ⟨sb, 2, none⟩ = false) (by kernel_rfl) ?_
 rw [hWD]
 have hHeld : WD.cell? ⟨sb, 2, none⟩ = some (.int .i64 first) ∧ WD.cell? ⟨q, 0, none⟩ = some (.int .i64 p) ∧ WD.frozen? ⟨pb, p * 3 + 2, none⟩ = false ∧ WD.frozen? ⟨sb, 2, none⟩ = false := ⟨H4.out.c2, by rw [cells_in hb3.out]; rfl, H4.out.thaw _, H4.out.thawS _⟩
 clear hWD
 refine takeZ_on (i := 0) (v := .pointer (some ⟨pb, p * 3, none⟩)) rfl (by kernel_rfl) (by kernel_rfl) (by kernel_rfl) (by kernel_rfl) (fun _ _ _ h => h) (by kernel_rfl) (fun W' hSW => ?_) (by assumption) ?_
 ·(try dsimp only at hSW)
  first|go_simp;done|exact rfl|go_simp;rfl|go_simp;omega
 try simp only[pUt,pUn,sEt,sEz,sEs]
 refine takeZ_on (i := 1) (v := .pointer (some ⟨sb, 0, none⟩)) rfl (by kernel_rfl) (by kernel_rfl) (by kernel_rfl) (by kernel_rfl) (fun _ _ _ h => h) (by kernel_rfl) (fun W' hSW => ?_) (by assumption) ?_
 ·(try dsimp only at hSW)
  first|go_simp;done|exact rfl|go_simp;rfl|go_simp;omega
 try simp only[pUt,pUn,sEt,sEz,sEs]
 refine takeZ_on (i := 2) (v := .pointer (some ⟨sb, 0, none⟩)) rfl (by kernel_rfl) (by kernel_rfl) (by kernel_rfl) (by kernel_rfl) (fun _ _ _ h => h) (by kernel_rfl) (fun W' hSW => ?_) (by assumption) ?_
 ·(try dsimp only at hSW)
  first|go_simp;done|exact rfl|go_simp;rfl|go_simp;omega
 try simp only[pUt,pUn,sEt,sEz,sEs]
 refine takeZ_on (i := 3) (v := .pointer (some ⟨sb, 0, none⟩)) rfl (by kernel_rfl) (by kernel_rfl) (by kernel_rfl) (by kernel_rfl) (fun _ _ _ h => h) (by kernel_rfl) (fun W' hSW => ?_) (by assumption) ?_
 ·(try dsimp only at hSW)
  first|go_simp;done|exact rfl|go_simp;rfl|go_simp;omega
 try simp only[pUt,pUn,sEt,sEz,sEs]
 refine takeZ_on (i := 4) (v := .pointer (some ⟨sb, 2, none⟩)) rfl (by kernel_rfl) (by kernel_rfl) (by kernel_rfl) (by kernel_rfl) (fun _ _ _ h => h) (by kernel_rfl) (fun W' hSW => ?_) (by assumption) ?_
 ·(try dsimp only at hSW)
  first|go_simp;done|exact rfl|go_simp;rfl|go_simp;omega
 try simp only[pUt,pUn,sEt,sEz,sEs]
 refine takeZ_on (i := 5) (v := .int .i64 first) rfl (by kernel_rfl) (by kernel_rfl) (by kernel_rfl) (by kernel_rfl) (fun _ _ _ h => h) (by kernel_rfl) (fun W' hSW => ?_) (by assumption) ?_
 ·(try dsimp only at hSW)
  first|go_simp;done|exact rfl|go_simp;rfl|go_simp;omega
 try simp only[pUt,pUn,sEt,sEz,sEs]
 refine takeZ_on (i := 6) (v := .pointer (some ⟨q, 0, none⟩)) rfl (by kernel_rfl) (by kernel_rfl) (by kernel_rfl) (by kernel_rfl) (fun _ _ _ h => h) (by kernel_rfl) (fun W' hSW => ?_) (by assumption) ?_
 ·(try dsimp only at hSW)
  first|go_simp;done|exact rfl|go_simp;rfl|go_simp;omega
 try simp only[pUt,pUn,sEt,sEz,sEs]
 refine takeZ_on (i := 7) (v := .int .i64 p) rfl (by kernel_rfl) (by kernel_rfl) (by kernel_rfl) (by kernel_rfl) (fun _ _ _ h => h) (by kernel_rfl) (fun W' hSW => ?_) (by assumption) ?_
 ·(try dsimp only at hSW)
  first|go_simp;done|exact rfl|go_simp;rfl|go_simp;omega
 try simp only[pUt,pUn,sEt,sEz,sEs]
 refine takeZ_on (i := 8) (v := .pointer (some ⟨pb, p * 3, none⟩)) rfl (by kernel_rfl) (by kernel_rfl) (by kernel_rfl) (by kernel_rfl) (fun _ _ _ h => h) (by kernel_rfl) (fun W' hSW => ?_) (by assumption) ?_
 ·(try dsimp only at hSW)
  first|go_simp;done|exact rfl|go_simp;rfl|go_simp;omega
 try simp only[pUt,pUn,sEt,sEz,sEs]
 refine takeZ_on (i := 9) (v := .pointer (some ⟨pb, p * 3 + 2, none⟩)) rfl (by kernel_rfl) (by kernel_rfl) (by kernel_rfl) (by kernel_rfl) (fun _ _ _ h => h) (by kernel_rfl) (fun W' hSW => ?_) (by assumption) ?_
 ·(try dsimp only at hSW)
  first|go_simp;done|exact rfl|go_simp;rfl|go_simp;omega
 try simp only[pUt,pUn,sEt,sEz,sEs]
 refine takeZ_call (i := 10) rfl (by kernel_rfl) (by kernel_rfl) (fun K hK => ?_)
 have c2 := hHeld.2.2.1
 have c3 := (H4.out.place Hx3.out).2.2
 go_simp
 clear c2 c3
 obtain ⟨W5, hW5⟩ : ∃ W, (WD.setCell ⟨pb, p * 3 + 2, none⟩ (.int .i64 first)) = W := ⟨_, rfl⟩
 rw [hW5]
 have f5 := Lib.hid (show Fr0 (lfoot sb pb) WD W5 by rw [← hW5]; exact (Fr0.refl _ _).setCell (fun _ => .inr rfl) _)
 have H5 := Lib.hid (show SlotsIs W5 sb pb n ((P.set p ⟨x.life, false, x.next⟩).set p ⟨x.life, false, first⟩) first by rw [← hW5]; exact H4.out.put Hx3.out (by omega) rfl)
 have hHeld5 : W5.cell? ⟨sb, 2, none⟩ = some (.int .i64 first) ∧ W5.cell? ⟨q, 0, none⟩ = some (.int .i64 p) ∧ W5.frozen? ⟨pb, p * 3 + 2, none⟩ = false ∧ W5.frozen? ⟨sb, 2, none⟩ = false := ⟨H5.out.c2, by rw [cells_in ((f5.out.block q (Array.getElem?_eq_some_iff.1 hb3.out).1 Hqf.out).trans hb3.out)]; rfl, H5.out.thaw _, H5.out.thawS _⟩
 clear hW5
 refine hK.out _ _ (.inr hHeld5) ?_
 clear hK K hHeld
 try simp only[pUt,pUn,sEt,sEz,sEs]
 refine takeZ_call (i := 11) rfl (by kernel_rfl) (by kernel_rfl) (fun K hK => ?_)
 go_simp
 refine hK.out _ _ (.inr hHeld5) ?_
 clear hK K
 try simp only[pUt,pUn,sEt,sEz,sEs]
 refine takeZ_call (i := 12) rfl (by kernel_rfl) (by kernel_rfl) (fun K hK => ?_)
 go_simp
 refine hK.out _ _ (.inr hHeld5) ?_
 clear hK K
 try simp only[pUt,pUn,sEt,sEz,sEs]
 refine takeZ_call (i := 13) rfl (by kernel_rfl) (by kernel_rfl) (fun K hK => ?_)
 have c2 := hHeld5.2.2.2
 have c3 := hHeld5.1
 go_simp
 clear c2 c3
 refine hK.out _ _ (.inl rfl) ?_
 clear hK K hHeld5
 try simp only[pUt,pUn,sEt,sEz,sEs]
 refine wpAnyZ_done (by kernel_rfl) ?_ _
 go_wp2_with fail
 go_ret
 rw [List.set_set] at H5
 refine ⟨rfl, H5.out.putF _, ?_⟩
 exact ((((F2.out.mono (fun _ _ h => h.elim)).trans F3.out).trans (f4.out.mono (fun _ _ h => h.elim))).trans f5.out).setCell (fun _ => .inl rfl) _
end Go.Proofs.YtieeloealklkgaaGreat

/-
  The table of places: the iterator over the free ones, Next.
-/
namespace Go.Proofs.YtieeloealklkgaaGreat
open Go Go.RowKit
attribute [local go_sem ↓] Go.wp_at_zero Go.wp_at_succ
attribute [local go_sem] Oper.semAt_some wide_fn wide_depth wide_fnR wide_depthR
variable {w w' : World} {sb pb n : Nat} {P : List Pl} {first : Int}

theorem free_any (q : Nat) (w : World) : Calls Tryz.prog 117 #[.pointer (some ⟨q, 0, none⟩)] w fun e w' => e = .returned (.func (.func 131) #[] #[.pointer (some ⟨w.heap.size, 0, none⟩)]) ∧ w' = w.alloc (.cells #[.pointer (some ⟨q, 0, none⟩)] 38) := by
 go_enter Tryz.func117, Tryz.ntmps117
 go_wp2
 go_ret
 exact ⟨rfl, rfl⟩
theorem idx_of {F : List Nat} (hn : F.Nodup) {q p : Nat} (hp : F[q]? = some p) : F.idxOf p = q := by
 obtain ⟨h, rfl⟩ := List.getElem?_eq_some_iff.1 hp
 exact hn.idxOf_getElem q h
theorem chain_less {P : List Pl} {F : List Nat} (hn : F.Nodup) {q p : Nat} (hp : F[q]? = some p) {a : Int} (hch : Chain P a (F.drop (q + 1))) :
  (if a < 0 then 0 else F.length - F.idxOf a.toNat) < (if ((p : Nat) : Int) < 0 then 0 else F.length - F.idxOf ((p : Nat) : Int).toNat) := by
 have hq := (List.getElem?_eq_some_iff.1 hp).1
 rw [if_neg (by omega : ¬ ((p : Nat) : Int) < 0), Int.toNat_natCast, idx_of hn hp]
 by_cases hl : q + 1 < F.length
 ·rw [List.drop_eq_getElem_cons hl] at hch
  obtain ⟨rfl, _⟩ := hch
  rw [if_neg (by omega), Int.toNat_natCast, idx_of hn (List.getElem?_eq_getElem hl)]
  omega
 ·rw [List.drop_eq_nil_of_le (by omega)] at hch
  obtain rfl : a = -1 := hch
  rw [if_pos (by omega)]
  omega
set_option maxHeartbeats 2000000 in
/-- The iterator yields the free places. -/
theorem free_iter (h : SlotsIs w sb pb n P first) (cb : Nat) (hb : Box w cb (.pointer (some ⟨sb, 0, none⟩))) {F : List Nat} (hF : Chain P first F) (hnd : F.Nodup) :
  IterX0 Tryz.prog 131 #[.pointer (some ⟨cb, 0, none⟩)] (fun p : Nat => #[.int .i64 p]) F none' (fun k => k = cb ∨ k = sb ∨ k = pb) w := by
 intro l J Jx W hK hJ hJx hY h0
 have hbW : Box W cb (.pointer (some ⟨sb, 0, none⟩)) := hb.of_block (hK.2 cb (.inl rfl))
 have HW := Lib.hid (show SlotsIs W sb pb n P first from ⟨(hK.2 sb (.inr (.inl rfl))).trans h.hd, (hK.2 pb (.inr (.inr rfl))).trans h.pl, h.len, h.ne⟩)
 have HY := Lib.hid hY
 have HJ := Lib.hid hJ
 have HF := Lib.hid hF
 have HN := Lib.hid hnd
 have HB := Lib.hid hbW
 have hc := hbW.cell
 have c2 := HW.out.c2
 clear hY hJ hK hb h hF hbW hnd
 refine callsIn_of_wp Tryz.func131 rfl trivial ?_ rfl
 simp only [Tryz.ntmps131, List.size_toArray, List.length_cons, List.length_nil, Nat.reduceAdd, Nat.reduceSub, Array.replicate_succ, Array.replicate_zero, List.push_toArray, List.append_toArray, List.nil_append, List.cons_append]
 gi_wp2_with fail
 clear hc c2
 gi_loopw [3] (fun v wr => ∃ (q : Nat) (a : Int), v = .int .i64 a ∧ q ≤ F.length ∧ Chain P a (F.drop q) ∧ J q none' wr ∧ Hid (Keep (fun k => k = cb ∨ k = sb ∨ k = pb) W wr)) (fun v _ => if Go.RowKit.intOf v < 0 then 0 else F.length - F.idxOf (Go.RowKit.intOf v).toNat)
 case atStart => exact ⟨0, first, rfl, Nat.zero_le _, by simpa using HF.out, h0, Keep.refl _ _⟩
 case round =>
  obtain ⟨q, a, rfl, hq, hch, hj, hk⟩ := hrel
  by_cases hlt : q < F.length
  ·obtain ⟨p, hp⟩ : ∃ p, F[q]? = some p := ⟨_, List.getElem?_eq_getElem hlt⟩
   have hdr : F.drop q = p :: F.drop (q + 1) := by
    rw [List.drop_eq_getElem_cons hlt]
    congr 1
    rw [List.getElem?_eq_getElem hlt] at hp
    exact Option.some.inj hp
   rw [hdr] at hch
   obtain ⟨rfl, x, hx, hxt, hch⟩ := hch
   have d1 : (((p : Nat) : Int) != -1) = true := by simp
   have Hp := Lib.hid hp
   have Hx := Lib.hid hx
   have Hch := Lib.hid hch
   have Hlt := Lib.hid hlt
   obtain ⟨fn, tmps, assign, body, hy, hR⟩ := HY.out q p none' wr hp hj
   clear hp hx hch hdr hlt hq hxt
   gi_wp2_with fail
   refine hR.mono ?_
   rintro e W3 (⟨rfl, hJ3, hk3⟩ | ⟨rfl, hJx3⟩)
   ·have hkk : Keep (fun k => k = cb ∨ k = sb ∨ k = pb) W W3 := hk.out.trans ⟨hk3.1, fun k hkk => hk3.2 k (.inl hkk)⟩
    have H3 : SlotsIs W3 sb pb n P first := ⟨(hkk.2 sb (.inr (.inl rfl))).trans HW.out.hd, (hkk.2 pb (.inr (.inr rfl))).trans HW.out.pl, HW.out.len, HW.out.ne⟩
    have e2 := (HB.out.of_block (hkk.2 cb (.inl rfl))).cell
    have c0 := H3.c0
    have z2 := (H3.place Hx.out).2.2
    have hp : p < n := by rw [← HW.out.len]; exact (List.getElem?_eq_some_iff.1 Hx.out).1
    have b1 : (0 : Int) ≤ (p : Int) := by omega
    have b2 : (p : Int) < (n : Int) := by omega
    have HK := Lib.hid hkk
    clear hkk H3 hk3 hp
    gi_wp2_with fail
    refine ⟨⟨q + 1, x.next, rfl, Hlt.out, Hch.out, hJ3, HK⟩, ?_⟩
    exact chain_less HN.out Hp.out Hch.out
   ·gi_wp2
    go_end0
    exact ⟨⟨_, rfl⟩, .inr hJx3⟩
  ·have hqe : q = F.length := by omega
   rw [hqe, List.drop_length] at hch
   obtain rfl : a = -1 := hch
   rw [hqe] at hj
   have d1 : ((-1 : Int) != -1) = false := by decide
   clear hqe hlt hq
   gi_wp2_with fail
   go_end0
   exact ⟨⟨_, rfl⟩, .inl ⟨_, hj⟩⟩
/-- What Next returns. -/
def nextV (P : List Pl) : List Nat → Value
 | [] => .tuple #[.agg #[.int .i64 0, .int .i64 0], .bool false]
 | p :: _ => .tuple #[.agg #[.int .i64 p, .int .i64 (((P[p]?.getD ⟨0, false, 0⟩).life + 1 : Nat) : Int)], .bool true]
/-- The world at Next's start. -/
def nstart (w : World) (sb : Nat) : World := ((w.alloc (.cells #[.pointer (some ⟨sb, 0, none⟩)] 38)).alloc (.cells #[.int .i64 0, .int .i64 0] 161)).alloc (.cells #[.bool false] 4)
theorem nstart_facts (w : World) (sb : Nat) : Box (nstart w sb) w.heap.size (.pointer (some ⟨sb, 0, none⟩)) ∧ (nstart w sb).heap[w.heap.size + 1]? = some (.cells #[.int .i64 0, .int .i64 0] 161 (0, 0)) ∧ Box (nstart w sb) (w.heap.size + 1 + 1) (.bool false) ∧ (nstart w sb).heap.size = w.heap.size + 3 ∧ Fr0 none' w (nstart w sb) := by
 unfold nstart
 refine ⟨((Box.new _ _ _).alloc _).alloc _, ?_, ?_, by simp, (((Fr0.refl _ _).alloc _).alloc _).alloc _⟩
 ·rw [Below.heap_alloc _ _ _ (by simp)]
  have := World.alloc_heap_new (w.alloc (.cells #[.pointer (some ⟨sb, 0, none⟩)] 38)) (.cells #[.int .i64 0, .int .i64 0] 161)
  rwa [World.size_alloc] at this
 ·have := Box.new ((w.alloc (.cells #[.pointer (some ⟨sb, 0, none⟩)] 38)).alloc (.cells #[.int .i64 0, .int .i64 0] 161)) (.bool false) 4
  rwa [World.size_alloc, World.size_alloc] at this
set_option maxHeartbeats 1000000 in
theorem SNext_in (h : SlotsIs w sb pb n P first) {F : List Nat} (hF : Chain P first F) (hnd : F.Nodup) (hl : ∀ (p : Nat) (x : Pl), P[p]? = some x → x.life ≤ 4294967296) :
  CallsIn Fence.wide 0 Tryz.prog 106 #[.pointer (some ⟨sb, 0, none⟩)] w fun e w' => e = .returned (nextV P F) ∧ Fr0 none' w w' := by
 have HN := Lib.hid (fun (W : World) (hf : Fr0 none' w W) => snone_is (h.later hf))
 have H := Lib.hid h
 have HF := Lib.hid hF
 have Hnd := Lib.hid hnd
 have HL := Lib.hid hl
 clear h hF hnd hl
 obtain ⟨R, hR⟩ : ∃ R, nextV P F = R := ⟨_, rfl⟩
 rw [hR]
 have HRV := Lib.hid hR
 clear hR
 refine callsIn_of_wp_marks Tryz.func106 rfl trivial ?_ rfl
 simp only [Tryz.ntmps106, List.size_toArray, List.length_cons, List.length_nil, Nat.reduceAdd, Nat.reduceSub, Array.replicate_succ, Array.replicate_zero, List.push_toArray, List.append_toArray, List.nil_append, List.cons_append]
 gi_wp2_with fail
 obtain ⟨W0, hW0⟩ : ∃ W0, nstart w sb = W0 := ⟨_, rfl⟩
 have hs := nstart_facts w sb
 unfold nstart at hW0
 rw [show nstart w sb = W0 from hW0] at hs
 rw [hW0]
 have Hs := Lib.hid hs
 clear hW0 hs
 obtain ⟨B, hB⟩ : ∃ B, w.heap.size = B := ⟨_, rfl⟩
 rw [hB] at Hs ⊢
 have HB := Lib.hid hB
 clear hB
 refine (callsIn_wide.2 (HN.out _ Hs.out.2.2.2.2)).mono ?_
 rintro e w1 ⟨rfl, rfl⟩
 have b0 := Hs.out.1.cell
 gi_wp2_with fail
 refine (callsIn_wide.2 (free_any _ _)).mono ?_
 rintro e w2 ⟨rfl, rfl⟩
 gi_wp2_with fail
 obtain ⟨W3, hW3⟩ : ∃ W3, W0.alloc (.cells #[.pointer (some ⟨sb, 0, none⟩)] 38) = W3 := ⟨_, rfl⟩
 have hz0 := Hs.out.2.2.2.1
 have F3 := Lib.hid (show Fr0 none' W0 W3 by rw [← hW3]; exact (Fr0.refl _ _).alloc _)
 have Hsz3 := Lib.hid (show W3.heap.size = B + 4 by rw [← hW3, World.size_alloc, hz0])
 have hbx : Box W3 (B + 3) (.pointer (some ⟨sb, 0, none⟩)) := by rw [← hW3, ← hz0]; exact Box.new _ _ _
 have H3 := Lib.hid (H.out.later (Hs.out.2.2.2.2.trans F3.out))
 have it := free_iter H3.out (B + 3) hbx HF.out Hnd.out
 have hlt := H.out.lt
 rw [HB.out] at hlt
 have HLT := Lib.hid hlt
 have e3 := Lib.hid (Hs.out.1.fr0 F3.out id)
 have c3 := Lib.hid ((F3.out.block (B + 1) (by omega) id).trans Hs.out.2.1)
 have d3 := Lib.hid (Hs.out.2.2.1.fr0 F3.out id)
 have F03 := Lib.hid (Hs.out.2.2.2.2.trans F3.out)
 rw [hW3]
 rw [hz0]
 clear hW3 b0 hz0 hbx hlt Hs
 refine wpIn_iterX0 (gf := 131) (lb := #[.pointer (some ⟨B + 3, 0, none⟩)]) rfl (by intro args w; rfl) it (Keep.refl _ _) (fun _ => rfl) (fun k hk => hk.elim) (fun k hk => by
   have h1 := HLT.out
   have h2 := Hsz3.out
   rcases hk with rfl | rfl | rfl
   ·omega
   ·have := h1 _ (.inl rfl); omega
   ·have := h1 _ (.inr rfl); omega)
  (fun i X W => i = 0 ∧ Fr0 none' W3 W)
  (fun c W => c = .ret ∧ ∃ (p : Nat) (x : Pl), F[0]? = some p ∧ P[p]? = some x ∧ W.heap[B + 1]? = some (.cells #[.int .i64 p, .int .i64 (x.life + 1 : Nat)] 161 (0, 0)) ∧ Box W (B + 1 + 1) (.bool true) ∧ Fr0 (fun k => k = B + 1 ∨ k = B + 1 + 1) W3 W) ?hI ?hIx ?h0
  (fun (x : Nat) _ a' => a' = { tmps := #[.pointer (some ⟨sb, 0, none⟩), .pointer (some ⟨B, 0, none⟩), .pointer (some ⟨B + 1, 0, none⟩), .pointer (some ⟨B + 1 + 1, 0, none⟩), .int .i64 x, .pointer (some ⟨sb, 0, none⟩), .bool false, undef, .pointer (some ⟨sb, 0, none⟩), .func (.func 131) #[] #[.pointer (some ⟨B + 3, 0, none⟩)], .int .i64 x, undef, undef, undef, undef, undef, undef, undef, undef, undef, undef, undef, undef], defers := [] })
  ?assign ?keep ?body ?done ?stop
 case hI =>
  rintro i X Y W4 W5 ⟨h1, h2⟩ hX hf hY
  refine ⟨h1, h2.trans' hf (fun k hk h => ?_)⟩
  have hz := Hsz3.out
  rcases h with h | h | h | h
  ·exact h
  ·have := hX k h; omega
  ·omega
  ·omega
 case hIx =>
  rintro c W4 W5 ⟨h0, p, x, h1, h2, h3, h4, h5⟩ hf
  have hz := Hsz3.out
  have hlt : ∀ k, k < B + 4 → ¬ (none' k ∨ k = W3.heap.size ∨ k = W3.heap.size + 1) := fun k hk h => by
   rcases h with h | h | h
   ·exact h
   ·omega
   ·omega
  exact ⟨h0, p, x, h1, h2, (hf.block _ (Array.getElem?_eq_some_iff.1 h3).1 (hlt _ (by omega))).trans h3, h4.fr0 hf (hlt _ (by omega)), h5.trans' hf (fun k hk h => absurd h (hlt k (by omega)))⟩
 case h0 => exact ⟨rfl, Fr0.refl _ _⟩
 case keep =>
  rintro x W4 W5 a' rfl hf
  rfl
 case assign =>
  intro l x W K hlt hK
  gi_wp2
  exact hK _ _ rfl (Fr0.refl _ _)
 case body =>
  rintro l i p X W a' r hxi ⟨rfl, hfr⟩ hXb rfl hD hL
  have hch := HF.out
  obtain ⟨t, rfl⟩ : ∃ t, F = p :: t := by
   cases F with
   | nil => simp at hxi
   | cons q t => simp at hxi; subst hxi; exact ⟨t, rfl⟩
  obtain ⟨rfl, x, hx, hxt, _⟩ := hch
  have hl := HL.out p x hx
  have K4 := H3.out.later hfr
  have e4 := (e3.out.fr0 hfr id).cell
  have y4 := (hfr.block (B + 1) (by rw [Hsz3.out]; omega) id).trans c3.out
  have z4 := d3.out.fr0 hfr id
  have t4 := z4.frozen
  have z4c := z4.cell
  have y0 := cells_in y4 0
  have y1 := cells_in y4 1
  have g0 := thaw_in y4 0
  have g1 := thaw_in y4 1
  simp at y0 y1
  have c0 := K4.c0
  obtain ⟨q0, _, _⟩ := K4.place hx
  have hp : p < n := by rw [← H3.out.len]; exact (List.getElem?_eq_some_iff.1 hx).1
  have b1 : (0 : Int) ≤ (p : Int) := by omega
  have b2 : (p : Int) < (n : Int) := by omega
  have b3 : IntKind.i64.wrap ((x.life : Int) + 1) = (x.life : Int) + 1 := IntWalk.i64_in _ (by omega)
  have Y4 := Lib.hid y4
  have Z4 := Lib.hid z4
  have FR := Lib.hid hfr
  have Hx := Lib.hid hx
  have HX := Lib.hid hXb
  clear y4 z4 hfr K4 hx hXb hxi hp hl hxt hL hD it
  gi_wp2_with fail
  have hz3 := Hsz3.out
  have hlt := HLT.out
  have F1 : ∀ {A : World} {S : Nat → Prop}, Fr0 S A W → S (B + 1) → S (B + 1 + 1) → Fr0 S A (((W.setCell ⟨B + 1, 0, none⟩ (.int .i64 p)).setCell ⟨B + 1, 1, none⟩ (.int .i64 ((x.life : Int) + 1))).setCell ⟨B + 1 + 1, 0, none⟩ (.bool true)) := fun h h1 h2 => ((h.setCell (fun _ => h1) _).setCell (fun _ => h1) _).setCell (fun _ => h2) _
  refine ⟨fun k => k = B + 1 ∨ k = B + 1 + 1, F1 (Fr0.refl _ W) (.inl rfl) (.inr rfl), ?_, rfl, p, x, rfl, Hx.out, ?_, ?_, F1 (FR.out.mono (fun k _ h => h.elim)) (.inl rfl) (.inr rfl)⟩
  ·intro k hk h
   rcases h with (h | h | h) | h | h | h
   ·omega
   ·have := hlt _ (.inl h); omega
   ·have := hlt _ (.inr h); omega
   ·have := HX.out _ h; omega
   ·omega
   ·omega
  ·rw [Below.heap_setCell _ _ _ _ (by simp)]
   exact heap_set_cell (heap_set_cell Y4.out _) _
  ·exact Box.set (v := .bool false) ((Z4.out.setOther (a := ⟨B + 1, 0, none⟩) (by simp <;> omega) (.int .i64 p)).setOther (a := ⟨B + 1, 1, none⟩) (by simp <;> omega) (.int .i64 ((x.life : Int) + 1))) (.bool true)
 case done =>
  rintro D X W hDe ⟨hi, hfr⟩ hK
  obtain rfl : F = [] := List.length_eq_zero_iff.1 hi
  obtain rfl : .tuple #[.agg #[.int .i64 0, .int .i64 0], .bool false] = R := by rw [← HRV.out]; rfl
  have y4 := (hfr.block (B + 1) (by rw [Hsz3.out]; omega) id).trans c3.out
  have z4 := d3.out.fr0 hfr id
  have t4 := z4.frozen
  have z4c := z4.cell
  have y0 := cells_in y4 0
  have y1 := cells_in y4 1
  have g0 := thaw_in y4 0
  have g1 := thaw_in y4 1
  simp at y0 y1
  have Y4 := Lib.hid y4
  have Z4 := Lib.hid z4
  have FR := Lib.hid hfr
  rw [Hsz3.out] at hDe
  subst hDe
  have HK := Lib.hid hK
  clear y4 z4 hfr hK it hi
  gi_wp2_with fail
  have z1 : (((W.setCell ⟨B + 1, 0, none⟩ (.int .i64 0)).setCell ⟨B + 1, 1, none⟩ (.int .i64 0)).setCell ⟨B + 1 + 1, 0, none⟩ (.bool false)).heap[B + 1]? = some (.cells #[.int .i64 0, .int .i64 0] 161 (0, 0)) := by
   rw [Below.heap_setCell _ _ _ _ (by simp)]
   exact heap_set_cell (heap_set_cell Y4.out _) _
  have z2 : Box (((W.setCell ⟨B + 1, 0, none⟩ (.int .i64 0)).setCell ⟨B + 1, 1, none⟩ (.int .i64 0)).setCell ⟨B + 1 + 1, 0, none⟩ (.bool false)) (B + 1 + 1) (.bool false) := Box.set (v := .bool false) ((Z4.out.setOther (a := ⟨B + 1, 0, none⟩) (by simp <;> omega) (.int .i64 0)).setOther (a := ⟨B + 1, 1, none⟩) (by simp <;> omega) (.int .i64 0)) (.bool false)
  have z3 : Fr0 none' w (((W.setCell ⟨B + 1, 0, none⟩ (.int .i64 0)).setCell ⟨B + 1, 1, none⟩ (.int .i64 0)).setCell ⟨B + 1 + 1, 0, none⟩ (.bool false)) := by
   have e := HB.out
   exact (((F03.out.trans FR.out).setCell (fun h => by omega) _).setCell (fun h => by omega) _).setCell (fun h => by omega) _
  have z5 : (((W.setCell ⟨B + 1, 0, none⟩ (.int .i64 0)).setCell ⟨B + 1, 1, none⟩ (.int .i64 0)).setCell ⟨B + 1 + 1, 0, none⟩ (.bool false)).heap[B + 4]? = some (.deferred (some [])) := by
   rw [Below.heap_setCell _ _ _ _ (by simp), Below.heap_setCell _ _ _ _ (by simp), Below.heap_setCell _ _ _ _ (by simp)]
   exact HK.out
  generalize (((W.setCell ⟨B + 1, 0, none⟩ (.int .i64 0)).setCell ⟨B + 1, 1, none⟩ (.int .i64 0)).setCell ⟨B + 1 + 1, 0, none⟩ (.bool false)) = V at z1 z2 z3 z5 ⊢
  have k1 : (V.putObj (B + 4) (.deferred none)).heap[B + 1]? = _ := (World.putObj_heap_other (by omega)).trans z1
  have k2 : Box (V.putObj (B + 4) (.deferred none)) (B + 1 + 1) (.bool false) := z2.of_block (World.putObj_heap_other (by omega))
  have d0 := cells_in k1 0
  have d1 := cells_in k1 1
  have d2 := k2.cell
  simp at d0 d1
  refine ⟨by simp, .inl ⟨_, _, rfl, run_takeDeferred z5, ?_⟩⟩
  refine ⟨.tuple #[.agg #[.int .i64 0, .int .i64 0], .bool false], by simp [results, Tryz.results106, go_sem, d0, d1, d2], rfl, ?_⟩
  have e := HB.out
  exact z3.putObj (fun h => by omega) _
 case stop =>
  rintro D c W hDe ⟨rfl, p, x, h1, h2, h3, h4, h5⟩ hK
  obtain ⟨t, rfl⟩ : ∃ t, F = p :: t := by
   cases F with
   | nil => simp at h1
   | cons q t => simp at h1; subst h1; exact ⟨t, rfl⟩
  obtain rfl : .tuple #[.agg #[.int .i64 p, .int .i64 (x.life + 1 : Nat)], .bool true] = R := by rw [← HRV.out]; simp [nextV, h2]
  rw [Hsz3.out] at hDe
  subst hDe
  have k1 : (W.putObj (B + 4) (.deferred none)).heap[B + 1]? = _ := (World.putObj_heap_other (by omega)).trans h3
  have k2 : Box (W.putObj (B + 4) (.deferred none)) (B + 1 + 1) (.bool true) := h4.of_block (World.putObj_heap_other (by omega))
  have d0 := cells_in k1 0
  have d1 := cells_in k1 1
  have d2 := k2.cell
  simp at d0 d1
  have hK' := hK
  clear hK k1 k2 it
  gi_wp2
  refine ⟨by simp, .inl ⟨_, _, rfl, run_takeDeferred hK', ?_⟩⟩
  refine ⟨.tuple #[.agg #[.int .i64 p, .int .i64 (x.life + 1 : Nat)], .bool true], by simp [results, Tryz.results106, go_sem, d0, d1, d2], rfl, ?_⟩
  have e := HB.out
  exact (F03.out.trans' h5 (fun k hk h => by omega)).putObj (fun h => by omega) _
end Go.Proofs.YtieeloealklkgaaGreat

/-
  The table of places: Take.
-/
namespace Go.Proofs.YtieeloealklkgaaGreat
open Go Go.RowKit
attribute [local go_sem ↓] Go.wp_at_zero Go.wp_at_succ
attribute [local go_sem] Oper.semAt_some wide_fn wide_depth wide_fnR wide_depthR
variable {w w' : World} {sb pb n : Nat} {P : List Pl} {first : Int}

set_option maxHeartbeats 1000000 in
theorem STake_is (h : SlotsIs w sb pb n P first) {p : Nat} {F : List Nat} {x : Pl} (hF : Chain P first (p :: F)) (hnd : (p :: F).Nodup) (hx : P[p]? = some x) (hl : ∀ (p : Nat) (x : Pl), P[p]? = some x → x.life ≤ 4294967296) :
  Calls Tryz.prog 84 #[.pointer (some ⟨sb, 0, none⟩)] w fun e w' => e = .returned (.tuple #[.agg #[.int .i64 p, .int .i64 (x.life + 1 : Nat)], .int .i64 0]) ∧ SlotsIs w' sb pb n (P.set p ⟨x.life + 1, true, -1⟩) x.next ∧ Fr0 (lfoot sb pb) w w' := by
 have HX := Lib.hid (fun (W : World) (hf : Fr0 none' w W) => callsIn_wide.1 (SNext_in (h.later hf) hF hnd hl))
 have HN := Lib.hid (fun (W : World) (hf : Fr0 none' w W) => snone_is (h.later hf))
 have H := Lib.hid h
 have Hx := Lib.hid hx
 have hlx := hl p x hx
 have hp : p < n := by rw [← h.len]; exact (List.getElem?_eq_some_iff.1 hx).1
 have hnv : nextV P (p :: F) = .tuple #[.agg #[.int .i64 p, .int .i64 (x.life + 1 : Nat)], .bool true] := by simp [nextV, hx]
 rw [hnv] at HX
 clear h hF hl hnd hx hnv
 go_enter Tryz.func84, Tryz.ntmps84
 go_wp2_with fail
 obtain ⟨q, hq⟩ : ∃ q, w.heap.size = q := ⟨_, rfl⟩
 obtain ⟨W1, hW1⟩ : ∃ W, w.alloc (.cells #[.int .i64 0, .int .i64 0] 161) = W := ⟨_, rfl⟩
 have hb := Lib.hid (show W1.heap[q]? = some (.cells #[.int .i64 0, .int .i64 0] 161 (0, 0)) by rw [← hW1, ← hq]; exact World.alloc_heap_new w _)
 have F1 := Lib.hid (show Fr0 none' w W1 by rw [← hW1]; exact (Fr0.refl _ _).alloc _)
 have Hq := Lib.hid hq
 rw [hW1]
 try rw [hq]
 clear hW1 hq
 refine (HN.out _ F1.out).mono ?_
 rintro e w1 ⟨rfl, rfl⟩
 go_wp2_with fail
 refine (HX.out _ F1.out).mono ?_
 rintro e w2 ⟨rfl, hf⟩
 have hb2 := Lib.hid ((hf.block q (Array.getElem?_eq_some_iff.1 hb.out).1 id).trans hb.out)
 have F2 := Lib.hid (F1.out.trans hf)
 clear hf
 obtain ⟨q2, hq2⟩ : ∃ q, w2.heap.size = q := ⟨_, rfl⟩
 obtain ⟨W2, hW2⟩ : ∃ W, w2.alloc (.cells #[.int .i64 p, .int .i64 ((x.life : Int) + 1)] 161) = W := ⟨_, rfl⟩
 have hc := Lib.hid (show W2.heap[q2]? = some (.cells #[.int .i64 p, .int .i64 ((x.life : Int) + 1)] 161 (0, 0)) by rw [← hW2, ← hq2]; exact World.alloc_heap_new w2 _)
 have f2 : Fr0 none' w2 W2 := by rw [← hW2]; exact (Fr0.refl _ _).alloc _
 have hd := Lib.hid ((f2.block q (Array.getElem?_eq_some_iff.1 hb2.out).1 id).trans hb2.out)
 have F3 := Lib.hid (F2.out.trans f2)
 have Hq2 := Lib.hid (show q < q2 by rw [← hq2]; exact (Array.getElem?_eq_some_iff.1 hb2.out).1)
 clear f2
 have y0 := cells_in hd.out 0
 have y1 := cells_in hd.out 1
 have t0 := thaw_in hd.out 0
 have t1 := thaw_in hd.out 1
 have x0 := cells_in hc.out 0
 have x1 := cells_in hc.out 1
 have s0 := thaw_in hc.out 0
 have s1 := thaw_in hc.out 1
 have hqn : q ≠ q2 := by have := Hq2.out; omega
 have hqn2 : q2 ≠ q := by have := Hq2.out; omega
 have Hqn := Lib.hid hqn
 simp at y0 y1 x0 x1
 go_wp2_with fail
 clear hW2 hq2
 have H2 := Lib.hid (H.out.later F3.out)
 have c0 := H2.out.c0
 have c2 := H2.out.c2
 obtain ⟨z0, z1, z2⟩ := H2.out.place Hx.out
 have f0 := H2.out.thaw (p * 3)
 have f1 := H2.out.thaw (p * 3 + 1)
 have f2 := H2.out.thaw (p * 3 + 2)
 have g2 := H2.out.thawS 2
 have b1 : (0 : Int) ≤ (p : Int) := by omega
 have b2 : (p : Int) < (n : Int) := by omega
 clear t0 t1 s0 s1 y0 y1
 have hq4 : q ≠ sb ∧ q ≠ pb ∧ q2 ≠ sb ∧ q2 ≠ pb := by
  have e1 := Hq.out
  have e2 := H.out.lt sb (.inl rfl)
  have e3 := H.out.lt pb (.inr rfl)
  have e4 := Hq2.out
  omega
 have Hq4 := Lib.hid hq4
 clear hq4 hqn hqn2
 go_quiet (fail)
 obtain ⟨W3, hW3⟩ : ∃ W, W2.drewN nq = W := ⟨_, rfl⟩
 rw [hW3]
 have hf3 : Fr0 none' W2 W3 := by rw [← hW3]; exact ((Fr.refl none' W2).drewN _).to0
 have H3 := Lib.hid (H2.out.later hf3)
 have hc3 := Lib.hid ((hf3.block q2 (Array.getElem?_eq_some_iff.1 hc.out).1 id).trans hc.out)
 have hd3 := Lib.hid ((hf3.block q (Array.getElem?_eq_some_iff.1 hd.out).1 id).trans hd.out)
 have F4 := Lib.hid (F3.out.trans hf3)
 clear hW3 hf3 x0 x1 c0 c2 z0 z1 z2 f0 f1 f2 g2 hb hb2 HX HN
 have c2 := H3.out.c2
 obtain ⟨z0, z1, z2⟩ := H3.out.place Hx.out
 have f0 := H3.out.thaw (p * 3)
 have f1 := H3.out.thaw (p * 3 + 1)
 have f2 := H3.out.thaw (p * 3 + 2)
 have g2 := H3.out.thawS 2
 have x0 := cells_in hc3.out 0
 have x1 := cells_in hc3.out 1
 have y0 := cells_in hd3.out 0
 have y1 := cells_in hd3.out 1
 have t0 := thaw_in hd3.out 0
 have t1 := thaw_in hd3.out 1
 simp at x0 x1 y0 y1
 obtain ⟨n1, n2, n3, n4⟩ := Hq4.out
 have n5 := H.out.ne
 have n6 := Hqn.out
 have n1' := n1.symm
 have n2' := n2.symm
 have n3' := n3.symm
 have n4' := n4.symm
 have n5' := n5.symm
 have n6' := n6.symm
 go_wp2_with fail
 have hlp : p < P.length := by rw [H.out.len]; exact hp
 have i1 : SlotsIs (W3.setCell ⟨sb, 2, none⟩ (.int .i64 x.next)) sb pb n P x.next := H3.out.putF x.next
 have i2 : SlotsIs ((W3.setCell ⟨sb, 2, none⟩ (.int .i64 x.next)).setCell ⟨pb, p * 3 + 0, none⟩ (.int .i64 ((x.life : Int) + 1))) sb pb n (P.set p ⟨x.life + 1, x.taken, x.next⟩) x.next := SlotsIs.put i1 Hx.out (by omega) rfl
 have i3 : SlotsIs (((W3.setCell ⟨sb, 2, none⟩ (.int .i64 x.next)).setCell ⟨pb, p * 3 + 0, none⟩ (.int .i64 ((x.life : Int) + 1))).setCell ⟨pb, p * 3 + 1, none⟩ (.bool true)) sb pb n ((P.set p ⟨x.life + 1, x.taken, x.next⟩).set p ⟨x.life + 1, true, x.next⟩) x.next := SlotsIs.put i2 (List.getElem?_set_self hlp) (by omega) rfl
 have g0 : SlotsIs ((((W3.setCell ⟨sb, 2, none⟩ (.int .i64 x.next)).setCell ⟨pb, p * 3 + 0, none⟩ (.int .i64 ((x.life : Int) + 1))).setCell ⟨pb, p * 3 + 1, none⟩ (.bool true)).setCell ⟨pb, p * 3 + 2, none⟩ (.int .i64 (-1))) sb pb n (((P.set p ⟨x.life + 1, x.taken, x.next⟩).set p ⟨x.life + 1, true, x.next⟩).set p ⟨x.life + 1, true, -1⟩) x.next := SlotsIs.put i3 (List.getElem?_set_self (by rw [List.length_set]; exact hlp)) (by omega) rfl
 rw [Nat.add_zero] at g0
 rw [List.set_set, List.set_set] at g0
 have nl : ¬ lfoot sb pb q := fun h => h.elim n1 n2
 have k0 : Fr0 (fun k => k = q) ((((W3.setCell ⟨sb, 2, none⟩ (.int .i64 x.next)).setCell ⟨pb, p * 3, none⟩ (.int .i64 ((x.life : Int) + 1))).setCell ⟨pb, p * 3 + 1, none⟩ (.bool true)).setCell ⟨pb, p * 3 + 2, none⟩ (.int .i64 (-1))) ((((((W3.setCell ⟨sb, 2, none⟩ (.int .i64 x.next)).setCell ⟨pb, p * 3, none⟩ (.int .i64 ((x.life : Int) + 1))).setCell ⟨pb, p * 3 + 1, none⟩ (.bool true)).setCell ⟨pb, p * 3 + 2, none⟩ (.int .i64 (-1))).setCell ⟨q, 0, none⟩ (.int .i64 p)).setCell ⟨q, 1, none⟩ (.int .i64 ((x.life : Int) + 1))) := ((Fr0.refl (fun k => k = q) _).setCell (fun _ => rfl) _).setCell (fun _ => rfl) _
 have g1 := g0.fr0 k0 (fun k hk e => nl (e ▸ hk))
 have f4 : Fr0 (lfoot sb pb) W3 ((((W3.setCell ⟨sb, 2, none⟩ (.int .i64 x.next)).setCell ⟨pb, p * 3, none⟩ (.int .i64 ((x.life : Int) + 1))).setCell ⟨pb, p * 3 + 1, none⟩ (.bool true)).setCell ⟨pb, p * 3 + 2, none⟩ (.int .i64 (-1))) := ((((Fr0.refl (lfoot sb pb) _).setCell (fun _ => .inl rfl) _).setCell (fun _ => .inr rfl) _).setCell (fun _ => .inr rfl) _).setCell (fun _ => .inr rfl) _
 have e4 := (f4.block q (Array.getElem?_eq_some_iff.1 hd3.out).1 nl).trans hd3.out
 have e6 : ((((((W3.setCell ⟨sb, 2, none⟩ (.int .i64 x.next)).setCell ⟨pb, p * 3, none⟩ (.int .i64 ((x.life : Int) + 1))).setCell ⟨pb, p * 3 + 1, none⟩ (.bool true)).setCell ⟨pb, p * 3 + 2, none⟩ (.int .i64 (-1))).setCell ⟨q, 0, none⟩ (.int .i64 p)).setCell ⟨q, 1, none⟩ (.int .i64 ((x.life : Int) + 1))).heap[q]? = some (.cells #[.int .i64 p, .int .i64 ((x.life : Int) + 1)] 161 (0, 0)) := heap_set_cell (heap_set_cell e4 _) _
 have f6 : Fr0 (lfoot sb pb) w ((((((W3.setCell ⟨sb, 2, none⟩ (.int .i64 x.next)).setCell ⟨pb, p * 3, none⟩ (.int .i64 ((x.life : Int) + 1))).setCell ⟨pb, p * 3 + 1, none⟩ (.bool true)).setCell ⟨pb, p * 3 + 2, none⟩ (.int .i64 (-1))).setCell ⟨q, 0, none⟩ (.int .i64 p)).setCell ⟨q, 1, none⟩ (.int .i64 ((x.life : Int) + 1))) := ((F4.out.mono (fun _ _ h => h.elim)).trans f4).trans' k0 (fun k hk e => by have := Hq.out; omega)
 generalize (((((W3.setCell ⟨sb, 2, none⟩ (.int .i64 x.next)).setCell ⟨pb, p * 3, none⟩ (.int .i64 ((x.life : Int) + 1))).setCell ⟨pb, p * 3 + 1, none⟩ (.bool true)).setCell ⟨pb, p * 3 + 2, none⟩ (.int .i64 (-1))).setCell ⟨q, 0, none⟩ (.int .i64 p)).setCell ⟨q, 1, none⟩ (.int .i64 ((x.life : Int) + 1)) = V at g1 e6 f6 ⊢
 have d0 := cells_in e6 0
 have d1 := cells_in e6 1
 simp at d0 d1
 exact bodyPost_ret (v := .tuple #[.agg #[.int .i64 p, .int .i64 (x.life + 1 : Nat)], .int .i64 0]) (by simp [results, Tryz.results84, go_sem, d0, d1]) rfl ⟨rfl, g1, f6⟩
end Go.Proofs.YtieeloealklkgaaGreat

/-
  The table of places: New.
-/
namespace Go.Proofs.YtieeloealklkgaaGreat
open Go Go.RowKit
attribute [local go_sem ↓] Go.wp_at_zero Go.wp_at_succ
attribute [local go_sem] Oper.semAt_some wide_fn wide_depth wide_fnR wide_depthR

theorem info_place : (Tryz.prog.info? 147).map (fun i => (i.zero, i.size, i.bytes)) = some (some (.agg #[.int .i64 0, .bool false, .int .i64 0]), 3, 24) := by kernel_rfl
theorem info_parts3 {o : Option TypeInfo} {z : Option Value} {a b : Nat} (h : o.map (fun i => (i.zero, i.size, i.bytes)) = some (z, a, b)) : ∃ i, o = some i ∧ i.zero = z ∧ i.size = a ∧ i.bytes = b := by
 cases o with
 | none => simp at h
 | some i => simp at h; exact ⟨i, rfl, h.1, h.2.1, h.2.2⟩
theorem made_places (n : Nat) : madeCells #[.int .i64 0, .bool false, .int .i64 0] (n * 3) = (flatPl (List.replicate n ⟨0, false, 0⟩)).toArray := by
 apply Array.toList_inj.1
 refine flat_ext cpl_len _ _ (by simp [madeCells]) (fun i x hx j hj => ?_)
 obtain ⟨hi, rfl⟩ := List.getElem?_eq_some_iff.1 hx
 have hi' : i < n := by simpa using hi
 have h1 : i * 3 + j < n * 3 := by omega
 have h2 : (i * 3 + j) % 3 = j := by omega
 have h3 : j = 0 ∨ j = 1 ∨ j = 2 := by omega
 have key : (madeCells #[.int .i64 0, .bool false, .int .i64 0] (n * 3)).toList[i * 3 + j]? = some ((#[.int .i64 0, .bool false, .int .i64 0] : Array Value)[(i * 3 + j) % 3]!) := by
  simp [madeCells, h1]
 rw [key, h2]
 rcases h3 with rfl | rfl | rfl <;> simp [cpl]
theorem make_places (n : Nat) (hn : n ≤ 1000000) (w : World) : (Go.Instr.makeSlice 143 (.int .i64 n) (.int .i64 n)).run Tryz.prog w = .ok (.slice (some ⟨w.heap.size, 0, none⟩) n n) (w.alloc (.cells (flatPl (List.replicate n ⟨0, false, 0⟩)).toArray 147)) := by
 obtain ⟨i0, hi, hz0, hz1, hz2⟩ := info_parts3 info_place
 have := run_make (P := Tryz.prog) w 143 147 i0 _ Tryz.underlying143 hi hz0 .i64 .i64 (n : Int) (n : Int) (by omega) (Int.le_refl _) (by rw [hz2]; omega) (by omega)
 rw [this, hz1]
 simp only [Value.cells, Int.toNat_natCast, made_places]
set_option maxHeartbeats 1000000 in
theorem SNew_is (n : Nat) (hm : n ≤ 1024) (w : World) :
  Calls Tryz.prog 44 #[.int .i64 n, .int .i64 4294967296] w fun e w' => ∃ sb pb, e = .returned (.tuple #[.pointer (some ⟨sb, 0, none⟩), .int .i64 0]) ∧ SlotsIs w' sb pb n (newP n 0) (firstP n 0) ∧ Fr0 none' w w' ∧ w.heap.size ≤ sb ∧ w.heap.size ≤ pb := by
 have b1 : (0 : Int) ≤ (n : Int) := by omega
 have d2 : decide ((n : Int) < 0) = false := decide_eq_false (by omega)
 have d3 : decide ((1024 : Int) < (n : Int)) = false := decide_eq_false (by omega)
 have hmk := fun W => make_places n (by omega) W
 go_enter Tryz.func44, Tryz.ntmps44
 go_wp2_with fail
 clear hmk d2 d3
 obtain ⟨pb, hpb⟩ : ∃ q, w.heap.size = q := ⟨_, rfl⟩
 obtain ⟨W0, hW0⟩ : ∃ W, ((w.alloc (.cells (flatPl (List.replicate n ⟨0, false, 0⟩)).toArray 147)).alloc (.cells #[.slice (some ⟨w.heap.size, 0, none⟩) n n, .int .i64 4294967296, .int .i64 (-1)] 145)) = W := ⟨_, rfl⟩
 have hs0 : SlotsIs W0 (pb + 1) pb n (newP n n) (firstP n n) := by
  rw [newP_all]
  refine ⟨?_, ?_, by simp, by omega⟩
  ·rw [← hW0, ← hpb]
   have := World.alloc_heap_new (w.alloc (.cells (flatPl (List.replicate n ⟨0, false, 0⟩)).toArray 147)) (.cells #[.slice (some ⟨w.heap.size, 0, none⟩) n n, .int .i64 4294967296, .int .i64 (-1)] 145)
   rw [World.size_alloc] at this
   rw [this]
   simp [firstP]
  ·rw [← hW0, ← hpb, Below.heap_alloc _ _ _ (by simp)]
   exact World.alloc_heap_new w _
 have hf0 : Fr0 none' w W0 := by rw [← hW0]; exact ((Fr0.refl _ _).alloc _).alloc _
 have HS0 := Lib.hid hs0
 have HF0 := Lib.hid hf0
 rw [hW0]
 try rw [hpb]
 have Hpb := Lib.hid hpb
 clear hW0 hs0 hf0 hpb
 go_loopw [7] (fun v wr => ∃ j : Nat, v = .int .i64 ((j : Int) - 1) ∧ j ≤ n ∧ Hid (SlotsIs wr (pb + 1) pb n (newP n j) (firstP n j)) ∧ Hid (Fr0 none' w wr)) (fun v _ => (Go.RowKit.intOf v + 1).toNat)
 case atStart => exact ⟨n, rfl, Nat.le_refl _, HS0, HF0⟩
 case round =>
  obtain ⟨j, rfl, hj, hs, hf⟩ := hrel
  by_cases h0 : j = 0
  ·subst h0
   go_wp2_with fail
   have e := Hpb.out
   exact bodyPost_ret (v := .tuple #[.pointer (some ⟨pb + 1, 0, none⟩), .int .i64 0]) (by simp [results, Tryz.results44, go_sem]) rfl ⟨pb + 1, pb, rfl, hs.out, hf.out, by omega, by omega⟩
  ·obtain ⟨i, rfl⟩ : ∃ i, j = i + 1 := ⟨j - 1, by omega⟩
   have e1 : (((i + 1 : Nat) : Int) - 1) = (i : Int) := by omega
   rw [e1]
   have c0 := hs.out.c0
   have c2 := hs.out.c2
   have g2 := hs.out.thawS 2
   have f2 := hs.out.thaw (i * 3 + 2)
   have b2 : (0 : Int) ≤ (i : Int) := by omega
   have b3 : (i : Int) < (n : Int) := by omega
   have d5 : decide ((0 : Int) ≤ (i : Int)) = true := decide_eq_true b2
   clear e1 h0
   go_wp2_with fail
   have hx : (newP n (i + 1))[i]? = some ⟨0, false, 0⟩ := by
    unfold newP
    rw [List.getElem?_map, List.getElem?_range (by omega), Option.map_some, if_neg (by omega)]
   have Hx := Lib.hid hx
   clear hx c0 c2 g2 f2
   refine wp_region_Z (z := 16) (S := fun W' => W'.cell? ⟨pb + 1, 0, none⟩ = some (.slice (some ⟨pb, 0, none⟩) n n) ∧ W'.cell? ⟨pb + 1, 2, none⟩ = some (.int .i64 (firstP n (i + 1))) ∧ W'.frozen? ⟨pb, i * 3 + 2, none⟩ = false ∧ W'.frozen? ⟨pb + 1, 2, none⟩ = false) (by kernel_rfl) ?_
   obtain ⟨WD, hWD⟩ : ∃ W, wr.drew = W := ⟨_, rfl⟩
   rw [hWD]
   have fD := Lib.hid (show Fr0 none' wr WD by rw [← hWD]; exact (Fr0.refl _ _).drew)
   have H4 := Lib.hid (hs.out.later fD.out)
   have hHeld : WD.cell? ⟨pb + 1, 0, none⟩ = some (.slice (some ⟨pb, 0, none⟩) n n) ∧ WD.cell? ⟨pb + 1, 2, none⟩ = some (.int .i64 (firstP n (i + 1))) ∧ WD.frozen? ⟨pb, i * 3 + 2, none⟩ = false ∧ WD.frozen? ⟨pb + 1, 2, none⟩ = false := ⟨H4.out.c0, H4.out.c2, H4.out.thaw _, H4.out.thawS _⟩
   clear hWD
   refine takeZ_on (i := 0) (v := .pointer (some ⟨pb + 1, 0, none⟩)) rfl (by kernel_rfl) (by kernel_rfl) (by kernel_rfl) (by kernel_rfl) (fun _ _ _ h => h) (by kernel_rfl) (fun W' hSW => ?_) (by assumption) ?_
   ·(try dsimp only at hSW)
    first|go_simp;done|exact rfl|go_simp;rfl|go_simp;omega
   try simp only[pUt,pUn,sEt,sEz,sEs]
   refine takeZ_on (i := 1) (v := .pointer (some ⟨pb + 1, 0, none⟩)) rfl (by kernel_rfl) (by kernel_rfl) (by kernel_rfl) (by kernel_rfl) (fun _ _ _ h => h) (by kernel_rfl) (fun W' hSW => ?_) (by assumption) ?_
   ·(try dsimp only at hSW)
    first|go_simp;done|exact rfl|go_simp;rfl|go_simp;omega
   try simp only[pUt,pUn,sEt,sEz,sEs]
   refine takeZ_on (i := 2) (v := .pointer (some ⟨pb + 1, 0, none⟩)) rfl (by kernel_rfl) (by kernel_rfl) (by kernel_rfl) (by kernel_rfl) (fun _ _ _ h => h) (by kernel_rfl) (fun W' hSW => ?_) (by assumption) ?_
   ·(try dsimp only at hSW)
    first|go_simp;done|exact rfl|go_simp;rfl|go_simp;omega
   try simp only[pUt,pUn,sEt,sEz,sEs]
   refine takeZ_on (i := 3) (v := .slice (some ⟨pb, 0, none⟩) n n) rfl (by kernel_rfl) (by kernel_rfl) (by kernel_rfl) (by kernel_rfl) (fun _ _ _ h => h) (by kernel_rfl) (fun W' hSW => ?_) (by assumption) ?_
   ·(try dsimp only at hSW)
    first|go_simp;done|exact rfl|go_simp;rfl|go_simp;omega
   try simp only[pUt,pUn,sEt,sEz,sEs]
   refine takeZ_on (i := 4) (v := .int .i64 i) rfl (by kernel_rfl) (by kernel_rfl) (by kernel_rfl) (by kernel_rfl) (fun _ _ _ h => h) (by kernel_rfl) (fun W' hSW => ?_) (by assumption) ?_
   ·(try dsimp only at hSW)
    first|go_simp;done|exact rfl|go_simp;rfl|go_simp;omega
   try simp only[pUt,pUn,sEt,sEz,sEs]
   refine takeZ_on (i := 5) (v := .pointer (some ⟨pb + 1, 0, none⟩)) rfl (by kernel_rfl) (by kernel_rfl) (by kernel_rfl) (by kernel_rfl) (fun _ _ _ h => h) (by kernel_rfl) (fun W' hSW => ?_) (by assumption) ?_
   ·(try dsimp only at hSW)
    first|go_simp;done|exact rfl|go_simp;rfl|go_simp;omega
   try simp only[pUt,pUn,sEt,sEz,sEs]
   refine takeZ_on (i := 6) (v := .pointer (some ⟨pb + 1, 0, none⟩)) rfl (by kernel_rfl) (by kernel_rfl) (by kernel_rfl) (by kernel_rfl) (fun _ _ _ h => h) (by kernel_rfl) (fun W' hSW => ?_) (by assumption) ?_
   ·(try dsimp only at hSW)
    first|go_simp;done|exact rfl|go_simp;rfl|go_simp;omega
   try simp only[pUt,pUn,sEt,sEz,sEs]
   refine takeZ_on (i := 7) (v := .pointer (some ⟨pb + 1, 0, none⟩)) rfl (by kernel_rfl) (by kernel_rfl) (by kernel_rfl) (by kernel_rfl) (fun _ _ _ h => h) (by kernel_rfl) (fun W' hSW => ?_) (by assumption) ?_
   ·(try dsimp only at hSW)
    first|go_simp;done|exact rfl|go_simp;rfl|go_simp;omega
   try simp only[pUt,pUn,sEt,sEz,sEs]
   refine takeZ_on (i := 8) (v := .pointer (some ⟨pb + 1, 2, none⟩)) rfl (by kernel_rfl) (by kernel_rfl) (by kernel_rfl) (by kernel_rfl) (fun _ _ _ h => h) (by kernel_rfl) (fun W' hSW => ?_) (by assumption) ?_
   ·(try dsimp only at hSW)
    first|go_simp;done|exact rfl|go_simp;rfl|go_simp;omega
   try simp only[pUt,pUn,sEt,sEz,sEs]
   refine takeZ_on (i := 9) (v := .int .i64 (firstP n (i + 1))) rfl (by kernel_rfl) (by kernel_rfl) (by kernel_rfl) (by kernel_rfl) (fun _ _ _ h => h) (by kernel_rfl) (fun W' hSW => ?_) (by assumption) ?_
   ·(try dsimp only at hSW)
    first|go_simp;done|exact rfl|go_simp;rfl|go_simp;omega
   try simp only[pUt,pUn,sEt,sEz,sEs]
   refine takeZ_on (i := 10) (v := .int .i64 i) rfl (by kernel_rfl) (by kernel_rfl) (by kernel_rfl) (by kernel_rfl) (fun _ _ _ h => h) (by kernel_rfl) (fun W' hSW => ?_) (by assumption) ?_
   ·(try dsimp only at hSW)
    first|go_simp;done|exact rfl|go_simp;rfl|go_simp;omega
   try simp only[pUt,pUn,sEt,sEz,sEs]
   refine takeZ_on (i := 11) (v := .pointer (some ⟨pb, i * 3, none⟩)) rfl (by kernel_rfl) (by kernel_rfl) (by kernel_rfl) (by kernel_rfl) (fun _ _ _ h => h) (by kernel_rfl) (fun W' hSW => ?_) (by assumption) ?_
   ·(try dsimp only at hSW)
    first|go_simp;done|exact rfl|go_simp;rfl|go_simp;omega
   try simp only[pUt,pUn,sEt,sEz,sEs]
   refine takeZ_on (i := 12) (v := .pointer (some ⟨pb, i * 3 + 2, none⟩)) rfl (by kernel_rfl) (by kernel_rfl) (by kernel_rfl) (by kernel_rfl) (fun _ _ _ h => h) (by kernel_rfl) (fun W' hSW => ?_) (by assumption) ?_
   ·(try dsimp only at hSW)
    first|go_simp;done|exact rfl|go_simp;rfl|go_simp;omega
   try simp only[pUt,pUn,sEt,sEz,sEs]
   refine takeZ_call (i := 13) rfl (by kernel_rfl) (by kernel_rfl) (fun K hK => ?_)
   have c2 := hHeld.2.2.1
   have c3 := (H4.out.place Hx.out).2.2
   go_simp
   clear c2 c3
   obtain ⟨W5, hW5⟩ : ∃ W, (WD.setCell ⟨pb, i * 3 + 2, none⟩ (.int .i64 (firstP n (i + 1)))) = W := ⟨_, rfl⟩
   rw [hW5]
   have f5 := Lib.hid (show Fr0 (lfoot (pb + 1) pb) WD W5 by rw [← hW5]; exact (Fr0.refl (lfoot (pb + 1) pb) _).setCell (fun _ => .inr rfl) _)
   have h5 : SlotsIs W5 (pb + 1) pb n ((newP n (i + 1)).set i ⟨0, false, firstP n (i + 1)⟩) (firstP n (i + 1)) := by rw [← hW5]; exact SlotsIs.put H4.out Hx.out (by omega) rfl
   have hset : (newP n (i + 1)).set i ⟨0, false, firstP n (i + 1)⟩ = newP n i := by
    rw [← newP_set (n := n) (j := i) (by omega)]
    unfold firstP
    split <;> simp
   rw [hset] at h5
   have H5 := Lib.hid h5
   have hHeld5 : W5.cell? ⟨pb + 1, 0, none⟩ = some (.slice (some ⟨pb, 0, none⟩) n n) ∧ W5.cell? ⟨pb + 1, 2, none⟩ = some (.int .i64 (firstP n (i + 1))) ∧ W5.frozen? ⟨pb, i * 3 + 2, none⟩ = false ∧ W5.frozen? ⟨pb + 1, 2, none⟩ = false := ⟨H5.out.c0, H5.out.c2, H5.out.thaw _, H5.out.thawS _⟩
   clear hW5 h5 hset
   refine hK.out _ _ (.inr hHeld5) ?_
   clear hK K hHeld
   try simp only[pUt,pUn,sEt,sEz,sEs]
   refine takeZ_call (i := 14) rfl (by kernel_rfl) (by kernel_rfl) (fun K hK => ?_)
   go_simp
   refine hK.out _ _ (.inr hHeld5) ?_
   clear hK K
   try simp only[pUt,pUn,sEt,sEz,sEs]
   refine takeZ_call (i := 15) rfl (by kernel_rfl) (by kernel_rfl) (fun K hK => ?_)
   go_simp
   refine hK.out _ _ (.inr hHeld5) ?_
   clear hK K
   try simp only[pUt,pUn,sEt,sEz,sEs]
   refine takeZ_call (i := 16) rfl (by kernel_rfl) (by kernel_rfl) (fun K hK => ?_)
   have c2 := hHeld5.2.2.2
   have c3 := hHeld5.2.1
   go_simp
   clear c2 c3
   refine hK.out _ _ (.inl rfl) ?_
   clear hK K hHeld5
   try simp only[pUt,pUn,sEt,sEz,sEs]
   refine wpAnyZ_done (by kernel_rfl) ?_ _
   have e2 : IntKind.i64.wrap ((i : Int) - 1) = (i : Int) - 1 := IntWalk.i64_in _ (by omega)
   clear d5
   go_wp2_with fail
   refine ⟨⟨i, rfl, by omega, ?_, ?_⟩, by simp [Go.RowKit.intOf]⟩
   ·have h6 := H5.out.putF (i : Int)
    have e3 : firstP n i = (i : Int) := by unfold firstP; rw [if_pos (by omega)]
    unfold Hid
    rw [e3]
    exact h6
   ·have e := Hpb.out
    unfold Hid
    refine (((hf.out.trans fD.out).trans' f5.out (fun k hk h => ?_)).setCell (fun h => ?_) _)
    ·rcases h with h | h <;> omega
    ·omega
end Go.Proofs.YtieeloealklkgaaGreat

/-
  A map from names to references: what it tells of the events at places (over any program).
-/
namespace Go.Proofs.YtieeloealklkgaaGreat
open Go Go.RowKit Go.Maps Go.ChangeMaps

def refD (p l : Nat) : DataW Unit := .agg [.lit (.int .i64 p), .lit (.int .i64 l)]
def refV (p l : Nat) : Value := .agg #[.int .i64 p, .int .i64 l]
def refR : Value → Option (DataW Unit × List MemPlace)
 | .agg c => match c.toList with
  | [.int .i64 a, .int .i64 b] => some (.agg [.lit (.int .i64 a), .lit (.int .i64 b)], [])
  | _ => none
 | _ => none
def nameV (n : Int × Int) : Value := .agg #[.int .i64 n.1, .int .i64 n.2]
theorem refR_refV (p l : Nat) : refR (refV p l) = some (refD p l, []) := rfl
theorem refR_inv {v : Value} {p l : Nat} {ps : List MemPlace} (h : refR v = some (refD p l, ps)) : v = refV p l := by
 unfold refR at h
 split at h
 ·next cs =>
  split at h
  ·next a b e =>
   simp only [Option.some.injEq, Prod.mk.injEq, refD, DataW.agg.injEq, List.cons.injEq, DataW.lit.injEq, Lit.int.injEq, true_and, and_true] at h
   obtain ⟨⟨h1, h2⟩, _⟩ := h
   obtain ⟨c⟩ := cs
   simp only at e
   subst e
   subst h1; subst h2
   rfl
  ·cases h
 ·cases h
variable {P : Program} {k t e : TypeId} {w w' : World} {mb : Nat} {X : List Pd} {L : Nat → Nat}
/-- The map has the names of X, each with its place and that place's life. -/
def NamesIs (P : Program) (k : TypeId) (w : World) (mb : Nat) (X : List Pd) (L : Nat → Nat) : Prop :=
 ∃ D : DataW Unit, w.ownsMap P k refR mb X.length D ∧ Maps.size D = X.length ∧
  ∀ (nm : Int × Int) (kl : Lit), keyOf P k (nameV nm) = some kl → (∀ y ∈ X, y.1.name = nm → Maps.has D kl = true ∧ ∀ z, D.atKey kl z = refD y.2 (L y.2)) ∧ ((∀ y ∈ X, y.1.name ≠ nm) → Maps.has D kl = false)
theorem ownsMap_q {S : Nat → Prop} {b n : Nat} {D : DataW Unit} (h : w.ownsMap P k refR b n D) (hf : Fr0 S w w') (hs : ¬ S b) : w'.ownsMap P k refR b n D := by
 obtain ⟨es, clock, hb, r⟩ := h
 exact ⟨es, clock, (hf.block b (Array.getElem?_eq_some_iff.1 hb).1 hs).trans hb, r⟩
theorem NamesIs.fr0 {S : Nat → Prop} (h : NamesIs P k w mb X L) (hf : Fr0 S w w') (hs : ¬ S mb) : NamesIs P k w' mb X L := by
 obtain ⟨D, h1, h2⟩ := h
 exact ⟨D, ownsMap_q h1 hf hs, h2⟩
theorem NamesIs.lt (h : NamesIs P k w mb X L) : mb < w.heap.size := by
 obtain ⟨D, h1, _⟩ := h
 exact h1.lt
theorem NamesIs.congr {L' : Nat → Nat} (h : NamesIs P k w mb X L) (hL : ∀ y ∈ X, L' y.2 = L y.2) : NamesIs P k w mb X L' := by
 obtain ⟨D, h1, h2, h3⟩ := h
 refine ⟨D, h1, h2, fun nm kl hk => ⟨fun y hy hn => ?_, (h3 nm kl hk).2⟩⟩
 rw [hL y hy]
 exact (h3 nm kl hk).1 y hy hn
theorem names_made (w : World) : NamesIs P k (w.alloc (.map #[] 0)) w.heap.size [] L :=
 ⟨.map [], World.ownsMap_made w P k refR, rfl, fun nm kl _ => ⟨(fun y hy => by cases hy), fun _ => rfl⟩⟩
/-- A name that is there. -/
theorem NamesIs.look (h : NamesIs P k w mb X L) (K : Keyed P k) (ht : P.underlying t = some (.map k e)) (hz : (zeroValue e).run P w = .ok (refV 0 0) w) {y : Pd} (hy : y ∈ X) {kl : Lit} (hk : keyOf P k (nameV y.1.name) = some kl) :
  (Instr.lookup t (.map (some mb)) (nameV y.1.name) true).run P w = .ok (.tuple #[refV y.2 (L y.2), .bool true]) w ∧ (Instr.lookup t (.map (some mb)) (nameV y.1.name) false).run P w = .ok (refV y.2 (L y.2)) w := by
 obtain ⟨D, h1, _, h3⟩ := h
 obtain ⟨ha, hb⟩ := (h3 _ kl hk).1 y hy rfl
 obtain ⟨v, ps, hr, hv⟩ := h1.look_ok K ht hz (refR_refV 0 0) hk
 rw [hb] at hv
 obtain ⟨v', ps', hr', hv'⟩ := h1.lookup K ht hz (refR_refV 0 0) hk
 rw [hb] at hv'
 rw [refR_inv hv, ha] at hr
 rw [refR_inv hv'] at hr'
 exact ⟨hr, hr'⟩
/-- A name that is not. -/
theorem NamesIs.none (h : NamesIs P k w mb X L) (K : Keyed P k) (ht : P.underlying t = some (.map k e)) (hz : (zeroValue e).run P w = .ok (refV 0 0) w) {nm : Int × Int} (hn : ∀ y ∈ X, y.1.name ≠ nm) {kl : Lit} (hk : keyOf P k (nameV nm) = some kl) :
  (Instr.lookup t (.map (some mb)) (nameV nm) true).run P w = .ok (.tuple #[refV 0 0, .bool false]) w := by
 obtain ⟨D, h1, _, h3⟩ := h
 have ha := (h3 _ kl hk).2 hn
 obtain ⟨v, ps, hr, hv⟩ := h1.look_ok K ht hz (refR_refV 0 0) hk
 rw [Maps.atKey_of_not_has ha] at hv
 rw [refR_inv hv, ha] at hr
 exact hr
/-- What the data says behind one entry more. -/
theorem names_put {D : DataW Unit} (hD : Maps.Tidy D) (K : Keyed P k) (hs : Maps.size D = X.length)
  (h3 : ∀ (nm : Int × Int) (kl : Lit), keyOf P k (nameV nm) = some kl → (∀ y ∈ X, y.1.name = nm → Maps.has D kl = true ∧ ∀ z, D.atKey kl z = refD y.2 (L y.2)) ∧ ((∀ y ∈ X, y.1.name ≠ nm) → Maps.has D kl = false))
  (x : Pd) (hn : ∀ y ∈ X, y.1.name ≠ x.1.name) {kl : Lit} (hk : keyOf P k (nameV x.1.name) = some kl) :
  Maps.size (D.put kl (refD x.2 (L x.2))) = (insX x X).length ∧ ∀ (nm : Int × Int) (kl' : Lit), keyOf P k (nameV nm) = some kl' → (∀ y ∈ insX x X, y.1.name = nm → Maps.has (D.put kl (refD x.2 (L x.2))) kl' = true ∧ ∀ z, (D.put kl (refD x.2 (L x.2))).atKey kl' z = refD y.2 (L y.2)) ∧ ((∀ y ∈ insX x X, y.1.name ≠ nm) → Maps.has (D.put kl (refD x.2 (L x.2))) kl' = false) := by
 have hno := (h3 _ kl hk).2 hn
 have inj : ∀ {a b : Int × Int} {l : Lit}, keyOf P k (nameV a) = some l → keyOf P k (nameV b) = some l → a = b := fun {a b l} ha hb => by
  have := K.inj ha hb
  unfold nameV at this
  simp only [Value.agg.injEq, Array.mk.injEq, List.cons.injEq, Value.int.injEq, true_and, and_true] at this
  exact Prod.ext this.1 this.2
 refine ⟨?_, fun nm kl' hk' => ⟨fun y hy hyn => ?_, fun hall => ?_⟩⟩
 ·rw [Maps.size_put hD, hno, if_neg (by simp), hs, (insX_perm x X).length_eq, List.length_cons]
 ·rcases insX_mem.1 hy with rfl | hy
  ·subst hyn
   rw [hk] at hk'
   cases hk'
   exact ⟨Maps.has_put_same hD.isMap (K.key hk) _, fun z => Maps.atKey_put_same hD.isMap (K.key hk) _ z⟩
  ·have hne : kl' ≠ kl := fun e => by
    subst e
    exact hn y hy (hyn.trans (inj hk' hk))
   obtain ⟨h4, h5⟩ := (h3 nm kl' hk').1 y hy hyn
   exact ⟨by rw [Maps.has_put_other hne]; exact h4, fun z => by rw [Maps.atKey_put_other hne]; exact h5 z⟩
 ·have hne : kl' ≠ kl := fun e => by
   subst e
   exact hall x (insX_mem.2 (.inl rfl)) (inj hk hk')
  rw [Maps.has_put_other hne]
  exact (h3 nm kl' hk').2 (fun y hy => hall y (insX_mem.2 (.inr hy)))
/-- A name is taken out. -/
theorem NamesIs.drop (h : NamesIs P k w mb X L) (K : Keyed P k) (ht : P.underlying t = some (.map k e)) {y : Pd} (hy : y ∈ X) (h1 : OnceE (X.map Prod.fst)) (h2 : (X.map Prod.snd).Nodup) {kl : Lit} (hk : keyOf P k (nameV y.1.name) = some kl) (ty : TypeId) :
  ∃ w', (Builtin.delete_ #[t, k] ty #[.map (some mb), nameV y.1.name]).run P w = .ok (.tuple #[]) w' ∧ NamesIs P k w' mb (delX y.2 X) L ∧ Fr0 (fun b => b = mb) w w' := by
 obtain ⟨D, ho, hs, h3⟩ := h
 obtain ⟨w', hr, ho', hm⟩ := ho.drop K ht hk ty
 have hD := ho.tidy K
 have hin := (h3 _ kl hk).1 y hy rfl
 have hlen : (delX y.2 X).length + 1 = X.length := by
  have := (map_snd_del h2 hy).length_eq
  simp at this
  omega
 have hsz : Maps.size (D.del kl) = (delX y.2 X).length := by
  have := Maps.size_del (k := kl) hD
  rw [hin.1, if_pos rfl] at this
  omega
 have inj : ∀ {a b : Int × Int} {l : Lit}, keyOf P k (nameV a) = some l → keyOf P k (nameV b) = some l → a = b := fun {a b l} ha hb => by
  have := K.inj ha hb
  unfold nameV at this
  simp only [Value.agg.injEq, Array.mk.injEq, List.cons.injEq, Value.int.injEq, true_and, and_true] at this
  exact Prod.ext this.1 this.2
 have hone : ∀ z ∈ X, z.1.name = y.1.name → z = y := by
  clear ho' hr hm ho hsz hlen hin hD h3 hs hk
  intro z hz hn
  have e1 : z.1 = y.1 := h1.inj (List.mem_map.2 ⟨z, hz, rfl⟩) (List.mem_map.2 ⟨y, hy, rfl⟩) hn
  clear h2
  induction X with
  | nil => cases hz
  | cons u r ih =>
   have g1 := List.nodup_cons.1 h1
   rcases List.mem_cons.1 hz with a1 | a1 <;> rcases List.mem_cons.1 hy with a2 | a2
   ·rw [a1, a2]
   ·subst a1
    exact absurd (by rw [e1]; exact List.mem_map.2 ⟨y.1, List.mem_map.2 ⟨y, a2, rfl⟩, rfl⟩) g1.1
   ·subst a2
    exact absurd (by rw [← e1]; exact List.mem_map.2 ⟨z.1, List.mem_map.2 ⟨z, a1, rfl⟩, rfl⟩) g1.1
   ·exact ih a2 g1.2 a1
 refine ⟨w', hr, ⟨D.del kl, ?_, hsz, fun nm kl' hk' => ⟨fun z hz hzn => ?_, fun hall => ?_⟩⟩, ?_⟩
 ·obtain ⟨es, clock, hb, F, hn, he⟩ := ho'
  refine ⟨es, clock, hb, F, ?_, he⟩
  have h5 : Maps.size (D.del kl) = es.size := by rw [he]; simp [Maps.size, length_sorted]
  omega
 ·obtain ⟨hz1, hz2⟩ := delX_mem.1 hz
  have hne : kl' ≠ kl := fun e => by
   subst e
   have := hone z hz1 (hzn.trans (inj hk' hk))
   exact hz2 (by rw [this])
  obtain ⟨h4, h5⟩ := (h3 nm kl' hk').1 z hz1 hzn
  exact ⟨by rw [Maps.has_del_other hne]; exact h4, fun q => by rw [Maps.atKey_del_other hne]; exact h5 q⟩
 ·by_cases hne : kl' = kl
  ·subst hne; exact Maps.has_del_same
  ·rw [Maps.has_del_other hne]
   refine (h3 nm kl' hk').2 (fun z hz hzn => ?_)
   by_cases hzp : z.2 = y.2
   ·have hzy : z = y := by
     have hnd := List.nodup_iff_pairwise_ne.1 h2
     clear ho' hr hm ho hsz hlen hin hD h3 hs hk hone h1 hall hnd
     induction X with
     | nil => cases hz
     | cons u r ih =>
      have g2 := List.nodup_cons.1 h2
      rcases List.mem_cons.1 hz with a1 | a1 <;> rcases List.mem_cons.1 hy with a2 | a2
      ·rw [a1, a2]
      ·subst a1; exact absurd (List.mem_map.2 ⟨y, a2, hzp.symm⟩) g2.1
      ·subst a2; exact absurd (List.mem_map.2 ⟨z, a1, hzp⟩) g2.1
      ·exact ih a2 g2.2 a1
    subst hzy
    subst hzn
    rw [hk] at hk'
    cases hk'
    exact hne rfl
   ·exact hall z (delX_mem.2 ⟨hz, hzp⟩) hzn
 ·have hg := hm.grown
  exact ⟨hg.os, hg.tape, hg.output, hg.size, fun i hi hs => hg.block i hi (fun e => hs (Option.some.inj e))⟩
end Go.Proofs.YtieeloealklkgaaGreat

/-
  A queue in memory.
-/
namespace Go.Proofs.YtieeloealklkgaaGreat
open Go Go.RowKit
attribute [local go_sem ↓] Go.wp_at_zero Go.wp_at_succ
attribute [local go_sem] Oper.semAt_some wide_fn wide_depth wide_fnR wide_depthR

def lifeP (P : List Pl) (p : Nat) : Nat := (P[p]?.map Pl.life).getD 0
theorem lifeP_at {P : List Pl} {p : Nat} {x : Pl} (h : P[p]? = some x) : lifeP P p = x.life := by unfold lifeP; rw [h]; rfl
/-- A queue, part by part. -/
structure QIn (w : World) (qb sb pb hb ba eb mb : Nat) (hv : Value) (n T : Nat) (X : List Pd) (F : List Nat) (P : List Pl) (first : Int) (V : List Ev) : Prop where
 hd : w.heap[qb]? = some (.cells #[.pointer (some ⟨sb, 0, none⟩), .pointer (some ⟨hb, 0, none⟩), .slice (some ⟨eb, 0, none⟩) n n, .map (some mb)] 42 (0, 0))
 sl : SlotsIs w sb pb n P first
 hp : HeapIs w hb ba hv n (X.map entX)
 ev : w.heap[eb]? = some (.cells (flatEv V).toArray 30 (0, 0))
 vl : V.length = n
 vx : ∀ y ∈ X, V[y.2]? = some y.1
 nm : NamesIs Tryz.prog 164 w mb X (lifeP P)
 ok : PlOk n X F P first T
 asc : AscE (X.map Prod.fst)
 once : OnceE (X.map Prod.fst)
 right : ∀ y ∈ X, RightE y.1
 n256 : n ≤ 256
 ne : [qb, sb, pb, hb, ba, eb, mb].Nodup
 nev : ∀ g, hv.ownBlock = some g → g ∉ [qb, sb, pb, hb, ba, eb, mb]
def qfoot (qb sb pb hb ba eb mb : Nat) (hv : Value) (k : Nat) : Prop := k = qb ∨ k = sb ∨ k = pb ∨ k = eb ∨ k = mb ∨ foot hb ba hv k
theorem QIn.lt {w : World} {qb sb pb hb ba eb mb n T : Nat} {hv : Value} {X : List Pd} {F : List Nat} {P : List Pl} {first : Int} {V : List Ev} (h : QIn w qb sb pb hb ba eb mb hv n T X F P first V) : ∀ k, qfoot qb sb pb hb ba eb mb hv k → k < w.heap.size := by
 rintro k (rfl | rfl | rfl | rfl | rfl | hk)
 ·exact (Array.getElem?_eq_some_iff.1 h.hd).1
 ·exact h.sl.lt _ (.inl rfl)
 ·exact h.sl.lt _ (.inr rfl)
 ·exact (Array.getElem?_eq_some_iff.1 h.ev).1
 ·exact h.nm.lt
 ·exact h.hp.lt k hk
theorem QIn.fr0 {S : Nat → Prop} {w w' : World} {qb sb pb hb ba eb mb n T : Nat} {hv : Value} {X : List Pd} {F : List Nat} {P : List Pl} {first : Int} {V : List Ev} (h : QIn w qb sb pb hb ba eb mb hv n T X F P first V) (hf : Fr0 S w w') (hs : ∀ k, qfoot qb sb pb hb ba eb mb hv k → ¬ S k) : QIn w' qb sb pb hb ba eb mb hv n T X F P first V :=
 { h with
  hd := (hf.block _ (h.lt _ (.inl rfl)) (hs _ (.inl rfl))).trans h.hd
  sl := h.sl.fr0 hf (fun k hk => hs k (by rcases hk with rfl | rfl; exact .inr (.inl rfl); exact .inr (.inr (.inl rfl))))
  hp := h.hp.fr0 hf (fun k hk => hs k (.inr (.inr (.inr (.inr (.inr hk))))))
  ev := (hf.block _ (h.lt _ (.inr (.inr (.inr (.inl rfl))))) (hs _ (.inr (.inr (.inr (.inl rfl)))))).trans h.ev
  nm := h.nm.fr0 hf (hs _ (.inr (.inr (.inr (.inr (.inl rfl)))))) }
/-- A queue that has the events E, in order; its blocks are among those of ft. -/
def QIs (w : World) (qb n T : Nat) (E : List Ev) (ft : Nat → Prop) : Prop :=
 ∃ sb pb hb ba eb mb hv X F P first V, QIn w qb sb pb hb ba eb mb hv n T X F P first V ∧ X.map Prod.fst = E ∧ (∀ k, qfoot qb sb pb hb ba eb mb hv k → ft k) ∧ ∀ k, ft k → k < w.heap.size
theorem QIs.fr0 {S : Nat → Prop} {w w' : World} {qb n T : Nat} {E : List Ev} {ft : Nat → Prop} (h : QIs w qb n T E ft) (hf : Fr0 S w w') (hs : ∀ k, ft k → ¬ S k) : QIs w' qb n T E ft := by
 obtain ⟨sb, pb, hb, ba, eb, mb, hv, X, F, P, first, V, h1, h2, h3, h4⟩ := h
 exact ⟨sb, pb, hb, ba, eb, mb, hv, X, F, P, first, V, h1.fr0 hf (fun k hk => hs k (h3 k hk)), h2, h3, fun k hk => Nat.lt_of_lt_of_le (h4 k hk) hf.size⟩
theorem QIs.later {w w' : World} {qb n T : Nat} {E : List Ev} {ft : Nat → Prop} (h : QIs w qb n T E ft) (hf : Fr0 none' w w') : QIs w' qb n T E ft := h.fr0 hf (fun _ _ h => h)
/-- The blocks of a queue behind an act. -/
def qgrow (ft : Nat → Prop) (w w' : World) (k : Nat) : Prop := ft k ∨ (w.heap.size ≤ k ∧ k < w'.heap.size)
theorem qgrow_off {ft : Nat → Prop} {w w' : World} {g : Nat} (h : ¬ ft g) (hg : g < w.heap.size) : ¬ qgrow ft w w' g := fun h' => h'.elim h (fun h'' => by omega)
theorem QIn.event {w : World} {qb sb pb hb ba eb mb n T : Nat} {hv : Value} {X : List Pd} {F : List Nat} {P : List Pl} {first : Int} {V : List Ev} (h : QIn w qb sb pb hb ba eb mb hv n T X F P first V) {p : Nat} {x : Ev} (hx : V[p]? = some x) : EAt w eb (p * 5) x := by
 refine ⟨?_, ?_, ?_, ?_, ?_⟩ <;> rw [cells_in h.ev, List.getElem?_toArray]
 ·exact flat_some cev_len hx (j := 0) (by omega) rfl
 ·exact flat_some cev_len hx (j := 1) (by omega) rfl
 ·exact flat_some cev_len hx (j := 2) (by omega) rfl
 ·exact flat_some cev_len hx (j := 3) (by omega) rfl
 ·exact flat_some cev_len hx (j := 4) (by omega) rfl
/-
  The queue: none, Len, Room.
-/
variable {w : World} {qb sb pb hb ba eb mb n T : Nat} {hv : Value} {X : List Pd} {F : List Nat} {P : List Pl} {first : Int} {V : List Ev}

theorem QIn.c0 (h : QIn w qb sb pb hb ba eb mb hv n T X F P first V) : w.cell? ⟨qb, 0, none⟩ = some (.pointer (some ⟨sb, 0, none⟩)) := by rw [cells_in h.hd]; rfl
theorem QIn.c1 (h : QIn w qb sb pb hb ba eb mb hv n T X F P first V) : w.cell? ⟨qb, 1, none⟩ = some (.pointer (some ⟨hb, 0, none⟩)) := by rw [cells_in h.hd]; rfl
theorem QIn.c2 (h : QIn w qb sb pb hb ba eb mb hv n T X F P first V) : w.cell? ⟨qb, 2, none⟩ = some (.slice (some ⟨eb, 0, none⟩) n n) := by rw [cells_in h.hd]; rfl
theorem QIn.c3 (h : QIn w qb sb pb hb ba eb mb hv n T X F P first V) : w.cell? ⟨qb, 3, none⟩ = some (.map (some mb)) := by rw [cells_in h.hd]; rfl
theorem qnone_is (h : QIn w qb sb pb hb ba eb mb hv n T X F P first V) : Calls Tryz.prog 57 #[.pointer (some ⟨qb, 0, none⟩)] w fun e w' => e = .returned (.bool false) ∧ w = w' := by
 have c0 := h.c0
 clear h
 go_enter Tryz.func57, Tryz.ntmps57
 go_wp2
 go_ret
 exact ⟨rfl, rfl⟩
theorem QLen_is (h : QIn w qb sb pb hb ba eb mb hv n T X F P first V) : Calls Tryz.prog 155 #[.pointer (some ⟨qb, 0, none⟩)] w fun e w' => e = .returned (.int .i64 (X.length : Nat)) ∧ w = w' := by
 have HN := Lib.hid (qnone_is h)
 have HL := Lib.hid (Len_is h.hp)
 rw [List.length_map] at HL
 have c1 := h.c1
 clear h
 go_enter Tryz.func155, Tryz.ntmps155
 go_wp2_with fail
 refine HN.out.mono ?_
 rintro e w1 ⟨rfl, rfl⟩
 go_wp2_with fail
 refine HL.out.mono ?_
 rintro e w1 ⟨rfl, rfl⟩
 go_wp2_with fail
 go_ret
 exact ⟨rfl, rfl⟩
theorem QRoom_is (h : QIn w qb sb pb hb ba eb mb hv n T X F P first V) : Calls Tryz.prog 59 #[.pointer (some ⟨qb, 0, none⟩)] w fun e w' => e = .returned (.int .i64 (n - X.length : Nat)) ∧ Fr0 none' w w' := by
 have HN := Lib.hid (qnone_is h)
 have HL := Lib.hid (Len_is (h.hp.later0 (Fr.refl none' w).drew.to0))
 rw [List.length_map] at HL
 have c1 := h.c1
 have c2 := h.c2
 have hx := h.ok.count
 have hn := h.n256
 have z1 : IntKind.i64.wrap ((n : Int) - (X.length : Int)) = ((n - X.length : Nat) : Int) := by rw [IntWalk.i64_in _ (by omega)]; omega
 have Z1 := Lib.hid z1
 clear h hx z1
 go_enter Tryz.func59, Tryz.ntmps59
 go_wp2_with fail
 refine HN.out.mono ?_
 rintro e w1 ⟨rfl, rfl⟩
 go_wp2_with fail
 refine wp_region_held_drew (S := fun W' => W' = w.drew) (by kernel_rfl) rfl (fun hHeld => ?_)
 refine tk2 (i := 0) (v := .pointer (some ⟨qb, 0, none⟩)) ?_
 try simp only[pUt,pUn,sEt,sEz,sEs]
 refine tk2 (i := 1) (v := .pointer (some ⟨qb, 0, none⟩)) ?_
 try simp only[pUt,pUn,sEt,sEz,sEs]
 refine tk2 (i := 2) (v := .pointer (some ⟨qb, 2, none⟩)) ?_
 try simp only[pUt,pUn,sEt,sEz,sEs]
 refine tk2 (i := 3) (v := .slice (some ⟨eb, 0, none⟩) n n) ?_
 try simp only[pUt,pUn,sEt,sEz,sEs]
 refine tk2 (i := 4) (v := .int .i64 n) ?_
 try simp only[pUt,pUn,sEt,sEz,sEs]
 refine tk2 (i := 5) (v := .pointer (some ⟨qb, 0, none⟩)) ?_
 try simp only[pUt,pUn,sEt,sEz,sEs]
 refine tk2 (i := 6) (v := .pointer (some ⟨qb, 0, none⟩)) ?_
 try simp only[pUt,pUn,sEt,sEz,sEs]
 refine tk2 (i := 7) (v := .pointer (some ⟨qb, 1, none⟩)) ?_
 try simp only[pUt,pUn,sEt,sEz,sEs]
 refine tk2 (i := 8) (v := .pointer (some ⟨hb, 0, none⟩)) ?_
 try simp only[pUt,pUn,sEt,sEz,sEs]
 refine take_call (i := 9) rfl (by kernel_rfl) (by kernel_rfl) (fun K hK => ?_)
 go_simp
 refine HL.out.mono ?_
 rintro e w1 ⟨rfl, rfl⟩
 refine hK.out _ _ rfl (fun hHeld2 => ?_)
 clear hK K
 try simp only[pUt,pUn,sEt,sEz,sEs]
 have z1 := Z1.out
 refine tk2 (i := 10) (v := .int .i64 (n - X.length : Nat)) ?_
 try simp only[pUt,pUn,sEt,sEz,sEs]
 clear z1
 refine tk2 (i := 11) (v := .int .i64 (n - X.length : Nat)) ?_
 try simp only[pUt,pUn,sEt,sEz,sEs]
 refine wpAnyH_done (by kernel_rfl) ?_ _
 clear hHeld hHeld2
 go_wp2
 go_ret
 exact ⟨rfl, (Fr.refl none' w).drew.to0⟩
end Go.Proofs.YtieeloealklkgaaGreat

/-
  The queue: New.
-/
namespace Go.Proofs.YtieeloealklkgaaGreat
open Go Go.RowKit
attribute [local go_sem ↓] Go.wp_at_zero Go.wp_at_succ
attribute [local go_sem] Oper.semAt_some wide_fn wide_depth wide_fnR wide_depthR

def noEv : Ev := ⟨⟨0, 0, 0⟩, 0, 0⟩
theorem info_ev : (Tryz.prog.info? 30).map (fun i => (i.zero, i.size, i.bytes)) = some (some (evV noEv), 5, 40) := by kernel_rfl
theorem made_events (n : Nat) : madeCells (evV noEv).cells (n * 5) = (flatEv (List.replicate n noEv)).toArray := by
 apply Array.toList_inj.1
 refine flat_ext cev_len _ _ (by simp [madeCells]) (fun i x hx j hj => ?_)
 obtain ⟨hi, rfl⟩ := List.getElem?_eq_some_iff.1 hx
 have hi' : i < n := by simpa using hi
 have h1 : i * 5 + j < n * 5 := by omega
 have h2 : (i * 5 + j) % 5 = j := by omega
 have h3 : j = 0 ∨ j = 1 ∨ j = 2 ∨ j = 3 ∨ j = 4 := by omega
 have key : (madeCells (evV noEv).cells (n * 5)).toList[i * 5 + j]? = some ((#[.int .i64 0, .int .i64 0, .int .i64 0, .int .i64 0, .int .i64 0] : Array Value)[(i * 5 + j) % 5]!) := by
  simp [madeCells, h1, evV, noEv, Value.cells]
 rw [key, h2]
 rcases h3 with rfl | rfl | rfl | rfl | rfl <;> simp [cev, noEv]
theorem make_events (n : Nat) (hn : n ≤ 1000000) (w : World) : (Go.Instr.makeSlice 22 (.int .i64 n) (.int .i64 n)).run Tryz.prog w = .ok (.slice (some ⟨w.heap.size, 0, none⟩) n n) (w.alloc (.cells (flatEv (List.replicate n noEv)).toArray 30)) := by
 obtain ⟨i0, hi, hz0, hz1, hz2⟩ := info_parts3 info_ev
 have := run_make (P := Tryz.prog) w 22 30 i0 _ Tryz.underlying22 hi hz0 .i64 .i64 (n : Int) (n : Int) (by omega) (Int.le_refl _) (by rw [hz2]; omega) (by omega)
 rw [this, hz1]
 simp only [Int.toNat_natCast, made_events]
set_option maxHeartbeats 1000000 in
theorem QNew_is (n : Nat) (hn : n ≤ 256) (w : World) : Calls Tryz.prog 14 #[.int .i64 n] w fun e w' => ∃ qb ft, e = .returned (.tuple #[.pointer (some ⟨qb, 0, none⟩), .int .i64 0]) ∧ QIs w' qb n 0 [] ft ∧ Fr0 none' w w' ∧ (∀ k, ft k → w.heap.size ≤ k) := by
 have d1 : decide ((n : Int) < 0) = false := decide_eq_false (by omega)
 have d2 : decide ((256 : Int) < (n : Int)) = false := decide_eq_false (by omega)
 have hmk := fun W => make_events n (by omega) W
 have hmm := @run_makeMap Tryz.prog
 go_enter Tryz.func14, Tryz.ntmps14
 go_wp2_with fail
 refine (SNew_is n (by omega) _).mono ?_
 rintro e w1 ⟨sb, pb, rfl, h1, f1, s1, s2⟩
 have H1 := Lib.hid h1
 have F1 := Lib.hid f1
 clear h1 f1
 go_wp2_with fail
 refine (New_is n _ (by omega)).mono ?_
 rintro e w2 ⟨hb, ba, rfl, h2, f2, s3, s4⟩
 have H2 := Lib.hid h2
 have F2 := Lib.hid f2.to0
 clear h2 f2
 go_wp2_with fail
 have m1 : ∀ k, lfoot sb pb k → k < w1.heap.size := H1.out.lt
 have m2 : ∀ k, foot hb ba (.slice none 0 0) k → k < w2.heap.size := H2.out.lt
 have m3 : w1.heap.size ≤ w2.heap.size := F2.out.size
 have m4 : w.heap.size ≤ w1.heap.size := F1.out.size
 have m5 := m1 sb (.inl rfl)
 have m6 := m1 pb (.inr rfl)
 have m7 := m2 hb (.inl rfl)
 have m8 := m2 ba (.inr (.inl rfl))
 have m9 : hb ≠ ba := by
  obtain ⟨ca, t, A, g1, _⟩ := H2.out.some
  exact g1.n2
 have m10 := H1.out.ne
 have f3 : Fr0 none' w2 (((w2.alloc (.cells (flatEv (List.replicate n noEv)).toArray 30)).alloc (.map #[] 0)).alloc (.cells #[.pointer (some ⟨sb, 0, none⟩), .pointer (some ⟨hb, 0, none⟩), .slice (some ⟨w2.heap.size, 0, none⟩) n n, .map (some (w2.heap.size + 1))] 42)) := (((Fr0.refl _ _).alloc _).alloc _).alloc _
 have q1 : (((w2.alloc (.cells (flatEv (List.replicate n noEv)).toArray 30)).alloc (.map #[] 0)).alloc (.cells #[.pointer (some ⟨sb, 0, none⟩), .pointer (some ⟨hb, 0, none⟩), .slice (some ⟨w2.heap.size, 0, none⟩) n n, .map (some (w2.heap.size + 1))] 42)).heap[w2.heap.size + 1 + 1]? = some (.cells #[.pointer (some ⟨sb, 0, none⟩), .pointer (some ⟨hb, 0, none⟩), .slice (some ⟨w2.heap.size, 0, none⟩) n n, .map (some (w2.heap.size + 1))] 42 (0, 0)) := by
  have := World.alloc_heap_new ((w2.alloc (.cells (flatEv (List.replicate n noEv)).toArray 30)).alloc (.map #[] 0)) (.cells #[.pointer (some ⟨sb, 0, none⟩), .pointer (some ⟨hb, 0, none⟩), .slice (some ⟨w2.heap.size, 0, none⟩) n n, .map (some (w2.heap.size + 1))] 42)
  rwa [World.size_alloc, World.size_alloc] at this
 have q2 : (((w2.alloc (.cells (flatEv (List.replicate n noEv)).toArray 30)).alloc (.map #[] 0)).alloc (.cells #[.pointer (some ⟨sb, 0, none⟩), .pointer (some ⟨hb, 0, none⟩), .slice (some ⟨w2.heap.size, 0, none⟩) n n, .map (some (w2.heap.size + 1))] 42)).heap[w2.heap.size]? = some (.cells (flatEv (List.replicate n noEv)).toArray 30 (0, 0)) := by
  rw [Below.heap_alloc _ _ _ (by simp only [World.size_alloc]; omega), Below.heap_alloc _ _ _ (by simp only [World.size_alloc]; omega)]
  exact World.alloc_heap_new w2 _
 have q3 : NamesIs Tryz.prog 164 (((w2.alloc (.cells (flatEv (List.replicate n noEv)).toArray 30)).alloc (.map #[] 0)).alloc (.cells #[.pointer (some ⟨sb, 0, none⟩), .pointer (some ⟨hb, 0, none⟩), .slice (some ⟨w2.heap.size, 0, none⟩) n n, .map (some (w2.heap.size + 1))] 42)) (w2.heap.size + 1) [] (lifeP (newP n 0)) := by
  have := names_made (P := Tryz.prog) (k := 164) (L := lifeP (newP n 0)) (w2.alloc (.cells (flatEv (List.replicate n noEv)).toArray 30))
  rw [World.size_alloc] at this
  exact this.fr0 (S := none') ((Fr0.refl _ _).alloc _) id
 go_ret2
 generalize (((w2.alloc (.cells (flatEv (List.replicate n noEv)).toArray 30)).alloc (.map #[] 0)).alloc (.cells #[.pointer (some ⟨sb, 0, none⟩), .pointer (some ⟨hb, 0, none⟩), .slice (some ⟨w2.heap.size, 0, none⟩) n n, .map (some (w2.heap.size + 1))] 42)) = WW at f3 q1 q2 q3 ⊢
 refine ⟨w2.heap.size + 1 + 1, qfoot (w2.heap.size + 1 + 1) sb pb hb ba w2.heap.size (w2.heap.size + 1) (.slice none 0 0), rfl, ⟨sb, pb, hb, ba, w2.heap.size, w2.heap.size + 1, .slice none 0 0, [], List.range n, newP n 0, firstP n 0, List.replicate n noEv, ?_, rfl, fun _ h => h, ?_⟩, (F1.out.trans F2.out).trans f3, ?_⟩
 ·exact { hd := q1, sl := (H1.out.later F2.out).later f3, hp := H2.out.later0 f3, ev := q2, vl := by simp, vx := (fun y hy => by cases hy), nm := q3, ok := new_ok n, asc := by simp [AscE], once := by simp [OnceE], right := (fun y hy => by cases hy), n256 := hn, ne := (by simp; omega), nev := (fun g hg => by cases hg) }
 ·have z1 := (Array.getElem?_eq_some_iff.1 q1).1
  rintro k (rfl | rfl | rfl | rfl | rfl | hk)
  ·omega
  ·omega
  ·omega
  ·omega
  ·omega
  ·have := m2 k hk; omega
 ·rintro k (rfl | rfl | rfl | rfl | rfl | hk | hk | hk)
  ·omega
  ·omega
  ·omega
  ·omega
  ·omega
  ·omega
  ·omega
  ·cases hk
end Go.Proofs.YtieeloealklkgaaGreat

/-
  slices.Collect at events, over an iterator.
-/
namespace Go.Proofs.YtieeloealklkgaaGreat
open Go.RowKit
attribute [local go_sem] Oper.semAt_some wide_fn wide_depth wide_fnR wide_depthR

theorem info_event : (Tryz.prog.info? 30).map (fun i => (i.zero, i.size, i.bytes)) = some (some (.agg #[.int .i64 0, .int .i64 0, .int .i64 0, .int .i64 0, .int .i64 0]), 5, 40) := by kernel_rfl
theorem flatEv_snoc (l : List Ev) (x : Ev) : flatEv (l ++ [x]) = flatEv l ++ cev x := by simp [flatEv]

set_option maxHeartbeats 2000000 in
theorem AppendSeqE (gf : Nat) (lb : Array Value) (xs : List Ev) (own rd : Nat → Prop) (w : World) (eg : ∀ args w, (callFunc gf args).run Tryz.prog w = .ok (.enter gf args) w)
  (hit : IterX0 Tryz.prog gf lb (fun x : Ev => #[evV x]) xs own rd w) (ho : ∀ k, own k → k < w.heap.size) (hr : ∀ k, rd k → k < w.heap.size) (hlen : xs.length ≤ 1000000) :
  CallsIn Fence.wide 0 Tryz.prog 74 #[.slice none 0 0, .func (.func gf) #[] lb] w fun e w' =>
   ∃ v, e = .returned v ∧ w'.ownsRow w.heap.size 30 5 v xs.length (flatEv xs) ∧ Fr0 own w w' := by
 obtain ⟨i0, hi, hz0, hz1, hz2⟩ := info_parts info_event
 refine callsIn_of_wp_marks Tryz.func74 rfl trivial ?_ rfl
 simp only [Tryz.ntmps74, List.size_toArray, List.length_cons, List.length_nil, Nat.reduceAdd, Nat.reduceSub, Array.replicate_succ, Array.replicate_zero, List.push_toArray, List.append_toArray, List.nil_append, List.cons_append]
 gi_wp2_with fail
 refine wpIn_iterX0 (gf := gf) (lb := lb) rfl eg hit (Fr0.keep ((Fr0.refl none' w).alloc _) (fun k hk => ⟨hr k hk, id⟩)) (fun _ => rfl) (fun k hk => by have := ho k hk; simp; omega) (fun k hk => by have := hr k hk; simp; omega)
  (fun i X W => ∃ v, Box W w.heap.size v ∧ W.ownsRow (w.heap.size + 3) 30 5 v i (flatEv (xs.take i)) ∧ Fr0 own w W ∧ ∀ g, v.ownBlock = some g → ¬ X g)
  (fun _ _ => False) ?hI (fun _ _ _ h _ => h.elim) ?h0
  (fun x W a' => ∃ B, a' = { tmps := #[.slice none 0 0, .func (.func gf) #[] lb, .pointer (some ⟨w.heap.size, 0, none⟩), undef, .slice none 0 0, .pointer (some ⟨B, 0, none⟩), .func (.func gf) #[] lb, evV x, undef, undef, undef, undef, undef], defers := [] } ∧ w.heap.size + 2 < B ∧ W.heap[B]? = some (.cells (cev x).toArray 30 (0, 0)))
  ?assign ?keep ?body ?done (fun _ _ _ _ h _ => h.elim)
 case hI =>
  rintro i X Y W1 W2 ⟨v, hb, hrow, hfr, hX⟩ hXb hf hY
  simp only [World.size_alloc] at hf hXb
  refine ⟨v, hb.fr0 hf (fun h => ?_), ownsRow_q_fr hrow hf (fun g hg h => ?_), hfr.trans' hf (fun k hk h => ?_), fun g hg hy => ?_⟩
  ·rcases h with h | h | h | h
   ·have := ho _ h; omega
   ·have := hXb _ h; omega
   ·omega
   ·omega
  ·have hlt := hrow.lt g hg
   rcases h with h | h | h | h
   ·have := ho _ h; omega
   ·exact hX g hg h
   ·omega
   ·omega
  ·rcases h with h | h | h | h
   ·exact h
   ·have := hXb _ h; omega
   ·omega
   ·omega
  ·rcases hY g hy with h | h
   ·exact hX g hg h
   ·have := hrow.lt g hg; omega
 case h0 =>
  exact ⟨_, Box.new w _ _, World.ownsRow_nil _ _ _ _, (Fr0.refl _ _).alloc _, fun g hg => by cases hg⟩
 case keep =>
  rintro x W1 W2 a' ⟨B, rfl, hB, hc⟩ hf
  refine ⟨B, rfl, hB, (hf.block B (Array.getElem?_eq_some_iff.1 hc).1 (by simp; omega)).trans hc⟩
 case assign =>
  intro l x W K hlt hK
  simp only [World.size_alloc] at hlt
  simp only [evV]
  gi_wp2
  exact hK _ _ ⟨W.heap.size, by simp [evV], by omega, World.alloc_heap_new W _⟩ ((Fr0.refl _ _).alloc _)
 case body =>
  rintro l i x X W a' r hxi ⟨v, hb, hrow, hfr, hX⟩ hXb ⟨B, rfl, hB, hcB⟩ hD hL
  have hlt : i < xs.length := (List.getElem?_eq_some_iff.1 hxi).1
  have hsz : w.heap.size + 2 < W.heap.size := by have := (Array.getElem?_eq_some_iff.1 hL).1; simpa using this
  have hc := hb.cell
  have hf := hb.frozen
  simp only [World.size_alloc] at hXb
  have Hxi := Lib.hid hxi
  have b0 := cells_of hcB 0
  have b1 := cells_of hcB 1
  have b2 := cells_of hcB 2
  have b3 := cells_of hcB 3
  have b4 := cells_of hcB 4
  simp [cev] at b0 b1 b2 b3 b4
  have HX := Lib.hid hX
  have HXb := Lib.hid hXb
  clear hxi hD hL hcB hX hXb
  have hsrc := Src.newRow (P := Tryz.prog) (size := 5) (tx := 22) (ty := 30) W Tryz.underlying22 1 1 (cev x) rfl (by simp [Value.oneCell', cev])
  simp only [cev] at hsrc
  gi_wp2_with (gi_at_builtin; refine wpListIn_append_k rfl _ _ 22 22 rfl (w.heap.size + 3) 30 i0 (.agg #[.int .i64 0, .int .i64 0, .int .i64 0, .int .i64 0, .int .i64 0]) 5 40 Tryz.underlying22 hi hz0 hz1 hz2 rfl (by decide) v i _ rfl (hrow.alloc _) (.slice (some ⟨W.heap.size, 0, none⟩) 1 1) 1 _ rfl hsrc (by unfold maxLen; omega) (by omega) (by simp; omega) ?_; intro v' w1 hown' hgrow hdr hob; obtain ⟨g', cap', rfl⟩ := ownsRow_k_succ hown'; have hfg := ((Fr0.refl (fun k => v.ownBlock = some k) W).alloc _).grown hgrow (fun k hk _ => hk); have hb1 := hb.fr0 hfg (fun h => by have := (hrow.lt _ h).1; omega); have hc1 := hb1.cell; have hf1 := hb1.frozen)
  have hb2 := hb1.set (.slice (some ⟨g', 0, none⟩) (i + 1) cap')
  have hf2 := (hfg.mono (S' := fun k => k = w.heap.size ∨ v.ownBlock = some k) (fun k _ h => .inr h)).setCell (b := w.heap.size) (o := 0) (fun _ => .inl rfl) (.slice (some ⟨g', 0, none⟩) (i + 1) cap')
  refine ⟨_, hf2, ?_, ⟨_, hb2, ?_, ?_, ?_⟩⟩
  ·intro k h1 h2
   simp only [World.size_alloc] at h2
   rcases h1 with h1 | h1
   ·rcases h2 with h | h | h | h
    ·have := hr _ h; omega
    ·have := HXb.out _ h; omega
    ·omega
    ·omega
   ·have h3 := hrow.lt _ h1
    rcases h2 with h | h | h | h
    ·have := hr _ h; omega
    ·exact HX.out _ h1 h
    ·omega
    ·omega
  ·have h3 := ownsRow_setCell_below hown' (a := ⟨w.heap.size, 0, none⟩) (by simp) (.slice (some ⟨g', 0, none⟩) (i + 1) cap')
   rw [show List.take (i + 1) xs = List.take i xs ++ [x] from by
    rw [List.take_add_one, Hxi.out]; simp, flatEv_snoc]
   exact h3
  ·exact hfr.trans' hf2 (fun k hk h => by
    rcases h with h | h
    ·omega
    ·have := hrow.lt _ h; omega)
  ·intro g hg hXg
   rcases hob with h | h
   ·rw [hg] at h; exact HX.out _ h.symm hXg
   ·rw [hg] at h
    injection h with h
    have := HXb.out _ hXg
    simp at h; omega
 case done =>
  rintro D X W hDe ⟨v, hb, hrow, hfr, _⟩ hK
  obtain rfl : D = w.heap.size + 1 := by simpa using hDe
  have hc := hb.cell
  rw [List.take_of_length_le (Nat.le_refl _)] at hrow
  have hD : w.heap.size + 1 < W.heap.size := by have := (Array.getElem?_eq_some_iff.1 hK).1; simpa using this
  have hfe : Fr0 own w (W.putObj (w.heap.size + 1) (.deferred none)) := hfr.putObj (fun h => by omega) _
  have hrow' : (W.putObj (w.heap.size + 1) (.deferred none)).ownsRow w.heap.size 30 5 v xs.length (flatEv xs) := by
   refine ownsRow_q_fr (ownsRow_k_mono hrow (by omega)) (Fr0.putNew (S := fun k => k = w.heap.size + 1) _ _ rfl) (fun g hg h => ?_)
   have := (hrow.lt g hg).1; omega
  have hK' := hK
  have hfv : ∃ a n c, v = .slice a n c := by
   rcases hrow.2 with ⟨rfl, _⟩ | ⟨g, cap, cur, rfl, _⟩
   ·exact ⟨_, _, _, rfl⟩
   ·exact ⟨_, _, _, rfl⟩
  clear hrow hb hfr hK
  obtain ⟨sa, sn, sc, rfl⟩ := hfv
  gi_wp2
  refine ⟨by simp, .inl ⟨_, _, rfl, run_takeDeferred hK', ?_⟩⟩
  refine ⟨_, results_tmp rfl _ _ _, _, rfl, ?_, hfe⟩
  exact hrow'

set_option maxHeartbeats 2000000 in
theorem CollectE (gf : Nat) (lb : Array Value) (xs : List Ev) (own rd : Nat → Prop) (w : World) (eg : ∀ args w, (callFunc gf args).run Tryz.prog w = .ok (.enter gf args) w)
  (hit : IterX0 Tryz.prog gf lb (fun x : Ev => #[evV x]) xs own rd w) (ho : ∀ k, own k → k < w.heap.size) (hr : ∀ k, rd k → k < w.heap.size) (hlen : xs.length ≤ 1000000) :
  Calls Tryz.prog 51 #[.func (.func gf) #[] lb] w fun e w' =>
   ∃ v, e = .returned v ∧ w'.ownsRow w.heap.size 30 5 v xs.length (flatEv xs) ∧ Fr0 own w w' := by
 have HC := Lib.hid (callsIn_wide.1 (AppendSeqE gf lb xs own rd w eg hit ho hr hlen))
 clear hit
 go_enter Tryz.func51, Tryz.ntmps51
 go_wp2_with fail
 refine HC.out.mono ?_
 rintro e w1 ⟨v, rfl, hrow, hfr⟩
 go_wp2
 go_ret
 exact ⟨_, rfl, hrow, hfr⟩
end Go.Proofs.YtieeloealklkgaaGreat

/-
  The queue: the events in order.
-/
namespace Go.Proofs.YtieeloealklkgaaGreat
open Go Go.RowKit
attribute [local go_sem ↓] Go.wp_at_zero Go.wp_at_succ
attribute [local go_sem] Oper.semAt_some wide_fn wide_depth wide_fnR wide_depthR
variable {w : World} {qb sb pb hb ba eb mb n T : Nat} {hv : Value} {X : List Pd} {F : List Nat} {P : List Pl} {first : Int} {V : List Ev}

theorem ordered_any (q : Nat) (w : World) : Calls Tryz.prog 52 #[.pointer (some ⟨q, 0, none⟩)] w fun e w' => e = .returned (.func (.func 75) #[] #[.pointer (some ⟨w.heap.size, 0, none⟩)]) ∧ w' = w.alloc (.cells #[.pointer (some ⟨q, 0, none⟩)] 37) := by
 go_enter Tryz.func52, Tryz.ntmps52
 go_wp2
 go_ret
 exact ⟨rfl, rfl⟩
/-- A queue outlives whatever keeps its blocks. -/
theorem QIn.kept {W : World} (h : QIn w qb sb pb hb ba eb mb hv n T X F P first V) (hs : w.heap.size ≤ W.heap.size) (hk : ∀ k, qfoot qb sb pb hb ba eb mb hv k → W.heap[k]? = w.heap[k]?) : QIn W qb sb pb hb ba eb mb hv n T X F P first V := by
 obtain ⟨W0, hW0⟩ : ∃ W0 : World, W0 = { W with os := w.os, tape := w.tape, output := w.output } := ⟨_, rfl⟩
 have hf : Fr0 (fun k => ¬ qfoot qb sb pb hb ba eb mb hv k) w W0 := by
  subst hW0
  exact ⟨rfl, rfl, rfl, hs, fun k _ hn => hk k (Classical.not_not.1 hn)⟩
 have h0 := h.fr0 hf (fun k h1 h2 => h2 h1)
 have hh : W0.heap = W.heap := by rw [hW0]
 subst hW0
 obtain ⟨D, n1, n2⟩ := h0.nm
 obtain ⟨ca, t, A, g1, g2⟩ := h0.hp.some
 exact { h0 with hd := h0.hd, ev := h0.ev, sl := ⟨h0.sl.hd, h0.sl.pl, h0.sl.len, h0.sl.ne⟩, hp := ⟨⟨ca, t, A, ⟨g1.hd, g1.tr, g1.tb, g1.n1, g1.n2⟩, g2⟩, h0.hp.sorted, h0.hp.once, h0.hp.place, h0.hp.size⟩, nm := ⟨D, n1, n2⟩ }
theorem ints_at1 {w : World} {base : Nat} {v : Value} {n : Nat} {xs : List Value} (h : w.ownsRow base 3 1 v n xs) {k : Nat} {x : Value} (hk : xs[k]? = some x) : ∃ g cap, v = .slice (some ⟨g, 0, none⟩) n cap ∧ base ≤ g ∧ g < w.heap.size ∧ w.cell? ⟨g, k, none⟩ = some x := by
 have hl := h.1
 rcases h.2 with ⟨rfl, h0⟩ | ⟨g, cap, cur, rfl, hb, hg, hn, hcm, hs, ht⟩
 ·have e : xs = [] := List.eq_nil_of_length_eq_zero (by rw [hl, h0])
  rw [e] at hk; simp at hk
 ·refine ⟨g, cap, rfl, hb, (Array.getElem?_eq_some_iff.1 hg).1, ?_⟩
  have hlt : k < n * 1 := by rw [← hl]; exact (List.getElem?_eq_some_iff.1 hk).1
  rw [cells_in hg, ← Array.getElem?_toList, ← hk, ← ht, List.getElem?_take_of_lt hlt]
set_option maxHeartbeats 2000000 in
/-- The iterator yields the events in order. -/
theorem ordered_iter (h : QIn w qb sb pb hb ba eb mb hv n T X F P first V) (cb : Nat) (hbx : Box w cb (.pointer (some ⟨qb, 0, none⟩))) :
  IterX0 Tryz.prog 75 #[.pointer (some ⟨cb, 0, none⟩)] (fun x : Ev => #[evV x]) (X.map Prod.fst) none' (fun k => k = cb ∨ qfoot qb sb pb hb ba eb mb hv k) w := by
 intro l J Jx W hK hJ hJx hY h0
 have hbW : Box W cb (.pointer (some ⟨qb, 0, none⟩)) := hbx.of_block (hK.2 cb (.inl rfl))
 have HW := Lib.hid (h.kept hK.1 (fun k hk => hK.2 k (.inr hk)))
 have HY := Lib.hid hY
 have HJ := Lib.hid hJ
 have HB := Lib.hid hbW
 have hc := hbW.cell
 clear hY hJ hbx hbW hK h
 refine callsIn_of_wp Tryz.func75 rfl trivial ?_ rfl
 simp only [Tryz.ntmps75, List.size_toArray, List.length_cons, List.length_nil, Nat.reduceAdd, Nat.reduceSub, Array.replicate_succ, Array.replicate_zero, List.push_toArray, List.append_toArray, List.nil_append, List.cons_append]
 gi_wp2_with fail
 refine (callsIn_wide.2 (qnone_is HW.out)).mono ?_
 rintro e w1 ⟨rfl, rfl⟩
 have c1 := HW.out.c1
 gi_wp2_with fail
 refine (callsIn_wide.2 (Order_is HW.out.hp)).mono ?_
 rintro e w1 ⟨v, rfl, hrow, hf⟩
 rw [List.length_map] at hrow
 have hm256 : X.length ≤ 256 := by have := HW.out.ok.count; have := HW.out.n256; omega
 obtain ⟨cap, av, rfl⟩ : ∃ cap av, v = .slice av X.length cap := by
  rcases hrow.2 with ⟨rfl, h0⟩ | ⟨g, cap, cur, rfl, _⟩
  ·exact ⟨0, none, by rw [h0]⟩
  ·exact ⟨cap, _, rfl⟩
 obtain ⟨m, hm⟩ : ∃ m, X.length = m := ⟨_, rfl⟩
 have Hm := Lib.hid hm
 rw [hm] at hrow hm256 ⊢
 have hj1 : J 0 (fun k => (Value.slice av m cap).ownBlock = some k) w1 := HJ.out 0 none' _ W w1 h0 (hf.mono (fun k _ h => h.elim)) (fun k hk => .inr (by have := hrow.lt k hk; omega))
 have Hrow := Lib.hid hrow
 have F1 := Lib.hid hf
 have Hm6 := Lib.hid hm256
 have Hn6 := Lib.hid HW.out.n256
 clear hrow hf hc c1 h0 hm hm256
 obtain ⟨XB, hXB⟩ : ∃ XB : Nat → Prop, (fun k => (Value.slice av m cap).ownBlock = some k) = XB := ⟨_, rfl⟩
 have HXe := Lib.hid (show ∀ g, (Value.slice av m cap).ownBlock = some g → XB g from fun g hg => by rw [← hXB]; exact hg)
 have HXl := Lib.hid (show ∀ k, XB k → W.heap.size ≤ k ∧ k < w1.heap.size from fun k hk => by rw [← hXB] at hk; exact Hrow.out.lt k hk)
 rw [hXB] at hj1
 clear hXB
 gi_wp2_with fail
 gi_loopw [4, 13] (fun _ i wr => ∃ k : Nat, k ≤ m ∧ i = .int .i64 k ∧ J k XB wr ∧ Hid (Keep (fun b => (b = cb ∨ qfoot qb sb pb hb ba eb mb hv b) ∨ XB b) w1 wr)) (fun _ i _ => m - (Go.RowKit.intOf i).toNat)
 case atStart => exact ⟨0, Nat.zero_le _, rfl, hj1, Keep.refl _ _⟩
 case round =>
  obtain ⟨k, hk, rfl, hj, hkp⟩ := hrel
  by_cases hlt : k < m
  ·obtain ⟨y, hy⟩ : ∃ y, X[k]? = some y := ⟨_, List.getElem?_eq_getElem (by rw [Hm.out]; exact hlt)⟩
   have hyX : y ∈ X := List.mem_of_getElem? hy
   obtain ⟨g, cap', he, hg1, hg2, hgc⟩ := ints_at1 Hrow.out (k := k) (x := .int .i64 y.2) (by simp [placesV, entX, natV, hy])
   simp only [Value.slice.injEq] at he
   obtain ⟨rfl, _, rfl⟩ := he
   have hXg : XB g := HXe.out g rfl
   have hkeep : ∀ b, (b = cb ∨ qfoot qb sb pb hb ba eb mb hv b) → wr.heap[b]? = W.heap[b]? := fun b hb' => (hkp.out.2 b (.inl hb')).trans (F1.out.block b (by rcases hb' with rfl | hb'; exact HB.out.lt; exact HW.out.lt b hb') id)
   have c1 : wr.cell? ⟨g, k, none⟩ = some (.int .i64 y.2) := (World.cell?_of_block (w := w1) (hkp.out.2 g (.inr hXg))).trans hgc
   have hQ : QIn wr qb sb pb hb ba eb mb hv n T X F P first V := HW.out.kept (Nat.le_trans F1.out.size hkp.out.1) (fun b hb' => hkeep b (.inr hb'))
   have hbx : Box wr cb (.pointer (some ⟨qb, 0, none⟩)) := HB.out.of_block (hkeep cb (.inl rfl))
   have c2 := hQ.c2
   have hvx := hQ.vx y hyX
   obtain ⟨e0, e1, e2, e3, e4⟩ := hQ.event hvx
   have hpn : y.2 < n := hQ.ok.xlt hyX
   have c0 := hbx.cell
   obtain ⟨p, hp⟩ : ∃ p, y.2 = p := ⟨_, rfl⟩
   rw [hp] at c1 e0 e1 e2 e3 e4 hpn
   have z1 : (0 : Int) ≤ (p : Int) := by omega
   have z2 : (p : Int) < (n : Int) := by omega
   have z3 : (0 : Int) ≤ (k : Int) := by omega
   have z4 : (k : Int) < (m : Int) := by omega
   have z5 : IntKind.i64.wrap ((k : Int) + 1) = (k : Int) + 1 := IntWalk.i64_in _ (by have := Hm6.out; omega)
   have hyx : (X.map Prod.fst)[k]? = some y.1 := by rw [List.getElem?_map, hy]; rfl
   obtain ⟨fn, tmps, assign, body, hyy, hR⟩ := HY.out k y.1 XB wr hyx hj
   unfold evV at hyy
   have HR := Lib.hid hR
   clear hy hyX hkeep hQ hbx hvx hyx hgc hg1 hg2 hXg hj hR hp
   gi_wp2_with fail
   refine HR.out.mono ?_
   rintro e W3 (⟨rfl, hJ3, hk3⟩ | ⟨rfl, hJx3⟩)
   ·gi_wp2
    go_roundw
    case rel => exact ⟨k + 1, by omega, by go_num, hJ3, hkp.out.trans hk3⟩
    case measure => simp [Go.RowKit.intOf]; omega
   ·gi_wp2
    refine bodyPost_ret (results_none rfl _ _ _) rfl ?_
    exact ⟨⟨_, rfl⟩, .inr hJx3⟩
  ·have hkm : k = m := by omega
   subst hkm
   rw [← Hm.out, ← List.length_map (f := Prod.fst)] at hj
   have HJF := Lib.hid hj
   clear hj
   gi_wp2
   go_end0
   exact ⟨⟨_, rfl⟩, .inl ⟨XB, HJF.out⟩⟩
end Go.Proofs.YtieeloealklkgaaGreat

/-
  The queue: an event more, an event less (what a walk has to show).
-/
namespace Go.Proofs.YtieeloealklkgaaGreat
open Go Go.RowKit
variable {w : World} {qb sb pb hb ba eb mb n T : Nat} {hv : Value} {X : List Pd} {F : List Nat} {P : List Pl} {first : Int} {V : List Ev}

theorem PlOk.snd {n : Nat} {X : List Pd} {F : List Nat} {P : List Pl} {first : Int} {T : Nat} (h : PlOk n X F P first T) : (X.map Prod.snd).Nodup := (List.nodup_append.1 h.nodup).2.1
/-- A queue with an event more. -/
theorem QIn.added {W : World} {hv' : Value} {p : Nat} {x : Ev} {pl : Pl} (h : QIn w qb sb pb hb ba eb mb hv n T X (p :: F) P first V) (hpl : P[p]? = some pl) (hr : RightE x) (hn : ∀ y ∈ X, y.1.name ≠ x.name)
  (g1 : W.heap[qb]? = w.heap[qb]?) (g2 : SlotsIs W sb pb n (P.set p ⟨pl.life + 1, true, -1⟩) pl.next) (g3 : HeapIs W hb ba hv' n (insL ⟨x.key, p⟩ (X.map entX)))
  (g4 : W.heap[eb]? = some (.cells (flatEv (V.set p x)).toArray 30 (0, 0))) (g5 : NamesIs Tryz.prog 164 W mb (insX (x, p) X) (lifeP (P.set p ⟨pl.life + 1, true, -1⟩)))
  (g6 : ∀ g, hv'.ownBlock = some g → hv.ownBlock = some g ∨ w.heap.size ≤ g) :
  QIn W qb sb pb hb ba eb mb hv' n (T + 1) (insX (x, p) X) F (P.set p ⟨pl.life + 1, true, -1⟩) pl.next (V.set p x) := by
 have hp : p < n := h.ok.flt List.mem_cons_self
 have hnp : ∀ y ∈ X, y.2 ≠ p := fun y hy e => (List.nodup_cons.1 h.ok.nodup).1 (List.mem_append_right _ (List.mem_map.2 ⟨y, hy, e⟩))
 refine { hd := g1.trans h.hd, sl := g2, hp := ?_, ev := g4, vl := by rw [List.length_set]; exact h.vl, vx := fun y hy => ?_, nm := g5, ok := ?_, asc := ?_, once := ?_, right := fun y hy => ?_, n256 := h.n256, ne := h.ne, nev := fun g hg => ?_ }
 ·rw [insX_ent (x, p) X (fun y hy e => hn y hy (name_key e))]
  exact g3
 ·rcases insX_mem.1 hy with rfl | hy
  ·exact List.getElem?_set_self (by rw [h.vl]; exact hp)
  ·rw [List.getElem?_set_ne (Ne.symm (hnp y hy))]
   exact h.vx y hy
 ·obtain ⟨_, pl', h1, h2⟩ := h.ok.take x
  rw [hpl] at h1
  cases h1
  exact h2
 ·rw [insX_fst]
  refine insE_asc h.asc (fun y hy => ?_)
  obtain ⟨z, hz, rfl⟩ := List.mem_map.1 hy
  exact hn z hz
 ·rw [insX_fst]
  refine insE_once h.once (fun y hy => ?_)
  obtain ⟨z, hz, rfl⟩ := List.mem_map.1 hy
  exact hn z hz
 ·rcases insX_mem.1 hy with rfl | hy
  ·exact hr
  ·exact h.right y hy
 ·rcases g6 g hg with h1 | h1
  ·exact h.nev g h1
  ·intro hm
   have hl := h.lt
   simp only [List.mem_cons, List.not_mem_nil, or_false] at hm
   have : qfoot qb sb pb hb ba eb mb hv g := by
    rcases hm with e | e | e | e | e | e | e
    ·exact .inl e
    ·exact .inr (.inl e)
    ·exact .inr (.inr (.inl e))
    ·exact .inr (.inr (.inr (.inr (.inr (.inl e)))))
    ·exact .inr (.inr (.inr (.inr (.inr (.inr (.inl e))))))
    ·exact .inr (.inr (.inr (.inl e)))
    ·exact .inr (.inr (.inr (.inr (.inl e))))
   have := hl g this
   omega
/-- A queue with an event less. -/
theorem QIn.taken {W : World} {hv' : Value} {y : Pd} {pl : Pl} (h : QIn w qb sb pb hb ba eb mb hv n T X F P first V) (hy : y ∈ X) (hpl : P[y.2]? = some pl)
  (g1 : W.heap[qb]? = w.heap[qb]?) (g2 : SlotsIs W sb pb n (P.set y.2 ⟨pl.life, false, first⟩) y.2) (g3 : HeapIs W hb ba hv' n (delL y.2 (X.map entX)))
  (g4 : W.heap[eb]? = some (.cells (flatEv (V.set y.2 noEv)).toArray 30 (0, 0))) (g5 : NamesIs Tryz.prog 164 W mb (delX y.2 X) (lifeP P))
  (g6 : ∀ g, hv'.ownBlock = some g → hv.ownBlock = some g ∨ w.heap.size ≤ g) :
  QIn W qb sb pb hb ba eb mb hv' n T (delX y.2 X) (y.2 :: F) (P.set y.2 ⟨pl.life, false, first⟩) y.2 (V.set y.2 noEv) := by
 refine { hd := g1.trans h.hd, sl := g2, hp := ?_, ev := g4, vl := by rw [List.length_set]; exact h.vl, vx := fun z hz => ?_, nm := g5.congr (fun z hz => ?_), ok := ?_, asc := ?_, once := ?_, right := fun z hz => h.right z (delX_mem.1 hz).1, n256 := h.n256, ne := h.ne, nev := fun g hg => ?_ }
 ·rw [delX_ent]
  exact g3
 ·obtain ⟨hz1, hz2⟩ := delX_mem.1 hz
  rw [List.getElem?_set_ne (Ne.symm hz2)]
  exact h.vx z hz1
 ·unfold lifeP
  rw [List.getElem?_set_ne (Ne.symm (delX_mem.1 hz).2)]
 ·obtain ⟨pl', h1, _, h2⟩ := h.ok.give hy
  rw [hpl] at h1
  cases h1
  exact h2
 ·rw [delX_fst h.once h.ok.snd hy]
  exact delE_asc h.asc
 ·rw [delX_fst h.once h.ok.snd hy]
  exact delE_once h.once
 ·rcases g6 g hg with h1 | h1
  ·exact h.nev g h1
  ·intro hm
   have hl := h.lt
   simp only [List.mem_cons, List.not_mem_nil, or_false] at hm
   have : qfoot qb sb pb hb ba eb mb hv g := by
    rcases hm with e | e | e | e | e | e | e
    ·exact .inl e
    ·exact .inr (.inl e)
    ·exact .inr (.inr (.inl e))
    ·exact .inr (.inr (.inr (.inr (.inr (.inl e)))))
    ·exact .inr (.inr (.inr (.inr (.inr (.inr (.inl e))))))
    ·exact .inr (.inr (.inr (.inl e)))
    ·exact .inr (.inr (.inr (.inr (.inl e))))
   have := hl g this
   omega
end Go.Proofs.YtieeloealklkgaaGreat

/-
  The queue: All, Least.
-/
namespace Go.Proofs.YtieeloealklkgaaGreat
open Go Go.RowKit
attribute [local go_sem ↓] Go.wp_at_zero Go.wp_at_succ
attribute [local go_sem] Oper.semAt_some wide_fn wide_depth wide_fnR wide_depthR
variable {w : World} {qb sb pb hb ba eb mb n T : Nat} {hv : Value} {X : List Pd} {F : List Nat} {P : List Pl} {first : Int} {V : List Ev}

theorem own_up {w : World} {base base' : Nat} {e : TypeId} {size : Nat} {v : Value} {n : Nat} {xs : List Value} (h : w.ownsRow base e size v n xs) (hb : base' ≤ base) : w.ownsRow base' e size v n xs := by
 obtain ⟨h1, h2⟩ := h
 refine ⟨h1, ?_⟩
 rcases h2 with h2 | ⟨g, cap, cur, hv, hg, r⟩
 ·exact Or.inl h2
 ·exact Or.inr ⟨g, cap, cur, hv, Nat.le_trans hb hg, r⟩
theorem QAll_is (h : QIn w qb sb pb hb ba eb mb hv n T X F P first V) : Calls Tryz.prog 20 #[.pointer (some ⟨qb, 0, none⟩)] w fun e w' => ∃ v, e = .returned v ∧ w'.ownsRow w.heap.size 30 5 v X.length (flatEv (X.map Prod.fst)) ∧ Fr0 none' w w' := by
 have H := Lib.hid h
 have hx : (X.map Prod.fst).length ≤ 1000000 := by have := h.ok.count; have := h.n256; rw [List.length_map]; omega
 have Hx := Lib.hid hx
 clear h hx
 go_enter Tryz.func20, Tryz.ntmps20
 go_wp2_with fail
 refine (ordered_any qb w).mono ?_
 rintro e w1 ⟨rfl, rfl⟩
 go_wp2_with fail
 have hf : Fr0 none' w (w.alloc (.cells #[.pointer (some ⟨qb, 0, none⟩)] 37)) := (Fr0.refl _ _).alloc _
 have h1 := H.out.fr0 (S := none') hf (fun _ _ h => h)
 have it := ordered_iter h1 w.heap.size (Box.new w _ _)
 refine (CollectE 75 #[.pointer (some ⟨w.heap.size, 0, none⟩)] (X.map Prod.fst) none' _ _ (by intro args w; rfl) it (fun k hk => hk.elim) (fun k hk => by
  rcases hk with rfl | hk
  ·simp
  ·exact h1.lt k hk) Hx.out).mono ?_
 rintro e w2 ⟨v, rfl, hrow, hfr⟩
 go_wp2
 go_ret
 rw [List.length_map] at hrow
 exact ⟨_, rfl, own_up hrow hf.size, hf.trans hfr⟩
def zeroEv : Ev := ⟨⟨0, 0, 0⟩, 0, 0⟩
/-- What Least tells. -/
def lstE : List Ev → Ev
 | [] => zeroEv
 | x :: _ => x
set_option maxHeartbeats 1000000 in
theorem QLeast_is (h : QIn w qb sb pb hb ba eb mb hv n T X F P first V) : Calls Tryz.prog 159 #[.pointer (some ⟨qb, 0, none⟩)] w fun e w' => e = .returned (.tuple #[evV (lstE (X.map Prod.fst)), .bool !X.isEmpty]) ∧ Fr0 none' w w' := by
 have H := Lib.hid h
 cases X with
 | nil =>
  clear h
  go_enter Tryz.func159, Tryz.ntmps159
  go_wp2_with fail
  obtain ⟨q, hq⟩ : ∃ q, w.heap.size = q := ⟨_, rfl⟩
  obtain ⟨W1, hW1⟩ : ∃ W, w.alloc (.cells #[.int .i64 0, .int .i64 0, .int .i64 0, .int .i64 0, .int .i64 0] 30) = W := ⟨_, rfl⟩
  have hb := Lib.hid (show W1.heap[q]? = some (.cells #[.int .i64 0, .int .i64 0, .int .i64 0, .int .i64 0, .int .i64 0] 30 (0, 0)) by rw [← hW1, ← hq]; exact World.alloc_heap_new w _)
  have F1 := Lib.hid (show Fr0 none' w W1 by rw [← hW1]; exact (Fr0.refl _ _).alloc _)
  rw [hW1]
  try rw [hq]
  have Hq := Lib.hid hq
  clear hW1 hq
  have h1 := H.out.fr0 F1.out (fun _ _ h => h)
  have h1H := Lib.hid h1
  refine (qnone_is h1).mono ?_
  rintro e w1 ⟨rfl, rfl⟩
  have c1 := h1.c1
  have c2 := h1.c2
  have HL := Lib.hid (Least_is h1.hp)
  clear h1
  go_wp2_with fail
  refine HL.out.mono ?_
  rintro e w1 ⟨rfl, rfl⟩
  simp only [List.map_nil, leastP, leastB]
  have t0 := thaw_in hb.out 0
  have t1 := thaw_in hb.out 1
  have t2 := thaw_in hb.out 2
  have t3 := thaw_in hb.out 3
  have t4 := thaw_in hb.out 4
  have y0 := cells_in hb.out 0
  have y1 := cells_in hb.out 1
  have y2 := cells_in hb.out 2
  have y3 := cells_in hb.out 3
  have y4 := cells_in hb.out 4
  simp at y0 y1 y2 y3 y4
  go_wp2
  have e6 := ev_set5 hb.out (.int .i64 0) (.int .i64 0) (.int .i64 0) (.int .i64 0) (.int .i64 0)
  have f6 : Fr0 none' w (((((W1.setCell ⟨q, 0, none⟩ (.int .i64 0)).setCell ⟨q, 1, none⟩ (.int .i64 0)).setCell ⟨q, 2, none⟩ (.int .i64 0)).setCell ⟨q, 3, none⟩ (.int .i64 0)).setCell ⟨q, 4, none⟩ (.int .i64 0)) := F1.out.trans' (S' := fun k => k = q) (((((Fr0.refl (fun k => k = q) W1).setCell (fun _ => rfl) _).setCell (fun _ => rfl) _).setCell (fun _ => rfl) _).setCell (fun _ => rfl) _ |>.setCell (fun _ => rfl) _) (fun k hk e => by have := Hq.out; omega)
  generalize (((((W1.setCell ⟨q, 0, none⟩ (.int .i64 0)).setCell ⟨q, 1, none⟩ (.int .i64 0)).setCell ⟨q, 2, none⟩ (.int .i64 0)).setCell ⟨q, 3, none⟩ (.int .i64 0)).setCell ⟨q, 4, none⟩ (.int .i64 0)) = VV at e6 f6 ⊢
  clear y0 y1 y2 y3 y4
  have y0 := cells_in e6 0
  have y1 := cells_in e6 1
  have y2 := cells_in e6 2
  have y3 := cells_in e6 3
  have y4 := cells_in e6 4
  simp at y0 y1 y2 y3 y4
  exact bodyPost_ret (v := .tuple #[evV zeroEv, .bool false]) (by simp [results, Tryz.results159, go_sem, y0, y1, y2, y3, y4, evV, zeroEv]) rfl ⟨rfl, f6⟩
 | cons y r =>
  have hpn : y.2 < n := h.ok.xlt List.mem_cons_self
  obtain ⟨⟨yk, yt, yv⟩, p⟩ := y
  have z1 : (0 : Int) ≤ (p : Int) := by omega
  have z2 : (p : Int) < (n : Int) := by simp only at hpn; omega
  simp only at hpn
  clear h
  go_enter Tryz.func159, Tryz.ntmps159
  go_wp2_with fail
  obtain ⟨q, hq⟩ : ∃ q, w.heap.size = q := ⟨_, rfl⟩
  obtain ⟨W1, hW1⟩ : ∃ W, w.alloc (.cells #[.int .i64 0, .int .i64 0, .int .i64 0, .int .i64 0, .int .i64 0] 30) = W := ⟨_, rfl⟩
  have hb := Lib.hid (show W1.heap[q]? = some (.cells #[.int .i64 0, .int .i64 0, .int .i64 0, .int .i64 0, .int .i64 0] 30 (0, 0)) by rw [← hW1, ← hq]; exact World.alloc_heap_new w _)
  have F1 := Lib.hid (show Fr0 none' w W1 by rw [← hW1]; exact (Fr0.refl _ _).alloc _)
  rw [hW1]
  try rw [hq]
  have Hq := Lib.hid hq
  clear hW1 hq
  have h1 := H.out.fr0 F1.out (fun _ _ h => h)
  have h1H := Lib.hid h1
  refine (qnone_is h1).mono ?_
  rintro e w1 ⟨rfl, rfl⟩
  have c1 := h1.c1
  have c2 := h1.c2
  have HL := Lib.hid (Least_is h1.hp)
  have hvx := h1.vx _ List.mem_cons_self
  obtain ⟨e0, e1, e2, e3, e4⟩ := h1.event hvx
  simp only at e0 e1 e2 e3 e4
  clear h1 hvx
  go_wp2_with fail
  refine HL.out.mono ?_
  rintro e w1 ⟨rfl, rfl⟩
  simp only [List.map_cons, leastP, leastB, entX]
  have t0 := thaw_in hb.out 0
  have t1 := thaw_in hb.out 1
  have t2 := thaw_in hb.out 2
  have t3 := thaw_in hb.out 3
  have t4 := thaw_in hb.out 4
  have y0 := cells_in hb.out 0
  have y1 := cells_in hb.out 1
  have y2 := cells_in hb.out 2
  have y3 := cells_in hb.out 3
  have y4 := cells_in hb.out 4
  simp at y0 y1 y2 y3 y4
  go_wp2
  have e6 := ev_set5 hb.out (.int .i64 yk.time) (.int .i64 yk.source) (.int .i64 yk.seq) (.int .i64 yt) (.int .i64 yv)
  have f6 : Fr0 none' w (((((W1.setCell ⟨q, 0, none⟩ (.int .i64 yk.time)).setCell ⟨q, 1, none⟩ (.int .i64 yk.source)).setCell ⟨q, 2, none⟩ (.int .i64 yk.seq)).setCell ⟨q, 3, none⟩ (.int .i64 yt)).setCell ⟨q, 4, none⟩ (.int .i64 yv)) := F1.out.trans' (S' := fun k => k = q) (((((Fr0.refl (fun k => k = q) W1).setCell (fun _ => rfl) _).setCell (fun _ => rfl) _).setCell (fun _ => rfl) _).setCell (fun _ => rfl) _ |>.setCell (fun _ => rfl) _) (fun k hk e => by have := Hq.out; omega)
  generalize (((((W1.setCell ⟨q, 0, none⟩ (.int .i64 yk.time)).setCell ⟨q, 1, none⟩ (.int .i64 yk.source)).setCell ⟨q, 2, none⟩ (.int .i64 yk.seq)).setCell ⟨q, 3, none⟩ (.int .i64 yt)).setCell ⟨q, 4, none⟩ (.int .i64 yv)) = VV at e6 f6 ⊢
  clear y0 y1 y2 y3 y4
  have y0 := cells_in e6 0
  have y1 := cells_in e6 1
  have y2 := cells_in e6 2
  have y3 := cells_in e6 3
  have y4 := cells_in e6 4
  simp at y0 y1 y2 y3 y4
  exact bodyPost_ret (v := .tuple #[evV ⟨yk, yt, yv⟩, .bool true]) (by simp [results, Tryz.results159, go_sem, y0, y1, y2, y3, y4, evV]) rfl ⟨rfl, f6⟩
end Go.Proofs.YtieeloealklkgaaGreat

/-
  An assignment to a key that a map does not have, in its two steps.
-/
namespace Go.Proofs.YtieeloealklkgaaGreat
open Go.RowKit Go.Maps Go.ChangeMaps
open Go.WideElems (Fit)

end Go.Proofs.YtieeloealklkgaaGreat

/-
  An assignment to a key of a map, in its two steps, whether the map has the key or not; maps from names to integers.
-/
namespace Go.Proofs.YtieeloealklkgaaGreat
open Go.RowKit Go.Maps Go.ChangeMaps
open Go.WideElems (Fit)
open Go.WideMaps (KeyLaw)

def intR : Value → Option (DataW Unit × List MemPlace)
 | .int .i64 a => some (.lit (.int .i64 a), [])
 | _ => none
theorem intR_inv {v : Value} {a : Int} {ps : List MemPlace} (h : intR v = some (.lit (.int .i64 a), ps)) : v = .int .i64 a := by
 unfold intR at h
 split at h
 ·simp only [Option.some.injEq, Prod.mk.injEq, DataW.lit.injEq, Lit.int.injEq, true_and] at h
  rw [h.1]
 ·cases h
section
variable {P : Program} {k t e : TypeId} {w w' : World} {b n : Nat} {c : Int × Int → Option Int}
/-- The map has the names that c has, each with its number; it has at most n. -/
def MetIs (P : Program) (k : TypeId) (w : World) (b n : Nat) (c : Int × Int → Option Int) : Prop :=
 ∃ D : DataW Unit, w.ownsMap P k intR b n D ∧ ∀ (nm : Int × Int) (kl : Lit), keyOf P k (nameV nm) = some kl → Maps.has D kl = (c nm).isSome ∧ D.atKey kl (.lit (.int .i64 0)) = .lit (.int .i64 ((c nm).getD 0))
theorem MetIs.fr0 {S : Nat → Prop} (h : MetIs P k w b n c) (hf : Fr0 S w w') (hs : ¬ S b) : MetIs P k w' b n c := by
 obtain ⟨D, h1, h2⟩ := h
 refine ⟨D, ?_, h2⟩
 obtain ⟨es, clock, hb, r⟩ := h1
 exact ⟨es, clock, (hf.block b (Array.getElem?_eq_some_iff.1 hb).1 hs).trans hb, r⟩
theorem met_made (w : World) : MetIs P k (w.alloc (.map #[] 0)) w.heap.size 0 (fun _ => none) :=
 ⟨.map [], World.ownsMap_made w P k intR, fun nm kl _ => ⟨rfl, rfl⟩⟩
theorem MetIs.look (h : MetIs P k w b n c) (K : KeyLaw P k) (ht : P.underlying t = some (.map k e)) (hz : (zeroValue e).run P w = .ok (.int .i64 0) w) {nm : Int × Int} {kl : Lit} (hk : keyOf P k (nameV nm) = some kl) :
  (Instr.lookup t (.map (some b)) (nameV nm) true).run P w = .ok (.tuple #[.int .i64 ((c nm).getD 0), .bool (c nm).isSome]) w ∧ (Instr.lookup t (.map (some b)) (nameV nm) false).run P w = .ok (.int .i64 ((c nm).getD 0)) w := by
 obtain ⟨D, h1, h2⟩ := h
 obtain ⟨ha, hb⟩ := h2 nm kl hk
 obtain ⟨v, ps, hr, hv⟩ := h1.look_ok (Keyed.of_law K) ht hz (show intR (.int .i64 0) = some (_, _) from rfl) hk
 obtain ⟨v', ps', hr', hv'⟩ := h1.lookup (Keyed.of_law K) ht hz (show intR (.int .i64 0) = some (_, _) from rfl) hk
 rw [hb] at hv hv'
 rw [intR_inv hv, ha] at hr
 rw [intR_inv hv'] at hr'
 exact ⟨hr, hr'⟩
end
end Go.Proofs.YtieeloealklkgaaGreat

/-
  The keys of the maps: names as structs, names as arrays.
-/
namespace Go.Proofs.YtieeloealklkgaaGreat
open Go Go.RowKit Go.Maps Go.ChangeMaps
open Go.WideMaps (KeyLaw ArrKey)

theorem laid_out : laidOutB Tryz.prog = true := by kernel_rfl
theorem name_law : KeyLaw Tryz.prog 164 := deep_law_laid laid_out (m := 2) (by omega) (of_decide_eq_true (by kernel_rfl)) (by kernel_rfl) (by rw [Tryz.underlying164])
/-- A number that a register holds. -/
def I64 (a : Int) : Prop := -9223372036854775808 ≤ a ∧ a ≤ 9223372036854775807
theorem wf_i64 {a : Int} (h : I64 a) : (Lit.int .i64 a).wf = true := by
 obtain ⟨h1, h2⟩ := h
 simp [Lit.wf, show IntKind.i64.min = -9223372036854775808 from by decide, show IntKind.i64.max = 9223372036854775807 from by decide]
 omega
theorem types_size : ∃ m, (Tryz.prog).types.size = m + 1 := ⟨(Tryz.prog).types.size - 1, by kernel_rfl⟩
theorem name_key_is {nm : Int × Int} (h1 : I64 nm.1) (h2 : I64 nm.2) : ∃ kl, keyOf Tryz.prog 164 (nameV nm) = some kl := by
 have w1 := wf_i64 h1
 have w2 := wf_i64 h2
 refine ⟨.string (keyBytes [.int .i64 nm.1, .int .i64 nm.2]), ?_⟩
 have hkt : Tryz.prog.keyType 164 = true := by kernel_rfl
 have hc : Tryz.prog.cellsOf 164 = 2 := by kernel_rfl
 have hi : Tryz.prog.cellsOf 3 = 1 := by kernel_rfl
 obtain ⟨m, hm⟩ := types_size
 unfold keyOf nameV
 simp only [Tryz.underlying164]
 rw [if_pos (by simp [hkt, Value.formed, Tryz.underlying164, hc]), hm]
 unfold Program.keyLits
 simp only [Tryz.underlying164, Value.cells]
 rw [if_pos ⟨by rw [hc]; rfl, by kernel_rfl⟩]
 simp [hi, Program.keyLits, Tryz.underlying3, w1, w2]
theorem rightE_i64 {x : Ev} (h : RightE x) : I64 x.name.1 ∧ I64 x.name.2 := by
 obtain ⟨h1, _⟩ := h
 unfold RightK at h1
 unfold Ev.name I64
 simp only
 omega
section
variable {P : Program} {k t e : TypeId} {w w' : World} {mb : Nat} {X : List Pd} {L : Nat → Nat}
/-- A name more. -/
theorem NamesIs.put (h : NamesIs P k w mb X L) (K : Keyed P k) (ht : P.underlying t = some (.map k e)) (x : Pd) (hn : ∀ y ∈ X, y.1.name ≠ x.1.name) (hX : X.length < maxLen) {kl : Lit} (hk : keyOf P k (nameV x.1.name) = some kl) :
  ∃ w', (Instr.mapUpdate t (.map (some mb)) (nameV x.1.name) (refV x.2 (L x.2))).run P w = .ok () w' ∧ NamesIs P k w' mb (insX x X) L ∧ Fr0 (fun b => b = mb) w w' := by
 obtain ⟨D, ho, hs, h3⟩ := h
 have hD := ho.tidy K
 obtain ⟨w', hr, ho', hm⟩ := ho.store K ht hX hk (refR_refV x.2 (L x.2))
 obtain ⟨g1, g2⟩ := names_put hD K hs h3 x hn hk
 have hl : (insX x X).length = X.length + 1 := by rw [(insX_perm x X).length_eq, List.length_cons]
 have hg := hm.grown
 exact ⟨w', hr, ⟨D.put kl (refD x.2 (L x.2)), by rw [hl]; exact ho', g1, g2⟩, ⟨hg.os, hg.tape, hg.output, hg.size, fun i hi hs => hg.block i hi (fun e => hs (Option.some.inj e))⟩⟩
end
end Go.Proofs.YtieeloealklkgaaGreat

/-
  The queue: put.
-/
namespace Go.Proofs.YtieeloealklkgaaGreat
open Go Go.RowKit Go.ChangeMaps
attribute [local go_sem ↓] Go.wp_at_zero Go.wp_at_succ
attribute [local go_sem] Oper.semAt_some wide_fn wide_depth wide_fnR wide_depthR
variable {w : World} {qb sb pb hb ba eb mb n T : Nat} {hv : Value} {X : List Pd} {F : List Nat} {P : List Pl} {first : Int} {V : List Ev}

theorem flatEv_set5 {V : List Ev} {p : Nat} {y : Ev} (hy : V[p]? = some y) (t s q o v : Int) :
  (((((flatEv V).set (p * 5) (.int .i64 t)).set (p * 5 + 1) (.int .i64 s)).set (p * 5 + 2) (.int .i64 q)).set (p * 5 + 3) (.int .i64 o)).set (p * 5 + 4) (.int .i64 v) = flatEv (V.set p ⟨⟨t, s, q⟩, o, v⟩) := by
 have hl : p < V.length := (List.getElem?_eq_some_iff.1 hy).1
 have e0 := flat_set cev_len (x' := ⟨⟨t, y.key.source, y.key.seq⟩, y.to, y.value⟩) hy (j := 0) (by omega) (v := .int .i64 t) rfl
 have e1 := flat_set cev_len (P := V.set p ⟨⟨t, y.key.source, y.key.seq⟩, y.to, y.value⟩) (x' := ⟨⟨t, s, y.key.seq⟩, y.to, y.value⟩) (List.getElem?_set_self hl) (j := 1) (by omega) (v := .int .i64 s) rfl
 have e2 := flat_set cev_len (P := V.set p ⟨⟨t, s, y.key.seq⟩, y.to, y.value⟩) (x' := ⟨⟨t, s, q⟩, y.to, y.value⟩) (List.getElem?_set_self hl) (j := 2) (by omega) (v := .int .i64 q) rfl
 have e3 := flat_set cev_len (P := V.set p ⟨⟨t, s, q⟩, y.to, y.value⟩) (x' := ⟨⟨t, s, q⟩, o, y.value⟩) (List.getElem?_set_self hl) (j := 3) (by omega) (v := .int .i64 o) rfl
 have e4 := flat_set cev_len (P := V.set p ⟨⟨t, s, q⟩, o, y.value⟩) (x' := ⟨⟨t, s, q⟩, o, v⟩) (List.getElem?_set_self hl) (j := 4) (by omega) (v := .int .i64 v) rfl
 rw [List.set_set] at e1 e2 e3 e4
 unfold flatEv
 rw [Nat.add_zero] at e0
 rw [e0, e1, e2, e3, e4]
theorem ev_row5 {W : World} {eb p : Nat} {V : List Ev} {ty : TypeId} {y : Ev} (h : W.heap[eb]? = some (.cells (flatEv V).toArray ty (0, 0))) (hy : V[p]? = some y) (t s q o v : Int) :
  (((((W.setCell ⟨eb, p * 5, none⟩ (.int .i64 t)).setCell ⟨eb, p * 5 + 1, none⟩ (.int .i64 s)).setCell ⟨eb, p * 5 + 2, none⟩ (.int .i64 q)).setCell ⟨eb, p * 5 + 3, none⟩ (.int .i64 o)).setCell ⟨eb, p * 5 + 4, none⟩ (.int .i64 v)).heap[eb]? = some (.cells (flatEv (V.set p ⟨⟨t, s, q⟩, o, v⟩)).toArray ty (0, 0)) := by
 have h1 := heap_set_cell (o := p * 5) h (.int .i64 t)
 have h2 := heap_set_cell (o := p * 5 + 1) h1 (.int .i64 s)
 have h3 := heap_set_cell (o := p * 5 + 2) h2 (.int .i64 q)
 have h4 := heap_set_cell (o := p * 5 + 3) h3 (.int .i64 o)
 have h5 := heap_set_cell (o := p * 5 + 4) h4 (.int .i64 v)
 rw [h5]
 simp only [List.setIfInBounds_toArray]
 rw [flatEv_set5 hy]
/-- A queue's parts are apart. -/
structure Parts (qb sb pb hb ba eb mb : Nat) (hv : Value) : Prop where
 q : ¬ lfoot sb pb qb
 e : ¬ lfoot sb pb eb
 m : ¬ lfoot sb pb mb
 h : ∀ k, foot hb ba hv k → ¬ lfoot sb pb k
 eq : qb ≠ eb
 em : mb ≠ eb
 qm : qb ≠ mb
 he : ∀ k, foot hb ba hv k → k ≠ eb ∧ k ≠ mb ∧ k ≠ qb
theorem QIn.parts (h : QIn w qb sb pb hb ba eb mb hv n T X F P first V) : Parts qb sb pb hb ba eb mb hv := by
 have h1 := h.ne
 have h2 := h.nev
 simp only [List.nodup_cons, List.mem_cons, List.not_mem_nil, or_false, not_or, List.nodup_nil, and_true, not_false_eq_true] at h1 h2
 obtain ⟨⟨a1, a2, a3, a4, a5, a6⟩, ⟨b1, b2, b3, b4, b5⟩, ⟨c1, c2, c3, c4⟩, ⟨d1, d2, d3⟩, ⟨e1, e2⟩, f1⟩ := h1
 have key : ∀ k, foot hb ba hv k → (k ≠ qb ∧ k ≠ sb ∧ k ≠ pb ∧ k ≠ eb ∧ k ≠ mb) := by
  rintro k (rfl | rfl | hk)
  ·exact ⟨fun e => a3 e.symm, fun e => b2 e.symm, fun e => c1 e.symm, d2, d3⟩
  ·exact ⟨fun e => a4 e.symm, fun e => b3 e.symm, fun e => c2 e.symm, e1, e2⟩
  ·obtain ⟨g1, g2, g3, g4, g5, g6, g7⟩ := h2 k hk
   exact ⟨g1, g2, g3, g6, g7⟩
 refine ⟨fun h => h.elim a1 a2, fun h => h.elim (fun e => b4 e.symm) (fun e => c3 e.symm), fun h => h.elim (fun e => b5 e.symm) (fun e => c4 e.symm), fun k hk => ?_, a5, fun e => f1 e.symm, a6, fun k hk => ?_⟩
 ·obtain ⟨g1, g2, g3, g4, g5⟩ := key k hk
  exact fun h => h.elim g2 g3
 ·obtain ⟨g1, g2, g3, g4, g5⟩ := key k hk
  exact ⟨g4, g5, g1⟩
theorem of_any (x : Ev) (w : World) : Calls Tryz.prog 82 #[evV x] w fun e w' => e = .returned (nameV x.name) ∧ Fr0 none' w w' := by
 unfold evV
 go_enter Tryz.func82, Tryz.ntmps82
 go_wp2_with fail
 obtain ⟨VV, hVV⟩ : ∃ VV, ((w.alloc (.cells #[.int .i64 x.key.time, .int .i64 x.key.source, .int .i64 x.key.seq, .int .i64 x.to, .int .i64 x.value] 30)).alloc (.cells #[.int .i64 x.key.source, .int .i64 x.key.seq] 164)) = VV := ⟨_, rfl⟩
 have hf : Fr0 none' w VV := by rw [← hVV]; exact ((Fr0.refl _ _).alloc _).alloc _
 have hb : VV.heap[w.heap.size + 1]? = some (.cells #[.int .i64 x.key.source, .int .i64 x.key.seq] 164 (0, 0)) := by
  rw [← hVV]
  have := World.alloc_heap_new (w.alloc (.cells #[.int .i64 x.key.time, .int .i64 x.key.source, .int .i64 x.key.seq, .int .i64 x.to, .int .i64 x.value] 30)) (.cells #[.int .i64 x.key.source, .int .i64 x.key.seq] 164)
  rwa [World.size_alloc] at this
 rw [hVV]
 have y0 := cells_in hb 0
 have y1 := cells_in hb 1
 simp at y0 y1
 exact bodyPost_ret (v := nameV x.name) (by simp [results, Tryz.results82, go_sem, y0, y1, nameV, Ev.name]) rfl ⟨rfl, hf⟩
set_option maxHeartbeats 1000000 in
theorem Qput_is {p : Nat} {x : Ev} (h : QIn w qb sb pb hb ba eb mb hv n T X (p :: F) P first V) (hr : RightE x) (hn : ∀ y ∈ X, y.1.name ≠ x.name) (hT : T < 4294967295) :
  Calls Tryz.prog 60 #[.pointer (some ⟨qb, 0, none⟩), evV x] w fun e w' => e = .returned (.tuple #[]) ∧ ∃ pl hv', P[p]? = some pl ∧ QIn w' qb sb pb hb ba eb mb hv' n (T + 1) (insX (x, p) X) F (P.set p ⟨pl.life + 1, true, -1⟩) pl.next (V.set p x) ∧ Fr0 (qfoot qb sb pb hb ba eb mb hv) w w' ∧ ∀ g, hv'.ownBlock = some g → hv.ownBlock = some g ∨ w.heap.size ≤ g := by
 obtain ⟨_, pl, hpl, _⟩ := h.ok.take x
 have H := Lib.hid h
 have Hpl := Lib.hid hpl
 have HS := Lib.hid (fun (W : World) (hf : Fr0 none' w W) => STake_is (h.sl.later hf) h.ok.chain (List.nodup_append.1 h.ok.nodup).1 hpl (fun p x hx => by have := h.ok.life p x hx; omega))
 have HC := Lib.hid (fun (W : World) (hf : Fr0 none' w W) => (h.fr0 hf (fun _ _ h => h)).c0)
 have c0 := HC.out (w.alloc (.cells #[.int .i64 x.key.time, .int .i64 x.key.source, .int .i64 x.key.seq, .int .i64 x.to, .int .i64 x.value] 30)) ((Fr0.refl _ _).alloc _)
 clear h hpl
 unfold evV
 go_enter Tryz.func60, Tryz.ntmps60
 go_wp2_with fail
 obtain ⟨q, hq⟩ : ∃ q, w.heap.size = q := ⟨_, rfl⟩
 obtain ⟨W1, hW1⟩ : ∃ W, w.alloc (.cells #[.int .i64 x.key.time, .int .i64 x.key.source, .int .i64 x.key.seq, .int .i64 x.to, .int .i64 x.value] 30) = W := ⟨_, rfl⟩
 have hb1 := Lib.hid (show W1.heap[q]? = some (.cells #[.int .i64 x.key.time, .int .i64 x.key.source, .int .i64 x.key.seq, .int .i64 x.to, .int .i64 x.value] 30 (0, 0)) by rw [← hW1, ← hq]; exact World.alloc_heap_new w _)
 have F1 := Lib.hid (show Fr0 none' w W1 by rw [← hW1]; exact (Fr0.refl _ _).alloc _)
 rw [hW1]
 try rw [hq]
 have Hq := Lib.hid hq
 clear hW1 hq
 refine (HS.out _ F1.out).mono ?_
 rintro e W2 ⟨rfl, hsl, hf2⟩
 have Hsl := Lib.hid hsl
 have F2 := Lib.hid hf2
 clear hsl hf2 c0
 go_wp2_with fail
 obtain ⟨q2, hq2⟩ : ∃ q2, W2.heap.size = q2 := ⟨_, rfl⟩
 obtain ⟨W3, hW3⟩ : ∃ W, W2.alloc (.cells #[.int .i64 p, .int .i64 ((pl.life : Int) + 1)] 161) = W := ⟨_, rfl⟩
 have hb2 := Lib.hid (show W3.heap[q2]? = some (.cells #[.int .i64 p, .int .i64 ((pl.life : Int) + 1)] 161 (0, 0)) by rw [← hW3, ← hq2]; exact World.alloc_heap_new W2 _)
 have F3 := Lib.hid (show Fr0 none' W2 W3 by rw [← hW3]; exact (Fr0.refl _ _).alloc _)
 rw [hW3]
 try rw [hq2]
 have Hq2 := Lib.hid hq2
 clear hW3 hq2
 have F13 := Lib.hid (F2.out.trans' F3.out (fun _ _ h => h.elim))
 have f3 : Fr0 (lfoot sb pb) w W3 := (F1.out.mono (fun _ _ h => h.elim)).trans (F2.out.trans' F3.out (fun _ _ h => h.elim))
 have HP := Lib.hid H.out.parts
 have hl := H.out.lt
 have hd3 := Lib.hid ((f3.block qb (hl _ (.inl rfl)) HP.out.q).trans H.out.hd)
 have ev3 := Lib.hid ((f3.block eb (hl _ (.inr (.inr (.inr (.inl rfl))))) HP.out.e).trans H.out.ev)
 have nm3 := Lib.hid (H.out.nm.fr0 f3 HP.out.m)
 have hp3 := Lib.hid (H.out.hp.fr0 f3 HP.out.h)
 have sl3 := Lib.hid (Hsl.out.later F3.out)
 have hpn : p < n := H.out.ok.flt List.mem_cons_self
 obtain ⟨y, hy⟩ : ∃ y, V[p]? = some y := ⟨_, List.getElem?_eq_getElem (by rw [H.out.vl]; exact hpn)⟩
 have HY := Lib.hid hy
 have hbx := (F13.out.block q (Array.getElem?_eq_some_iff.1 hb1.out).1 (fun h => by have := H.out.sl.lt q h; have := Hq.out; omega)).trans hb1.out
 have Hbx := Lib.hid hbx
 have F3w := Lib.hid f3
 have x0 := cells_in hbx 0
 have x1 := cells_in hbx 1
 have x2 := cells_in hbx 2
 have x3 := cells_in hbx 3
 have x4 := cells_in hbx 4
 simp at x0 x1 x2 x3 x4
 have r0 := cells_in hb2.out 0
 have r1 := cells_in hb2.out 1
 simp at r0 r1
 have c2 : W3.cell? ⟨qb, 2, none⟩ = some (.slice (some ⟨eb, 0, none⟩) n n) := by rw [cells_in hd3.out]; rfl
 have y0 : W3.cell? ⟨eb, p * 5, none⟩ = some (.int .i64 y.key.time) := by rw [cells_in ev3.out, List.getElem?_toArray]; exact flat_some cev_len hy (j := 0) (by omega) rfl
 have y1 : W3.cell? ⟨eb, p * 5 + 1, none⟩ = some (.int .i64 y.key.source) := by rw [cells_in ev3.out, List.getElem?_toArray]; exact flat_some cev_len hy (j := 1) (by omega) rfl
 have y2 : W3.cell? ⟨eb, p * 5 + 2, none⟩ = some (.int .i64 y.key.seq) := by rw [cells_in ev3.out, List.getElem?_toArray]; exact flat_some cev_len hy (j := 2) (by omega) rfl
 have y3 : W3.cell? ⟨eb, p * 5 + 3, none⟩ = some (.int .i64 y.to) := by rw [cells_in ev3.out, List.getElem?_toArray]; exact flat_some cev_len hy (j := 3) (by omega) rfl
 have y4 : W3.cell? ⟨eb, p * 5 + 4, none⟩ = some (.int .i64 y.value) := by rw [cells_in ev3.out, List.getElem?_toArray]; exact flat_some cev_len hy (j := 4) (by omega) rfl
 have t0 := thaw_in ev3.out (p * 5)
 have t1 := thaw_in ev3.out (p * 5 + 1)
 have t2 := thaw_in ev3.out (p * 5 + 2)
 have t3 := thaw_in ev3.out (p * 5 + 3)
 have t4 := thaw_in ev3.out (p * 5 + 4)
 have z1 : (0 : Int) ≤ (p : Int) := by omega
 have z2 : (p : Int) < (n : Int) := by omega
 clear f3 hl hpn hy hbx
 go_still_tail 8, (by kernel_rfl)
 change wpList _ _ _ _ _ W3.drew
 go_wp2_with fail
 obtain ⟨W4, hW4⟩ : ∃ W, (((((W3.setCell ⟨eb, p * 5, none⟩ (.int .i64 x.key.time)).setCell ⟨eb, p * 5 + 1, none⟩ (.int .i64 x.key.source)).setCell ⟨eb, p * 5 + 2, none⟩ (.int .i64 x.key.seq)).setCell ⟨eb, p * 5 + 3, none⟩ (.int .i64 x.to)).setCell ⟨eb, p * 5 + 4, none⟩ (.int .i64 x.value)) = W := ⟨_, rfl⟩
 rw [hW4]
 have ev4 := Lib.hid (show W4.heap[eb]? = some (.cells (flatEv (V.set p x)).toArray 30 (0, 0)) by rw [← hW4]; exact ev_row5 ev3.out HY.out _ _ _ _ _)
 have f4 : Fr0 (fun k => k = eb) W3 W4 := by rw [← hW4]; exact (((((Fr0.refl (fun k => k = eb) W3).setCell (fun _ => rfl) _).setCell (fun _ => rfl) _).setCell (fun _ => rfl) _).setCell (fun _ => rfl) _).setCell (fun _ => rfl) _
 have hqe : q ≠ eb := fun e => by have := H.out.lt eb (.inr (.inr (.inr (.inl rfl)))); have := Hq.out; omega
 have hq2e : q2 ≠ eb := fun e => by have := H.out.lt eb (.inr (.inr (.inr (.inl rfl)))); have := F1.out.size; have := F2.out.size; have := Hq2.out; omega
 have hd4 := Lib.hid ((f4.block qb (Array.getElem?_eq_some_iff.1 hd3.out).1 HP.out.eq).trans hd3.out)
 have nm4 := Lib.hid (nm3.out.fr0 f4 HP.out.em)
 have hp4 := Lib.hid (hp3.out.fr0 f4 (fun k hk => (HP.out.he k hk).1))
 have sl4 := Lib.hid (sl3.out.fr0 f4 (fun k hk e => HP.out.e (e ▸ hk)))
 have bx4 := Lib.hid ((f4.block q (Array.getElem?_eq_some_iff.1 Hbx.out).1 hqe).trans Hbx.out)
 have br4 := Lib.hid ((f4.block q2 (Array.getElem?_eq_some_iff.1 hb2.out).1 hq2e).trans hb2.out)
 have F4 := Lib.hid f4
 clear hW4 f4 x0 x1 x2 x3 x4 r0 r1 c2 y0 y1 y2 y3 y4 t0 t1 t2 t3 t4 z1 z2 hqe hq2e
 have Skey := Lib.hid (show ∀ W', (∀ k, k = qb ∨ k = q ∨ k = q2 → W'.heap[k]? = W4.heap[k]?) → W'.cell? ⟨qb, 3, none⟩ = some (.map (some mb)) ∧ EAt W' q 0 x ∧ W'.cell? ⟨q2, 0, none⟩ = some (.int .i64 p) ∧ W'.cell? ⟨q2, 1, none⟩ = some (.int .i64 ((pl.life : Int) + 1)) from fun W' hf => by
  have g1 := (hf qb (.inl rfl)).trans hd4.out
  have g2 := (hf q (.inr (.inl rfl))).trans bx4.out
  have g3 := (hf q2 (.inr (.inr rfl))).trans br4.out
  refine ⟨by rw [cells_in g1]; rfl, ⟨?_, ?_, ?_, ?_, ?_⟩, by rw [cells_in g3]; rfl, by rw [cells_in g3]; rfl⟩ <;> rw [cells_in g2] <;> rfl)
 refine wp_region_held_drew (S := fun W' => W'.cell? ⟨qb, 3, none⟩ = some (.map (some mb)) ∧ EAt W' q 0 x ∧ W'.cell? ⟨q2, 0, none⟩ = some (.int .i64 p) ∧ W'.cell? ⟨q2, 1, none⟩ = some (.int .i64 ((pl.life : Int) + 1))) (by kernel_rfl) (Skey.out _ (fun _ _ => rfl)) (fun hHeld => ?_)
 refine tkn (i := 0) (v := .pointer (some ⟨qb, 0, none⟩)) (fun W' hSW => ?_) ?_
 ·(try dsimp only at hSW)
  first | (go_simp; done) | (obtain ⟨s0, ⟨s1, s2, s3, s4, s5⟩, s6, s7⟩ := hSW; (try simp only [Nat.zero_add] at s1 s2 s3 s4 s5); (try simp only [evV]); go_simp; done) | exact rfl | (go_simp; rfl) | (go_simp; omega)
 try simp only[pUt,pUn,sEt,sEz,sEs]
 refine tkn (i := 1) (v := .pointer (some ⟨qb, 0, none⟩)) (fun W' hSW => ?_) ?_
 ·(try dsimp only at hSW)
  first | (go_simp; done) | (obtain ⟨s0, ⟨s1, s2, s3, s4, s5⟩, s6, s7⟩ := hSW; (try simp only [Nat.zero_add] at s1 s2 s3 s4 s5); (try simp only [evV]); go_simp; done) | exact rfl | (go_simp; rfl) | (go_simp; omega)
 try simp only[pUt,pUn,sEt,sEz,sEs]
 refine tkn (i := 2) (v := .pointer (some ⟨qb, 3, none⟩)) (fun W' hSW => ?_) ?_
 ·(try dsimp only at hSW)
  first | (go_simp; done) | (obtain ⟨s0, ⟨s1, s2, s3, s4, s5⟩, s6, s7⟩ := hSW; (try simp only [Nat.zero_add] at s1 s2 s3 s4 s5); (try simp only [evV]); go_simp; done) | exact rfl | (go_simp; rfl) | (go_simp; omega)
 try simp only[pUt,pUn,sEt,sEz,sEs]
 refine tkn (i := 3) (v := .map (some mb)) (fun W' hSW => ?_) ?_
 ·(try dsimp only at hSW)
  first | (go_simp; done) | (obtain ⟨s0, ⟨s1, s2, s3, s4, s5⟩, s6, s7⟩ := hSW; (try simp only [Nat.zero_add] at s1 s2 s3 s4 s5); (try simp only [evV]); go_simp; done) | exact rfl | (go_simp; rfl) | (go_simp; omega)
 try simp only[pUt,pUn,sEt,sEz,sEs]
 refine tkn (i := 4) (v := evV x) (fun W' hSW => ?_) ?_
 ·(try dsimp only at hSW)
  first | (go_simp; done) | (obtain ⟨s0, ⟨s1, s2, s3, s4, s5⟩, s6, s7⟩ := hSW; (try simp only [Nat.zero_add] at s1 s2 s3 s4 s5); (try simp only [evV]); go_simp; done) | exact rfl | (go_simp; rfl) | (go_simp; omega)
 try simp only[pUt,pUn,sEt,sEz,sEs]
 refine tkn (i := 6) (v := .agg #[.int .i64 p, .int .i64 ((pl.life : Int) + 1)]) (fun W' hSW => ?_) ?_
 ·(try dsimp only at hSW)
  first | (go_simp; done) | (obtain ⟨s0, ⟨s1, s2, s3, s4, s5⟩, s6, s7⟩ := hSW; (try simp only [Nat.zero_add] at s1 s2 s3 s4 s5); (try simp only [evV]); go_simp; done) | exact rfl | (go_simp; rfl) | (go_simp; omega)
 try simp only[pUt,pUn,sEt,sEz,sEs]
 refine take_call (i := 5) rfl (by kernel_rfl) (by kernel_rfl) (fun K hK => ?_)
 go_simp
 refine (of_any x _).mono ?_
 rintro e w5 ⟨rfl, hf5⟩
 have hlt4 : ∀ k, k = qb ∨ k = q ∨ k = q2 → k < W4.heap.size := fun k hk => by
  rcases hk with rfl | rfl | rfl
  ·exact (Array.getElem?_eq_some_iff.1 hd4.out).1
  ·exact (Array.getElem?_eq_some_iff.1 bx4.out).1
  ·exact (Array.getElem?_eq_some_iff.1 br4.out).1
 have f45 : Fr0 none' W4 w5 := (Fr0.refl none' W4).drew.drew.trans hf5
 have F45 := Lib.hid f45
 refine hK.out _ _ (Skey.out _ (fun k hk => f45.block k (hlt4 k hk) id)) (fun hHeld2 => ?_)
 clear hK K hf5
 try simp only[pUt,pUn,sEt,sEz,sEs]
 have hnp : ∀ y ∈ X, y.2 ≠ p := fun y hy e => (List.nodup_cons.1 H.out.ok.nodup).1 (List.mem_append_right _ (List.mem_map.2 ⟨y, hy, e⟩))
 have hpl' : (P.set p ⟨pl.life + 1, true, -1⟩)[p]? = some ⟨pl.life + 1, true, -1⟩ := List.getElem?_set_self (List.getElem?_eq_some_iff.1 Hpl.out).1
 have nm5 : NamesIs Tryz.prog 164 w5 mb X (lifeP (P.set p ⟨pl.life + 1, true, -1⟩)) := (nm4.out.fr0 f45 id).congr (fun y hy => by
  unfold lifeP
  rw [List.getElem?_set_ne (Ne.symm (hnp y hy))])
 obtain ⟨hi1, hi2⟩ := rightE_i64 hr
 obtain ⟨kl, hkl⟩ := name_key_is hi1 hi2
 obtain ⟨w6, hrun, nm6, f56⟩ := nm5.put (Go.Maps.Keyed.of_law name_law) Tryz.underlying40 (x, p) hn (by have := H.out.ok.count; have := H.out.n256; unfold maxLen; omega) hkl
 rw [lifeP_at hpl'] at hrun
 have hrun2 : (Instr.mapUpdate 40 (.map (some mb)) (nameV x.name) (.agg #[.int .i64 p, .int .i64 ((pl.life : Int) + 1)])).run Tryz.prog w5 = .ok () w6 := hrun
 have Nm6 := Lib.hid nm6
 have F56 := Lib.hid f56
 have hk6 : ∀ k, k = qb ∨ k = q ∨ k = q2 → w6.heap[k]? = W4.heap[k]? := fun k hk => by
  refine (f56.block k (Nat.lt_of_lt_of_le (hlt4 k hk) f45.size) (fun e => ?_)).trans (f45.block k (hlt4 k hk) id)
  have h1 := H.out.lt mb (.inr (.inr (.inr (.inr (.inl rfl)))))
  have h2 := Hq.out
  have h3 := Hq2.out
  have h4 := F1.out.size
  have h5 := F2.out.size
  rcases hk with rfl | rfl | rfl
  ·exact HP.out.qm e
  ·omega
  ·omega
 refine take_call (i := 7) rfl (by kernel_rfl) (by kernel_rfl) (fun K hK => ?_)
 clear hrun nm6 f56 nm5 hnp hpl' hkl hi1 hi2 f45
 go_simp
 refine hK.out _ _ (Skey.out _ hk6) (fun hHeld3 => ?_)
 clear hK K hrun2
 try simp only[pUt,pUn,sEt,sEz,sEs]
 refine wpAnyH_done (by kernel_rfl) ?_ _
 obtain ⟨_, ⟨x0, x1, x2, x3, x4⟩, r0, r1⟩ := hHeld3
 have Hk6 := Lib.hid hk6
 clear hHeld hHeld2 hk6
 simp only [Nat.zero_add] at x0 x1 x2 x3 x4
 go_wp2_with fail
 have hd6 := (Hk6.out qb (.inl rfl)).trans hd4.out
 have c1 : w6.cell? ⟨qb, 1, none⟩ = some (.pointer (some ⟨hb, 0, none⟩)) := by rw [cells_in hd6]; rfl
 have hnm : ∀ k, k = mb → ¬ foot hb ba hv k := fun k e hk => (HP.out.he k hk).2.1 e
 have hp6 : HeapIs w6.drew hb ba hv n (X.map entX) := ((hp4.out.fr0 F45.out (fun _ _ h => h)).fr0 F56.out (fun k hk e => hnm k e hk)).later0 (Fr0.refl none' w6).drew
 have hpn : p < n := H.out.ok.flt List.mem_cons_self
 have her : errP n (X.map entX) (p : Int) = 6 := by
  unfold errP
  rw [if_neg (by omega), if_pos]
  rw [look_none]
  intro z hz
  obtain ⟨y, hy, rfl⟩ := List.mem_map.1 hz
  show y.2 ≠ _
  rw [Int.toNat_natCast]
  exact fun e => (List.nodup_cons.1 H.out.ok.nodup).1 (List.mem_append_right _ (List.mem_map.2 ⟨y, hy, e⟩))
 have HPut := Put_is hp6 (p : Int) x.key
 rw [show putL n (X.map entX) (p : Int) x.key = insL ⟨x.key, p⟩ (X.map entX) by unfold putL; rw [if_pos her, Int.toNat_natCast], show putE n (X.map entX) (p : Int) = 0 by unfold putE; rw [her]; rfl] at HPut
 have HPut := Lib.hid HPut
 clear hd6 hp6 her hpn
 go_still_tail 8, (by kernel_rfl)
 change wpList _ _ _ _ _ w6.drew
 go_wp2_with fail
 refine HPut.out.mono ?_
 rintro e w7 ⟨rfl, hv', hp7, hs7⟩
 have f7 := hs7.fr.to0
 have f67 : Fr0 (foot hb ba hv) w6 w7 := (Fr0.refl (foot hb ba hv) w6).drew.trans f7
 have qn : ¬ foot hb ba hv qb := fun hk => (HP.out.he _ hk).2.2 rfl
 have en : ¬ foot hb ba hv eb := fun hk => (HP.out.he _ hk).1 rfl
 have mn : ¬ foot hb ba hv mb := fun hk => (HP.out.he _ hk).2.1 rfl
 have q6 := (Hk6.out qb (.inl rfl)).trans hd4.out
 have q7 : w7.heap[qb]? = w.heap[qb]? := (f67.block qb (Array.getElem?_eq_some_iff.1 q6).1 qn).trans (q6.trans H.out.hd.symm)
 have e6 : w6.heap[eb]? = some (.cells (flatEv (V.set p x)).toArray 30 (0, 0)) := (F56.out.block eb (Nat.lt_of_lt_of_le (Array.getElem?_eq_some_iff.1 ev4.out).1 F45.out.size) (fun e => HP.out.em e.symm)).trans ((F45.out.block eb (Array.getElem?_eq_some_iff.1 ev4.out).1 id).trans ev4.out)
 have e7 := (f67.block eb (Array.getElem?_eq_some_iff.1 e6).1 en).trans e6
 have nm7 := Nm6.out.fr0 f67 mn
 have sl7 := ((sl4.out.later F45.out).fr0 F56.out (fun k hk e => HP.out.m (e ▸ hk))).fr0 f67 (fun k hk hf => HP.out.h k hf hk)
 have hsz : w.heap.size ≤ w6.heap.size := Nat.le_trans F3w.out.size (Nat.le_trans F4.out.size (Nat.le_trans F45.out.size F56.out.size))
 have own7 : ∀ g, hv'.ownBlock = some g → hv.ownBlock = some g ∨ w.heap.size ≤ g := fun g hg => (hs7.own g hg).imp id (fun h => Nat.le_trans hsz h)
 have hfin := Lib.hid (H.out.added (W := w7) (hv' := hv') Hpl.out hr hn q7 sl7 hp7 e7 nm7 own7)
 have hfr := Lib.hid (show Fr0 (qfoot qb sb pb hb ba eb mb hv) w w7 from ((((F3w.out.mono (fun k _ hk => by rcases hk with rfl | rfl; exact .inr (.inl rfl); exact .inr (.inr (.inl rfl)))).trans (F4.out.mono (fun k _ hk => .inr (.inr (.inr (.inl hk)))))).trans (F45.out.mono (fun _ _ h => h.elim))).trans (F56.out.mono (fun k _ hk => .inr (.inr (.inr (.inr (.inl hk))))))).trans (f67.mono (fun k _ hk => .inr (.inr (.inr (.inr (.inr hk)))))))
 have Own7 := Lib.hid own7
 clear q6 q7 e6 e7 nm7 sl7 hsz own7 f67 f7 qn en mn hp7 hs7
 go_wp2_with fail
 go_end0
 exact ⟨rfl, pl, hv', Hpl.out, hfin.out, hfr.out, Own7.out⟩
end Go.Proofs.YtieeloealklkgaaGreat

/-
  The queue: remove.
-/
namespace Go.Proofs.YtieeloealklkgaaGreat
open Go Go.RowKit Go.ChangeMaps
attribute [local go_sem ↓] Go.wp_at_zero Go.wp_at_succ
attribute [local go_sem] Oper.semAt_some wide_fn wide_depth wide_fnR wide_depthR
variable {w : World} {qb sb pb hb ba eb mb n T : Nat} {hv : Value} {X : List Pd} {F : List Nat} {P : List Pl} {first : Int} {V : List Ev}

set_option maxHeartbeats 1000000 in
theorem Qremove_is {y : Pd} {pl : Pl} (h : QIn w qb sb pb hb ba eb mb hv n T X F P first V) (hy : y ∈ X) (hpl : P[y.2]? = some pl) (hT : T < 4294967296) :
  Calls Tryz.prog 158 #[.pointer (some ⟨qb, 0, none⟩), .agg #[.int .i64 y.2, .int .i64 pl.life]] w fun e w' => e = .returned (evV y.1) ∧ ∃ hv', QIn w' qb sb pb hb ba eb mb hv' n T (delX y.2 X) (y.2 :: F) (P.set y.2 ⟨pl.life, false, first⟩) y.2 (V.set y.2 noEv) ∧ Fr0 (qfoot qb sb pb hb ba eb mb hv) w w' ∧ ∀ g, hv'.ownBlock = some g → hv.ownBlock = some g ∨ w.heap.size ≤ g := by
 obtain ⟨x, p⟩ := y
 have hlife : pl.life < 4294967296 := Nat.lt_of_le_of_lt (h.ok.life p pl hpl) hT
 have htk : pl.taken = true := by
  obtain ⟨z, h1, h2⟩ := h.ok.tk _ hy
  rw [hpl] at h1
  cases h1
  exact h2
 have hvx := h.vx _ hy
 have H := Lib.hid h
 have Hy := Lib.hid hy
 have Hpl := Lib.hid hpl
 have Htk := Lib.hid htk
 have Hlf := Lib.hid hlife
 have Hvx := Lib.hid hvx
 have HP := Lib.hid h.parts
 have hpn : p < n := h.ok.xlt hy
 have Hpn := Lib.hid hpn
 simp only at hpl hvx ⊢
 clear h hy hpl htk hvx hlife
 unfold evV
 go_enter Tryz.func158, Tryz.ntmps158
 go_wp2_with fail
 obtain ⟨q2, hq2⟩ : ∃ q2, w.heap.size = q2 := ⟨_, rfl⟩
 obtain ⟨W1, hW1⟩ : ∃ W, ((w.alloc (.cells #[.int .i64 p, .int .i64 pl.life] 161)).alloc (.cells #[.int .i64 0, .int .i64 0, .int .i64 0, .int .i64 0, .int .i64 0] 30)) = W := ⟨_, rfl⟩
 have br1 := Lib.hid (show W1.heap[q2]? = some (.cells #[.int .i64 p, .int .i64 pl.life] 161 (0, 0)) by rw [← hW1, ← hq2]; exact (Below.heap_alloc _ _ _ (by simp)).trans (World.alloc_heap_new w _))
 have bo1 := Lib.hid (show W1.heap[q2 + 1]? = some (.cells #[.int .i64 0, .int .i64 0, .int .i64 0, .int .i64 0, .int .i64 0] 30 (0, 0)) by rw [← hW1, ← hq2]; have := World.alloc_heap_new (w.alloc (.cells #[.int .i64 p, .int .i64 pl.life] 161)) (.cells #[.int .i64 0, .int .i64 0, .int .i64 0, .int .i64 0, .int .i64 0] 30); rwa [World.size_alloc] at this)
 have F1 := Lib.hid (show Fr0 none' w W1 by rw [← hW1]; exact ((Fr0.refl _ _).alloc _).alloc _)
 have Hz1 := Lib.hid (show W1.heap.size = q2 + 2 by rw [← hW1, ← hq2]; simp)
 rw [hW1]
 try rw [hq2]
 have Hq2 := Lib.hid hq2
 clear hW1 hq2
 have h1 := H.out.fr0 F1.out (fun _ _ h => h)
 have H1 := Lib.hid h1
 have Skey := Lib.hid (show ∀ W', (∀ k, k = qb ∨ k = eb ∨ k = q2 → W'.heap[k]? = W1.heap[k]?) → W'.cell? ⟨qb, 2, none⟩ = some (.slice (some ⟨eb, 0, none⟩) n n) ∧ EAt W' eb (p * 5) x ∧ W'.cell? ⟨q2, 0, none⟩ = some (.int .i64 p) from fun W' hf => by
  refine ⟨?_, ?_, ?_⟩
  ·rw [cells_in ((hf qb (.inl rfl)).trans H1.out.hd)]; rfl
  ·obtain ⟨e0, e1, e2, e3, e4⟩ := H1.out.event Hvx.out
   have hb' := hf eb (.inr (.inl rfl))
   exact ⟨(World.cell?_of_block (w := W1) hb').trans e0, (World.cell?_of_block (w := W1) hb').trans e1, (World.cell?_of_block (w := W1) hb').trans e2, (World.cell?_of_block (w := W1) hb').trans e3, (World.cell?_of_block (w := W1) hb').trans e4⟩
  ·rw [cells_in ((hf q2 (.inr (.inr rfl))).trans br1.out)]; rfl)
 have hlt1 : ∀ k, k = qb ∨ k = eb ∨ k = q2 → k < W1.heap.size := fun k hk => by
  rcases hk with rfl | rfl | rfl
  ·exact h1.lt _ (.inl rfl)
  ·exact h1.lt _ (.inr (.inr (.inr (.inl rfl))))
  ·exact (Array.getElem?_eq_some_iff.1 br1.out).1
 have Hlt1 := Lib.hid hlt1
 have z1 : (0 : Int) ≤ (p : Int) := by omega
 have z2 : (p : Int) < (n : Int) := by omega
 clear h1 hpn hlt1
 refine wp_region_held_drew (S := fun W' => W'.cell? ⟨qb, 2, none⟩ = some (.slice (some ⟨eb, 0, none⟩) n n) ∧ EAt W' eb (p * 5) x ∧ W'.cell? ⟨q2, 0, none⟩ = some (.int .i64 p)) (by kernel_rfl) (Skey.out _ (fun _ _ => rfl)) (fun hHeld => ?_)
 refine tkn (i := 0) (v := .pointer (some ⟨qb, 0, none⟩)) (fun W' hSW => ?_) ?_
 ·(try dsimp only at hSW)
  first | (go_simp; done) | (obtain ⟨s0, ⟨s1, s2, s3, s4, s5⟩, s6⟩ := hSW; (try simp only [Nat.zero_add] at s1 s2 s3 s4 s5); (try simp only [evV]); go_simp; done) | exact rfl | (go_simp; rfl) | (go_simp; omega)
 try simp only[pUt,pUn,sEt,sEz,sEs]
 refine tkn (i := 1) (v := .pointer (some ⟨qb, 0, none⟩)) (fun W' hSW => ?_) ?_
 ·(try dsimp only at hSW)
  first | (go_simp; done) | (obtain ⟨s0, ⟨s1, s2, s3, s4, s5⟩, s6⟩ := hSW; (try simp only [Nat.zero_add] at s1 s2 s3 s4 s5); (try simp only [evV]); go_simp; done) | exact rfl | (go_simp; rfl) | (go_simp; omega)
 try simp only[pUt,pUn,sEt,sEz,sEs]
 refine tkn (i := 2) (v := .pointer (some ⟨qb, 2, none⟩)) (fun W' hSW => ?_) ?_
 ·(try dsimp only at hSW)
  first | (go_simp; done) | (obtain ⟨s0, ⟨s1, s2, s3, s4, s5⟩, s6⟩ := hSW; (try simp only [Nat.zero_add] at s1 s2 s3 s4 s5); (try simp only [evV]); go_simp; done) | exact rfl | (go_simp; rfl) | (go_simp; omega)
 try simp only[pUt,pUn,sEt,sEz,sEs]
 refine tkn (i := 3) (v := .slice (some ⟨eb, 0, none⟩) n n) (fun W' hSW => ?_) ?_
 ·(try dsimp only at hSW)
  first | (go_simp; done) | (obtain ⟨s0, ⟨s1, s2, s3, s4, s5⟩, s6⟩ := hSW; (try simp only [Nat.zero_add] at s1 s2 s3 s4 s5); (try simp only [evV]); go_simp; done) | exact rfl | (go_simp; rfl) | (go_simp; omega)
 try simp only[pUt,pUn,sEt,sEz,sEs]
 refine tkn (i := 4) (v := .pointer (some ⟨q2, 0, none⟩)) (fun W' hSW => ?_) ?_
 ·(try dsimp only at hSW)
  first | (go_simp; done) | (obtain ⟨s0, ⟨s1, s2, s3, s4, s5⟩, s6⟩ := hSW; (try simp only [Nat.zero_add] at s1 s2 s3 s4 s5); (try simp only [evV]); go_simp; done) | exact rfl | (go_simp; rfl) | (go_simp; omega)
 try simp only[pUt,pUn,sEt,sEz,sEs]
 refine tkn (i := 5) (v := .int .i64 p) (fun W' hSW => ?_) ?_
 ·(try dsimp only at hSW)
  first | (go_simp; done) | (obtain ⟨s0, ⟨s1, s2, s3, s4, s5⟩, s6⟩ := hSW; (try simp only [Nat.zero_add] at s1 s2 s3 s4 s5); (try simp only [evV]); go_simp; done) | exact rfl | (go_simp; rfl) | (go_simp; omega)
 try simp only[pUt,pUn,sEt,sEz,sEs]
 refine tkn (i := 6) (v := .pointer (some ⟨eb, p * 5, none⟩)) (fun W' hSW => ?_) ?_
 ·(try dsimp only at hSW)
  first | (go_simp; done) | (obtain ⟨s0, ⟨s1, s2, s3, s4, s5⟩, s6⟩ := hSW; (try simp only [Nat.zero_add] at s1 s2 s3 s4 s5); (try simp only [evV]); go_simp; done) | exact rfl | (go_simp; rfl) | (go_simp; omega)
 try simp only[pUt,pUn,sEt,sEz,sEs]
 refine tkn (i := 7) (v := evV x) (fun W' hSW => ?_) ?_
 ·(try dsimp only at hSW)
  first | (go_simp; done) | (obtain ⟨s0, ⟨s1, s2, s3, s4, s5⟩, s6⟩ := hSW; (try simp only [Nat.zero_add] at s1 s2 s3 s4 s5); (try simp only [evV]); go_simp; done) | exact rfl | (go_simp; rfl) | (go_simp; omega)
 try simp only[pUt,pUn,sEt,sEz,sEs]
 refine take_call (i := 8) rfl (by kernel_rfl) (by kernel_rfl) (fun K hK => ?_)
 go_simp
 refine hK.out _ _ (Skey.out _ (fun k hk => Below.heap_alloc W1 _ k (Hlt1.out k hk))) (fun hHeld2 => ?_)
 clear hK K
 try simp only[pUt,pUn,sEt,sEz,sEs]
 refine take_call (i := 9) rfl (by kernel_rfl) (by kernel_rfl) (fun K hK => ?_)
 simp only [evV]
 go_simp
 refine hK.out _ _ (Skey.out _ (fun k hk => Below.heap_alloc W1 _ k (Hlt1.out k hk))) (fun hHeld3 => ?_)
 clear hK K hHeld hHeld2 hHeld3
 try simp only[pUt,pUn,sEt,sEz,sEs]
 refine wpAnyH_done (by kernel_rfl) ?_ _
 obtain ⟨q3, hq3⟩ : ∃ q3, W1.heap.size = q3 := ⟨_, rfl⟩
 obtain ⟨W2, hW2⟩ : ∃ W, (W1.alloc (.cells #[.int .i64 x.key.time, .int .i64 x.key.source, .int .i64 x.key.seq, .int .i64 x.to, .int .i64 x.value] 30)).drew = W := ⟨_, rfl⟩
 have bx2 := Lib.hid (show W2.heap[q3]? = some (.cells #[.int .i64 x.key.time, .int .i64 x.key.source, .int .i64 x.key.seq, .int .i64 x.to, .int .i64 x.value] 30 (0, 0)) by rw [← hW2, ← hq3]; exact World.alloc_heap_new W1 _)
 have f12 : Fr0 none' W1 W2 := by rw [← hW2]; exact ((Fr0.refl none' W1).alloc _).drew
 rw [hW2]
 try rw [hq3]
 have Hq3 := Lib.hid hq3
 clear hW2 hq3 Skey Hlt1
 have H2 := Lib.hid (H1.out.fr0 f12 (fun _ _ h => h))
 have br2 := Lib.hid ((f12.block q2 (Array.getElem?_eq_some_iff.1 br1.out).1 id).trans br1.out)
 have bo2 := Lib.hid ((f12.block (q2 + 1) (Array.getElem?_eq_some_iff.1 bo1.out).1 id).trans bo1.out)
 have F2 := Lib.hid (F1.out.trans f12)
 clear f12
 have her : errP n (X.map entX) (p : Int) = 0 := by
  unfold errP
  rw [if_neg (by omega), if_neg]
  rw [Int.toNat_natCast, look_none]
  exact fun hh => hh _ (List.mem_map.2 ⟨_, Hy.out, rfl⟩) rfl
 have hp2 : HeapIs W2.drew hb ba hv n (X.map entX) := H2.out.hp.later0 (Fr0.refl none' W2).drew
 have HRem := Remove_is hp2 (p : Int)
 rw [show delP n (X.map entX) (p : Int) = delL p (X.map entX) by unfold delP; rw [if_pos her, Int.toNat_natCast]] at HRem
 have HRem := Lib.hid HRem
 have c1 := H2.out.c1
 have r0 := cells_in br2.out 0
 have r1 := cells_in br2.out 1
 simp at r0 r1
 clear hp2 her
 go_wp2_with fail
 go_still_tail 6, (by kernel_rfl)
 change wpList _ _ _ _ _ W2.drew
 go_wp2_with fail
 refine HRem.out.mono ?_
 rintro e W3 ⟨rfl, hv', hp3, hs3⟩
 have f23 : Fr0 (foot hb ba hv) W2 W3 := (Fr0.refl (foot hb ba hv) W2).drew.trans hs3.fr.to0
 have own3 := Lib.hid (show ∀ g, hv'.ownBlock = some g → hv.ownBlock = some g ∨ w.heap.size ≤ g from fun g hg => (hs3.own g hg).imp id (fun h => Nat.le_trans F2.out.size h))
 have own3s := Lib.hid (show ∀ g, hv'.ownBlock = some g → hv.ownBlock = some g ∨ W2.heap.size ≤ g from hs3.own)
 have hold : ∀ k, w.heap.size ≤ k → ¬ foot hb ba hv k := fun k hk hf => by have := H.out.lt k (.inr (.inr (.inr (.inr (.inr hf))))); omega
 have hq23 : w.heap.size ≤ q2 ∧ w.heap.size ≤ q3 := by
  have h1 := Hq2.out
  have h2 := Hq3.out
  have h3 := F1.out.size
  omega
 have HQ := Lib.hid hq23
 have br3 := Lib.hid ((f23.block q2 (Array.getElem?_eq_some_iff.1 br2.out).1 (hold _ hq23.1)).trans br2.out)
 have bo3 := Lib.hid ((f23.block (q2 + 1) (Array.getElem?_eq_some_iff.1 bo2.out).1 (hold _ (by omega))).trans bo2.out)
 have bx3 := Lib.hid ((f23.block q3 (Array.getElem?_eq_some_iff.1 bx2.out).1 (hold _ hq23.2)).trans bx2.out)
 have hd3 := Lib.hid ((f23.block qb (Array.getElem?_eq_some_iff.1 H2.out.hd).1 (fun hk => (HP.out.he _ hk).2.2 rfl)).trans H2.out.hd)
 have ev3 := Lib.hid ((f23.block eb (Array.getElem?_eq_some_iff.1 H2.out.ev).1 (fun hk => (HP.out.he _ hk).1 rfl)).trans H2.out.ev)
 have nm3 := Lib.hid (H2.out.nm.fr0 f23 (fun hk => (HP.out.he _ hk).2.1 rfl))
 have sl3 := Lib.hid (H2.out.sl.fr0 f23 (fun k hk hf => HP.out.h k hf hk))
 have hp3 := Lib.hid hp3
 have F3 := Lib.hid (show Fr0 (qfoot qb sb pb hb ba eb mb hv) w W3 from (F2.out.mono (fun _ _ h => h.elim)).trans (f23.mono (fun k _ hk => .inr (.inr (.inr (.inr (.inr hk)))))))
 have HGive := Lib.hid (SGive_is (sl3.out.later (Fr0.refl none' W3).drew) Hpl.out Htk.out Hlf.out (by have := H.out.n256; omega))
 clear c1 r0 r1 hs3 f23 hold hq23
 have c0 : W3.cell? ⟨qb, 0, none⟩ = some (.pointer (some ⟨sb, 0, none⟩)) := by rw [cells_in hd3.out]; rfl
 have r0 := cells_in br3.out 0
 have r1 := cells_in br3.out 1
 simp at r0 r1
 go_wp2_with fail
 go_still_tail 5, (by kernel_rfl)
 change wpList _ _ _ _ _ W3.drew
 go_wp2_with fail
 refine HGive.out.mono ?_
 rintro e W4 ⟨rfl, sl4, f34'⟩
 have f34 : Fr0 (lfoot sb pb) W3 W4 := (Fr0.refl (lfoot sb pb) W3).drew.trans f34'
 have hnl : ∀ k, w.heap.size ≤ k → ¬ lfoot sb pb k := fun k hk hf => by have := H.out.sl.lt k hf; omega
 have sl4 := Lib.hid sl4
 have br4 := Lib.hid ((f34.block q2 (Array.getElem?_eq_some_iff.1 br3.out).1 (hnl _ HQ.out.1)).trans br3.out)
 have bo4 := Lib.hid ((f34.block (q2 + 1) (Array.getElem?_eq_some_iff.1 bo3.out).1 (hnl _ (by have := HQ.out.1; omega))).trans bo3.out)
 have bx4 := Lib.hid ((f34.block q3 (Array.getElem?_eq_some_iff.1 bx3.out).1 (hnl _ HQ.out.2)).trans bx3.out)
 have hd4 := Lib.hid ((f34.block qb (Array.getElem?_eq_some_iff.1 hd3.out).1 HP.out.q).trans hd3.out)
 have ev4 := Lib.hid ((f34.block eb (Array.getElem?_eq_some_iff.1 ev3.out).1 HP.out.e).trans ev3.out)
 have nm4 := Lib.hid (nm3.out.fr0 f34 HP.out.m)
 have hp4 := Lib.hid (hp3.out.fr0 f34 (fun k hk => by
  rcases hk with hk | hk | hk
  ·exact HP.out.h k (.inl hk)
  ·exact HP.out.h k (.inr (.inl hk))
  ·rcases own3.out k hk with h | h
   ·exact HP.out.h k (.inr (.inr h))
   ·exact hnl k h))
 have F4 := Lib.hid (F3.out.trans (f34.mono (fun k _ hk => by rcases hk with rfl | rfl; exact .inr (.inl rfl); exact .inr (.inr (.inl rfl)))))
 clear c0 r0 r1 f34 f34' hnl
 have Skey := Lib.hid (show ∀ W', (∀ k, k = qb ∨ k = q3 → W'.heap[k]? = W4.heap[k]?) → W'.cell? ⟨qb, 3, none⟩ = some (.map (some mb)) ∧ EAt W' q3 0 x ∧ True from fun W' hf => by
  have g1 := (hf qb (.inl rfl)).trans hd4.out
  have g2 := (hf q3 (.inr rfl)).trans bx4.out
  refine ⟨by rw [cells_in g1]; rfl, ⟨?_, ?_, ?_, ?_, ?_⟩, trivial⟩ <;> rw [cells_in g2] <;> rfl)
 have hlt4 : ∀ k, k = qb ∨ k = q3 → k < W4.heap.size := fun k hk => by
  rcases hk with rfl | rfl
  ·exact (Array.getElem?_eq_some_iff.1 hd4.out).1
  ·exact (Array.getElem?_eq_some_iff.1 bx4.out).1
 go_wp2_with fail
 refine wp_region_held_drew (S := fun W' => W'.cell? ⟨qb, 3, none⟩ = some (.map (some mb)) ∧ EAt W' q3 0 x ∧ True) (by kernel_rfl) (Skey.out _ (fun _ _ => rfl)) (fun hHeld => ?_)
 refine tkn (i := 0) (v := .pointer (some ⟨qb, 0, none⟩)) (fun W' hSW => ?_) ?_
 ·(try dsimp only at hSW)
  first | (go_simp; done) | (obtain ⟨s0, ⟨s1, s2, s3, s4, s5⟩, s6⟩ := hSW; (try simp only [Nat.zero_add] at s1 s2 s3 s4 s5); (try simp only [evV]); go_simp; done) | exact rfl | (go_simp; rfl) | (go_simp; omega)
 try simp only[pUt,pUn,sEt,sEz,sEs]
 refine tkn (i := 1) (v := .pointer (some ⟨qb, 0, none⟩)) (fun W' hSW => ?_) ?_
 ·(try dsimp only at hSW)
  first | (go_simp; done) | (obtain ⟨s0, ⟨s1, s2, s3, s4, s5⟩, s6⟩ := hSW; (try simp only [Nat.zero_add] at s1 s2 s3 s4 s5); (try simp only [evV]); go_simp; done) | exact rfl | (go_simp; rfl) | (go_simp; omega)
 try simp only[pUt,pUn,sEt,sEz,sEs]
 refine tkn (i := 2) (v := .pointer (some ⟨qb, 3, none⟩)) (fun W' hSW => ?_) ?_
 ·(try dsimp only at hSW)
  first | (go_simp; done) | (obtain ⟨s0, ⟨s1, s2, s3, s4, s5⟩, s6⟩ := hSW; (try simp only [Nat.zero_add] at s1 s2 s3 s4 s5); (try simp only [evV]); go_simp; done) | exact rfl | (go_simp; rfl) | (go_simp; omega)
 try simp only[pUt,pUn,sEt,sEz,sEs]
 refine tkn (i := 3) (v := .map (some mb)) (fun W' hSW => ?_) ?_
 ·(try dsimp only at hSW)
  first | (go_simp; done) | (obtain ⟨s0, ⟨s1, s2, s3, s4, s5⟩, s6⟩ := hSW; (try simp only [Nat.zero_add] at s1 s2 s3 s4 s5); (try simp only [evV]); go_simp; done) | exact rfl | (go_simp; rfl) | (go_simp; omega)
 try simp only[pUt,pUn,sEt,sEz,sEs]
 refine tkn (i := 4) (v := evV x) (fun W' hSW => ?_) ?_
 ·(try dsimp only at hSW)
  first | (go_simp; done) | (obtain ⟨s0, ⟨s1, s2, s3, s4, s5⟩, s6⟩ := hSW; (try simp only [Nat.zero_add] at s1 s2 s3 s4 s5); (try simp only [evV]); go_simp; done) | exact rfl | (go_simp; rfl) | (go_simp; omega)
 try simp only[pUt,pUn,sEt,sEz,sEs]
 refine take_call (i := 5) rfl (by kernel_rfl) (by kernel_rfl) (fun K hK => ?_)
 go_simp
 refine (of_any x _).mono ?_
 rintro e W5 ⟨rfl, f45'⟩
 have f45 : Fr0 none' W4 W5 := (Fr0.refl none' W4).drew.trans f45'
 have hre := H.out.right _ Hy.out
 obtain ⟨hi1, hi2⟩ := rightE_i64 hre
 obtain ⟨kl, hkl⟩ := name_key_is hi1 hi2
 obtain ⟨W6, hrun, nm6, f56⟩ := (nm4.out.fr0 f45 id).drop (Go.Maps.Keyed.of_law name_law) Tryz.underlying40 Hy.out H.out.once H.out.ok.snd hkl 0
 simp only at hrun nm6
 have hk6 : ∀ k, k = qb ∨ k = q3 → W6.heap[k]? = W4.heap[k]? := fun k hk => by
  refine (f56.block k (Nat.lt_of_lt_of_le (hlt4 k hk) f45.size) (fun e => ?_)).trans (f45.block k (hlt4 k hk) id)
  have h1 := H.out.lt mb (.inr (.inr (.inr (.inr (.inl rfl)))))
  have h2 := HQ.out.2
  rcases hk with rfl | rfl
  ·exact HP.out.qm e
  ·omega
 have Hrun := Lib.hid hrun
 have Nm6 := Lib.hid nm6
 have F56 := Lib.hid f56
 have F45 := Lib.hid f45
 have Hk6 := Lib.hid hk6
 refine hK.out _ _ (Skey.out _ (fun k hk => f45.block k (hlt4 k hk) id)) (fun hHeld2 => ?_)
 clear hK K f45' f45 hrun nm6 f56 hk6 hkl hi1 hi2 hre
 try simp only[pUt,pUn,sEt,sEz,sEs]
 refine take_call (i := 6) rfl (by kernel_rfl) (by kernel_rfl) (fun K hK => ?_)
 have hrun := Hrun.out
 go_simp
 refine hK.out _ _ (Skey.out _ Hk6.out) (fun hHeld3 => ?_)
 clear hK K hrun hHeld hHeld2 hHeld3
 try simp only[pUt,pUn,sEt,sEz,sEs]
 refine wpAnyH_done (by kernel_rfl) ?_ _
 have hmn : ∀ k, w.heap.size ≤ k → k ≠ mb := fun k hk e => by have := H.out.lt mb (.inr (.inr (.inr (.inr (.inl rfl))))); omega
 have F46 := Lib.hid (show Fr0 (fun b => b = mb) W4 W6 from (F45.out.mono (fun _ _ h => h.elim)).trans F56.out)
 have br6 := Lib.hid ((F46.out.block q2 (Array.getElem?_eq_some_iff.1 br4.out).1 (hmn _ HQ.out.1)).trans br4.out)
 have bo6 := Lib.hid ((F46.out.block (q2 + 1) (Array.getElem?_eq_some_iff.1 bo4.out).1 (hmn _ (by have := HQ.out.1; omega))).trans bo4.out)
 have bx6 := Lib.hid ((F46.out.block q3 (Array.getElem?_eq_some_iff.1 bx4.out).1 (hmn _ HQ.out.2)).trans bx4.out)
 have hd6 := Lib.hid ((F46.out.block qb (Array.getElem?_eq_some_iff.1 hd4.out).1 HP.out.qm).trans hd4.out)
 have ev6 := Lib.hid ((F46.out.block eb (Array.getElem?_eq_some_iff.1 ev4.out).1 (fun e => HP.out.em e.symm)).trans ev4.out)
 have sl6 := Lib.hid (sl4.out.fr0 F46.out (fun k hk e => HP.out.m (e ▸ hk)))
 have hp6 := Lib.hid (hp4.out.fr0 F46.out (fun k hk e => by
  rcases hk with hk | hk | hk
  ·exact (HP.out.he k (.inl hk)).2.1 e
  ·exact (HP.out.he k (.inr (.inl hk))).2.1 e
  ·rcases own3.out k hk with h | h
   ·exact (HP.out.he k (.inr (.inr h))).2.1 e
   ·exact hmn k h e))
 have F6 := Lib.hid (F4.out.trans (F46.out.mono (fun k _ hk => .inr (.inr (.inr (.inr (.inl hk)))))))
 clear hmn hlt4 Skey Hk6 F45 F56 F46 Hrun
 have hold : ∀ k, w.heap.size ≤ k → k ≠ eb := fun k hk e => by have := H.out.lt eb (.inr (.inr (.inr (.inl rfl)))); omega
 have Skey := Lib.hid (show ∀ W' : World, (∀ k, k = qb ∨ k = q2 → W'.heap[k]? = W6.heap[k]?) → W'.cell? ⟨qb, 2, none⟩ = some (.slice (some ⟨eb, 0, none⟩) n n) ∧ W'.cell? ⟨q2, 0, none⟩ = some (.int .i64 p) from fun W' hf => by
  refine ⟨?_, ?_⟩
  ·rw [cells_in ((hf qb (.inl rfl)).trans hd6.out)]; rfl
  ·rw [cells_in ((hf q2 (.inr rfl)).trans br6.out)]; rfl)
 have hy := Hvx.out
 have y0 : W6.cell? ⟨eb, p * 5, none⟩ = some (.int .i64 x.key.time) := by rw [cells_in ev6.out, List.getElem?_toArray]; exact flat_some cev_len hy (j := 0) (by omega) rfl
 have y1 : W6.cell? ⟨eb, p * 5 + 1, none⟩ = some (.int .i64 x.key.source) := by rw [cells_in ev6.out, List.getElem?_toArray]; exact flat_some cev_len hy (j := 1) (by omega) rfl
 have y2 : W6.cell? ⟨eb, p * 5 + 2, none⟩ = some (.int .i64 x.key.seq) := by rw [cells_in ev6.out, List.getElem?_toArray]; exact flat_some cev_len hy (j := 2) (by omega) rfl
 have y3 : W6.cell? ⟨eb, p * 5 + 3, none⟩ = some (.int .i64 x.to) := by rw [cells_in ev6.out, List.getElem?_toArray]; exact flat_some cev_len hy (j := 3) (by omega) rfl
 have y4 : W6.cell? ⟨eb, p * 5 + 4, none⟩ = some (.int .i64 x.value) := by rw [cells_in ev6.out, List.getElem?_toArray]; exact flat_some cev_len hy (j := 4) (by omega) rfl
 have t0 := thaw_in ev6.out (p * 5)
 have t1 := thaw_in ev6.out (p * 5 + 1)
 have t2 := thaw_in ev6.out (p * 5 + 2)
 have t3 := thaw_in ev6.out (p * 5 + 3)
 have t4 := thaw_in ev6.out (p * 5 + 4)
 clear hy
 go_wp2_with fail
 refine wp_region_held_drew (S := fun W' => W'.cell? ⟨qb, 2, none⟩ = some (.slice (some ⟨eb, 0, none⟩) n n) ∧ W'.cell? ⟨q2, 0, none⟩ = some (.int .i64 p)) (by kernel_rfl) (Skey.out _ (fun _ _ => rfl)) (fun hHeld => ?_)
 refine tkn (i := 0) (v := .pointer (some ⟨qb, 0, none⟩)) (fun W' hSW => ?_) ?_
 ·(try dsimp only at hSW)
  first | (go_simp; done) | (obtain ⟨s0, ⟨s1, s2, s3, s4, s5⟩, s6⟩ := hSW; (try simp only [Nat.zero_add] at s1 s2 s3 s4 s5); (try simp only [evV]); go_simp; done) | exact rfl | (go_simp; rfl) | (go_simp; omega)
 try simp only[pUt,pUn,sEt,sEz,sEs]
 refine tkn (i := 1) (v := .pointer (some ⟨qb, 0, none⟩)) (fun W' hSW => ?_) ?_
 ·(try dsimp only at hSW)
  first | (go_simp; done) | (obtain ⟨s0, ⟨s1, s2, s3, s4, s5⟩, s6⟩ := hSW; (try simp only [Nat.zero_add] at s1 s2 s3 s4 s5); (try simp only [evV]); go_simp; done) | exact rfl | (go_simp; rfl) | (go_simp; omega)
 try simp only[pUt,pUn,sEt,sEz,sEs]
 refine tkn (i := 2) (v := .pointer (some ⟨qb, 2, none⟩)) (fun W' hSW => ?_) ?_
 ·(try dsimp only at hSW)
  first | (go_simp; done) | (obtain ⟨s0, ⟨s1, s2, s3, s4, s5⟩, s6⟩ := hSW; (try simp only [Nat.zero_add] at s1 s2 s3 s4 s5); (try simp only [evV]); go_simp; done) | exact rfl | (go_simp; rfl) | (go_simp; omega)
 try simp only[pUt,pUn,sEt,sEz,sEs]
 refine tkn (i := 3) (v := .slice (some ⟨eb, 0, none⟩) n n) (fun W' hSW => ?_) ?_
 ·(try dsimp only at hSW)
  first | (go_simp; done) | (obtain ⟨s0, ⟨s1, s2, s3, s4, s5⟩, s6⟩ := hSW; (try simp only [Nat.zero_add] at s1 s2 s3 s4 s5); (try simp only [evV]); go_simp; done) | exact rfl | (go_simp; rfl) | (go_simp; omega)
 try simp only[pUt,pUn,sEt,sEz,sEs]
 refine tkn (i := 4) (v := .pointer (some ⟨q2, 0, none⟩)) (fun W' hSW => ?_) ?_
 ·(try dsimp only at hSW)
  first | (go_simp; done) | (obtain ⟨s0, ⟨s1, s2, s3, s4, s5⟩, s6⟩ := hSW; (try simp only [Nat.zero_add] at s1 s2 s3 s4 s5); (try simp only [evV]); go_simp; done) | exact rfl | (go_simp; rfl) | (go_simp; omega)
 try simp only[pUt,pUn,sEt,sEz,sEs]
 refine tkn (i := 5) (v := .int .i64 p) (fun W' hSW => ?_) ?_
 ·(try dsimp only at hSW)
  first | (go_simp; done) | (obtain ⟨s0, ⟨s1, s2, s3, s4, s5⟩, s6⟩ := hSW; (try simp only [Nat.zero_add] at s1 s2 s3 s4 s5); (try simp only [evV]); go_simp; done) | exact rfl | (go_simp; rfl) | (go_simp; omega)
 try simp only[pUt,pUn,sEt,sEz,sEs]
 refine tkn (i := 6) (v := .agg #[.int .i64 0, .int .i64 0, .int .i64 0, .int .i64 0, .int .i64 0]) (fun W' hSW => ?_) ?_
 ·(try dsimp only at hSW)
  first | (go_simp; done) | (obtain ⟨s0, ⟨s1, s2, s3, s4, s5⟩, s6⟩ := hSW; (try simp only [Nat.zero_add] at s1 s2 s3 s4 s5); (try simp only [evV]); go_simp; done) | exact rfl | (go_simp; rfl) | (go_simp; omega)
 try simp only[pUt,pUn,sEt,sEz,sEs]
 refine tkn (i := 7) (v := .pointer (some ⟨eb, p * 5, none⟩)) (fun W' hSW => ?_) ?_
 ·(try dsimp only at hSW)
  first | (go_simp; done) | (obtain ⟨s0, ⟨s1, s2, s3, s4, s5⟩, s6⟩ := hSW; (try simp only [Nat.zero_add] at s1 s2 s3 s4 s5); (try simp only [evV]); go_simp; done) | exact rfl | (go_simp; rfl) | (go_simp; omega)
 try simp only[pUt,pUn,sEt,sEz,sEs]
 refine take_call (i := 8) rfl (by kernel_rfl) (by kernel_rfl) (fun K hK => ?_)
 go_simp
 obtain ⟨W7, hW7⟩ : ∃ W, (((((W6.setCell ⟨eb, p * 5, none⟩ (.int .i64 0)).setCell ⟨eb, p * 5 + 1, none⟩ (.int .i64 0)).setCell ⟨eb, p * 5 + 2, none⟩ (.int .i64 0)).setCell ⟨eb, p * 5 + 3, none⟩ (.int .i64 0)).setCell ⟨eb, p * 5 + 4, none⟩ (.int .i64 0)) = W := ⟨_, rfl⟩
 try rw [hW7]
 have hde : (W6.setCell ⟨eb, p * 5, none⟩ (.int .i64 0)).heap.size = (W6.setCell ⟨eb, p * 5, none⟩ (.int .i64 0)).heap.size := rfl
 have ev7 := Lib.hid (show W7.heap[eb]? = some (.cells (flatEv (V.set p noEv)).toArray 30 (0, 0)) by rw [← hW7]; exact ev_row5 ev6.out Hvx.out _ _ _ _ _)
 have f67 : Fr0 (fun k => k = eb) W6 W7 := by rw [← hW7]; exact (((((Fr0.refl (fun k => k = eb) W6).setCell (fun _ => rfl) _).setCell (fun _ => rfl) _).setCell (fun _ => rfl) _).setCell (fun _ => rfl) _).setCell (fun _ => rfl) _
 have q7 := (f67.block qb (Array.getElem?_eq_some_iff.1 hd6.out).1 HP.out.eq)
 have r7 := (f67.block q2 (Array.getElem?_eq_some_iff.1 br6.out).1 (hold _ HQ.out.1))
 refine hK.out _ _ (Skey.out _ (fun k hk => by rcases hk with rfl | rfl; exact q7; exact r7)) (fun hHeld2 => ?_)
 clear hK K hHeld hHeld2 y0 y1 y2 y3 y4 t0 t1 t2 t3 t4 Skey hde
 try simp only[pUt,pUn,sEt,sEz,sEs]
 refine wpAnyH_done (by kernel_rfl) ?_ _
 try rw [hW7]
 obtain ⟨W8, hW8⟩ : ∃ W8, W7.drew = W8 := ⟨_, rfl⟩
 have f68 : Fr0 (fun k => k = eb) W6 W8 := by rw [← hW8]; exact f67.drew
 have ev8 : W8.heap[eb]? = some (.cells (flatEv (V.set p noEv)).toArray 30 (0, 0)) := by rw [← hW8]; exact ev7.out
 try rw [hW8]
 have bo8 := Lib.hid ((f68.block (q2 + 1) (Array.getElem?_eq_some_iff.1 bo6.out).1 (hold _ (by have := HQ.out.1; omega))).trans bo6.out)
 have bx8 := Lib.hid ((f68.block q3 (Array.getElem?_eq_some_iff.1 bx6.out).1 (hold _ HQ.out.2)).trans bx6.out)
 have g1 : W8.heap[qb]? = w.heap[qb]? := (f68.block qb (Array.getElem?_eq_some_iff.1 hd6.out).1 HP.out.eq).trans (hd6.out.trans H.out.hd.symm)
 have hQ8 := H.out.taken (W := W8) (hv' := hv') Hy.out Hpl.out g1 (sl6.out.fr0 f68 (fun k hk e => HP.out.e (e ▸ hk))) (hp6.out.fr0 f68 (fun k hk e => by
  rcases hk with hk | hk | hk
  ·exact (HP.out.he k (.inl hk)).1 e
  ·exact (HP.out.he k (.inr (.inl hk))).1 e
  ·rcases own3.out k hk with h | h
   ·exact (HP.out.he k (.inr (.inr h))).1 e
   ·exact hold k h e)) ev8 (Nm6.out.fr0 f68 HP.out.em) own3.out
 have HQ8 := Lib.hid hQ8
 have F8 := Lib.hid (F6.out.trans (f68.mono (fun k _ hk => .inr (.inr (.inr (.inl hk))))))
 have hne : q3 ≠ q2 + 1 := by have := Hz1.out; have := Hq3.out; omega
 have hne' : q2 + 1 ≠ q3 := hne.symm
 clear hW7 hW8 f67 f68 ev7 ev8 q7 r7 g1 hQ8 hold
 have x0 := cells_in bx8.out 0
 have x1 := cells_in bx8.out 1
 have x2 := cells_in bx8.out 2
 have x3 := cells_in bx8.out 3
 have x4 := cells_in bx8.out 4
 have o0 := cells_in bo8.out 0
 have o1 := cells_in bo8.out 1
 have o2 := cells_in bo8.out 2
 have o3 := cells_in bo8.out 3
 have o4 := cells_in bo8.out 4
 simp at x0 x1 x2 x3 x4 o0 o1 o2 o3 o4
 have t0 := thaw_in bo8.out 0
 have t1 := thaw_in bo8.out 1
 have t2 := thaw_in bo8.out 2
 have t3 := thaw_in bo8.out 3
 have t4 := thaw_in bo8.out 4
 go_wp2_with fail
 have e6 := ev_set5 bo8.out (.int .i64 x.key.time) (.int .i64 x.key.source) (.int .i64 x.key.seq) (.int .i64 x.to) (.int .i64 x.value)
 have f6 : Fr0 (fun k => k = q2 + 1) W8 (((((W8.setCell ⟨q2 + 1, 0, none⟩ (.int .i64 x.key.time)).setCell ⟨q2 + 1, 1, none⟩ (.int .i64 x.key.source)).setCell ⟨q2 + 1, 2, none⟩ (.int .i64 x.key.seq)).setCell ⟨q2 + 1, 3, none⟩ (.int .i64 x.to)).setCell ⟨q2 + 1, 4, none⟩ (.int .i64 x.value)) := (((((Fr0.refl (fun k => k = q2 + 1) W8).setCell (fun _ => rfl) _).setCell (fun _ => rfl) _).setCell (fun _ => rfl) _).setCell (fun _ => rfl) _).setCell (fun _ => rfl) _
 generalize (((((W8.setCell ⟨q2 + 1, 0, none⟩ (.int .i64 x.key.time)).setCell ⟨q2 + 1, 1, none⟩ (.int .i64 x.key.source)).setCell ⟨q2 + 1, 2, none⟩ (.int .i64 x.key.seq)).setCell ⟨q2 + 1, 3, none⟩ (.int .i64 x.to)).setCell ⟨q2 + 1, 4, none⟩ (.int .i64 x.value)) = VV at e6 f6 ⊢
 have hz2 := (Array.getElem?_eq_some_iff.1 bo2.out).1
 have hfoot : ∀ k, qfoot qb sb pb hb ba eb mb hv' k → k ≠ q2 + 1 := fun k hk e => by
  have h1 : ∀ j, qfoot qb sb pb hb ba eb mb hv j → j ≠ q2 + 1 := fun j hj => by
   have := H.out.lt j hj
   have := HQ.out.1
   omega
  rcases hk with h | h | h | h | h | h | h | h
  ·exact h1 k (.inl h) e
  ·exact h1 k (.inr (.inl h)) e
  ·exact h1 k (.inr (.inr (.inl h))) e
  ·exact h1 k (.inr (.inr (.inr (.inl h)))) e
  ·exact h1 k (.inr (.inr (.inr (.inr (.inl h))))) e
  ·exact h1 k (.inr (.inr (.inr (.inr (.inr (.inl h)))))) e
  ·exact h1 k (.inr (.inr (.inr (.inr (.inr (.inr (.inl h))))))) e
  ·rcases own3s.out k h with g | g
   ·exact h1 k (.inr (.inr (.inr (.inr (.inr (.inr (.inr g))))))) e
   ·omega
 have hQV := HQ8.out.fr0 f6 (fun k hk e => hfoot k hk e)
 have fV : Fr0 (qfoot qb sb pb hb ba eb mb hv) w VV := F8.out.trans' f6 (fun k hk e => by have := HQ.out.1; omega)
 clear x0 x1 x2 x3 x4 o0 o1 o2 o3 o4
 have x0 := cells_in e6 0
 have x1 := cells_in e6 1
 have x2 := cells_in e6 2
 have x3 := cells_in e6 3
 have x4 := cells_in e6 4
 simp at x0 x1 x2 x3 x4
 exact bodyPost_ret (v := .agg #[.int .i64 x.key.time, .int .i64 x.key.source, .int .i64 x.key.seq, .int .i64 x.to, .int .i64 x.value]) (by simp [results, Tryz.results158, go_sem, x0, x1, x2, x3, x4]) rfl ⟨rfl, hv', hQV, fV, own3.out⟩
end Go.Proofs.YtieeloealklkgaaGreat

/-
  The queue: Take, Cancel.
-/
namespace Go.Proofs.YtieeloealklkgaaGreat
open Go Go.RowKit Go.ChangeMaps
attribute [local go_sem ↓] Go.wp_at_zero Go.wp_at_succ
attribute [local go_sem] Oper.semAt_some wide_fn wide_depth wide_fnR wide_depthR
variable {w : World} {qb sb pb hb ba eb mb n T : Nat} {hv : Value} {X : List Pd} {F : List Nat} {P : List Pl} {first : Int} {V : List Ev}

/-- A queue behind an act. -/
theorem QIn.grown {w' : World} {hv' : Value} {T' : Nat} {X' : List Pd} {F' : List Nat} {P' : List Pl} {first' : Int} {V' : List Ev} {E : List Ev} {ft : Nat → Prop} (h : QIn w' qb sb pb hb ba eb mb hv' n T' X' F' P' first' V') (hE : X'.map Prod.fst = E)
  (hft : ∀ k, qfoot qb sb pb hb ba eb mb hv k → ft k) (hlt : ∀ k, ft k → k < w.heap.size) (hsz : w.heap.size ≤ w'.heap.size) (own : ∀ g, hv'.ownBlock = some g → hv.ownBlock = some g ∨ w.heap.size ≤ g) : QIs w' qb n T' E (qgrow ft w w') := by
 refine ⟨sb, pb, hb, ba, eb, mb, hv', X', F', P', first', V', h, hE, fun k hk => ?_, fun k hk => ?_⟩
 ·have hl := h.lt k hk
  rcases hk with h | h | h | h | h | h | h | h
  ·exact .inl (hft k (.inl h))
  ·exact .inl (hft k (.inr (.inl h)))
  ·exact .inl (hft k (.inr (.inr (.inl h))))
  ·exact .inl (hft k (.inr (.inr (.inr (.inl h)))))
  ·exact .inl (hft k (.inr (.inr (.inr (.inr (.inl h))))))
  ·exact .inl (hft k (.inr (.inr (.inr (.inr (.inr (.inl h)))))))
  ·exact .inl (hft k (.inr (.inr (.inr (.inr (.inr (.inr (.inl h))))))))
  ·rcases own k h with g | g
   ·exact .inl (hft k (.inr (.inr (.inr (.inr (.inr (.inr (.inr g))))))))
   ·exact .inr ⟨g, hl⟩
 ·rcases hk with h | h
  ·have := hlt k h; omega
  ·exact h.2
/-- put, on a queue. -/
theorem QIs.put {E : List Ev} {ft : Nat → Prop} {x : Ev} (h : QIs w qb n T E ft) (hr : RightE x) (hn : ∀ y ∈ E, y.name ≠ x.name) (hT : T < 4294967295) (hroom : E.length < n) :
  Calls Tryz.prog 60 #[.pointer (some ⟨qb, 0, none⟩), evV x] w fun e w' => e = .returned (.tuple #[]) ∧ QIs w' qb n (T + 1) (insE x E) (qgrow ft w w') ∧ Fr0 ft w w' := by
 obtain ⟨sb, pb, hb, ba, eb, mb, hv, X, F, P, first, V, h1, rfl, h3, h4⟩ := h
 obtain ⟨p, F', rfl⟩ : ∃ p F', F = p :: F' := by
  cases F with
  | nil => have := h1.ok.count; rw [List.length_map] at hroom; simp at this; omega
  | cons p F' => exact ⟨p, F', rfl⟩
 refine (Qput_is h1 hr (fun y hy => hn _ (List.mem_map.2 ⟨y, hy, rfl⟩)) hT).mono ?_
 rintro e w' ⟨rfl, pl, hv', _, hq, hf, own⟩
 exact ⟨rfl, hq.grown (insX_fst _ _) h3 h4 hf.size own, hf.mono (fun k _ hk => h3 k hk)⟩
theorem zero_ref (w : World) : (zeroValue 161).run Tryz.prog w = .ok (refV 0 0) w := Tryz.zeroValue161 w
set_option maxHeartbeats 1000000 in
theorem QTake_nil (h : QIn w qb sb pb hb ba eb mb hv n T [] F P first V) :
  Calls Tryz.prog 156 #[.pointer (some ⟨qb, 0, none⟩)] w fun e w' => e = .returned (.tuple #[evV zeroEv, .int .i64 6]) ∧ Fr0 none' w w' := by
 have H := Lib.hid h
 clear h
 go_enter Tryz.func156, Tryz.ntmps156
 go_wp2_with fail
 obtain ⟨q, hq⟩ : ∃ q, w.heap.size = q := ⟨_, rfl⟩
 obtain ⟨W1, hW1⟩ : ∃ W, w.alloc (.cells #[.int .i64 0, .int .i64 0, .int .i64 0, .int .i64 0, .int .i64 0] 30) = W := ⟨_, rfl⟩
 have hbq := Lib.hid (show W1.heap[q]? = some (.cells #[.int .i64 0, .int .i64 0, .int .i64 0, .int .i64 0, .int .i64 0] 30 (0, 0)) by rw [← hW1, ← hq]; exact World.alloc_heap_new w _)
 have F1 := Lib.hid (show Fr0 none' w W1 by rw [← hW1]; exact (Fr0.refl _ _).alloc _)
 rw [hW1]
 try rw [hq]
 have Hq := Lib.hid hq
 clear hW1 hq
 have h1 := H.out.fr0 F1.out (fun _ _ h => h)
 have H1 := Lib.hid h1
 refine (qnone_is h1).mono ?_
 rintro e w1 ⟨rfl, rfl⟩
 clear h1
 go_wp2_with fail
 refine (QLeast_is H1.out).mono ?_
 rintro e w2 ⟨rfl, hf2⟩
 obtain ⟨z, hz⟩ : ∃ z, lstE [] = z := ⟨_, rfl⟩
 simp only [List.map_nil, hz, List.isEmpty_nil, Bool.not_true, evV]
 have hb2 := Lib.hid ((hf2.block q (Array.getElem?_eq_some_iff.1 hbq.out).1 id).trans hbq.out)
 obtain ⟨W2, hW2⟩ : ∃ W2, w2.alloc (.cells #[.int .i64 z.key.time, .int .i64 z.key.source, .int .i64 z.key.seq, .int .i64 z.to, .int .i64 z.value] 30) = W2 := ⟨_, rfl⟩
 have f2 : Fr0 none' w W2 := by rw [← hW2]; exact (F1.out.trans hf2).alloc _
 have b2 : W2.heap[q]? = some (.cells #[.int .i64 0, .int .i64 0, .int .i64 0, .int .i64 0, .int .i64 0] 30 (0, 0)) := by rw [← hW2]; exact (Below.heap_alloc _ _ _ (Array.getElem?_eq_some_iff.1 hb2.out).1).trans hb2.out
 clear hbq F1
 have F1 := Lib.hid f2
 have hbq := Lib.hid b2
 clear f2 b2 hf2 hb2 hz
 have t0 := thaw_in hbq.out 0
 have t1 := thaw_in hbq.out 1
 have t2 := thaw_in hbq.out 2
 have t3 := thaw_in hbq.out 3
 have t4 := thaw_in hbq.out 4
 have y0 := cells_in hbq.out 0
 have y1 := cells_in hbq.out 1
 have y2 := cells_in hbq.out 2
 have y3 := cells_in hbq.out 3
 have y4 := cells_in hbq.out 4
 simp at y0 y1 y2 y3 y4
 go_wp2_with fail
 clear hW2
 have e6 := ev_set5 hbq.out (.int .i64 0) (.int .i64 0) (.int .i64 0) (.int .i64 0) (.int .i64 0)
 have f6 : Fr0 none' w (((((W2.setCell ⟨q, 0, none⟩ (.int .i64 0)).setCell ⟨q, 1, none⟩ (.int .i64 0)).setCell ⟨q, 2, none⟩ (.int .i64 0)).setCell ⟨q, 3, none⟩ (.int .i64 0)).setCell ⟨q, 4, none⟩ (.int .i64 0)) := F1.out.trans' (S' := fun k => k = q) (((((Fr0.refl (fun k => k = q) W2).setCell (fun _ => rfl) _).setCell (fun _ => rfl) _).setCell (fun _ => rfl) _).setCell (fun _ => rfl) _ |>.setCell (fun _ => rfl) _) (fun k hk e => by have := Hq.out; omega)
 generalize (((((W2.setCell ⟨q, 0, none⟩ (.int .i64 0)).setCell ⟨q, 1, none⟩ (.int .i64 0)).setCell ⟨q, 2, none⟩ (.int .i64 0)).setCell ⟨q, 3, none⟩ (.int .i64 0)).setCell ⟨q, 4, none⟩ (.int .i64 0)) = VV at e6 f6 ⊢
 clear y0 y1 y2 y3 y4
 have y0 := cells_in e6 0
 have y1 := cells_in e6 1
 have y2 := cells_in e6 2
 have y3 := cells_in e6 3
 have y4 := cells_in e6 4
 simp at y0 y1 y2 y3 y4
 exact bodyPost_ret (v := .tuple #[evV zeroEv, .int .i64 6]) (by simp [results, Tryz.results156, go_sem, y0, y1, y2, y3, y4, evV, zeroEv]) rfl ⟨rfl, f6⟩
set_option maxHeartbeats 1000000 in
theorem QTake_cons {y : Pd} {r : List Pd} (h : QIn w qb sb pb hb ba eb mb hv n T (y :: r) F P first V) (hT : T < 4294967296) :
  Calls Tryz.prog 156 #[.pointer (some ⟨qb, 0, none⟩)] w fun e w' => e = .returned (.tuple #[evV y.1, .int .i64 0]) ∧ ∃ hv' F' P' first' V', QIn w' qb sb pb hb ba eb mb hv' n T (delX y.2 (y :: r)) F' P' first' V' ∧ Fr0 (qfoot qb sb pb hb ba eb mb hv) w w' ∧ ∀ g, hv'.ownBlock = some g → hv.ownBlock = some g ∨ w.heap.size ≤ g := by
 have H := Lib.hid h
 obtain ⟨x, p⟩ := y
 clear h
 go_enter Tryz.func156, Tryz.ntmps156
 go_wp2_with fail
 obtain ⟨q, hq⟩ : ∃ q, w.heap.size = q := ⟨_, rfl⟩
 obtain ⟨W1, hW1⟩ : ∃ W, w.alloc (.cells #[.int .i64 0, .int .i64 0, .int .i64 0, .int .i64 0, .int .i64 0] 30) = W := ⟨_, rfl⟩
 have hbq := Lib.hid (show W1.heap[q]? = some (.cells #[.int .i64 0, .int .i64 0, .int .i64 0, .int .i64 0, .int .i64 0] 30 (0, 0)) by rw [← hW1, ← hq]; exact World.alloc_heap_new w _)
 have F1 := Lib.hid (show Fr0 none' w W1 by rw [← hW1]; exact (Fr0.refl _ _).alloc _)
 rw [hW1]
 try rw [hq]
 have Hq := Lib.hid hq
 clear hW1 hq
 have h1 := H.out.fr0 F1.out (fun _ _ h => h)
 have H1 := Lib.hid h1
 refine (qnone_is h1).mono ?_
 rintro e w1 ⟨rfl, rfl⟩
 clear h1
 go_wp2_with fail
 refine (QLeast_is H1.out).mono ?_
 rintro e w2 ⟨rfl, hf2⟩
 simp only [List.map_cons, lstE, List.isEmpty_cons, Bool.not_false, evV]
 go_wp2_with fail
 obtain ⟨q4, hq4⟩ : ∃ q4, w2.heap.size = q4 := ⟨_, rfl⟩
 obtain ⟨W3, hW3⟩ : ∃ W, w2.alloc (.cells #[.int .i64 x.key.time, .int .i64 x.key.source, .int .i64 x.key.seq, .int .i64 x.to, .int .i64 x.value] 30) = W := ⟨_, rfl⟩
 have bx3 := Lib.hid (show W3.heap[q4]? = some (.cells #[.int .i64 x.key.time, .int .i64 x.key.source, .int .i64 x.key.seq, .int .i64 x.to, .int .i64 x.value] 30 (0, 0)) by rw [← hW3, ← hq4]; exact World.alloc_heap_new w2 _)
 have f3 : Fr0 none' W1 W3 := by rw [← hW3]; exact hf2.alloc _
 rw [hW3]
 try rw [hq4]
 have HBO := Lib.hid hbq.out
 have Hq4 := Lib.hid (show W1.heap.size ≤ q4 by rw [← hq4]; exact hf2.size)
 clear hW3 hq4 hf2
 have H3 := Lib.hid (H1.out.fr0 f3 (fun _ _ h => h))
 have bo3 := Lib.hid ((f3.block q (Array.getElem?_eq_some_iff.1 hbq.out).1 id).trans hbq.out)
 have F3 := Lib.hid (F1.out.trans f3)
 clear f3
 have Skey := Lib.hid (show ∀ W' : World, (∀ k, k = qb ∨ k = q4 → W'.heap[k]? = W3.heap[k]?) → W'.cell? ⟨qb, 3, none⟩ = some (.map (some mb)) ∧ EAt W' q4 0 x ∧ True from fun W' hf => by
  have g1 := (hf qb (.inl rfl)).trans H3.out.hd
  have g2 := (hf q4 (.inr rfl)).trans bx3.out
  refine ⟨by rw [cells_in g1]; rfl, ⟨?_, ?_, ?_, ?_, ?_⟩, trivial⟩ <;> rw [cells_in g2] <;> rfl)
 have hlt3 : ∀ k, k = qb ∨ k = q4 → k < W3.heap.size := fun k hk => by
  rcases hk with rfl | rfl
  ·exact (Array.getElem?_eq_some_iff.1 H3.out.hd).1
  ·exact (Array.getElem?_eq_some_iff.1 bx3.out).1
 refine wp_region_held_drew (S := fun W' => W'.cell? ⟨qb, 3, none⟩ = some (.map (some mb)) ∧ EAt W' q4 0 x ∧ True) (by kernel_rfl) (Skey.out _ (fun _ _ => rfl)) (fun hHeld => ?_)
 refine tkn (i := 0) (v := .pointer (some ⟨qb, 0, none⟩)) (fun W' hSW => ?_) ?_
 ·(try dsimp only at hSW)
  first | (go_simp; done) | (obtain ⟨s0, ⟨s1, s2, s3, s4, s5⟩, s6⟩ := hSW; (try simp only [Nat.zero_add] at s1 s2 s3 s4 s5); (try simp only [evV]); go_simp; done) | exact rfl | (go_simp; rfl) | (go_simp; omega)
 try simp only[pUt,pUn,sEt,sEz,sEs]
 refine tkn (i := 1) (v := .pointer (some ⟨qb, 0, none⟩)) (fun W' hSW => ?_) ?_
 ·(try dsimp only at hSW)
  first | (go_simp; done) | (obtain ⟨s0, ⟨s1, s2, s3, s4, s5⟩, s6⟩ := hSW; (try simp only [Nat.zero_add] at s1 s2 s3 s4 s5); (try simp only [evV]); go_simp; done) | exact rfl | (go_simp; rfl) | (go_simp; omega)
 try simp only[pUt,pUn,sEt,sEz,sEs]
 refine tkn (i := 2) (v := .pointer (some ⟨qb, 0, none⟩)) (fun W' hSW => ?_) ?_
 ·(try dsimp only at hSW)
  first | (go_simp; done) | (obtain ⟨s0, ⟨s1, s2, s3, s4, s5⟩, s6⟩ := hSW; (try simp only [Nat.zero_add] at s1 s2 s3 s4 s5); (try simp only [evV]); go_simp; done) | exact rfl | (go_simp; rfl) | (go_simp; omega)
 try simp only[pUt,pUn,sEt,sEz,sEs]
 refine tkn (i := 3) (v := .pointer (some ⟨qb, 3, none⟩)) (fun W' hSW => ?_) ?_
 ·(try dsimp only at hSW)
  first | (go_simp; done) | (obtain ⟨s0, ⟨s1, s2, s3, s4, s5⟩, s6⟩ := hSW; (try simp only [Nat.zero_add] at s1 s2 s3 s4 s5); (try simp only [evV]); go_simp; done) | exact rfl | (go_simp; rfl) | (go_simp; omega)
 try simp only[pUt,pUn,sEt,sEz,sEs]
 refine tkn (i := 4) (v := .map (some mb)) (fun W' hSW => ?_) ?_
 ·(try dsimp only at hSW)
  first | (go_simp; done) | (obtain ⟨s0, ⟨s1, s2, s3, s4, s5⟩, s6⟩ := hSW; (try simp only [Nat.zero_add] at s1 s2 s3 s4 s5); (try simp only [evV]); go_simp; done) | exact rfl | (go_simp; rfl) | (go_simp; omega)
 try simp only[pUt,pUn,sEt,sEz,sEs]
 refine tkn (i := 5) (v := evV x) (fun W' hSW => ?_) ?_
 ·(try dsimp only at hSW)
  first | (go_simp; done) | (obtain ⟨s0, ⟨s1, s2, s3, s4, s5⟩, s6⟩ := hSW; (try simp only [Nat.zero_add] at s1 s2 s3 s4 s5); (try simp only [evV]); go_simp; done) | exact rfl | (go_simp; rfl) | (go_simp; omega)
 try simp only[pUt,pUn,sEt,sEz,sEs]
 refine take_call (i := 6) rfl (by kernel_rfl) (by kernel_rfl) (fun K hK => ?_)
 go_simp
 refine (of_any x _).mono ?_
 rintro e W5 ⟨rfl, f35'⟩
 have f35 : Fr0 none' W3 W5 := (Fr0.refl none' W3).drew.trans f35'
 have h5 := H3.out.fr0 f35 (fun _ _ h => h)
 have hy5 : (x, p) ∈ (x, p) :: r := List.mem_cons_self
 obtain ⟨pl, hpl, htk⟩ := h5.ok.tk _ hy5
 obtain ⟨hi1, hi2⟩ := rightE_i64 (h5.right _ hy5)
 obtain ⟨kl, hkl⟩ := name_key_is hi1 hi2
 have hlook := (h5.nm.look (Go.Maps.Keyed.of_law name_law) Tryz.underlying40 (zero_ref W5) hy5 hkl).2
 rw [lifeP_at hpl] at hlook
 have HRem := Lib.hid (Qremove_is h5 hy5 hpl hT)
 simp only at HRem
 have Hlook := Lib.hid (show (Instr.lookup 40 (.map (some mb)) (nameV x.name) false).run Tryz.prog W5 = .ok (.agg #[.int .i64 p, .int .i64 pl.life]) W5 from hlook)
 have hS5 := Skey.out W5 (fun k hk => f35.block k (hlt3 k hk) id)
 have H5 := Lib.hid h5
 have F5 := Lib.hid (F3.out.trans f35)
 have bo5 := Lib.hid ((f35.block q (Array.getElem?_eq_some_iff.1 bo3.out).1 id).trans bo3.out)
 have F35 := Lib.hid f35
 have Hlt3 := Lib.hid hlt3
 refine hK.out _ _ hS5 (fun hHeld2 => ?_)
 clear hK K f35' f35 h5 hlook hkl hi1 hi2 hpl htk hlt3
 try simp only[pUt,pUn,sEt,sEz,sEs]
 refine take_call (i := 7) rfl (by kernel_rfl) (by kernel_rfl) (fun K hK => ?_)
 have hlook := Hlook.out
 go_simp
 refine hK.out _ _ hS5 (fun hHeld3 => ?_)
 clear hK K hlook
 try simp only[pUt,pUn,sEt,sEz,sEs]
 refine take_call (i := 8) rfl (by kernel_rfl) (by kernel_rfl) (fun K hK => ?_)
 go_simp
 refine HRem.out.mono ?_
 rintro e W7 ⟨rfl, hv', hQ7, f57, own7⟩
 have hold : ∀ k, w.heap.size ≤ k → ¬ qfoot qb sb pb hb ba eb mb hv k := fun k hk hf => by have := H.out.lt k hf; omega
 have hq0 : w.heap.size ≤ q := by have := Hq.out; omega
 have hq4 : w.heap.size ≤ q4 := by have := Hq4.out; have := F1.out.size; omega
 have hqq : q ≠ q4 := by have := Hq4.out; have := (Array.getElem?_eq_some_iff.1 HBO.out).1; omega
 have hl5 : ∀ k, k < W3.heap.size → k < W5.heap.size := fun k hk => by have := F35.out.size; omega
 have hk7 : ∀ k, k = qb ∨ k = q4 → W7.heap[k]? = W3.heap[k]? := fun k hk => by
  rcases hk with rfl | rfl
  ·exact hQ7.hd.trans H3.out.hd.symm
  ·have h1 := Hlt3.out _ (.inr rfl)
   exact (f57.block _ (hl5 _ h1) (hold _ hq4)).trans (F35.out.block _ h1 id)
 have bo7 := Lib.hid ((f57.block q (Array.getElem?_eq_some_iff.1 bo5.out).1 (hold _ hq0)).trans bo5.out)
 have hS7 := Skey.out W7 hk7
 have HQ7 := Lib.hid hQ7
 have F7 := Lib.hid ((F5.out.mono (fun _ _ h => h.elim)).trans f57)
 have own7 := Lib.hid (show ∀ g, hv'.ownBlock = some g → hv.ownBlock = some g ∨ W5.heap.size ≤ g from own7)
 refine hK.out _ _ hS7 (fun hHeld4 => ?_)
 clear hK K
 try simp only[pUt,pUn,sEt,sEz,sEs]
 have y0 := cells_in bo7.out 0
 have y1 := cells_in bo7.out 1
 have y2 := cells_in bo7.out 2
 have y3 := cells_in bo7.out 3
 have y4 := cells_in bo7.out 4
 simp at y0 y1 y2 y3 y4
 have t0 := thaw_in bo7.out 0
 have t1 := thaw_in bo7.out 1
 have t2 := thaw_in bo7.out 2
 have t3 := thaw_in bo7.out 3
 have t4 := thaw_in bo7.out 4
 refine take_call (i := 9) rfl (by kernel_rfl) (by kernel_rfl) (fun K hK => ?_)
 simp only [evV]
 go_simp
 obtain ⟨W8, hW8⟩ : ∃ W, (((((W7.setCell ⟨q, 0, none⟩ (.int .i64 x.key.time)).setCell ⟨q, 1, none⟩ (.int .i64 x.key.source)).setCell ⟨q, 2, none⟩ (.int .i64 x.key.seq)).setCell ⟨q, 3, none⟩ (.int .i64 x.to)).setCell ⟨q, 4, none⟩ (.int .i64 x.value)) = W := ⟨_, rfl⟩
 try rw [hW8]
 have e8 : W8.heap[q]? = some (.cells #[.int .i64 x.key.time, .int .i64 x.key.source, .int .i64 x.key.seq, .int .i64 x.to, .int .i64 x.value] 30 (0, 0)) := by rw [← hW8]; exact ev_set5 bo7.out _ _ _ _ _
 have f78 : Fr0 (fun k => k = q) W7 W8 := by rw [← hW8]; exact (((((Fr0.refl (fun k => k = q) W7).setCell (fun _ => rfl) _).setCell (fun _ => rfl) _).setCell (fun _ => rfl) _).setCell (fun _ => rfl) _).setCell (fun _ => rfl) _
 have hl7 : ∀ k, k = qb ∨ k = q4 → k < W7.heap.size := fun k hk => by have h1 := hl5 _ (Hlt3.out k hk); have h2 := f57.size; omega
 have hS8 := Skey.out W8 (fun k hk => (f78.block k (hl7 k hk) (fun e => by
  rcases hk with rfl | rfl
  ·have := H.out.lt k (.inl rfl); omega
  ·exact hqq e.symm)).trans (hk7 k hk))
 refine hK.out _ _ hS8 (fun hHeld5 => ?_)
 clear hK K y0 y1 y2 y3 y4 t0 t1 t2 t3 t4
 try simp only[pUt,pUn,sEt,sEz,sEs]
 refine take_call (i := 10) rfl (by kernel_rfl) (by kernel_rfl) (fun K hK => ?_)
 go_simp
 refine hK.out _ _ hS8 (fun hHeld6 => ?_)
 clear hK K
 try simp only[pUt,pUn,sEt,sEz,sEs]
 refine wpAnyH_done (by kernel_rfl) ?_ _
 have hQ8 := HQ7.out.fr0 f78 (fun k hk e => by
  have h1 : ∀ j, qfoot qb sb pb hb ba eb mb hv j → j ≠ q := fun j hj => by
   have := H.out.lt j hj
   omega
  rcases hk with h | h | h | h | h | h | h | h
  ·exact h1 k (.inl h) e
  ·exact h1 k (.inr (.inl h)) e
  ·exact h1 k (.inr (.inr (.inl h))) e
  ·exact h1 k (.inr (.inr (.inr (.inl h)))) e
  ·exact h1 k (.inr (.inr (.inr (.inr (.inl h))))) e
  ·exact h1 k (.inr (.inr (.inr (.inr (.inr (.inl h)))))) e
  ·exact h1 k (.inr (.inr (.inr (.inr (.inr (.inr (.inl h))))))) e
  ·rcases own7.out k h with g | g
   ·exact h1 k (.inr (.inr (.inr (.inr (.inr (.inr (.inr g))))))) e
   ·have := hl5 _ (Array.getElem?_eq_some_iff.1 bo3.out).1; omega)
 have f8 : Fr0 (qfoot qb sb pb hb ba eb mb hv) w W8 := F7.out.trans' f78 (fun k hk e => by omega)
 have own8 : ∀ g, hv'.ownBlock = some g → hv.ownBlock = some g ∨ w.heap.size ≤ g := fun g hg => (own7.out g hg).imp id (fun h => Nat.le_trans F5.out.size h)
 clear hS5 hS7 hS8 hHeld hHeld2 hHeld3 hHeld4 hHeld5 hHeld6 hk7 hl7 hl5
 go_wp2_with fail
 have y0 := cells_in e8 0
 have y1 := cells_in e8 1
 have y2 := cells_in e8 2
 have y3 := cells_in e8 3
 have y4 := cells_in e8 4
 simp at y0 y1 y2 y3 y4
 exact bodyPost_ret (v := .tuple #[evV x, .int .i64 0]) (by simp [results, Tryz.results156, go_sem, y0, y1, y2, y3, y4, evV]) rfl ⟨rfl, hv', _, _, _, _, hQ8, f8, own8⟩
end Go.Proofs.YtieeloealklkgaaGreat

/-
  The queue: Cancel, Find.
-/
namespace Go.Proofs.YtieeloealklkgaaGreat
open Go Go.RowKit Go.ChangeMaps
attribute [local go_sem ↓] Go.wp_at_zero Go.wp_at_succ
attribute [local go_sem] Oper.semAt_some wide_fn wide_depth wide_fnR wide_depthR
variable {w : World} {qb sb pb hb ba eb mb n T : Nat} {hv : Value} {X : List Pd} {F : List Nat} {P : List Pl} {first : Int} {V : List Ev}


theorem QIs.take {E : List Ev} {ft : Nat → Prop} (h : QIs w qb n T E ft) (hT : T < 4294967296) :
  Calls Tryz.prog 156 #[.pointer (some ⟨qb, 0, none⟩)] w fun e w' => e = .returned (.tuple #[evV (lstE E), .int .i64 (if E = [] then 6 else 0)]) ∧ QIs w' qb n T E.tail (qgrow ft w w') ∧ Fr0 ft w w' := by
 obtain ⟨sb, pb, hb, ba, eb, mb, hv, X, F, P, first, V, h1, rfl, h3, h4⟩ := h
 cases X with
 | nil =>
  refine (QTake_nil h1).mono ?_
  rintro e w' ⟨rfl, hf⟩
  exact ⟨rfl, (h1.fr0 hf (fun _ _ h => h)).grown rfl h3 h4 hf.size (fun g hg => .inl hg), hf.mono (fun _ _ h => h.elim)⟩
 | cons y r =>
  refine (QTake_cons h1 hT).mono ?_
  rintro e w' ⟨rfl, hv', F', P', first', V', hq, hf, own⟩
  refine ⟨by simp [lstE], hq.grown ?_ h3 h4 hf.size own, hf.mono (fun k _ hk => h3 k hk)⟩
  rw [delX_fst h1.once h1.ok.snd List.mem_cons_self]
  exact delE_first h1.once
theorem QIs.least {E : List Ev} {ft : Nat → Prop} (h : QIs w qb n T E ft) : Calls Tryz.prog 159 #[.pointer (some ⟨qb, 0, none⟩)] w fun e w' => e = .returned (.tuple #[evV (lstE E), .bool !E.isEmpty]) ∧ Fr0 none' w w' := by
 obtain ⟨sb, pb, hb, ba, eb, mb, hv, X, F, P, first, V, h1, rfl, h3, h4⟩ := h
 refine (QLeast_is h1).mono ?_
 rintro e w' ⟨rfl, hf⟩
 exact ⟨by simp, hf⟩
theorem QIs.all {E : List Ev} {ft : Nat → Prop} (h : QIs w qb n T E ft) : Calls Tryz.prog 20 #[.pointer (some ⟨qb, 0, none⟩)] w fun e w' => ∃ v, e = .returned v ∧ w'.ownsRow w.heap.size 30 5 v E.length (flatEv E) ∧ Fr0 none' w w' := by
 obtain ⟨sb, pb, hb, ba, eb, mb, hv, X, F, P, first, V, h1, rfl, h3, h4⟩ := h
 refine (QAll_is h1).mono ?_
 rintro e w' ⟨v, rfl, hr, hf⟩
 rw [List.length_map]
 exact ⟨v, rfl, hr, hf⟩
theorem QIs.len {E : List Ev} {ft : Nat → Prop} (h : QIs w qb n T E ft) : Calls Tryz.prog 155 #[.pointer (some ⟨qb, 0, none⟩)] w fun e w' => e = .returned (.int .i64 (E.length : Nat)) ∧ w = w' := by
 obtain ⟨sb, pb, hb, ba, eb, mb, hv, X, F, P, first, V, h1, rfl, h3, h4⟩ := h
 refine (QLen_is h1).mono ?_
 rintro e w' ⟨rfl, rfl⟩
 exact ⟨by rw [List.length_map], rfl⟩
theorem QIs.room {E : List Ev} {ft : Nat → Prop} (h : QIs w qb n T E ft) : Calls Tryz.prog 59 #[.pointer (some ⟨qb, 0, none⟩)] w fun e w' => e = .returned (.int .i64 (n - E.length : Nat)) ∧ Fr0 none' w w' := by
 obtain ⟨sb, pb, hb, ba, eb, mb, hv, X, F, P, first, V, h1, rfl, h3, h4⟩ := h
 refine (QRoom_is h1).mono ?_
 rintro e w' ⟨rfl, hf⟩
 exact ⟨by rw [List.length_map], hf⟩
theorem QIs.le {E : List Ev} {ft : Nat → Prop} (h : QIs w qb n T E ft) : E.length ≤ n ∧ n ≤ 256 := by
 obtain ⟨sb, pb, hb, ba, eb, mb, hv, X, F, P, first, V, h1, rfl, h3, h4⟩ := h
 have := h1.ok.count
 have := h1.n256
 rw [List.length_map]
 omega
theorem QIs.good {E : List Ev} {ft : Nat → Prop} (h : QIs w qb n T E ft) : AscE E ∧ OnceE E ∧ ∀ x ∈ E, RightE x := by
 obtain ⟨sb, pb, hb, ba, eb, mb, hv, X, F, P, first, V, h1, rfl, h3, h4⟩ := h
 refine ⟨h1.asc, h1.once, fun x hx => ?_⟩
 obtain ⟨y, hy, rfl⟩ := List.mem_map.1 hx
 exact h1.right y hy
theorem QIs.lt {E : List Ev} {ft : Nat → Prop} (h : QIs w qb n T E ft) : ∀ k, ft k → k < w.heap.size := by
 obtain ⟨sb, pb, hb, ba, eb, mb, hv, X, F, P, first, V, h1, rfl, h3, h4⟩ := h
 exact h4
theorem QIs.mono {T' : Nat} {E : List Ev} {ft : Nat → Prop} (h : QIs w qb n T E ft) (hT : T ≤ T') : QIs w qb n T' E ft := by
 obtain ⟨sb, pb, hb, ba, eb, mb, hv, X, F, P, first, V, h1, h2, h3, h4⟩ := h
 exact ⟨sb, pb, hb, ba, eb, mb, hv, X, F, P, first, V, { h1 with ok := h1.ok.mono hT }, h2, h3, h4⟩
end Go.Proofs.YtieeloealklkgaaGreat
